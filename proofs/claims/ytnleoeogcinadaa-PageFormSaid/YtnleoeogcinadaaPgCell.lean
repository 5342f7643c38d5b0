/- The program's Room and Cell, of any 256 bytes; no condition. -/
import Derived.Test.YtnleoeogcinadaaPgRead
import Derived.Test.YtnleoeogcinadaaPgNew
namespace Go.Proofs.Ytnleoeogcinadaa
open Go.RowKit
attribute [local go_sem ↓] load26 store26 alloc26 build26 slice26lo load62 store62

theorem rdCells_facts (l : List Int) (hl : l.length = 256) : ∀ (ns : List Int) (a : Nat) (q : List ByteArray × Nat), rdCells l a ns = some q → q.1.length = ns.length ∧ ∀ c ∈ q.1, 1 ≤ c.size ∧ c.size ≤ 60
  | [], a, q, h => by
    simp [rdCells] at h
    subst h
    simp
  | n :: r, a, q, h => by
    unfold rdCells at h
    by_cases hb : n < 1 ∨ 60 < n ∨ 256 < (a : Int) + n
    · rw [if_pos hb] at h; cases h
    · rw [if_neg hb] at h
      cases hr : rdCells l (a + n.toNat) r with
      | none => rw [hr] at h; cases h
      | some p =>
        rw [hr] at h
        simp only [Option.map_some, Option.some.injEq] at h
        subst h
        obtain ⟨h1, h2⟩ := rdCells_facts l hl r _ p hr
        refine ⟨by simp [h1], fun c hc => ?_⟩
        rcases List.mem_cons.1 hc with rfl | hc
        · rw [strOf_size]
          unfold subL
          rw [List.length_take, List.length_drop]
          omega
        · exact h2 c hc
theorem readF_facts {l : List Int} (hB : Bytes l) {kind link : Int} {cs : List ByteArray} (h : readF l = some (kind, link, cs)) :
    cs.length ≤ 250 ∧ (∀ c ∈ cs, 1 ≤ c.size ∧ c.size ≤ 60) ∧ 0 ≤ kind ∧ kind ≤ 5 ∧ 0 ≤ link ∧ link < 4294967296 := by
  have r1 := hB.rng 1
  have r0 := hB.rng 0
  have rb := beL_bd l hB.rng 4
  unfold readF at h
  by_cases hb : 5 < at_ l 0 ∨ 256 < 6 + at_ l 1
  · rw [if_pos hb] at h; cases h
  · rw [if_neg hb] at h
    cases hr : rdCells l (6 + (at_ l 1).toNat) (subL l 6 (at_ l 1).toNat) with
    | none => rw [hr] at h; cases h
    | some q =>
      rw [hr] at h
      simp only at h
      split at h
      · simp only [Option.some.injEq, Prod.mk.injEq] at h
        obtain ⟨rfl, rfl, rfl⟩ := h
        obtain ⟨h1, h2⟩ := rdCells_facts l hB.len _ _ _ hr
        refine ⟨?_, h2, r0.1, by omega, rb.1, by simpa using rb.2⟩
        rw [h1]
        unfold subL
        rw [List.length_take]
        omega
      · cases h
theorem own_Sl {w : World} {base n : Nat} {A : Option Addr} {cap : Nat} {cs : List ByteArray} (h : w.ownsRow base 9 1 (.slice A n cap) n (cs.map Value.string)) (hl : cs.length = n) : Sl w A n cs := by
  refine ⟨hl, fun hn => ?_⟩
  obtain ⟨g, rfl, hb, hlt⟩ := own_at h hn
  refine ⟨g, 0, rfl, hlt, fun k hk => ?_⟩
  rcases h.2 with ⟨h0, _⟩ | ⟨g', cap', cur, hv, hb', hh, h1, h2, h3, h4⟩
  · cases h0
  · simp only [Value.slice.injEq, Option.some.injEq, Addr.mk.injEq] at hv
    obtain ⟨⟨rfl, _⟩, _, rfl⟩ := hv
    rw [cell_of_row w g (0 + k) cur 9 (0, 0) hh]
    have hkc : k < cur.size := by omega
    have e : (cur.toList.take (n * 1))[k]? = (cs.map Value.string)[k]? := by rw [h4]
    rw [List.getElem?_take_of_lt (by omega)] at e
    simp only [Nat.zero_add]
    rw [← Array.getElem?_toList, e, List.getElem?_map]
    simp [show k < cs.length by omega]
def body3 (kind link : Int) (A : Option Addr) (n cap : Nat) : Array Value := #[.int .u8 kind, .int .u32 link, .slice A n cap]
theorem ReadPost.none {w w' : World} {e : Ending} (h : ReadPost w none e w') : Kp NoB w w' ∧ e = .returned (.tuple #[.agg #[.int .u8 0, .int .u32 0, .slice none 0 0], .bool false]) := by
  refine ⟨h.1, ?_⟩
  rcases h.2 with q | ⟨_, _, _, _, q, _⟩
  · exact q.2
  · cases q
theorem ReadPost.some {w w' : World} {e : Ending} {kind link : Int} {cs : List ByteArray} (h : ReadPost w (some (kind, link, cs)) e w') :
    Kp NoB w w' ∧ ∃ A cap, e = .returned (.tuple #[.agg #[.int .u8 kind, .int .u32 link, .slice A cs.length cap], .bool true]) ∧ w'.ownsRow w.heap.size 9 1 (.slice A cs.length cap) cs.length (cs.map Value.string) ∧ Sl w' A cs.length cs := by
  refine ⟨h.1, ?_⟩
  rcases h.2 with q | ⟨_, _, _, v, q, rfl, ho⟩
  · cases q.1
  · simp only [Option.some.injEq, Prod.mk.injEq] at q
    obtain ⟨rfl, rfl, rfl⟩ := q
    obtain ⟨A, cap, rfl⟩ := own_slice ho
    exact ⟨A, cap, rfl, ho, own_Sl ho rfl⟩

def roomF : Option (Int × Int × List ByteArray) → Int
  | none => 0
  | some (_, _, cs) => roomI cs
def cellF (r : Option (Int × Int × List ByteArray)) (i : Int) : ByteArray × Int :=
  match r with
  | none => (ByteArray.empty, 8)
  | some (_, _, cs) => if i < 0 ∨ (cs.length : Int) ≤ i then (ByteArray.empty, 4) else (cs.getD i.toNat ByteArray.empty, 0)

set_option maxRecDepth 100000 in
set_option maxHeartbeats 1600000 in
theorem Room_ok (w : World) (l : List Int) (hB : Bytes l) : Calls Try.prog 17 #[.agg (bytesV l)] w fun e w' => e = .returned (.int .i64 (roomF (readF l))) ∧ Kp NoB w w' := by
  have HB := Lib.hid hB
  have hb1 : Blk (w.alloc (.cells (bytesV l) 26)) w.heap.size 26 (bytesV l) := Blk.new _ _ _
  have t1 := hb1.thereAll 256 (by rw [bytesV_size]; exact hB.len)
  have r1 := hb1.readAll 256 (by rw [bytesV_size]; exact hB.len)
  clear hB hb1
  obtain ⟨r, hr⟩ : ∃ r, readF l = r := ⟨_, rfl⟩
  have HR := Lib.hid hr
  rw [hr]
  clear hr
  have on3 : ones #[.int .u8 0, .int .u32 0, .slice none 0 0] := by unfold ones; simp [Value.oneCell']
  rcases r with _ | ⟨kind, link, cs⟩
  · go_enter Try.func17, Try.ntmps17
    go_wp2_with (go_at_call 32; go_must (refine (read_ok _ l HB.out).mono ?_); rintro e w2 hq; rw [HR.out] at hq; obtain ⟨hk2, rfl⟩ := hq.none; clear hq; have HK := Lib.hid hk2; have th := (Blk.new w2 62 #[.int .u8 0, .int .u32 0, .slice none 0 0]).thereAll 3 rfl; clear hk2)
    go_ret
    exact ⟨rfl, Kp.setCells (.inl (by have := HK.out.size; simp at this; omega)) _ _ _ ((((Kp.refl _ _).alloc _).trans HK.out (fun _ _ q => q)).alloc _)⟩
  · have HF := Lib.hid (readF_facts HB.out HR.out)
    go_enter Try.func17, Try.ntmps17
    go_wp2_with (first
      | (go_at_call 32; go_must (refine (read_ok _ l HB.out).mono ?_); rintro e w2 hq; rw [HR.out] at hq; obtain ⟨hk2, A, cap, rfl, ho, hs⟩ := hq.some; clear hq ho; have HK := Lib.hid hk2; have HS := Lib.hid hs; have hb := (Blk.new w2 62 #[.int .u8 0, .int .u32 0, .slice none 0 0]); have th := hb.thereAll 3 rfl; have hb3 := hb.whole (body3 kind link A cs.length cap) rfl; have th3 := hb3.thereAll 3 rfl; have rd3 := hb3.readAll 3 rfl; have on4 : ones (body3 kind link A cs.length cap) := (by unfold ones body3; simp [Value.oneCell']); unfold body3 at th3 rd3 on4; clear hk2 hs hb hb3)
      | (go_at_call 33; go_must (refine (room_ok _ kind link A cs.length cap cs (by have := HF.out.1; omega) (fun c hc => (HF.out.2.1 c hc).2) (HS.out.keep (Kp.setCells (.inl (Nat.le_refl _)) _ _ _ ((Kp.refl _ _).alloc _)))).mono ?_); rintro e w3 ⟨rfl, hk3⟩; have HK3 := Lib.hid hk3; clear hk3))
    go_ret
    exact ⟨rfl, ((((Kp.refl _ _).alloc _).trans HK.out (fun _ _ q => q)).trans (Kp.setCells (S := NoB) (.inl (Nat.le_refl _)) _ _ _ ((Kp.refl NoB _).alloc _)) (fun _ _ q => q)).trans HK3.out (fun _ _ q => q)⟩
end Go.Proofs.Ytnleoeogcinadaa
