/- The program's Delete; no condition. -/
import Derived.Test.YtnleoeogcinadaaPgA
import Derived.Test.YtnleoeogcinadaaPgDel
namespace Go.Proofs.Ytnleoeogcinadaa
open Go.RowKit
attribute [local go_sem ↓] load26 store26 alloc26 build26 slice26lo load62 store62
attribute [local go_sem] size_setCells

theorem body3_noStr (k l : Int) (A : Option Addr) (n cap : Nat) {i : Nat} {s : ByteArray} (h : (body3 k l A n cap)[i]? = some (.string s)) : False := by
  unfold body3 at h
  match i, h with
  | 0, h => simp at h
  | 1, h => simp at h
  | 2, h => simp at h
  | n + 3, h => simp at h
/-- a body's cells are no texts' cells -/
theorem Sl.setBody {w : World} {A : Option Addr} {n : Nat} {xs : List ByteArray} {gb o : Nat} {k l : Int} {B : Option Addr} {m cap : Nat} (h : Sl w A n xs) (hb : Blk w gb 62 (body3 k l B m cap)) (v : Value) : Sl (w.setCell ⟨gb, o, none⟩ v) A n xs := by
  refine ⟨h.1, fun hn => ?_⟩
  obtain ⟨g', o', e, hg, hc⟩ := h.2 hn
  have hne : ¬ OnB gb g' := by
    intro q
    unfold OnB at q
    subst q
    have h0 := hc 0 hn
    rw [hb.cell] at h0
    exact body3_noStr _ _ _ _ _ h0
  have kk := Kp.setCell (S := OnB gb) (p := ⟨gb, o, none⟩) (Kp.refl _ w) (.inr rfl) v
  exact ⟨g', o', e, Nat.lt_of_lt_of_le hg kk.size, fun j hj => (kk.cell hg hne).trans (hc j hj)⟩
theorem own_lt {w : World} {base n cap : Nat} {g : Nat} {xs : List Value} (h : w.ownsRow base 9 1 (.slice (some ⟨g, 0, none⟩) n cap) n xs) : g < w.heap.size ∧ base ≤ g := by
  rcases h.2 with ⟨h0, _⟩ | ⟨g', cap', cur, hv, hb, hh, _⟩
  · cases h0
  · simp only [Value.slice.injEq, Option.some.injEq, Addr.mk.injEq] at hv
    obtain ⟨⟨rfl, -, -⟩, _, rfl⟩ := hv
    exact ⟨lt_of_heap hh, hb⟩
theorem del_at (w : World) (base : Nat) (g n cap i : Nat) (j : Int) (hj : j = (i : Int) + 1) (xs : List ByteArray) (hi : i < n)
    (ho : w.ownsRow base 9 1 (.slice (some ⟨g, 0, none⟩) n cap) n (xs.map Value.string)) :
    Calls Try.prog 37 #[.slice (some ⟨g, 0, none⟩) n cap, .int .i64 i, .int .i64 j] w (InsPost w (.slice (some ⟨g, 0, none⟩) n cap) (n - 1) (xs.take i ++ xs.drop (i + 1))) := by
  subst hj
  exact del_ok w base g n cap i xs hi ho
def delF (l : List Int) (i : Int) : Array Value × Int :=
  match readF l with
  | none => (zero256, 8)
  | some (k, lk, cs) => if i < 0 ∨ (cs.length : Int) ≤ i then (zero256, 4) else toldR k lk (cs.take i.toNat ++ cs.drop (i.toNat + 1))
set_option maxRecDepth 100000 in
set_option maxHeartbeats 4000000 in
theorem Delete_none (w : World) (l : List Int) (hB : Bytes l) (i : Int) (hr : readF l = none) : Calls Try.prog 25 #[.agg (bytesV l), .int .i64 i] w (PagePost w (zero256, 8)) := by
  have HB := Lib.hid hB
  have hb1 := (Blk.new w 26 (bytesV l)).alloc (.cells zero256 26)
  have hz1 : Blk ((w.alloc (.cells (bytesV l) 26)).alloc (.cells zero256 26)) (w.heap.size + 1) 26 zero256 := Blk.newAt _ _ _ _ (by simp)
  have HZ1 := Lib.hid hz1
  have t1 := hb1.thereAll 256 (by rw [bytesV_size]; exact hB.len)
  have r1 := hb1.readAll 256 (by rw [bytesV_size]; exact hB.len)
  have HR := Lib.hid hr
  have zsz := zero256_size
  have zon := zero256_one
  have on3 : ones #[.int .u8 0, .int .u32 0, .slice none 0 0] := by unfold ones; simp [Value.oneCell']
  clear hb1 hz1 hB hr
  go_enter Try.func25, Try.ntmps25
  go_wp2_with (go_at_call 32; go_must (refine (read_ok _ l HB.out).mono ?_); rintro e w2 hq; rw [HR.out] at hq; obtain ⟨hk, rfl⟩ := hq.none; have kk := Kp.setCells (S := NoB) (g := w2.heap.size) (.inl (Nat.le_refl _)) (#[.int .u8 0, .int .u32 0, .slice none 0 0] : Array Value).toList 0 _ ((Kp.refl NoB w2).alloc (.cells #[.int .u8 0, .int .u32 0, .slice none 0 0] 62)); have hb := Blk.new w2 62 #[.int .u8 0, .int .u32 0, .slice none 0 0]; have thn := hb.thereAll 3 rfl; have HKK := Lib.hid (hk.trans kk (fun _ _ q => q)); have tz := (HZ1.out.keep (hk.trans kk (fun _ _ q => q)) (fun q => q)).thereAll 256 zsz; clear hk kk hb)
  refine bodyPost_ret (ret_cell_tmp rfl _ _ _ _ _ _ rfl ((HZ1.out.keep HKK.out (fun q => q)).whole zero256 rfl) Try.underlying26 rfl (by rw [zero256_size]; exact info26) _ rfl) rfl ?_
  exact ⟨rfl, Kp.setCells (.inl (by omega)) _ _ _ ((((Kp.refl NoB w).alloc _).alloc _).trans HKK.out (fun _ _ q => q))⟩
set_option maxRecDepth 100000 in
set_option maxHeartbeats 4000000 in
theorem Delete_idx (w : World) (l : List Int) (hB : Bytes l) (i : Int) {k l0 : Int} {cs : List ByteArray} (hr : readF l = some (k, l0, cs)) (hbad : i < 0 ∨ (cs.length : Int) ≤ i) : Calls Try.prog 25 #[.agg (bytesV l), .int .i64 i] w (PagePost w (zero256, 4)) := by
  have HB := Lib.hid hB
  have hb1 := (Blk.new w 26 (bytesV l)).alloc (.cells zero256 26)
  have hz1 : Blk ((w.alloc (.cells (bytesV l) 26)).alloc (.cells zero256 26)) (w.heap.size + 1) 26 zero256 := Blk.newAt _ _ _ _ (by simp)
  have HZ1 := Lib.hid hz1
  have t1 := hb1.thereAll 256 (by rw [bytesV_size]; exact hB.len)
  have r1 := hb1.readAll 256 (by rw [bytesV_size]; exact hB.len)
  have HR := Lib.hid hr
  have zsz := zero256_size
  have zon := zero256_one
  have on3 : ones #[.int .u8 0, .int .u32 0, .slice none 0 0] := by unfold ones; simp [Value.oneCell']
  clear hb1 hz1 hB hr
  rcases (show i < 0 ∨ (0 ≤ i ∧ (cs.length : Int) ≤ i) by omega) with q | ⟨q0, q⟩
  all_goals
    clear hbad
    go_enter Try.func25, Try.ntmps25
    go_wp2_with (go_at_call 32; go_must (refine (read_ok _ l HB.out).mono ?_); rintro e w2 hq; rw [HR.out] at hq; obtain ⟨hk, A, cap, rfl, ho, hs⟩ := hq.some; have hb := Blk.new w2 62 #[.int .u8 0, .int .u32 0, .slice none 0 0]; have thn := hb.thereAll 3 rfl; have hb3 := hb.whole (body3 k l0 A cs.length cap) rfl; have on4 : ones (body3 k l0 A cs.length cap) := (by unfold ones body3; simp [Value.oneCell']); have c2 := cellAt (v := .slice A cs.length cap) hb3 2 rfl; have hk0 := Kp.setCells (S := NoB) (g := w2.heap.size) (.inl (Nat.le_refl _)) (body3 k l0 A cs.length cap).toList 0 _ ((Kp.refl NoB w2).alloc (.cells #[.int .u8 0, .int .u32 0, .slice none 0 0] 62)); have hkk := hk.trans hk0 (fun _ _ q => q); have HB3 := Lib.hid hb3; have hown := own_keepB ho hk0 (fun _ _ q => q); have HOWN := Lib.hid hown; have HLT := Lib.hid (True.intro); have tz := (HZ1.out.keep (hk.trans hk0 (fun _ _ q => q)) (fun q => q)).thereAll 256 zsz; unfold body3 at on4 c2 hkk tz; have HKK := Lib.hid hkk; clear hk hb hb3 hk0 ho hs hown hkk)
    refine bodyPost_ret (ret_cell_tmp rfl _ _ _ _ _ _ rfl ((HZ1.out.keep HKK.out (fun q => q)).whole zero256 rfl) Try.underlying26 rfl (by rw [zero256_size]; exact info26) _ rfl) rfl ?_
    exact ⟨rfl, Kp.setCells (.inl (by omega)) _ _ _ ((((Kp.refl NoB w).alloc _).alloc _).trans HKK.out (fun _ _ q => q))⟩
set_option maxRecDepth 100000 in
set_option maxHeartbeats 4000000 in
theorem Delete_main (w : World) (l : List Int) (hB : Bytes l) (i : Nat) {k l0 : Int} {cs : List ByteArray} (hr : readF l = some (k, l0, cs)) (hi : i < cs.length) : Calls Try.prog 25 #[.agg (bytesV l), .int .i64 i] w (PagePost w (toldR k l0 (cs.take i ++ cs.drop (i + 1)))) := by
  have HB := Lib.hid hB
  have hb1 := (Blk.new w 26 (bytesV l)).alloc (.cells zero256 26)
  have hz1 : Blk ((w.alloc (.cells (bytesV l) 26)).alloc (.cells zero256 26)) (w.heap.size + 1) 26 zero256 := Blk.newAt _ _ _ _ (by simp)
  have HZ1 := Lib.hid hz1
  have t1 := hb1.thereAll 256 (by rw [bytesV_size]; exact hB.len)
  have r1 := hb1.readAll 256 (by rw [bytesV_size]; exact hB.len)
  have HR := Lib.hid hr
  have zsz := zero256_size
  have zon := zero256_one
  have on3 : ones #[.int .u8 0, .int .u32 0, .slice none 0 0] := by unfold ones; simp [Value.oneCell']
  have hfa := readF_facts hB hr
  have hc250 := hfa.1
  have H60 : Hid (∀ c ∈ cs.take i ++ cs.drop (i + 1), 1 ≤ c.size ∧ c.size ≤ 60) := Lib.hid (fun c hc => (List.mem_append.1 hc).elim (fun q => hfa.2.1 c (List.mem_of_mem_take q)) (fun q => hfa.2.1 c (List.mem_of_mem_drop q)))
  have hpg := PgA.told k l0 (cs.take i ++ cs.drop (i + 1))
  obtain ⟨Z, code, hT⟩ : ∃ Z code, toldR k l0 (cs.take i ++ cs.drop (i + 1)) = (Z, code) := ⟨_, _, rfl⟩
  rw [hT] at hpg ⊢
  have HT := Lib.hid hT
  have sZ := hpg.s
  have oZ := hpg.o
  have h0 : ¬ ((i : Int) < 0) := by omega
  have h1 : ¬ ((cs.length : Int) ≤ (i : Int)) := by omega
  have h2 : (i : Int) < (cs.length : Int) := by omega
  have hw : IntKind.i64.wrap ((i : Int) + 1) = (i : Int) + 1 := by rw [IntKind.wrap_i64]; omega
  clear hb1 hz1 hB hr hfa hT
  go_enter Try.func25, Try.ntmps25
  go_wp2_with (first
    | (go_at_call 32; go_must (refine (read_ok _ l HB.out).mono ?_); rintro e w2 hq; rw [HR.out] at hq; obtain ⟨hk, A, cap, rfl, ho, hs⟩ := hq.some; obtain ⟨g, rfl⟩ : ∃ g, A = some ⟨g, 0, none⟩ := (own_form ho).elim (fun q => absurd q.2.1 (by omega)) (fun q => q); have hb := Blk.new w2 62 #[.int .u8 0, .int .u32 0, .slice none 0 0]; have thn := hb.thereAll 3 rfl; have hb3 := hb.whole (body3 k l0 (some ⟨g, 0, none⟩) cs.length cap) rfl; have on4 : ones (body3 k l0 (some ⟨g, 0, none⟩) cs.length cap) := (by unfold ones body3; simp [Value.oneCell']); have c2 := cellAt (v := .slice (some ⟨g, 0, none⟩) cs.length cap) hb3 2 rfl; have hk0 := Kp.setCells (S := NoB) (g := w2.heap.size) (.inl (Nat.le_refl _)) (body3 k l0 (some ⟨g, 0, none⟩) cs.length cap).toList 0 _ ((Kp.refl NoB w2).alloc (.cells #[.int .u8 0, .int .u32 0, .slice none 0 0] 62)); have hkk := hk.trans hk0 (fun _ _ q => q); have HB3 := Lib.hid hb3; have hown := own_keepB ho hk0 (fun _ _ q => q); have HOWN := Lib.hid hown; have HLT := Lib.hid (own_lt ho); have tz := (HZ1.out.keep (hk.trans hk0 (fun _ _ q => q)) (fun q => q)).thereAll 256 zsz; unfold body3 at on4 c2 hkk tz; have HKK := Lib.hid hkk; clear hk hb hb3 hk0 ho hs hown hkk)
    | (go_at_call 37; go_must (refine (del_at _ _ g cs.length cap i _ rfl cs hi HOWN.out).mono ?_); rintro e w4 ⟨C, cc, rfl, hk4, hs4⟩; have hne : g ≠ w2.heap.size := Nat.ne_of_lt HLT.out.1; have hb4 := HB3.out.keep hk4 (fun q => hne (Option.some.inj q)); have c24 := cellAt (v := .slice (some ⟨g, 0, none⟩) cs.length cap) hb4 2 rfl; have f24 := hb4.frozen 2; have hb5 := hb4.set_ 2 (.slice C (cs.length - 1) cc); have t5 := hb5.thereAll 3 rfl; have r5 : readRow _ w2.heap.size 0 3 = body3 k l0 C (cs.length - 1) cc := hb5.readAll 3 rfl; have HS5 := Lib.hid (hs4.setBody (o := 2) hb4 (.slice C (cs.length - 1) cc)); have hk5 := ((HKK.out.trans hk4 (S := NoB) (fun j hj q => by have e1 : g = j := Option.some.inj q; have := HLT.out.2; omega))).setCell (p := ⟨w2.heap.size, 2, none⟩) (.inl (by have := HLT.out; show _ ≤ w2.heap.size; omega)) (.slice C (cs.length - 1) cc); have HK5 := Lib.hid hk5; have c25 := cellAt (v := .slice C (cs.length - 1) cc) hb5 2 rfl; unfold body3 at r5; clear hk4 hs4 hb4 hb5 hk5)
    | (go_at_call 31; go_must (refine (told_ok _ k l0 C (cs.length - 1) cc _ (by omega) H60.out HS5.out).mono ?_); rintro e w6 hq; rw [HT.out] at hq; obtain ⟨rfl, hk6⟩ := hq; have HK6 := Lib.hid (HK5.out.trans hk6 (fun _ _ q => q)); have tz6 := (HZ1.out.keep (HK5.out.trans hk6 (fun _ _ q => q)) (fun q => q)).thereAll 256 zsz; clear hk6))
  refine bodyPost_ret (ret_cell_tmp rfl _ _ _ _ _ _ rfl ((HZ1.out.keep HK6.out (fun q => q)).whole Z (by rw [zero256_size, sZ])) Try.underlying26 rfl (by rw [sZ]; exact info26) _ rfl) rfl ?_
  exact ⟨rfl, Kp.setCells (.inl (by omega)) _ _ _ ((((Kp.refl NoB w).alloc _).alloc _).trans HK6.out (fun _ _ q => q))⟩
theorem Delete_ok (w : World) (l : List Int) (hB : Bytes l) (i : Int) : Calls Try.prog 25 #[.agg (bytesV l), .int .i64 i] w (PagePost w (delF l i)) := by
  rcases hr : readF l with _ | ⟨k, l0, cs⟩
  · rw [show delF l i = (zero256, 8) by unfold delF; rw [hr]]
    exact Delete_none w l hB i hr
  · by_cases hbad : i < 0 ∨ (cs.length : Int) ≤ i
    · rw [show delF l i = (zero256, 4) by unfold delF; rw [hr]; exact if_pos hbad]
      exact Delete_idx w l hB i hr hbad
    · rw [show delF l i = toldR k l0 (cs.take i.toNat ++ cs.drop (i.toNat + 1)) by unfold delF; rw [hr]; exact if_neg hbad]
      obtain ⟨j, rfl⟩ := Int.eq_ofNat_of_zero_le (show 0 ≤ i by omega)
      rw [show ((j : Int)).toNat = j by omega]
      exact Delete_main w l hB j hr (by omega)
end Go.Proofs.Ytnleoeogcinadaa
