/- Texts of this proof, one behind the other: lemmas and contracts; each says its own conditions. -/
import Derived.Test.YtegcbdfilkecpaaS1
import Derived.Test.YtegcbdfilkecpaaS4
import Derived.Test.YtegcbdfilkecpaaS5
import Derived.Test.YtegcbdfilkecpaaS6
import Derived.RangeFuncNested
import Derived.RangeFuncBound
import Derived.RangeFuncCalls
import Derived.RangeFuncLeaves
import Derived.RangeFuncBox
import Derived.Shelf.Abstract
import Derived.Shelf.RegionOpen
import Derived.WalkKit
import Derived.OwnWalkIn
import Derived.TacticsInMore
import Derived.LoopNIn
import Derived.LoopIn
import Derived.Maps.AppendAt
import Derived.RangeFuncWrites
import Derived.CallsIn
import Derived.OrdersIn
import Derived.Deep.RegionHeld
/- The log: is a mark one, the count at a mark, asked; condition: a log in memory. -/
namespace Go.Proofs.Ytegcbdfilkecpaa
open Go.RowKit

/-- a log opened, in memory -/
structure LgS (w : World) (db lb : Nat) (H : W4) (A : Option Addr) (c : Nat) (fs : List Fr) : Prop where
  b : Blk w lb 163 (lgC db H A fs.length c)
  o : w.ownsRow 0 171 259 (.slice A fs.length c) fs.length (frCells fs)
  ok : ∀ f ∈ fs, FrOk f
section
variable {w w' : World} {db lb : Nat} {H : W4} {A : Option Addr} {c : Nat} {fs : List Fr}
theorem LgS.keep (h : LgS w db lb H A c fs) (k : Kp NoB w w') : LgS w' db lb H A c fs := ⟨h.b.keep k (fun q => q), own_keepB h.o k (fun _ _ q => q), h.ok⟩
theorem LgS.cl (h : LgS w db lb H A c fs) : w.cell? ⟨lb, 0, none⟩ = some (.pointer (some ⟨db, 0, none⟩)) ∧ w.cell? ⟨lb, 5, none⟩ = some (.slice A fs.length c) := ⟨h.b.cell 0, h.b.cell 5⟩
theorem LgS.len (h : LgS w db lb H A c fs) : fs.length ≤ 9223372036854775807 := by
  have h1 := own_cap h.o
  rcases h.o.2 with ⟨q, _⟩ | ⟨g, cap, cur, q, _, _, _, hm, _⟩
  · injection q with _ q1 q2; omega
  · injection q with _ q1 q2
    unfold maxLen at hm
    omega
theorem frCells_at (fs : List Fr) (i : Nat) (hi : i < fs.length) (j : Nat) (hj : j < 259) : (frCells fs)[i * 259 + j]? = (frL (fs[i]'hi))[j]? := by
  have e : fs = fs.take i ++ fs[i]'hi :: fs.drop (i + 1) := by rw [List.getElem_cons_drop, List.take_append_drop]
  have hl : (fs.take i).length = i := by rw [List.length_take]; omega
  have h1 : frCells fs = frCells (fs.take i) ++ (frL (fs[i]'hi) ++ frCells (fs.drop (i + 1))) := by
    conv => lhs; rw [e]
    unfold frCells
    rw [List.flatMap_append, List.flatMap_cons]
  rw [h1, List.getElem?_append_right (by rw [frCells_len, hl]; omega), frCells_len, hl, show i * 259 + j - i * 259 = j by omega, List.getElem?_append_left (by rw [frL_len]; exact hj)]
theorem frL_n (f : Fr) : (frL f)[0]? = some (.int .i64 f.n) := rfl
theorem frL_en (f : Fr) : (frL f)[257]? = some (.int .i64 f.en) := by
  unfold frL zeros
  rw [List.getElem?_cons_succ, List.getElem?_append_right (by rw [List.length_map, List.length_replicate]; omega), List.length_map, List.length_replicate]
  rfl
theorem frL_b (f : Fr) : (frL f)[258]? = some (.string (strOf f.b)) := by
  unfold frL zeros
  rw [List.getElem?_cons_succ, List.getElem?_append_right (by rw [List.length_map, List.length_replicate]; omega), List.length_map, List.length_replicate]
  rfl
theorem LgS.fr (h : LgS w db lb H A c fs) (i : Nat) (hi : i < fs.length) : ∃ g, A = some ⟨g, 0, none⟩ ∧ w.cell? ⟨g, i * 259, none⟩ = some (.int .i64 (fs[i]'hi).n) ∧ w.cell? ⟨g, i * 259 + 257, none⟩ = some (.int .i64 (fs[i]'hi).en) ∧ w.cell? ⟨g, i * 259 + 258, none⟩ = some (.string (strOf (fs[i]'hi).b)) := by
  obtain ⟨g, hA, -, -⟩ := own_at h.o (by omega)
  have ho := h.o
  rw [hA] at ho
  have hc : ∀ j, j < 259 → w.cell? ⟨g, i * 259 + j, none⟩ = (frL (fs[i]'hi))[j]? := fun j hj => by
    rw [ho.cellAt (i * 259 + j) (by omega), frCells_at fs i hi j hj]
  have h0 := hc 0 (by omega)
  rw [Nat.add_zero, frL_n] at h0
  exact ⟨g, hA, h0, (hc 257 (by omega)).trans (frL_en _), (hc 258 (by omega)).trans (frL_b _)⟩
theorem mark_cases (fs : List Fr) (m : Int) : m = 0 ∨ m < 0 ∨ (fs.length : Int) < m ∨ ∃ i, ∃ h : i < fs.length, m = ((i + 1 : Nat) : Int) := by
  rcases Int.lt_trichotomy m 0 with q | q | q
  · exact .inr (.inl q)
  · exact .inl q
  · by_cases q2 : (fs.length : Int) < m
    · exact .inr (.inr (.inl q2))
    · exact .inr (.inr (.inr ⟨m.toNat - 1, by omega, by omega⟩))
theorem isMark_at (fs : List Fr) (i : Nat) (h : i < fs.length) : isMark fs ((i + 1 : Nat) : Int) = decide (0 < (fs[i]'h).en) := by
  unfold isMark
  rw [decide_eq_false (by omega), decide_eq_true (by omega)]
  show (false || (true && _)) = _
  rw [show (((i + 1 : Nat) : Int)).toNat - 1 = i by omega, List.getElem?_eq_getElem h]
  simp
set_option maxRecDepth 100000 in
set_option maxHeartbeats 1600000 in
theorem is_q (h : LgS w db lb H A c fs) (m : Int) : Calls Try.prog 97 #[.pointer (some ⟨lb, 0, none⟩), .int .i64 m] w fun e w' => e = .returned (.bool (isMark fs m)) ∧ w = w' := by
  obtain ⟨c0, c5⟩ := h.cl
  have hln := h.len
  rcases mark_cases fs m with rfl | hm | hm | ⟨i, hi, rfl⟩
  · have e : isMark fs 0 = true := by unfold isMark; rfl
    rw [e]
    clear h e
    go_enter Try.func97, Try.ntmps97
    go_wp2_with fail
    go_ret
    exact ⟨rfl, rfl⟩
  · have e : isMark fs m = false := by
      unfold isMark
      rw [decide_eq_false (by omega), decide_eq_false (by omega)]
      rfl
    rw [e]
    have h1 : (m == 0) = false := by simp; omega
    have h2 : ¬ (0 < m) := by omega
    clear h e hm hln
    go_enter Try.func97, Try.ntmps97
    go_wp2_with fail
    go_ret
    exact ⟨rfl, rfl⟩
  · have e : isMark fs m = false := by
      unfold isMark
      rw [decide_eq_false (by omega), decide_eq_false (by omega)]
      rfl
    rw [e]
    have h1 : (m == 0) = false := by simp; omega
    have h2 : 0 < m := by omega
    have h3 : ¬ m ≤ (fs.length : Int) := by omega
    clear h e hm
    go_enter Try.func97, Try.ntmps97
    go_wp2_with fail
    go_ret
    exact ⟨rfl, rfl⟩
  · obtain ⟨g, hA, -, ce, -⟩ := h.fr i hi
    subst hA
    rw [isMark_at fs i hi]
    have hw1 : IntKind.i64.wrap (((i + 1 : Nat) : Int) - 1) = (i : Int) := by rw [IntKind.wrap_i64]; omega
    obtain ⟨en, hen⟩ : ∃ en, (fs[i]'hi).en = en := ⟨_, rfl⟩
    rw [hen] at ce ⊢
    have h3 : ((i + 1 : Nat) : Int) ≤ (fs.length : Int) := by omega
    clear h hen
    by_cases he : 0 < en
    · rw [decide_eq_true he]
      go_enter Try.func97, Try.ntmps97
      go_wp2_with fail
      go_ret
      exact ⟨rfl, rfl⟩
    · rw [decide_eq_false he]
      go_enter Try.func97, Try.ntmps97
      go_wp2_with fail
      go_ret
      exact ⟨rfl, rfl⟩
set_option maxRecDepth 100000 in
set_option maxHeartbeats 1600000 in
theorem wcount_q {S : Nat → Prop} {W0 : World} {p : Pl} (hq : Dq S W0 w db p) (h : LgS w db lb H A c fs) (m : Int) (hm : isMark fs m = true) : Calls Try.prog 99 #[.pointer (some ⟨lb, 0, none⟩), .int .i64 m] w fun e w' => e = .returned (.int .i64 (wcount p fs m)) ∧ w = w' := by
  obtain ⟨c0, c5⟩ := h.cl
  have hln := h.len
  rcases mark_cases fs m with rfl | hm1 | hm1 | ⟨i, hi, rfl⟩
  · have e : wcount p fs 0 = p.jcount := by unfold wcount; rfl
    rw [e]
    have HQ := Lib.hid hq
    clear h e hq hm
    go_enter Try.func99, Try.ntmps99
    go_wp2_with fail
    refine (show Calls _ _ #[ptrV db] _ _ from count_q HQ.out).mono ?_
    rintro e w1 ⟨rfl, rfl⟩
    go_wp2_with fail
    go_ret
    exact ⟨rfl, rfl⟩
  · have e : isMark fs m = false := by
      unfold isMark
      rw [decide_eq_false (by omega), decide_eq_false (by omega)]
      rfl
    rw [e] at hm
    cases hm
  · have e : isMark fs m = false := by
      unfold isMark
      rw [decide_eq_false (by omega), decide_eq_false (by omega)]
      rfl
    rw [e] at hm
    cases hm
  · obtain ⟨g, hA, -, ce, -⟩ := h.fr i hi
    subst hA
    have hok := (h.ok _ (List.getElem_mem hi)).e0
    have e : wcount p fs ((i + 1 : Nat) : Int) = (fs[i]'hi).en - 1 := by
      unfold wcount
      rw [if_neg (by omega), show (((i + 1 : Nat) : Int)).toNat - 1 = i by omega, List.getElem?_eq_getElem hi]
    rw [e]
    have hw1 : IntKind.i64.wrap (((i + 1 : Nat) : Int) - 1) = (i : Int) := by rw [IntKind.wrap_i64]; omega
    obtain ⟨en, hen⟩ : ∃ en, (fs[i]'hi).en = en := ⟨_, rfl⟩
    rw [hen] at ce hok ⊢
    have hw2 : IntKind.i64.wrap (en - 1) = en - 1 := by rw [IntKind.wrap_i64]; omega
    clear h hen e hq hm hok
    go_enter Try.func99, Try.ntmps99
    go_wp2_with fail
    go_ret
    exact ⟨rfl, rfl⟩
theorem lg_of {p : Pl} {base : Nat} (hr : ∀ y ∈ p.seen nmWal, 0 ≤ y ∧ y < 256) (he : p.wopen.1 = 0) (hb : Blk w lb 163 (lgC db p.whead A p.wopen.2.length c)) (ho : w.ownsRow base 171 259 (.slice A p.wopen.2.length c) p.wopen.2.length (frCells p.wopen.2)) : LgS w db lb p.whead A c p.wopen.2 := by
  refine ⟨hb, ho.mono (Nat.zero_le _), ?_⟩
  revert he
  unfold Pl.wopen
  split
  · intro he; cases he
  · split
    · intro he; cases he
    · cases hf : frsAt (p.seen nmWal) p.whead.a.toNat with
      | none => intro he; cases he
      | some g =>
        dsimp only
        split
        · intro he; cases he
        · exact fun _ => frsAt_ok hr hf
/-- what asked answers -/
def AskedPost (p : Pl) (m : Int) (db : Nat) (w : World) (e : Ending) (w' : World) : Prop :=
  (p.wopen.1 ≠ 0 ∧ e = .returned (.tuple #[.pointer none, .int .i64 p.wopen.1]) ∧ Kp NoB w w') ∨
  (p.wopen.1 = 0 ∧ ∃ (lb : Nat) (A : Option Addr) (c : Nat), e = .returned (.tuple #[.pointer (some ⟨lb, 0, none⟩), .int .i64 (if isMark p.wopen.2 m = true then 0 else 4)]) ∧ LgS w' db lb p.whead A c p.wopen.2 ∧ w.heap.size ≤ lb ∧ Kp NoB w w')
set_option maxRecDepth 100000 in
set_option maxHeartbeats 1600000 in
theorem asked_q {S : Nat → Prop} {W0 : World} {p : Pl} (hq : Dq S W0 w db p) (m : Int) : Calls Try.prog 98 #[ptrV db, .int .i64 m] w (AskedPost p m db w) := by
  have HQ := Lib.hid hq
  clear hq
  unfold ptrV
  go_enter Try.func98, Try.ntmps98
  go_wp2_with fail
  refine (show Calls _ _ #[ptrV db] _ _ from wopen_q HQ.out).mono ?_
  rintro e w1 (⟨he, rfl, hk⟩ | ⟨he, lb, A, c, rfl, hb, ho, hg, hk⟩)
  · have HE := Lib.hid he
    have HK := Lib.hid hk
    have he1 : (p.wopen.1 == 0) = false := by simpa using he
    clear hk he
    have HAP : Hid (∀ e0, p.wopen.1 = e0 → AskedPost p m db w (.returned (.tuple #[.pointer none, .int .i64 e0])) w1) := Lib.hid (fun e0 q => .inl ⟨HE.out, by rw [q], HK.out⟩)
    obtain ⟨e0, q0⟩ : ∃ e0, p.wopen.1 = e0 := ⟨_, rfl⟩
    have HP := Lib.hid (HAP.out e0 q0)
    rw [q0] at he1 ⊢
    clear q0 HAP
    go_wp2_with fail
    go_ret2
    exact HP.out
  · have hl := lg_of (HQ.out.seen_rng nmWal) he hb ho
    have HL := Lib.hid hl
    have HP : Hid (AskedPost p m db w (.returned (.tuple #[.pointer (some ⟨lb, 0, none⟩), .int .i64 (if isMark p.wopen.2 m = true then 0 else 4)])) w1) := Lib.hid (.inr ⟨he, lb, A, c, rfl, hl, hg, hk⟩)
    clear hl hb ho hg hk he
    go_wp2_with fail
    refine (is_q HL.out m).mono ?_
    rintro e w2 ⟨rfl, rfl⟩
    cases hmk : isMark p.wopen.2 m with
    | true =>
      rw [hmk] at HP
      clear hmk
      go_wp2_with fail
      go_ret2
      exact HP.out
    | false =>
      rw [hmk] at HP
      clear hmk
      go_wp2_with fail
      go_ret2
      exact HP.out
end
end Go.Proofs.Ytegcbdfilkecpaa
/- The log: a frame's page; condition: a frame that was read. -/
namespace Go.Proofs.Ytegcbdfilkecpaa
open Go.RowKit

attribute [local go_sem ↓] load26 store26 alloc26 build26
set_option maxRecDepth 100000 in
set_option maxHeartbeats 1600000 in
theorem frpage_q (w : World) (f : Fr) (h : FrOk f) : Calls Try.prog 148 #[.agg (frL f).toArray] w fun e w' => e = .returned (.agg (bytesV f.b)) ∧ Kp NoB w w' := by
  have hlen := h.len
  have hsz : (strOf f.b).size = 256 := by rw [strOf_size, hlen]
  have hsi := strI_strOf f.b h.rng
  have HB1 : Hid (Blk ((w.alloc (.cells (frL f).toArray 171)).alloc (.cells zero256 24)) w.heap.size 171 (frL f).toArray) := Lib.hid ((Blk.new _ _ _).alloc _)
  have HB2 : Hid (Blk ((w.alloc (.cells (frL f).toArray 171)).alloc (.cells zero256 24)) (w.heap.size + 1) 24 zero256) := Lib.hid (Blk.newAt _ _ _ _ (by simp))
  have HK0 : Hid (Kp NoB w ((w.alloc (.cells (frL f).toArray 171)).alloc (.cells zero256 24))) := Lib.hid (((Kp.refl _ _).alloc _).alloc _)
  obtain ⟨C, hC⟩ : ∃ C, (frL f).toArray = C := ⟨_, rfl⟩
  rw [hC] at HB1 HB2 HK0 ⊢
  have HC := Lib.hid hC
  have HLEN := Lib.hid hlen
  have HSI := Lib.hid hsi
  have HSZ := Lib.hid hsz
  clear h hC hlen hsi hsz
  go_enter Try.func148, Try.ntmps148
  go_upto_region 1 with fail
  have hb1 := HB1.out
  have hb2 := HB2.out
  have hk0 := HK0.out
  generalize (w.alloc (.cells C 171)).alloc (.cells zero256 24) = w1 at hb1 hb2 hk0 ⊢
  clear HB1 HB2 HK0
  have c258 : ∀ V, Blk V w.heap.size 171 C → V.cell? ⟨w.heap.size, 258, none⟩ = some (.string (strOf f.b)) := fun V hV => by
    rw [hV.cell, ← HC.out, List.getElem?_toArray]
    exact frL_b f
  have cs := c258 w1 hb1
  obtain ⟨s, hs⟩ : ∃ s, strOf f.b = s := ⟨_, rfl⟩
  rw [hs] at cs HSI HSZ c258
  have hs0 : s.toList.isEmpty = false := by
    rw [ByteArray.toList_eq]
    cases hl : s.data.toList with
    | nil =>
      have h1 : s.data.size = 0 := by rw [← Array.length_toList, hl]; rfl
      have h2 : s.data.size = 256 := HSZ.out
      omega
    | cons _ _ => rfl
  have HS := Lib.hid hs
  clear hs
  go_upto_region 2 with fail
  have hcf := c258
  refine wp_region_held_drew (S := fun V => V.cell? ⟨w.heap.size, 258, none⟩ = some (.string s)) (by kernel_rfl) cs (fun hHeld => ?_)
  have hb3 : Blk w1.drew w.heap.size 171 C := hb1.drew
  have hb4 : Blk w1.drew (w.heap.size + 1) 24 zero256 := hb2.drew
  have hk3 : Kp NoB w w1.drew := hk0.drew
  generalize w1.drew = V0 at hb3 hb4 hk3 ⊢
  have cs3 := c258 V0 hb3
  have hcsz : C.size = 259 := by rw [← HC.out, List.size_toArray, frL_len]
  have ht5 : V0.there w.heap.size 1 s.size := hb3.there (by rw [HSZ.out, hcsz]; omega)
  have hcp := copyS V0 w.heap.size 1 256 256 s (by rw [HSZ.out]; omega) ht5
  rw [HSI.out] at hcp
  have hz : C = ([Value.int .i64 f.n] ++ (zeros 256).map (Value.int .u8) ++ [Value.int .i64 f.en, Value.string s]).toArray := by
    rw [← HC.out]
    unfold frL
    rw [HS.out, List.append_assoc]
    rfl
  have hb5 : Blk (V0.setCells w.heap.size 1 (f.b.map (Value.int .u8))) w.heap.size 171 ([Value.int .i64 f.n] ++ f.b.map (Value.int .u8) ++ [Value.int .i64 f.en, Value.string s]).toArray :=
    Blk.cellsL (by rw [← hz]; exact hb3) 1 rfl (by rw [List.length_map, List.length_map, HLEN.out]; exact zeros256)
  have hb6 := hb4.farCells (show w.heap.size + 1 ≠ w.heap.size by omega) (f.b.map (Value.int .u8)) 1 V0
  have hk6 : Kp NoB w (V0.setCells w.heap.size 1 (f.b.map (Value.int .u8))) := Kp.setCells (.inl (Nat.le_refl _)) _ _ _ hk3
  have cs6 : (V0.setCells w.heap.size 1 (f.b.map (Value.int .u8))).cell? ⟨w.heap.size, 258, none⟩ = some (.string s) := by
    rw [hb5.cell, List.getElem?_toArray, List.append_assoc, List.getElem?_append_right (by simp), List.getElem?_append_right (by rw [List.length_map, HLEN.out]; simp)]
    rw [List.length_map, HLEN.out]
    rfl
  refine tkS (i := 0) (v := (.pointer (some ⟨w.heap.size, 0, none⟩))) rfl (Or.inl ⟨by rfl, fun w' hq => by go_simp⟩) cs3 ?_
  simp only [Act.put, skA, skB, skC]
  refine tkS (i := 1) (v := (.pointer (some ⟨w.heap.size, 1, none⟩))) rfl (Or.inl ⟨by rfl, fun w' hq => by go_simp⟩) cs3 ?_
  simp only [Act.put, skA, skB, skC]
  refine tkS (i := 2) (v := (.slice (some ⟨w.heap.size, 1, none⟩) 256 256)) rfl (Or.inl ⟨by rfl, fun w' hq => by go_simp⟩) cs3 ?_
  simp only [Act.put, skA, skB, skC]
  refine tkS (i := 3) (v := (.pointer (some ⟨w.heap.size, 258, none⟩))) rfl (Or.inl ⟨by rfl, fun w' hq => by go_simp⟩) cs3 ?_
  simp only [Act.put, skA, skB, skC]
  refine tkS (i := 4) (v := (.string s)) rfl (Or.inl ⟨by rfl, fun w' hq => by have cc := hq; go_simp⟩) cs3 ?_
  simp only [Act.put, skA, skB, skC]
  refine wpAnyH_ready (rs := [5]) (by kernel_rfl) (by simp) ?_
  refine AllReadyH.valR (fun W' => W' = V0.setCells w.heap.size 1 (f.b.map (Value.int .u8))) rfl (by rfl) _ _ (copyS_exec hcp _ rfl rfl) (fun W' e => by rw [e]; exact cs6) rfl ?_ AllReadyH.nil
  rintro _ rfl
  simp only [Act.put, skA, skB, skC]
  refine wpAnyH_done (by kernel_rfl) ?_ _
  have hr7 := hb5.read 1 256 rfl (by rw [List.length_map, HLEN.out])
  have ht7 := Blk.there (n := 256) (o := 1) hb5 (by simp [HLEN.out])
  have t4 := hb6.thereAll 256 (by rw [zero256_eq, bytesV_size]; rfl)
  generalize V0.setCells w.heap.size 1 (f.b.map (Value.int .u8)) = w7 at hr7 ht7 hb6 hk6 t4 ⊢
  have HK7 := Lib.hid hk6
  have HB6 := Lib.hid hb6
  obtain ⟨RR, hRR⟩ : ∃ RR, bytesV f.b = RR := ⟨_, rfl⟩
  have hr8 : readRow w7 w.heap.size 1 256 = RR := by rw [hr7, ← hRR]; rfl
  have o1 : ones RR := by rw [← hRR]; exact bytesV_one f.b
  have s1 : RR.size = 256 := by rw [← hRR, bytesV_size, HLEN.out]
  have HRR := Lib.hid hRR
  have S1 := Lib.hid s1
  clear hHeld hr7 hb5 hb3 hb4 hk3 cs3 cs6 hcp ht5 hcsz hk6 hRR hz c258 hcf hb6
  go_wp2_with fail
  refine bodyPost_ret (ret_cell1 rfl _ _ _ _ _ _ rfl (HB6.out.whole RR (by rw [S1.out, zero256_eq, bytesV_size]; rfl)) Try.underlying24 rfl (by rw [S1.out]; exact info26)) rfl ⟨by rw [HRR.out], ?_⟩
  exact Kp.setCells (.inl (by omega)) _ _ _ HK7.out
end Go.Proofs.Ytegcbdfilkecpaa
/- The log asked: Check, Mark, Count; condition: a disk. -/
namespace Go.Proofs.Ytegcbdfilkecpaa
open Go.RowKit

namespace Pl
def wmark (p : Pl) : Int × Int := if p.wopen.1 ≠ 0 then (0, p.wopen.1) else ((p.wopen.2.length : Int), 0)
def wcnt (p : Pl) (m : Int) : Int × Int := if p.wopen.1 ≠ 0 then (0, p.wopen.1) else if isMark p.wopen.2 m = true then (wcount p p.wopen.2 m, 0) else (0, 4)
end Pl
section
variable {S : Nat → Prop} {W0 w : World} {db : Nat} {p : Pl}
set_option maxRecDepth 100000 in
theorem wmark_q (hq : Dq S W0 w db p) : Calls Try.prog 42 #[ptrV db] w fun e w' => e = .returned (.tuple #[.int .i64 p.wmark.1, .int .i64 p.wmark.2]) ∧ Kp NoB w w' := by
  have HQ := Lib.hid hq
  clear hq
  unfold ptrV
  go_enter Try.func42, Try.ntmps42
  go_wp2_with fail
  refine (show Calls _ _ #[ptrV db] _ _ from wopen_q HQ.out).mono ?_
  rintro e w1 (⟨he, rfl, hk⟩ | ⟨he, lb, A, c, rfl, hb, ho, hg, hk⟩)
  · have HK := Lib.hid hk
    have e1 : p.wmark = (0, p.wopen.1) := by unfold Pl.wmark; rw [if_pos he]
    have he1 : (p.wopen.1 == 0) = false := by simpa using he
    have he2 : (p.wopen.1 != 0) = true := by simpa using he
    obtain ⟨e0, q0⟩ : ∃ e0, p.wopen.1 = e0 := ⟨_, rfl⟩
    rw [q0] at he1 he2 e1 ⊢
    have HE1 := Lib.hid e1
    clear hk he e1 q0
    go_wp2_with fail
    go_ret2
    exact ⟨(by rw [HE1.out]; rfl), HK.out⟩
  · have HK := Lib.hid hk
    have e1 : p.wmark = ((p.wopen.2.length : Int), 0) := by unfold Pl.wmark; rw [if_neg (by rw [he]; simp)]
    have HE1 := Lib.hid e1
    have c5 : w1.cell? ⟨lb, 5, none⟩ = some (.slice A p.wopen.2.length c) := hb.cell 5
    clear hk he hb ho hg e1
    go_wp2_with fail
    go_ret2
    exact ⟨(by rw [HE1.out]; rfl), HK.out⟩
set_option maxRecDepth 100000 in
theorem wcnt_q (hq : Dq S W0 w db p) (m : Int) : Calls Try.prog 43 #[ptrV db, .int .i64 m] w fun e w' => e = .returned (.tuple #[.int .i64 (p.wcnt m).1, .int .i64 (p.wcnt m).2]) ∧ Kp NoB w w' := by
  have HQ := Lib.hid hq
  clear hq
  unfold ptrV
  go_enter Try.func43, Try.ntmps43
  go_wp2_with fail
  refine (show Calls _ _ #[ptrV db, .int .i64 m] _ _ from asked_q HQ.out m).mono ?_
  rintro e w1 (⟨he, rfl, hk⟩ | ⟨he, lb, A, c, rfl, hl, hg, hk⟩)
  · have HK := Lib.hid hk
    have e1 : p.wcnt m = (0, p.wopen.1) := by unfold Pl.wcnt; rw [if_pos he]
    have he1 : (p.wopen.1 == 0) = false := by simpa using he
    have he2 : (p.wopen.1 != 0) = true := by simpa using he
    obtain ⟨e0, q0⟩ : ∃ e0, p.wopen.1 = e0 := ⟨_, rfl⟩
    rw [q0] at he1 he2 e1 ⊢
    have HE1 := Lib.hid e1
    clear hk he e1 q0
    go_wp2_with fail
    go_ret2
    exact ⟨(by rw [HE1.out]; rfl), HK.out⟩
  · have HK := Lib.hid hk
    have HL := Lib.hid hl
    cases hmk : isMark p.wopen.2 m with
    | true =>
      have e1 : p.wcnt m = (wcount p p.wopen.2 m, 0) := by unfold Pl.wcnt; rw [if_neg (by rw [he]; simp), if_pos hmk]
      have HE1 := Lib.hid e1
      rw [if_pos rfl]
      have HM := Lib.hid hmk
      clear hk hl he hg e1 hmk
      go_wp2_with fail
      refine (wcount_q (HQ.out.keep HK.out) HL.out m HM.out).mono ?_
      rintro e w2 ⟨rfl, rfl⟩
      go_wp2_with fail
      go_ret2
      exact ⟨(by rw [HE1.out]; rfl), HK.out⟩
    | false =>
      have e1 : p.wcnt m = (0, 4) := by unfold Pl.wcnt; rw [if_neg (by rw [he]; simp), if_neg (by rw [hmk]; simp)]
      have HE1 := Lib.hid e1
      rw [if_neg (by simp)]
      clear hk hl he hg e1 hmk
      go_wp2_with fail
      go_ret2
      exact ⟨(by rw [HE1.out]; rfl), HK.out⟩
end
end Go.Proofs.Ytegcbdfilkecpaa
/- The log: sync, and the frames gone over made ready; condition: a log in memory on a disk. -/
namespace Go.Proofs.Ytegcbdfilkecpaa
open Go.RowKit
section
variable {S : Nat → Prop} {w : World} {db lb : Nat} {p : Pl}
set_option maxRecDepth 100000 in
theorem wsync_q (h : Dq S w w db p) (hc : w.cell? ⟨lb, 0, none⟩ = some (.pointer (some ⟨db, 0, none⟩))) (hm : p.sm 20000) :
    Calls Try.prog 152 #[.pointer (some ⟨lb, 0, none⟩)] w fun e w' => e = .returned (.int .i64 p.syncE) ∧ Dq S w w' db (p.sync nmWal) := by
  have H := Lib.hid h
  have HM := Lib.hid hm
  clear h hm
  go_enter Try.func152, Try.ntmps152
  go_wp2_with fail
  refine (show Calls _ _ #[ptrV db, .string nmWal] _ _ from sync_q H.out nmWal nmW_le HM.out).mono ?_
  rintro e w4 ⟨rfl, h4⟩
  have H4 := Lib.hid h4
  clear h4
  go_wp2_with fail
  go_ret
  exact ⟨rfl, H4.out⟩
set_option maxRecDepth 100000 in
theorem upto_q (w : World) (lb : Nat) (m : Int) :
    Calls Try.prog 147 #[.pointer (some ⟨lb, 0, none⟩), .int .i64 m] w fun e w' => e = .returned (.func (.func 167) #[] #[.pointer (some ⟨w.heap.size + 1, 0, none⟩), .pointer (some ⟨w.heap.size, 0, none⟩)]) ∧ w' = (w.alloc (.cells #[.pointer (some ⟨lb, 0, none⟩)] 158)).alloc (.cells #[.int .i64 m] 3) := by
  go_enter Try.func147, Try.ntmps147
  go_wp2_with fail
  go_ret
  exact ⟨rfl, rfl⟩
end
end Go.Proofs.Ytegcbdfilkecpaa
/- The log's frames gone over, the last one first; condition: a log in memory. -/
namespace Go.Proofs.Ytegcbdfilkecpaa
open Go.RowKit Go.Shelf
attribute [local go_sem] Oper.semAt_some

theorem Blk.below {w w' : World} {g : Nat} {t : TypeId} {cs : Array Value} (h : Blk w g t cs) (k : Below w.heap.size w w') : Blk w' g t cs := (k.block g h.lt).trans h
theorem LgS.below {w w' : World} {db lb : Nat} {H : W4} {A : Option Addr} {c : Nat} {fs : List Fr} (h : LgS w db lb H A c fs) (k : Below w.heap.size w w') : LgS w' db lb H A c fs :=
  ⟨h.b.below k, ⟨h.o.1, h.o.2.elim .inl (fun ⟨g, cap, cur, e, hb, hg, r⟩ => .inr ⟨g, cap, cur, e, hb, (k.block g (lt_of_heap hg)).trans hg, r⟩)⟩, h.ok⟩
theorem loadFrI (r : Option Nat) (w : World) (ev : Operand → Value) (ds : Option Tmp) (x : Operand) (ty : TypeId) (ps : String) (af : Array Edge) (g : Option (Nat × Bool)) (h : thereP w (ev x) 259) :
    (Oper.semAt r ev ⟨ds, .load 171 x, ty, ps, af, g⟩).run Try.prog w = .ok (.value (.agg (readP w (ev x) 259))) w := by
  rw [Oper.semAt_eq _ _ _ (by intro c h; cases h)]
  exact loadFr w ev ds x ty ps af g h
attribute [local go_sem ↓] loadFrI
theorem frCells_split (fs : List Fr) (i : Nat) (hi : i < fs.length) : frCells fs = frCells (fs.take i) ++ frL (fs.getD i ⟨0, 0, []⟩) ++ frCells (fs.drop (i + 1)) := by
  have e : fs = fs.take i ++ fs[i]'hi :: fs.drop (i + 1) := by rw [List.getElem_cons_drop, List.take_append_drop]
  have h1 : fs.getD i ⟨0, 0, []⟩ = fs[i]'hi := by rw [List.getD_eq_getElem?_getD, List.getElem?_eq_getElem hi]; rfl
  rw [h1]
  conv => lhs; rw [e]
  unfold frCells
  rw [List.flatMap_append, List.flatMap_cons, List.append_assoc]
theorem LgS.row {w : World} {db lb : Nat} {H : W4} {A : Option Addr} {c : Nat} {fs : List Fr} (h : LgS w db lb H A c fs) (i : Nat) (hi : i < fs.length) : ∃ g, A = some ⟨g, 0, none⟩ ∧ w.there g (i * 259) 259 ∧ readRow w g (i * 259) 259 = (frL (fs.getD i ⟨0, 0, []⟩)).toArray := by
  obtain ⟨g, ds, hA, -, hb⟩ := own_blkN h.o (by omega)
  refine ⟨g, hA, hb.there ?_, ?_⟩
  · rw [List.size_toArray, List.length_append, frCells_len]
    have : (i + 1) * 259 ≤ fs.length * 259 := Nat.mul_le_mul_right _ hi
    omega
  · rw [frCells_split fs i hi, List.append_assoc] at hb
    exact hb.read (i * 259) 259 (by rw [frCells_len, List.length_take]; congr 1; omega) (frL_len _)
/-- what a round is handed -/
def encF (fs : List Fr) (m k : Nat) : Array Value := #[.agg (frL (fs.getD (m - 1 - k) ⟨0, 0, []⟩)).toArray]
set_option maxRecDepth 100000 in
set_option maxHeartbeats 2000000 in
theorem up1_in (F : Fence) (n : Nat) (h7 : F.fn 167) (hro : F.round = none) (hn : 1 ≤ n) (l B C n₀ db lb : Nat) (H : W4) (A : Option Addr) (c : Nat) (fs : List Fr) (m : Nat) (hm : m ≤ fs.length)
    (J Jx : List Nat → World → Prop)
    (hY : ∀ pre (x : Nat) W, J pre W → pre.length < m → YieldAt F (n - 1) Try.prog l (encF fs m x) W fun e W' =>
      (e = .returned (.bool true) ∧ J (pre ++ [x]) W' ∧ Below n₀ W W') ∨ (e = .returned (.bool false) ∧ Jx (pre ++ [x]) W'))
    (w W : World) (hw : w.heap.size = n₀) (hL : LgS w db lb H A c fs) (hB : Blk w B 3 #[.int .i64 (m : Int)]) (hC : Blk w C 158 #[.pointer (some ⟨lb, 0, none⟩)]) (hBel : Below n₀ w W) (h0 : J [] W) :
    CallsIn F n Try.prog 167 #[.func (.yield l) #[] #[], .pointer (some ⟨B, 0, none⟩), .pointer (some ⟨C, 0, none⟩)] W fun e W' => (∃ v, e = .returned v) ∧
      ((∃ ys, ys = List.range m ∧ J ys W') ∨ (∃ pre, (∃ k, k ≤ m ∧ pre = List.range k) ∧ Jx pre W')) := by
  subst hw
  have HL := Lib.hid hL
  have HB := Lib.hid hB
  have HC := Lib.hid hC
  have hlen := hL.len
  have c1 : W.cell? ⟨B, 0, none⟩ = some (.int .i64 (m : Int)) := (hB.below hBel).cell 0
  have hw1 : IntKind.i64.wrap ((m : Int) - 1) = (m : Int) - 1 := by rw [IntKind.wrap_i64]; omega
  clear hL hB hC
  refine callsIn_of_wp Try.func167 rfl h7 ?_ hro
  simp only [Try.ntmps167, List.size_toArray, List.length_cons, List.length_nil, Nat.reduceAdd, Nat.reduceSub, Array.replicate_succ, Array.replicate_zero, List.push_toArray, List.append_toArray, List.nil_append, List.cons_append]
  gi_wp2
  gi_loopw [4] (fun i wr => ∃ k : Nat, k ≤ m ∧ i = .int .i64 ((m : Int) - 1 - (k : Int)) ∧ J (List.range k) wr ∧ Below w.heap.size w wr)
    (fun i _ => (intOf i + 1).toNat)
  case atStart => exact ⟨0, Nat.zero_le _, by simp, h0, hBel⟩
  case round =>
    obtain ⟨k, hk, rfl, hJs, hnx⟩ := hrel
    by_cases hlt : k < m
    · have hl2 := HL.out.below hnx
      have c0 : wr.cell? ⟨C, 0, none⟩ = some (.pointer (some ⟨lb, 0, none⟩)) := (HC.out.below hnx).cell 0
      have c5 := hl2.cl.2
      obtain ⟨q, hq⟩ : ∃ q : Nat, m - 1 - k = q := ⟨_, rfl⟩
      have hqi : (m : Int) - 1 - (k : Int) = (q : Int) := by omega
      rw [hqi]
      have hql : q < fs.length := by omega
      obtain ⟨g, hA, hth, hrd⟩ := hl2.row q hql
      subst hA
      obtain ⟨fn, tmps, assign, body, hy, hR⟩ := hY _ k wr hJs (by rw [List.length_range]; exact hlt)
      unfold encF at hy
      rw [hq] at hy
      obtain ⟨fv, hfv⟩ : ∃ fv, (frL (fs.getD q ⟨0, 0, []⟩)).toArray = fv := ⟨_, rfl⟩
      rw [hfv] at hrd hy
      clear hl2 hql
      gi_wp2
      refine hR.mono ?_
      rintro e W3 (⟨rfl, hJ3, hk3⟩ | ⟨rfl, hJx3⟩)
      · have hw2 : IntKind.i64.wrap ((q : Int) - 1) = (q : Int) - 1 := by rw [IntKind.wrap_i64]; omega
        gi_wp2
        go_roundw
        case rel => exact ⟨k + 1, by omega, by first | (congr 1; done) | (congr 1; omega), by rw [List.range_succ]; exact hJ3, hnx.trans hk3⟩
        case measure => first | (simp [intOf]; done) | (simp [intOf]; omega)
      · gi_wp2
        refine bodyPost_ret (results_none rfl _ _ _) rfl ?_
        exact ⟨⟨_, rfl⟩, .inr ⟨_, ⟨k + 1, by omega, by rw [List.range_succ]⟩, hJx3⟩⟩
    · obtain rfl : k = m := by omega
      have hqi : (k : Int) - 1 - (k : Int) = -1 := by omega
      rw [hqi]
      gi_wp2
      go_end0
      exact ⟨⟨_, rfl⟩, .inl ⟨_, rfl, hJs⟩⟩
theorem up_stops (F : Fence) (n : Nat) (h7 : F.fn 167) (hro : F.round = none) (hn : 1 ≤ n) (B C db lb : Nat) (H : W4) (A : Option Addr) (c : Nat) (fs : List Fr) (m : Nat) (hm : m ≤ fs.length) (w : World) (hL : LgS w db lb H A c fs) (hB : Blk w B 3 #[.int .i64 (m : Int)]) (hC : Blk w C 158 #[.pointer (some ⟨lb, 0, none⟩)]) :
    SeqStopsK F n Try.prog 167 #[.pointer (some ⟨B, 0, none⟩), .pointer (some ⟨C, 0, none⟩)] (encF fs m) (Below w.heap.size) (fun ys => ys = List.range m)
      (fun pre => ∃ k, k ≤ m ∧ pre = List.range k) m w := fun l J Jx W hW _ _ hY h0 =>
  up1_in F n h7 hro hn l B C w.heap.size db lb H A c fs m hm J Jx hY w W rfl hL hB hC hW h0
end Go.Proofs.Ytegcbdfilkecpaa
/- Regions that draw their order within a round of a range over a function; no condition. -/
namespace Go.Proofs.Ytegcbdfilkecpaa
open Go

section
variable {P : Program} {ops : Array Oper} {Q : Exit → Act → World → Prop} {l n : Nat}
theorem rows_round {row : String} {args : Array Value} {w : World} {R : Value → World → Prop} (h : Go.Rows P row args w R) : RowsIn (Fence.wide.inRound l) n P row args w R :=
  fun c cs _ => let ⟨v, w', r, s⟩ := h c cs; ⟨v, w', r, stepsIn_wide.2 s⟩
theorem upon_round {o : Oper} {a : Act} {next next' : Act → World → Prop} {r : Result Next} (h : o.upon P a next Q r) (hn : ∀ a w, next a w → next' a w) (hq : ∀ a w, ¬ Q .outgrown a w) : o.uponIn (Fence.wide.inRound l) n P a next' Q r := by
  cases r with
  | ok x w' =>
    cases x with
    | enter f args =>
      refine ⟨fun q => (by cases q), CallsIn.inRound l (callsIn_wide.2 (Calls.mono h fun e w hx => ?_))⟩
      cases e with
      | returned v => exact hn _ _ hx
      | panicked c => exact hx
      | outgrown => exact hx
    | row row args => exact ⟨fun q => (by cases q), rows_round (Rows.mono h fun v w hx => hn _ _ hx)⟩
    | value v => exact hn _ _ h
    | skip => exact hn _ _ h
    | defer d => exact hn _ _ h
    | _ => exact h.elim
  | halt x w' =>
    cases x with
    | panic v => exact h
    | _ => exact h.elim
/-- no operation defers -/
def noDefer (ops : Array Oper) : Bool := ops.all fun o => match o.op with
  | .defer _ => false
  | _ => true
theorem noDefer_at (h : noDefer ops = true) {i : Nat} {o : Oper} (ho : ops[i]? = some o) (c : Call) : o.op ≠ .defer c := fun e => by
  have hx := (Array.all_eq_true_iff_forall_mem.1 h) o (Array.mem_of_getElem? ho)
  rw [e] at hx
  cases hx
theorem wpOps_round (hd : noDefer ops = true) (hq : ∀ a w, ¬ Q .outgrown a w) : ∀ (li : List Nat) (a : Act) (w : World), wpOps P ops Q li a w → wpOpsIn (Fence.wide.inRound l) n P ops Q li a w
  | [], a, w, h => h
  | i :: r, a, w, h => by
    simp only [wpOps] at h
    simp only [wpOpsIn]
    cases ho : ops[i]? with
    | none =>
      simp only [ho] at h
      exact wpOps_round hd hq r a w h
    | some o =>
      simp only [ho] at h
      dsimp only
      by_cases hw : Region.wanted o (yielded ops a.tmps) = true
      · rw [if_pos hw] at h ⊢
        rcases h with h | h
        · refine ⟨fun _ _ => trivial, ?_⟩
          rw [Oper.semAt_eq _ _ _ (noDefer_at hd ho)]
          exact upon_round h (fun a w q => wpOps_round hd hq r a w q) hq
        · obtain ⟨_, a0, w0, q⟩ := h
          exact absurd q (hq _ _)
      · rw [if_neg hw] at h ⊢
        exact ⟨fun _ _ => trivial, wpOps_round hd hq r _ w h⟩
theorem wpIn_region_held_drew {S : World → Prop} {id : Nat} {a : Act} {w : World} (hm : P.follows .mixedOrders = true) (hd : noDefer ops = true) (hq : ∀ a w, ¬ Q .outgrown a w) (hS : S w.drew)
    (h : S w.drew → wpAnyH P .any ops Q S ops.size (Array.replicate ops.size false) a w.drew) : (Code.region id ops true).wpIn (Fence.wide.inRound l) n P Q a w :=
  wpIn_region_draw fun t => wpOps_round hd hq _ _ _ (by
    simp only [Region.schedule, hm, Bool.true_or, if_true]
    exact wpAny_sound ops.size t _ a _ (wpAny_of_held _ _ _ _ (h hS)))
end
/-- a step that writes only what lay ahead of the loop -/
theorem Kp.from {S : Nat → Prop} {B : Nat} {W W' : World} (k : Kp S W W') (hS : ∀ b, S b → b < B) : KeepsFrom B W W' :=
  ⟨k.size, fun i o hB hi _ => (k.block i (Array.getElem?_eq_some_iff.1 hi).1 (fun q => by have := hS _ q; omega)).trans hi⟩
theorem Kp.grownBy {S : Nat → Prop} {a w w' : World} {row : Option Nat} (k : Kp S a w) (hg : w.grownBy w' row) (hr : ∀ r, row = some r → a.heap.size ≤ r) : Kp S a w' :=
  ⟨hg.os.trans k.os, hg.tape.trans k.tape, hg.output.trans k.output, Nat.le_trans k.size hg.size, fun i hi hn => (hg.block i (Nat.lt_of_lt_of_le hi k.size) (fun e => by have := hr i e.symm; omega)).trans (k.block i hi hn)⟩
end Go.Proofs.Ytegcbdfilkecpaa
/- The log: a page at a mark; condition: a log in memory on a disk. -/
namespace Go.Proofs.Ytegcbdfilkecpaa
open Go.RowKit Go.Shelf
theorem blkOwn {W W' : World} {row : Option Nat} {g : Nat} {t : TypeId} {cs : Array Value} (h : Blk W g t cs) (hg : W.grownBy W' row) (hr : ∀ r, row = some r → ∃ o : Obj, W.heap[r]? = some o ∧ o.isCells = false) : Blk W' g t cs :=
  (hg.block g h.lt (fun e => by
    obtain ⟨o, ho, hc⟩ := hr g e.symm
    rw [show W.heap[g]? = _ from h] at ho
    injection ho with ho
    rw [← ho] at hc
    cases hc)).trans h
theorem storeFrI (r : Option Nat) (w : World) (ev : Operand → Value) (ds : Option Tmp) (x y : Operand) (ty : TypeId) (ps : String) (af : Array Edge) (g : Option (Nat × Bool)) (hv : aggOK (ev y) 259) (h : thereP w (ev x) 259) :
    (Oper.semAt r ev ⟨ds, .store 171 x y, ty, ps, af, g⟩).run Try.prog w = .ok .skip (setP w (ev x) (ev y)) := by
  rw [Oper.semAt_eq _ _ _ (by intro c h; cases h)]
  exact storeFr w ev ds x y ty ps af g hv h
theorem store26I (r : Option Nat) (w : World) (ev : Operand → Value) (ds : Option Tmp) (x y : Operand) (ty : TypeId) (ps : String) (af : Array Edge) (g : Option (Nat × Bool)) (hv : aggOK (ev y) 256) (h : thereP w (ev x) 256) :
    (Oper.semAt r ev ⟨ds, .store 24 x y, ty, ps, af, g⟩).run Try.prog w = .ok .skip (setP w (ev x) (ev y)) := by
  rw [Oper.semAt_eq _ _ _ (by intro c h; cases h)]
  exact store26 w ev ds x y ty ps af g hv h
theorem allocFrI (r : Option Nat) (w : World) (ev : Operand → Value) (ds : Option Tmp) (ty : TypeId) (ps : String) (af : Array Edge) (g : Option (Nat × Bool)) :
    (Oper.semAt r ev ⟨ds, .alloc 171, ty, ps, af, g⟩).run Try.prog w = .ok (.value (.pointer (some ⟨w.heap.size, 0, none⟩))) (w.alloc (.cells fr0 171)) := by
  rw [Oper.semAt_eq _ _ _ (by intro c h; cases h)]
  exact allocFr w ev ds ty ps af g
theorem load26I (r : Option Nat) (w : World) (ev : Operand → Value) (ds : Option Tmp) (x : Operand) (ty : TypeId) (ps : String) (af : Array Edge) (g : Option (Nat × Bool)) (h : thereP w (ev x) 256) :
    (Oper.semAt r ev ⟨ds, .load 24 x, ty, ps, af, g⟩).run Try.prog w = .ok (.value (.agg (readP w (ev x) 256))) w := by
  rw [Oper.semAt_eq _ _ _ (by intro c h; cases h)]
  exact load26 w ev ds x ty ps af g h
theorem leaveM {F : Fence} {n : Nat} {P : Program} {fn : Func} {tmps : Array Value} {R : Ending → World → Prop} {w : World} {D : Nat} {v : Value} (hD : w.heap[D]? = some (.deferred (some [])))
    (hr : (results fn tmps).run P (w.putObj D (.deferred none)) = .ok v (w.putObj D (.deferred none))) (h : R (.returned v) (w.putObj D (.deferred none))) : bodyPostM F n P fn R .ret { tmps := tmps, defers := [{ target := .collected D, args := #[] }] } w :=
  ⟨by simp, .inl ⟨_, _, rfl, run_takeDeferred hD, by
    exact ⟨v, hr, h⟩⟩⟩
/-- one frame of the log -/
def frK (fs : List Fr) (m x : Nat) : Fr := fs.getD (m - 1 - x) ⟨0, 0, []⟩
def LpI (fs : List Fr) (m : Nat) (n : Int) (w2 : World) (pre : List Nat) (W : World) : Prop := (∀ j ∈ pre, (frK fs m j).n ≠ n) ∧ Kp NoB w2 W
def LpX (fs : List Fr) (m : Nat) (n : Int) (w2 : World) (pb : Nat) (c : Code) (pre : List Nat) (W : World) : Prop :=
  c = .ret ∧ (∃ pre' x, pre = pre' ++ [x] ∧ (∀ j ∈ pre', (frK fs m j).n ≠ n) ∧ (frK fs m x).n = n ∧ Blk W pb 24 (bytesV (frK fs m x).b)) ∧ Kp (OnB pb) w2 W
attribute [local go_sem ↓] load26 store26 alloc26 build26 loadFrI loadFr storeFr allocFr storeFrI store26I allocFrI load26I
attribute [local go_sem] Oper.semAt_some
set_option maxRecDepth 100000 in
set_option maxHeartbeats 3200000 in
theorem wlpage_q {S : Nat → Prop} {W0 w : World} {db lb : Nat} {p : Pl} {H : W4} {A : Option Addr} {c : Nat} {fs : List Fr} (hq : Dq S W0 w db p) (h : LgS w db lb H A c fs) (m : Nat) (hm : m ≤ fs.length) (n : Int) (hn : -9223372036854775808 ≤ n ∧ n ≤ 9223372036854775807) :
    Calls Try.prog 106 #[.pointer (some ⟨lb, 0, none⟩), .int .i64 (m : Int), .int .i64 n] w fun e w' => e = .returned (.agg (bytesV (wpage p fs m n))) ∧ Kp NoB w w' := by
  have HQ := Lib.hid hq
  have HL := Lib.hid h
  have HN := Lib.hid hn
  have HM := Lib.hid hm
  obtain ⟨RP, hRP⟩ : ∃ RP, bytesV (wpage p fs (m : Int) n) = RP := ⟨_, rfl⟩
  rw [hRP]
  have HRP := Lib.hid hRP
  clear hq h hn hm hRP
  refine (callsIn_wide (n := 5)).1 ?_
  refine callsIn_of_wp_marks Try.func106 rfl trivial ?_ rfl
  simp only [Try.ntmps106, List.size_toArray, List.length_cons, List.length_nil, Nat.reduceAdd, Nat.reduceSub, Array.replicate_succ, Array.replicate_zero, List.push_toArray, List.append_toArray, List.nil_append, List.cons_append]
  gi_wp2_with (refine ⟨trivial, ?_⟩; gi_at_call 147; refine (callsIn_wide.2 (upto_q _ lb m)).mono ?_; rintro e w2 ⟨rfl, hw2⟩; have HW2 := Lib.hid hw2; clear hw2)
  have hL2 : LgS w2 db lb H A c fs := HL.out.keep (by rw [HW2.out]; exact ((((Kp.refl NoB w).alloc _).alloc _).alloc _).alloc _)
  have hsz : w2.heap.size = w.heap.size + 4 := by rw [HW2.out]; simp
  have hB : Blk w2 (w.heap.size + 1 + 1 + 1) 3 #[.int .i64 (m : Int)] := by rw [HW2.out]; exact Blk.newAt _ _ _ _ (by simp)
  have hC : Blk w2 (w.heap.size + 1 + 1) 158 #[.pointer (some ⟨lb, 0, none⟩)] := by rw [HW2.out]; exact (Blk.newAt _ _ _ _ (by simp)).alloc _
  have hP : Blk w2 (w.heap.size + 1) 24 zero256 := by rw [HW2.out]; exact ((Blk.newAt _ _ _ _ (by simp)).alloc _).alloc _
  have hNB : Blk w2 w.heap.size 3 #[.int .i64 n] := by rw [HW2.out]; exact (((Blk.new _ _ _).alloc _).alloc _).alloc _
  have hk2 : Kp NoB w w2 := by rw [HW2.out]; exact ((((Kp.refl NoB w).alloc _).alloc _).alloc _).alloc _
  have HL2 := Lib.hid hL2
  have HB := Lib.hid hB
  have HC := Lib.hid hC
  have HP := Lib.hid hP
  have HNB := Lib.hid hNB
  have HK2 := Lib.hid hk2
  have HSZ := Lib.hid hsz
  clear hL2 hB hC hP hNB hk2 hsz HW2
  obtain ⟨s0, hs0⟩ : ∃ s0, w.heap.size = s0 := ⟨_, rfl⟩
  rw [hs0] at HB HC HP HNB HSZ ⊢
  have HS0 := Lib.hid hs0
  clear hs0
  have HOK : Hid (0 < m → ∀ x, FrOk (frK fs m x)) := Lib.hid (fun h0 x => by
    unfold frK
    rw [List.getD_eq_getElem?_getD, List.getElem?_eq_getElem (by have := HM.out; omega)]
    exact HL2.out.ok _ (List.getElem_mem _))
  refine wpIn_rangeFunc_ownH (w0 := w2) rfl (by omega) (gf := 167) (lb := #[.pointer (some ⟨s0 + 1 + 1 + 1, 0, none⟩), .pointer (some ⟨s0 + 1 + 1, 0, none⟩)]) rfl trivial (enters_of Try.func167 (by kernel_rfl) rfl)
    (up_stops Fence.wide (5 - 1) trivial rfl (by omega) (s0 + 1 + 1 + 1) (s0 + 1 + 1) db lb H A c fs m HM.out w2 HL2.out HB.out HC.out) belowK_t (belowK_b (Nat.le_refl _)) (Below.refl _ w2) (fun _ => rfl)
    (LpI fs m n w2) (LpX fs m n w2 (s0 + 1))
    (fun pre W W' row hs hg hr => ⟨hs.1, hs.2.grownBy hg (fun r e => (hr r e).1)⟩)
    (fun c pre W W' row hs hg hr => ⟨hs.1, by
      obtain ⟨pre', x, h1, h2, h3, h4⟩ := hs.2.1
      exact ⟨pre', x, h1, h2, h3, blkOwn h4 hg (fun r e => (hr r e).2)⟩, hs.2.2.grownBy hg (fun r e => (hr r e).1)⟩)
    ⟨fun j q => (by cases q), Kp.refl _ _⟩
    (fun x a' W => ∃ g, w2.heap.size ≤ g ∧ a' = { tmps := #[.pointer (some ⟨lb, 0, none⟩), .int .i64 (m : Int), .int .i64 n, undef, undef, .pointer (some ⟨s0, 0, none⟩), .pointer (some ⟨s0 + 1, 0, none⟩), .pointer (some ⟨g, 0, none⟩), undef, undef, .pointer (some ⟨lb, 0, none⟩), .int .i64 (m : Int), .func (.func 167) #[] #[.pointer (some ⟨s0 + 1 + 1 + 1, 0, none⟩), .pointer (some ⟨s0 + 1 + 1, 0, none⟩)], .agg (frL (frK fs m x)).toArray, undef, undef, undef, undef, undef, undef, undef, undef, undef, undef, undef, undef, undef, undef, undef, undef, undef], defers := [] } ∧ Blk W g 171 (frL (frK fs m x)).toArray)
    (fun x a' _ W W' row hs hg hr => by
      obtain ⟨g, h1, h2, h3⟩ := hs
      exact ⟨g, h1, h2, blkOwn h3 hg (fun r e => (hr r e).2)⟩) ?assign ?body ?done ?stop
  case assign =>
    intro l pre x W K hI hK
    have hkk := hI.2.size
    have HKK := Lib.hid hkk
    have hfr : (encF fs m x) = #[.agg (frL (frK fs m x)).toArray] := rfl
    rw [hfr]
    have hlen : (frL (frK fs m x)).toArray.size = 259 := by rw [List.size_toArray, frL_len]
    have hon : ones (frL (frK fs m x)).toArray := ones_of (frL_one _)
    obtain ⟨FV, hFV⟩ : ∃ FV, (frL (frK fs m x)).toArray = FV := ⟨_, rfl⟩
    have hK1 := fun g W' h1 h2 h3 h4 h5 => hK _ W' h1 h2 h3 ⟨g, h4, rfl, h5⟩
    rw [hFV] at hlen hon hK1 ⊢
    have hb := Blk.new W 171 fr0
    have t1 := hb.thereAll 259 (by kernel_rfl)
    have hb2 := hb.whole FV (by rw [hlen]; kernel_rfl)
    have HB2 := Lib.hid hb2
    have HK1 := Lib.hid hK1
    have HI := Lib.hid hI
    clear hb hb2 hK hK1 hI hkk
    gi_wp2
    refine HK1.out W.heap.size _ ?_ ?_ ?_ HKK.out HB2.out
    · exact Kp.from (S := NoB) (Kp.setCells (.inl (Nat.le_refl _)) _ _ _ ((Kp.refl _ _).alloc _)) (fun b q => q.elim)
    · exact Kp.below (Kp.setCells (.inl (Nat.le_refl _)) _ _ _ ((Kp.refl NoB W).alloc _)) HKK.out (fun _ _ q => q)
    · exact ⟨HI.out.1, Kp.setCells (.inl HKK.out) _ _ _ (HI.out.2.alloc _)⟩
  case body =>
    rintro l pre x a' W hl hr hI ⟨g, hg, rfl, hgb⟩ hlt
    have hok := HOK.out (by omega) x
    have c0 : W.cell? ⟨g, 0, none⟩ = some (.int .i64 (frK fs m x).n) := by rw [hgb.cell]; rfl
    have cN : W.cell? ⟨s0, 0, none⟩ = some (.int .i64 n) := (HNB.out.keep hI.2 (fun q => q)).cell 0
    have hth := hgb.thereAll 259 (by rw [List.size_toArray, frL_len])
    have hrd := hgb.readAll 259 (by rw [List.size_toArray, frL_len])
    have HI := Lib.hid hI
    clear hI hgb hr hl
    by_cases hx : (frK fs m x).n = n
    · have HX := Lib.hid hx
      have hcall := frpage_q W (frK fs m x) hok
      have HLEN := Lib.hid hok.len
      have HCALL := Lib.hid hcall
      rw [hx] at c0
      clear hok hx hcall
      obtain ⟨FV, hFV⟩ : ∃ FV, (frL (frK fs m x)).toArray = FV := ⟨_, rfl⟩
      rw [hFV] at hrd HCALL ⊢
      gi_wp2_with (refine ⟨trivial, ?_⟩; gi_at_call 148; refine (CallsIn.inRound l (callsIn_wide.2 HCALL.out)).mono ?_; rintro e W3 ⟨rfl, hk3⟩; have HB3 := Lib.hid ((HP.out.keep HI.out.2 (fun q => q)).keep hk3 (fun q => q)); have t3 := HB3.out.thereAll 256 (by rw [zero256_eq, bytesV_size]; rfl); have HK3 := Lib.hid hk3; clear hk3; obtain ⟨RR, hRR⟩ : ∃ RR, bytesV (frK fs m x).b = RR := ⟨_, rfl⟩; have o1 : ones RR := (by rw [← hRR]; exact bytesV_one _); have s1 : RR.size = 256 := (by rw [← hRR, bytesV_size, HLEN.out]); have HRR := Lib.hid hRR; have S1 := Lib.hid s1; rw [hRR]; clear hRR)
      refine ⟨?_, rfl, ⟨pre, x, rfl, HI.out.1, HX.out, ?_⟩, ?_⟩
      · exact Kp.from (S := OnB (s0 + 1)) (Kp.setCells (S := OnB (s0 + 1)) (g := s0 + 1) (.inr rfl) _ _ _ (HK3.out.mono (fun _ _ q => q.elim))) (fun b q => by have := HSZ.out; unfold OnB at q; omega)
      · rw [HRR.out]
        exact HB3.out.whole RR (by rw [S1.out, zero256_eq, bytesV_size]; rfl)
      · exact Kp.setCells (S := OnB (s0 + 1)) (g := s0 + 1) (.inr rfl) _ _ _ ((HI.out.2.mono (fun _ _ q => q.elim)).trans (HK3.out.mono (fun _ _ q => q.elim)) (fun _ _ q => q))
    · have he : ((frK fs m x).n == n) = false := by simpa using hx
      have HX := Lib.hid hx
      generalize (frK fs m x).n = nx at c0 he ⊢
      clear hok hx
      gi_wp2
      refine ⟨KeepsFrom.refl _ _, Below.refl _ _, fun j hj => ?_, HI.out.2⟩
      rcases List.mem_append.1 hj with q | q
      · exact HI.out.1 j q
      · rw [List.mem_singleton.1 q]; exact HX.out
  case done =>
    rintro D xs W hD rfl hI hK
    have hnone : lastFr (fs.take m) n = none := lastFr_none fs m n HM.out (fun j hj => hI.1 j (List.mem_range.2 hj))
    have hpg : RP = bytesV (p.jpage n) := by
      rw [← HRP.out]
      unfold wpage
      rw [Int.toNat_natCast, hnone]
    have HPG := Lib.hid hpg
    have HI := Lib.hid hI
    have HK := Lib.hid hK
    have HD := Lib.hid hD
    clear hI hK hD hnone hpg
    gi_wp2
    refine wpIn_wide.2 ?_
    have HKW : Hid (Kp NoB w W) := Lib.hid (HK2.out.trans HI.out.2 (fun _ _ q => q))
    have hlC := (HL.out.keep HKW.out).cl.1
    have hnC : W.cell? ⟨s0, 0, none⟩ = some (.int .i64 n) := (HNB.out.keep HI.out.2 (fun q => q)).cell 0
    have hl1 := block_lt_of_cell hlC
    have hl2 := block_lt_of_cell hnC
    obtain ⟨JP, hJP⟩ : ∃ JP, bytesV (p.jpage n) = JP := ⟨_, rfl⟩
    obtain ⟨JE, hJE⟩ : ∃ JE, p.jpageE n = JE := ⟨_, rfl⟩
    have HJP := Lib.hid hJP
    have HJE := Lib.hid hJE
    have HRJ : Hid (RP = JP) := Lib.hid (HPG.out.trans hJP)
    have JPS : Hid (JP.size = 256) := Lib.hid (by
      rw [← hJP, bytesV_size]
      unfold Pl.jpage
      split
      · exact sizedF_len _ _
      · exact zeros256)
    have JPO : Hid (ones JP) := Lib.hid (by rw [← hJP]; exact bytesV_one _)
    clear hJP hJE
    apply wp_intoG (G := fun V g => Blk V g 24 JP ∧ Kp NoB W V)
    · refine wp_region_held_drew (S := fun V => Kp NoB W V) (by kernel_rfl) (Kp.refl NoB W).drew (fun hHeld => ?_)
      have k0 : Kp NoB W W.drew := (Kp.refl NoB W).drew
      generalize W.drew = V0 at k0 hHeld ⊢
      refine tkS (i := 0) (v := (.pointer (some ⟨lb, 0, none⟩))) rfl (Or.inl ⟨by rfl, fun w' hq => by go_simp⟩) k0 ?_
      simp only [Act.put, skA, skB, skC]
      refine tkS (i := 1) (v := (.pointer (some ⟨lb, 0, none⟩))) rfl (Or.inl ⟨by rfl, fun w' hq => by go_simp⟩) k0 ?_
      simp only [Act.put, skA, skB, skC]
      refine tkS (i := 2) (v := (.pointer (some ⟨lb, 0, none⟩))) rfl (Or.inl ⟨by rfl, fun w' hq => by go_simp⟩) k0 ?_
      simp only [Act.put, skA, skB, skC]
      refine tkS (i := 3) (v := (.pointer (some ⟨db, 0, none⟩))) rfl (Or.inl ⟨by rfl, fun w' hq => by have cc := (hq.cell hl1 (fun q => q)).trans hlC; go_simp⟩) k0 ?_
      simp only [Act.put, skA, skB, skC]
      refine tkS (i := 4) (v := (.int .i64 n)) rfl (Or.inl ⟨by rfl, fun w' hq => by have cc := (hq.cell hl2 (fun q => q)).trans hnC; go_simp⟩) k0 ?_
      simp only [Act.put, skA, skB, skC]
      refine wpAnyH_ready (rs := [5, 9]) (by kernel_rfl) (by simp) ?_
      refine AllReadyH.callR (fun y W' => y = .tuple #[.agg JP, .int .i64 JE] ∧ Kp NoB V0 W') rfl (by rfl) 11 #[ptrV db, .int .i64 n] (by first | (go_simp; done) | (go_simp; rfl)) (fun _ _ q => k0.trans q.2 (fun _ _ z => z)) ((page_q ((HQ.out.keep (HKW.out)).keep k0) n HN.out).mono (by rintro e w19 ⟨rfl, hk⟩; exact ⟨_, rfl, by rw [HJP.out, HJE.out], hk⟩)) ?_ ?_
      · rintro y V1 ⟨rfl, kk1⟩
        have k1 := k0.trans kk1 (fun _ _ z => z)
        simp only [Act.put, skA, skB, skC]
        refine tkS (i := 6) (v := .tuple #[.agg JP, .int .i64 JE]) rfl (Or.inl ⟨by rfl, fun w' hq => by go_simp⟩) k1 ?_
        simp only [Act.put, skA, skB, skC]
        refine tkS (i := 7) (v := (.agg JP)) rfl (Or.inl ⟨by rfl, fun w' hq => by go_simp⟩) k1 ?_
        simp only [Act.put, skA, skB, skC]
        refine tkS (i := 8) (v := (.int .i64 JE)) rfl (Or.inl ⟨by rfl, fun w' hq => by go_simp⟩) k1 ?_
        simp only [Act.put, skA, skB, skC]
        refine wpAnyH_ready (rs := [9]) (by kernel_rfl) (by simp) ?_
        refine AllReadyH.valR (fun W' => W' = V1.alloc (.cells zero256 24)) rfl (by rfl) _ _ (alloc26 V1 _ _ _ _ _ _) (fun W' e => by rw [e]; exact k1.alloc _) rfl ?_ AllReadyH.nil
        rintro _ rfl
        have hb4 : Blk (V1.alloc (.cells zero256 24)) V1.heap.size 24 zero256 := Blk.new _ _ _
        have k2 : Kp NoB W (V1.alloc (.cells zero256 24)) := k1.alloc _
        have hg4 : W.heap.size ≤ V1.heap.size := k1.size
        generalize V1.alloc (.cells zero256 24) = V2 at hb4 k2 ⊢
        generalize V1.heap.size = g4 at hb4 hg4 ⊢
        simp only [Act.put, skA, skB, skC]
        refine wpAnyH_ready (rs := [10]) (by kernel_rfl) (by simp) ?_
        have hbe := hb4.whole JP (by rw [JPS.out, zero256_eq, bytesV_size]; rfl)
        have hkc : Kp NoB W (V2.setCells g4 0 JP.toList) := Kp.setCells (S := NoB) (.inl hg4) _ _ _ k2
        refine AllReadyH.storeL rfl (by rfl) g4 0 JP rfl rfl (hb4.thereAll _ (by rw [JPS.out, zero256_eq, bytesV_size]; rfl)) (by rw [JPS.out]; exact info26) JPO.out hkc ?_ AllReadyH.nil
        generalize V2.setCells g4 0 JP.toList = W9 at hbe hkc ⊢
        refine tkS (i := 11) (v := (.int .i64 JE)) rfl (Or.inl ⟨by rfl, fun w' hq => by go_simp⟩) hkc ?_
        simp only [Act.put, skA, skB, skC]
        refine wpAnyH_done (by kernel_rfl) ?_ _
        exact intoG_of g4 ⟨hbe, hkc⟩ rfl
      · refine AllReadyH.valR (fun W' => W' = V0.alloc (.cells zero256 24)) rfl (by rfl) _ _ (alloc26 V0 _ _ _ _ _ _) (fun W' e => by rw [e]; exact k0.alloc _) rfl ?_ AllReadyH.nil
        rintro _ rfl
        have hb4 : Blk (V0.alloc (.cells zero256 24)) V0.heap.size 24 zero256 := Blk.new _ _ _
        have k1 : Kp NoB W (V0.alloc (.cells zero256 24)) := k0.alloc _
        have hg4 : W.heap.size ≤ V0.heap.size := k0.size
        generalize V0.alloc (.cells zero256 24) = V1 at hb4 k1 ⊢
        generalize V0.heap.size = g4 at hb4 hg4 ⊢
        simp only [Act.put, skA, skB, skC]
        refine wpAnyH_ready (rs := [5]) (by kernel_rfl) (by simp) ?_
        refine AllReadyH.callR (fun y W' => y = .tuple #[.agg JP, .int .i64 JE] ∧ Kp NoB V1 W') rfl (by rfl) 11 #[ptrV db, .int .i64 n] (by first | (go_simp; done) | (go_simp; rfl)) (fun _ _ q => k1.trans q.2 (fun _ _ z => z)) ((page_q ((HQ.out.keep (HKW.out)).keep k1) n HN.out).mono (by rintro e w19 ⟨rfl, hk⟩; exact ⟨_, rfl, by rw [HJP.out, HJE.out], hk⟩)) ?_ AllReadyH.nil
        rintro y V2 ⟨rfl, kk2⟩
        have k2 := k1.trans kk2 (fun _ _ z => z)
        have hb4 := hb4.keep kk2 (fun q => q)
        simp only [Act.put, skA, skB, skC]
        refine tkS (i := 6) (v := .tuple #[.agg JP, .int .i64 JE]) rfl (Or.inl ⟨by rfl, fun w' hq => by go_simp⟩) k2 ?_
        simp only [Act.put, skA, skB, skC]
        refine tkS (i := 7) (v := (.agg JP)) rfl (Or.inl ⟨by rfl, fun w' hq => by go_simp⟩) k2 ?_
        simp only [Act.put, skA, skB, skC]
        refine tkS (i := 8) (v := (.int .i64 JE)) rfl (Or.inl ⟨by rfl, fun w' hq => by go_simp⟩) k2 ?_
        simp only [Act.put, skA, skB, skC]
        refine wpAnyH_ready (rs := [10]) (by kernel_rfl) (by simp) ?_
        have hbe := hb4.whole JP (by rw [JPS.out, zero256_eq, bytesV_size]; rfl)
        have hkc : Kp NoB W (V2.setCells g4 0 JP.toList) := Kp.setCells (S := NoB) (.inl hg4) _ _ _ k2
        refine AllReadyH.storeL rfl (by rfl) g4 0 JP rfl rfl (hb4.thereAll _ (by rw [JPS.out, zero256_eq, bytesV_size]; rfl)) (by rw [JPS.out]; exact info26) JPO.out hkc ?_ AllReadyH.nil
        generalize V2.setCells g4 0 JP.toList = W9 at hbe hkc ⊢
        refine tkS (i := 11) (v := (.int .i64 JE)) rfl (Or.inl ⟨by rfl, fun w' hq => by go_simp⟩) hkc ?_
        simp only [Act.put, skA, skB, skC]
        refine wpAnyH_done (by kernel_rfl) ?_ _
        exact intoG_of g4 ⟨hbe, hkc⟩ rfl
    rintro g9 W9 ⟨hb9, hk9⟩
    have t9 := hb9.thereAll 256 JPS.out
    have r9 := hb9.readAll 256 JPS.out
    have o9 := JPO.out
    have s9 := JPS.out
    have hP9 := (HP.out.keep HI.out.2 (fun q => q)).keep hk9 (fun q => q)
    have tp := hP9.thereAll 256 (by rw [zero256_eq, bytesV_size]; rfl)
    have HP9 := Lib.hid hP9
    have HK9 := Lib.hid (HKW.out.trans hk9 (fun _ _ q => q))
    have HD9 : Hid (W9.heap[D]? = some (.deferred (some []))) := Lib.hid ((hk9.block D (lt_of_heap HK.out) (fun q => q)).trans HK.out)
    clear hb9 hk9 hP9
    gi_wp2
    have hD9 : (W9.setCells (s0 + 1) 0 JP.toList).heap[D]? = some (.deferred (some [])) := by
      have kk : Kp (OnB (s0 + 1)) W9 (W9.setCells (s0 + 1) 0 JP.toList) := Kp.setCells (S := OnB (s0 + 1)) (g := s0 + 1) (.inr rfl) _ _ _ (Kp.refl _ _)
      exact (kk.block D (lt_of_heap HD9.out) (by have := HSZ.out; have := HD.out; unfold OnB; omega)).trans HD9.out
    have hbp := HP9.out.whole JP (by rw [JPS.out, zero256_eq, bytesV_size]; rfl)
    have hbp2 := blkOwn hbp (grownBy_putObj' _ D (.deferred none)) (fun r e => by cases e; exact ⟨_, hD9, rfl⟩)
    refine leaveM hD9 (ret_cell1 rfl _ _ _ _ _ _ rfl hbp2 Try.underlying24 rfl (by rw [JPS.out]; exact info26)) ⟨by rw [HRJ.out], ?_⟩
    exact (Kp.setCells (.inl (by have := HS0.out; omega)) _ _ _ HK9.out).grownBy (grownBy_putObj' _ D _) (fun r e => by cases e; have := HS0.out; have := HSZ.out; have := HD.out; omega)
  case stop =>
    rintro D c pre W hD ⟨k, hk, rfl⟩ ⟨rfl, h1, h2⟩ hK
    obtain ⟨pre', x, he, h3, h4, hb⟩ := h1
    obtain ⟨hx, hj⟩ : x < m ∧ ∀ j, j < x → (frK fs m j).n ≠ n := by
      cases k with
      | zero => exact absurd (congrArg List.length he) (by simp)
      | succ k =>
        rw [List.range_succ] at he
        obtain ⟨e1, e2⟩ := List.append_inj' he rfl
        injection e2 with e2
        subst e2 e1
        exact ⟨by omega, fun j hj => h3 j (List.mem_range.2 hj)⟩
    have hpg : RP = bytesV (frK fs m x).b := by
      rw [← HRP.out]
      unfold wpage
      rw [Int.toNat_natCast, lastFr_at fs m x n HM.out hx hj h4]
      rfl
    rw [← hpg] at hb
    have HPL : Hid (RP.size = 256) := Lib.hid (by rw [hpg, bytesV_size, (HOK.out (by omega) x).len])
    have HB := Lib.hid hb
    have HK := Lib.hid hK
    have HD := Lib.hid hD
    have H2 := Lib.hid h2
    clear hb hK hD h2 hpg
    gi_wp2
    have hbp2 := blkOwn HB.out (grownBy_putObj' _ D (.deferred none)) (fun r e => by cases e; exact ⟨_, HK.out, rfl⟩)
    refine leaveM HK.out (ret_cell1 rfl _ _ _ _ _ _ rfl hbp2 Try.underlying24 rfl (by rw [HPL.out]; exact info26)) ⟨rfl, ?_⟩
    have hkw : Kp (OnB (s0 + 1)) w2 (W.putObj D (.deferred none)) := H2.out.grownBy (grownBy_putObj' _ D _) (fun r e => by cases e; exact HD.out)
    exact HK2.out.trans hkw (fun b hb q => by have := HS0.out; unfold OnB at q; omega)
end Go.Proofs.Ytegcbdfilkecpaa
/- The log asked for a page; condition: a disk. -/
namespace Go.Proofs.Ytegcbdfilkecpaa
open Go.RowKit

namespace Pl
def wpg (p : Pl) (m n : Int) : List Int × Int := if p.wopen.1 ≠ 0 then (zeros 256, p.wopen.1) else if isMark p.wopen.2 m = false then (zeros 256, 4) else if n < 1 ∨ wcount p p.wopen.2 m < n then (zeros 256, 4) else (wpage p p.wopen.2 m n, 0)
end Pl
theorem mark_nat {fs : List Fr} {m : Int} (h : isMark fs m = true) : ∃ k : Nat, m = k ∧ k ≤ fs.length := by
  rcases mark_cases fs m with rfl | hm | hm | ⟨i, hi, rfl⟩
  · exact ⟨0, rfl, Nat.zero_le _⟩
  · unfold isMark at h
    rw [decide_eq_false (by omega), decide_eq_false (by omega)] at h
    cases h
  · unfold isMark at h
    rw [decide_eq_false (by omega), decide_eq_false (by omega)] at h
    cases h
  · exact ⟨i + 1, rfl, hi⟩
theorem frs_ok {l : List Int} (hl : ∀ y ∈ l, 0 ≤ y ∧ y < 256) {p : Pl} (he : p.wopen.1 = 0) (hs : p.seen nmWal = l) : ∀ f ∈ p.wopen.2, FrOk f := by
  revert he
  unfold Pl.wopen
  split
  · intro he; cases he
  · split
    · intro he; cases he
    · cases hf : frsAt (p.seen nmWal) p.whead.a.toNat with
      | none => intro he; cases he
      | some g =>
        dsimp only
        split
        · intro he; cases he
        · intro _
          exact frsAt_ok (by rw [hs]; exact hl) hf
theorem wpage_len {fs : List Fr} (hok : ∀ f ∈ fs, FrOk f) (p : Pl) (m n : Int) : (wpage p fs m n).length = 256 := by
  unfold wpage
  split
  · rename_i f hf
    exact (hok f (List.mem_of_mem_take (List.mem_reverse.1 (List.mem_of_find?_eq_some hf)))).len
  · unfold Pl.jpage
    split
    · exact sizedF_len _ _
    · exact zeros256
section
variable {S : Nat → Prop} {W0 w : World} {db : Nat} {p : Pl}
attribute [local go_sem ↓] load26 store26 alloc26 build26
set_option maxRecDepth 100000 in
set_option maxHeartbeats 1600000 in
theorem wpg_q (h : Dq S W0 w db p) (m n : Int) (hn : -9223372036854775808 ≤ n ∧ n ≤ 9223372036854775807) :
    Calls Try.prog 44 #[ptrV db, .int .i64 m, .int .i64 n] w fun e w' => e = .returned (.tuple #[.agg (bytesV (p.wpg m n).1), .int .i64 (p.wpg m n).2]) ∧ Kp NoB w w' := by
  have H := Lib.hid h
  have HN := Lib.hid hn
  have HB0 := Lib.hid (Blk.new w 24 zero256)
  have HK0 := Lib.hid ((Kp.refl NoB w).alloc (.cells zero256 24))
  have oz : ones zero256 := by rw [zero256_eq]; exact bytesV_one _
  have sz : zero256.size = 256 := by rw [zero256_eq, bytesV_size]; rfl
  have HSZ := Lib.hid sz
  have HZ : Hid (bytesV (zeros 256) = zero256) := Lib.hid zero256_eq.symm
  obtain ⟨RP, hRP⟩ : ∃ RP, bytesV (p.wpg m n).1 = RP := ⟨_, rfl⟩
  obtain ⟨RE, hRE⟩ : ∃ RE, (p.wpg m n).2 = RE := ⟨_, rfl⟩
  rw [hRP, hRE]
  have HRP := Lib.hid hRP
  have HRE := Lib.hid hRE
  clear h hn hRP hRE
  unfold ptrV
  go_enter Try.func44, Try.ntmps44
  go_wp2_with fail
  refine (show Calls _ _ #[ptrV db, .int .i64 m] _ _ from asked_q (H.out.keep HK0.out) m).mono ?_
  rintro e w1 (⟨he, rfl, hk⟩ | ⟨he, lb, A, c, rfl, hl, hg, hk⟩)
  · have HK := Lib.hid hk
    have HE : Hid (RP = zero256 ∧ RE = p.wopen.1) := Lib.hid (by
      have e1 : p.wpg m n = (zeros 256, p.wopen.1) := by unfold Pl.wpg; rw [if_pos he]
      rw [← HRP.out, ← HRE.out, e1]
      exact ⟨HZ.out, rfl⟩)
    have he1 : (p.wopen.1 == 0) = false := by simpa using he
    have he2 : (p.wopen.1 != 0) = true := by simpa using he
    obtain ⟨e0, q0⟩ : ∃ e0, p.wopen.1 = e0 := ⟨_, rfl⟩
    rw [q0] at he1 he2 HE ⊢
    have hb2 := HB0.out.keep hk (fun q => q)
    have HB2 := Lib.hid hb2
    have t2 : w1.there w.heap.size 0 256 := hb2.thereAll 256 HSZ.out
    clear hk he q0 hb2
    go_wp2_with fail
    refine bodyPost_ret (ret_cell_tmp rfl _ _ _ _ _ _ rfl (HB2.out.whole zero256 rfl) Try.underlying24 rfl (by rw [HSZ.out]; exact info26) _ rfl) rfl ⟨by rw [HE.out.1, HE.out.2]; rfl, ?_⟩
    exact Kp.setCells (.inl (Nat.le_refl _)) _ _ _ (HK0.out.trans HK.out (fun _ _ q => q))
  · have HK := Lib.hid hk
    have HL := Lib.hid hl
    have HE0 := Lib.hid he
    have hb2 := HB0.out.keep hk (fun q => q)
    have HB2 := Lib.hid hb2
    have t2 : w1.there w.heap.size 0 256 := hb2.thereAll 256 HSZ.out
    cases hmk : isMark p.wopen.2 m with
    | false =>
      have HE : Hid (RP = zero256 ∧ RE = 4) := Lib.hid (by
        have e1 : p.wpg m n = (zeros 256, 4) := by unfold Pl.wpg; rw [if_neg (by rw [he]; simp), if_pos hmk]
        rw [← HRP.out, ← HRE.out, e1]
        exact ⟨HZ.out, rfl⟩)
      rw [if_neg (by simp)]
      clear hk hl he hg hmk hb2
      go_wp2_with fail
      refine bodyPost_ret (ret_cell_tmp rfl _ _ _ _ _ _ rfl (HB2.out.whole zero256 rfl) Try.underlying24 rfl (by rw [HSZ.out]; exact info26) _ rfl) rfl ⟨by rw [HE.out.1, HE.out.2]; rfl, ?_⟩
      exact Kp.setCells (.inl (Nat.le_refl _)) _ _ _ (HK0.out.trans HK.out (fun _ _ q => q))
    | true =>
      rw [if_pos rfl]
      by_cases h1 : n < 1
      · have HE : Hid (RP = zero256 ∧ RE = 4) := Lib.hid (by
          have e1 : p.wpg m n = (zeros 256, 4) := by unfold Pl.wpg; rw [if_neg (by rw [he]; simp), if_neg (by rw [hmk]; simp), if_pos (.inl h1)]
          rw [← HRP.out, ← HRE.out, e1]
          exact ⟨HZ.out, rfl⟩)
        clear hk hl he hg hmk hb2
        go_wp2_with fail
        refine bodyPost_ret (ret_cell_tmp rfl _ _ _ _ _ _ rfl (HB2.out.whole zero256 rfl) Try.underlying24 rfl (by rw [HSZ.out]; exact info26) _ rfl) rfl ⟨by rw [HE.out.1, HE.out.2]; rfl, ?_⟩
        exact Kp.setCells (.inl (Nat.le_refl _)) _ _ _ (HK0.out.trans HK.out (fun _ _ q => q))
      · have HM := Lib.hid hmk
        by_cases h2 : wcount p p.wopen.2 m < n
        · have HE : Hid (RP = zero256 ∧ RE = 4) := Lib.hid (by
            have e1 : p.wpg m n = (zeros 256, 4) := by unfold Pl.wpg; rw [if_neg (by rw [he]; simp), if_neg (by rw [hmk]; simp), if_pos (.inr h2)]
            rw [← HRP.out, ← HRE.out, e1]
            exact ⟨HZ.out, rfl⟩)
          clear hk hl he hg hmk hb2
          go_wp2_with fail
          refine (wcount_q ((H.out.keep HK0.out).keep HK.out) HL.out m HM.out).mono ?_
          rintro e w3 ⟨rfl, rfl⟩
          generalize wcount p p.wopen.2 m = J at h2 ⊢
          go_wp2_with fail
          refine bodyPost_ret (ret_cell_tmp rfl _ _ _ _ _ _ rfl (HB2.out.whole zero256 rfl) Try.underlying24 rfl (by rw [HSZ.out]; exact info26) _ rfl) rfl ⟨by rw [HE.out.1, HE.out.2]; rfl, ?_⟩
          exact Kp.setCells (.inl (Nat.le_refl _)) _ _ _ (HK0.out.trans HK.out (fun _ _ q => q))
        · have e1 : p.wpg m n = (wpage p p.wopen.2 m n, 0) := by unfold Pl.wpg; rw [if_neg (by rw [he]; simp), if_neg (by rw [hmk]; simp), if_neg (by omega)]
          have HE : Hid (RP = bytesV (wpage p p.wopen.2 m n) ∧ RE = 0) := Lib.hid (by
            rw [← HRP.out, ← HRE.out, e1]
            exact ⟨rfl, rfl⟩)
          have HPS : Hid (RP.size = 256) := Lib.hid (by rw [HE.out.1, bytesV_size, wpage_len (frs_ok (H.out.seen_rng nmWal) he rfl)])
          have HPO : Hid (ones RP) := Lib.hid (by rw [HE.out.1]; exact bytesV_one _)
          clear hk hl he hg hmk hb2 e1
          go_wp2_with fail
          refine (wcount_q ((H.out.keep HK0.out).keep HK.out) HL.out m HM.out).mono ?_
          rintro e w3 ⟨rfl, rfl⟩
          obtain ⟨J, hJ⟩ : ∃ J, wcount p p.wopen.2 m = J := ⟨_, rfl⟩
          rw [hJ] at h2 ⊢
          clear hJ
          go_wp2_with fail
          obtain ⟨k, hk, hkl⟩ := mark_nat HM.out
          have hcall := wlpage_q ((H.out.keep HK0.out).keep HK.out) HL.out k hkl n HN.out
          rw [← hk, ← HE.out.1] at hcall
          refine hcall.mono ?_
          clear hcall hk hkl
          rintro e w4 ⟨rfl, hk4⟩
          have hb4 := HB2.out.keep hk4 (fun q => q)
          have HB4 := Lib.hid hb4
          have t4 : w4.there w.heap.size 0 256 := hb4.thereAll 256 HSZ.out
          have HK4 := Lib.hid hk4
          have o4 := HPO.out
          have s4 := HPS.out
          clear hk4 hb4
          go_wp2_with fail
          refine bodyPost_ret (ret_cell_tmp rfl _ _ _ _ _ _ rfl (HB4.out.whole RP (by rw [HPS.out, HSZ.out])) Try.underlying24 rfl (by rw [HPS.out]; exact info26) _ rfl) rfl ⟨by rw [HE.out.2]; rfl, ?_⟩
          exact Kp.setCells (.inl (Nat.le_refl _)) _ _ _ ((HK0.out.trans HK.out (fun _ _ q => q)).trans HK4.out (fun _ _ q => q))
end
end Go.Proofs.Ytegcbdfilkecpaa
/- The log: all its marks; condition: a disk. -/
namespace Go.Proofs.Ytegcbdfilkecpaa
open Go.RowKit
theorem infoIntW : (Try.prog.info? 3).map (fun i => (i.zero, i.size, i.bytes)) = some (some (.int .i64 0), 1, 8) := by kernel_rfl
/-- the marks below a number -/
def marksTo (fs : List Fr) (n : Nat) : List Int := ((List.range n).filter fun (i : Nat) => isMark fs (i : Int)).map fun (i : Nat) => (i : Int)
theorem marksTo_succ (fs : List Fr) (n : Nat) : marksTo fs (n + 1) = if isMark fs (n : Int) = true then marksTo fs n ++ [(n : Int)] else marksTo fs n := by
  unfold marksTo
  rw [List.range_succ, List.filter_append, List.map_append]
  by_cases h : isMark fs (n : Int) = true
  · rw [if_pos h]; simp [h]
  · rw [if_neg h]; simp [h]
theorem marksTo_len (fs : List Fr) (n : Nat) : (marksTo fs n).length ≤ n := by
  unfold marksTo
  rw [List.length_map]
  exact Nat.le_trans (List.length_filter_le _ _) (by simp)
theorem wopen_len {p : Pl} (he : p.wopen.1 = 0) : p.wopen.2.length ≤ 1048576 := by
  revert he
  unfold Pl.wopen
  split
  · intro he; cases he
  · split
    · intro he; cases he
    · rename_i hb
      cases hf : frsAt (p.seen nmWal) p.whead.a.toNat with
      | none => intro he; cases he
      | some g =>
        dsimp only
        split
        · intro he; cases he
        · intro _
          show g.length ≤ _
          rw [frsAt_len hf]
          omega
def MarksPost (p : Pl) (w : World) (e : Ending) (w' : World) : Prop :=
  (p.wopen.1 ≠ 0 ∧ e = .returned (.tuple #[.slice none 0 0, .int .i64 p.wopen.1]) ∧ Kp NoB w w') ∨
  (p.wopen.1 = 0 ∧ ∃ v, e = .returned (.tuple #[v, .int .i64 0]) ∧ w'.ownsRow w.heap.size 3 1 v (marksTo p.wopen.2 (p.wopen.2.length + 1)).length ((marksTo p.wopen.2 (p.wopen.2.length + 1)).map (Value.int .i64)) ∧ Kp NoB w w')
set_option maxRecDepth 100000 in
set_option maxHeartbeats 1600000 in
theorem wmarks_q {S : Nat → Prop} {W0 w : World} {db : Nat} {p : Pl} (hq : Dq S W0 w db p) : Calls Try.prog 38 #[ptrV db] w (MarksPost p w) := by
  have HQ := Lib.hid hq
  clear hq
  unfold ptrV
  go_enter Try.func38, Try.ntmps38
  go_wp2_with fail
  refine (show Calls _ _ #[ptrV db] _ _ from wopen_q HQ.out).mono ?_
  rintro e w1 (⟨he, rfl, hk⟩ | ⟨he, lb, A, c, rfl, hb, ho, hg, hk⟩)
  · have HP : Hid (∀ e0, p.wopen.1 = e0 → MarksPost p w (.returned (.tuple #[.slice none 0 0, .int .i64 e0])) w1) := Lib.hid (fun e0 q => .inl ⟨he, by rw [q], hk⟩)
    have he1 : (p.wopen.1 == 0) = false := by simpa using he
    have he2 : (p.wopen.1 != 0) = true := by simpa using he
    obtain ⟨e0, q0⟩ : ∃ e0, p.wopen.1 = e0 := ⟨_, rfl⟩
    have HP1 := Lib.hid (HP.out e0 q0)
    rw [q0] at he1 he2 ⊢
    clear hk he q0 HP
    go_wp2_with fail
    go_ret2
    exact HP1.out
  · have hl := lg_of (HQ.out.seen_rng nmWal) he hb ho
    have HL := Lib.hid hl
    have HE := Lib.hid he
    have HK := Lib.hid hk
    have c5 : w1.cell? ⟨lb, 5, none⟩ = some (.slice A p.wopen.2.length c) := hb.cell 5
    have hln : p.wopen.2.length ≤ 1048576 := wopen_len he
    have hw1 : IntKind.i64.wrap ((p.wopen.2.length : Int) + 1) = (p.wopen.2.length : Int) + 1 := by rw [IntKind.wrap_i64]; omega
    obtain ⟨N, hN⟩ : ∃ N, p.wopen.2.length = N := ⟨_, rfl⟩
    rw [hN] at c5 hw1 hln
    have HN := Lib.hid hN
    clear hl he hb ho hg hk hN
    go_wp2_with fail
    go_loopw [6, 22] (fun v6 v W => ∃ k : Nat, v = .int .i64 (k : Int) ∧ k ≤ N + 1 ∧ W.ownsRow w1.heap.size 3 1 v6 (marksTo p.wopen.2 k).length ((marksTo p.wopen.2 k).map (Value.int .i64)) ∧ Kp NoB w1 W) (fun _ v _ => N + 1 - (intOf v).toNat)
    case atStart => exact ⟨0, rfl, by omega, World.ownsRow_nil _ _ _ _, Kp.refl _ _⟩
    case round =>
      obtain ⟨wq, rfl⟩ : ∃ wq, wq = wr := ⟨_, rfl⟩
      obtain ⟨k, rfl, hk, how, hkp⟩ := hrel
      obtain ⟨A6, c6, rfl⟩ := own_slice how
      have HOW := Lib.hid how
      have HKP := Lib.hid hkp
      have c5 := (HL.out.keep hkp).cl.2
      have hs := marksTo_succ p.wopen.2 k
      have HS := Lib.hid hs
      have HML := Lib.hid (marksTo_len p.wopen.2 k)
      clear how hkp hs
      by_cases hlt : k < N + 1
      · have hkk : (k : Int) < (N : Int) + 1 := by omega
        go_wp2_with fail
        refine (is_q (HL.out.keep HKP.out) (k : Int)).mono ?_
        rintro e w2 ⟨rfl, rfl⟩
        cases hmk : isMark p.wopen.2 (k : Int) with
        | false =>
          have HM := Lib.hid hmk
          clear hmk
          go_wp2_with fail
          go_roundw
          case rel => exact ⟨k + 1, by go_num, by omega, by rw [HS.out, if_neg (by rw [HM.out]; simp)]; exact HOW.out, HKP.out⟩
          case measure => simp [intOf]; omega
        | true =>
          have HM := Lib.hid hmk
          have hml := HML.out
          obtain ⟨xs, hxs⟩ : ∃ xs, marksTo p.wopen.2 k = xs := ⟨_, rfl⟩
          have HX := Lib.hid hxs
          rw [hxs] at HOW HML hml ⊢
          obtain ⟨j0, hj0, hy0, hy1, hy2⟩ := info_parts infoIntW
          have HJ0 := Lib.hid hj0
          have HY0 := Lib.hid hy0
          have HY1 := Lib.hid hy1
          have HY2 := Lib.hid hy2
          clear hmk hxs hj0 hy0 hy1 hy2
          go_wp2_with (at_builtin; refine wpList_append_ownB rfl _ _ 58 rfl w1.heap.size 3 j0 _ 1 8 Try.underlying58 HJ0.out HY0.out HY1.out HY2.out rfl (by omega) _ xs.length (xs.map (Value.int .i64)) rfl (own_keepB HOW.out ((Kp.refl NoB wq).alloc _) (fun _ _ q => q)) ⟨wq.heap.size, 0, none⟩ 1 1 [_] rfl rfl (cell_one_new _ _ _) (by simp [Value.oneCell']) (by unfold maxLen; omega) (by omega) (by have := HKP.out.size; simp; omega) ?_; intro v7 w7 hown7 hgrow7 hb7; have hk7 := ((HKP.out).alloc (.cells #[.int .i64 (k : Int)] 3)).own hgrow7 rfl HOW.out; have HO7 := Lib.hid hown7; have HK7 := Lib.hid hk7; clear hown7 hgrow7 hb7 hk7)
          go_roundw
          case rel => exact ⟨k + 1, by go_num, by omega, by rw [HS.out, if_pos HM.out, HX.out, List.length_append, List.map_append]; exact HO7.out, HK7.out⟩
          case measure => simp [intOf]; omega
      · have hkk : ¬ (k : Int) < (N : Int) + 1 := by omega
        obtain rfl : k = N + 1 := by omega
        go_wp2_with fail
        go_ret2
        exact .inr ⟨HE.out, _, rfl, by rw [HN.out]; exact HOW.out.mono HK.out.size, HK.out.trans HKP.out (fun _ _ q => q)⟩
end Go.Proofs.Ytegcbdfilkecpaa
/- The log: may pages be changed; no condition but on the counts. -/
namespace Go.Proofs.Ytegcbdfilkecpaa
open Go.RowKit

section
attribute [local go_sem ↓] loadPg storePg allocPg
def WFiRel (w : World) (old count : Int) (l : List Pg) (v7 v8 v19 : Value) (wr : World) : Prop :=
  ∃ (last : Int) (ab k : Nat), v7 = .int .i64 last ∧ v8 = .int .i64 (ab : Int) ∧ v19 = .int .i64 (k : Int) ∧ k ≤ l.length ∧ ab ≤ k ∧ chainPg count 0 l = chainPg count last (l.drop k) ∧ above old l = ab + above old (l.drop k) ∧ Kp NoB w wr
set_option maxRecDepth 100000 in
set_option maxHeartbeats 1600000 in
theorem wfit_q (w : World) (old count : Int) (ho : 0 ≤ old ∧ old ≤ 4096) (hc : -9223372036854775808 ≤ count ∧ count ≤ 9223372036854775807) (A : Option Addr) (n cap : Nat) (l : List Pg) (hl : PgsAt w A n l) (hok : ∀ x ∈ l, PgOk x) (hnn : n < 1099511627776) :
    Calls Try.prog 107 #[.int .i64 old, .int .i64 count, .slice A n cap] w fun e w' => e = .returned (.bool (fitPg old count l)) ∧ Kp NoB w w' := by
  have HL := Lib.hid hl
  have HOK := Lib.hid hok
  have HLN := Lib.hid hl.len
  have HO := Lib.hid ho
  clear hl hok ho
  by_cases h1 : count < 0
  · have e1 : fitPg old count l = false := by unfold fitPg; rw [decide_eq_false (by omega)]; rfl
    rw [e1]
    clear e1
    go_enter Try.func107, Try.ntmps107
    go_wp2_with fail
    go_ret
    exact ⟨rfl, Kp.refl _ _⟩
  · by_cases h2 : 4096 < count
    · have e1 : fitPg old count l = false := by unfold fitPg; rw [decide_eq_false (by omega)]; rfl
      rw [e1]
      clear e1
      go_enter Try.func107, Try.ntmps107
      go_wp2_with fail
      go_ret
      exact ⟨rfl, Kp.refl _ _⟩
    · have e1 : fitPg old count l = (chainPg count 0 l && decide ((above old l : Int) = max 0 (count - old))) := by unfold fitPg; rw [decide_eq_true (by omega)]; rfl
      obtain ⟨B, hB⟩ : ∃ B, fitPg old count l = B := ⟨_, rfl⟩
      rw [hB] at e1 ⊢
      have HE := Lib.hid e1
      have HC := Lib.hid (show 0 ≤ count ∧ count ≤ 4096 by omega)
      clear e1 hB
      go_enter Try.func107, Try.ntmps107
      go_wp2_with fail
      go_loopw [7, 8, 19] (fun v7 v8 v19 wr => WFiRel w old count l v7 v8 v19 wr) (fun _ _ v _ => n - (intOf v).toNat)
      case atStart => exact ⟨0, 0, 0, rfl, rfl, rfl, Nat.zero_le _, Nat.le_refl _, rfl, by simp, Kp.refl _ _⟩
      case round =>
        obtain ⟨last, ab, k, rfl, rfl, rfl, hk, hab, hch, habv, hkp⟩ := hrel
        have HCH := Lib.hid hch
        have HAV := Lib.hid habv
        have HKP := Lib.hid hkp
        have hlr := HL.out.keep hkp
        clear hch habv hkp
        by_cases hlt : k < n
        · have hkk : (k : Int) < (n : Int) := by omega
          obtain ⟨g, o, rfl, hg, t1, r1⟩ := hlr.at_ k hlt
          obtain ⟨x, hx⟩ : ∃ x, l[k]? = some x := ⟨_, List.getElem?_eq_getElem (by rw [HLN.out]; exact hlt)⟩
          have hxe : l[k]'(by rw [HLN.out]; exact hlt) = x := (List.getElem?_eq_some_iff.1 hx).2
          rw [hxe] at r1
          have hxo := HOK.out x (List.mem_of_getElem? hx)
          have hdr : l.drop k = x :: l.drop (k + 1) := by rw [← hxe]; exact List.drop_eq_getElem_cons (by rw [HLN.out]; exact hlt)
          have HDR := Lib.hid hdr
          have hb := Blk.new wr 113 (pgA ⟨0, zeros 256⟩)
          have hb2 := hb.whole (pgA x) (by rw [pgA_size hxo]; rfl)
          have t2 := hb.thereAll 257 rfl
          have o1 := pgA_ones x
          have s1 := pgA_size hxo
          have hc0 := hb2.cell 0
          rw [show (pgA x)[0]? = some (.int .i64 x.n) from rfl] at hc0
          have HK3 := Lib.hid (show Kp NoB wr ((wr.alloc (.cells (pgA ⟨0, zeros 256⟩) 113)).setCells wr.heap.size 0 (pgA x).toList) from Kp.setCells (.inl (Nat.le_refl _)) _ _ _ ((Kp.refl _ _).alloc _))
          obtain ⟨RR, hRR⟩ : ∃ RR, pgA x = RR := ⟨_, rfl⟩
          rw [hRR] at r1 o1 s1 hc0 HK3
          have hch2 : chainPg count last (l.drop k) = (decide (last < x.n ∧ x.n ≤ count) && chainPg count x.n (l.drop (k + 1))) := by rw [hdr]; rfl
          have hav2 : above old (l.drop k) = above old (l.drop (k + 1)) + if old < x.n then 1 else 0 := by rw [hdr]; exact above_cons _ _ _
          rw [hch2] at HCH
          rw [hav2] at HAV
          obtain ⟨xn, hxn⟩ : ∃ xn, x.n = xn := ⟨_, rfl⟩
          rw [hxn] at hc0 HCH HAV
          clear hRR hlr hb hb2 hx hxe hxo hdr hch2 hav2 hxn HDR
          by_cases hle : xn ≤ last
          · have hnl : ¬ last < xn := by omega
            rw [decide_eq_false (by omega)] at HCH
            go_wp2_with fail
            go_ret
            rw [HE.out, HCH.out]
            exact ⟨rfl, HKP.out.trans HK3.out (fun _ _ q => q)⟩
          · have hnl : last < xn := by omega
            by_cases hgt : count < xn
            · rw [decide_eq_false (by omega)] at HCH
              go_wp2_with fail
              go_ret
              rw [HE.out, HCH.out]
              exact ⟨rfl, HKP.out.trans HK3.out (fun _ _ q => q)⟩
            · rw [decide_eq_true (by omega), Bool.true_and] at HCH
              by_cases hol : old < xn
              · rw [if_pos hol] at HAV
                go_wp2_with fail
                go_roundw
                case rel => exact ⟨xn, ab + 1, k + 1, rfl, by go_num, by go_num, by have := HLN.out; omega, by omega, HCH.out, by rw [HAV.out]; omega, HKP.out.trans HK3.out (fun _ _ q => q)⟩
                case measure => simp [intOf]; omega
              · rw [if_neg hol] at HAV
                go_wp2_with fail
                go_roundw
                case rel => exact ⟨xn, ab, k + 1, rfl, rfl, by go_num, by have := HLN.out; omega, by omega, HCH.out, by rw [HAV.out]; omega, HKP.out.trans HK3.out (fun _ _ q => q)⟩
                case measure => simp [intOf]; omega
        · have hkk : ¬ (k : Int) < (n : Int) := by omega
          obtain rfl : k = n := by have := HLN.out; omega
          have hd0 : l.drop k = [] := List.drop_eq_nil_of_le (by rw [HLN.out]; omega)
          rw [hd0] at HCH HAV
          have HF : Hid (B = decide ((ab : Int) = max 0 (count - old))) := Lib.hid (by
            rw [HE.out, HCH.out, HAV.out]
            rfl)
          have hw1 : IntKind.i64.wrap (count - old) = count - old := by have := HO.out; have := HC.out; rw [IntKind.wrap_i64]; omega
          clear hlr hd0 HCH HAV
          rcases (show count - old < 0 ∨ count - old = 0 ∨ 0 < count - old by omega) with hs | hs | hs
          all_goals
            go_wp2_with fail
            go_ret
            rw [HF.out]
            refine ⟨?_, HKP.out⟩
            show Ending.returned (Value.bool _) = _
            congr 2
            rw [Bool.eq_iff_iff, beq_iff_eq, decide_eq_true_iff]
            omega
end
end Go.Proofs.Ytegcbdfilkecpaa
/- The log: steps one behind the other, till one is refused; no condition. -/
namespace Go.Proofs.Ytegcbdfilkecpaa
open Go.RowKit

def WChRel (g o n : Nat) (Q : Int → World → Prop) (v : Value) (wr : World) : Prop := ∃ (i : Nat) (l : List (Nat × Array Value × Array Value)), v = .int .i64 (i : Int) ∧ i + l.length = n ∧ Chain g o i l Q wr
set_option maxRecDepth 100000 in
set_option maxHeartbeats 800000 in
theorem wsteps_ok (w : World) (g o n cap : Nat) (l : List (Nat × Array Value × Array Value)) (Q : Int → World → Prop) (hl : l.length = n) (hn : n < 1099511627776) (h : Chain g o 0 l Q w) :
    Calls Try.prog 102 #[.slice (some ⟨g, o, none⟩) n cap] w fun e w' => ∃ x : Int, e = .returned (.int .i64 x) ∧ Q x w' := by
  have H := Lib.hid h
  have HL := Lib.hid hl
  clear h hl
  go_enter Try.func102, Try.ntmps102
  go_wp2_with fail
  go_loopw [8] (fun v wr => WChRel g o n Q v wr) (fun v _ => n - (intOf v).toNat)
  case atStart => exact ⟨0, l, rfl, by have := HL.out; omega, H.out⟩
  case round =>
    obtain ⟨i, l', rfl, hi, hc⟩ := hrel
    cases l' with
    | nil =>
      have hii : ¬ (i : Int) < (n : Int) := by simp at hi; omega
      have HC := Lib.hid (show Q 0 wr from hc)
      clear hc hi
      go_wp2_with fail
      go_ret
      exact ⟨0, rfl, HC.out⟩
    | cons x r =>
      obtain ⟨f, a, c⟩ := x
      obtain ⟨h1, h2, h3⟩ := hc
      have hii : (i : Int) < (n : Int) := by simp at hi; omega
      have HI := Lib.hid hi
      clear hi
      have H3 := Lib.hid h3
      clear h3
      go_wp2_with fail
      refine H3.out.mono ?_
      rintro e w' ⟨x, rfl, hx0, hx1⟩
      have HX0 := Lib.hid hx0
      have HX1 := Lib.hid hx1
      clear hx0 hx1
      by_cases hx : x = 0
      · subst hx
        have HX := Lib.hid (HX1.out rfl)
        go_wp2_with fail
        go_roundw
        case rel => exact ⟨i + 1, r, by go_num, by have := HI.out; simp at this; omega, HX.out⟩
        case measure => simp [intOf]; omega
      · have HX := Lib.hid (HX0.out hx)
        go_wp2_with fail
        go_ret
        exact ⟨x, rfl, HX.out⟩
end Go.Proofs.Ytegcbdfilkecpaa
/- The log: a head sealed and synced; condition: a log in memory on a disk. -/
namespace Go.Proofs.Ytegcbdfilkecpaa
open Go.RowKit

section
variable {S : Nat → Prop} {W0 w : World} {db lb : Nat} {p : Pl}
attribute [local go_sem ↓] loadSec storeSec allocSec loadW4 storeW4 conv64
set_option maxRecDepth 100000 in
set_option maxHeartbeats 800000 in
theorem wseal1_q (h : Dq S w w db p) (v : W4) (Bl Bs : Nat) (hn : ¬ S Bl) (hnl : ¬ S lb) (hns : ¬ S Bs) (hs : Blk w Bs 146 (bytesV (sealB v))) (hl : w.cell? ⟨Bl, 0, none⟩ = some (.pointer (some ⟨lb, 0, none⟩))) (hd : w.cell? ⟨lb, 0, none⟩ = some (.pointer (some ⟨db, 0, none⟩))) (hm : p.sm 20000) :
    Calls Try.prog 151 #[.pointer (some ⟨Bl, 0, none⟩), .pointer (some ⟨Bs, 0, none⟩)] w fun e w' => e = .returned (.int .i64 (p.writeE nmWal 0 (sealB v))) ∧ Dq S w w' db (p.write nmWal 0 (sealB v)) := by
  have H := Lib.hid h
  have HN := Lib.hid hn
  have HNL := Lib.hid hnl
  have HNS := Lib.hid hns
  have HM := Lib.hid hm
  have hby := hs.byAt 0 64 (by show _ ≤ 64; omega)
  have hrd := hs.byRd 0 64 (by show _ ≤ 64; omega)
  rw [List.drop_zero, List.take_of_length_le (by show 64 ≤ 64; omega)] at hrd
  have hlt1 := block_lt_of_cell hl
  have hlt2 := block_lt_of_cell hd
  have hlt3 := hs.lt
  have HD := Lib.hid hd
  have HL := Lib.hid hl
  have HLT1 := Lib.hid hlt1
  have HLT2 := Lib.hid hlt2
  have HLT3 := Lib.hid hlt3
  have hsz : (strOf (sealB v)).size ≤ maxLen := by rw [strOf_size, seal_len]; decide
  have HSZ := Lib.hid hsz
  have HSI := Lib.hid (strI_seal v (seal_rng v))
  obtain ⟨sb, hsb⟩ : ∃ sb, sealB v = sb := ⟨_, rfl⟩
  have HSB := Lib.hid hsb
  rw [hsb] at hrd HSI HSZ
  have HBY := Lib.hid hby
  have HRD := Lib.hid hrd
  clear h hm hs hd hl hlt1 hlt2 hlt3 hn hnl hns hsz hsb
  go_enter Try.func151, Try.ntmps151
  go_upto_region 1 with fail
  have hl0 := HL.out
  have hd0 := HD.out
  go_region_held3 (fun w' => w'.cell? ⟨Bl, 0, none⟩ = some (.pointer (some ⟨lb, 0, none⟩)) ∧ w'.cell? ⟨lb, 0, none⟩ = some (.pointer (some ⟨db, 0, none⟩)) ∧ byAt w' Bs 0 64 ∧ byRd w' Bs 0 64 = sb)
    (first | exact ⟨hl0, hd0, hby, hrd⟩ | exact ⟨he0, he3, he1, he2⟩ | go_keep)
    (first
      | (go_at_call 78; go_must (refine (show Calls _ _ #[ptrV db, .string nmWal, .int .i64 0, .string (strOf sb)] _ _ from write_q (H.out.base1 ((Kp.refl NoB w).drew)) nmWal 0 (strOf sb) nmW_le HSZ.out HM.out).mono ?_); rintro e w4 ⟨rfl, h4⟩; rw [HSI.out] at h4; rw [HSI.out]; have H4 := Lib.hid h4; have he0 := (h4.kp.cell HLT1.out HN.out).trans HL.out; have he3 := (h4.kp.cell HLT2.out HNL.out).trans HD.out; have he1 := by_keep h4.kp HLT3.out HNS.out HBY.out HRD.out; clear h4))
  go_wp2_with fail
  go_ret
  rw [HSB.out]
  exact ⟨rfl, Dq.up (H.out.base1 (Kp.refl NoB w).drew) (Kp.refl NoB w).drew H.out.lt H4.out⟩
set_option maxRecDepth 100000 in
set_option maxHeartbeats 800000 in
theorem wseal_q (h : Dq S w w db p) (hc : w.cell? ⟨lb, 0, none⟩ = some (.pointer (some ⟨db, 0, none⟩))) (hlb : ¬ S lb) (v : W4) (hm : p.sm 40000) :
    Calls Try.prog 105 #[.pointer (some ⟨lb, 0, none⟩), .agg (w4A v)] w fun e w' => e = .returned (.int .i64 (p.runS (headS nmWal v)).2) ∧ Dq S w w' db (p.runS (headS nmWal v)).1 := by
  have H := Lib.hid h
  have HM := Lib.hid hm
  have HC := Lib.hid hc
  have HLB := Lib.hid hlb
  have HLT := Lib.hid (block_lt_of_cell hc)
  have hbw : Blk ((w.alloc (.cells #[.pointer (some ⟨lb, 0, none⟩)] 158)).alloc (.cells (w4A v) 102)) (w.heap.size + 1) 102 (w4A v) := Blk.newAt _ _ _ _ (by simp)
  have hbl : Blk ((w.alloc (.cells #[.pointer (some ⟨lb, 0, none⟩)] 158)).alloc (.cells (w4A v) 102)) w.heap.size 158 #[.pointer (some ⟨lb, 0, none⟩)] := (Blk.new _ _ _).alloc _
  have hkb : Kp NoB w ((w.alloc (.cells #[.pointer (some ⟨lb, 0, none⟩)] 158)).alloc (.cells (w4A v) 102)) := ((Kp.refl _ _).alloc _).alloc _
  have t0 := hbw.thereAll 4 rfl
  have r0 := hbw.readAll 4 rfl
  have HBL := Lib.hid hbl
  have HKB := Lib.hid hkb
  clear h hm hc hlb hbw hbl hkb
  go_enter Try.func105, Try.ntmps105
  go_wp2_with fail
  refine (seal_ok _ v).mono ?_
  rintro e w2 ⟨rfl, hk⟩
  have hks := HKB.out.size
  have hk2 := HKB.out.trans hk (fun _ _ q => q)
  have hbl2 := HBL.out.keep hk (fun q => q)
  have hb := Blk.new w2 146 (bytesV (zeros 64))
  have hb2 := hb.whole (bytesV (sealB v)) (by rw [bytesV_size, bytesV_size]; rfl)
  have t1 := hb.thereAll 64 (by rw [bytesV_size]; rfl)
  have o1 := bytesV_one (sealB v)
  have s1 : (bytesV (sealB v)).size = 64 := by rw [bytesV_size]; rfl
  have hk3 : Kp NoB w ((w2.alloc (.cells (bytesV (zeros 64)) 146)).setCells w2.heap.size 0 (bytesV (sealB v)).toList) := Kp.setCells (.inl hk2.size) _ _ _ (hk2.alloc _)
  have hk23 : Kp NoB w2 ((w2.alloc (.cells (bytesV (zeros 64)) 146)).setCells w2.heap.size 0 (bytesV (sealB v)).toList) := Kp.setCells (.inl (Nat.le_refl _)) _ _ _ ((Kp.refl _ _).alloc _)
  have hbl3 := hbl2.keep hk23 (fun q => q)
  have cl := hbl3.cell 0
  have HB2 := Lib.hid hb2
  have HBL3 := Lib.hid hbl3
  have HK3 := Lib.hid hk3
  have HS2 : Hid (w.heap.size < w2.heap.size ∧ w.heap.size + 2 ≤ w2.heap.size) := Lib.hid (by have := hk.size; simp at this; omega)
  clear hk hk2 hb hb2 hk3 hk23 hbl2 hbl3 HBL HKB hks
  generalize hRR : bytesV (sealB v) = RR at t1 o1 s1 HB2 HBL3 HK3 cl ⊢
  have HRR := Lib.hid hRR
  clear hRR
  go_upto_region 2 with fail
  generalize hW3 : (w2.alloc (.cells (bytesV (zeros 64)) 146)).setCells w2.heap.size 0 RR.toList = w3 at HB2 HBL3 HK3 cl ⊢
  generalize hg : w2.heap.size = g at HB2 HS2 ⊢
  have hs3 : Hid (w3.heap.size = g + 1) := Lib.hid (by rw [← hW3, size_setCells, ← hg]; simp)
  clear hW3
  go_wp2_with fail
  refine (wsteps_ok _ w3.heap.size 0 2 2 [(151, #[], #[.pointer (some ⟨w.heap.size, 0, none⟩), .pointer (some ⟨g, 0, none⟩)]), (152, #[.pointer (some ⟨lb, 0, none⟩)], #[])]
    (fun x w' => x = (p.runS (headS nmWal v)).2 ∧ Dq S w w' db (p.runS (headS nmWal v)).1) rfl (by omega) ?_).mono ?_
  · have hb3 := Blk.new w3 108 #[.func (.func 151) #[] #[.pointer (some ⟨w.heap.size, 0, none⟩), .pointer (some ⟨g, 0, none⟩)], .func (.func 152) #[.pointer (some ⟨lb, 0, none⟩)] #[]]
    generalize hw4 : w3.alloc (.cells #[.func (.func 151) #[] #[.pointer (some ⟨w.heap.size, 0, none⟩), .pointer (some ⟨g, 0, none⟩)], .func (.func 152) #[.pointer (some ⟨lb, 0, none⟩)] #[]] 108) = w4 at hb3 ⊢
    have hk4 : Kp NoB w3 w4 := by rw [← hw4]; exact (Kp.refl _ _).alloc _
    have hk := HK3.out.trans hk4 (fun _ _ q => q)
    have h3 := H.out.base1 hk
    have hlt := H.out.lt
    have hs2 := HS2.out
    refine ⟨by rw [hb3.cell]; rfl, enters_of Try.func151 (by kernel_rfl) rfl, ?_⟩
    have hcl4 := (hk.cell HLT.out (fun q => q)).trans HC.out
    refine (wseal1_q h3 v w.heap.size g (fun q => by have := hlt _ q; omega) HLB.out (fun q => by have := hlt _ q; omega) (by rw [HRR.out]; exact HB2.out.keep hk4 (fun q => q)) ((HBL3.out.keep hk4 (fun q => q)).cell 0) hcl4 (sm_mono HM.out (by omega))).mono ?_
    rintro e w5 ⟨rfl, h4⟩
    refine ⟨_, rfl, fun hx => ?_, fun hx => ?_⟩
    · unfold headS
      rw [runS_cons, stE0, if_neg hx]
      exact ⟨rfl, Dq.up h3 hk hlt h4⟩
    · have hs4 := hk.size
      refine ⟨by rw [(hb3.keep h4.kp (fun q => by have := hlt _ q; have := HK3.out.size; omega)).cell]; rfl, enters_of Try.func152 (by kernel_rfl) rfl, ?_⟩
      obtain ⟨S5, h5, hS5⟩ := h4.base
      refine (wsync_q h5 ((h4.kp.cell (Nat.lt_of_lt_of_le HLT.out hs4) HLB.out).trans hcl4) (sm_write _ _ _ (sm_mono HM.out (by omega)))).mono ?_
      rintro e w6 ⟨rfl, h6⟩
      have hz : (p.runS (headS nmWal v)) = (((p.write nmWal 0 (sealB v)).sync nmWal), (p.write nmWal 0 (sealB v)).syncE) := by
        unfold headS
        rw [runS_cons, stE0, if_pos hx, runS_cons, stE2, stP0, stP2]
        split
        · rename_i h0
          rw [runS_nil, h0]
        · rfl
      rw [hz]
      have h7 := Dq.up h3 hk hlt (Dq.tr (w0 := w4) h6 h4.kp hS5 h4.lt)
      exact ⟨_, rfl, fun _ => ⟨rfl, h7⟩, fun hx2 => ⟨hx2.symm, h7⟩⟩
  · rintro e w5 ⟨x, rfl, rfl, h4⟩
    have H4 := Lib.hid h4
    clear h4
    go_wp2_with fail
    go_ret
    exact ⟨rfl, H4.out⟩
end
end Go.Proofs.Ytegcbdfilkecpaa
/- The log: the bytes of a frame that is made; condition: a frame that may be. -/
namespace Go.Proofs.Ytegcbdfilkecpaa
open Go.RowKit

/-- the first i bytes of both numbers are there -/
def upB (f : Fr) (i : Nat) : List Int := (four f.n).take i ++ zeros (4 - i) ++ ((four f.en).take i ++ zeros (4 - i)) ++ zeros 312
/-- .. and one more of the first -/
def upB1 (f : Fr) (i : Nat) : List Int := (four f.n).take (i + 1) ++ zeros (3 - i) ++ ((four f.en).take i ++ zeros (4 - i)) ++ zeros 312
theorem upB_set1 (f : Fr) (i : Nat) (hi : i < 4) : (upB f i).set i (byteK f.n i) = upB1 f i := by
  rcases (show i = 0 ∨ i = 1 ∨ i = 2 ∨ i = 3 by omega) with rfl | rfl | rfl | rfl <;> rfl
theorem upB_set2 (f : Fr) (i : Nat) (hi : i < 4) : (upB1 f i).set (4 + i) (byteK f.en i) = upB f (i + 1) := by
  rcases (show i = 0 ∨ i = 1 ∨ i = 2 ∨ i = 3 by omega) with rfl | rfl | rfl | rfl <;> rfl
theorem upB_at (f : Fr) (i : Nat) (hi : i < 4) : (upB f i)[i]? = some 0 := by
  rcases (show i = 0 ∨ i = 1 ∨ i = 2 ∨ i = 3 by omega) with rfl | rfl | rfl | rfl <;> rfl
theorem upB_all (f : Fr) : upB f 4 = (four f.n ++ four f.en ++ zeros 56) ++ zeros 256 := rfl
theorem upB_len (f : Fr) : (upB f 4).length = 320 := by
  rw [upB_all, List.length_append, List.length_append, List.length_append, zeros256, show (zeros 56).length = 56 from List.length_replicate ..]
  rfl
/-- in the midst of a frame's bytes -/
structure BtS (w : World) (f : Fr) (l : List Int) (W : World) : Prop where
  kp : Kp NoB w W
  b1 : Blk W w.heap.size 171 (fnL f).toArray
  b2 : Blk W (w.heap.size + 1) 5 (bytesV l)
theorem BtS.set_ {w : World} {f : Fr} {l : List Int} {W : World} (h : BtS w f l W) (i : Nat) (y : Int) : BtS w f (l.set i y) (W.setCell ⟨w.heap.size + 1, i, none⟩ (.int .u8 y)) := by
  refine ⟨h.kp.setCell (p := ⟨w.heap.size + 1, i, none⟩) (.inl (by show _ ≤ w.heap.size + 1; omega)) _, h.b1.far (p := ⟨w.heap.size + 1, i, none⟩) (by simp) _, ?_⟩
  have := h.b2.set_ i (.int .u8 y)
  rwa [bytesV_setJ] at this
theorem BtS.drew {w : World} {f : Fr} {l : List Int} {W : World} (h : BtS w f l W) : BtS w f l W.drew := ⟨h.kp.drew, h.b1, h.b2⟩
set_option maxRecDepth 100000 in
theorem BtS.copy {w : World} {f : Fr} {W : World} (h : BtS w f (upB f 4) W) (hf : FrOk f) : Kp NoB w (W.setCells (w.heap.size + 1) 64 (f.b.map (Value.int .u8))) ∧ Blk (W.setCells (w.heap.size + 1) 64 (f.b.map (Value.int .u8))) (w.heap.size + 1) 5 (bytesV (frB f)) := by
  refine ⟨Kp.setCells (.inl (by omega)) _ _ _ h.kp, ?_⟩
  have b := h.b2
  rw [upB_all] at b
  have := Blk.bytes (la := four f.n ++ four f.en ++ zeros 56) (lb := zeros 256) (ld := []) (lx := f.b) (by rw [List.append_nil]; exact b) 64 (by simp [four, zeros]) (by rw [hf.len]; simp [zeros])
  rw [List.append_nil] at this
  exact this
theorem frB_len {f : Fr} (hf : FrOk f) : (frB f).length = 320 := by unfold frB; simp [four, zeros, hf.len]
theorem frB_rng {f : Fr} (hf : FrOk f) : ∀ y ∈ frB f, 0 ≤ y ∧ y < 256 := by
  intro y hy
  unfold frB at hy
  rcases List.mem_append.1 hy with h | h
  · rcases List.mem_append.1 h with h | h
    · rcases List.mem_append.1 h with h | h
      · exact four_rng _ y h
      · exact four_rng _ y h
    · exact zeros_rng _ y h
  · exact hf.rng y h
theorem fn_cells {w : World} {g : Nat} {t : TypeId} {f : Fr} (h : Blk w g t (fnL f).toArray) : ∀ j v, (f.b.map (Value.int .u8))[j]? = some v → w.cell? ((⟨g, 1, none⟩ : Addr).add j) = some v := by
  intro j v hj
  have hlt : j < (f.b.map (Value.int .u8)).length := (List.getElem?_eq_some_iff.1 hj).1
  rw [add_mk, h.cell]
  unfold fnL
  rw [List.getElem?_toArray, Nat.add_comm 1 j, List.getElem?_cons_succ, List.getElem?_append_left hlt]
  exact hj
theorem fn_en {w : World} {g : Nat} {t : TypeId} {f : Fr} (h : Blk w g t (fnL f).toArray) (hf : f.b.length = 256) : w.cell? ⟨g, 257, none⟩ = some (.int .i64 f.en) := by
  rw [h.cell]
  unfold fnL
  rw [List.getElem?_toArray, List.getElem?_cons_succ, List.getElem?_append_right (by rw [List.length_map, hf]; omega), List.length_map, hf]
  rfl
attribute [local go_sem ↓] conv64
attribute [local go_sem] size_setCells
set_option maxRecDepth 100000 in
set_option maxHeartbeats 1600000 in
theorem wbytes_q (w : World) (f : Fr) (hf : FrOk f) : Calls Try.prog 153 #[.agg (fnL f).toArray] w fun e w' => e = .returned (.string (strOf (frB f))) ∧ Kp NoB w w' := by
  have HF := Lib.hid hf
  have HB0 : Hid (BtS w f (upB f 0) ((w.alloc (.cells (fnL f).toArray 171)).alloc (.cells (bytesV (zeros 320)) 5))) := Lib.hid ⟨((Kp.refl _ _).alloc _).alloc _, (Blk.new _ _ _).alloc _, Blk.newAt _ _ _ _ (by simp)⟩
  have hmk := fun W => make320 W
  obtain ⟨FV, hFV⟩ : ∃ FV, (fnL f).toArray = FV := ⟨_, rfl⟩
  rw [hFV] at HB0 ⊢
  obtain ⟨rb, hrb⟩ : ∃ rb, frB f = rb := ⟨_, rfl⟩
  rw [hrb]
  have HRB := Lib.hid hrb
  clear hf hFV hrb
  go_enter Try.func153, Try.ntmps153
  go_wp2_with fail
  refine forget (p := fun wx => Code.wp _ _ _ _ wx) (BtS w f (upB f 0)) HB0.out ?_
  intro W hW
  have HW := Lib.hid hW
  clear hW HB0
  go_loopw [6] (fun v W => ∃ i : Nat, v = .int .i64 (i : Int) ∧ i ≤ 4 ∧ BtS w f (upB f i) W) (fun v _ => 4 - (intOf v).toNat)
  case atStart => exact ⟨0, rfl, by omega, HW.out⟩
  case round =>
    obtain ⟨i, rfl, hi, hs⟩ := hrel
    have HS := Lib.hid hs
    by_cases hi4 : i < 4
    · have hii : (i : Int) < 4 := by omega
      have c0 : wr.cell? ⟨w.heap.size, 0, none⟩ = some (.int .i64 f.n) := by rw [hs.b1.cell]; rfl
      have c257 := fn_en hs.b1 HF.out.len
      have c2 : wr.cell? ⟨w.heap.size + 1, i, none⟩ = some (.int .u8 0) := by
        rw [hs.b2.cell]
        unfold bytesV
        rw [List.getElem?_toArray, List.getElem?_map, upB_at _ _ hi4]
        rfl
      have z2 : wr.frozen? ⟨w.heap.size + 1, i, none⟩ = false := hs.b2.frozen i
      have z3 : wr.frozen? ⟨w.heap.size + 1, 4 + i, none⟩ = false := hs.b2.frozen (4 + i)
      have c3 : wr.cell? ⟨w.heap.size + 1, 4 + i, none⟩ = some (.int .u8 0) := by
        rw [hs.b2.cell]
        unfold bytesV
        rw [List.getElem?_toArray, List.getElem?_map, show (upB f i)[4 + i]? = some 0 from by rcases (show i = 0 ∨ i = 1 ∨ i = 2 ∨ i = 3 by omega) with rfl | rfl | rfl | rfl <;> rfl]
        rfl
      have hwu : IntKind.u32.wrap f.n = f.n := by have := HF.out.n0; rw [IntKind.wrap_u32]; omega
      have hwe : IntKind.u32.wrap f.en = f.en := by have := HF.out.e0; rw [IntKind.wrap_u32]; omega
      have FIN : Hid (∀ W' (y z : Int) (q m : Nat), W' = (wr.setCell ⟨w.heap.size + 1, i, none⟩ (.int .u8 y)).setCell ⟨w.heap.size + 1, q, none⟩ (.int .u8 z) → q = 4 + i → y = byteK f.n i → z = byteK f.en i → m = i + 1 → BtS w f (upB f m) W') := Lib.hid (by
        rintro W' y z q m rfl rfl rfl rfl rfl
        have h1 := HS.out.set_ i (byteK f.n i)
        rw [upB_set1 f i hi4] at h1
        have h2 := h1.set_ (4 + i) (byteK f.en i)
        rw [upB_set2 f i hi4] at h2
        exact h2)
      obtain ⟨xn, hxn⟩ : ∃ xn, f.n = xn := ⟨_, rfl⟩
      obtain ⟨xe, hxe⟩ : ∃ xe, f.en = xe := ⟨_, rfl⟩
      have HXN3 := Lib.hid hxn
      have HXE3 := Lib.hid hxe
      rw [hxn] at c0 hwu
      rw [hxe] at c257 hwe
      clear hs hxn hxe
      rcases (show i = 0 ∨ i = 1 ∨ i = 2 ∨ i = 3 by omega) with rfl | rfl | rfl | rfl
      · go_wp2_with fail
        exact ⟨⟨1, rfl, by omega, FIN.out _ _ _ _ _ rfl rfl (by rw [HXN3.out]; rfl) (by rw [HXE3.out]; rfl) rfl⟩, by simp [intOf]⟩
      · go_wp2_with fail
        exact ⟨⟨2, rfl, by omega, FIN.out _ _ _ _ _ rfl rfl (by rw [HXN3.out]; rfl) (by rw [HXE3.out]; rfl) rfl⟩, by simp [intOf]⟩
      · go_wp2_with fail
        exact ⟨⟨3, rfl, by omega, FIN.out _ _ _ _ _ rfl rfl (by rw [HXN3.out]; rfl) (by rw [HXE3.out]; rfl) rfl⟩, by simp [intOf]⟩
      · go_wp2_with fail
        exact ⟨⟨4, rfl, by omega, FIN.out _ _ _ _ _ rfl rfl (by rw [HXN3.out]; rfl) (by rw [HXE3.out]; rfl) rfl⟩, by simp [intOf]⟩
    · have hii : ¬ (i : Int) < 4 := by omega
      obtain rfl : i = 4 := by omega
      have hl256 := HF.out.len
      clear hs
      go_upto_region 8 with fail
      refine wp_region_held_drew (S := fun _ => True) (by kernel_rfl) trivial (fun hHeld => ?_)
      have hs := HS.out.drew
      generalize wr.drew = w4 at hs ⊢
      have ht5 : w4.there (w.heap.size + 1) 64 (f.b.map (Value.int .u8)).length := by
        have := hs.b2
        refine this.there ?_
        rw [bytesV_size, upB_len, List.length_map, hl256]
        omega
      have hcp := run_copy_cells (P := Try.prog) w4 42 42 3 5 (w.heap.size + 1) 64 256 256 ⟨w.heap.size, 1, none⟩ 256 256 (f.b.map (Value.int .u8)) Try.underlying42 infoU8 (by rw [List.length_map, hl256]; rfl) (fn_cells hs.b1) (fun j hj => (ht5 j hj).1) (fun j hj => (ht5 j hj).2) (u8_one f.b)
      obtain ⟨hk5, hb5⟩ := hs.copy HF.out
      refine tkS (i := 0) (v := (.slice (some ⟨w.heap.size + 1, 0, none⟩) 320 320)) rfl (Or.inl ⟨by rfl, fun w' hq => by go_simp⟩) trivial ?_
      simp only [Act.put, skA, skB, skC]
      refine tkS (i := 1) (v := (.slice (some ⟨w.heap.size + 1, 64, none⟩) 256 256)) rfl (Or.inl ⟨by rfl, fun w' hq => by go_simp⟩) trivial ?_
      simp only [Act.put, skA, skB, skC]
      refine tkS (i := 2) (v := (.pointer (some ⟨w.heap.size, 0, none⟩))) rfl (Or.inl ⟨by rfl, fun w' hq => by go_simp⟩) trivial ?_
      simp only [Act.put, skA, skB, skC]
      refine tkS (i := 3) (v := (.pointer (some ⟨w.heap.size, 1, none⟩))) rfl (Or.inl ⟨by rfl, fun w' hq => by go_simp⟩) trivial ?_
      simp only [Act.put, skA, skB, skC]
      refine tkS (i := 4) (v := (.slice (some ⟨w.heap.size, 1, none⟩) 256 256)) rfl (Or.inl ⟨by rfl, fun w' hq => by go_simp⟩) trivial ?_
      simp only [Act.put, skA, skB, skC]
      refine wpAnyH_ready (rs := [5]) (by kernel_rfl) (by simp) ?_
      refine AllReadyH.valR (fun W' => W' = w4.setCells (w.heap.size + 1) 64 (f.b.map (Value.int .u8))) rfl (by rfl) _ _ (copy_exec hcp _ rfl rfl) (fun _ _ => trivial) rfl ?_ AllReadyH.nil
      rintro _ rfl
      simp only [Act.put, skA, skB, skC]
      refine wpAnyH_done (by kernel_rfl) ?_ _
      generalize w4.setCells (w.heap.size + 1) 64 (f.b.map (Value.int .u8)) = w5 at hk5 hb5 ⊢
      have hrl := frB_len HF.out
      have hby := hb5.byAt 0 320 (by rw [hrl]; omega)
      have hrd := hb5.byRd 0 320 (by rw [hrl]; omega)
      rw [List.drop_zero, List.take_of_length_le (by rw [hrl]; omega)] at hrd
      have HK5 := Lib.hid hk5
      have HB5 := Lib.hid hb5
      rw [HRB.out] at hrd
      clear hs hk5 hb5 ht5 hcp hHeld hrl hl256
      go_wp2_with fail
      go_ret
      exact ⟨rfl, HK5.out⟩
end Go.Proofs.Ytegcbdfilkecpaa
