/- RecordEncode: the walk of the law; condition: none. -/
import Derived.Test.YtlcefenjlchaiaaDoorRcSame
import Derived.Test.YtlcefenjlchaiaaDoorSrc
namespace Go.Proofs.YtlcefenjlchaiaaDoor
open Go.RowKit

theorem rv_src {w : World} {A : Option Addr} {n : Nat} {vs : List RV} (h : Rw w A n vs) : 0 < n → ∃ g o, A = some ⟨g, o, none⟩ ∧ ∀ j u, (rvCells vs)[j]? = some u → w.cell? ⟨g, o + j, none⟩ = some u := by
  intro hn
  obtain ⟨g, o, e, hg, hc⟩ := h.at_ hn
  refine ⟨g, o, e, fun j u hj => ?_⟩
  have hl := rvCells_len vs
  have hjl : j < 3 * vs.length := by
    have := (List.getElem?_eq_some_iff.1 hj).1
    omega
  have hq : j / 3 < vs.length := by omega
  obtain ⟨c0, c1, c2⟩ := hc (j / 3) (by rw [← h.len]; exact hq)
  obtain ⟨d0, d1, d2⟩ := rvCells_get vs [] (j / 3) hq
  rw [List.append_nil] at d0 d1 d2
  rcases (show j = j / 3 * 3 ∨ j = j / 3 * 3 + 1 ∨ j = j / 3 * 3 + 2 by omega) with q | q | q
  · rw [q] at hj ⊢
    rw [← q] at hj ⊢
    rw [← q] at d0 c0
    rw [hj] at d0
    rw [d0]; exact c0
  · rw [← q] at d1
    rw [show o + j / 3 * 3 + 1 = o + j by omega] at c1
    rw [hj] at d1
    rw [d1]; exact c1
  · rw [← q] at d2
    rw [show o + j / 3 * 3 + 2 = o + j by omega] at c2
    rw [hj] at d2
    rw [d2]; exact c2
theorem rv_one (vs : List RV) : ∀ u ∈ rvCells vs, u.oneCell' = true := by
  intro u hu
  unfold rvCells at hu
  rw [List.mem_flatMap] at hu
  obtain ⟨v, _, hv⟩ := hu
  simp only [List.mem_cons, List.not_mem_nil, or_false] at hv
  rcases hv with rfl | rfl | rfl <;> rfl
theorem lt_of_cell {w : World} {g o : Nat} {v : Value} (h : w.cell? ⟨g, o, none⟩ = some v) : g < w.heap.size := World.block_lt_of_cell? w ⟨g, o, none⟩ h
def mark : RV := ⟨0, 77, ByteArray.empty⟩
theorem mark_ok : mark.ok := okk _ _ _ (by decide) (by decide) (by decide) (by decide) (by decide)
set_option maxRecDepth 100000 in
set_option maxHeartbeats 1600000 in
theorem own_ok (w : World) (A : Option Addr) (n cap : Nat) (vs : List RV) (hn : n ≤ 2000) (hA : A = none → n = 0 ∧ cap = 0) (hR : Rw w A n vs) :
    Calls Tryd.prog 5 #[.slice A n cap] w fun e w' => Kp NoB w w' ∧ ∃ B c, e = .returned (.slice B n c) ∧ n + 1 ≤ c ∧ w'.ownsRow w.heap.size 34 3 (.slice B (n + 1) c) (n + 1) (rvCells (vs ++ [mark])) := by
  have HR := Lib.hid hR
  have HA := Lib.hid hA
  obtain ⟨j0, hj0, hy0, hy1, hy2⟩ := info_parts infoVal
  have HJ0 := Lib.hid hj0
  have HY0 := Lib.hid hy0
  have HY1 := Lib.hid hy1
  have HY2 := Lib.hid hy2
  have HOWN : Hid ((w.alloc (.cells #[] 34)).ownsRow w.heap.size 34 3 (.slice (some ⟨w.heap.size, 0, none⟩) 0 0) 0 []) := Lib.hid ⟨rfl, .inr ⟨w.heap.size, 0, #[], rfl, Nat.le_refl _, heap_alloc_new _ _, Nat.le_refl _, by simp, rfl, rfl⟩⟩
  clear hR hA hj0 hy0 hy1 hy2
  go_enter Tryd.func5, Tryd.ntmps5
  go_wp2_with (first
    | (show wpList _ _ _ (⟨some 6, _, _, _, _, _⟩ :: _) _ _; refine wpList_append_srcN rfl _ _ 22 rfl w.heap.size 34 j0 _ 3 32 Tryd.underlying22 HJ0.out HY0.out HY1.out HY2.out rfl (by omega) _ 0 [] rfl HOWN.out A n cap (rvCells vs) rfl HA.out (by rw [rvCells_len, HR.out.len]; omega) (rv_src (HR.out.keep ((Kp.refl NoB w).alloc _))) (rv_one vs) (by unfold maxLen; omega) (by omega) (by simp) ?_; intro v1 w1 hown1 hgrow1; rw [Nat.zero_add, List.nil_append] at hown1; have HO1 := Lib.hid hown1; have HK1 := Lib.hid (((Kp.refl NoB w).alloc _).own (v := .slice (some ⟨w.heap.size, 0, none⟩) 0 0) hgrow1 rfl HOWN.out); clear hown1 hgrow1)
    | (show wpList _ _ _ (⟨some 10, _, _, _, _, _⟩ :: _) _ _; refine wpList_append_own _ rfl _ _ 22 rfl w.heap.size 34 j0 _ 3 32 Tryd.underlying22 HJ0.out HY0.out HY1.out HY2.out rfl (by omega) v1 n (rvCells vs) rfl (own_keep HO1.out ((Kp.refl NoB w1).alloc _) (fun _ _ _ q => q)) ⟨w1.heap.size, 0, none⟩ 1 1 [.int .i64 0, .int .i64 77, .string ⟨#[]⟩] rfl rfl (cells_new _ _ _) (by simp [Value.oneCell']) (by unfold maxLen; omega) (by omega) (by have := HK1.out.size; simp; omega) ?_; intro v2 w2 hown2 hgrow2 _; obtain ⟨B, c, rfl⟩ := own_slice hown2; have hc := own_cap hown2; have HO2 := Lib.hid hown2; have HK2 := Lib.hid ((HK1.out.alloc _).own hgrow2 rfl HO1.out); obtain ⟨g, ds, rfl, hg, hB⟩ := own_blkN hown2 (by omega); clear hown2 hgrow2 hB))
  go_ret
  exact ⟨HK2.out, _, _, rfl, hc, by rw [rvCells_snoc]; exact HO2.out⟩
theorem Rw.take {w : World} {A : Option Addr} {n : Nat} {vs : List RV} (h : Rw w A n vs) (k : Nat) (hk : k ≤ n) : Rw w A k (vs.take k) := by
  refine ⟨by rw [List.length_take, h.len]; omega, fun v hv => h.ok v (List.mem_of_mem_take hv), fun hk0 => ?_⟩
  obtain ⟨g, o, e, hg, hc⟩ := h.at_ (by omega)
  refine ⟨g, o, e, hg, fun j hj => ?_⟩
  have := hc j (by omega)
  have e2 : (vs.take k).getD j RV.nul = vs.getD j RV.nul := by simp [List.getElem?_take_of_lt hj]
  rw [e2]
  exact this
/-- a copy of a row with a mark behind it -/
structure Own (w : World) (base : Nat) (B : Option Addr) (n c : Nat) (vs : List RV) : Prop where
  len : vs.length = n
  cap : n + 1 ≤ c
  ok : ∀ v ∈ vs, v.ok
  own : w.ownsRow base 34 3 (.slice B (n + 1) c) (n + 1) (rvCells (vs ++ [mark]))
theorem Own.keep {w w' : World} {base : Nat} {B : Option Addr} {n c : Nat} {vs : List RV} (h : Own w base B n c vs) (k : Kp NoB w w') : Own w' base B n c vs :=
  ⟨h.len, h.cap, h.ok, own_keep h.own k (fun _ _ _ q => q)⟩
theorem Own.rw1 {w : World} {base : Nat} {B : Option Addr} {n c : Nat} {vs : List RV} (h : Own w base B n c vs) : Rw w B (n + 1) (vs ++ [mark]) :=
  (rw_of_own h.own (fun v hv => by rcases List.mem_append.1 hv with q | q; exact h.ok v q; simp at q; rw [q]; exact mark_ok)).2
theorem Own.rw {w : World} {base : Nat} {B : Option Addr} {n c : Nat} {vs : List RV} (h : Own w base B n c vs) : Rw w B n vs := by
  have := h.rw1.take n (by omega)
  rwa [List.take_left' h.len] at this
theorem Own.mark {w : World} {base : Nat} {B : Option Addr} {n c : Nat} {vs : List RV} (h : Own w base B n c vs) : ∃ g, B = some ⟨g, 0, none⟩ ∧ w.cell? ⟨g, n * 3 + 1, none⟩ = some (.int .i64 77) := by
  obtain ⟨g, ds, e, _, hB⟩ := own_blkN h.own (by omega)
  refine ⟨g, e, ?_⟩
  have := (rvCells_get (vs ++ [Go.Proofs.YtlcefenjlchaiaaDoor.mark]) ds n (by simp [h.len])).2.1
  rw [hB.cell, List.getElem?_toArray, this]
  simp [← h.len, Go.Proofs.YtlcefenjlchaiaaDoor.mark]
set_option maxRecDepth 100000 in
set_option maxHeartbeats 1600000 in
theorem kept_ok (w : World) (base : Nat) (A B : Option Addr) (n cap c : Nat) (vs : List RV) (hn : n ≤ 2000) (hR : Rw w A n vs) (hO : Own w base B n c vs) :
    Calls Tryd.prog 10 #[.slice B n c, .slice A n cap] w fun e w' => e = .returned (.bool true) ∧ Kp NoB w w' := by
  have HR := Lib.hid hR
  have HO := Lib.hid hO
  have hc := hO.cap
  obtain ⟨g, rfl, hm⟩ := hO.mark
  have HM := Lib.hid hm
  have hc2 : (n : Int) + 1 ≤ (c : Int) := by omega
  have hn1 : (0 : Int) ≤ (n : Int) + 1 := by omega
  have hn2 : ((n : Int) + 1).toNat = n + 1 := by omega
  clear hR hO hm
  go_enter Tryd.func10, Tryd.ntmps10
  go_wp2_with (go_at_call 9; go_must (refine (rsame_ok _ _ A n n c cap vs vs (by omega) (by omega) HO.out.rw HR.out).mono ?_); rw [sameB_self]; rintro en w2 ⟨rfl, hk2⟩; have HK2 := Lib.hid hk2; have c77 : w2.cell? ⟨g, n * 3 + 1, none⟩ = some (.int .i64 77) := (hk2.cell (lt_of_cell HM.out) (fun q => q)).trans HM.out; clear hk2)
  go_ret
  exact ⟨rfl, HK2.out⟩
end Go.Proofs.YtlcefenjlchaiaaDoor
