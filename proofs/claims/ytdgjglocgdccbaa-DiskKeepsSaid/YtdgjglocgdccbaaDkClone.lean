/- slices.Clone of bytes; condition: fewer than 2^40. -/
import Derived.Test.YtdgjglocgdccbaaDkMem
namespace Go.Proofs.Ytdgjglocgdccbaa
open Go.RowKit

theorem infoU8' : (Try.prog.info? 5).map (fun i => (i.zero, i.size, i.bytes)) = some (some (.int .u8 0), 1, 1) := by kernel_rfl
theorem sliceEqN (w : World) : (binOp .eql 66 (.slice none 0 0) (.slice none 0 0)).run Try.prog w = .ok (.bool true) w := by kernel_rfl
theorem sliceEqS (a : Addr) (m c : Nat) (w : World) : (binOp .eql 66 (.slice (some a) m c) (.slice none 0 0)).run Try.prog w = .ok (.bool false) w := by kernel_rfl
def ClonePost (w : World) (l : List Int) (e : Ending) (w' : World) : Prop := ∃ A cap, e = .returned (.slice A l.length cap) ∧ Bq w' w.heap.size (.slice A l.length cap) l ∧ Kp NoB w w'
theorem bq_src {w : World} {n0 : Nat} {A : Option Addr} {m cap : Nat} {l : List Int} (h : Bq w n0 (.slice A m cap) l) (hm : m = l.length) : 0 < l.length → ∃ g o, A = some ⟨g, o, none⟩ ∧ ∀ j u, (l.map (Value.int .u8))[j]? = some u → w.cell? ⟨g, o + j, none⟩ = some u := by
  intro hp
  subst hm
  obtain ⟨g, ds, e, _, hb⟩ := own_blk1 h.own hp
  refine ⟨g, 0, e, fun j u hj => ?_⟩
  rw [hb.cell, Nat.zero_add, List.getElem?_toArray]
  have := (List.getElem?_eq_some_iff.1 hj).1
  rw [List.getElem?_append_left this]
  exact hj
theorem u8_one (l : List Int) : ∀ u ∈ l.map (Value.int .u8), u.oneCell' = true := by
  intro u hu
  obtain ⟨x, _, rfl⟩ := List.mem_map.1 hu
  rfl
set_option maxRecDepth 100000 in
set_option maxHeartbeats 1600000 in
theorem clone_ok (w : World) (n0 : Nat) (A : Option Addr) (m cap : Nat) (l : List Int) (hm : m = l.length) (hl : l.length ≤ 1099511627776) (h : Bq w n0 (.slice A m cap) l) :
    Calls Try.prog 36 #[.slice A m cap] w (ClonePost w l) := by
  obtain ⟨j0, hj0, hy0, hy1, hy2⟩ := info_parts infoU8'
  have HJ0 := Lib.hid hj0
  have HY0 := Lib.hid hy0
  have HY1 := Lib.hid hy1
  have HY2 := Lib.hid hy2
  have H := Lib.hid h
  have HL := Lib.hid hl
  have HM := Lib.hid hm
  have qn := sliceEqN
  have qs := sliceEqS
  rcases A with _ | ⟨g, o, sp⟩
  · have hf := own_form (by rw [hm] at h; exact h.own)
    obtain ⟨_, h0, h1⟩ : (none : Option Addr) = none ∧ l.length = 0 ∧ cap = 0 := by
      rcases hf with q | ⟨g, q⟩
      · exact q
      · cases q
    obtain rfl : l = [] := List.eq_nil_of_length_eq_zero h0
    simp only [List.length_nil] at hm
    subst hm h1
    clear h hl hj0 hy0 hy1 hy2 hf h0
    go_enter Try.func36, Try.ntmps36
    go_wp2_with fail
    go_ret
    exact ⟨none, 0, rfl, Bq.none _ _, Kp.refl _ _⟩
  · have HOWN : Hid ((w.alloc (.cells #[] 5)).ownsRow w.heap.size 5 1 (.slice (some ⟨w.heap.size, 0, none⟩) 0 0) 0 []) := Lib.hid ⟨rfl, .inr ⟨w.heap.size, 0, #[], rfl, Nat.le_refl _, heap_alloc_new _ _, Nat.le_refl _, by simp, rfl, rfl⟩⟩
    clear h hl hj0 hy0 hy1 hy2 hm
    go_enter Try.func36, Try.ntmps36
    go_wp2_with (at_builtin; refine wpList_append_src rfl _ _ 66 rfl w.heap.size 5 j0 _ 1 Try.underlying66 HJ0.out HY0.out HY1.out HY2.out rfl _ 0 [] rfl HOWN.out (some ⟨g, o, sp⟩) m cap (l.map (Value.int .u8)) rfl (by simp) (by rw [List.length_map, HM.out]) (by have hq := bq_src (w := w.alloc (.cells #[] 5)) (n0 := n0) (A := some ⟨g, o, sp⟩) (m := m) (cap := cap) (l := l) (H.out.keep ((Kp.refl NoB w).alloc _) (fun _ _ _ q => q)) HM.out; rw [HM.out]; exact hq) (u8_one l) (by have := HL.out; have := HM.out; unfold maxLen; omega) (by have := HL.out; have := HM.out; omega) (by simp) ?_; intro v1 w1 hown1 hgrow1; rw [Nat.zero_add, List.nil_append] at hown1; obtain ⟨B, c, rfl⟩ := own_slice hown1; have HO1 := Lib.hid hown1; have HK1 := Lib.hid (((Kp.refl NoB w).alloc _).own (v := .slice (some ⟨w.heap.size, 0, none⟩) 0 0) hgrow1 rfl HOWN.out); clear hown1 hgrow1)
    go_ret
    exact ⟨B, c, by rw [← HM.out]; rfl, ⟨by rw [← HM.out]; exact HO1.out, H.out.rng⟩, HK1.out⟩
end Go.Proofs.Ytdgjglocgdccbaa
