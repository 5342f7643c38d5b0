/- Lists of orders in memory; no condition. -/
import Derived.Test.YtlcefenjlchaiaaDoorCmPlain
import Derived.Test.YtlcefenjlchaiaaDoorRcSame
import Derived.Test.YtlcefenjlchaiaaDoorSrc
namespace Go.Proofs.YtlcefenjlchaiaaDoor
open Go.RowKit

structure OV.ok (o : OV) : Prop where
  lo : -9223372036854775808 ≤ o.c
  hi : o.c ≤ 9223372036854775807
theorem OV.nul_ok : OV.nul.ok := ⟨by decide, by decide⟩
theorem OV.ext' {a b : OV} (h1 : a.c = b.c) (h2 : a.d = b.d) : a = b := by cases a; cases b; simp_all
/-- a list of orders lies in memory -/
structure Ow (w : World) (A : Option Addr) (n : Nat) (os : List OV) : Prop where
  len : os.length = n
  ok : ∀ v ∈ os, v.ok
  at_ : 0 < n → ∃ g o, A = some ⟨g, o, none⟩ ∧ g < w.heap.size ∧ ∀ j, j < n → w.cell? ⟨g, o + j * 2, none⟩ = some (.int .i64 (os.getD j OV.nul).c) ∧ w.cell? ⟨g, o + j * 2 + 1, none⟩ = some (.bool (os.getD j OV.nul).d)
theorem Ow.keep {w w' : World} {A : Option Addr} {n : Nat} {os : List OV} (h : Ow w A n os) (k : Kp NoB w w') : Ow w' A n os :=
  ⟨h.len, h.ok, fun hn => by
    obtain ⟨g, o, e, hg, hc⟩ := h.at_ hn
    refine ⟨g, o, e, Nat.lt_of_lt_of_le hg k.size, fun j hj => ?_⟩
    obtain ⟨c0, c1⟩ := hc j hj
    exact ⟨(k.cell hg (fun q => q)).trans c0, (k.cell hg (fun q => q)).trans c1⟩⟩
theorem Ow.vok {w : World} {A : Option Addr} {n : Nat} {os : List OV} (h : Ow w A n os) (j : Nat) : (os.getD j OV.nul).ok := by
  rw [List.getD_eq_getElem?_getD]
  cases e : os[j]? with
  | none => exact OV.nul_ok
  | some v => exact h.ok v (List.mem_of_getElem? e)
def ovCells (os : List OV) : List Value := os.flatMap fun v => [.int .i64 v.c, .bool v.d]
theorem ovCells_len (os : List OV) : (ovCells os).length = 2 * os.length := by
  unfold ovCells
  induction os with
  | nil => rfl
  | cons v os ih => rw [List.flatMap_cons, List.length_append, ih]; simp; omega
theorem ovCells_get (os : List OV) (ds : List Value) : ∀ (j : Nat), j < os.length → (ovCells os ++ ds)[j * 2]? = some (.int .i64 (os.getD j OV.nul).c) ∧ (ovCells os ++ ds)[j * 2 + 1]? = some (.bool (os.getD j OV.nul).d) := by
  unfold ovCells
  induction os with
  | nil => intro j hj; simp at hj
  | cons v os ih =>
    intro j hj
    cases j with
    | zero => simp
    | succ j =>
      have := ih j (by simpa using hj)
      rw [List.flatMap_cons]
      rw [show (j + 1) * 2 = j * 2 + 2 by omega]
      simpa using this
theorem ov_of_own {w : World} {base n : Nat} {A : Option Addr} {cap : Nat} {os : List OV} (h : w.ownsRow base 29 2 (.slice A n cap) n (ovCells os)) (hok : ∀ v ∈ os, v.ok) : Ow w A n os := by
  have hl : os.length = n := by have := h.1; rw [ovCells_len] at this; omega
  refine ⟨hl, hok, fun hn => ?_⟩
  obtain ⟨g, ds, e, _, hB⟩ := own_blkN h hn
  refine ⟨g, 0, e, hB.lt, fun j hj => ?_⟩
  have hg := ovCells_get os ds j (by omega)
  rw [hB.cell, hB.cell]
  simp only [List.getElem?_toArray, Nat.zero_add]
  exact hg
theorem ov_src {w : World} {A : Option Addr} {n : Nat} {os : List OV} (h : Ow w A n os) : 0 < n → ∃ g o, A = some ⟨g, o, none⟩ ∧ ∀ j u, (ovCells os)[j]? = some u → w.cell? ⟨g, o + j, none⟩ = some u := by
  intro hn
  obtain ⟨g, o, e, hg, hc⟩ := h.at_ hn
  refine ⟨g, o, e, fun j u hj => ?_⟩
  have hl := ovCells_len os
  have hjl : j < 2 * os.length := by
    have := (List.getElem?_eq_some_iff.1 hj).1
    omega
  have hq : j / 2 < os.length := by omega
  obtain ⟨c0, c1⟩ := hc (j / 2) (by rw [← h.len]; exact hq)
  obtain ⟨d0, d1⟩ := ovCells_get os [] (j / 2) hq
  rw [List.append_nil] at d0 d1
  rcases (show j = j / 2 * 2 ∨ j = j / 2 * 2 + 1 by omega) with q | q
  · rw [← q] at d0 c0
    rw [hj] at d0
    rw [d0]; exact c0
  · rw [← q] at d1
    rw [show o + j / 2 * 2 + 1 = o + j by omega] at c1
    rw [hj] at d1
    rw [d1]; exact c1
theorem ov_one (os : List OV) : ∀ u ∈ ovCells os, u.oneCell' = true := by
  intro u hu
  unfold ovCells at hu
  rw [List.mem_flatMap] at hu
  obtain ⟨v, _, hv⟩ := hu
  simp only [List.mem_cons, List.not_mem_nil, or_false] at hv
  rcases hv with rfl | rfl <;> rfl
end Go.Proofs.YtlcefenjlchaiaaDoor
