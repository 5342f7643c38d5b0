/- Rows of values in memory, and what a row's record is; no condition. -/
import Derived.Test.YtlcefenjlchaiaaDoorRcShape
namespace Go.Proofs.YtlcefenjlchaiaaDoor
open Go.RowKit

structure RV where
  k : Int
  i : Int
  s : ByteArray
/-- fits its kinds -/
structure RV.ok (v : RV) : Prop where
  klo : -9223372036854775808 ≤ v.k
  khi : v.k ≤ 9223372036854775807
  ilo : -9223372036854775808 ≤ v.i
  ihi : v.i ≤ 9223372036854775807
  sz : v.s.size ≤ 9223372036854775807
def RV.cells (v : RV) : Array Value := v3 v.k v.i v.s
def RV.may (v : RV) : Bool := mayB v.k v.i v.s
def RV.nul : RV := ⟨0, 0, ByteArray.empty⟩
theorem RV.nul_ok : RV.nul.ok := ⟨by decide, by decide, by decide, by decide, by decide⟩
/-- a row lies in memory -/
structure Rw (w : World) (A : Option Addr) (n : Nat) (vs : List RV) : Prop where
  len : vs.length = n
  ok : ∀ v ∈ vs, v.ok
  at_ : 0 < n → ∃ g o, A = some ⟨g, o, none⟩ ∧ g < w.heap.size ∧ ∀ j, j < n → w.cell? ⟨g, o + j * 3, none⟩ = some (.int .i64 (vs.getD j RV.nul).k) ∧ w.cell? ⟨g, o + j * 3 + 1, none⟩ = some (.int .i64 (vs.getD j RV.nul).i) ∧ w.cell? ⟨g, o + j * 3 + 2, none⟩ = some (.string (vs.getD j RV.nul).s)
theorem Rw.keep {w w' : World} {A : Option Addr} {n : Nat} {vs : List RV} (h : Rw w A n vs) (k : Kp NoB w w') : Rw w' A n vs :=
  ⟨h.len, h.ok, fun hn => by
    obtain ⟨g, o, e, hg, hc⟩ := h.at_ hn
    refine ⟨g, o, e, Nat.lt_of_lt_of_le hg k.size, fun j hj => ?_⟩
    obtain ⟨c0, c1, c2⟩ := hc j hj
    exact ⟨(k.cell hg (fun q => q)).trans c0, (k.cell hg (fun q => q)).trans c1, (k.cell hg (fun q => q)).trans c2⟩⟩
theorem Rw.vok {w : World} {A : Option Addr} {n : Nat} {vs : List RV} (h : Rw w A n vs) (j : Nat) : (vs.getD j RV.nul).ok := by
  rw [List.getD_eq_getElem?_getD]
  cases e : vs[j]? with
  | none => exact RV.nul_ok
  | some v => exact h.ok v (List.mem_of_getElem? e)
theorem may_size (v : RV) (h : v.may = true) : v.s.size ≤ 400 := by
  unfold RV.may mayB at h
  split at h
  · simp only [Bool.and_eq_true, decide_eq_true_eq] at h; omega
  · split at h
    · simp only [decide_eq_true_eq] at h; omega
    · split at h
      · simp only [Bool.and_eq_true, decide_eq_true_eq] at h; omega
      · cases h
def headK (vs : List RV) (k : Nat) : ByteArray := (vs.take k).foldl (fun a v => a ++ putV (shapeF v.k v.i v.s).1) (putV vs.length)
def bodyK (vs : List RV) (k : Nat) : ByteArray := (vs.take k).foldl (fun a v => a ++ (shapeF v.k v.i v.s).2) ByteArray.empty
theorem headK_succ (vs : List RV) (k : Nat) (hk : k < vs.length) : headK vs (k + 1) = headK vs k ++ putV (shapeF (vs.getD k RV.nul).k (vs.getD k RV.nul).i (vs.getD k RV.nul).s).1 := by
  unfold headK
  rw [List.take_succ_eq_append_getElem hk, List.foldl_append]
  simp [hk]
theorem bodyK_succ (vs : List RV) (k : Nat) (hk : k < vs.length) : bodyK vs (k + 1) = bodyK vs k ++ (shapeF (vs.getD k RV.nul).k (vs.getD k RV.nul).i (vs.getD k RV.nul).s).2 := by
  unfold bodyK
  rw [List.take_succ_eq_append_getElem hk, List.foldl_append]
  simp [hk]
theorem shapeF_size (v : RV) (h : v.may = true) : (shapeF v.k v.i v.s).1 < 18446744073709551616 ∧ (shapeF v.k v.i v.s).2.size ≤ 400 := by
  have h4 := may_size v h
  have h8 := itl_len 8 v.i
  unfold shapeF
  split
  · split
    · exact ⟨by decide, by decide⟩
    · split
      · exact ⟨by decide, by decide⟩
      · rw [intB_size]
        exact ⟨by show (itl 8 v.i).length < _; omega, by omega⟩
  · split
    · exact ⟨by show 13 + 2 * v.s.size < _; omega, h4⟩
    · split
      · exact ⟨by show 12 + 2 * v.s.size < _; omega, h4⟩
      · exact ⟨by decide, by decide⟩
theorem headK_size (vs : List RV) (k : Nat) : (headK vs k).size ≤ 11 + 11 * k := by
  unfold headK
  have : ∀ (l : List RV) (a : ByteArray), (l.foldl (fun a v => a ++ putV (shapeF v.k v.i v.s).1) a).size ≤ a.size + 11 * l.length := by
    intro l
    induction l with
    | nil => intro a; simp
    | cons v l ih =>
      intro a
      have h1 := ih (a ++ putV (shapeF v.k v.i v.s).1)
      have h2 := putL_len (shapeF v.k v.i v.s).1
      rw [ByteArray.size_append, putV_size] at h1
      rw [List.foldl_cons, List.length_cons]
      omega
  have h1 := this (vs.take k) (putV vs.length)
  have h2 := putL_len vs.length
  have h3 := List.length_take_le k vs
  rw [putV_size] at h1
  omega
theorem bodyK_size (vs : List RV) (k : Nat) (h : ∀ v ∈ vs, v.may = true) : (bodyK vs k).size ≤ 400 * k := by
  unfold bodyK
  have : ∀ (l : List RV) (a : ByteArray), (∀ v ∈ l, v.may = true) → (l.foldl (fun a v => a ++ (shapeF v.k v.i v.s).2) a).size ≤ a.size + 400 * l.length := by
    intro l
    induction l with
    | nil => intro a _; simp
    | cons v l ih =>
      intro a ha
      have h1 := ih (a ++ (shapeF v.k v.i v.s).2) (fun x hx => ha x (by simp [hx]))
      have h2 := (shapeF_size v (ha v (by simp))).2
      rw [ByteArray.size_append] at h1
      rw [List.foldl_cons, List.length_cons]
      omega
  have h1 := this (vs.take k) ByteArray.empty (fun v hv => h v (List.mem_of_mem_take hv))
  have h3 := List.length_take_le k vs
  have h4 : ByteArray.empty.size = 0 := rfl
  omega
/-- a row's record, or the error -/
def encF (vs : List RV) : ByteArray × Int :=
  if vs.all RV.may = false then (ByteArray.empty, 2) else if 16 < vs.length then (ByteArray.empty, 3) else
  if 4000 < (headK vs vs.length).size + (bodyK vs vs.length).size then (ByteArray.empty, 3) else (headK vs vs.length ++ bodyK vs vs.length, 0)
theorem all_may_false (vs : List RV) (k : Nat) (hk : k < vs.length) (h : (vs.getD k RV.nul).may = false) : vs.all RV.may = false := by
  rw [List.all_eq_false]
  exact ⟨vs[k], List.getElem_mem hk, by simpa [hk] using h⟩
theorem all_may_true (vs : List RV) (h : ∀ k, k < vs.length → (vs.getD k RV.nul).may = true) : vs.all RV.may = true := by
  rw [List.all_eq_true]
  intro v hv
  obtain ⟨k, hk, rfl⟩ := List.getElem_of_mem hv
  simpa [hk] using h k hk
theorem all_may_at (vs : List RV) (h : vs.all RV.may = true) (k : Nat) (hk : k < vs.length) : (vs.getD k RV.nul).may = true := by
  rw [List.all_eq_true] at h
  simpa [hk] using h vs[k] (List.getElem_mem hk)
end Go.Proofs.YtlcefenjlchaiaaDoor
