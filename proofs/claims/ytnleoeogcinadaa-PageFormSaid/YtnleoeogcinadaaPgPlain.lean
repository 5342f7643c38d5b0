/- Pages as lists: what is read has room, and parts of it too; no condition. -/
import Derived.Test.YtnleoeogcinadaaPgRRead
namespace Go.Proofs.Ytnleoeogcinadaa
open Go.RowKit

theorem rdCells_room (l : List Int) (hl : l.length = 256) : ∀ (ns : List Int) (a : Nat) (cs : List ByteArray) (b : Nat), rdCells l a ns = some (cs, b) → a ≤ 256 → b ≤ 256 ∧ b = a + (flatI cs).length ∧ cs.length = ns.length
  | [], a, cs, b, h, ha => by
    simp only [rdCells, Option.some.injEq, Prod.mk.injEq] at h
    obtain ⟨rfl, rfl⟩ := h
    simp [flatI, ha]
  | n :: r, a, cs, b, h, ha => by
    unfold rdCells at h
    by_cases hb : n < 1 ∨ 60 < n ∨ 256 < (a : Int) + n
    · rw [if_pos hb] at h; cases h
    · rw [if_neg hb] at h
      cases hr : rdCells l (a + n.toNat) r with
      | none => rw [hr] at h; cases h
      | some q =>
        obtain ⟨cs', b'⟩ := q
        rw [hr] at h
        simp only [Option.map_some, Option.some.injEq, Prod.mk.injEq] at h
        obtain ⟨rfl, rfl⟩ := h
        obtain ⟨h1, h2, h3⟩ := rdCells_room l hl r _ cs' b' hr (by omega)
        refine ⟨h1, ?_, by simp [h3]⟩
        have hs : (strI (strOf (subL l a n.toNat))).length = n.toNat := by
          rw [strI_len, strOf_size]
          unfold subL
          rw [List.length_take, List.length_drop]
          omega
        simp only [flatI, List.flatMap_cons, List.length_append] at h2 ⊢
        rw [hs]
        omega
theorem readF_room {l : List Int} (hB : Bytes l) {kind link : Int} {cs : List ByteArray} (h : readF l = some (kind, link, cs)) : 0 ≤ roomI cs := by
  have r1 := hB.rng 1
  unfold readF at h
  by_cases hb : 5 < at_ l 0 ∨ 256 < 6 + at_ l 1
  · rw [if_pos hb] at h; cases h
  · rw [if_neg hb] at h
    cases hr : rdCells l (6 + (at_ l 1).toNat) (subL l 6 (at_ l 1).toNat) with
    | none => rw [hr] at h; cases h
    | some q =>
      obtain ⟨cs', b⟩ := q
      rw [hr] at h
      simp only at h
      split at h
      · simp only [Option.some.injEq, Prod.mk.injEq] at h
        obtain ⟨rfl, rfl, rfl⟩ := h
        obtain ⟨h1, h2, h3⟩ := rdCells_room l hB.len _ _ _ _ hr (by omega)
        rw [roomI_flat]
        have h4 : (subL l 6 (at_ l 1).toNat).length = (at_ l 1).toNat := by
          unfold subL
          rw [List.length_take, List.length_drop, hB.len]
          omega
        omega
      · cases h
theorem roomI_sub (xs ys : List ByteArray) : roomI xs ≤ roomI (xs ++ ys) + (1 + 0) * 0 + ((ys.map fun c => 1 + (c.size : Int)).sum) := by
  unfold roomI
  rw [List.map_append, List.sum_append]
  omega
theorem sum_nonneg (ys : List ByteArray) : 0 ≤ (ys.map fun c => 1 + (c.size : Int)).sum := by
  induction ys with
  | nil => simp
  | cons c ys ih => simp; omega
theorem roomI_take_ge (xs : List ByteArray) (n : Nat) : roomI xs ≤ roomI (xs.take n) := by
  have h := sum_nonneg (xs.drop n)
  have e : roomI xs = roomI (xs.take n) - ((xs.drop n).map fun c => 1 + (c.size : Int)).sum := by
    unfold roomI
    conv => lhs; rw [← List.take_append_drop n xs, List.map_append, List.sum_append]
    omega
  omega
theorem roomI_drop_ge (xs : List ByteArray) (n : Nat) : roomI xs ≤ roomI (xs.drop n) := by
  have h := sum_nonneg (xs.take n)
  have e : roomI xs = roomI (xs.drop n) - ((xs.take n).map fun c => 1 + (c.size : Int)).sum := by
    unfold roomI
    conv => lhs; rw [← List.take_append_drop n xs, List.map_append, List.sum_append]
    omega
  omega
theorem Sl.take {w : World} {A : Option Addr} {n : Nat} {xs : List ByteArray} (h : Sl w A n xs) (k : Nat) (hk : k ≤ n) : Sl w A k (xs.take k) := by
  refine ⟨by rw [List.length_take, h.1]; omega, fun hk0 => ?_⟩
  obtain ⟨g, o, e, hg, hc⟩ := h.2 (by omega)
  refine ⟨g, o, e, hg, fun j hj => ?_⟩
  rw [hc j (by omega)]
  simp [List.getElem?_take_of_lt hj]
theorem Sl.drop {w : World} {g o : Nat} {n : Nat} {xs : List ByteArray} (h : Sl w (some ⟨g, o, none⟩) n xs) (k : Nat) (hk : k ≤ n) : Sl w (some ⟨g, o + k, none⟩) (n - k) (xs.drop k) := by
  refine ⟨by rw [List.length_drop, h.1], fun hk0 => ?_⟩
  obtain ⟨g', o', e, hg, hc⟩ := h.2 (by omega)
  injection e with e
  injection e with e1 e2
  subst e1 e2
  refine ⟨g, o + k, rfl, hg, fun j hj => ?_⟩
  rw [show o + k + j = o + (k + j) by omega, hc (k + j) (by omega)]
  simp
theorem Sl.empty (w : World) (A : Option Addr) : Sl w A 0 [] := ⟨rfl, fun h => by omega⟩
end Go.Proofs.Ytnleoeogcinadaa
