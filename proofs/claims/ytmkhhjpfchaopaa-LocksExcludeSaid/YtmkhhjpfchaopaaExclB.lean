/- LocksExclude: what each step keeps, in plain lists; no condition. -/
import Derived.Test.YtmkhhjpfchaopaaPlayB
namespace Go.Proofs.Ytmkhhjpfchaopaa
open Go.RowKit

/-- at most one may write; who holds everything is alone -/
structure LInv (hs : List Int) : Prop where
  len : hs.length = 8
  rng : Rng hs
  two : ∀ i j : Nat, i < 8 → j < 8 → i ≠ j → ¬ (2 ≤ hs[i]?.getD 0 ∧ 2 ≤ hs[j]?.getD 0)
  three : ∀ i j : Nat, i < 8 → j < 8 → i ≠ j → 3 ≤ hs[i]?.getD 0 → hs[j]?.getD 0 < 1

theorem LInv.zero : LInv (List.replicate 8 0) := by
  have z : ∀ i : Nat, (List.replicate 8 (0 : Int))[i]?.getD 0 = 0 := by
    intro i
    rw [List.getElem?_replicate]
    split <;> rfl
  exact ⟨by simp, Rng.zero, fun i j _ _ _ => by rw [z, z]; decide, fun i j _ _ _ => by rw [z, z]; decide⟩

theorem setget (hs : List Int) (h8 : hs.length = 8) (k : Nat) (l : Int) (i : Nat) (hk : k < 8) : (hs.set k l)[i]?.getD 0 = if k = i then l else hs[i]?.getD 0 := by
  rw [List.getElem?_set]
  split
  · rw [if_pos (by omega)]; rfl
  · rfl

theorem LInv.take {hs : List Int} (h : LInv hs) (c l : Int) : LInv (takeI hs c l).2 := by
  rcases wrongI_cases c l with ⟨q, _⟩ | ⟨q, q0, q1, q2, q3⟩
  · simp [takeI, q]; exact h
  · obtain ⟨k, rfl⟩ := Int.eq_ofNat_of_zero_le q0
    have hk : k < 8 := by omega
    simp only [takeI, q, ne_eq, not_true_eq_false, if_false, Int.toNat_natCast]
    split
    · exact h
    · split
      · rename_i hf
        have no : ∀ m : Int, others hs k m 0 = false → ∀ o : Nat, o < 8 → o ≠ k → hs[o]?.getD 0 < m := by
          intro m hm o ho hne
          rcases Int.lt_or_le (hs[o]?.getD 0) m with hlt | hge
          · exact hlt
          · have := (others_iff hs k m).2 ⟨o, ho, by omega, hge⟩
            rw [hm] at this
            cases this
        have f1 : l = 3 → others hs k 1 0 = false := fun e => by subst e; simp [freeI] at hf; exact hf.1.1
        have f2 : 2 ≤ l → others hs k 2 0 = false := fun e => by
          rcases (show l = 2 ∨ l = 3 by omega) with e' | e' <;> subst e' <;> simp [freeI] at hf
          · exact hf.1
          · exact hf.1.2
        have f3 : 1 ≤ l → others hs k 3 0 = false := fun e => by
          rcases (show l = 1 ∨ l = 2 ∨ l = 3 by omega) with e' | e' | e' <;> subst e' <;> simp [freeI] at hf
          · exact hf
          · exact hf.2
          · exact hf.2
        refine ⟨by simp [h.len], h.rng.set k l q2 q3, fun i j hi hj hne => ?_, fun i j hi hj hne => ?_⟩
        · rw [setget hs h.len k l i hk, setget hs h.len k l j hk]
          have := h.two i j hi hj hne
          split
          · rw [if_neg (by omega)]
            intro ⟨p, p'⟩
            have := no 2 (f2 p) j hj (by omega)
            omega
          · split
            · intro ⟨p, p'⟩
              have := no 2 (f2 p') i hi (by omega)
              omega
            · exact this
        · rw [setget hs h.len k l i hk, setget hs h.len k l j hk]
          have := h.three i j hi hj hne
          split
          · rw [if_neg (by omega)]
            intro p
            exact no 1 (f1 (by omega)) j hj (by omega)
          · split
            · intro p
              rcases Int.lt_or_le l 1 with hl | hl
              · exact hl
              · have := no 3 (f3 hl) i hi (by omega)
                omega
            · exact this
      · exact h
theorem LInv.lower {hs : List Int} (h : LInv hs) (k : Nat) (hk : k < 8) (l : Int) (h0 : 0 ≤ l) (hl : l ≤ hs[k]?.getD 0) : LInv (hs.set k l) := by
  have h3 := h.rng k
  refine ⟨by simp [h.len], h.rng.set k l h0 (by omega), fun i j hi hj hne => ?_, fun i j hi hj hne => ?_⟩
  · rw [setget hs h.len k l i hk, setget hs h.len k l j hk]
    have := h.two i j hi hj hne
    split
    · rw [if_neg (by omega)]; subst i; omega
    · split
      · subst j; omega
      · exact this
  · rw [setget hs h.len k l i hk, setget hs h.len k l j hk]
    have := h.three i j hi hj hne
    split
    · rw [if_neg (by omega)]; subst i; intro p; exact this (by omega)
    · split
      · subst j; intro p; have := this p; omega
      · exact this
theorem LInv.drop {hs : List Int} (h : LInv hs) (c l : Int) : LInv (dropI hs c l).2 := by
  rcases wrongI_cases c l with ⟨q, _⟩ | ⟨q, q0, q1, q2, q3⟩
  · simp [dropI, q]; exact h
  · obtain ⟨k, rfl⟩ := Int.eq_ofNat_of_zero_le q0
    have hk : k < 8 := by omega
    simp only [dropI, q, ne_eq, not_true_eq_false, if_false, Int.toNat_natCast]
    have h3 := h.rng k
    refine h.lower k hk _ ?_ ?_
    · simp; omega
    · simp; omega

/-- how many hold so much -/
theorem hold_one (hs : List Int) (l : Int) (h : ∀ i j : Nat, i < 8 → j < 8 → i ≠ j → ¬ (l ≤ hs[i]?.getD 0 ∧ l ≤ hs[j]?.getD 0)) : ∀ n, n ≤ 8 → (holdK hs l n).length ≤ 1 ∧ ((holdK hs l n).length = 1 → ∃ i, i < n ∧ l ≤ hs[i]?.getD 0) ∧ ((holdK hs l n).length = 0 → ∀ i, i < n → hs[i]?.getD 0 < l)
  | 0, _ => ⟨by simp [holdK], by simp [holdK], fun _ i hi => by omega⟩
  | n + 1, hn => by
    obtain ⟨a, b, c⟩ := hold_one hs l h n (by omega)
    by_cases q : l ≤ hs[n]?.getD 0
    · have hz : (holdK hs l n).length = 0 := by
        rcases Nat.eq_zero_or_pos (holdK hs l n).length with e | e
        · exact e
        · obtain ⟨i, hi, hl⟩ := b (by omega)
          exact absurd ⟨hl, q⟩ (h i n (by omega) (by omega) (by omega))
      rw [holdK_hit hs l n q]
      simp [hz]
      exact ⟨n, by omega, q⟩
    · rw [holdK_skip hs l n (by omega)]
      refine ⟨a, fun e => ?_, fun e i hi => ?_⟩
      · obtain ⟨i, hi, hl⟩ := b e
        exact ⟨i, by omega, hl⟩
      · rcases Nat.lt_or_ge i n with p | p
        · exact c e i p
        · obtain rfl : i = n := by omega
          omega
theorem hold_all (hs : List Int) (h : Rng hs) : ∀ n, (holdK hs 0 n).length = n
  | 0 => by simp [holdK]
  | n + 1 => by
    rw [holdK_hit hs 0 n (h n).1]
    simp [hold_all hs h n]
theorem LInv.counts {hs : List Int} (h : LInv hs) : (holdK hs 2 8).length ≤ 1 ∧ ((holdK hs 3 8).length = 1 → (holdK hs 1 8).length = 1) ∧ (holdK hs 0 8).length = 8 := by
  refine ⟨(hold_one hs 2 (fun i j a b c => h.two i j a b c) 8 (Nat.le_refl _)).1, fun e => ?_, hold_all hs h.rng 8⟩
  obtain ⟨i, hi, h3⟩ := (hold_one hs 3 (fun i j a b c q => h.two i j a b c ⟨by omega, by omega⟩) 8 (Nat.le_refl _)).2.1 e
  have one : ∀ i' j : Nat, i' < 8 → j < 8 → i' ≠ j → ¬ (1 ≤ hs[i']?.getD 0 ∧ 1 ≤ hs[j]?.getD 0) := by
    intro a b ha hb hne ⟨p, p'⟩
    by_cases e1 : i = a
    · have := h.three i b hi hb (by omega) h3
      omega
    · have := h.three i a hi ha e1 h3
      omega
  obtain ⟨a, b, c⟩ := hold_one hs 1 one 8 (Nat.le_refl _)
  rcases Nat.eq_zero_or_pos (holdK hs 1 8).length with e | e
  · have := c e i hi
    omega
  · omega
/-- what a step answers: it changes nothing if refused, and never another one's lock -/
theorem take_other (hs : List Int) (c l : Int) (o : Nat) (h : (takeI hs c l).1 ≠ 0 ∨ (o : Int) ≠ c) : (takeI hs c l).2[o]?.getD 0 = hs[o]?.getD 0 := by
  revert h
  unfold takeI
  split
  · simp
  · split
    · simp
    · split
      · intro h
        simp at h
        rename_i hw _ _
        rcases wrongI_cases c l with ⟨q, _⟩ | ⟨q, q0, _⟩
        · exact absurd (by rw [q]; decide) hw
        · simp only
          rw [List.getElem?_set_ne (by omega)]
      · simp
theorem drop_other (hs : List Int) (c l : Int) (o : Nat) (h : (dropI hs c l).1 ≠ 0 ∨ (o : Int) ≠ c) : (dropI hs c l).2[o]?.getD 0 = hs[o]?.getD 0 := by
  revert h
  unfold dropI
  split
  · simp
  · intro h
    simp at h
    rename_i hw
    rcases wrongI_cases c l with ⟨q, _⟩ | ⟨q, q0, _⟩
    · exact absurd (by rw [q]; decide) hw
    · simp only
      rw [List.getElem?_set_ne (by omega)]
theorem take_free (c l : Int) : (takeI (List.replicate 8 0) c l).1 = wrongI c l := by
  rcases wrongI_cases c l with ⟨q, _⟩ | ⟨q, q0, q1, q2, q3⟩
  · simp [takeI, q]
  · have no : ∀ m : Int, 1 ≤ m → others (List.replicate 8 0) c m 0 = false := by
      intro m hm
      cases hx : others (List.replicate 8 0) c m 0
      · rfl
      · obtain ⟨o, _, _, p⟩ := (others_iff _ c m).1 hx
        have := (Rng.zero o)
        rw [List.getElem?_replicate] at p
        split at p <;> simp at p <;> omega
    have hf : freeI (List.replicate 8 0) c l = true := by
      unfold freeI
      rw [no 1 (by omega), no 2 (by omega), no 3 (by omega)]
      simp
    simp only [takeI, q, ne_eq, not_true_eq_false, if_false, hf, if_true]
    split <;> rfl
end Go.Proofs.Ytmkhhjpfchaopaa
