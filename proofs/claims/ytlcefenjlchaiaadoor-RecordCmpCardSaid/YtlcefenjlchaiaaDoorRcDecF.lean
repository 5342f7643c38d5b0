/- What row a text is the record of, in plain lists; no condition. -/
import Derived.Test.YtlcefenjlchaiaaDoorRcCatch
namespace Go.Proofs.YtlcefenjlchaiaaDoor
open Go.RowKit

def numF (s : ByteArray) (a : Nat) : Option (Nat × Nat) := (varF (s.extract a s.size)).map fun q => (q.1, a + q.2)
def typesF (s : ByteArray) : Nat → Nat → Option (List Nat × Nat)
  | 0, a => some ([], a)
  | n + 1, a => match numF s a with
    | none => none
    | some (t, a') => (typesF s n a').map fun q => (t :: q.1, q.2)
def valsF (s : ByteArray) : List Nat → Nat → Option (List RV × Nat)
  | [], a => some ([], a)
  | t :: ts, a => match valF t s a with
    | none => none
    | some (v, a') => (valsF s ts a').map fun q => (v :: q.1, q.2)
def decF (s : ByteArray) : Option (List RV) :=
  match numF s 0 with
  | none => none
  | some (n, a) => if 16 < n then none else
    match typesF s n a with
    | none => none
    | some (ts, a') => match valsF s ts a' with
      | none => none
      | some (vs, _) => if encF vs = (s, 0) then some vs else none
theorem numF_facts {s : ByteArray} {a u b : Nat} (h : numF s a = some (u, b)) (ha : a ≤ s.size) : u < 18446744073709551616 ∧ a < b ∧ b ≤ s.size := by
  unfold numF at h
  cases hv : varF (s.extract a s.size) with
  | none => rw [hv] at h; cases h
  | some q =>
    rw [hv] at h
    obtain ⟨u', n⟩ := q
    simp only [Option.map_some, Option.some.injEq, Prod.mk.injEq] at h
    obtain ⟨rfl, rfl⟩ := h
    have := varF_facts _ _ _ hv
    have h4 := this.2.2.2
    simp at h4
    omega
theorem okk (k i : Int) (s : ByteArray) (h1 : -9223372036854775808 ≤ k) (h2 : k ≤ 9223372036854775807) (h3 : -9223372036854775808 ≤ i) (h4 : i ≤ 9223372036854775807) (h5 : s.size ≤ 9223372036854775807) : RV.ok ⟨k, i, s⟩ := ⟨h1, h2, h3, h4, h5⟩
theorem valF_facts {t : Nat} {s : ByteArray} {a b : Nat} {v : RV} (hs : s.size ≤ 9223372036854775807) (h : valF t s a = some (v, b)) (ha : a ≤ s.size) : v.ok ∧ b ≤ s.size := by
  have hex : ∀ x y : Nat, (s.extract x y).size ≤ 9223372036854775807 := fun x y => by simp; omega
  unfold valF at h
  split at h
  · simp only [Option.some.injEq, Prod.mk.injEq] at h
    obtain ⟨rfl, rfl⟩ := h
    exact ⟨RV.nul_ok, ha⟩
  · split at h
    · rename_i h8
      split at h
      · rename_i hle
        simp only [Option.some.injEq, Prod.mk.injEq] at h
        obtain ⟨rfl, rfl⟩ := h
        refine ⟨?_, hle⟩
        have hl : (natsOf (s.extract a (a + t))).length ≤ 8 := by rw [natsOf_len]; simp; omega
        have hbd : -9223372036854775808 ≤ valI (natsOf (s.extract a (a + t))) ∧ valI (natsOf (s.extract a (a + t))) ≤ 9223372036854775807 := by
          have hb := natsOf_lt (s.extract a (a + t))
          generalize natsOf (s.extract a (a + t)) = l at hl hb ⊢
          rcases List.eq_nil_or_concat l with rfl | ⟨l', x, rfl⟩
          · simp [valI, foldB]
          · rw [List.concat_eq_append] at hl hb ⊢
            have e : valI (l' ++ [x]) = foldB (sgn (l' ++ [x])) l' * 256 + x := by
              show foldB (sgn (l' ++ [x])) (l' ++ [x]) = _
              exact foldB_snoc _ _ _
            have h1 := sgn_bd (l' ++ [x]) hb l'.length (by simp at hl; omega)
            rw [List.take_left' rfl] at h1
            have hx := hb x (by simp)
            rw [e]
            omega
        exact okk _ _ _ (by decide) (by decide) hbd.1 hbd.2 (by decide)
      · cases h
    · split at h
      · simp only [Option.some.injEq, Prod.mk.injEq] at h
        obtain ⟨rfl, rfl⟩ := h
        exact ⟨okk _ _ _ (by decide) (by decide) (by omega) (by omega) (by decide), ha⟩
      · split at h
        · cases h
        · split at h
          · split at h
            · rename_i hle
              simp only [Option.some.injEq, Prod.mk.injEq] at h
              obtain ⟨rfl, rfl⟩ := h
              exact ⟨okk _ _ _ (by decide) (by decide) (by decide) (by decide) (hex _ _), hle⟩
            · cases h
          · split at h
            · rename_i hle
              simp only [Option.some.injEq, Prod.mk.injEq] at h
              obtain ⟨rfl, rfl⟩ := h
              exact ⟨okk _ _ _ (by decide) (by decide) (by decide) (by decide) (hex _ _), hle⟩
            · cases h
/-- the types, one more -/
theorem typesF_snoc (s : ByteArray) : ∀ (n a : Nat), typesF s (n + 1) a = match typesF s n a with
    | none => none
    | some (ts, b) => (numF s b).map fun q => (ts ++ [q.1], q.2)
  | 0, a => by
    simp only [typesF]
    cases numF s a with
    | none => rfl
    | some q => rfl
  | n + 1, a => by
    have ih := typesF_snoc s n
    rw [typesF]
    cases h : numF s a with
    | none => simp [typesF, h]
    | some q =>
      obtain ⟨t, a'⟩ := q
      simp only
      rw [ih a']
      conv => rhs; rw [typesF, h]
      simp only
      cases h2 : typesF s n a' with
      | none => rfl
      | some q2 =>
        obtain ⟨ts, b⟩ := q2
        simp only [Option.map_some]
        cases numF s b with
        | none => rfl
        | some q3 => rfl
theorem valsF_snoc (s : ByteArray) : ∀ (ts : List Nat) (t a : Nat), valsF s (ts ++ [t]) a = match valsF s ts a with
    | none => none
    | some (vs, b) => (valF t s b).map fun q => (vs ++ [q.1], q.2)
  | [], t, a => by
    simp only [List.nil_append, valsF]
    cases valF t s a with
    | none => rfl
    | some q => rfl
  | t0 :: ts, t, a => by
    have ih := valsF_snoc s ts t
    rw [List.cons_append, valsF]
    cases h : valF t0 s a with
    | none => simp [valsF, h]
    | some q =>
      obtain ⟨v, a'⟩ := q
      simp only
      rw [ih a']
      conv => rhs; rw [valsF, h]
      simp only
      cases h2 : valsF s ts a' with
      | none => rfl
      | some q2 =>
        obtain ⟨vs, b⟩ := q2
        simp only [Option.map_some]
        cases valF t s b with
        | none => rfl
        | some q3 => rfl
theorem typesF_none (s : ByteArray) (n k a : Nat) (h : typesF s k a = none) (hk : k ≤ n) : typesF s n a = none := by
  induction n with
  | zero => obtain rfl : k = 0 := by omega
            exact h
  | succ n ih =>
    rcases Nat.lt_or_ge k (n + 1) with q | q
    · rw [typesF_snoc, ih (by omega)]
    · obtain rfl : k = n + 1 := by omega
      exact h
theorem valsF_none (s : ByteArray) (ts : List Nat) (k a : Nat) (h : valsF s (ts.take k) a = none) : valsF s ts a = none := by
  have : ∀ n, k ≤ n → valsF s (ts.take n) a = none := by
    intro n hn
    induction n with
    | zero => obtain rfl : k = 0 := by omega
              exact h
    | succ n ih =>
      rcases Nat.lt_or_ge k (n + 1) with q | q
      · rcases Nat.lt_or_ge n ts.length with q2 | q2
        · rw [List.take_succ_eq_append_getElem q2, valsF_snoc, ih (by omega)]
        · have := ih (by omega)
          rw [List.take_of_length_le q2] at this
          rw [List.take_of_length_le (by omega)]
          exact this
      · obtain rfl : k = n + 1 := by omega
        exact h
  rcases Nat.lt_or_ge ts.length k with q | q
  · rw [List.take_of_length_le (by omega)] at h
    exact h
  · have := this ts.length q
    rwa [List.take_of_length_le (Nat.le_refl _)] at this
end Go.Proofs.YtlcefenjlchaiaaDoor
