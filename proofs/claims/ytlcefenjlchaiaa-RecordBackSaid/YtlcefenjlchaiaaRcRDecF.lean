/- The reference's reading of a text comes to the same row; no condition. -/
import Derived.Test.YtlcefenjlchaiaaRcRVal
namespace Go.Proofs.Ytlcefenjlchaiaa
open Go.RowKit

/-- a value of type t at place a, types above 10000 refused -/
def valF' (t : Nat) (s : ByteArray) (a : Nat) : Option (RV × Nat) := (rvalF t (s.extract a s.size)).map fun q => (q.1, a + q.2)
def valsF' (s : ByteArray) : List Nat → Nat → Option (List RV × Nat)
  | [], a => some ([], a)
  | t :: ts, a => match valF' t s a with
    | none => none
    | some (v, a') => (valsF' s ts a').map fun q => (v :: q.1, q.2)
theorem valF_small (t : Nat) (s : ByteArray) (a : Nat) (ha : a ≤ s.size) (ht : t ≤ 10000) : valF' t s a = valF t s a := by
  have hx : ∀ n, (s.extract a s.size).extract 0 n = s.extract a (min (a + n) s.size) := fun n => by
    rw [ByteArray.extract_extract]
    simp
  have hsz : (s.extract a s.size).size = s.size - a := by simp
  unfold valF' rvalF valF
  rw [hsz]
  by_cases h0 : t = 0
  · rw [if_pos h0, if_pos h0]; rfl
  rw [if_neg h0, if_neg h0]
  by_cases h9 : t = 9 ∨ t = 10
  · rw [if_pos h9, if_neg (by omega), if_pos (by omega)]; rfl
  rw [if_neg h9]
  by_cases h8 : t ≤ 8
  · rw [if_pos h8, if_pos h8]
    by_cases hl : t ≤ s.size - a
    · rw [if_pos hl, if_pos (by omega), hx, show min (a + t) s.size = a + t by omega]; rfl
    · rw [if_neg hl, if_neg (by omega)]; rfl
  rw [if_neg h8, if_neg h8, if_neg (show ¬ t ≤ 10 by omega)]
  by_cases h11 : t = 11
  · rw [if_pos (.inl h11), if_pos h11]; rfl
  rw [if_neg (show ¬ (t = 11 ∨ 10000 < t) by omega), if_neg h11]
  by_cases hp : t % 2 = 0
  · rw [if_pos hp]
    by_cases hl : (t - 12) / 2 ≤ s.size - a
    · rw [if_pos hl, if_pos hp, if_pos (by omega), hx, show min (a + (t - 12) / 2) s.size = a + (t - 12) / 2 by omega]; rfl
    · rw [if_neg hl, if_pos hp, if_neg (by omega)]; rfl
  · rw [if_neg hp, show (t - 13) / 2 = (t - 12) / 2 by omega]
    by_cases hl : (t - 12) / 2 ≤ s.size - a
    · rw [if_pos hl, if_neg hp, if_pos (by omega), hx, show min (a + (t - 12) / 2) s.size = a + (t - 12) / 2 by omega]; rfl
    · rw [if_neg hl, if_neg hp, if_neg (by omega)]; rfl
theorem valF_big (t : Nat) (s : ByteArray) (a : Nat) (ht : 10000 < t) : valF' t s a = none := by
  unfold valF' rvalF
  rw [if_neg (by omega), if_neg (by omega), if_neg (by omega), if_pos (by omega)]
  rfl
theorem valF_bad (t : Nat) (s : ByteArray) (a b : Nat) (v : RV) (ht : 10000 < t) (h : valF t s a = some (v, b)) : v.may = false := by
  unfold valF at h
  rw [if_neg (by omega), if_neg (by omega), if_neg (by omega), if_neg (by omega)] at h
  split at h
  · split at h
    · rename_i hle
      simp only [Option.some.injEq, Prod.mk.injEq] at h
      obtain ⟨rfl, rfl⟩ := h
      have : ¬ (s.extract a (a + (t - 12) / 2)).size ≤ 400 := by simp; omega
      simp only [RV.may, mayB]
      simp [this]
      omega
    · cases h
  · split at h
    · rename_i hle
      simp only [Option.some.injEq, Prod.mk.injEq] at h
      obtain ⟨rfl, rfl⟩ := h
      have : ¬ (s.extract a (a + (t - 13) / 2)).size ≤ 400 := by simp; omega
      simp only [RV.may, mayB]
      simp [this]
      omega
    · cases h
theorem valsF_le (s : ByteArray) (hs : s.size ≤ 9223372036854775807) : ∀ (ts : List Nat) (a : Nat), a ≤ s.size → valsF' s ts a = valsF s ts a ∨ (valsF' s ts a = none ∧ ∀ vs b, valsF s ts a = some (vs, b) → vs.all RV.may = false)
  | [], a, _ => .inl rfl
  | t :: ts, a, ha => by
    rcases Nat.lt_or_ge 10000 t with ht | ht
    · refine .inr ⟨by unfold valsF'; rw [valF_big t s a ht], fun vs b h => ?_⟩
      unfold valsF at h
      cases hv : valF t s a with
      | none => rw [hv] at h; cases h
      | some q =>
        obtain ⟨v, a'⟩ := q
        rw [hv] at h
        simp only [Option.map_eq_some_iff, Prod.mk.injEq] at h
        obtain ⟨q2, _, h1, _⟩ := h
        rw [← h1, List.all_cons, valF_bad t s a a' v ht hv]
        rfl
    · have e := valF_small t s a ha (by omega)
      unfold valsF' valsF
      rw [e]
      cases hv : valF t s a with
      | none => exact .inl rfl
      | some q =>
        obtain ⟨v, a'⟩ := q
        have hf := valF_facts hs hv ha
        simp only
        rcases valsF_le s hs ts a' hf.2 with h | ⟨h1, h2⟩
        · exact .inl (by rw [h])
        · refine .inr ⟨by rw [h1]; rfl, fun vs b h => ?_⟩
          simp only [Option.map_eq_some_iff, Prod.mk.injEq] at h
          obtain ⟨q2, hq2, h3, _⟩ := h
          rw [← h3, List.all_cons, h2 q2.1 q2.2 hq2, Bool.and_false]
def decF' (s : ByteArray) : Option (List RV) :=
  match numF s 0 with
  | none => none
  | some (n, a) => if 16 < n then none else
    match typesF s n a with
    | none => none
    | some (ts, a') => match valsF' s ts a' with
      | none => none
      | some (vs, _) => if encF vs = (s, 0) then some vs else none
theorem typesF_av (s : ByteArray) : ∀ (n a : Nat) (ts : List Nat) (b : Nat), typesF s n a = some (ts, b) → a ≤ s.size → b ≤ s.size
  | 0, a, ts, b, h, ha => by
    simp only [typesF, Option.some.injEq, Prod.mk.injEq] at h
    omega
  | n + 1, a, ts, b, h, ha => by
    unfold typesF at h
    cases hn : numF s a with
    | none => rw [hn] at h; cases h
    | some q =>
      obtain ⟨t, a'⟩ := q
      rw [hn] at h
      simp only [Option.map_eq_some_iff, Prod.mk.injEq] at h
      obtain ⟨q2, hq2, _, h4⟩ := h
      have := typesF_av s n a' q2.1 q2.2 hq2 (numF_facts hn ha).2.2
      omega
theorem decF_eq (s : ByteArray) (hs : s.size ≤ 9223372036854775807) : decF' s = decF s := by
  unfold decF' decF
  cases hn : numF s 0 with
  | none => rfl
  | some q =>
    obtain ⟨n, a⟩ := q
    simp only
    split
    · rfl
    · cases ht : typesF s n a with
      | none => rfl
      | some q2 =>
        obtain ⟨ts, a'⟩ := q2
        simp only
        have ha := typesF_av s n a ts a' ht (numF_facts hn (by omega)).2.2
        rcases valsF_le s hs ts a' ha with h | ⟨h1, h2⟩
        · rw [h]; rfl
        · rw [h1]
          cases hv : valsF s ts a' with
          | none => rfl
          | some q3 =>
            obtain ⟨vs, b⟩ := q3
            simp only
            have h3 := h2 vs b hv
            rw [if_neg]
            unfold encF
            rw [if_pos h3]
            intro e
            injection e with _ e
            exact absurd e (by decide)
theorem valsF'_snoc (s : ByteArray) : ∀ (ts : List Nat) (t a : Nat), valsF' s (ts ++ [t]) a = match valsF' s ts a with
    | none => none
    | some (vs, b) => (valF' t s b).map fun q => (vs ++ [q.1], q.2)
  | [], t, a => by
    simp only [List.nil_append, valsF']
    cases valF' t s a with
    | none => rfl
    | some q => rfl
  | t0 :: ts, t, a => by
    have ih := valsF'_snoc s ts t
    rw [List.cons_append, valsF']
    cases h : valF' t0 s a with
    | none => simp [valsF', h]
    | some q =>
      obtain ⟨v, a'⟩ := q
      simp only
      rw [ih a']
      conv => rhs; rw [valsF', h]
      simp only
      cases h2 : valsF' s ts a' with
      | none => rfl
      | some q2 =>
        obtain ⟨vs, b⟩ := q2
        simp only [Option.map_some]
        cases valF' t s b with
        | none => rfl
        | some q3 => rfl
theorem valsF'_none (s : ByteArray) (ts : List Nat) (k a : Nat) (h : valsF' s (ts.take k) a = none) : valsF' s ts a = none := by
  have : ∀ n, k ≤ n → valsF' s (ts.take n) a = none := by
    intro n hn
    induction n with
    | zero => obtain rfl : k = 0 := by omega
              exact h
    | succ n ih =>
      rcases Nat.lt_or_ge k (n + 1) with q | q
      · rcases Nat.lt_or_ge n ts.length with q2 | q2
        · rw [List.take_succ_eq_append_getElem q2, valsF'_snoc, ih (by omega)]
        · have := ih (by omega)
          rw [List.take_of_length_le q2] at this
          rw [List.take_of_length_le (by omega)]
          exact this
      · obtain rfl : k = n + 1 := by omega
        exact h
  rcases Nat.lt_or_ge ts.length k with q | q
  · rw [List.take_of_length_le (by omega)] at h
    exact h
  · have := this ts.length q
    rwa [List.take_of_length_le (Nat.le_refl _)] at this
theorem valF'_facts {t : Nat} {s : ByteArray} {a b : Nat} {v : RV} (hs : s.size ≤ 9223372036854775807) (h : valF' t s a = some (v, b)) (ha : a ≤ s.size) : v.ok ∧ a ≤ b ∧ b ≤ s.size := by
  rcases Nat.lt_or_ge 10000 t with ht | ht
  · rw [valF_big t s a ht] at h; cases h
  · have hm : a ≤ b := by
      unfold valF' at h
      simp only [Option.map_eq_some_iff, Prod.mk.injEq] at h
      obtain ⟨q, _, _, h4⟩ := h
      omega
    rw [valF_small t s a ha ht] at h
    have := valF_facts hs h ha
    exact ⟨this.1, hm, this.2⟩
end Go.Proofs.Ytlcefenjlchaiaa
