/- What number a text begins with, in plain lists; no condition. -/
import Derived.Test.YtlcefenjlchaiaaDoorRcRPut
namespace Go.Proofs.YtlcefenjlchaiaaDoor
open Go.RowKit

def natsOf (s : ByteArray) : List Nat := s.data.toList.map (·.toNat)
/-- i bytes being read, and u out of them: the number that stands here, and how many bytes it has -/
def scanV : Nat → Nat → List Nat → Option (Nat × Nat)
  | _, _, [] => none
  | i, u, b :: r => if i = 8 then some (u * 256 + b, 9) else if b < 128 then some (u * 128 + b % 128, i + 1) else scanV (i + 1) (u * 128 + b % 128) r
def varF (s : ByteArray) : Option (Nat × Nat) := (scanV 0 0 (natsOf s)).bind fun q => if (putL q.1).length = q.2 then some q else none

/-- the value of bytes, the last one first -/
def le7 : List Nat → Nat
  | [] => 0
  | b :: r => b % 128 + 128 * le7 r
theorem le7_cons (b : Nat) (r : List Nat) : le7 (b :: r) = b % 128 + 128 * le7 r := rfl
def intL (l : List Nat) : List Int := l.map (fun (b : Nat) => (b : Int))
theorem tl7_le : ∀ (f : Nat) (r : List Nat), (∀ b ∈ r, 128 ≤ b ∧ b < 256) → r.length ≤ f → (tl7 f (le7 r)).length ≤ r.length ∧ ((tl7 f (le7 r)).length = r.length → tl7 f (le7 r) = intL r)
  | 0, r, _, hl => by
    obtain rfl : r = [] := List.eq_nil_of_length_eq_zero (by omega)
    simp [tl7, intL]
  | f + 1, [], _, _ => by simp [tl7, le7, intL]
  | f + 1, b :: r, hb, hl => by
    have h1 := hb b (by simp)
    obtain ⟨i1, i2⟩ := tl7_le f r (fun x hx => hb x (by simp [hx])) (by simp at hl; omega)
    unfold tl7
    by_cases h0 : le7 (b :: r) = 0
    · rw [if_pos h0]
      simp
    · rw [if_neg h0]
      have e : le7 (b :: r) / 128 = le7 r := by rw [le7_cons]; omega
      have e2 : le7 (b :: r) % 128 = b % 128 := by rw [le7_cons]; omega
      rw [e, e2]
      refine ⟨by simp; exact i1, fun hh => ?_⟩
      rw [i2 (by simpa using hh)]
      simp only [intL, List.map_cons]
      congr 1
      omega
theorem le7_lt : ∀ (r : List Nat), le7 r < 128 ^ r.length
  | [] => by simp [le7]
  | b :: r => by
    have := le7_lt r
    simp only [le7, List.length_cons, Nat.pow_succ]
    omega
theorem tl8_le : ∀ (r : List Nat), (∀ b ∈ r, 128 ≤ b ∧ b < 256) → tl8 r.length (le7 r) = intL r
  | [], _ => rfl
  | b :: r, hb => by
    have h1 := hb b (by simp)
    have e : le7 (b :: r) / 128 = le7 r := by rw [le7_cons]; omega
    have e2 : le7 (b :: r) % 128 = b % 128 := by rw [le7_cons]; omega
    simp only [List.length_cons, tl8, e, e2, tl8_le r (fun x hx => hb x (by simp [hx])), intL, List.map_cons]
    congr 1
    omega
/-- what is known of a scan: the bytes ahead, the last one first -/
theorem scanV_spec : ∀ (bs : List Nat) (pre : List Nat) (i u : Nat) (q : Nat × Nat), (∀ b ∈ bs, b < 256) → (∀ b ∈ pre, 128 ≤ b ∧ b < 256) → pre.length = i → i ≤ 8 → u = le7 pre →
    scanV i u bs = some q → ∃ (b : Nat) (r : List Nat), q.2 = r.length + 1 ∧ r.length ≤ 8 ∧ (∀ x ∈ r, 128 ≤ x ∧ x < 256) ∧ b < 256 ∧ (pre.reverse ++ bs).take q.2 = (b :: r).reverse ∧ q.1 = (if r.length = 8 then le7 r * 256 + b else le7 r * 128 + b) ∧ (r.length < 8 → b < 128)
  | [], _, i, u, q, _, _, _, _, _, h => by simp [scanV] at h
  | b :: bs, pre, i, u, q, hbs, hpre, hi, hi8, hu, h => by
    have hb := hbs b (by simp)
    unfold scanV at h
    by_cases h8 : i = 8
    · rw [if_pos h8] at h
      injection h with h
      subst h
      refine ⟨b, pre, by simp; omega, by omega, hpre, hb, ?_, by simp; rw [if_pos (by omega), hu], fun q => by omega⟩
      have : (pre.reverse ++ b :: bs) = (b :: pre).reverse ++ bs := by simp
      rw [this, List.take_left' (by simp; omega)]
    · rw [if_neg h8] at h
      by_cases h1 : b < 128
      · rw [if_pos h1] at h
        injection h with h
        subst h
        refine ⟨b, pre, by simp; omega, by omega, hpre, hb, ?_, by simp; rw [if_neg (by omega), hu]; omega, fun _ => h1⟩
        have : (pre.reverse ++ b :: bs) = (b :: pre).reverse ++ bs := by simp
        rw [this, List.take_left' (by simp; omega)]
      · rw [if_neg h1] at h
        have := scanV_spec bs (b :: pre) (i + 1) _ q (fun x hx => hbs x (by simp [hx])) (by
          intro x hx
          rcases List.mem_cons.1 hx with rfl | hx
          · omega
          · exact hpre x hx) (by simp; omega) (by omega) (by rw [le7_cons, hu]; omega) h
        obtain ⟨b', r, a1, a2, a3, a4, a5, a6, a7⟩ := this
        exact ⟨b', r, a1, a2, a3, a4, by rw [← a5]; simp, a6, a7⟩
/-- the number is in its shortest form just if its bytes are these -/
theorem scan_iff (bs : List Nat) (q : Nat × Nat) (hbs : ∀ b ∈ bs, b < 256) (h : scanV 0 0 bs = some q) :
    q.1 < 18446744073709551616 ∧ 1 ≤ q.2 ∧ q.2 ≤ 9 ∧ q.2 ≤ bs.length ∧ ((putL q.1).length = q.2 → (putL q.1).reverse = intL (bs.take q.2)) := by
  obtain ⟨b, r, a1, a2, a3, a4, a5, a6, a7⟩ := scanV_spec bs [] 0 0 q hbs (by simp) rfl (by omega) rfl h
  have hlt := le7_lt r
  have hlen : q.2 ≤ bs.length := by
    have := congrArg List.length a5
    simp at this
    omega
  have hpow : r.length < 8 → 128 ^ r.length ≤ 128 ^ 7 := fun h => Nat.pow_le_pow_right (by omega) (by omega)
  simp only [List.reverse_nil, List.nil_append] at a5
  by_cases h8 : r.length = 8
  · rw [if_pos h8] at a6
    rw [h8] at hlt
    refine ⟨by omega, by omega, by omega, hlen, fun hl => ?_⟩
    rw [a5]
    by_cases hbig : q.1 < big56
    · exfalso
      unfold putL at hl
      rw [if_pos hbig] at hl
      unfold big56 at hbig
      have hv : q.1 / 128 < 128 ^ 7 := by omega
      have : ∀ (f v k : Nat), v < 128 ^ k → (tl7 f v).length ≤ k := by
        intro f
        induction f with
        | zero => intro v k _; simp [tl7]
        | succ f ih =>
          intro v k hk
          unfold tl7
          split
          · simp
          · cases k with
            | zero => simp at hk; omega
            | succ k =>
              have := ih (v / 128) k (Nat.div_lt_of_lt_mul (by rw [Nat.pow_succ, Nat.mul_comm] at hk; exact hk))
              simp
              exact this
      have := this 10 _ 7 hv
      simp at hl
      omega
    · unfold putL
      rw [if_neg hbig]
      have e1 : q.1 % 256 = b := by rw [a6]; omega
      have e2 : q.1 / 256 = le7 r := by rw [a6]; omega
      have e3 := tl8_le r a3
      rw [h8] at e3
      rw [e1, e2, e3]
      simp [intL]
  · rw [if_neg h8] at a6
    have hr7 := hpow (by omega)
    have hb7 := a7 (by omega)
    refine ⟨by omega, by omega, by omega, hlen, fun hl => ?_⟩
    have hbig : q.1 < big56 := by unfold big56; omega
    rw [a5]
    unfold putL at hl ⊢
    rw [if_pos hbig] at hl ⊢
    have e1 : q.1 % 128 = b := by rw [a6]; omega
    have e2 : q.1 / 128 = le7 r := by rw [a6]; omega
    rw [e1, e2] at hl ⊢
    obtain ⟨_, i2⟩ := tl7_le 10 r a3 (by omega)
    rw [i2 (by simp at hl; omega)]
    simp [intL]
end Go.Proofs.YtlcefenjlchaiaaDoor
