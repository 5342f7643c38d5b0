/- Integers as the fewest bytes, in plain lists; no condition. -/
import Derived.Test.YtlcefenjlchaiaaDoorRcVal
namespace Go.Proofs.YtlcefenjlchaiaaDoor
open Go.RowKit

def itl : Nat → Int → List Int
  | 0, _ => []
  | f + 1, x => x % 256 :: (if x / 128 = 0 ∨ x / 128 = -1 then [] else itl f (x / 256))
def byL : Nat → Int → List Int
  | 0, _ => []
  | n + 1, x => x % 256 :: byL n (x / 256)
/-- does an integer fit n bytes? -/
def fitN (n : Nat) (x : Int) : Prop := x / 2 ^ (8 * n - 1) = 0 ∨ x / 2 ^ (8 * n - 1) = -1
def intB (x : Int) : ByteArray := strOf (itl 8 x).reverse
theorem fit_one (x : Int) : fitN 1 x ↔ x / 128 = 0 ∨ x / 128 = -1 := Iff.rfl
theorem fit_step (n : Nat) (x : Int) (hn : 1 ≤ n) : fitN n (x / 256) ↔ fitN (n + 1) x := by
  have e : x / 256 / 2 ^ (8 * n - 1) = x / 2 ^ (8 * (n + 1) - 1) := by
    rw [Int.ediv_ediv_of_nonneg (by omega)]
    congr 1
    rw [show (256 : Int) = 2 ^ 8 by decide, ← Int.pow_add]
    congr 1
    omega
  unfold fitN
  rw [e]
theorem fit_8 (x : Int) (h1 : -9223372036854775808 ≤ x) (h2 : x ≤ 9223372036854775807) : fitN 8 x := by
  unfold fitN
  have : (2 : Int) ^ (8 * 8 - 1) = 9223372036854775808 := by decide
  rw [this]
  omega
theorem itl_by : ∀ (n f : Nat) (x : Int), 1 ≤ n → n ≤ f → fitN n x → (∀ m, 1 ≤ m → m < n → ¬ fitN m x) → itl f x = byL n x
  | 0, _, _, h, _, _, _ => absurd h (by omega)
  | _ + 1, 0, _, _, h, _, _ => absurd h (by omega)
  | 1, f + 1, x, _, _, hc, _ => by
    unfold itl
    rw [if_pos ((fit_one x).1 hc)]
    rfl
  | n + 2, f + 1, x, _, hf, hc, hm => by
    unfold itl
    rw [if_neg (fun q => hm 1 (by omega) (by omega) ((fit_one x).2 q))]
    show _ = x % 256 :: byL (n + 1) (x / 256)
    congr 1
    refine itl_by (n + 1) f (x / 256) (by omega) (by omega) ((fit_step _ x (by omega)).2 hc) (fun m h1 h2 q => ?_)
    exact hm (m + 1) (by omega) (by omega) ((fit_step m x h1).1 q)
theorem itl_len : ∀ (f : Nat) (x : Int), (itl f x).length ≤ f
  | 0, _ => by simp [itl]
  | f + 1, x => by
    unfold itl
    have := itl_len f (x / 256)
    split
    · simp
    · simp; exact this
theorem itl_pos (f : Nat) (x : Int) : 1 ≤ (itl (f + 1) x).length := by
  unfold itl
  simp
theorem itl_rng : ∀ (f : Nat) (x : Int), ∀ y ∈ itl f x, 0 ≤ y ∧ y < 256
  | 0, _ => by simp [itl]
  | f + 1, x => by
    intro y hy
    unfold itl at hy
    rcases List.mem_cons.1 hy with rfl | hy
    · omega
    · split at hy
      · simp at hy
      · exact itl_rng f _ y hy
def shapeF (k i : Int) (s : ByteArray) : Nat × ByteArray :=
  if k = 1 then (if i = 0 then (9, ByteArray.empty) else if i = 1 then (10, ByteArray.empty) else ((itl 8 i).length, intB i))
  else if k = 2 then (13 + 2 * s.size, s) else if k = 3 then (12 + 2 * s.size, s) else (0, ByteArray.empty)
end Go.Proofs.YtlcefenjlchaiaaDoor
