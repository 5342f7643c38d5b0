/- Two texts, two values, two rows held against each other, as plain lists; no condition. -/
import Derived.Test.YtlcefenjlchaiaaDoorRcRow
import Derived.Lib.TrimByte
import Derived.Lib.Bytealg
namespace Go.Proofs.YtlcefenjlchaiaaDoor
open Go.RowKit

def cmpB (x y : List UInt8) : Int := Lib.compareBytes x y
theorem cmpB_cons (a b : UInt8) (x y : List UInt8) : cmpB (a :: x) (b :: y) = if a < b then -1 else if b < a then 1 else cmpB x y := rfl
theorem cmpB_vals : ∀ (x y : List UInt8), cmpB x y = 0 ∨ cmpB x y = -1 ∨ cmpB x y = 1
  | [], [] => .inl rfl
  | [], _ :: _ => .inr (.inl rfl)
  | _ :: _, [] => .inr (.inr rfl)
  | a :: x, b :: y => by
    have := cmpB_vals x y
    rw [cmpB_cons]
    split
    · simp
    · split
      · simp
      · exact this
theorem find_first (p : Nat → Bool) (n i : Nat) (hi : i < n) (hp : p i = true) (hb : ∀ j, j < i → p j = false) : (List.range n).find? p = some i := by
  rw [List.find?_range_eq_some]
  exact ⟨hp, by simpa using hi, fun j hj => by simp [hb j hj]⟩
theorem find_none (p : Nat → Bool) (n : Nat) (hb : ∀ j, j < n → p j = false) : (List.range n).find? p = none := by
  rw [List.find?_eq_none]
  intro j hj
  simp [hb j (by simpa using hj)]
theorem cmpB_at {x y : List UInt8} {i : Nat} (hx : i < x.length) (hy : i < y.length) (hj : ∀ j, j < i → x.getD j 0 = y.getD j 0) (hne : x.getD i 0 ≠ y.getD i 0) :
    cmpB x y = if x.getD i 0 < y.getD i 0 then -1 else 1 := by
  unfold cmpB
  rw [← Lib.cmpL_eq]
  unfold Lib.cmpL
  rw [find_first _ _ i (by omega) (by simpa using hne) (fun j h => by simpa using hj j h)]
theorem cmpB_end {x y : List UInt8} (hj : ∀ j, j < min x.length y.length → x.getD j 0 = y.getD j 0) :
    cmpB x y = if x.length < y.length then -1 else if x.length > y.length then 1 else 0 := by
  unfold cmpB
  rw [← Lib.cmpL_eq]
  unfold Lib.cmpL
  rw [find_none _ _ (fun j h => by simpa using hj j h)]
theorem cmpB_self (x : List UInt8) : cmpB x x = 0 := by
  rw [cmpB_end (fun _ _ => rfl)]
  simp
theorem less_cmp : ∀ (x y : List UInt8), Op.bytesLess x y = decide (cmpB x y = -1)
  | [], [] => by simp [Op.bytesLess, cmpB, Lib.compareBytes]
  | [], _ :: _ => by simp [Op.bytesLess, cmpB, Lib.compareBytes]
  | _ :: _, [] => by simp [Op.bytesLess, cmpB, Lib.compareBytes]
  | a :: x, b :: y => by
    have ih := less_cmp x y
    unfold Op.bytesLess
    rw [ih, cmpB_cons]
    by_cases h1 : a < b
    · simp [h1]
    · by_cases h2 : b < a
      · have : ¬ a = b := fun e => by subst e; exact h1 h2
        simp [h1, h2, this]
      · have : a = b := UInt8.le_antisymm (UInt8.not_lt.1 h2) (UInt8.not_lt.1 h1)
        simp [h1, this]
theorem eq_cmp : ∀ (x y : List UInt8), (x == y) = decide (cmpB x y = 0)
  | [], [] => by simp [cmpB, Lib.compareBytes]
  | [], _ :: _ => by simp [cmpB, Lib.compareBytes]
  | _ :: _, [] => by simp [cmpB, Lib.compareBytes]
  | a :: x, b :: y => by
    have ih := eq_cmp x y
    rw [List.cons_beq_cons, ih, cmpB_cons]
    by_cases h1 : a < b
    · have : ¬ a = b := fun e => by subst e; exact UInt8.lt_irrefl _ h1
      simp [h1, this]
    · by_cases h2 : b < a
      · have : ¬ a = b := fun e => by subst e; exact h1 h2
        simp [h1, h2, this]
      · have : a = b := UInt8.le_antisymm (UInt8.not_lt.1 h2) (UInt8.not_lt.1 h1)
        simp [h1, this]

/-- a byte, A to Z as a to z -/
def lowB (b : UInt8) : UInt8 := if 65 ≤ b ∧ b ≤ 90 then b + 32 else b
/-- a text as a collation takes it -/
def fldB (c : Int) (s : List UInt8) : List UInt8 := if c = 2 then Lib.trimRightB s 32 else if c = 1 then s.map lowB else s
def textsF (c : Int) (a b : ByteArray) : Int := cmpB (fldB c a.data.toList) (fldB c b.data.toList)
def sgc (a b : Int) : Int := if a < b then -1 else if b < a then 1 else 0
/-- two values -/
def vcmp (a b : RV) (c : Int) : Int :=
  if a.may = false ∨ b.may = false then 0 else if a.k ≠ b.k then sgc a.k b.k else if a.k = 2 then textsF c a.s b.s else if sgc a.i b.i ≠ 0 then sgc a.i b.i else cmpB a.s.data.toList b.s.data.toList
theorem sgc_vals (a b : Int) : sgc a b = 0 ∨ sgc a b = -1 ∨ sgc a b = 1 := by
  unfold sgc
  split
  · simp
  · split <;> simp
theorem vcmp_vals (a b : RV) (c : Int) : vcmp a b c = 0 ∨ vcmp a b c = -1 ∨ vcmp a b c = 1 := by
  unfold vcmp textsF
  split
  · exact .inl rfl
  · split
    · exact sgc_vals _ _
    · split
      · exact cmpB_vals _ _
      · split
        · exact sgc_vals _ _
        · exact cmpB_vals _ _
/-- a way of ordering -/
structure OV where
  c : Int
  d : Bool
def OV.nul : OV := ⟨0, false⟩
def stepF (a b : List RV) (os : List OV) (i : Nat) : Int := vcmp (a.getD i RV.nul) (b.getD i RV.nul) (os.getD i OV.nul).c
/-- two rows -/
def rcmp (a b : List RV) (os : List OV) : Int :=
  match (List.range (min a.length b.length)).find? fun i => stepF a b os i != 0 with
  | some i => if (os.getD i OV.nul).d = true then -(stepF a b os i) else stepF a b os i
  | none => sgc a.length b.length
theorem rcmp_at {a b : List RV} {os : List OV} {i : Nat} (hx : i < a.length) (hy : i < b.length) (hj : ∀ j, j < i → stepF a b os j = 0) (hne : stepF a b os i ≠ 0) :
    rcmp a b os = if (os.getD i OV.nul).d = true then -(stepF a b os i) else stepF a b os i := by
  unfold rcmp
  rw [find_first _ _ i (by omega) (by simpa using hne) (fun j h => by simpa using hj j h)]
theorem rcmp_end {a b : List RV} {os : List OV} (hj : ∀ j, j < min a.length b.length → stepF a b os j = 0) : rcmp a b os = sgc a.length b.length := by
  unfold rcmp
  rw [find_none _ _ (fun j h => by simpa using hj j h)]
end Go.Proofs.YtlcefenjlchaiaaDoor
