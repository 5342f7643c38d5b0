/- The small functions with which values are held against each other; no condition. -/
import Derived.Test.YtlcefenjlchaiaaDoorCmPlain
import Derived.Test.YtlcefenjlchaiaaDoorCmShelf
import Derived.Deep.QuietTactic
import Derived.BigQuiet
namespace Go.Proofs.YtlcefenjlchaiaaDoor
open Go.RowKit

theorem same_b (w : World) (x : Int) : Calls Tryd.prog 36 #[.int .u8 x] w fun e w' => e = .returned (.int .u8 x) ∧ w' = w := by
  go_enter Tryd.func36, Tryd.ntmps36
  go_wp2
  go_ret
  exact ⟨rfl, rfl⟩
def lowI (x : Int) : Int := if 65 ≤ x ∧ x ≤ 90 then x + 32 else x
theorem lower_b (w : World) (x : Int) (h : 0 ≤ x ∧ x < 256) : Calls Tryd.prog 37 #[.int .u8 x] w fun e w' => e = .returned (.int .u8 (lowI x)) ∧ w' = w := by
  by_cases h1 : 65 ≤ x
  · by_cases h2 : x ≤ 90
    · have e : lowI x = x + 32 := if_pos ⟨h1, h2⟩
      rw [e]
      go_enter Tryd.func37, Tryd.ntmps37
      go_wp2
      go_ret
      exact ⟨rfl, rfl⟩
    · have e : lowI x = x := if_neg (by omega)
      rw [e]
      have h3 : decide (x ≤ 90) = false := decide_eq_false h2
      go_enter Tryd.func37, Tryd.ntmps37
      go_wp2
      go_ret
      exact ⟨rfl, rfl⟩
  · have e : lowI x = x := if_neg (by omega)
    rw [e]
    have h3 : decide (65 ≤ x) = false := decide_eq_false h1
    go_enter Tryd.func37, Tryd.ntmps37
    go_wp2
    go_ret
    exact ⟨rfl, rfl⟩
theorem nan_kind (w : World) (x : Int) : Calls Tryd.prog 35 #[.int .i64 x] w fun e w' => e = .returned (.bool false) ∧ w' = w := by
  go_enter Tryd.func35, Tryd.ntmps35
  go_wp2
  go_ret
  exact ⟨rfl, rfl⟩
theorem cmp_kind (w : World) (x y : Int) : Calls Tryd.prog 23 #[.int .i64 x, .int .i64 y] w fun e w' => e = .returned (.int .i64 (sgc x y)) ∧ w' = w := by
  rcases (show x < y ∨ y < x ∨ x = y by omega) with h | h | rfl
  · have e : sgc x y = -1 := if_pos h
    rw [e]
    go_enter Tryd.func23, Tryd.ntmps23
    go_wp2_with (go_at_call 35; go_must (refine (nan_kind _ _).mono ?_); rintro e w2 ⟨rfl, rfl⟩)
    go_ret
    exact ⟨rfl, rfl⟩
  · have e : sgc x y = 1 := by unfold sgc; rw [if_neg (by omega), if_pos h]
    rw [e]
    have h2 : ¬ x < y := by omega
    have h3 : decide (x < y) = false := decide_eq_false h2
    go_enter Tryd.func23, Tryd.ntmps23
    go_wp2_with (go_at_call 35; go_must (refine (nan_kind _ _).mono ?_); rintro e w2 ⟨rfl, rfl⟩)
    go_ret
    exact ⟨rfl, rfl⟩
  · have e : sgc x x = 0 := by unfold sgc; rw [if_neg (by omega), if_neg (by omega)]
    rw [e]
    go_enter Tryd.func23, Tryd.ntmps23
    go_wp2_with (go_at_call 35; go_must (refine (nan_kind _ _).mono ?_); rintro e w2 ⟨rfl, rfl⟩)
    go_ret
    exact ⟨rfl, rfl⟩
theorem nan_i64 (w : World) (x : Int) : Calls Tryd.prog 41 #[.int .i64 x] w fun e w' => e = .returned (.bool false) ∧ w' = w := by
  go_enter Tryd.func41, Tryd.ntmps41
  go_wp2
  go_ret
  exact ⟨rfl, rfl⟩
theorem cmp_i64 (w : World) (x y : Int) : Calls Tryd.prog 26 #[.int .i64 x, .int .i64 y] w fun e w' => e = .returned (.int .i64 (sgc x y)) ∧ w' = w := by
  rcases (show x < y ∨ y < x ∨ x = y by omega) with h | h | rfl
  · have e : sgc x y = -1 := if_pos h
    rw [e]
    go_enter Tryd.func26, Tryd.ntmps26
    go_wp2_with (go_at_call 41; go_must (refine (nan_i64 _ _).mono ?_); rintro e w2 ⟨rfl, rfl⟩)
    go_ret
    exact ⟨rfl, rfl⟩
  · have e : sgc x y = 1 := by unfold sgc; rw [if_neg (by omega), if_pos h]
    rw [e]
    have h2 : ¬ x < y := by omega
    have h3 : decide (x < y) = false := decide_eq_false h2
    go_enter Tryd.func26, Tryd.ntmps26
    go_wp2_with (go_at_call 41; go_must (refine (nan_i64 _ _).mono ?_); rintro e w2 ⟨rfl, rfl⟩)
    go_ret
    exact ⟨rfl, rfl⟩
  · have e : sgc x x = 0 := by unfold sgc; rw [if_neg (by omega), if_neg (by omega)]
    rw [e]
    go_enter Tryd.func26, Tryd.ntmps26
    go_wp2_with (go_at_call 41; go_must (refine (nan_i64 _ _).mono ?_); rintro e w2 ⟨rfl, rfl⟩)
    go_ret
    exact ⟨rfl, rfl⟩
theorem nan_byte (w : World) (x : Int) : Calls Tryd.prog 48 #[.int .u8 x] w fun e w' => e = .returned (.bool false) ∧ w' = w := by
  go_enter Tryd.func48, Tryd.ntmps48
  go_wp2
  go_ret
  exact ⟨rfl, rfl⟩
theorem cmp_byte (w : World) (x y : Int) : Calls Tryd.prog 39 #[.int .u8 x, .int .u8 y] w fun e w' => e = .returned (.int .i64 (sgc x y)) ∧ w' = w := by
  rcases (show x < y ∨ y < x ∨ x = y by omega) with h | h | rfl
  · have e : sgc x y = -1 := if_pos h
    rw [e]
    go_enter Tryd.func39, Tryd.ntmps39
    go_wp2_with (go_at_call 48; go_must (refine (nan_byte _ _).mono ?_); rintro e w2 ⟨rfl, rfl⟩)
    go_ret
    exact ⟨rfl, rfl⟩
  · have e : sgc x y = 1 := by unfold sgc; rw [if_neg (by omega), if_pos h]
    rw [e]
    have h2 : ¬ x < y := by omega
    have h3 : decide (x < y) = false := decide_eq_false h2
    go_enter Tryd.func39, Tryd.ntmps39
    go_wp2_with (go_at_call 48; go_must (refine (nan_byte _ _).mono ?_); rintro e w2 ⟨rfl, rfl⟩)
    go_ret
    exact ⟨rfl, rfl⟩
  · have e : sgc x x = 0 := by unfold sgc; rw [if_neg (by omega), if_neg (by omega)]
    rw [e]
    go_enter Tryd.func39, Tryd.ntmps39
    go_wp2_with (go_at_call 48; go_must (refine (nan_byte _ _).mono ?_); rintro e w2 ⟨rfl, rfl⟩)
    go_ret
    exact ⟨rfl, rfl⟩
theorem nan_int (w : World) (x : Int) : Calls Tryd.prog 49 #[.int .i64 x] w fun e w' => e = .returned (.bool false) ∧ w' = w := by
  go_enter Tryd.func49, Tryd.ntmps49
  go_wp2
  go_ret
  exact ⟨rfl, rfl⟩
theorem cmp_int (w : World) (x y : Int) : Calls Tryd.prog 40 #[.int .i64 x, .int .i64 y] w fun e w' => e = .returned (.int .i64 (sgc x y)) ∧ w' = w := by
  rcases (show x < y ∨ y < x ∨ x = y by omega) with h | h | rfl
  · have e : sgc x y = -1 := if_pos h
    rw [e]
    go_enter Tryd.func40, Tryd.ntmps40
    go_wp2_with (go_at_call 49; go_must (refine (nan_int _ _).mono ?_); rintro e w2 ⟨rfl, rfl⟩)
    go_ret
    exact ⟨rfl, rfl⟩
  · have e : sgc x y = 1 := by unfold sgc; rw [if_neg (by omega), if_pos h]
    rw [e]
    have h2 : ¬ x < y := by omega
    have h3 : decide (x < y) = false := decide_eq_false h2
    go_enter Tryd.func40, Tryd.ntmps40
    go_wp2_with (go_at_call 49; go_must (refine (nan_int _ _).mono ?_); rintro e w2 ⟨rfl, rfl⟩)
    go_ret
    exact ⟨rfl, rfl⟩
  · have e : sgc x x = 0 := by unfold sgc; rw [if_neg (by omega), if_neg (by omega)]
    rw [e]
    go_enter Tryd.func40, Tryd.ntmps40
    go_wp2_with (go_at_call 49; go_must (refine (nan_int _ _).mono ?_); rintro e w2 ⟨rfl, rfl⟩)
    go_ret
    exact ⟨rfl, rfl⟩
end Go.Proofs.YtlcefenjlchaiaaDoor
