/- Without a disk every call reports exactly that; no condition. -/
import Derived.Test.YtdgjglocgdccbaaDkAwake
import Derived.Test.YtdgjglocgdccbaaDkNil
namespace Go.Proofs.Ytdgjglocgdccbaa
open Go.RowKit

theorem ptrEqN (w : World) : (binOp .eql 25 (.pointer none) (.pointer none)).run Try.prog w = .ok (.bool true) w := by kernel_rfl
set_option maxRecDepth 100000 in
set_option maxHeartbeats 800000 in
theorem none_ok (w : World) (s : ByteArray) (a n : Int) (d : ByteArray) : Calls Try.prog 6 #[.string s, .int .i64 a, .int .i64 n, .string d] w fun e w' => e = .returned (.bool true) ∧ Kp NoB w w' := by
  have pe := ptrEqN
  go_enter Try.func6, Try.ntmps6
  go_wp2_with (first
    | (go_at_call 13; go_must (refine (read_nil _ _ _ _).mono ?_); rintro e w2 ⟨rfl, rfl⟩)
    | (go_at_call 24; go_must (refine (setroom_nil _ _).mono ?_); rintro e w2 ⟨rfl, rfl⟩)
    | (go_at_call 10; go_must (refine (crashin_nil _ _).mono ?_); rintro e w2 ⟨rfl, rfl⟩)
    | (go_at_call 20; go_must (refine (crash_nil _).mono ?_); rintro e w2 ⟨rfl, rfl⟩)
    | (go_at_call 11; go_must (refine (write_nil _ _ _ _).mono ?_); rintro e w2 ⟨rfl, rfl⟩)
    | (go_at_call 25; go_must (refine (trunc_nil _ _ _).mono ?_); rintro e w2 ⟨rfl, rfl⟩)
    | (go_at_call 14; go_must (refine (sync_nil _ _).mono ?_); rintro e w3 ⟨rfl, hk3⟩; have HK3 := Lib.hid hk3; clear hk3)
    | (go_at_call 16; go_must (refine (restart_nil _ _ _ _).mono ?_); rintro e w2 ⟨rfl, rfl⟩)
    | (go_at_call 15; go_must (refine (len_nil _ _).mono ?_); rintro e w2 ⟨rfl, rfl⟩)
    | (go_at_call 26; go_must (refine (names_nil _).mono ?_); rintro e w2 ⟨rfl, rfl⟩)
    | (go_at_call 12; go_must (refine (down_nil _).mono ?_); rintro e w2 ⟨rfl, rfl⟩)
    | (go_at_call 27; go_must (refine (steps_nil _).mono ?_); rintro e w2 ⟨rfl, rfl⟩)
    | (go_at_call 18; go_must (refine (pending_nil _).mono ?_); rintro e w2 ⟨rfl, rfl⟩)
    | (go_at_call 28; go_must (refine (starts_nil _).mono ?_); rintro e w2 ⟨rfl, rfl⟩)
    | (go_at_call 19; go_must (refine (copy_nil _).mono ?_); rintro e w2 ⟨rfl, rfl⟩)
    | (go_at_call 8; go_must (refine (awake_ok _).mono ?_); rintro e w4 ⟨rfl, hk4⟩; have HK4 := Lib.hid hk4; clear hk4))
  go_ret
  exact ⟨rfl, HK3.out.trans HK4.out (fun _ _ q => q)⟩
end Go.Proofs.Ytdgjglocgdccbaa
