/- The fixed answers: awake returns true; no condition. -/
import Derived.Test.YtmkhhjpfchaopaaRef
namespace Go.Proofs.Ytmkhhjpfchaopaa
open Go.RowKit

theorem take_is (w : World) (b : Nat) (hs : List Int) (c l x : Int) (hs' : List Int) (hT : Tab w b hs) (hr : takeI hs c l = (x, hs')) :
    Calls Try.prog 7 #[.pointer (some ⟨b, 0, none⟩), .int .i64 c, .int .i64 l] w fun e w' => e = .returned (.int .i64 x) ∧ Tab w' b hs' ∧ Kp (OnB b) w w' := by
  have := take_ok w b hs c l hT
  rw [hr] at this
  exact this
theorem has_is (w : World) (b : Nat) (hs : List Int) (c x : Int) (hT : Tab w b hs) (hr : hasI hs c = x) : Calls Try.prog 13 #[.pointer (some ⟨b, 0, none⟩), .int .i64 c] w fun e w' => e = .returned (.int .i64 x) ∧ w = w' :=
  (has_ok w b hs c hT).mono fun _ _ q => ⟨by rw [q.1, hr], q.2⟩

set_option maxHeartbeats 800000 in
theorem awake_ok (w : World) : Calls Try.prog 5 #[] w fun e w' => e = .returned (.bool true) ∧ Kp NoB w w' := by
  go_enter Try.func5, Try.ntmps5
  go_wp2_with fail
  refine (new_ok _).mono ?_
  rintro e w1 ⟨rfl, hT1, hk1⟩
  have HT1 := Lib.hid hT1
  clear hT1
  go_wp2_with fail
  refine (take_is _ _ _ 0 1 0 [1, 0, 0, 0, 0, 0, 0, 0] HT1.out (by decide)).mono ?_
  rintro e w2 ⟨rfl, hT2, hk2⟩
  have HT2 := Lib.hid hT2
  clear hT2
  go_wp2_with fail
  refine (take_is _ _ _ 1 2 0 [1, 2, 0, 0, 0, 0, 0, 0] HT2.out (by decide)).mono ?_
  rintro e w3 ⟨rfl, hT3, hk3⟩
  have HT3 := Lib.hid hT3
  clear hT3
  go_wp2_with fail
  refine (take_is _ _ _ 0 2 6 [1, 2, 0, 0, 0, 0, 0, 0] HT3.out (by decide)).mono ?_
  rintro e w4 ⟨rfl, hT4, hk4⟩
  have HT4 := Lib.hid hT4
  clear hT4
  go_wp2_with fail
  refine (take_is _ _ _ 1 3 6 [1, 2, 0, 0, 0, 0, 0, 0] HT4.out (by decide)).mono ?_
  rintro e w5 ⟨rfl, hT5, hk5⟩
  have HT5 := Lib.hid hT5
  clear hT5
  go_wp2_with fail
  refine (has_is _ _ _ 1 2 HT5.out (by decide)).mono ?_
  rintro e w6 ⟨rfl, rfl⟩
  go_wp2_with fail
  refine (take_is _ _ _ 8 0 2 [1, 2, 0, 0, 0, 0, 0, 0] HT5.out (by decide)).mono ?_
  rintro e w6 ⟨rfl, hT6, hk6⟩
  go_wp2_with fail
  go_ret
  have hb : ∀ i, i < w.heap.size → OnB w.heap.size i → NoB i := fun i hi e => by unfold OnB at e; omega
  exact ⟨rfl, ((((hk1.trans hk2 hb).trans hk3 hb).trans hk4 hb).trans hk5 hb).trans hk6 hb⟩
end Go.Proofs.Ytmkhhjpfchaopaa
