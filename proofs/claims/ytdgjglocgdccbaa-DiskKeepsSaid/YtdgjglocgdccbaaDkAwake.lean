/- The stand-in disk: the answers that every law asks at its end; no condition. -/
import Derived.Test.YtdgjglocgdccbaaDkDa
namespace Go.Proofs.Ytdgjglocgdccbaa
open Go.RowKit

theorem sz4 : nmF.size ≤ maxLen ∧ awX.size ≤ maxLen ∧ awY.size ≤ maxLen := by unfold maxLen; decide
set_option maxRecDepth 100000 in
set_option maxHeartbeats 800000 in
theorem awake_ok (w : World) : Calls Try.prog 8 #[] w fun e w' => e = .returned (.bool true) ∧ Kp NoB w w' := by
  have E := Lib.hid awE
  have Z := Lib.hid sz4
  go_enter Try.func8, Try.ntmps8
  go_wp2_with fail
  refine (new_d w w 100 (by omega) (Kp.refl _ _)).mono ?_
  rintro e w1 ⟨db, rfl, h1⟩
  have H1 := Lib.hid h1
  clear h1
  go_wp2_with fail
  refine (write_d H1.out nmF 60 awX Z.out.1 Z.out.2.1 (by rw [E.out.2.2.2.2.2.2.2.2.2.1]; omega) (by rw [E.out.2.2.2.2.2.2.2.2.2.2]; omega)).mono ?_
  rintro e w2 ⟨rfl, h2⟩
  have H2 : Hid (Da w w2 db aw1) := Lib.hid h2
  rw [E.out.1]
  clear h2
  go_wp2_with fail
  refine (read_d H2.out nmF 58 4 Z.out.1 (by omega) (by omega)).mono ?_
  rintro e w3 ⟨rfl, h3⟩
  have H3 := Lib.hid h3
  rw [E.out.2.1, E.out.2.2.1]
  clear h3
  go_wp2_with fail
  refine (write_d H3.out nmF 99 awY Z.out.1 Z.out.2.2 (by rw [E.out.2.2.2.2.2.2.2.1]; omega) (by rw [E.out.2.2.2.2.2.2.2.2.1]; omega)).mono ?_
  rintro e w4 ⟨rfl, h4⟩
  have H4 : Hid (Da w w4 db aw2) := Lib.hid h4
  rw [E.out.2.2.2.1]
  clear h4
  go_wp2_with (first
    | (go_at_call 15; go_must (refine (len_d H4.out nmF Z.out.1).mono ?_); rintro e w5 ⟨rfl, rfl⟩; rw [E.out.2.2.2.2.1])
    | (go_at_call 18; go_must (refine (pending_d H4.out).mono ?_); rintro e w5 ⟨rfl, rfl⟩; rw [E.out.2.2.2.2.2.1])
    | (go_at_call 27; go_must (refine (steps_d H4.out).mono ?_); rintro e w5 ⟨rfl, rfl⟩; rw [E.out.2.2.2.2.2.2.1]))
  go_ret
  exact ⟨rfl, H4.out.kp⟩
end Go.Proofs.Ytdgjglocgdccbaa
