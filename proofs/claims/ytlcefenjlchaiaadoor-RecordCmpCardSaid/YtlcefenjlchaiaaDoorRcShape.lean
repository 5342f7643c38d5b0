/- The program's shape and the reference's Shape of a value; condition: a text of at most 400 bytes. -/
import Derived.Test.YtlcefenjlchaiaaDoorRcIntW
namespace Go.Proofs.YtlcefenjlchaiaaDoor
open Go.RowKit

theorem intB_size (x : Int) : (intB x).size = (itl 8 x).length := by unfold intB; rw [strOf_size, List.length_reverse]
set_option maxRecDepth 100000 in
set_option maxHeartbeats 4000000 in
theorem shape_ok (w : World) (k i : Int) (s : ByteArray) (hs : s.size ≤ 400) (h1 : -9223372036854775808 ≤ i) (h2 : i ≤ 9223372036854775807) :
    Calls Tryd.prog 18 #[.agg (v3 k i s)] w fun e w' => e = .returned (.tuple #[.int .u64 (shapeF k i s).1, .string (shapeF k i s).2]) ∧ Kp NoB w w' := by
  unfold v3
  obtain ⟨r, hr⟩ : ∃ r, shapeF k i s = r := ⟨_, rfl⟩
  have HR := Lib.hid hr
  rw [hr]
  clear hr
  have HK := Lib.hid (show Kp NoB w (w.alloc (.cells #[.int .i64 k, .int .i64 i, .string s] 34)) from (Kp.refl _ _).alloc _)
  have hsi : (s.size : Int) ≤ 400 := by omega
  rcases (show k = 1 ∨ k = 2 ∨ k = 3 ∨ (k ≠ 1 ∧ k ≠ 2 ∧ k ≠ 3) by omega) with rfl | rfl | rfl | ⟨n1, n2, n3⟩
  · rcases (show i = 0 ∨ i = 1 ∨ (i ≠ 0 ∧ i ≠ 1) by omega) with rfl | rfl | ⟨m0, m1⟩
    · obtain rfl : r = (9, ByteArray.empty) := by rw [← HR.out]; rfl
      go_enter Tryd.func18, Tryd.ntmps18
      go_wp2_with fail
      go_ret2
      exact ⟨rfl, HK.out⟩
    · obtain rfl : r = (10, ByteArray.empty) := by rw [← HR.out]; rfl
      go_enter Tryd.func18, Tryd.ntmps18
      go_wp2_with fail
      go_ret2
      exact ⟨rfl, HK.out⟩
    · obtain rfl : r = ((itl 8 i).length, intB i) := by rw [← HR.out]; simp [shapeF, m0, m1]
      have b0 : (i == 0) = false := beq_eq_false_iff_ne.2 m0
      have b1 : (i == 1) = false := beq_eq_false_iff_ne.2 m1
      have hsz := intB_size i
      have hl := itl_len 8 i
      rw [← hsz] at hl ⊢
      obtain ⟨p, hp⟩ : ∃ p, intB i = p := ⟨_, rfl⟩
      rw [hp] at hl ⊢
      have HP := Lib.hid hp
      have hl' : (p.size : Int) ≤ 8 := by omega
      clear m0 m1 hp hsz hl
      go_enter Tryd.func18, Tryd.ntmps18
      go_wp2_with (go_at_call 32; go_must (refine (integer_ok _ i h1 h2).mono ?_); rw [HP.out]; rintro e w2 ⟨rfl, hk2⟩; have HK2 := Lib.hid hk2; clear hk2)
      go_ret2
      exact ⟨rfl, HK.out.trans HK2.out (fun _ _ q => q)⟩
  · obtain rfl : r = (13 + 2 * s.size, s) := by rw [← HR.out]; rfl
    go_enter Tryd.func18, Tryd.ntmps18
    go_wp2_with fail
    go_quiet (fail)
    go_wp2_with fail
    go_ret2
    exact ⟨rfl, HK.out.drewN _⟩
  · obtain rfl : r = (12 + 2 * s.size, s) := by rw [← HR.out]; rfl
    go_enter Tryd.func18, Tryd.ntmps18
    go_wp2_with fail
    go_quiet (fail)
    go_wp2_with fail
    go_ret2
    exact ⟨rfl, HK.out.drewN _⟩
  · obtain rfl : r = (0, ByteArray.empty) := by rw [← HR.out]; simp [shapeF, n1, n2, n3]
    have b1 : (k == 1) = false := beq_eq_false_iff_ne.2 n1
    have b2 : (k == 2) = false := beq_eq_false_iff_ne.2 n2
    have b3 : (k == 3) = false := beq_eq_false_iff_ne.2 n3
    clear n1 n2 n3
    go_enter Tryd.func18, Tryd.ntmps18
    go_wp2_with fail
    go_ret2
    exact ⟨rfl, HK.out⟩
end Go.Proofs.YtlcefenjlchaiaaDoor
