/- May a value be? The program's and the reference's answers; no condition. -/
import Derived.Test.YtlcefenjlchaiaaDoorRcRVar
namespace Go.Proofs.YtlcefenjlchaiaaDoor
open Go.RowKit

/-- the cells of a value -/
def v3 (k i : Int) (s : ByteArray) : Array Value := #[.int .i64 k, .int .i64 i, .string s]
def mayB (k i : Int) (s : ByteArray) : Bool :=
  if k = 0 then decide (i = 0) && decide (s.size = 0) else if k = 1 then decide (s.size = 0) else if k = 2 ∨ k = 3 then decide (i = 0) && decide (s.size ≤ 400) else false
theorem str_empty (s : ByteArray) : s.toList.isEmpty = decide (s.size = 0) := by
  have h : s.toList = s.data.toList := ByteArray.toList_eq s
  rw [h]
  have : s.size = s.data.toList.length := by simp
  rw [this]
  cases s.data.toList <;> simp
set_option maxRecDepth 100000 in
set_option maxHeartbeats 4000000 in
theorem may_ok (w : World) (k i : Int) (s : ByteArray) (hs : s.size ≤ 9223372036854775807) : Calls Tryd.prog 17 #[.agg (v3 k i s)] w fun e w' => e = .returned (.bool (mayB k i s)) ∧ Kp NoB w w' := by
  unfold v3
  obtain ⟨r, hr⟩ : ∃ r, mayB k i s = r := ⟨_, rfl⟩
  have HR := Lib.hid hr
  rw [hr]
  clear hr
  have hse : s.toList.isEmpty = decide (s.size = 0) := str_empty s
  have hsn : s.toList = [] ↔ s.size = 0 := by
    rw [← List.isEmpty_iff, hse]; simp
  have K : Kp NoB w (w.alloc (.cells #[.int .i64 k, .int .i64 i, .string s] 34)) := (Kp.refl _ _).alloc _
  have HK := Lib.hid K
  clear K
  rcases (show k = 0 ∨ k = 1 ∨ k = 2 ∨ k = 3 ∨ (k ≠ 0 ∧ k ≠ 1 ∧ k ≠ 2 ∧ k ≠ 3) by omega) with rfl | rfl | rfl | rfl | ⟨n0, n1, n2, n3⟩
  · rcases (show i = 0 ∨ i ≠ 0 by omega) with rfl | hi
    · rcases (show s.size = 0 ∨ s.size ≠ 0 by omega) with hz | hz
      · have e1 : s.toList = [] := hsn.2 hz
        obtain rfl : r = true := by rw [← HR.out]; simp [mayB, hz]
        clear hse hsn hz
        (go_enter Tryd.func17, Tryd.ntmps17; go_wp2_with fail; go_ret; exact ⟨rfl, HK.out⟩)
      · have e1 : s.toList.isEmpty = false := by rw [hse]; simp [hz]
        have e2 : (s.toList == []) = false := by rw [beq_eq_false_iff_ne]; exact fun q => hz (hsn.1 q)
        obtain rfl : r = false := by rw [← HR.out]; simp [mayB, hz]
        clear hse hsn hz
        (go_enter Tryd.func17, Tryd.ntmps17; go_wp2_with fail; go_ret; exact ⟨rfl, HK.out⟩)
    · have hib : (i == 0) = false := beq_eq_false_iff_ne.2 hi
      obtain rfl : r = false := by rw [← HR.out]; simp [mayB, hi]
      clear hse hsn hi
      (go_enter Tryd.func17, Tryd.ntmps17; go_wp2_with fail; go_ret; exact ⟨rfl, HK.out⟩)
  · rcases (show s.size = 0 ∨ s.size ≠ 0 by omega) with hz | hz
    · have e1 : s.toList = [] := hsn.2 hz
      obtain rfl : r = true := by rw [← HR.out]; simp [mayB, hz]
      clear hse hsn hz
      (go_enter Tryd.func17, Tryd.ntmps17; go_wp2_with fail; go_ret; exact ⟨rfl, HK.out⟩)
    · have e1 : s.toList.isEmpty = false := by rw [hse]; simp [hz]
      have e2 : (s.toList == []) = false := by rw [beq_eq_false_iff_ne]; exact fun q => hz (hsn.1 q)
      obtain rfl : r = false := by rw [← HR.out]; simp [mayB, hz]
      clear hse hsn hz
      (go_enter Tryd.func17, Tryd.ntmps17; go_wp2_with fail; go_ret; exact ⟨rfl, HK.out⟩)
  all_goals try clear hse hsn
  iterate 2
    · rcases (show i = 0 ∨ i ≠ 0 by omega) with rfl | hi
      · rcases (show (s.size : Int) ≤ 400 ∨ ¬ (s.size : Int) ≤ 400 by omega) with hz | hz
        · obtain rfl : r = true := by rw [← HR.out]; simp [mayB]; omega
          (go_enter Tryd.func17, Tryd.ntmps17; go_wp2_with fail; go_ret; exact ⟨rfl, HK.out⟩)
        · obtain rfl : r = false := by rw [← HR.out]; simp [mayB]; omega
          have hz2 : decide ((s.size : Int) ≤ 400) = false := by simpa using hz
          (go_enter Tryd.func17, Tryd.ntmps17; go_wp2_with fail; go_ret; exact ⟨rfl, HK.out⟩)
      · have hib : (i == 0) = false := beq_eq_false_iff_ne.2 hi
        obtain rfl : r = false := by rw [← HR.out]; simp [mayB, hi]
        clear hi
        (go_enter Tryd.func17, Tryd.ntmps17; go_wp2_with fail; go_ret; exact ⟨rfl, HK.out⟩)
  · have b0 : (k == 0) = false := beq_eq_false_iff_ne.2 n0
    have b1 : (k == 1) = false := beq_eq_false_iff_ne.2 n1
    have b2 : (k == 2) = false := beq_eq_false_iff_ne.2 n2
    have b3 : (k == 3) = false := beq_eq_false_iff_ne.2 n3
    obtain rfl : r = false := by rw [← HR.out]; simp [mayB, n0, n1, n2, n3]
    clear n0 n1 n2 n3
    (go_enter Tryd.func17, Tryd.ntmps17; go_wp2_with fail; go_ret; exact ⟨rfl, HK.out⟩)
set_option maxRecDepth 100000 in
set_option maxHeartbeats 4000000 in
theorem rmay_ok (w : World) (k i : Int) (s : ByteArray) (hs : s.size ≤ 9223372036854775807) : Calls Tryd.prog 28 #[.agg (v3 k i s)] w fun e w' => e = .returned (.bool (mayB k i s)) ∧ Kp NoB w w' := by
  unfold v3
  obtain ⟨r, hr⟩ : ∃ r, mayB k i s = r := ⟨_, rfl⟩
  have HR := Lib.hid hr
  rw [hr]
  clear hr
  have hse : s.toList.isEmpty = decide (s.size = 0) := str_empty s
  have hsn : s.toList = [] ↔ s.size = 0 := by
    rw [← List.isEmpty_iff, hse]; simp
  have K : Kp NoB w (w.alloc (.cells #[.int .i64 k, .int .i64 i, .string s] 34)) := (Kp.refl _ _).alloc _
  have HK := Lib.hid K
  clear K
  rcases (show k = 0 ∨ k = 1 ∨ k = 2 ∨ k = 3 ∨ (k ≠ 0 ∧ k ≠ 1 ∧ k ≠ 2 ∧ k ≠ 3) by omega) with rfl | rfl | rfl | rfl | ⟨n0, n1, n2, n3⟩
  · rcases (show i = 0 ∨ i ≠ 0 by omega) with rfl | hi
    · rcases (show s.size = 0 ∨ s.size ≠ 0 by omega) with hz | hz
      · have e1 : s.toList = [] := hsn.2 hz
        obtain rfl : r = true := by rw [← HR.out]; simp [mayB, hz]
        clear hse hsn hz
        (go_enter Tryd.func28, Tryd.ntmps28; go_wp2_with fail; go_ret; exact ⟨rfl, HK.out⟩)
      · have e1 : s.toList.isEmpty = false := by rw [hse]; simp [hz]
        have e2 : (s.toList == []) = false := by rw [beq_eq_false_iff_ne]; exact fun q => hz (hsn.1 q)
        obtain rfl : r = false := by rw [← HR.out]; simp [mayB, hz]
        clear hse hsn hz
        (go_enter Tryd.func28, Tryd.ntmps28; go_wp2_with fail; go_ret; exact ⟨rfl, HK.out⟩)
    · have hib : (i == 0) = false := beq_eq_false_iff_ne.2 hi
      obtain rfl : r = false := by rw [← HR.out]; simp [mayB, hi]
      clear hse hsn hi
      (go_enter Tryd.func28, Tryd.ntmps28; go_wp2_with fail; go_ret; exact ⟨rfl, HK.out⟩)
  · rcases (show s.size = 0 ∨ s.size ≠ 0 by omega) with hz | hz
    · have e1 : s.toList = [] := hsn.2 hz
      obtain rfl : r = true := by rw [← HR.out]; simp [mayB, hz]
      clear hse hsn hz
      (go_enter Tryd.func28, Tryd.ntmps28; go_wp2_with fail; go_ret; exact ⟨rfl, HK.out⟩)
    · have e1 : s.toList.isEmpty = false := by rw [hse]; simp [hz]
      have e2 : (s.toList == []) = false := by rw [beq_eq_false_iff_ne]; exact fun q => hz (hsn.1 q)
      obtain rfl : r = false := by rw [← HR.out]; simp [mayB, hz]
      clear hse hsn hz
      (go_enter Tryd.func28, Tryd.ntmps28; go_wp2_with fail; go_ret; exact ⟨rfl, HK.out⟩)
  all_goals try clear hse hsn
  iterate 2
    · rcases (show i = 0 ∨ i ≠ 0 by omega) with rfl | hi
      · rcases (show (s.size : Int) ≤ 400 ∨ ¬ (s.size : Int) ≤ 400 by omega) with hz | hz
        · obtain rfl : r = true := by rw [← HR.out]; simp [mayB]; omega
          (go_enter Tryd.func28, Tryd.ntmps28; go_wp2_with fail; go_ret; exact ⟨rfl, HK.out⟩)
        · obtain rfl : r = false := by rw [← HR.out]; simp [mayB]; omega
          have hz2 : decide ((s.size : Int) ≤ 400) = false := by simpa using hz
          (go_enter Tryd.func28, Tryd.ntmps28; go_wp2_with fail; go_ret; exact ⟨rfl, HK.out⟩)
      · have hib : (i == 0) = false := beq_eq_false_iff_ne.2 hi
        obtain rfl : r = false := by rw [← HR.out]; simp [mayB, hi]
        clear hi
        (go_enter Tryd.func28, Tryd.ntmps28; go_wp2_with fail; go_ret; exact ⟨rfl, HK.out⟩)
  · have b0 : (k == 0) = false := beq_eq_false_iff_ne.2 n0
    have b1 : (k == 1) = false := beq_eq_false_iff_ne.2 n1
    have b2 : (k == 2) = false := beq_eq_false_iff_ne.2 n2
    have b3 : (k == 3) = false := beq_eq_false_iff_ne.2 n3
    obtain rfl : r = false := by rw [← HR.out]; simp [mayB, n0, n1, n2, n3]
    clear n0 n1 n2 n3
    (go_enter Tryd.func28, Tryd.ntmps28; go_wp2_with fail; go_ret; exact ⟨rfl, HK.out⟩)
end Go.Proofs.YtlcefenjlchaiaaDoor
