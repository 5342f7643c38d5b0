/- The program's texts: two texts held against each other under a collation; no condition. -/
import Derived.Test.YtlcefenjlchaiaaDoorCmFn
import Derived.Test.YtlcefenjlchaiaaDoorRcSame
namespace Go.Proofs.YtlcefenjlchaiaaDoor
open Go.RowKit

theorem cmp_byte_at (w : World) (x y d : Int) (h : sgc x y = d) : Calls Tryd.prog 39 #[.int .u8 x, .int .u8 y] w fun e w' => e = .returned (.int .i64 d) ∧ w' = w := by
  subst h
  exact cmp_byte w x y
theorem lower_at (w : World) (b : UInt8) : Calls Tryd.prog 37 #[.int .u8 (b.toNat : Int)] w fun e w' => e = .returned (.int .u8 (lowI (b.toNat : Int))) ∧ w' = w :=
  lower_b w _ (by have := b.toNat_lt; omega)
/-- a text's bytes, each turned -/
def mapB (m : UInt8 → UInt8) (x : ByteArray) : List UInt8 := x.data.toList.map m
theorem mapB_len (m : UInt8 → UInt8) (x : ByteArray) : (mapB m x).length = x.size := by simp [mapB]
theorem mapB_get (m : UInt8 → UInt8) (x : ByteArray) (k : Nat) (h : k < x.size) : (mapB m x).getD k 0 = m x[k] := by
  have h2 : k < x.data.toList.length := by simpa using h
  unfold mapB
  rw [List.getD_eq_getElem?_getD, List.getElem?_map, List.getElem?_eq_getElem h2]
  rfl
theorem lowB_toNat (b : UInt8) : ((lowB b).toNat : Int) = lowI (b.toNat : Int) := by
  unfold lowB lowI
  have h1 : (65 ≤ b ∧ b ≤ 90) ↔ (65 ≤ (b.toNat : Int) ∧ (b.toNat : Int) ≤ 90) := by
    rw [UInt8.le_iff_toNat_le, UInt8.le_iff_toNat_le]
    show (65 ≤ b.toNat ∧ b.toNat ≤ 90) ↔ _
    omega
  by_cases h : 65 ≤ b ∧ b ≤ 90
  · rw [if_pos h, if_pos (h1.1 h)]
    have := h1.1 h
    rw [UInt8.toNat_add]
    show (((b.toNat + 32) % 256 : Nat) : Int) = _
    omega
  · rw [if_neg h, if_neg (fun q => h (h1.2 q))]
theorem sgc_zero {a b : Int} (h : sgc a b = 0) : a = b := by
  unfold sgc at h
  split at h
  · cases h
  · split at h
    · cases h
    · omega
theorem step_eq {m : UInt8 → UInt8} {x y : ByteArray} {k : Nat} (h1 : k < x.size) (h2 : k < y.size) (hj : ∀ j, j < k → (mapB m x).getD j 0 = (mapB m y).getD j 0) (hd : sgc ((m x[k]).toNat : Int) ((m y[k]).toNat : Int) = 0) :
    ∀ j, j < k + 1 → (mapB m x).getD j 0 = (mapB m y).getD j 0 := fun j hjk => by
  rcases Nat.lt_or_ge j k with q | q
  · exact hj j q
  · obtain rfl : j = k := by omega
    rw [mapB_get m x j h1, mapB_get m y j h2]
    have := sgc_zero hd
    exact UInt8.toNat_inj.1 (by omega)
theorem step_ne {m : UInt8 → UInt8} {x y : ByteArray} {k : Nat} {d : Int} (h1 : k < x.size) (h2 : k < y.size) (hj : ∀ j, j < k → (mapB m x).getD j 0 = (mapB m y).getD j 0) (hd : sgc ((m x[k]).toNat : Int) ((m y[k]).toNat : Int) = d) (h0 : ¬ d = 0) :
    cmpB (mapB m x) (mapB m y) = d := by
  have hne : (m x[k]) ≠ (m y[k]) := fun e => by
    rw [e] at hd
    unfold sgc at hd
    rw [if_neg (by omega), if_neg (by omega)] at hd
    exact h0 hd.symm
  have := cmpB_at (x := mapB m x) (y := mapB m y) (i := k) (by rw [mapB_len]; exact h1) (by rw [mapB_len]; exact h2) hj (by rw [mapB_get m x k h1, mapB_get m y k h2]; exact hne)
  rw [this, mapB_get m x k h1, mapB_get m y k h2, ← hd]
  unfold sgc
  by_cases hl : m x[k] < m y[k]
  · rw [if_pos hl, if_pos (by have := UInt8.lt_iff_toNat_lt.1 hl; omega)]
  · have h3 : ¬ (m x[k]).toNat < (m y[k]).toNat := fun q => hl (UInt8.lt_iff_toNat_lt.2 q)
    have h4 : (m x[k]).toNat ≠ (m y[k]).toNat := fun q => hne (UInt8.toNat_inj.1 q)
    rw [if_neg hl, if_neg (by omega), if_pos (by omega)]
theorem step_end {m : UInt8 → UInt8} {x y : ByteArray} {k : Nat} (hk : ¬ (k < x.size ∧ k < y.size)) (hj : ∀ j, j < k → (mapB m x).getD j 0 = (mapB m y).getD j 0) : cmpB (mapB m x) (mapB m y) = sgc (x.size : Int) (y.size : Int) := by
  rw [cmpB_end (fun j hjm => hj j (by rw [mapB_len, mapB_len] at hjm; omega)), mapB_len, mapB_len]
  unfold sgc
  by_cases h1 : x.size < y.size
  · rw [if_pos h1, if_pos (by omega)]
  · by_cases h2 : y.size < x.size
    · rw [if_neg h1, if_pos h2, if_neg (by omega), if_pos (by omega)]
    · rw [if_neg h1, if_neg h2, if_neg (by omega), if_neg (by omega)]
set_option maxRecDepth 100000 in
set_option maxHeartbeats 1600000 in
theorem texts_plain (w : World) (x y : ByteArray) (c : Int) (h1 : ¬ c = 1) (h2 : ¬ c = 2) (hx : x.size ≤ 9223372036854775807) (hy : y.size ≤ 9223372036854775807) :
    Calls Tryd.prog 24 #[.string x, .string y, .int .i64 c] w fun e w' => e = .returned (.int .i64 (textsF c x y)) ∧ Kp NoB w w' := by
  have e1 : (c == 1) = false := by simpa using h1
  have e2 : (c == 2) = false := by simpa using h2
  obtain ⟨r, hr⟩ : ∃ r, cmpB (mapB id x) (mapB id y) = r := ⟨_, rfl⟩
  have HR := Lib.hid hr
  have hres : textsF c x y = r := by
    rw [← hr]
    unfold textsF fldB mapB
    rw [if_neg h2, if_neg h1, if_neg h2, if_neg h1, List.map_id, List.map_id]
  rw [hres]
  clear hres h1 h2
  clear hr
  go_enter Tryd.func24, Tryd.ntmps24
  go_wp2_with fail
  go_loopw [24] (fun i wr => ∃ k : Nat, k ≤ x.size ∧ k ≤ y.size ∧ i = .int .i64 k ∧ Kp NoB w wr ∧ ∀ j, j < k → (mapB id x).getD j 0 = (mapB id y).getD j 0) (fun i _ => x.size - (intOf i).toNat)
  case atStart => exact ⟨0, by omega, by omega, rfl, Kp.refl _ _, fun j hj => by omega⟩
  case round =>
    obtain ⟨k, hkx, hky, rfl, hkp, hj⟩ := hrel
    have HK := Lib.hid hkp
    have HJ := Lib.hid hj
    clear hkp hj
    by_cases hlt : k < x.size ∧ k < y.size
    · obtain ⟨hl1, hl2⟩ := hlt
      have hm : (k : Int) < min (x.size : Int) (y.size : Int) := by omega
      obtain ⟨d, hd⟩ : ∃ d, sgc (x[k].toNat : Int) (y[k].toNat : Int) = d := ⟨_, rfl⟩
      have HD := Lib.hid hd
      have hd2 : sgc ((id x[k]).toNat : Int) ((id y[k]).toNat : Int) = d := by exact hd
      have HD2 := Lib.hid hd2
      clear hd hd2
      by_cases h0 : d = 0
      · subst h0
        have HJ2 := Lib.hid (step_eq hl1 hl2 HJ.out HD2.out)
        go_wp2_with fail
        go_quiet (first
          | (go_at_call 36; exact Calls.quiet_of_same (same_b _ _))
          | (go_at_call 39; exact Calls.quiet_of_same (cmp_byte_at _ _ _ _ HD.out)))
        go_wp2_with fail
        exact ⟨⟨k + 1, by omega, by omega, by congr 1, HK.out.drewN _, HJ2.out⟩, by simp [intOf]; omega⟩
      · have HRD := Lib.hid ((step_ne hl1 hl2 HJ.out HD2.out h0).symm.trans HR.out)
        have b1 : (d == 0) = false := by simpa using h0
        have b2 : (d != 0) = true := by simpa using h0
        go_wp2_with fail
        go_quiet (first
          | (go_at_call 36; exact Calls.quiet_of_same (same_b _ _))
          | (go_at_call 39; exact Calls.quiet_of_same (cmp_byte_at _ _ _ _ HD.out)))
        go_wp2_with fail
        go_ret
        exact ⟨by rw [HRD.out]; rfl, HK.out.drewN _⟩
    · have hm : ¬ (k : Int) < min (x.size : Int) (y.size : Int) := by omega
      have HE := Lib.hid ((step_end hlt HJ.out).symm.trans HR.out)
      go_wp2_with (go_at_call 40; go_must (refine (cmp_int _ _ _).mono ?_); rintro e w2 ⟨rfl, rfl⟩)
      go_ret
      exact ⟨by rw [HE.out]; rfl, HK.out⟩
set_option maxRecDepth 100000 in
set_option maxHeartbeats 1600000 in
theorem texts_low (w : World) (x y : ByteArray) (hx : x.size ≤ 9223372036854775807) (hy : y.size ≤ 9223372036854775807) :
    Calls Tryd.prog 24 #[.string x, .string y, .int .i64 1] w fun e w' => e = .returned (.int .i64 (textsF 1 x y)) ∧ Kp NoB w w' := by
  obtain ⟨r, hr⟩ : ∃ r, cmpB (mapB lowB x) (mapB lowB y) = r := ⟨_, rfl⟩
  have HR := Lib.hid hr
  have hres : textsF 1 x y = r := hr
  rw [hres]
  clear hres
  clear hr
  go_enter Tryd.func24, Tryd.ntmps24
  go_wp2_with fail
  go_loopw [24] (fun i wr => ∃ k : Nat, k ≤ x.size ∧ k ≤ y.size ∧ i = .int .i64 k ∧ Kp NoB w wr ∧ ∀ j, j < k → (mapB lowB x).getD j 0 = (mapB lowB y).getD j 0) (fun i _ => x.size - (intOf i).toNat)
  case atStart => exact ⟨0, by omega, by omega, rfl, Kp.refl _ _, fun j hj => by omega⟩
  case round =>
    obtain ⟨k, hkx, hky, rfl, hkp, hj⟩ := hrel
    have HK := Lib.hid hkp
    have HJ := Lib.hid hj
    clear hkp hj
    by_cases hlt : k < x.size ∧ k < y.size
    · obtain ⟨hl1, hl2⟩ := hlt
      have hm : (k : Int) < min (x.size : Int) (y.size : Int) := by omega
      obtain ⟨d, hd⟩ : ∃ d, sgc (lowI (x[k].toNat : Int)) (lowI (y[k].toNat : Int)) = d := ⟨_, rfl⟩
      have HD := Lib.hid hd
      have hd2 : sgc ((lowB x[k]).toNat : Int) ((lowB y[k]).toNat : Int) = d := by rw [lowB_toNat, lowB_toNat]; exact hd
      have HD2 := Lib.hid hd2
      clear hd hd2
      by_cases h0 : d = 0
      · subst h0
        have HJ2 := Lib.hid (step_eq hl1 hl2 HJ.out HD2.out)
        go_wp2_with fail
        go_quiet (first
          | (go_at_call 37; exact Calls.quiet_of_same (lower_at _ _))
          | (go_at_call 39; exact Calls.quiet_of_same (cmp_byte_at _ _ _ _ HD.out)))
        go_wp2_with fail
        exact ⟨⟨k + 1, by omega, by omega, by congr 1, HK.out.drewN _, HJ2.out⟩, by simp [intOf]; omega⟩
      · have HRD := Lib.hid ((step_ne hl1 hl2 HJ.out HD2.out h0).symm.trans HR.out)
        have b1 : (d == 0) = false := by simpa using h0
        have b2 : (d != 0) = true := by simpa using h0
        go_wp2_with fail
        go_quiet (first
          | (go_at_call 37; exact Calls.quiet_of_same (lower_at _ _))
          | (go_at_call 39; exact Calls.quiet_of_same (cmp_byte_at _ _ _ _ HD.out)))
        go_wp2_with fail
        go_ret
        exact ⟨by rw [HRD.out]; rfl, HK.out.drewN _⟩
    · have hm : ¬ (k : Int) < min (x.size : Int) (y.size : Int) := by omega
      have HE := Lib.hid ((step_end hlt HJ.out).symm.trans HR.out)
      go_wp2_with (go_at_call 40; go_must (refine (cmp_int _ _ _).mono ?_); rintro e w2 ⟨rfl, rfl⟩)
      go_ret
      exact ⟨by rw [HE.out]; rfl, HK.out⟩
theorem trim_size (x : ByteArray) : (⟨(Lib.trimRightB x.data.toList 32).toArray⟩ : ByteArray).size ≤ x.size := by
  show (Lib.trimRightB x.data.toList 32).length ≤ x.data.size
  unfold Lib.trimRightB
  rw [List.length_reverse]
  have := (List.dropWhile_sublist (· == (32 : UInt8)) (l := x.data.toList.reverse)).length_le
  simpa using this
theorem trim_at (w : World) (s t : ByteArray) (hs : s.size ≤ 9223372036854775807) (ht : (⟨(Lib.trimRightB s.data.toList 32).toArray⟩ : ByteArray) = t) :
    Calls Tryd.prog 38 #[.string s, .string ⟨#[32]⟩] w fun e w' => e = .returned (.string t) ∧ w = w' := by
  subst ht
  exact (trim_ok s w hs).mono fun _ _ h => ⟨h.1, h.2.symm⟩
set_option maxRecDepth 100000 in
set_option maxHeartbeats 1600000 in
theorem texts_trim (w : World) (x0 y0 : ByteArray) (hx : x0.size ≤ 9223372036854775807) (hy : y0.size ≤ 9223372036854775807) :
    Calls Tryd.prog 24 #[.string x0, .string y0, .int .i64 2] w fun e w' => e = .returned (.int .i64 (textsF 2 x0 y0)) ∧ Kp NoB w w' := by
  obtain ⟨x, hxe⟩ : ∃ x : ByteArray, (⟨(Lib.trimRightB x0.data.toList 32).toArray⟩ : ByteArray) = x := ⟨_, rfl⟩
  obtain ⟨y, hye⟩ : ∃ y : ByteArray, (⟨(Lib.trimRightB y0.data.toList 32).toArray⟩ : ByteArray) = y := ⟨_, rfl⟩
  have HXE := Lib.hid hxe
  have HYE := Lib.hid hye
  have hxs : x.size ≤ 9223372036854775807 := by have := trim_size x0; rw [hxe] at this; omega
  have hys : y.size ≤ 9223372036854775807 := by have := trim_size y0; rw [hye] at this; omega
  obtain ⟨r, hr⟩ : ∃ r, cmpB (mapB id x) (mapB id y) = r := ⟨_, rfl⟩
  have HR := Lib.hid hr
  have hres : textsF 2 x0 y0 = r := by
    rw [← hr]
    unfold textsF fldB mapB
    rw [if_pos rfl, if_pos rfl, List.map_id, List.map_id, ← hxe, ← hye]
  rw [hres]
  clear hres hxe hye
  clear hr
  go_enter Tryd.func24, Tryd.ntmps24
  go_wp2_with (first | (have hG := T1; clear hG; go_at_call 38; go_must (refine (trim_at _ y0 y hy HYE.out).mono ?_); rintro e w3 ⟨rfl, rfl⟩) | (go_at_call 38; go_must (refine (trim_at _ x0 x hx HXE.out).mono ?_); rintro e w2 ⟨rfl, rfl⟩; have T1 : Hid True := Lib.hid trivial))
  go_loopw [24] (fun i wr => ∃ k : Nat, k ≤ x.size ∧ k ≤ y.size ∧ i = .int .i64 k ∧ Kp NoB w wr ∧ ∀ j, j < k → (mapB id x).getD j 0 = (mapB id y).getD j 0) (fun i _ => x.size - (intOf i).toNat)
  case atStart => exact ⟨0, by omega, by omega, rfl, Kp.refl _ _, fun j hj => by omega⟩
  case round =>
    obtain ⟨k, hkx, hky, rfl, hkp, hj⟩ := hrel
    have HK := Lib.hid hkp
    have HJ := Lib.hid hj
    clear hkp hj
    by_cases hlt : k < x.size ∧ k < y.size
    · obtain ⟨hl1, hl2⟩ := hlt
      have hm : (k : Int) < min (x.size : Int) (y.size : Int) := by omega
      obtain ⟨d, hd⟩ : ∃ d, sgc (x[k].toNat : Int) (y[k].toNat : Int) = d := ⟨_, rfl⟩
      have HD := Lib.hid hd
      have hd2 : sgc ((id x[k]).toNat : Int) ((id y[k]).toNat : Int) = d := by exact hd
      have HD2 := Lib.hid hd2
      clear hd hd2
      by_cases h0 : d = 0
      · subst h0
        have HJ2 := Lib.hid (step_eq hl1 hl2 HJ.out HD2.out)
        go_wp2_with fail
        go_quiet (first
          | (go_at_call 36; exact Calls.quiet_of_same (same_b _ _))
          | (go_at_call 39; exact Calls.quiet_of_same (cmp_byte_at _ _ _ _ HD.out)))
        go_wp2_with fail
        exact ⟨⟨k + 1, by omega, by omega, by congr 1, HK.out.drewN _, HJ2.out⟩, by simp [intOf]; omega⟩
      · have HRD := Lib.hid ((step_ne hl1 hl2 HJ.out HD2.out h0).symm.trans HR.out)
        have b1 : (d == 0) = false := by simpa using h0
        have b2 : (d != 0) = true := by simpa using h0
        go_wp2_with fail
        go_quiet (first
          | (go_at_call 36; exact Calls.quiet_of_same (same_b _ _))
          | (go_at_call 39; exact Calls.quiet_of_same (cmp_byte_at _ _ _ _ HD.out)))
        go_wp2_with fail
        go_ret
        exact ⟨by rw [HRD.out]; rfl, HK.out.drewN _⟩
    · have hm : ¬ (k : Int) < min (x.size : Int) (y.size : Int) := by omega
      have HE := Lib.hid ((step_end hlt HJ.out).symm.trans HR.out)
      go_wp2_with (go_at_call 40; go_must (refine (cmp_int _ _ _).mono ?_); rintro e w2 ⟨rfl, rfl⟩)
      go_ret
      exact ⟨by rw [HE.out]; rfl, HK.out⟩
theorem texts_ok (w : World) (x y : ByteArray) (c : Int) (hx : x.size ≤ 9223372036854775807) (hy : y.size ≤ 9223372036854775807) :
    Calls Tryd.prog 24 #[.string x, .string y, .int .i64 c] w fun e w' => e = .returned (.int .i64 (textsF c x y)) ∧ Kp NoB w w' := by
  by_cases h1 : c = 1
  · subst h1
    exact texts_low w x y hx hy
  · by_cases h2 : c = 2
    · subst h2
      exact texts_trim w x y hx hy
    · exact texts_plain w x y c h1 h2 hx hy
end Go.Proofs.YtlcefenjlchaiaaDoor
