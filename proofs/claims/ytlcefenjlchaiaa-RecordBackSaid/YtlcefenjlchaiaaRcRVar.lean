/- The reference's Varint: the number with which a text begins; no condition. -/
import Derived.Test.YtlcefenjlchaiaaRcVar
namespace Go.Proofs.Ytlcefenjlchaiaa
open Go.RowKit

def rvarR (q : Option (Nat × Nat)) : Value := match q with
  | none => .tuple #[.int .u64 0, .int .i64 0]
  | some (u, n) => .tuple #[.int .u64 u, .int .i64 n]
theorem intL_nats (s : ByteArray) : intL (natsOf s) = strI s := by
  unfold intL natsOf strI
  rw [List.map_map]
  rfl
theorem strOf_strI (s : ByteArray) : strOf (strI s) = s := by
  unfold strOf strI
  simp [List.map_map, ByteArray.ext_iff, Function.comp_def]
/-- the bytes that were read are the number's bytes just if they are as many -/
theorem put_eq (s : ByteArray) (u n : Nat) (h : scanV 0 0 (natsOf s) = some (u, n)) : (putV u = s.extract 0 n ↔ (putL u).length = n) := by
  obtain ⟨_, _, _, h4, h5⟩ := scan_iff (natsOf s) (u, n) (natsOf_lt s) h
  rw [natsOf_len] at h4
  constructor
  · intro e
    have := congrArg ByteArray.size e
    rw [putV_size] at this
    simp at this
    omega
  · intro e
    have h6 := h5 e
    unfold putV
    simp only at h6
    rw [h6]
    have e2 : s.extract 0 n = strOf (strI (s.extract 0 n)) := (strOf_strI _).symm
    rw [e2]
    congr 1
    rw [← intL_nats]
    congr 1
    unfold natsOf
    simp
theorem str_ne {a b : ByteArray} (h : ¬ a = b) : (a.toList == b.toList) = false := by
  rw [beq_eq_false_iff_ne]
  intro e
  rw [ByteArray.toList_eq, ByteArray.toList_eq] at e
  exact h (ByteArray.ext (Array.ext' e))
theorem rput_at (w : World) (U : Int) (u : Nat) (hU : U = u) (hu : u < 18446744073709551616) : Calls Try.prog 10 #[.int .u64 U] w fun e w' => e = .returned (.string (putV u)) ∧ Kp NoB w w' := by
  subst hU
  exact rput_ok w u hu
set_option maxRecDepth 100000 in
set_option maxHeartbeats 1000000 in
theorem rvarint_ok (w : World) (s : ByteArray) (hs : s.size ≤ 9223372036854775807) : Calls Try.prog 8 #[.string s] w fun e w' => e = .returned (rvarR (varF s)) ∧ Kp NoB w w' := by
  go_enter Try.func8, Try.ntmps8
  go_wp2_with fail
  go_loopw [4, 5] (fun u n wr => ∃ (k v : Nat), k ≤ s.size ∧ k ≤ 8 ∧ n = .int .i64 k ∧ u = .int .u64 v ∧ v < 128 ^ k ∧ wr = w ∧ scanV 0 0 (natsOf s) = scanV k v ((natsOf s).drop k)) (fun _ n _ => s.size - (intOf n).toNat)
  case atStart => exact ⟨0, 0, by omega, by omega, rfl, rfl, by simp, rfl, by simp⟩
  case round =>
    obtain ⟨k, v, hk, hk8, rfl, rfl, hv, rfl, hsc⟩ := hrel
    have HS := Lib.hid hsc
    have hv8 : v < 72057594037927936 := Nat.lt_of_lt_of_le hv (Nat.le_trans (Nat.pow_le_pow_right (by omega) hk8) (by decide))
    have HV := Lib.hid hv
    clear hsc hv
    by_cases hlt : k < s.size
    · have HD := Lib.hid (natsOf_drop s k hlt)
      have hb := s[k].toNat_lt
      have hb0 : (0 : Int) ≤ (s[k].toNat : Int) := Int.natCast_nonneg _
      have hb1 : (s[k].toNat : Int) < 256 := by omega
      have hk9 : (k : Int) < 9 := by omega
      by_cases h8 : k = 8
      · have H8 := Lib.hid h8
        have h9 : ((k : Int) == 8) = true := by rw [beq_iff_eq]; omega
        have HN := Lib.hid (show scanV 0 0 (natsOf s) = some (v * 256 + s[k].toNat, k + 1) by rw [HS.out, HD.out]; simp [scanV, H8.out])
        have HPE := Lib.hid (put_eq s _ _ HN.out)
        clear h8
        have hw1 : IntKind.i64.wrap ((k : Int) + 1) = (k : Int) + 1 := by rw [IntKind.wrap_i64]; omega
        have hw2 : (0 : Int) ≤ (k : Int) + 1 := by omega
        have hw3 : (k : Int) + 1 ≤ (s.size : Int) := by omega
        have hw4 : ((k : Int) + 1).toNat = k + 1 := by omega
        by_cases hle : (putL (v * 256 + s[k].toNat)).length = k + 1
        · have he := HPE.out.2 hle
          have HF := Lib.hid (show varF s = some (v * 256 + s[k].toNat, k + 1) by unfold varF; rw [HN.out]; exact if_pos hle)
          have HE := Lib.hid he
          clear he hle
          go_wp2_with fail
          go_region_held3 (fun _ => True) (trivial) ((go_at_call 10; go_must (refine (rput_at _ _ (v * 256 + s[k].toNat) (by simp) (by omega)).mono ?_); rw [HE.out]; rintro e w2 ⟨rfl, hk2⟩; have HK2 := Lib.hid hk2; clear hk2))
          go_wp2_with fail
          go_ret2
          exact ⟨by rw [HF.out]; simp [rvarR], (Kp.refl _ _).drew.trans HK2.out (fun _ _ q => q)⟩
        · have he : ¬ (putV (v * 256 + s[k].toNat) = s.extract 0 (k + 1)) := fun q => hle (HPE.out.1 q)
          have HF := Lib.hid (show varF s = none by unfold varF; rw [HN.out]; exact if_neg hle)
          obtain ⟨p, hp⟩ : ∃ p, putV (v * 256 + s[k].toNat) = p := ⟨_, rfl⟩
          rw [hp] at he
          have HE := Lib.hid hp
          have hbf : (p.toList == (s.extract 0 (k + 1)).toList) = false := str_ne he
          clear hp hle he
          go_wp2_with fail
          go_region_held3 (fun _ => True) (trivial) ((go_at_call 10; go_must (refine (rput_at _ _ (v * 256 + s[k].toNat) (by simp) (by omega)).mono ?_); rw [HE.out]; rintro e w2 ⟨rfl, hk2⟩; have HK2 := Lib.hid hk2; clear hk2))
          go_wp2_with fail
          go_ret2
          exact ⟨by rw [HF.out]; rfl, (Kp.refl _ _).drew.trans HK2.out (fun _ _ q => q)⟩
      · have h9 : ((k : Int) == 8) = false := by rw [beq_eq_false_iff_ne]; omega
        by_cases h128 : (s[k].toNat : Int) < 128
        · have HN := Lib.hid (show scanV 0 0 (natsOf s) = some (v * 128 + s[k].toNat % 128, k + 1) by rw [HS.out, HD.out]; simp [scanV, h8, show s[k].toNat < 128 by omega])
          have HPE := Lib.hid (put_eq s _ _ HN.out)
          have hw1 : IntKind.i64.wrap ((k : Int) + 1) = (k : Int) + 1 := by rw [IntKind.wrap_i64]; omega
          have hw2 : (0 : Int) ≤ (k : Int) + 1 := by omega
          have hw3 : (k : Int) + 1 ≤ (s.size : Int) := by omega
          have hw4 : ((k : Int) + 1).toNat = k + 1 := by omega
          by_cases hle : (putL (v * 128 + s[k].toNat % 128)).length = k + 1
          · have he := HPE.out.2 hle
            have HF := Lib.hid (show varF s = some (v * 128 + s[k].toNat % 128, k + 1) by unfold varF; rw [HN.out]; exact if_pos hle)
            have HE := Lib.hid he
            clear he hle
            go_wp2_with fail
            go_region_held3 (fun _ => True) (trivial) ((go_at_call 10; go_must (refine (rput_at _ _ (v * 128 + s[k].toNat % 128) (by simp) (by omega)).mono ?_); rw [HE.out]; rintro e w2 ⟨rfl, hk2⟩; have HK2 := Lib.hid hk2; clear hk2))
            go_wp2_with fail
            go_ret2
            exact ⟨by rw [HF.out]; simp [rvarR], (Kp.refl _ _).drew.trans HK2.out (fun _ _ q => q)⟩
          · have he : ¬ (putV (v * 128 + s[k].toNat % 128) = s.extract 0 (k + 1)) := fun q => hle (HPE.out.1 q)
            have HF := Lib.hid (show varF s = none by unfold varF; rw [HN.out]; exact if_neg hle)
            obtain ⟨p, hp⟩ : ∃ p, putV (v * 128 + s[k].toNat % 128) = p := ⟨_, rfl⟩
            rw [hp] at he
            have HE := Lib.hid hp
            have hbf : (p.toList == (s.extract 0 (k + 1)).toList) = false := str_ne he
            clear hp hle he
            go_wp2_with fail
            go_region_held3 (fun _ => True) (trivial) ((go_at_call 10; go_must (refine (rput_at _ _ (v * 128 + s[k].toNat % 128) (by simp) (by omega)).mono ?_); rw [HE.out]; rintro e w2 ⟨rfl, hk2⟩; have HK2 := Lib.hid hk2; clear hk2))
            go_wp2_with fail
            go_ret2
            exact ⟨by rw [HF.out]; rfl, (Kp.refl _ _).drew.trans HK2.out (fun _ _ q => q)⟩
        · have HN := Lib.hid (show scanV 0 0 (natsOf s) = scanV (k + 1) (v * 128 + s[k].toNat % 128) ((natsOf s).drop (k + 1)) by rw [HS.out, HD.out]; simp [scanV, h8, show ¬ s[k].toNat < 128 by omega])
          go_wp2_with fail
          exact ⟨⟨k + 1, v * 128 + s[k].toNat % 128, by omega, by omega, by congr 1, by simp, by have := HV.out; rw [Nat.pow_succ]; omega, trivial, HN.out⟩, by simp [intOf]; omega⟩
    · have HN := Lib.hid (show varF s = none by unfold varF; rw [HS.out, List.drop_of_length_le (by rw [natsOf_len]; omega)]; rfl)
      go_wp2_with fail
      go_ret2
      exact ⟨by rw [HN.out]; rfl, Kp.refl _ _⟩
end Go.Proofs.Ytlcefenjlchaiaa
