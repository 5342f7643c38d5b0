/- The program's Encode: a row's record, or the error; no condition. -/
import Derived.Test.YtlcefenjlchaiaaDoorRcRow
namespace Go.Proofs.YtlcefenjlchaiaaDoor
open Go.RowKit

theorem rmay_at (w : World) (v : RV) (h : v.ok) : Calls Tryd.prog 17 #[.agg #[.int .i64 v.k, .int .i64 v.i, .string v.s]] w fun e w' => e = .returned (.bool v.may) ∧ Kp NoB w w' := may_ok w v.k v.i v.s h.sz
theorem shape_at (w : World) (v : RV) (h : v.ok) (hm : v.may = true) : Calls Tryd.prog 18 #[.agg #[.int .i64 v.k, .int .i64 v.i, .string v.s]] w fun e w' => e = .returned (.tuple #[.int .u64 (shapeF v.k v.i v.s).1, .string (shapeF v.k v.i v.s).2]) ∧ Kp NoB w w' :=
  shape_ok w v.k v.i v.s (may_size v hm) h.ilo h.ihi
set_option maxRecDepth 100000 in
set_option maxHeartbeats 4000000 in
theorem enc_ok (w : World) (A : Option Addr) (n cap : Nat) (vs : List RV) (hn : n ≤ 9223372036854775807) (hR : Rw w A n vs) :
    Calls Tryd.prog 11 #[.slice A n cap] w fun e w' => e = .returned (.tuple #[.string (encF vs).1, .int .i64 (encF vs).2]) ∧ Kp NoB w w' := by
  have HR := Lib.hid hR
  clear hR
  go_enter Tryd.func11, Tryd.ntmps11
  go_wp2_with fail
  go_loopw [5, 14] (fun _ i wr => ∃ k : Nat, k ≤ n ∧ i = .int .i64 k ∧ Kp NoB w wr ∧ ∀ j, j < k → (vs.getD j RV.nul).may = true) (fun _ i _ => n - (intOf i).toNat)
  case atStart => exact ⟨0, by omega, rfl, Kp.refl _ _, fun j hj => by omega⟩
  case round =>
    obtain ⟨k, hk, rfl, hkp, hm⟩ := hrel
    have HK := Lib.hid hkp
    have HM := Lib.hid hm
    clear hkp hm
    by_cases hlt : k < n
    · obtain ⟨g, o, rfl, hg, hc⟩ := (HR.out.keep HK.out).at_ (by omega)
      obtain ⟨c0, c1, c2⟩ := hc k hlt
      have HO := Lib.hid (HR.out.vok k)
      obtain ⟨v, hv⟩ : ∃ v, vs.getD k RV.nul = v := ⟨_, rfl⟩
      rw [hv] at c0 c1 c2 HO
      have HV := Lib.hid hv
      clear hc hv
      cases hmy : v.may with
      | false =>
        have HMY := Lib.hid hmy
        have HF := Lib.hid (show encF vs = (ByteArray.empty, 2) by unfold encF; rw [if_pos (all_may_false vs k (by rw [HR.out.len]; exact hlt) (by rw [HV.out]; exact hmy))])
        clear hmy
        go_wp2_with (go_at_call 17; go_must (refine (rmay_at _ v HO.out).mono ?_); rw [HMY.out]; rintro e w2 ⟨rfl, hk2⟩; have HK2 := Lib.hid hk2; clear hk2)
        go_ret2
        exact ⟨by rw [HF.out]; rfl, (HK.out.alloc _).trans HK2.out (fun _ _ q => q)⟩
      | true =>
        have HMY := Lib.hid hmy
        have HM2 : Hid (∀ j, j < k + 1 → (vs.getD j RV.nul).may = true) := Lib.hid (fun j hj => by
          rcases Nat.lt_or_ge j k with q | q
          · exact HM.out j q
          · obtain rfl : j = k := by omega
            rw [HV.out]; exact HMY.out)
        clear hmy
        go_wp2_with (go_at_call 17; go_must (refine (rmay_at _ v HO.out).mono ?_); rw [HMY.out]; rintro e w2 ⟨rfl, hk2⟩; have HK2 := Lib.hid hk2; clear hk2)
        exact ⟨⟨k + 1, by omega, by congr 1, (HK.out.alloc _).trans HK2.out (fun _ _ q => q), HM2.out⟩, by simp [intOf]; omega⟩
    · obtain rfl : k = n := by omega
      have HALL := Lib.hid (all_may_true vs (fun j hj => HM.out j (by rw [← HR.out.len]; exact hj)))
      have HL := Lib.hid HR.out.len
      by_cases h16 : (16 : Int) < k
      · have HF := Lib.hid (show encF vs = (ByteArray.empty, 3) by unfold encF; rw [if_neg (by rw [HALL.out]; decide), if_pos (by rw [HL.out]; omega)])
        go_wp2_with fail
        go_ret2
        exact ⟨by rw [HF.out]; rfl, HK.out⟩
      · have hk16 : k ≤ 16 := by omega
        go_wp2_with (go_at_call 13; go_must (refine (put_ok _ k (by omega)).mono ?_); rintro e w2 ⟨rfl, hk2⟩; have HK2 := Lib.hid (HK.out.trans hk2 (fun _ _ q => q)); clear hk2)
        go_loopw [6, 7, 9, 10, 11, 31] (fun h b _ _ _ i wr => ∃ m : Nat, m ≤ k ∧ i = .int .i64 m ∧ h = .string (headK vs m) ∧ b = .string (bodyK vs m) ∧ Kp NoB w wr) (fun _ _ _ _ _ i _ => k - (intOf i).toNat)
        case atStart => exact ⟨0, by omega, rfl, by unfold headK; rw [HL.out]; rfl, rfl, HK2.out⟩
        case round =>
          obtain ⟨m, hm, rfl, rfl, rfl, hkp⟩ := hrel
          have HKm := Lib.hid hkp
          have hhs := headK_size vs m
          have hbs := bodyK_size vs m (fun v hv => by have := HALL.out; rw [List.all_eq_true] at this; exact this v hv)
          clear hkp
          by_cases hlt : m < k
          · obtain ⟨g, o, rfl, hg, hc⟩ := (HR.out.keep HKm.out).at_ (by omega)
            obtain ⟨c0, c1, c2⟩ := hc m hlt
            have HO := Lib.hid (HR.out.vok m)
            have HMY := Lib.hid (all_may_at vs HALL.out m (by rw [HL.out]; exact hlt))
            have HS1 := Lib.hid (headK_succ vs m (by rw [HL.out]; exact hlt))
            have HS2 := Lib.hid (bodyK_succ vs m (by rw [HL.out]; exact hlt))
            obtain ⟨v, hv⟩ : ∃ v, vs.getD m RV.nul = v := ⟨_, rfl⟩
            rw [hv] at c0 c1 c2 HO HMY HS1 HS2
            obtain ⟨s1, s2⟩ := shapeF_size v HMY.out
            obtain ⟨t, b, hs⟩ : ∃ t b, shapeF v.k v.i v.s = (t, b) := ⟨_, _, rfl⟩
            rw [hs] at s1 s2 HS1 HS2
            have HS := Lib.hid hs
            have hp := putL_len t
            rw [← putV_size] at hp
            obtain ⟨hd, hhd⟩ : ∃ x, headK vs m = x := ⟨_, rfl⟩
            obtain ⟨bd, hbd⟩ : ∃ x, bodyK vs m = x := ⟨_, rfl⟩
            obtain ⟨pv, hpv⟩ : ∃ x, putV t = x := ⟨_, rfl⟩
            rw [hhd] at hhs HS1 ⊢
            rw [hbd] at hbs HS2 ⊢
            rw [hpv] at hp HS1
            have HPV := Lib.hid hpv
            simp only at s1 s2 HS1 HS2
            have cat1 : hd.size + pv.size ≤ 9223372036854775807 := by omega
            have cat2 : bd.size + b.size ≤ 9223372036854775807 := by omega
            clear hc hv hs hp hhd hbd hpv hhs hbs
            go_wp2_with (first
              | (go_at_call 18; go_must (refine (shape_at _ v HO.out HMY.out).mono ?_); rw [HS.out]; rintro e w3 ⟨rfl, hk3⟩; have HK3 := Lib.hid ((HKm.out.alloc _).trans hk3 (fun _ _ q => q)); clear hk3)
              | (go_at_call 13; go_must (refine (put_ok _ t s1).mono ?_); rw [HPV.out]; rintro e w4 ⟨rfl, hk4⟩; have HK4 := Lib.hid (HK3.out.trans hk4 (fun _ _ q => q)); clear hk4))
            exact ⟨⟨m + 1, by omega, by congr 1, by rw [HS1.out], by rw [HS2.out], HK4.out⟩, by simp [intOf]; omega⟩
          · obtain rfl : m = k := by omega
            obtain ⟨hd, hhd⟩ : ∃ x, headK vs m = x := ⟨_, rfl⟩
            obtain ⟨bd, hbd⟩ : ∃ x, bodyK vs m = x := ⟨_, rfl⟩
            rw [hhd] at hhs ⊢
            rw [hbd] at hbs ⊢
            have cat1 : hd.size + bd.size ≤ 9223372036854775807 := by omega
            have hh1 : (hd.size : Int) ≤ 1000 := by omega
            have hb1 : (bd.size : Int) ≤ 10000 := by omega
            by_cases h4 : (4000 : Int) < (hd.size : Int) + bd.size
            · have HF := Lib.hid (show encF vs = (ByteArray.empty, 3) by unfold encF; rw [if_neg (by rw [HALL.out]; decide), if_neg (by rw [HL.out]; omega), if_pos (by rw [HL.out, hhd, hbd]; omega)])
              clear hhd hbd hhs hbs
              go_wp2_with fail
              go_ret2
              exact ⟨by rw [HF.out]; rfl, HKm.out⟩
            · have HF := Lib.hid (show encF vs = (hd ++ bd, 0) by unfold encF; rw [if_neg (by rw [HALL.out]; decide), if_neg (by rw [HL.out]; omega), if_neg (by rw [HL.out, hhd, hbd]; omega), HL.out, hhd, hbd])
              clear hhd hbd hhs hbs
              go_wp2_with fail
              go_ret2
              exact ⟨by rw [HF.out]; rfl, HKm.out⟩
end Go.Proofs.YtlcefenjlchaiaaDoor
