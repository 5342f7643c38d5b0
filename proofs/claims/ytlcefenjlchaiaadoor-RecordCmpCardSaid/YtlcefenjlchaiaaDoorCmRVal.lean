/- The reference's Cmp of two values; no condition. -/
import Derived.Test.YtlcefenjlchaiaaDoorCmRef
import Derived.Test.YtlcefenjlchaiaaDoorRcREnc
namespace Go.Proofs.YtlcefenjlchaiaaDoor
open Go.RowKit

theorem may_kind (v : RV) (h : v.may = true) : v.k = 0 ∨ v.k = 1 ∨ v.k = 2 ∨ v.k = 3 := by
  unfold RV.may mayB at h
  split at h
  · simp_all
  · split at h
    · simp_all
    · split at h
      · omega
      · cases h
theorem rank_may (v : RV) (h : v.may = true) : rankI v.k = v.k := by
  unfold rankI
  rcases may_kind v h with e | e | e | e <;> rw [e] <;> rfl
set_option maxRecDepth 100000 in
set_option maxHeartbeats 3200000 in
theorem rvcmp_ok (w : World) (a b : RV) (c : Int) (ha : a.ok) (hb : b.ok) :
    Calls Tryd.prog 15 #[.agg #[.int .i64 a.k, .int .i64 a.i, .string a.s], .agg #[.int .i64 b.k, .int .i64 b.i, .string b.s], .int .i64 c] w fun e w' => e = .returned (.int .i64 (vcmp a b c)) ∧ Kp NoB w w' := by
  have HA := Lib.hid ha
  have HB := Lib.hid hb
  clear ha hb
  obtain ⟨r, hr⟩ : ∃ r, vcmp a b c = r := ⟨_, rfl⟩
  have HR := Lib.hid hr
  rw [hr]
  clear hr
  cases hma : a.may
  · have HMA := Lib.hid hma
    obtain rfl : r = 0 := by rw [← HR.out]; unfold vcmp; exact if_pos (.inl hma)
    clear hma
    have VS0 := Lib.hid (VS.start w a b)
    obtain ⟨a0, a1, a2, b0, b1, b2⟩ := VS0.out.sp
    go_enter Tryd.func15, Tryd.ntmps15
    go_wp2_with (go_at_call 28; go_must (refine (rrmay_at _ a HA.out).mono ?_); rw [HMA.out]; rintro e w2 ⟨rfl, hk2⟩; have VS2 := Lib.hid (VS0.out.keep hk2); obtain ⟨c0, c1, c2, d0, d1, d2⟩ := VS2.out.sp; clear hk2)
    go_ret
    exact ⟨rfl, VS2.out.k⟩
  · have HMA := Lib.hid hma
    clear hma
    cases hmb : b.may
    · have HMB := Lib.hid hmb
      obtain rfl : r = 0 := by rw [← HR.out]; unfold vcmp; exact if_pos (.inr hmb)
      clear hmb
      have VS0 := Lib.hid (VS.start w a b)
      obtain ⟨a0, a1, a2, b0, b1, b2⟩ := VS0.out.sp
      go_enter Tryd.func15, Tryd.ntmps15
      go_wp2_with (first | (have hG := VS2; clear hG; go_at_call 28; go_must (refine (rrmay_at _ b HB.out).mono ?_); rw [HMB.out]; rintro e w3 ⟨rfl, hk3⟩; have VS3 := Lib.hid (VS2.out.keep hk3); obtain ⟨e0, e1, e2, f0, f1, f2⟩ := VS3.out.sp; clear hk3) | (go_at_call 28; go_must (refine (rrmay_at _ a HA.out).mono ?_); rw [HMA.out]; rintro e w2 ⟨rfl, hk2⟩; have VS2 := Lib.hid (VS0.out.keep hk2); obtain ⟨c0, c1, c2, d0, d1, d2⟩ := VS2.out.sp; clear hk2))
      go_ret
      exact ⟨rfl, VS3.out.k⟩
    · have HMB := Lib.hid hmb
      clear hmb
      have hv : vcmp a b c = if a.k ≠ b.k then sgc a.k b.k else if a.k = 2 then textsF c a.s b.s else if sgc a.i b.i ≠ 0 then sgc a.i b.i else cmpB a.s.data.toList b.s.data.toList := by
        unfold vcmp
        rw [if_neg]
        rw [HMA.out, HMB.out]
        simp
      rw [HR.out] at hv
      have HV := Lib.hid hv
      clear hv
      have HSA := Lib.hid (may_size a HMA.out)
      have HSB := Lib.hid (may_size b HMB.out)
      by_cases hk : a.k = b.k
      · by_cases h2 : a.k = 2
        · have hr2 : textsF c a.s b.s = r := by rw [HV.out, if_neg (by simpa using hk), if_pos h2]
          have HR2 := Lib.hid hr2
          have hkb : b.k = 2 := by omega
          obtain ⟨ak, ai, ta⟩ := a
          obtain ⟨bk, bi, tb⟩ := b
          simp only at hk h2 hkb hr2
          subst h2
          subst hkb
          clear hk hr2
          have VS0 := Lib.hid (VS.start w ⟨2, ai, ta⟩ ⟨2, bi, tb⟩)
          obtain ⟨a0, a1, a2, b0, b1, b2⟩ := VS0.out.sp
          go_enter Tryd.func15, Tryd.ntmps15
          go_wp2_with (first | (have hG := VS2; clear hG; go_at_call 28; go_must (refine (rrmay_at _ _ HB.out).mono ?_); rw [HMB.out]; rintro e w3 ⟨rfl, hk3⟩; have VS3 := Lib.hid (VS2.out.keep hk3); obtain ⟨e0, e1, e2, f0, f1, f2⟩ := VS3.out.sp; clear hk3) | (go_at_call 28; go_must (refine (rrmay_at _ _ HA.out).mono ?_); rw [HMA.out]; rintro e w2 ⟨rfl, hk2⟩; have VS2 := Lib.hid (VS0.out.keep hk2); obtain ⟨c0, c1, c2, d0, d1, d2⟩ := VS2.out.sp; clear hk2))
          have h0 := VS3.out.keep (Kp.refl NoB w3).drew
          refine wp_region_held_drew (S := VSp w ⟨2, ai, ta⟩ ⟨2, bi, tb⟩) (by kernel_rfl) h0.sp (fun hHeld => ?_)
          generalize w3.drew = W0 at h0 hHeld ⊢
          refine wpAnyH_takeL (i := 0) (v := (.pointer (some ⟨w.heap.size, 2, none⟩))) rfl (by kernel_rfl) (by kernel_rfl) (by kernel_rfl) (fun _ _ _ h => h) (Or.inl ⟨by rfl, fun w' hq => by obtain ⟨q1, q2, q3, q4, q5, q6⟩ := hq; go_simp⟩) h0.sp ?_
          simp only [Act.put, List.setIfInBounds_toArray, List.set_cons_zero, List.set_cons_succ]
          refine wpAnyH_takeL (i := 1) (v := (.string ta)) rfl (by kernel_rfl) (by kernel_rfl) (by kernel_rfl) (fun _ _ _ h => h) (Or.inl ⟨by rfl, fun w' hq => by obtain ⟨q1, q2, q3, q4, q5, q6⟩ := hq; go_simp⟩) h0.sp ?_
          simp only [Act.put, List.setIfInBounds_toArray, List.set_cons_zero, List.set_cons_succ]
          refine wpAnyH_takeL (i := 2) (v := (.int .i64 c)) rfl (by kernel_rfl) (by kernel_rfl) (by kernel_rfl) (fun _ _ _ h => h) (Or.inl ⟨by rfl, fun w' hq => by obtain ⟨q1, q2, q3, q4, q5, q6⟩ := hq; go_simp⟩) h0.sp ?_
          simp only [Act.put, List.setIfInBounds_toArray, List.set_cons_zero, List.set_cons_succ]
          refine wpAnyH_takeL (i := 4) (v := (.pointer (some ⟨w.heap.size + 1, 2, none⟩))) rfl (by kernel_rfl) (by kernel_rfl) (by kernel_rfl) (fun _ _ _ h => h) (Or.inl ⟨by rfl, fun w' hq => by obtain ⟨q1, q2, q3, q4, q5, q6⟩ := hq; go_simp⟩) h0.sp ?_
          simp only [Act.put, List.setIfInBounds_toArray, List.set_cons_zero, List.set_cons_succ]
          refine wpAnyH_takeL (i := 5) (v := (.string tb)) rfl (by kernel_rfl) (by kernel_rfl) (by kernel_rfl) (fun _ _ _ h => h) (Or.inl ⟨by rfl, fun w' hq => by obtain ⟨q1, q2, q3, q4, q5, q6⟩ := hq; go_simp⟩) h0.sp ?_
          simp only [Act.put, List.setIfInBounds_toArray, List.set_cons_zero, List.set_cons_succ]
          refine wpAnyH_takeL (i := 6) (v := (.int .i64 c)) rfl (by kernel_rfl) (by kernel_rfl) (by kernel_rfl) (fun _ _ _ h => h) (Or.inl ⟨by rfl, fun w' hq => by obtain ⟨q1, q2, q3, q4, q5, q6⟩ := hq; go_simp⟩) h0.sp ?_
          simp only [Act.put, List.setIfInBounds_toArray, List.set_cons_zero, List.set_cons_succ]
          refine wpAnyH_ready (rs := [3]) (by kernel_rfl) (by simp) ?_
          refine AllReadyH.callR (fun x W' => x = (.string (foldS c ta)) ∧ VS w ⟨2, ai, ta⟩ ⟨2, bi, tb⟩ W') rfl (by rfl) 31 #[.string ta, .int .i64 c] (by go_simp) (fun _ _ q => q.2.sp) ((fold_ok _ ta c HSA.out).mono (by rintro e w19 ⟨rfl, hk⟩; exact ⟨_, rfl, rfl, h0.keep hk⟩)) ?_ AllReadyH.nil
          rintro _ W1 ⟨rfl, h1⟩
          simp only [Act.put, List.setIfInBounds_toArray, List.set_cons_zero, List.set_cons_succ]
          refine wpAnyH_ready (rs := [7]) (by kernel_rfl) (by simp) ?_
          refine AllReadyH.callR (fun x W' => x = (.string (foldS c tb)) ∧ VS w ⟨2, ai, ta⟩ ⟨2, bi, tb⟩ W') rfl (by rfl) 31 #[.string tb, .int .i64 c] (by go_simp) (fun _ _ q => q.2.sp) ((fold_ok _ tb c HSB.out).mono (by rintro e w19 ⟨rfl, hk⟩; exact ⟨_, rfl, rfl, h1.keep hk⟩)) ?_ AllReadyH.nil
          rintro _ W2 ⟨rfl, h2⟩
          simp only [Act.put, List.setIfInBounds_toArray, List.set_cons_zero, List.set_cons_succ]
          refine wpAnyH_ready (rs := [8]) (by kernel_rfl) (by simp) ?_
          refine AllReadyH.callR (fun x W' => x = (.int .i64 r) ∧ VS w ⟨2, ai, ta⟩ ⟨2, bi, tb⟩ W') rfl (by rfl) 30 #[.string (foldS c ta), .string (foldS c tb)] (by go_simp) (fun _ _ q => q.2.sp) ((rtexts_ok _ _ _ r (by rw [foldS_list, foldS_list]; exact HR2.out)).mono (by rintro e w19 ⟨rfl, rfl⟩; exact ⟨_, rfl, rfl, h2⟩)) ?_ AllReadyH.nil
          rintro _ W3 ⟨rfl, h3⟩
          simp only [Act.put, List.setIfInBounds_toArray, List.set_cons_zero, List.set_cons_succ]
          refine wpAnyH_takeL (i := 9) (v := (.int .i64 r)) rfl (by kernel_rfl) (by kernel_rfl) (by kernel_rfl) (fun _ _ _ h => h) (Or.inl ⟨by rfl, fun w' hq => by obtain ⟨q1, q2, q3, q4, q5, q6⟩ := hq; go_simp⟩) h3.sp ?_
          simp only [Act.put, List.setIfInBounds_toArray, List.set_cons_zero, List.set_cons_succ]
          refine wpAnyH_done (by kernel_rfl) ?_ _
          have H3 := Lib.hid h3
          clear h3 h2 h1 h0 hHeld
          go_wp2_with fail
          go_ret
          exact ⟨rfl, H3.out.k⟩
        · have hr2 : (if sgc a.i b.i ≠ 0 then sgc a.i b.i else cmpB a.s.data.toList b.s.data.toList) = r := by
            have h3 := HV.out
            rw [if_neg (by simpa using hk), if_neg h2] at h3
            exact h3.symm
          have HR2 := Lib.hid hr2
          have b2k : (a.k == 2) = false := by simpa using h2
          have HK := Lib.hid hk
          clear h2 hr2
          have hkk : a.k = b.k := HK.out
          obtain ⟨ak, ai, ta⟩ := a
          obtain ⟨bk, bi, tb⟩ := b
          simp only at hkk b2k HR2
          subst hkk
          clear HK hk
          rcases (show ai < bi ∨ bi < ai ∨ ai = bi by omega) with hi | hi | hi
          · have hr3 : r = -1 := by rw [← HR2.out]; simp [sgc, hi]
            subst hr3
            have VS0 := Lib.hid (VS.start w ⟨ak, ai, ta⟩ ⟨ak, bi, tb⟩)
            obtain ⟨a0, a1, a2, b0, b1, b2⟩ := VS0.out.sp
            go_enter Tryd.func15, Tryd.ntmps15
            go_wp2_with (first | (have hG := VS2; clear hG; go_at_call 28; go_must (refine (rrmay_at _ _ HB.out).mono ?_); rw [HMB.out]; rintro e w3 ⟨rfl, hk3⟩; have VS3 := Lib.hid (VS2.out.keep hk3); obtain ⟨e0, e1, e2, f0, f1, f2⟩ := VS3.out.sp; clear hk3) | (go_at_call 28; go_must (refine (rrmay_at _ _ HA.out).mono ?_); rw [HMA.out]; rintro e w2 ⟨rfl, hk2⟩; have VS2 := Lib.hid (VS0.out.keep hk2); obtain ⟨c0, c1, c2, d0, d1, d2⟩ := VS2.out.sp; clear hk2))
            go_ret
            exact ⟨rfl, VS3.out.k⟩
          · have hr3 : r = 1 := by rw [← HR2.out]; simp [sgc, hi, show ¬ ai < bi by omega]
            subst hr3
            have hni : ¬ ai < bi := by omega
            have hnd : decide (ai < bi) = false := decide_eq_false hni
            have VS0 := Lib.hid (VS.start w ⟨ak, ai, ta⟩ ⟨ak, bi, tb⟩)
            obtain ⟨a0, a1, a2, b0, b1, b2⟩ := VS0.out.sp
            go_enter Tryd.func15, Tryd.ntmps15
            go_wp2_with (first | (have hG := VS2; clear hG; go_at_call 28; go_must (refine (rrmay_at _ _ HB.out).mono ?_); rw [HMB.out]; rintro e w3 ⟨rfl, hk3⟩; have VS3 := Lib.hid (VS2.out.keep hk3); obtain ⟨e0, e1, e2, f0, f1, f2⟩ := VS3.out.sp; clear hk3) | (go_at_call 28; go_must (refine (rrmay_at _ _ HA.out).mono ?_); rw [HMA.out]; rintro e w2 ⟨rfl, hk2⟩; have VS2 := Lib.hid (VS0.out.keep hk2); obtain ⟨c0, c1, c2, d0, d1, d2⟩ := VS2.out.sp; clear hk2))
            go_ret
            exact ⟨rfl, VS3.out.k⟩
          · subst hi
            have hr3 : cmpB ta.data.toList tb.data.toList = r := by rw [← HR2.out]; simp [sgc]
            have HR3 := Lib.hid hr3
            clear hr3
            have VS0 := Lib.hid (VS.start w ⟨ak, ai, ta⟩ ⟨ak, ai, tb⟩)
            obtain ⟨a0, a1, a2, b0, b1, b2⟩ := VS0.out.sp
            go_enter Tryd.func15, Tryd.ntmps15
            go_wp2_with (first | (have hG := VS2; clear hG; go_at_call 28; go_must (refine (rrmay_at _ _ HB.out).mono ?_); rw [HMB.out]; rintro e w3 ⟨rfl, hk3⟩; have VS3 := Lib.hid (VS2.out.keep hk3); obtain ⟨e0, e1, e2, f0, f1, f2⟩ := VS3.out.sp; clear hk3) | (go_at_call 28; go_must (refine (rrmay_at _ _ HA.out).mono ?_); rw [HMA.out]; rintro e w2 ⟨rfl, hk2⟩; have VS2 := Lib.hid (VS0.out.keep hk2); obtain ⟨c0, c1, c2, d0, d1, d2⟩ := VS2.out.sp; clear hk2) | (go_at_call 30; go_must (refine (rtexts_ok _ ta tb r HR3.out).mono ?_); rintro e w4 ⟨rfl, rfl⟩))
            go_ret
            exact ⟨rfl, VS3.out.k⟩
      · have hr2 : sgc a.k b.k = r := by rw [HV.out, if_pos hk]
        have HR2 := Lib.hid hr2
        have hne : (a.k == b.k) = false := by simpa using hk
        have hne2 : (a.k != b.k) = true := by simpa using hk
        have hra := rank_may a HMA.out
        have hrb := rank_may b HMB.out
        rcases (show a.k < b.k ∨ b.k < a.k by omega) with hl | hl
        · have hrk : rankI a.k < rankI b.k := by rw [hra, hrb]; exact hl
          obtain rfl : r = -1 := by rw [← hr2]; exact if_pos hl
          clear hk hr2 hra hrb hl
          have VS0 := Lib.hid (VS.start w a b)
          obtain ⟨a0, a1, a2, b0, b1, b2⟩ := VS0.out.sp
          go_enter Tryd.func15, Tryd.ntmps15
          go_wp2_with (first | (have hG := VS2; clear hG; go_at_call 28; go_must (refine (rrmay_at _ b HB.out).mono ?_); rw [HMB.out]; rintro e w3 ⟨rfl, hk3⟩; have VS3 := Lib.hid (VS2.out.keep hk3); obtain ⟨e0, e1, e2, f0, f1, f2⟩ := VS3.out.sp; clear hk3) | (go_at_call 28; go_must (refine (rrmay_at _ a HA.out).mono ?_); rw [HMA.out]; rintro e w2 ⟨rfl, hk2⟩; have VS2 := Lib.hid (VS0.out.keep hk2); obtain ⟨c0, c1, c2, d0, d1, d2⟩ := VS2.out.sp; clear hk2))
          go_quiet ((go_at_call 29; exact Calls.quiet_of_same (rank_ok _ _)))
          go_wp2_with fail
          go_ret
          exact ⟨rfl, VS3.out.k.drewN _⟩
        · have hrk : ¬ rankI a.k < rankI b.k := by rw [hra, hrb]; omega
          have hrd : decide (rankI a.k < rankI b.k) = false := decide_eq_false hrk
          obtain rfl : r = 1 := by rw [← hr2]; unfold sgc; rw [if_neg (by omega), if_pos hl]
          clear hk hr2 hra hrb hl
          have VS0 := Lib.hid (VS.start w a b)
          obtain ⟨a0, a1, a2, b0, b1, b2⟩ := VS0.out.sp
          go_enter Tryd.func15, Tryd.ntmps15
          go_wp2_with (first | (have hG := VS2; clear hG; go_at_call 28; go_must (refine (rrmay_at _ b HB.out).mono ?_); rw [HMB.out]; rintro e w3 ⟨rfl, hk3⟩; have VS3 := Lib.hid (VS2.out.keep hk3); obtain ⟨e0, e1, e2, f0, f1, f2⟩ := VS3.out.sp; clear hk3) | (go_at_call 28; go_must (refine (rrmay_at _ a HA.out).mono ?_); rw [HMA.out]; rintro e w2 ⟨rfl, hk2⟩; have VS2 := Lib.hid (VS0.out.keep hk2); obtain ⟨c0, c1, c2, d0, d1, d2⟩ := VS2.out.sp; clear hk2))
          go_quiet ((go_at_call 29; exact Calls.quiet_of_same (rank_ok _ _)))
          go_wp2_with fail
          go_ret
          exact ⟨rfl, VS3.out.k.drewN _⟩
end Go.Proofs.YtlcefenjlchaiaaDoor
