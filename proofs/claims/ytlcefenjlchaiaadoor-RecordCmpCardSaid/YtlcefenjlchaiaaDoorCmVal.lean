/- The program's Cmp of two values; no condition. -/
import Derived.Test.YtlcefenjlchaiaaDoorCmTexts
import Derived.Test.YtlcefenjlchaiaaDoorInto4
import Derived.Handy
namespace Go.Proofs.YtlcefenjlchaiaaDoor
open Go.RowKit

def orF (c d : Int) : Int := if c ≠ 0 then c else d
set_option maxRecDepth 100000 in
theorem or_ok (w : World) (g : Nat) (c d : Int) (hc : w.cell? ⟨g, 0, none⟩ = some (.int .i64 c)) (hd : w.cell? ⟨g, 1, none⟩ = some (.int .i64 d)) :
    Calls Tryd.prog 25 #[.slice (some ⟨g, 0, none⟩) 2 2] w fun e w' => e = .returned (.int .i64 (orF c d)) ∧ w = w' := by
  by_cases h : c = 0
  · subst h
    have e : orF 0 d = d := by unfold orF; simp
    rw [e]
    by_cases h2 : d = 0
    · subst h2
      go_enter Tryd.func25, Tryd.ntmps25
      go_wp2
      go_rounds 3
      go_ret
      exact ⟨rfl, rfl⟩
    · have b2 : (d != 0) = true := by simpa using h2
      go_enter Tryd.func25, Tryd.ntmps25
      go_wp2
      go_rounds 3
      go_ret
      exact ⟨rfl, rfl⟩
  · have e : orF c d = c := if_pos h
    rw [e]
    have b2 : (c != 0) = true := by simpa using h
    go_enter Tryd.func25, Tryd.ntmps25
    go_wp2
    go_rounds 3
    go_ret
    exact ⟨rfl, rfl⟩
/-- two values in two blocks -/
structure VS (w : World) (a b : RV) (W : World) : Prop where
  k : Kp NoB w W
  ba : Blk W w.heap.size 34 #[.int .i64 a.k, .int .i64 a.i, .string a.s]
  bb : Blk W (w.heap.size + 1) 34 #[.int .i64 b.k, .int .i64 b.i, .string b.s]
theorem VS.keep {w : World} {a b : RV} {W W' : World} (h : VS w a b W) (k : Kp NoB W W') : VS w a b W' := ⟨h.k.trans k (fun _ _ q => q), h.ba.keep k (fun q => q), h.bb.keep k (fun q => q)⟩
theorem VS.start (w : World) (a b : RV) : VS w a b ((w.alloc (.cells #[.int .i64 a.k, .int .i64 a.i, .string a.s] 34)).alloc (.cells #[.int .i64 b.k, .int .i64 b.i, .string b.s] 34)) :=
  ⟨((Kp.refl _ _).alloc _).alloc _, (Blk.new _ _ _).alloc _, Blk.newAt _ _ _ _ (by simp)⟩
def VSp (w : World) (a b : RV) (W : World) : Prop :=
  W.cell? ⟨w.heap.size, 0, none⟩ = some (.int .i64 a.k) ∧ W.cell? ⟨w.heap.size, 1, none⟩ = some (.int .i64 a.i) ∧ W.cell? ⟨w.heap.size, 2, none⟩ = some (.string a.s) ∧
  W.cell? ⟨w.heap.size + 1, 0, none⟩ = some (.int .i64 b.k) ∧ W.cell? ⟨w.heap.size + 1, 1, none⟩ = some (.int .i64 b.i) ∧ W.cell? ⟨w.heap.size + 1, 2, none⟩ = some (.string b.s)
theorem VS.sp {w : World} {a b : RV} {W : World} (h : VS w a b W) : VSp w a b W := ⟨h.ba.cell 0, h.ba.cell 1, h.ba.cell 2, h.bb.cell 0, h.bb.cell 1, h.bb.cell 2⟩
theorem cmp_kind_at (w : World) (x y d : Int) (h : sgc x y = d) : Calls Tryd.prog 23 #[.int .i64 x, .int .i64 y] w fun e w' => e = .returned (.int .i64 d) ∧ w = w' := by
  subst h
  exact (cmp_kind w x y).mono fun _ _ h => ⟨h.1, h.2.symm⟩
theorem cmp_i64_at (w : World) (x y d : Int) (h : sgc x y = d) : Calls Tryd.prog 26 #[.int .i64 x, .int .i64 y] w fun e w' => e = .returned (.int .i64 d) ∧ w = w' := by
  subst h
  exact (cmp_i64 w x y).mono fun _ _ h => ⟨h.1, h.2.symm⟩
theorem compare_at (w : World) (x y : ByteArray) (d : Int) (h : cmpB x.data.toList y.data.toList = d) : Calls Tryd.prog 27 #[.string x, .string y] w fun e w' => e = .returned (.int .i64 d) ∧ w = w' := by
  subst h
  exact (compare_ok x y w).mono fun _ _ h => ⟨h.1, h.2.symm⟩
set_option maxRecDepth 100000 in
set_option maxHeartbeats 3200000 in
theorem vcmp_ok (w : World) (a b : RV) (c : Int) (ha : a.ok) (hb : b.ok) :
    Calls Tryd.prog 14 #[.agg #[.int .i64 a.k, .int .i64 a.i, .string a.s], .agg #[.int .i64 b.k, .int .i64 b.i, .string b.s], .int .i64 c] w fun e w' => e = .returned (.int .i64 (vcmp a b c)) ∧ Kp NoB w w' := by
  have HA := Lib.hid ha
  have HB := Lib.hid hb
  clear ha hb
  obtain ⟨r, hr⟩ : ∃ r, vcmp a b c = r := ⟨_, rfl⟩
  have HR := Lib.hid hr
  rw [hr]
  clear hr
  cases hma : a.may
  · have HMA := Lib.hid hma
    obtain rfl : r = 0 := by rw [← HR.out]; unfold vcmp; exact if_pos (.inl hma)
    clear hma
    have VS0 := Lib.hid (VS.start w a b)
    obtain ⟨a0, a1, a2, b0, b1, b2⟩ := VS0.out.sp
    go_enter Tryd.func14, Tryd.ntmps14
    go_wp2_with (go_at_call 17; go_must (refine (rmay_at _ a HA.out).mono ?_); rw [HMA.out]; rintro e w2 ⟨rfl, hk2⟩; have VS2 := Lib.hid (VS0.out.keep hk2); obtain ⟨c0, c1, c2, d0, d1, d2⟩ := VS2.out.sp; clear hk2)
    go_ret
    exact ⟨rfl, VS2.out.k⟩
  · have HMA := Lib.hid hma
    clear hma
    cases hmb : b.may
    · have HMB := Lib.hid hmb
      obtain rfl : r = 0 := by rw [← HR.out]; unfold vcmp; exact if_pos (.inr hmb)
      clear hmb
      have VS0 := Lib.hid (VS.start w a b)
      obtain ⟨a0, a1, a2, b0, b1, b2⟩ := VS0.out.sp
      go_enter Tryd.func14, Tryd.ntmps14
      go_wp2_with (first | (have hG := VS2; clear hG; go_at_call 17; go_must (refine (rmay_at _ b HB.out).mono ?_); rw [HMB.out]; rintro e w3 ⟨rfl, hk3⟩; have VS3 := Lib.hid (VS2.out.keep hk3); obtain ⟨e0, e1, e2, f0, f1, f2⟩ := VS3.out.sp; clear hk3) | (go_at_call 17; go_must (refine (rmay_at _ a HA.out).mono ?_); rw [HMA.out]; rintro e w2 ⟨rfl, hk2⟩; have VS2 := Lib.hid (VS0.out.keep hk2); obtain ⟨c0, c1, c2, d0, d1, d2⟩ := VS2.out.sp; clear hk2))
      go_ret
      exact ⟨rfl, VS3.out.k⟩
    · have HMB := Lib.hid hmb
      clear hmb
      have hv : vcmp a b c = if a.k ≠ b.k then sgc a.k b.k else if a.k = 2 then textsF c a.s b.s else if sgc a.i b.i ≠ 0 then sgc a.i b.i else cmpB a.s.data.toList b.s.data.toList := by
        unfold vcmp
        rw [if_neg]
        rw [HMA.out, HMB.out]
        simp
      rw [HR.out] at hv
      have HV := Lib.hid hv
      clear hv
      by_cases hk : a.k = b.k
      · by_cases h2 : a.k = 2
        · have hr2 : textsF c a.s b.s = r := by rw [HV.out, if_neg (by simpa using hk), if_pos h2]
          have HR2 := Lib.hid hr2
          have hkb : b.k = 2 := by omega
          obtain ⟨ak, ai, ta⟩ := a
          obtain ⟨bk, bi, tb⟩ := b
          simp only at hk h2 hkb hr2
          subst h2
          subst hkb
          clear hk hr2
          have VS0 := Lib.hid (VS.start w ⟨2, ai, ta⟩ ⟨2, bi, tb⟩)
          obtain ⟨a0, a1, a2, b0, b1, b2⟩ := VS0.out.sp
          go_enter Tryd.func14, Tryd.ntmps14
          go_wp2_with (first | (have hG := VS2; clear hG; go_at_call 17; go_must (refine (rmay_at _ _ HB.out).mono ?_); rw [HMB.out]; rintro e w3 ⟨rfl, hk3⟩; have VS3 := Lib.hid (VS2.out.keep hk3); obtain ⟨e0, e1, e2, f0, f1, f2⟩ := VS3.out.sp; clear hk3) | (go_at_call 17; go_must (refine (rmay_at _ _ HA.out).mono ?_); rw [HMA.out]; rintro e w2 ⟨rfl, hk2⟩; have VS2 := Lib.hid (VS0.out.keep hk2); obtain ⟨c0, c1, c2, d0, d1, d2⟩ := VS2.out.sp; clear hk2) | (go_at_call 24; go_must (refine (texts_ok _ ta tb c HA.out.sz HB.out.sz).mono ?_); rw [HR2.out]; rintro e w4 ⟨rfl, hk4⟩; have HK4 := Lib.hid hk4; clear hk4))
          go_ret
          exact ⟨rfl, VS3.out.k.trans HK4.out (fun _ _ q => q)⟩
        · have hr2 : orF (sgc a.i b.i) (cmpB a.s.data.toList b.s.data.toList) = r := by
            rw [HV.out, if_neg (by simpa using hk), if_neg h2]
            rfl
          have HR2 := Lib.hid hr2
          have b2k : (a.k == 2) = false := by simpa using h2
          have HK := Lib.hid hk
          clear h2 hr2
          have hkk : a.k = b.k := HK.out
          obtain ⟨ak, ai, ta⟩ := a
          obtain ⟨bk, bi, tb⟩ := b
          simp only at hkk b2k HR2
          subst hkk
          clear HK hk
          have VS0 := Lib.hid (VS.start w ⟨ak, ai, ta⟩ ⟨ak, bi, tb⟩)
          obtain ⟨a0, a1, a2, b0, b1, b2⟩ := VS0.out.sp
          go_enter Tryd.func14, Tryd.ntmps14
          go_wp2_with (first | (have hG := VS2; clear hG; go_at_call 17; go_must (refine (rmay_at _ _ HB.out).mono ?_); rw [HMB.out]; rintro e w3 ⟨rfl, hk3⟩; have VS3 := Lib.hid (VS2.out.keep hk3); obtain ⟨e0, e1, e2, f0, f1, f2⟩ := VS3.out.sp; clear hk3) | (go_at_call 17; go_must (refine (rmay_at _ _ HA.out).mono ?_); rw [HMA.out]; rintro e w2 ⟨rfl, hk2⟩; have VS2 := Lib.hid (VS0.out.keep hk2); obtain ⟨c0, c1, c2, d0, d1, d2⟩ := VS2.out.sp; clear hk2))
          have h0 := VS3.out.keep (Kp.refl NoB w3).drew
          refine wp_region_held_drew (S := VSp w ⟨ak, ai, ta⟩ ⟨ak, bi, tb⟩) (by kernel_rfl) h0.sp (fun hHeld => ?_)
          generalize w3.drew = W0 at h0 hHeld ⊢
          obtain ⟨u, hu⟩ : ∃ u, sgc ai bi = u := ⟨_, rfl⟩
          obtain ⟨v, hv⟩ : ∃ v, cmpB ta.data.toList tb.data.toList = v := ⟨_, rfl⟩
          have HU := Lib.hid hu
          have HVV := Lib.hid hv
          clear hu hv
          refine wpAnyH_takeL (i := 0) (v := (.pointer (some ⟨w.heap.size, 1, none⟩))) rfl (by kernel_rfl) (by kernel_rfl) (by kernel_rfl) (fun _ _ _ h => h) (Or.inl ⟨by rfl, fun w' hq => by obtain ⟨q1, q2, q3, q4, q5, q6⟩ := hq; go_simp⟩) h0.sp ?_
          simp only [Act.put, List.setIfInBounds_toArray, List.set_cons_zero, List.set_cons_succ]
          refine wpAnyH_takeL (i := 1) (v := (.int .i64 ai)) rfl (by kernel_rfl) (by kernel_rfl) (by kernel_rfl) (fun _ _ _ h => h) (Or.inl ⟨by rfl, fun w' hq => by obtain ⟨q1, q2, q3, q4, q5, q6⟩ := hq; go_simp⟩) h0.sp ?_
          simp only [Act.put, List.setIfInBounds_toArray, List.set_cons_zero, List.set_cons_succ]
          refine wpAnyH_takeL (i := 2) (v := (.pointer (some ⟨w.heap.size + 1, 1, none⟩))) rfl (by kernel_rfl) (by kernel_rfl) (by kernel_rfl) (fun _ _ _ h => h) (Or.inl ⟨by rfl, fun w' hq => by obtain ⟨q1, q2, q3, q4, q5, q6⟩ := hq; go_simp⟩) h0.sp ?_
          simp only [Act.put, List.setIfInBounds_toArray, List.set_cons_zero, List.set_cons_succ]
          refine wpAnyH_takeL (i := 3) (v := (.int .i64 bi)) rfl (by kernel_rfl) (by kernel_rfl) (by kernel_rfl) (fun _ _ _ h => h) (Or.inl ⟨by rfl, fun w' hq => by obtain ⟨q1, q2, q3, q4, q5, q6⟩ := hq; go_simp⟩) h0.sp ?_
          simp only [Act.put, List.setIfInBounds_toArray, List.set_cons_zero, List.set_cons_succ]
          refine wpAnyH_takeL (i := 5) (v := (.pointer (some ⟨w.heap.size, 2, none⟩))) rfl (by kernel_rfl) (by kernel_rfl) (by kernel_rfl) (fun _ _ _ h => h) (Or.inl ⟨by rfl, fun w' hq => by obtain ⟨q1, q2, q3, q4, q5, q6⟩ := hq; go_simp⟩) h0.sp ?_
          simp only [Act.put, List.setIfInBounds_toArray, List.set_cons_zero, List.set_cons_succ]
          refine wpAnyH_takeL (i := 6) (v := (.string ta)) rfl (by kernel_rfl) (by kernel_rfl) (by kernel_rfl) (fun _ _ _ h => h) (Or.inl ⟨by rfl, fun w' hq => by obtain ⟨q1, q2, q3, q4, q5, q6⟩ := hq; go_simp⟩) h0.sp ?_
          simp only [Act.put, List.setIfInBounds_toArray, List.set_cons_zero, List.set_cons_succ]
          refine wpAnyH_takeL (i := 7) (v := (.pointer (some ⟨w.heap.size + 1, 2, none⟩))) rfl (by kernel_rfl) (by kernel_rfl) (by kernel_rfl) (fun _ _ _ h => h) (Or.inl ⟨by rfl, fun w' hq => by obtain ⟨q1, q2, q3, q4, q5, q6⟩ := hq; go_simp⟩) h0.sp ?_
          simp only [Act.put, List.setIfInBounds_toArray, List.set_cons_zero, List.set_cons_succ]
          refine wpAnyH_takeL (i := 8) (v := (.string tb)) rfl (by kernel_rfl) (by kernel_rfl) (by kernel_rfl) (fun _ _ _ h => h) (Or.inl ⟨by rfl, fun w' hq => by obtain ⟨q1, q2, q3, q4, q5, q6⟩ := hq; go_simp⟩) h0.sp ?_
          simp only [Act.put, List.setIfInBounds_toArray, List.set_cons_zero, List.set_cons_succ]
          refine wpAnyH_ready (rs := [4]) (by kernel_rfl) (by simp) ?_
          refine AllReadyH.callR (fun x W' => x = (.int .i64 u) ∧ VS w ⟨ak, ai, ta⟩ ⟨ak, bi, tb⟩ W') rfl (by rfl) 26 #[.int .i64 ai, .int .i64 bi] (by go_simp) (fun _ _ q => q.2.sp) ((cmp_i64_at _ _ _ _ HU.out).mono (by rintro e w19 ⟨rfl, rfl⟩; exact ⟨_, rfl, rfl, h0⟩)) ?_ AllReadyH.nil
          rintro _ W1 ⟨rfl, h1⟩
          simp only [Act.put, List.setIfInBounds_toArray, List.set_cons_zero, List.set_cons_succ]
          refine wpAnyH_ready (rs := [9]) (by kernel_rfl) (by simp) ?_
          refine AllReadyH.callR (fun x W' => x = (.int .i64 v) ∧ VS w ⟨ak, ai, ta⟩ ⟨ak, bi, tb⟩ W') rfl (by rfl) 27 #[.string ta, .string tb] (by go_simp) (fun _ _ q => q.2.sp) ((compare_at _ _ _ _ HVV.out).mono (by rintro e w19 ⟨rfl, rfl⟩; exact ⟨_, rfl, rfl, h1⟩)) ?_ AllReadyH.nil
          rintro _ W2 ⟨rfl, h2⟩
          simp only [Act.put, List.setIfInBounds_toArray, List.set_cons_zero, List.set_cons_succ]
          refine wpAnyH_ready (rs := [10]) (by kernel_rfl) (by simp) ?_
          refine AllReadyH.valR (fun W' => VS w ⟨ak, ai, ta⟩ ⟨ak, bi, tb⟩ W' ∧ W'.cell? ⟨W2.heap.size, 0, none⟩ = some (.int .i64 u) ∧ W'.cell? ⟨W2.heap.size, 1, none⟩ = some (.int .i64 v)) rfl (by rfl) (.slice (some ⟨W2.heap.size, 0, none⟩) 2 2) (W2.alloc (.cells #[.int .i64 u, .int .i64 v] 3)) (by go_simp) (fun _ q => q.1.sp) ⟨h2.keep ((Kp.refl _ _).alloc _), (Blk.new _ _ _).cell 0, (Blk.new _ _ _).cell 1⟩ ?_ AllReadyH.nil
          rintro W3 ⟨h3, x0, x1⟩
          simp only [Act.put, List.setIfInBounds_toArray, List.set_cons_zero, List.set_cons_succ]
          refine wpAnyH_ready (rs := [11]) (by kernel_rfl) (by simp) ?_
          refine AllReadyH.callR (fun x W' => x = (.int .i64 (orF u v)) ∧ VS w ⟨ak, ai, ta⟩ ⟨ak, bi, tb⟩ W') rfl (by rfl) 25 #[.slice (some ⟨W2.heap.size, 0, none⟩) 2 2] (by go_simp) (fun _ _ q => q.2.sp) ((or_ok _ W2.heap.size u v x0 x1).mono (by rintro e w19 ⟨rfl, rfl⟩; exact ⟨_, rfl, rfl, h3⟩)) ?_ AllReadyH.nil
          rintro _ W4 ⟨rfl, h4⟩
          simp only [Act.put, List.setIfInBounds_toArray, List.set_cons_zero, List.set_cons_succ]
          refine wpAnyH_takeL (i := 12) (v := (.int .i64 (orF u v))) rfl (by kernel_rfl) (by kernel_rfl) (by kernel_rfl) (fun _ _ _ h => h) (Or.inl ⟨by rfl, fun w' hq => by obtain ⟨q1, q2, q3, q4, q5, q6⟩ := hq; go_simp⟩) h4.sp ?_
          simp only [Act.put, List.setIfInBounds_toArray, List.set_cons_zero, List.set_cons_succ]
          refine wpAnyH_done (by kernel_rfl) ?_ _
          have h5 : orF u v = r := by rw [← HU.out, ← HVV.out]; exact HR2.out
          have H5 := Lib.hid h5
          have H4 := Lib.hid h4
          clear h5 h4 h3 x0 x1 h2 h1 h0 hHeld
          go_wp2_with fail
          go_ret
          exact ⟨by rw [H5.out]; rfl, H4.out.k⟩
      · have hr2 : sgc a.k b.k = r := by rw [HV.out, if_pos hk]
        have HR2 := Lib.hid hr2
        have hne : (a.k == b.k) = false := by simpa using hk
        have hne2 : (a.k != b.k) = true := by simpa using hk
        clear hk hr2
        have VS0 := Lib.hid (VS.start w a b)
        obtain ⟨a0, a1, a2, b0, b1, b2⟩ := VS0.out.sp
        go_enter Tryd.func14, Tryd.ntmps14
        go_wp2_with (first | (have hG := VS2; clear hG; go_at_call 17; go_must (refine (rmay_at _ b HB.out).mono ?_); rw [HMB.out]; rintro e w3 ⟨rfl, hk3⟩; have VS3 := Lib.hid (VS2.out.keep hk3); obtain ⟨e0, e1, e2, f0, f1, f2⟩ := VS3.out.sp; clear hk3) | (go_at_call 17; go_must (refine (rmay_at _ a HA.out).mono ?_); rw [HMA.out]; rintro e w2 ⟨rfl, hk2⟩; have VS2 := Lib.hid (VS0.out.keep hk2); obtain ⟨c0, c1, c2, d0, d1, d2⟩ := VS2.out.sp; clear hk2) | (go_at_call 23; go_must (refine (cmp_kind_at _ _ _ _ HR2.out).mono ?_); rintro e w4 ⟨rfl, rfl⟩))
        go_ret
        exact ⟨rfl, VS3.out.k⟩
end Go.Proofs.YtlcefenjlchaiaaDoor
