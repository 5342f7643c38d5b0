/- Two rows held against each other, by the program and by the reference; no condition. -/
import Derived.Test.YtlcefenjlchaiaaDoorCmRVal
import Derived.Test.YtlcefenjlchaiaaDoorCmOv
namespace Go.Proofs.YtlcefenjlchaiaaDoor
open Go.RowKit

/-- two fields and an order's box -/
structure R7 (w : World) (g o g' o' gb : Nat) (va vb : RV) (oc : Int) (od : Bool) (W : World) : Prop where
  k : Kp NoB w W
  la : g < W.heap.size
  lb : g' < W.heap.size
  a0 : W.cell? ⟨g, o, none⟩ = some (.int .i64 va.k)
  a1 : W.cell? ⟨g, o + 1, none⟩ = some (.int .i64 va.i)
  a2 : W.cell? ⟨g, o + 2, none⟩ = some (.string va.s)
  b0 : W.cell? ⟨g', o', none⟩ = some (.int .i64 vb.k)
  b1 : W.cell? ⟨g', o' + 1, none⟩ = some (.int .i64 vb.i)
  b2 : W.cell? ⟨g', o' + 2, none⟩ = some (.string vb.s)
  bx : Blk W gb 29 #[.int .i64 oc, .bool od]
theorem R7.keep {w : World} {g o g' o' gb : Nat} {va vb : RV} {oc : Int} {od : Bool} {W W' : World} (h : R7 w g o g' o' gb va vb oc od W) (k : Kp NoB W W') : R7 w g o g' o' gb va vb oc od W' :=
  ⟨h.k.trans k (fun _ _ q => q), Nat.lt_of_lt_of_le h.la k.size, Nat.lt_of_lt_of_le h.lb k.size, (k.cell h.la (fun q => q)).trans h.a0, (k.cell h.la (fun q => q)).trans h.a1, (k.cell h.la (fun q => q)).trans h.a2,
    (k.cell h.lb (fun q => q)).trans h.b0, (k.cell h.lb (fun q => q)).trans h.b1, (k.cell h.lb (fun q => q)).trans h.b2, h.bx.keep k (fun q => q)⟩
def R7p (g o g' o' gb : Nat) (va vb : RV) (oc : Int) (od : Bool) (W : World) : Prop :=
  W.cell? ⟨g, o, none⟩ = some (.int .i64 va.k) ∧ W.cell? ⟨g, o + 1, none⟩ = some (.int .i64 va.i) ∧ W.cell? ⟨g, o + 2, none⟩ = some (.string va.s) ∧
  W.cell? ⟨g', o', none⟩ = some (.int .i64 vb.k) ∧ W.cell? ⟨g', o' + 1, none⟩ = some (.int .i64 vb.i) ∧ W.cell? ⟨g', o' + 2, none⟩ = some (.string vb.s) ∧
  W.cell? ⟨gb, 0, none⟩ = some (.int .i64 oc) ∧ W.cell? ⟨gb, 1, none⟩ = some (.bool od)
theorem R7.sp {w : World} {g o g' o' gb : Nat} {va vb : RV} {oc : Int} {od : Bool} {W : World} (h : R7 w g o g' o' gb va vb oc od W) : R7p g o g' o' gb va vb oc od W :=
  ⟨h.a0, h.a1, h.a2, h.b0, h.b1, h.b2, h.bx.cell 0, h.bx.cell 1⟩
theorem R7.start {w wr : World} {A B : Option Addr} {n m : Nat} {a b : List RV} (hk : Kp NoB w wr) (hA : Rw w A n a) (hB : Rw w B m b) {k : Nat} (h1 : k < n) (h2 : k < m) (oc : Int) (od : Bool) :
    ∃ g o g' o', A = some ⟨g, o, none⟩ ∧ B = some ⟨g', o', none⟩ ∧ R7 w g (o + k * 3) g' (o' + k * 3) wr.heap.size (a.getD k RV.nul) (b.getD k RV.nul) oc od (wr.alloc (.cells #[.int .i64 oc, .bool od] 29)) := by
  obtain ⟨g, o, rfl, hg, hc⟩ := (hA.keep hk).at_ (by omega)
  obtain ⟨g', o', rfl, hg', hc'⟩ := (hB.keep hk).at_ (by omega)
  obtain ⟨c0, c1, c2⟩ := hc k h1
  obtain ⟨d0, d1, d2⟩ := hc' k h2
  have k1 := (Kp.refl NoB wr).alloc (.cells #[.int .i64 oc, .bool od] 29)
  exact ⟨g, o, g', o', rfl, rfl, hk.trans k1 (fun _ _ q => q), Nat.lt_of_lt_of_le hg k1.size, Nat.lt_of_lt_of_le hg' k1.size, (k1.cell hg (fun q => q)).trans c0, (k1.cell hg (fun q => q)).trans c1, (k1.cell hg (fun q => q)).trans c2,
    (k1.cell hg' (fun q => q)).trans d0, (k1.cell hg' (fun q => q)).trans d1, (k1.cell hg' (fun q => q)).trans d2, Blk.new _ _ _⟩
theorem stepF_eq {a b : List RV} {os : List OV} {k : Nat} {va vb : RV} {oc : Int} {od : Bool} (h1 : a.getD k RV.nul = va) (h2 : b.getD k RV.nul = vb) (h3 : os.getD k OV.nul = ⟨oc, od⟩) : stepF a b os k = vcmp va vb oc := by
  unfold stepF
  rw [h1, h2, h3]
theorem lens {a b : List RV} {n m : Nat} (h1 : a.length = n) (h2 : b.length = m) {os : List OV} {k : Nat} (hk : ¬ (k < n ∧ k < m)) (hj : ∀ j, j < k → stepF a b os j = 0) : rcmp a b os = sgc (n : Int) (m : Int) := by
  rw [rcmp_end (fun j hjm => hj j (by omega)), h1, h2]
set_option maxRecDepth 100000 in
set_option maxHeartbeats 6400000 in
theorem pcmp_ok (w : World) (A B C : Option Addr) (n m p cap cap' cap2 : Nat) (a b : List RV) (os : List OV) (hn : n ≤ 9223372036854775807) (hm0 : m ≤ 9223372036854775807) (hp : p ≤ 9223372036854775807) (hA : Rw w A n a) (hB : Rw w B m b) (hO : Ow w C p os) :
    Calls Tryd.prog 6 #[.slice A n cap, .slice B m cap', .slice C p cap2] w fun e w' => e = .returned (.int .i64 (rcmp a b os)) ∧ Kp NoB w w' := by
  have HA := Lib.hid hA
  have HB := Lib.hid hB
  have HO := Lib.hid hO
  clear hA hB hO
  obtain ⟨r, hr⟩ : ∃ r, rcmp a b os = r := ⟨_, rfl⟩
  have HR := Lib.hid hr
  rw [hr]
  clear hr
  go_enter Tryd.func6, Tryd.ntmps6
  go_wp2_with fail
  go_loopw [15] (fun i wr => ∃ k : Nat, k ≤ n ∧ k ≤ m ∧ i = .int .i64 k ∧ Kp NoB w wr ∧ ∀ j, j < k → stepF a b os j = 0) (fun i _ => n - (intOf i).toNat)
  case atStart => exact ⟨0, by omega, by omega, rfl, Kp.refl _ _, fun j hj => by omega⟩
  case round =>
    obtain ⟨k, hkx, hky, rfl, hkp, hj⟩ := hrel
    have HK := Lib.hid hkp
    have HJ := Lib.hid hj
    clear hkp hj
    by_cases hlt : k < n ∧ k < m
    · obtain ⟨hl1, hl2⟩ := hlt
      have hm : (k : Int) < min (n : Int) (m : Int) := by omega
      by_cases hkp : k < p
      · obtain ⟨g2, o2, rfl, hg2, hc2⟩ := (HO.out.keep HK.out).at_ (by omega)
        obtain ⟨y0, y1⟩ := hc2 k hkp
        obtain ⟨⟨oc, od⟩, hov⟩ : ∃ ov, os.getD k OV.nul = ov := ⟨_, rfl⟩
        rw [hov] at y0 y1
        have HOV := Lib.hid hov
        clear hov hc2
        have hva := (HA.out.vok k)
        have hvb := (HB.out.vok k)
        obtain ⟨va, hv1⟩ : ∃ v, a.getD k RV.nul = v := ⟨_, rfl⟩
        obtain ⟨vb, hv2⟩ : ∃ v, b.getD k RV.nul = v := ⟨_, rfl⟩
        rw [hv1] at hva
        rw [hv2] at hvb
        have HVA := Lib.hid hva
        have HVB := Lib.hid hvb
        obtain ⟨g, o, g', o', rfl, rfl, hst⟩ := R7.start HK.out HA.out HB.out hl1 hl2 oc od
        rw [hv1, hv2] at hst
        have HST := Lib.hid hst
        obtain ⟨d, hd⟩ : ∃ d, vcmp va vb oc = d := ⟨_, rfl⟩
        have HD := Lib.hid hd
        have HS := Lib.hid (stepF_eq hv1 hv2 HOV.out)
        clear hva hvb hst hd hv1 hv2
        go_wp2_with fail
        clear y0 y1 hg2
        have h0 := HST.out.keep (Kp.refl NoB _).drew
        refine wp_region_held_drew (S := R7p g (o + k * 3) g' (o' + k * 3) wr.heap.size va vb oc od) (by kernel_rfl) h0.sp (fun hHeld => ?_)
        generalize wr.heap.size = gb at h0 hHeld ⊢
        generalize (wr.alloc (.cells #[.int .i64 oc, .bool od] 29)).drew = W0 at h0 hHeld ⊢
        refine wpAnyH_takeL (i := 0) (v := (.slice (some ⟨g, o, none⟩) n cap)) rfl (by kernel_rfl) (by kernel_rfl) (by kernel_rfl) (fun _ _ _ h => h) (Or.inl ⟨by rfl, fun w' hq => by obtain ⟨q1, q2, q3, q4, q5, q6, q7, q8⟩ := hq; go_simp⟩) h0.sp ?_
        simp only [Act.put, List.setIfInBounds_toArray, List.set_cons_zero, List.set_cons_succ]
        refine wpAnyH_takeL (i := 1) (v := (.int .i64 (k : Int))) rfl (by kernel_rfl) (by kernel_rfl) (by kernel_rfl) (fun _ _ _ h => h) (Or.inl ⟨by rfl, fun w' hq => by obtain ⟨q1, q2, q3, q4, q5, q6, q7, q8⟩ := hq; go_simp⟩) h0.sp ?_
        simp only [Act.put, List.setIfInBounds_toArray, List.set_cons_zero, List.set_cons_succ]
        refine wpAnyH_takeL (i := 2) (v := (.pointer (some ⟨g, o + k * 3, none⟩))) rfl (by kernel_rfl) (by kernel_rfl) (by kernel_rfl) (fun _ _ _ h => h) (Or.inl ⟨by rfl, fun w' hq => by obtain ⟨q1, q2, q3, q4, q5, q6, q7, q8⟩ := hq; go_simp⟩) h0.sp ?_
        simp only [Act.put, List.setIfInBounds_toArray, List.set_cons_zero, List.set_cons_succ]
        refine wpAnyH_takeL (i := 3) (v := (.agg #[.int .i64 va.k, .int .i64 va.i, .string va.s])) rfl (by kernel_rfl) (by kernel_rfl) (by kernel_rfl) (fun _ _ _ h => h) (Or.inl ⟨by rfl, fun w' hq => by obtain ⟨q1, q2, q3, q4, q5, q6, q7, q8⟩ := hq; go_simp⟩) h0.sp ?_
        simp only [Act.put, List.setIfInBounds_toArray, List.set_cons_zero, List.set_cons_succ]
        refine wpAnyH_takeL (i := 4) (v := (.slice (some ⟨g', o', none⟩) m cap')) rfl (by kernel_rfl) (by kernel_rfl) (by kernel_rfl) (fun _ _ _ h => h) (Or.inl ⟨by rfl, fun w' hq => by obtain ⟨q1, q2, q3, q4, q5, q6, q7, q8⟩ := hq; go_simp⟩) h0.sp ?_
        simp only [Act.put, List.setIfInBounds_toArray, List.set_cons_zero, List.set_cons_succ]
        refine wpAnyH_takeL (i := 5) (v := (.int .i64 (k : Int))) rfl (by kernel_rfl) (by kernel_rfl) (by kernel_rfl) (fun _ _ _ h => h) (Or.inl ⟨by rfl, fun w' hq => by obtain ⟨q1, q2, q3, q4, q5, q6, q7, q8⟩ := hq; go_simp⟩) h0.sp ?_
        simp only [Act.put, List.setIfInBounds_toArray, List.set_cons_zero, List.set_cons_succ]
        refine wpAnyH_takeL (i := 6) (v := (.pointer (some ⟨g', o' + k * 3, none⟩))) rfl (by kernel_rfl) (by kernel_rfl) (by kernel_rfl) (fun _ _ _ h => h) (Or.inl ⟨by rfl, fun w' hq => by obtain ⟨q1, q2, q3, q4, q5, q6, q7, q8⟩ := hq; go_simp⟩) h0.sp ?_
        simp only [Act.put, List.setIfInBounds_toArray, List.set_cons_zero, List.set_cons_succ]
        refine wpAnyH_takeL (i := 7) (v := (.agg #[.int .i64 vb.k, .int .i64 vb.i, .string vb.s])) rfl (by kernel_rfl) (by kernel_rfl) (by kernel_rfl) (fun _ _ _ h => h) (Or.inl ⟨by rfl, fun w' hq => by obtain ⟨q1, q2, q3, q4, q5, q6, q7, q8⟩ := hq; go_simp⟩) h0.sp ?_
        simp only [Act.put, List.setIfInBounds_toArray, List.set_cons_zero, List.set_cons_succ]
        refine wpAnyH_takeL (i := 8) (v := (.pointer (some ⟨gb, 0, none⟩))) rfl (by kernel_rfl) (by kernel_rfl) (by kernel_rfl) (fun _ _ _ h => h) (Or.inl ⟨by rfl, fun w' hq => by obtain ⟨q1, q2, q3, q4, q5, q6, q7, q8⟩ := hq; go_simp⟩) h0.sp ?_
        simp only [Act.put, List.setIfInBounds_toArray, List.set_cons_zero, List.set_cons_succ]
        refine wpAnyH_takeL (i := 9) (v := (.int .i64 oc)) rfl (by kernel_rfl) (by kernel_rfl) (by kernel_rfl) (fun _ _ _ h => h) (Or.inl ⟨by rfl, fun w' hq => by obtain ⟨q1, q2, q3, q4, q5, q6, q7, q8⟩ := hq; go_simp⟩) h0.sp ?_
        simp only [Act.put, List.setIfInBounds_toArray, List.set_cons_zero, List.set_cons_succ]
        refine wpAnyH_ready (rs := [10]) (by kernel_rfl) (by simp) ?_
        refine AllReadyH.callR (fun x W' => x = .int .i64 d ∧ R7 w g (o + k * 3) g' (o' + k * 3) gb va vb oc od W') rfl (by rfl) 14 #[.agg #[.int .i64 va.k, .int .i64 va.i, .string va.s], .agg #[.int .i64 vb.k, .int .i64 vb.i, .string vb.s], .int .i64 oc] (by go_simp) (fun _ _ q => q.2.sp) ((vcmp_ok _ va vb oc HVA.out HVB.out).mono (by rw [HD.out]; rintro e w19 ⟨rfl, hk⟩; exact ⟨_, rfl, rfl, h0.keep hk⟩)) ?_ AllReadyH.nil
        rintro _ W1 ⟨rfl, h1⟩
        simp only [Act.put, List.setIfInBounds_toArray, List.set_cons_zero, List.set_cons_succ]
        refine wpAnyH_takeL (i := 11) (v := (.int .i64 d)) rfl (by kernel_rfl) (by kernel_rfl) (by kernel_rfl) (fun _ _ _ h => h) (Or.inl ⟨by rfl, fun w' hq => by obtain ⟨q1, q2, q3, q4, q5, q6, q7, q8⟩ := hq; go_simp⟩) h1.sp ?_
        simp only [Act.put, List.setIfInBounds_toArray, List.set_cons_zero, List.set_cons_succ]
        refine wpAnyH_done (by kernel_rfl) ?_ _
        have x0 := h1.bx.cell 0
        have x1 : W1.cell? ⟨gb, 1, none⟩ = some (.bool od) := h1.bx.cell 1
        have H1 := Lib.hid h1
        clear h1 h0 hHeld x0
        rcases (HD.out ▸ vcmp_vals va vb oc : d = 0 ∨ d = -1 ∨ d = 1) with hd | hd | hd
        · subst hd
          have HJ2 : Hid (∀ j, j < k + 1 → stepF a b os j = 0) := Lib.hid (fun j hjk => by
            rcases Nat.lt_or_ge j k with q | q
            · exact HJ.out j q
            · obtain rfl : j = k := by omega
              rw [HS.out, HD.out])
          go_wp2_with fail
          exact ⟨⟨k + 1, by omega, by omega, by congr 1, H1.out.k, HJ2.out⟩, by simp [intOf]; omega⟩
        · subst hd
          have hst : stepF a b os k = -1 := by rw [HS.out, HD.out]
          have hres := rcmp_at (a := a) (b := b) (os := os) (i := k) (by rw [HA.out.len]; exact hl1) (by rw [HB.out.len]; exact hl2) HJ.out (by rw [hst]; decide)
          rw [HOV.out, hst, HR.out] at hres
          cases od
          · obtain rfl : r = -1 := by simpa using hres
            clear hst hres
            go_wp2_with fail
            go_ret
            exact ⟨rfl, H1.out.k⟩
          · obtain rfl : r = 1 := by simpa using hres
            clear hst hres
            go_wp2_with fail
            go_ret
            exact ⟨rfl, H1.out.k⟩
        · subst hd
          have hst : stepF a b os k = 1 := by rw [HS.out, HD.out]
          have hres := rcmp_at (a := a) (b := b) (os := os) (i := k) (by rw [HA.out.len]; exact hl1) (by rw [HB.out.len]; exact hl2) HJ.out (by rw [hst]; decide)
          rw [HOV.out, hst, HR.out] at hres
          cases od
          · obtain rfl : r = 1 := by simpa using hres
            clear hst hres
            go_wp2_with fail
            go_ret
            exact ⟨rfl, H1.out.k⟩
          · obtain rfl : r = -1 := by simpa using hres
            clear hst hres
            go_wp2_with fail
            go_ret
            exact ⟨rfl, H1.out.k⟩
      · obtain ⟨oc, hoc⟩ : ∃ oc : Int, oc = 0 := ⟨0, rfl⟩
        obtain ⟨od, hod⟩ : ∃ od : Bool, od = false := ⟨false, rfl⟩
        have hov : os.getD k OV.nul = ⟨oc, od⟩ := by
          rw [hoc, hod, List.getD_eq_getElem?_getD, List.getElem?_eq_none (by rw [HO.out.len]; omega)]
          rfl
        have HOV := Lib.hid hov
        clear hov
        have hva := (HA.out.vok k)
        have hvb := (HB.out.vok k)
        obtain ⟨va, hv1⟩ : ∃ v, a.getD k RV.nul = v := ⟨_, rfl⟩
        obtain ⟨vb, hv2⟩ : ∃ v, b.getD k RV.nul = v := ⟨_, rfl⟩
        rw [hv1] at hva
        rw [hv2] at hvb
        have HVA := Lib.hid hva
        have HVB := Lib.hid hvb
        obtain ⟨g, o, g', o', rfl, rfl, hst⟩ := R7.start HK.out HA.out HB.out hl1 hl2 oc od
        rw [hv1, hv2] at hst
        have HST := Lib.hid hst
        obtain ⟨d, hd⟩ : ∃ d, vcmp va vb oc = d := ⟨_, rfl⟩
        have HD := Lib.hid hd
        have HS := Lib.hid (stepF_eq hv1 hv2 HOV.out)
        clear hva hvb hst hd hv1 hv2
        subst hoc
        subst hod
        go_wp2_with fail
        have h0 := HST.out.keep (Kp.refl NoB _).drew
        refine wp_region_held_drew (S := R7p g (o + k * 3) g' (o' + k * 3) wr.heap.size va vb 0 false) (by kernel_rfl) h0.sp (fun hHeld => ?_)
        generalize wr.heap.size = gb at h0 hHeld ⊢
        generalize (wr.alloc (.cells #[.int .i64 0, .bool false] 29)).drew = W0 at h0 hHeld ⊢
        refine wpAnyH_takeL (i := 0) (v := (.slice (some ⟨g, o, none⟩) n cap)) rfl (by kernel_rfl) (by kernel_rfl) (by kernel_rfl) (fun _ _ _ h => h) (Or.inl ⟨by rfl, fun w' hq => by obtain ⟨q1, q2, q3, q4, q5, q6, q7, q8⟩ := hq; go_simp⟩) h0.sp ?_
        simp only [Act.put, List.setIfInBounds_toArray, List.set_cons_zero, List.set_cons_succ]
        refine wpAnyH_takeL (i := 1) (v := (.int .i64 (k : Int))) rfl (by kernel_rfl) (by kernel_rfl) (by kernel_rfl) (fun _ _ _ h => h) (Or.inl ⟨by rfl, fun w' hq => by obtain ⟨q1, q2, q3, q4, q5, q6, q7, q8⟩ := hq; go_simp⟩) h0.sp ?_
        simp only [Act.put, List.setIfInBounds_toArray, List.set_cons_zero, List.set_cons_succ]
        refine wpAnyH_takeL (i := 2) (v := (.pointer (some ⟨g, o + k * 3, none⟩))) rfl (by kernel_rfl) (by kernel_rfl) (by kernel_rfl) (fun _ _ _ h => h) (Or.inl ⟨by rfl, fun w' hq => by obtain ⟨q1, q2, q3, q4, q5, q6, q7, q8⟩ := hq; go_simp⟩) h0.sp ?_
        simp only [Act.put, List.setIfInBounds_toArray, List.set_cons_zero, List.set_cons_succ]
        refine wpAnyH_takeL (i := 3) (v := (.agg #[.int .i64 va.k, .int .i64 va.i, .string va.s])) rfl (by kernel_rfl) (by kernel_rfl) (by kernel_rfl) (fun _ _ _ h => h) (Or.inl ⟨by rfl, fun w' hq => by obtain ⟨q1, q2, q3, q4, q5, q6, q7, q8⟩ := hq; go_simp⟩) h0.sp ?_
        simp only [Act.put, List.setIfInBounds_toArray, List.set_cons_zero, List.set_cons_succ]
        refine wpAnyH_takeL (i := 4) (v := (.slice (some ⟨g', o', none⟩) m cap')) rfl (by kernel_rfl) (by kernel_rfl) (by kernel_rfl) (fun _ _ _ h => h) (Or.inl ⟨by rfl, fun w' hq => by obtain ⟨q1, q2, q3, q4, q5, q6, q7, q8⟩ := hq; go_simp⟩) h0.sp ?_
        simp only [Act.put, List.setIfInBounds_toArray, List.set_cons_zero, List.set_cons_succ]
        refine wpAnyH_takeL (i := 5) (v := (.int .i64 (k : Int))) rfl (by kernel_rfl) (by kernel_rfl) (by kernel_rfl) (fun _ _ _ h => h) (Or.inl ⟨by rfl, fun w' hq => by obtain ⟨q1, q2, q3, q4, q5, q6, q7, q8⟩ := hq; go_simp⟩) h0.sp ?_
        simp only [Act.put, List.setIfInBounds_toArray, List.set_cons_zero, List.set_cons_succ]
        refine wpAnyH_takeL (i := 6) (v := (.pointer (some ⟨g', o' + k * 3, none⟩))) rfl (by kernel_rfl) (by kernel_rfl) (by kernel_rfl) (fun _ _ _ h => h) (Or.inl ⟨by rfl, fun w' hq => by obtain ⟨q1, q2, q3, q4, q5, q6, q7, q8⟩ := hq; go_simp⟩) h0.sp ?_
        simp only [Act.put, List.setIfInBounds_toArray, List.set_cons_zero, List.set_cons_succ]
        refine wpAnyH_takeL (i := 7) (v := (.agg #[.int .i64 vb.k, .int .i64 vb.i, .string vb.s])) rfl (by kernel_rfl) (by kernel_rfl) (by kernel_rfl) (fun _ _ _ h => h) (Or.inl ⟨by rfl, fun w' hq => by obtain ⟨q1, q2, q3, q4, q5, q6, q7, q8⟩ := hq; go_simp⟩) h0.sp ?_
        simp only [Act.put, List.setIfInBounds_toArray, List.set_cons_zero, List.set_cons_succ]
        refine wpAnyH_takeL (i := 8) (v := (.pointer (some ⟨gb, 0, none⟩))) rfl (by kernel_rfl) (by kernel_rfl) (by kernel_rfl) (fun _ _ _ h => h) (Or.inl ⟨by rfl, fun w' hq => by obtain ⟨q1, q2, q3, q4, q5, q6, q7, q8⟩ := hq; go_simp⟩) h0.sp ?_
        simp only [Act.put, List.setIfInBounds_toArray, List.set_cons_zero, List.set_cons_succ]
        refine wpAnyH_takeL (i := 9) (v := (.int .i64 0)) rfl (by kernel_rfl) (by kernel_rfl) (by kernel_rfl) (fun _ _ _ h => h) (Or.inl ⟨by rfl, fun w' hq => by obtain ⟨q1, q2, q3, q4, q5, q6, q7, q8⟩ := hq; go_simp⟩) h0.sp ?_
        simp only [Act.put, List.setIfInBounds_toArray, List.set_cons_zero, List.set_cons_succ]
        refine wpAnyH_ready (rs := [10]) (by kernel_rfl) (by simp) ?_
        refine AllReadyH.callR (fun x W' => x = .int .i64 d ∧ R7 w g (o + k * 3) g' (o' + k * 3) gb va vb 0 false W') rfl (by rfl) 14 #[.agg #[.int .i64 va.k, .int .i64 va.i, .string va.s], .agg #[.int .i64 vb.k, .int .i64 vb.i, .string vb.s], .int .i64 0] (by go_simp) (fun _ _ q => q.2.sp) ((vcmp_ok _ va vb 0 HVA.out HVB.out).mono (by rw [HD.out]; rintro e w19 ⟨rfl, hk⟩; exact ⟨_, rfl, rfl, h0.keep hk⟩)) ?_ AllReadyH.nil
        rintro _ W1 ⟨rfl, h1⟩
        simp only [Act.put, List.setIfInBounds_toArray, List.set_cons_zero, List.set_cons_succ]
        refine wpAnyH_takeL (i := 11) (v := (.int .i64 d)) rfl (by kernel_rfl) (by kernel_rfl) (by kernel_rfl) (fun _ _ _ h => h) (Or.inl ⟨by rfl, fun w' hq => by obtain ⟨q1, q2, q3, q4, q5, q6, q7, q8⟩ := hq; go_simp⟩) h1.sp ?_
        simp only [Act.put, List.setIfInBounds_toArray, List.set_cons_zero, List.set_cons_succ]
        refine wpAnyH_done (by kernel_rfl) ?_ _
        have x0 := h1.bx.cell 0
        have x1 : W1.cell? ⟨gb, 1, none⟩ = some (.bool false) := h1.bx.cell 1
        have H1 := Lib.hid h1
        clear h1 h0 hHeld x0
        rcases (HD.out ▸ vcmp_vals va vb 0 : d = 0 ∨ d = -1 ∨ d = 1) with hd | hd | hd
        · subst hd
          have HJ2 : Hid (∀ j, j < k + 1 → stepF a b os j = 0) := Lib.hid (fun j hjk => by
            rcases Nat.lt_or_ge j k with q | q
            · exact HJ.out j q
            · obtain rfl : j = k := by omega
              rw [HS.out, HD.out])
          go_wp2_with fail
          exact ⟨⟨k + 1, by omega, by omega, by congr 1, H1.out.k, HJ2.out⟩, by simp [intOf]; omega⟩
        · subst hd
          have hst : stepF a b os k = -1 := by rw [HS.out, HD.out]
          have hres := rcmp_at (a := a) (b := b) (os := os) (i := k) (by rw [HA.out.len]; exact hl1) (by rw [HB.out.len]; exact hl2) HJ.out (by rw [hst]; decide)
          rw [HOV.out, hst, HR.out] at hres
          obtain rfl : r = -1 := by simpa using hres
          clear hst hres
          go_wp2_with fail
          go_ret
          exact ⟨rfl, H1.out.k⟩
        · subst hd
          have hst : stepF a b os k = 1 := by rw [HS.out, HD.out]
          have hres := rcmp_at (a := a) (b := b) (os := os) (i := k) (by rw [HA.out.len]; exact hl1) (by rw [HB.out.len]; exact hl2) HJ.out (by rw [hst]; decide)
          rw [HOV.out, hst, HR.out] at hres
          obtain rfl : r = 1 := by simpa using hres
          clear hst hres
          go_wp2_with fail
          go_ret
          exact ⟨rfl, H1.out.k⟩
    · have hm : ¬ (k : Int) < min (n : Int) (m : Int) := by omega
      have HE := Lib.hid ((lens HA.out.len HB.out.len hlt HJ.out).symm.trans HR.out)
      rcases (show n < m ∨ m < n ∨ n = m by omega) with hq | hq | hq
      · obtain rfl : r = -1 := by rw [← HE.out]; exact if_pos (by omega)
        have hq2 : (n : Int) < (m : Int) := by omega
        go_wp2_with fail
        go_ret
        exact ⟨rfl, HK.out⟩
      · obtain rfl : r = 1 := by rw [← HE.out]; unfold sgc; rw [if_neg (by omega), if_pos (by omega)]
        have hq2 : ¬ (n : Int) < (m : Int) := by omega
        have hq3 : (m : Int) < (n : Int) := by omega
        go_wp2_with fail
        go_ret
        exact ⟨rfl, HK.out⟩
      · obtain rfl : r = 0 := by rw [← HE.out]; unfold sgc; rw [if_neg (by omega), if_neg (by omega)]
        have hq2 : ¬ (n : Int) < (m : Int) := by omega
        have hq3 : ¬ (m : Int) < (n : Int) := by omega
        clear hq
        go_wp2_with fail
        go_ret
        exact ⟨rfl, HK.out⟩
set_option maxRecDepth 100000 in
set_option maxHeartbeats 6400000 in
theorem rcmp_ok (w : World) (A B C : Option Addr) (n m p cap cap' cap2 : Nat) (a b : List RV) (os : List OV) (hn : n ≤ 9223372036854775807) (hm0 : m ≤ 9223372036854775807) (hp : p ≤ 9223372036854775807) (hA : Rw w A n a) (hB : Rw w B m b) (hO : Ow w C p os) :
    Calls Tryd.prog 7 #[.slice A n cap, .slice B m cap', .slice C p cap2] w fun e w' => e = .returned (.int .i64 (rcmp a b os)) ∧ Kp NoB w w' := by
  have HA := Lib.hid hA
  have HB := Lib.hid hB
  have HO := Lib.hid hO
  clear hA hB hO
  obtain ⟨r, hr⟩ : ∃ r, rcmp a b os = r := ⟨_, rfl⟩
  have HR := Lib.hid hr
  rw [hr]
  clear hr
  go_enter Tryd.func7, Tryd.ntmps7
  go_wp2_with fail
  go_loopw [7] (fun i wr => ∃ k : Nat, k ≤ n ∧ k ≤ m ∧ i = .int .i64 k ∧ Kp NoB w wr ∧ ∀ j, j < k → stepF a b os j = 0) (fun i _ => n - (intOf i).toNat)
  case atStart => exact ⟨0, by omega, by omega, rfl, Kp.refl _ _, fun j hj => by omega⟩
  case round =>
    obtain ⟨k, hkx, hky, rfl, hkp, hj⟩ := hrel
    have HK := Lib.hid hkp
    have HJ := Lib.hid hj
    clear hkp hj
    by_cases hlt : k < n ∧ k < m
    · obtain ⟨hl1, hl2⟩ := hlt
      have hm : (k : Int) < min (n : Int) (m : Int) := by omega
      by_cases hkp : k < p
      · obtain ⟨g2, o2, rfl, hg2, hc2⟩ := (HO.out.keep HK.out).at_ (by omega)
        obtain ⟨y0, y1⟩ := hc2 k hkp
        obtain ⟨⟨oc, od⟩, hov⟩ : ∃ ov, os.getD k OV.nul = ov := ⟨_, rfl⟩
        rw [hov] at y0 y1
        have HOV := Lib.hid hov
        clear hov hc2
        have hva := (HA.out.vok k)
        have hvb := (HB.out.vok k)
        obtain ⟨va, hv1⟩ : ∃ v, a.getD k RV.nul = v := ⟨_, rfl⟩
        obtain ⟨vb, hv2⟩ : ∃ v, b.getD k RV.nul = v := ⟨_, rfl⟩
        rw [hv1] at hva
        rw [hv2] at hvb
        have HVA := Lib.hid hva
        have HVB := Lib.hid hvb
        obtain ⟨g, o, g', o', rfl, rfl, hst⟩ := R7.start HK.out HA.out HB.out hl1 hl2 oc od
        rw [hv1, hv2] at hst
        have HST := Lib.hid hst
        obtain ⟨d, hd⟩ : ∃ d, vcmp va vb oc = d := ⟨_, rfl⟩
        have HD := Lib.hid hd
        have HS := Lib.hid (stepF_eq hv1 hv2 HOV.out)
        clear hva hvb hst hd hv1 hv2
        go_wp2_with fail
        clear y0 y1 hg2
        have h0 := HST.out.keep (Kp.refl NoB _).drew
        refine wp_region_held_drew (S := R7p g (o + k * 3) g' (o' + k * 3) wr.heap.size va vb oc od) (by kernel_rfl) h0.sp (fun hHeld => ?_)
        generalize wr.heap.size = gb at h0 hHeld ⊢
        generalize (wr.alloc (.cells #[.int .i64 oc, .bool od] 29)).drew = W0 at h0 hHeld ⊢
        refine wpAnyH_takeL (i := 0) (v := (.slice (some ⟨g, o, none⟩) n cap)) rfl (by kernel_rfl) (by kernel_rfl) (by kernel_rfl) (fun _ _ _ h => h) (Or.inl ⟨by rfl, fun w' hq => by obtain ⟨q1, q2, q3, q4, q5, q6, q7, q8⟩ := hq; go_simp⟩) h0.sp ?_
        simp only [Act.put, List.setIfInBounds_toArray, List.set_cons_zero, List.set_cons_succ]
        refine wpAnyH_takeL (i := 1) (v := (.int .i64 (k : Int))) rfl (by kernel_rfl) (by kernel_rfl) (by kernel_rfl) (fun _ _ _ h => h) (Or.inl ⟨by rfl, fun w' hq => by obtain ⟨q1, q2, q3, q4, q5, q6, q7, q8⟩ := hq; go_simp⟩) h0.sp ?_
        simp only [Act.put, List.setIfInBounds_toArray, List.set_cons_zero, List.set_cons_succ]
        refine wpAnyH_takeL (i := 2) (v := (.pointer (some ⟨g, o + k * 3, none⟩))) rfl (by kernel_rfl) (by kernel_rfl) (by kernel_rfl) (fun _ _ _ h => h) (Or.inl ⟨by rfl, fun w' hq => by obtain ⟨q1, q2, q3, q4, q5, q6, q7, q8⟩ := hq; go_simp⟩) h0.sp ?_
        simp only [Act.put, List.setIfInBounds_toArray, List.set_cons_zero, List.set_cons_succ]
        refine wpAnyH_takeL (i := 3) (v := (.agg #[.int .i64 va.k, .int .i64 va.i, .string va.s])) rfl (by kernel_rfl) (by kernel_rfl) (by kernel_rfl) (fun _ _ _ h => h) (Or.inl ⟨by rfl, fun w' hq => by obtain ⟨q1, q2, q3, q4, q5, q6, q7, q8⟩ := hq; go_simp⟩) h0.sp ?_
        simp only [Act.put, List.setIfInBounds_toArray, List.set_cons_zero, List.set_cons_succ]
        refine wpAnyH_takeL (i := 4) (v := (.slice (some ⟨g', o', none⟩) m cap')) rfl (by kernel_rfl) (by kernel_rfl) (by kernel_rfl) (fun _ _ _ h => h) (Or.inl ⟨by rfl, fun w' hq => by obtain ⟨q1, q2, q3, q4, q5, q6, q7, q8⟩ := hq; go_simp⟩) h0.sp ?_
        simp only [Act.put, List.setIfInBounds_toArray, List.set_cons_zero, List.set_cons_succ]
        refine wpAnyH_takeL (i := 5) (v := (.int .i64 (k : Int))) rfl (by kernel_rfl) (by kernel_rfl) (by kernel_rfl) (fun _ _ _ h => h) (Or.inl ⟨by rfl, fun w' hq => by obtain ⟨q1, q2, q3, q4, q5, q6, q7, q8⟩ := hq; go_simp⟩) h0.sp ?_
        simp only [Act.put, List.setIfInBounds_toArray, List.set_cons_zero, List.set_cons_succ]
        refine wpAnyH_takeL (i := 6) (v := (.pointer (some ⟨g', o' + k * 3, none⟩))) rfl (by kernel_rfl) (by kernel_rfl) (by kernel_rfl) (fun _ _ _ h => h) (Or.inl ⟨by rfl, fun w' hq => by obtain ⟨q1, q2, q3, q4, q5, q6, q7, q8⟩ := hq; go_simp⟩) h0.sp ?_
        simp only [Act.put, List.setIfInBounds_toArray, List.set_cons_zero, List.set_cons_succ]
        refine wpAnyH_takeL (i := 7) (v := (.agg #[.int .i64 vb.k, .int .i64 vb.i, .string vb.s])) rfl (by kernel_rfl) (by kernel_rfl) (by kernel_rfl) (fun _ _ _ h => h) (Or.inl ⟨by rfl, fun w' hq => by obtain ⟨q1, q2, q3, q4, q5, q6, q7, q8⟩ := hq; go_simp⟩) h0.sp ?_
        simp only [Act.put, List.setIfInBounds_toArray, List.set_cons_zero, List.set_cons_succ]
        refine wpAnyH_takeL (i := 8) (v := (.pointer (some ⟨gb, 0, none⟩))) rfl (by kernel_rfl) (by kernel_rfl) (by kernel_rfl) (fun _ _ _ h => h) (Or.inl ⟨by rfl, fun w' hq => by obtain ⟨q1, q2, q3, q4, q5, q6, q7, q8⟩ := hq; go_simp⟩) h0.sp ?_
        simp only [Act.put, List.setIfInBounds_toArray, List.set_cons_zero, List.set_cons_succ]
        refine wpAnyH_takeL (i := 9) (v := (.int .i64 oc)) rfl (by kernel_rfl) (by kernel_rfl) (by kernel_rfl) (fun _ _ _ h => h) (Or.inl ⟨by rfl, fun w' hq => by obtain ⟨q1, q2, q3, q4, q5, q6, q7, q8⟩ := hq; go_simp⟩) h0.sp ?_
        simp only [Act.put, List.setIfInBounds_toArray, List.set_cons_zero, List.set_cons_succ]
        refine wpAnyH_ready (rs := [10]) (by kernel_rfl) (by simp) ?_
        refine AllReadyH.callR (fun x W' => x = .int .i64 d ∧ R7 w g (o + k * 3) g' (o' + k * 3) gb va vb oc od W') rfl (by rfl) 15 #[.agg #[.int .i64 va.k, .int .i64 va.i, .string va.s], .agg #[.int .i64 vb.k, .int .i64 vb.i, .string vb.s], .int .i64 oc] (by go_simp) (fun _ _ q => q.2.sp) ((rvcmp_ok _ va vb oc HVA.out HVB.out).mono (by rw [HD.out]; rintro e w19 ⟨rfl, hk⟩; exact ⟨_, rfl, rfl, h0.keep hk⟩)) ?_ AllReadyH.nil
        rintro _ W1 ⟨rfl, h1⟩
        simp only [Act.put, List.setIfInBounds_toArray, List.set_cons_zero, List.set_cons_succ]
        refine wpAnyH_takeL (i := 11) (v := (.int .i64 d)) rfl (by kernel_rfl) (by kernel_rfl) (by kernel_rfl) (fun _ _ _ h => h) (Or.inl ⟨by rfl, fun w' hq => by obtain ⟨q1, q2, q3, q4, q5, q6, q7, q8⟩ := hq; go_simp⟩) h1.sp ?_
        simp only [Act.put, List.setIfInBounds_toArray, List.set_cons_zero, List.set_cons_succ]
        refine wpAnyH_done (by kernel_rfl) ?_ _
        have x0 := h1.bx.cell 0
        have x1 : W1.cell? ⟨gb, 1, none⟩ = some (.bool od) := h1.bx.cell 1
        have H1 := Lib.hid h1
        clear h1 h0 hHeld x0
        rcases (HD.out ▸ vcmp_vals va vb oc : d = 0 ∨ d = -1 ∨ d = 1) with hd | hd | hd
        · subst hd
          have HJ2 : Hid (∀ j, j < k + 1 → stepF a b os j = 0) := Lib.hid (fun j hjk => by
            rcases Nat.lt_or_ge j k with q | q
            · exact HJ.out j q
            · obtain rfl : j = k := by omega
              rw [HS.out, HD.out])
          go_wp2_with fail
          exact ⟨⟨k + 1, by omega, by omega, by congr 1, H1.out.k, HJ2.out⟩, by simp [intOf]; omega⟩
        · subst hd
          have hst : stepF a b os k = -1 := by rw [HS.out, HD.out]
          have hres := rcmp_at (a := a) (b := b) (os := os) (i := k) (by rw [HA.out.len]; exact hl1) (by rw [HB.out.len]; exact hl2) HJ.out (by rw [hst]; decide)
          rw [HOV.out, hst, HR.out] at hres
          cases od
          · obtain rfl : r = -1 := by simpa using hres
            clear hst hres
            go_wp2_with fail
            go_ret
            exact ⟨rfl, H1.out.k⟩
          · obtain rfl : r = 1 := by simpa using hres
            clear hst hres
            go_wp2_with fail
            go_ret
            exact ⟨rfl, H1.out.k⟩
        · subst hd
          have hst : stepF a b os k = 1 := by rw [HS.out, HD.out]
          have hres := rcmp_at (a := a) (b := b) (os := os) (i := k) (by rw [HA.out.len]; exact hl1) (by rw [HB.out.len]; exact hl2) HJ.out (by rw [hst]; decide)
          rw [HOV.out, hst, HR.out] at hres
          cases od
          · obtain rfl : r = 1 := by simpa using hres
            clear hst hres
            go_wp2_with fail
            go_ret
            exact ⟨rfl, H1.out.k⟩
          · obtain rfl : r = -1 := by simpa using hres
            clear hst hres
            go_wp2_with fail
            go_ret
            exact ⟨rfl, H1.out.k⟩
      · obtain ⟨oc, hoc⟩ : ∃ oc : Int, oc = 0 := ⟨0, rfl⟩
        obtain ⟨od, hod⟩ : ∃ od : Bool, od = false := ⟨false, rfl⟩
        have hov : os.getD k OV.nul = ⟨oc, od⟩ := by
          rw [hoc, hod, List.getD_eq_getElem?_getD, List.getElem?_eq_none (by rw [HO.out.len]; omega)]
          rfl
        have HOV := Lib.hid hov
        clear hov
        have hva := (HA.out.vok k)
        have hvb := (HB.out.vok k)
        obtain ⟨va, hv1⟩ : ∃ v, a.getD k RV.nul = v := ⟨_, rfl⟩
        obtain ⟨vb, hv2⟩ : ∃ v, b.getD k RV.nul = v := ⟨_, rfl⟩
        rw [hv1] at hva
        rw [hv2] at hvb
        have HVA := Lib.hid hva
        have HVB := Lib.hid hvb
        obtain ⟨g, o, g', o', rfl, rfl, hst⟩ := R7.start HK.out HA.out HB.out hl1 hl2 oc od
        rw [hv1, hv2] at hst
        have HST := Lib.hid hst
        obtain ⟨d, hd⟩ : ∃ d, vcmp va vb oc = d := ⟨_, rfl⟩
        have HD := Lib.hid hd
        have HS := Lib.hid (stepF_eq hv1 hv2 HOV.out)
        clear hva hvb hst hd hv1 hv2
        subst hoc
        subst hod
        go_wp2_with fail
        have h0 := HST.out.keep (Kp.refl NoB _).drew
        refine wp_region_held_drew (S := R7p g (o + k * 3) g' (o' + k * 3) wr.heap.size va vb 0 false) (by kernel_rfl) h0.sp (fun hHeld => ?_)
        generalize wr.heap.size = gb at h0 hHeld ⊢
        generalize (wr.alloc (.cells #[.int .i64 0, .bool false] 29)).drew = W0 at h0 hHeld ⊢
        refine wpAnyH_takeL (i := 0) (v := (.slice (some ⟨g, o, none⟩) n cap)) rfl (by kernel_rfl) (by kernel_rfl) (by kernel_rfl) (fun _ _ _ h => h) (Or.inl ⟨by rfl, fun w' hq => by obtain ⟨q1, q2, q3, q4, q5, q6, q7, q8⟩ := hq; go_simp⟩) h0.sp ?_
        simp only [Act.put, List.setIfInBounds_toArray, List.set_cons_zero, List.set_cons_succ]
        refine wpAnyH_takeL (i := 1) (v := (.int .i64 (k : Int))) rfl (by kernel_rfl) (by kernel_rfl) (by kernel_rfl) (fun _ _ _ h => h) (Or.inl ⟨by rfl, fun w' hq => by obtain ⟨q1, q2, q3, q4, q5, q6, q7, q8⟩ := hq; go_simp⟩) h0.sp ?_
        simp only [Act.put, List.setIfInBounds_toArray, List.set_cons_zero, List.set_cons_succ]
        refine wpAnyH_takeL (i := 2) (v := (.pointer (some ⟨g, o + k * 3, none⟩))) rfl (by kernel_rfl) (by kernel_rfl) (by kernel_rfl) (fun _ _ _ h => h) (Or.inl ⟨by rfl, fun w' hq => by obtain ⟨q1, q2, q3, q4, q5, q6, q7, q8⟩ := hq; go_simp⟩) h0.sp ?_
        simp only [Act.put, List.setIfInBounds_toArray, List.set_cons_zero, List.set_cons_succ]
        refine wpAnyH_takeL (i := 3) (v := (.agg #[.int .i64 va.k, .int .i64 va.i, .string va.s])) rfl (by kernel_rfl) (by kernel_rfl) (by kernel_rfl) (fun _ _ _ h => h) (Or.inl ⟨by rfl, fun w' hq => by obtain ⟨q1, q2, q3, q4, q5, q6, q7, q8⟩ := hq; go_simp⟩) h0.sp ?_
        simp only [Act.put, List.setIfInBounds_toArray, List.set_cons_zero, List.set_cons_succ]
        refine wpAnyH_takeL (i := 4) (v := (.slice (some ⟨g', o', none⟩) m cap')) rfl (by kernel_rfl) (by kernel_rfl) (by kernel_rfl) (fun _ _ _ h => h) (Or.inl ⟨by rfl, fun w' hq => by obtain ⟨q1, q2, q3, q4, q5, q6, q7, q8⟩ := hq; go_simp⟩) h0.sp ?_
        simp only [Act.put, List.setIfInBounds_toArray, List.set_cons_zero, List.set_cons_succ]
        refine wpAnyH_takeL (i := 5) (v := (.int .i64 (k : Int))) rfl (by kernel_rfl) (by kernel_rfl) (by kernel_rfl) (fun _ _ _ h => h) (Or.inl ⟨by rfl, fun w' hq => by obtain ⟨q1, q2, q3, q4, q5, q6, q7, q8⟩ := hq; go_simp⟩) h0.sp ?_
        simp only [Act.put, List.setIfInBounds_toArray, List.set_cons_zero, List.set_cons_succ]
        refine wpAnyH_takeL (i := 6) (v := (.pointer (some ⟨g', o' + k * 3, none⟩))) rfl (by kernel_rfl) (by kernel_rfl) (by kernel_rfl) (fun _ _ _ h => h) (Or.inl ⟨by rfl, fun w' hq => by obtain ⟨q1, q2, q3, q4, q5, q6, q7, q8⟩ := hq; go_simp⟩) h0.sp ?_
        simp only [Act.put, List.setIfInBounds_toArray, List.set_cons_zero, List.set_cons_succ]
        refine wpAnyH_takeL (i := 7) (v := (.agg #[.int .i64 vb.k, .int .i64 vb.i, .string vb.s])) rfl (by kernel_rfl) (by kernel_rfl) (by kernel_rfl) (fun _ _ _ h => h) (Or.inl ⟨by rfl, fun w' hq => by obtain ⟨q1, q2, q3, q4, q5, q6, q7, q8⟩ := hq; go_simp⟩) h0.sp ?_
        simp only [Act.put, List.setIfInBounds_toArray, List.set_cons_zero, List.set_cons_succ]
        refine wpAnyH_takeL (i := 8) (v := (.pointer (some ⟨gb, 0, none⟩))) rfl (by kernel_rfl) (by kernel_rfl) (by kernel_rfl) (fun _ _ _ h => h) (Or.inl ⟨by rfl, fun w' hq => by obtain ⟨q1, q2, q3, q4, q5, q6, q7, q8⟩ := hq; go_simp⟩) h0.sp ?_
        simp only [Act.put, List.setIfInBounds_toArray, List.set_cons_zero, List.set_cons_succ]
        refine wpAnyH_takeL (i := 9) (v := (.int .i64 0)) rfl (by kernel_rfl) (by kernel_rfl) (by kernel_rfl) (fun _ _ _ h => h) (Or.inl ⟨by rfl, fun w' hq => by obtain ⟨q1, q2, q3, q4, q5, q6, q7, q8⟩ := hq; go_simp⟩) h0.sp ?_
        simp only [Act.put, List.setIfInBounds_toArray, List.set_cons_zero, List.set_cons_succ]
        refine wpAnyH_ready (rs := [10]) (by kernel_rfl) (by simp) ?_
        refine AllReadyH.callR (fun x W' => x = .int .i64 d ∧ R7 w g (o + k * 3) g' (o' + k * 3) gb va vb 0 false W') rfl (by rfl) 15 #[.agg #[.int .i64 va.k, .int .i64 va.i, .string va.s], .agg #[.int .i64 vb.k, .int .i64 vb.i, .string vb.s], .int .i64 0] (by go_simp) (fun _ _ q => q.2.sp) ((rvcmp_ok _ va vb 0 HVA.out HVB.out).mono (by rw [HD.out]; rintro e w19 ⟨rfl, hk⟩; exact ⟨_, rfl, rfl, h0.keep hk⟩)) ?_ AllReadyH.nil
        rintro _ W1 ⟨rfl, h1⟩
        simp only [Act.put, List.setIfInBounds_toArray, List.set_cons_zero, List.set_cons_succ]
        refine wpAnyH_takeL (i := 11) (v := (.int .i64 d)) rfl (by kernel_rfl) (by kernel_rfl) (by kernel_rfl) (fun _ _ _ h => h) (Or.inl ⟨by rfl, fun w' hq => by obtain ⟨q1, q2, q3, q4, q5, q6, q7, q8⟩ := hq; go_simp⟩) h1.sp ?_
        simp only [Act.put, List.setIfInBounds_toArray, List.set_cons_zero, List.set_cons_succ]
        refine wpAnyH_done (by kernel_rfl) ?_ _
        have x0 := h1.bx.cell 0
        have x1 : W1.cell? ⟨gb, 1, none⟩ = some (.bool false) := h1.bx.cell 1
        have H1 := Lib.hid h1
        clear h1 h0 hHeld x0
        rcases (HD.out ▸ vcmp_vals va vb 0 : d = 0 ∨ d = -1 ∨ d = 1) with hd | hd | hd
        · subst hd
          have HJ2 : Hid (∀ j, j < k + 1 → stepF a b os j = 0) := Lib.hid (fun j hjk => by
            rcases Nat.lt_or_ge j k with q | q
            · exact HJ.out j q
            · obtain rfl : j = k := by omega
              rw [HS.out, HD.out])
          go_wp2_with fail
          exact ⟨⟨k + 1, by omega, by omega, by congr 1, H1.out.k, HJ2.out⟩, by simp [intOf]; omega⟩
        · subst hd
          have hst : stepF a b os k = -1 := by rw [HS.out, HD.out]
          have hres := rcmp_at (a := a) (b := b) (os := os) (i := k) (by rw [HA.out.len]; exact hl1) (by rw [HB.out.len]; exact hl2) HJ.out (by rw [hst]; decide)
          rw [HOV.out, hst, HR.out] at hres
          obtain rfl : r = -1 := by simpa using hres
          clear hst hres
          go_wp2_with fail
          go_ret
          exact ⟨rfl, H1.out.k⟩
        · subst hd
          have hst : stepF a b os k = 1 := by rw [HS.out, HD.out]
          have hres := rcmp_at (a := a) (b := b) (os := os) (i := k) (by rw [HA.out.len]; exact hl1) (by rw [HB.out.len]; exact hl2) HJ.out (by rw [hst]; decide)
          rw [HOV.out, hst, HR.out] at hres
          obtain rfl : r = 1 := by simpa using hres
          clear hst hres
          go_wp2_with fail
          go_ret
          exact ⟨rfl, H1.out.k⟩
    · have hm : ¬ (k : Int) < min (n : Int) (m : Int) := by omega
      have HE := Lib.hid ((lens HA.out.len HB.out.len hlt HJ.out).symm.trans HR.out)
      rcases (show (¬ k < n) ∨ (k < n ∧ ¬ k < m) by omega) with hz | ⟨hz1, hz2⟩
      · have hzd : decide (k < n) = false := decide_eq_false hz
        rcases (show n < m ∨ m < n ∨ n = m by omega) with hq | hq | hq
        · obtain rfl : r = -1 := by rw [← HE.out]; exact if_pos (by omega)
          have hq2 : (n : Int) < (m : Int) := by omega
          go_wp2_with fail
          go_ret
          exact ⟨rfl, HK.out⟩
        · obtain rfl : r = 1 := by rw [← HE.out]; unfold sgc; rw [if_neg (by omega), if_pos (by omega)]
          have hq2 : ¬ (n : Int) < (m : Int) := by omega
          have hq3 : (m : Int) < (n : Int) := by omega
          go_wp2_with fail
          go_ret
          exact ⟨rfl, HK.out⟩
        · obtain rfl : r = 0 := by rw [← HE.out]; unfold sgc; rw [if_neg (by omega), if_neg (by omega)]
          have hq2 : ¬ (n : Int) < (m : Int) := by omega
          have hq3 : ¬ (m : Int) < (n : Int) := by omega
          clear hq
          go_wp2_with fail
          go_ret
          exact ⟨rfl, HK.out⟩
      · have hzd : decide (k < m) = false := decide_eq_false hz2
        rcases (show n < m ∨ m < n ∨ n = m by omega) with hq | hq | hq
        · obtain rfl : r = -1 := by rw [← HE.out]; exact if_pos (by omega)
          have hq2 : (n : Int) < (m : Int) := by omega
          go_wp2_with fail
          go_ret
          exact ⟨rfl, HK.out⟩
        · obtain rfl : r = 1 := by rw [← HE.out]; unfold sgc; rw [if_neg (by omega), if_pos (by omega)]
          have hq2 : ¬ (n : Int) < (m : Int) := by omega
          have hq3 : (m : Int) < (n : Int) := by omega
          go_wp2_with fail
          go_ret
          exact ⟨rfl, HK.out⟩
        · obtain rfl : r = 0 := by rw [← HE.out]; unfold sgc; rw [if_neg (by omega), if_neg (by omega)]
          have hq2 : ¬ (n : Int) < (m : Int) := by omega
          have hq3 : ¬ (m : Int) < (n : Int) := by omega
          clear hq
          go_wp2_with fail
          go_ret
          exact ⟨rfl, HK.out⟩
end Go.Proofs.YtlcefenjlchaiaaDoor
