/- PageForm: the walk of the law; no condition. -/
import Derived.Test.YtnleoeogcinadaaPgFormS
namespace Go.Proofs.Ytnleoeogcinadaa
open Go.RowKit
attribute [local go_sem ↓] load26 store26 alloc26 build26 slice26lo eql26 neq26
attribute [local go_sem] size_setCells

set_option maxRecDepth 100000 in
set_option maxHeartbeats 8000000 in
theorem form_ok (w : World) (l : List Int) (hB : Bytes l) (i : Int) (c : ByteArray) (hcz : c.size ≤ 9223372036854775807) (n : Int) :
    Calls Try.prog 7 #[.agg (bytesV l), .int .i64 i, .string c, .int .i64 n] w fun e w' => e = .returned (.bool true) ∧ Kp NoB w w' := by
  have HB := Lib.hid hB
  have HCZ := Lib.hid hcz
  have l256 := hB.len
  have lsz : (bytesV l).size = 256 := by rw [bytesV_size, l256]
  have lon := bytesV_one l
  have lpg := pgOK_bytes l l256
  have zsz := zero256_size
  have zon := zero256_one
  have hi1 : (Try.prog.info? 26).map (·.size) = some (l.map (Value.int .u8)).length := by rw [List.length_map, hB.len]; exact info26
  have hi2 : (Try.prog.info? 26).map (·.size) = some (bytesV l).size := by rw [lsz]; exact info26
  have hu26 := Try.underlying26
  have hb0 := Blk.new w 26 (bytesV l)
  have HB0 := Lib.hid hb0
  have t1 := hb0.thereAll 256 lsz
  have r1 := hb0.readAll 256 lsz
  clear hB hb0 hcz
  rcases hr : readF l with _ | ⟨k, lk, cs⟩
  · have HR := Lib.hid hr
    clear hr
    go_enter Try.func7, Try.ntmps7
    go_wp2_with (first
      | (go_at_call 13; go_must (refine (Check_ok _ l HB.out).mono ?_); rw [HR.out]; rintro e w2 ⟨rfl, hk⟩; have HB2 := Lib.hid (HB0.out.keep hk (fun q => q)); have HK2 := Lib.hid (((Kp.refl NoB w).alloc (.cells (bytesV l) 26)).trans hk (fun _ _ q => q)); have t2 := HB2.out.thereAll 256 lsz; have r2 := HB2.out.readAll 256 lsz; have hch : checkF none = 8 := rfl; clear hk)
      | (go_at_call 15; go_must (refine (Count_ok _ l HB.out).mono ?_); rw [HR.out]; rintro e w3 ⟨rfl, hk⟩; have HK3 := Lib.hid (HK2.out.trans hk (fun _ _ q => q)); have hco : countF none = 0 := rfl; clear hk)
      | (go_at_call 8; go_must (refine (awake_ok _).mono ?_); rintro e w99 ⟨rfl, hk9⟩; have HK9 := Lib.hid hk9; clear hk9))
    go_ret
    exact ⟨rfl, HK3.out.trans HK9.out (fun _ _ q => q)⟩
  · have HR := Lib.hid hr
    have HFA := Lib.hid (readF_facts HB.out hr)
    have HNW := Lib.hid (new_same HB.out hr)
    clear hr
    obtain ⟨X, ex, hX, pgX⟩ := insg_page l i c
    have HX := Lib.hid hX
    obtain ⟨sX, oX, pX⟩ := pgX
    clear hX
    go_enter Try.func7, Try.ntmps7
    go_wp2_with (first
      | (go_at_call 13; go_must (refine (Check_ok _ l HB.out).mono ?_); rw [HR.out]; rintro e w2 ⟨rfl, hk⟩; have HB2 := Lib.hid (HB0.out.keep hk (fun q => q)); have HK2 := Lib.hid (((Kp.refl NoB w).alloc (.cells (bytesV l) 26)).trans hk (fun _ _ q => q)); have t2 := HB2.out.thereAll 256 lsz; have r2 := HB2.out.readAll 256 lsz; have hch : checkF (some (k, lk, cs)) = 0 := rfl; clear hk)
      | (go_at_call 29; go_must (refine (cellsL_ok _ l HB.out cs (by rw [HR.out]; rfl) HFA.out.1).mono ?_); rintro e w3 ⟨A, cap, rfl, hs, hk⟩; have HRF := Lib.hid (show RF w l A cs none w3 from ⟨HK2.out.trans hk (fun _ _ q => q), HB2.out.keep hk (fun q => q), hs, (fun _ e => nomatch e)⟩); clear hk hs))
    apply wp_into (G := fun W' g => Pgs w [(g, bytesV l), (w.heap.size, bytesV l)] W')
    · have h0 := HRF.out.keep (Kp.refl NoB w3).drew
      refine wp_region_held_drew (S := RFp w l) (by kernel_rfl) h0.sp (fun hHeld => ?_)
      generalize w3.drew = W0 at h0 hHeld ⊢
      refine wpAnyH_takeL (i := 0) (v := .agg (bytesV l)) rfl (by kernel_rfl) (by kernel_rfl) (by kernel_rfl) (fun _ _ _ h => h) (yieldsIf_load_mid (by rfl) _ _ rfl _ _ rfl (l.map (Value.int .u8)) _ (fun _ q => q) hu26 rfl hi1) h0.sp ?_
      simp only [Act.put, List.setIfInBounds_toArray, List.set_cons_zero, List.set_cons_succ]
      refine wpAnyH_takeL (i := 2) (v := .agg (bytesV l)) rfl (by kernel_rfl) (by kernel_rfl) (by kernel_rfl) (fun _ _ _ h => h) (yieldsIf_load_mid (by rfl) _ _ rfl _ _ rfl (l.map (Value.int .u8)) _ (fun _ q => q) hu26 rfl hi1) h0.sp ?_
      simp only [Act.put, List.setIfInBounds_toArray, List.set_cons_zero, List.set_cons_succ]
      refine wpAnyH_takeL (i := 4) (v := (.slice A cs.length cap)) rfl (by kernel_rfl) (by kernel_rfl) (by kernel_rfl) (fun _ _ _ h => h) (Or.inl ⟨by rfl, fun w' hq => by go_simp⟩) h0.sp ?_
      simp only [Act.put, List.setIfInBounds_toArray, List.set_cons_zero, List.set_cons_succ]
      refine wpAnyH_ready (rs := [1, 9]) (by kernel_rfl) (by simp) ?_
      refine AllReadyH.callR (fun x W' => x = (.int .u8 k) ∧ RF w l A cs none W') rfl (by rfl) 14 #[.agg (bytesV l)] (by go_simp) (fun _ _ q => q.2.sp) ((Kind_ok W0 l HB.out).mono (by rintro e w9 ⟨rfl, hk⟩; exact ⟨_, rfl, by rw [HR.out]; rfl, h0.keep hk⟩)) ?_ (AllReadyH.valR (fun W' => RF w l A cs (some W0.heap.size) W') rfl (by rfl) (.pointer (some ⟨W0.heap.size, 0, none⟩)) (W0.alloc (.cells zero256 26)) (by go_simp) (fun _ q => q.sp) h0.alloc ?_ AllReadyH.nil)
      · rintro _ W1 ⟨rfl, h1⟩
        simp only [Act.put, List.setIfInBounds_toArray, List.set_cons_zero, List.set_cons_succ]
        refine wpAnyH_ready (rs := [3, 9]) (by kernel_rfl) (by simp) ?_
        refine AllReadyH.callR (fun x W' => x = (.int .u32 lk) ∧ RF w l A cs none W') rfl (by rfl) 16 #[.agg (bytesV l)] (by go_simp) (fun _ _ q => q.2.sp) ((Link_ok W1 l HB.out).mono (by rintro e w9 ⟨rfl, hk⟩; exact ⟨_, rfl, by rw [HR.out]; rfl, h1.keep hk⟩)) ?_ (AllReadyH.valR (fun W' => RF w l A cs (some W1.heap.size) W') rfl (by rfl) (.pointer (some ⟨W1.heap.size, 0, none⟩)) (W1.alloc (.cells zero256 26)) (by go_simp) (fun _ q => q.sp) h1.alloc ?_ AllReadyH.nil)
        · rintro _ W3 ⟨rfl, h3⟩
          simp only [Act.put, List.setIfInBounds_toArray, List.set_cons_zero, List.set_cons_succ]
          refine wpAnyH_ready (rs := [5, 9]) (by kernel_rfl) (by simp) ?_
          refine AllReadyH.callR (fun x W' => x = (.tuple #[.agg (bytesV l), .int .i64 0]) ∧ RF w l A cs none W') rfl (by rfl) 9 #[.int .u8 k, .int .u32 lk, .slice A cs.length cap] (by go_simp) (fun _ _ q => q.2.sp) ((new_ok W3 k lk A cs.length cap cs (by have := HFA.out.1; omega) (fun c hc => by have := (HFA.out.2.1 c hc).2; omega) h3.sl).mono (by rintro e w9 ⟨rfl, hk⟩; exact ⟨_, rfl, by rw [HNW.out], h3.keep hk⟩)) ?_ (AllReadyH.valR (fun W' => RF w l A cs (some W3.heap.size) W') rfl (by rfl) (.pointer (some ⟨W3.heap.size, 0, none⟩)) (W3.alloc (.cells zero256 26)) (by go_simp) (fun _ q => q.sp) h3.alloc ?_ AllReadyH.nil)
          · rintro _ W5 ⟨rfl, h5⟩
            simp only [Act.put, List.setIfInBounds_toArray, List.set_cons_zero, List.set_cons_succ]
            refine wpAnyH_takeL (i := 6) (v := (.tuple #[.agg (bytesV l), .int .i64 0])) rfl (by kernel_rfl) (by kernel_rfl) (by kernel_rfl) (fun _ _ _ h => h) (Or.inl ⟨by rfl, fun w' hq => by go_simp⟩) h5.sp ?_
            simp only [Act.put, List.setIfInBounds_toArray, List.set_cons_zero, List.set_cons_succ]
            refine wpAnyH_takeL (i := 7) (v := (.agg (bytesV l))) rfl (by kernel_rfl) (by kernel_rfl) (by kernel_rfl) (fun _ _ _ h => h) (Or.inl ⟨by rfl, fun w' hq => by go_simp⟩) h5.sp ?_
            simp only [Act.put, List.setIfInBounds_toArray, List.set_cons_zero, List.set_cons_succ]
            refine wpAnyH_takeL (i := 8) (v := (.int .i64 0)) rfl (by kernel_rfl) (by kernel_rfl) (by kernel_rfl) (fun _ _ _ h => h) (Or.inl ⟨by rfl, fun w' hq => by go_simp⟩) h5.sp ?_
            simp only [Act.put, List.setIfInBounds_toArray, List.set_cons_zero, List.set_cons_succ]
            refine wpAnyH_ready (rs := [9]) (by kernel_rfl) (by simp) ?_
            refine AllReadyH.valR (fun W' => RF w l A cs (some W5.heap.size) W') rfl (by rfl) (.pointer (some ⟨W5.heap.size, 0, none⟩)) (W5.alloc (.cells zero256 26)) (by go_simp) (fun _ q => q.sp) h5.alloc ?_ AllReadyH.nil
            · intro W7 h7
              generalize W5.heap.size = g7 at h7 ⊢
              simp only [Act.put, List.setIfInBounds_toArray, List.set_cons_zero, List.set_cons_succ]
              obtain ⟨q1, q2, q3⟩ := h7.fin l256
              refine wpAnyH_ready (rs := [10]) (by kernel_rfl) (by simp) ?_
              refine AllReadyH.storeL rfl (by rfl) g7 0 (bytesV l) rfl rfl q1 hi2 lon q2 ?_ AllReadyH.nil
              refine wpAnyH_takeL (i := 11) (v := (.int .i64 0)) rfl (by kernel_rfl) (by kernel_rfl) (by kernel_rfl) (fun _ _ _ h => h) (Or.inl ⟨by rfl, fun w' hq => by go_simp⟩) q2 ?_
              simp only [Act.put, List.setIfInBounds_toArray, List.set_cons_zero, List.set_cons_succ]
              refine wpAnyH_done (by kernel_rfl) ?_ _
              exact into_of g7 q3 rfl
          · intro W6 h6
            generalize W3.heap.size = g6 at h6 ⊢
            simp only [Act.put, List.setIfInBounds_toArray, List.set_cons_zero, List.set_cons_succ]
            refine wpAnyH_ready (rs := [5]) (by kernel_rfl) (by simp) ?_
            refine AllReadyH.callR (fun x W' => x = (.tuple #[.agg (bytesV l), .int .i64 0]) ∧ RF w l A cs (some g6) W') rfl (by rfl) 9 #[.int .u8 k, .int .u32 lk, .slice A cs.length cap] (by go_simp) (fun _ _ q => q.2.sp) ((new_ok W6 k lk A cs.length cap cs (by have := HFA.out.1; omega) (fun c hc => by have := (HFA.out.2.1 c hc).2; omega) h6.sl).mono (by rintro e w9 ⟨rfl, hk⟩; exact ⟨_, rfl, by rw [HNW.out], h6.keep hk⟩)) ?_ AllReadyH.nil
            · rintro _ W8 ⟨rfl, h8⟩
              simp only [Act.put, List.setIfInBounds_toArray, List.set_cons_zero, List.set_cons_succ]
              refine wpAnyH_takeL (i := 6) (v := (.tuple #[.agg (bytesV l), .int .i64 0])) rfl (by kernel_rfl) (by kernel_rfl) (by kernel_rfl) (fun _ _ _ h => h) (Or.inl ⟨by rfl, fun w' hq => by go_simp⟩) h8.sp ?_
              simp only [Act.put, List.setIfInBounds_toArray, List.set_cons_zero, List.set_cons_succ]
              refine wpAnyH_takeL (i := 7) (v := (.agg (bytesV l))) rfl (by kernel_rfl) (by kernel_rfl) (by kernel_rfl) (fun _ _ _ h => h) (Or.inl ⟨by rfl, fun w' hq => by go_simp⟩) h8.sp ?_
              simp only [Act.put, List.setIfInBounds_toArray, List.set_cons_zero, List.set_cons_succ]
              refine wpAnyH_takeL (i := 8) (v := (.int .i64 0)) rfl (by kernel_rfl) (by kernel_rfl) (by kernel_rfl) (fun _ _ _ h => h) (Or.inl ⟨by rfl, fun w' hq => by go_simp⟩) h8.sp ?_
              simp only [Act.put, List.setIfInBounds_toArray, List.set_cons_zero, List.set_cons_succ]
              obtain ⟨q1, q2, q3⟩ := h8.fin l256
              refine wpAnyH_ready (rs := [10]) (by kernel_rfl) (by simp) ?_
              refine AllReadyH.storeL rfl (by rfl) g6 0 (bytesV l) rfl rfl q1 hi2 lon q2 ?_ AllReadyH.nil
              refine wpAnyH_takeL (i := 11) (v := (.int .i64 0)) rfl (by kernel_rfl) (by kernel_rfl) (by kernel_rfl) (fun _ _ _ h => h) (Or.inl ⟨by rfl, fun w' hq => by go_simp⟩) q2 ?_
              simp only [Act.put, List.setIfInBounds_toArray, List.set_cons_zero, List.set_cons_succ]
              refine wpAnyH_done (by kernel_rfl) ?_ _
              exact into_of g6 q3 rfl
        · intro W4 h4
          generalize W1.heap.size = g4 at h4 ⊢
          simp only [Act.put, List.setIfInBounds_toArray, List.set_cons_zero, List.set_cons_succ]
          refine wpAnyH_ready (rs := [3]) (by kernel_rfl) (by simp) ?_
          refine AllReadyH.callR (fun x W' => x = (.int .u32 lk) ∧ RF w l A cs (some g4) W') rfl (by rfl) 16 #[.agg (bytesV l)] (by go_simp) (fun _ _ q => q.2.sp) ((Link_ok W4 l HB.out).mono (by rintro e w9 ⟨rfl, hk⟩; exact ⟨_, rfl, by rw [HR.out]; rfl, h4.keep hk⟩)) ?_ AllReadyH.nil
          · rintro _ W9 ⟨rfl, h9⟩
            simp only [Act.put, List.setIfInBounds_toArray, List.set_cons_zero, List.set_cons_succ]
            refine wpAnyH_ready (rs := [5]) (by kernel_rfl) (by simp) ?_
            refine AllReadyH.callR (fun x W' => x = (.tuple #[.agg (bytesV l), .int .i64 0]) ∧ RF w l A cs (some g4) W') rfl (by rfl) 9 #[.int .u8 k, .int .u32 lk, .slice A cs.length cap] (by go_simp) (fun _ _ q => q.2.sp) ((new_ok W9 k lk A cs.length cap cs (by have := HFA.out.1; omega) (fun c hc => by have := (HFA.out.2.1 c hc).2; omega) h9.sl).mono (by rintro e w9 ⟨rfl, hk⟩; exact ⟨_, rfl, by rw [HNW.out], h9.keep hk⟩)) ?_ AllReadyH.nil
            · rintro _ W10 ⟨rfl, h10⟩
              simp only [Act.put, List.setIfInBounds_toArray, List.set_cons_zero, List.set_cons_succ]
              refine wpAnyH_takeL (i := 6) (v := (.tuple #[.agg (bytesV l), .int .i64 0])) rfl (by kernel_rfl) (by kernel_rfl) (by kernel_rfl) (fun _ _ _ h => h) (Or.inl ⟨by rfl, fun w' hq => by go_simp⟩) h10.sp ?_
              simp only [Act.put, List.setIfInBounds_toArray, List.set_cons_zero, List.set_cons_succ]
              refine wpAnyH_takeL (i := 7) (v := (.agg (bytesV l))) rfl (by kernel_rfl) (by kernel_rfl) (by kernel_rfl) (fun _ _ _ h => h) (Or.inl ⟨by rfl, fun w' hq => by go_simp⟩) h10.sp ?_
              simp only [Act.put, List.setIfInBounds_toArray, List.set_cons_zero, List.set_cons_succ]
              refine wpAnyH_takeL (i := 8) (v := (.int .i64 0)) rfl (by kernel_rfl) (by kernel_rfl) (by kernel_rfl) (fun _ _ _ h => h) (Or.inl ⟨by rfl, fun w' hq => by go_simp⟩) h10.sp ?_
              simp only [Act.put, List.setIfInBounds_toArray, List.set_cons_zero, List.set_cons_succ]
              obtain ⟨q1, q2, q3⟩ := h10.fin l256
              refine wpAnyH_ready (rs := [10]) (by kernel_rfl) (by simp) ?_
              refine AllReadyH.storeL rfl (by rfl) g4 0 (bytesV l) rfl rfl q1 hi2 lon q2 ?_ AllReadyH.nil
              refine wpAnyH_takeL (i := 11) (v := (.int .i64 0)) rfl (by kernel_rfl) (by kernel_rfl) (by kernel_rfl) (fun _ _ _ h => h) (Or.inl ⟨by rfl, fun w' hq => by go_simp⟩) q2 ?_
              simp only [Act.put, List.setIfInBounds_toArray, List.set_cons_zero, List.set_cons_succ]
              refine wpAnyH_done (by kernel_rfl) ?_ _
              exact into_of g4 q3 rfl
      · intro W2 h2
        generalize W0.heap.size = g2 at h2 ⊢
        simp only [Act.put, List.setIfInBounds_toArray, List.set_cons_zero, List.set_cons_succ]
        refine wpAnyH_ready (rs := [1]) (by kernel_rfl) (by simp) ?_
        refine AllReadyH.callR (fun x W' => x = (.int .u8 k) ∧ RF w l A cs (some g2) W') rfl (by rfl) 14 #[.agg (bytesV l)] (by go_simp) (fun _ _ q => q.2.sp) ((Kind_ok W2 l HB.out).mono (by rintro e w9 ⟨rfl, hk⟩; exact ⟨_, rfl, by rw [HR.out]; rfl, h2.keep hk⟩)) ?_ AllReadyH.nil
        · rintro _ W11 ⟨rfl, h11⟩
          simp only [Act.put, List.setIfInBounds_toArray, List.set_cons_zero, List.set_cons_succ]
          refine wpAnyH_ready (rs := [3]) (by kernel_rfl) (by simp) ?_
          refine AllReadyH.callR (fun x W' => x = (.int .u32 lk) ∧ RF w l A cs (some g2) W') rfl (by rfl) 16 #[.agg (bytesV l)] (by go_simp) (fun _ _ q => q.2.sp) ((Link_ok W11 l HB.out).mono (by rintro e w9 ⟨rfl, hk⟩; exact ⟨_, rfl, by rw [HR.out]; rfl, h11.keep hk⟩)) ?_ AllReadyH.nil
          · rintro _ W12 ⟨rfl, h12⟩
            simp only [Act.put, List.setIfInBounds_toArray, List.set_cons_zero, List.set_cons_succ]
            refine wpAnyH_ready (rs := [5]) (by kernel_rfl) (by simp) ?_
            refine AllReadyH.callR (fun x W' => x = (.tuple #[.agg (bytesV l), .int .i64 0]) ∧ RF w l A cs (some g2) W') rfl (by rfl) 9 #[.int .u8 k, .int .u32 lk, .slice A cs.length cap] (by go_simp) (fun _ _ q => q.2.sp) ((new_ok W12 k lk A cs.length cap cs (by have := HFA.out.1; omega) (fun c hc => by have := (HFA.out.2.1 c hc).2; omega) h12.sl).mono (by rintro e w9 ⟨rfl, hk⟩; exact ⟨_, rfl, by rw [HNW.out], h12.keep hk⟩)) ?_ AllReadyH.nil
            · rintro _ W13 ⟨rfl, h13⟩
              simp only [Act.put, List.setIfInBounds_toArray, List.set_cons_zero, List.set_cons_succ]
              refine wpAnyH_takeL (i := 6) (v := (.tuple #[.agg (bytesV l), .int .i64 0])) rfl (by kernel_rfl) (by kernel_rfl) (by kernel_rfl) (fun _ _ _ h => h) (Or.inl ⟨by rfl, fun w' hq => by go_simp⟩) h13.sp ?_
              simp only [Act.put, List.setIfInBounds_toArray, List.set_cons_zero, List.set_cons_succ]
              refine wpAnyH_takeL (i := 7) (v := (.agg (bytesV l))) rfl (by kernel_rfl) (by kernel_rfl) (by kernel_rfl) (fun _ _ _ h => h) (Or.inl ⟨by rfl, fun w' hq => by go_simp⟩) h13.sp ?_
              simp only [Act.put, List.setIfInBounds_toArray, List.set_cons_zero, List.set_cons_succ]
              refine wpAnyH_takeL (i := 8) (v := (.int .i64 0)) rfl (by kernel_rfl) (by kernel_rfl) (by kernel_rfl) (fun _ _ _ h => h) (Or.inl ⟨by rfl, fun w' hq => by go_simp⟩) h13.sp ?_
              simp only [Act.put, List.setIfInBounds_toArray, List.set_cons_zero, List.set_cons_succ]
              obtain ⟨q1, q2, q3⟩ := h13.fin l256
              refine wpAnyH_ready (rs := [10]) (by kernel_rfl) (by simp) ?_
              refine AllReadyH.storeL rfl (by rfl) g2 0 (bytesV l) rfl rfl q1 hi2 lon q2 ?_ AllReadyH.nil
              refine wpAnyH_takeL (i := 11) (v := (.int .i64 0)) rfl (by kernel_rfl) (by kernel_rfl) (by kernel_rfl) (fun _ _ _ h => h) (Or.inl ⟨by rfl, fun w' hq => by go_simp⟩) q2 ?_
              simp only [Act.put, List.setIfInBounds_toArray, List.set_cons_zero, List.set_cons_succ]
              refine wpAnyH_done (by kernel_rfl) ?_ _
              exact into_of g2 q3 rfl
    intro g4 W4 hq4
    have HP := Lib.hid hq4
    obtain ⟨t4, r4⟩ := hq4.at w.heap.size (bytesV l) (by simp) lsz
    obtain ⟨t10, r10⟩ := hq4.at g4 (bytesV l) (by simp) lsz
    clear hq4
    by_cases hex : ex = 0
    · subst hex
      obtain ⟨L, rfl, bL, edel, ecl, erm, eck, hc60⟩ := ins_same HB.out HR.out HX.out
      have BL := Lib.hid bL
      have EDEL := Lib.hid edel
      have ECL := Lib.hid ecl
      have ECK := Lib.hid eck
      have hi3 : (Try.prog.info? 26).map (·.size) = some (L.map (Value.int .u8)).length := by rw [List.length_map, bL.len]; exact info26
      obtain ⟨rm, hrm⟩ : ∃ rm, roomI cs = rm := ⟨_, rfl⟩
      rw [hrm] at erm
      have ERM := Lib.hid erm
      have HRF2 := Lib.hid (show roomF (readF l) = rm by rw [HR.out]; exact hrm)
      have hrm1 : 0 ≤ rm ∧ rm ≤ 250 := by
        rw [← hrm]
        exact ⟨readF_room HB.out HR.out, room_ub cs⟩
      have hw1 : IntKind.i64.wrap (rm - 1) = rm - 1 := by rw [IntKind.wrap_i64]; omega
      have hw2 : IntKind.i64.wrap (rm - 1 - (c.size : Int)) = rm - 1 - (c.size : Int) := by rw [IntKind.wrap_i64]; omega
      have hve : valEq (.agg (bytesV l)) (.agg (bytesV l)) = true := (valEq_iff _ _).2 rfl
      clear bL edel ecl erm eck hrm
      go_wp2_with (first
        | (go_at_call 24; go_must (refine (Insert_ok _ l HB.out i c (by have := HCZ.out; omega)).mono ?_); rw [HX.out]; rintro e w5 ⟨rfl, hk⟩; obtain ⟨th5, hp5⟩ := (HP.out.keep hk).one (bytesV L) sX; have HP5 := Lib.hid hp5; obtain ⟨t4, r4⟩ := hp5.at w.heap.size (bytesV l) (by simp) lsz; obtain ⟨t12, r12⟩ := hp5.at w5.heap.size (bytesV L) (by simp) sX; clear hk hp5)
        | (go_at_call 25; go_must (refine (Delete_ok _ L BL.out i).mono ?_); rw [EDEL.out]; rintro e w6 ⟨rfl, hk⟩; obtain ⟨th6, hp6⟩ := (HP5.out.keep hk).one (bytesV l) lsz; have HP6 := Lib.hid hp6; obtain ⟨t12, r12⟩ := hp6.at w5.heap.size (bytesV L) (by simp) sX; clear hk hp6)
        | (go_at_call 18; go_must (refine (Cell_ok _ L BL.out i).mono ?_); rw [ECL.out]; rintro e w7 ⟨rfl, hk⟩; have HP7 := Lib.hid (HP6.out.keep hk); clear hk))
      have h0 := HP7.out.keep (Kp.refl NoB w7).drew
      clear th6 t4 r4 t12 r12 HP HP5 HP6 HP7
      generalize w6.heap.size = g6 at h0 ⊢
      generalize w5.heap.size = g5 at h0 ⊢
      refine wp_region_held_drew (S := (fun W' => W'.rangeAt g6 0 (l.map (Value.int .u8)) ∧ W'.rangeAt w.heap.size 0 (l.map (Value.int .u8)) ∧ W'.rangeAt g5 0 (L.map (Value.int .u8)))) (by kernel_rfl) (R11sp h0) (fun hHeld => ?_)
      generalize w7.drew = W0 at h0 hHeld ⊢
      refine wpAnyH_takeL (i := 0) (v := (.int .i64 0)) rfl (by kernel_rfl) (by kernel_rfl) (by kernel_rfl) (fun _ _ _ h => h) (Or.inl ⟨by rfl, fun w' hq => by go_simp⟩) (R11sp h0) ?_
      simp only [Act.put, List.setIfInBounds_toArray, List.set_cons_zero, List.set_cons_succ]
      refine wpAnyH_takeL (i := 1) (v := (.bool false)) rfl (by kernel_rfl) (by kernel_rfl) (by kernel_rfl) (fun _ _ _ h => h) (Or.inl ⟨by rfl, fun w' hq => by go_simp⟩) (R11sp h0) ?_
      simp only [Act.put, List.setIfInBounds_toArray, List.set_cons_zero, List.set_cons_succ]
      refine wpAnyH_takeL (i := 2) (v := (.bool false)) rfl (by kernel_rfl) (by kernel_rfl) (by kernel_rfl) (fun _ _ _ h => h) (Or.inl ⟨by rfl, fun w' hq => by go_simp⟩) (R11sp h0) ?_
      simp only [Act.put, List.setIfInBounds_toArray, List.set_cons_zero, List.set_cons_succ]
      refine wpAnyH_takeL (i := 3) (v := (.int .i64 0)) rfl (by kernel_rfl) (by kernel_rfl) (by kernel_rfl) (fun _ _ _ h => h) (Or.inl ⟨by rfl, fun w' hq => by go_simp⟩) (R11sp h0) ?_
      simp only [Act.put, List.setIfInBounds_toArray, List.set_cons_zero, List.set_cons_succ]
      refine wpAnyH_takeL (i := 4) (v := (.bool false)) rfl (by kernel_rfl) (by kernel_rfl) (by kernel_rfl) (fun _ _ _ h => h) (Or.inl ⟨by rfl, fun w' hq => by go_simp⟩) (R11sp h0) ?_
      simp only [Act.put, List.setIfInBounds_toArray, List.set_cons_zero, List.set_cons_succ]
      refine wpAnyH_takeL (i := 5) (v := (.bool false)) rfl (by kernel_rfl) (by kernel_rfl) (by kernel_rfl) (fun _ _ _ h => h) (Or.inl ⟨by rfl, fun w' hq => by go_simp⟩) (R11sp h0) ?_
      simp only [Act.put, List.setIfInBounds_toArray, List.set_cons_zero, List.set_cons_succ]
      refine wpAnyH_takeL (i := 6) (v := (.bool false)) rfl (by kernel_rfl) (by kernel_rfl) (by kernel_rfl) (fun _ _ _ h => h) (Or.inl ⟨by rfl, fun w' hq => by go_simp⟩) (R11sp h0) ?_
      simp only [Act.put, List.setIfInBounds_toArray, List.set_cons_zero, List.set_cons_succ]
      refine wpAnyH_takeL (i := 7) (v := .agg (bytesV l)) rfl (by kernel_rfl) (by kernel_rfl) (by kernel_rfl) (fun _ _ _ h => h) (yieldsIf_load_mid (by rfl) _ _ rfl _ _ rfl (l.map (Value.int .u8)) _ (fun _ q => q.1) hu26 rfl hi1) (R11sp h0) ?_
      simp only [Act.put, List.setIfInBounds_toArray, List.set_cons_zero, List.set_cons_succ]
      refine wpAnyH_takeL (i := 8) (v := .agg (bytesV l)) rfl (by kernel_rfl) (by kernel_rfl) (by kernel_rfl) (fun _ _ _ h => h) (yieldsIf_load_mid (by rfl) _ _ rfl _ _ rfl (l.map (Value.int .u8)) _ (fun _ q => q.2.1) hu26 rfl hi1) (R11sp h0) ?_
      simp only [Act.put, List.setIfInBounds_toArray, List.set_cons_zero, List.set_cons_succ]
      refine wpAnyH_takeL (i := 9) (v := (.bool false)) rfl (by kernel_rfl) (by kernel_rfl) (by kernel_rfl) (fun _ _ _ h => h) (Or.inl ⟨by rfl, fun w' hq => by go_simp⟩) (R11sp h0) ?_
      simp only [Act.put, List.setIfInBounds_toArray, List.set_cons_zero, List.set_cons_succ]
      refine wpAnyH_takeL (i := 10) (v := (.bool false)) rfl (by kernel_rfl) (by kernel_rfl) (by kernel_rfl) (fun _ _ _ h => h) (Or.inl ⟨by rfl, fun w' hq => by go_simp⟩) (R11sp h0) ?_
      simp only [Act.put, List.setIfInBounds_toArray, List.set_cons_zero, List.set_cons_succ]
      refine wpAnyH_takeL (i := 11) (v := (.bool false)) rfl (by kernel_rfl) (by kernel_rfl) (by kernel_rfl) (fun _ _ _ h => h) (Or.inl ⟨by rfl, fun w' hq => by go_simp⟩) (R11sp h0) ?_
      simp only [Act.put, List.setIfInBounds_toArray, List.set_cons_zero, List.set_cons_succ]
      refine wpAnyH_takeL (i := 12) (v := (.string c)) rfl (by kernel_rfl) (by kernel_rfl) (by kernel_rfl) (fun _ _ _ h => h) (Or.inl ⟨by rfl, fun w' hq => by go_simp⟩) (R11sp h0) ?_
      simp only [Act.put, List.setIfInBounds_toArray, List.set_cons_zero, List.set_cons_succ]
      refine wpAnyH_takeL (i := 13) (v := (.string c)) rfl (by kernel_rfl) (by kernel_rfl) (by kernel_rfl) (fun _ _ _ h => h) (Or.inl ⟨by rfl, fun w' hq => by go_simp⟩) (R11sp h0) ?_
      simp only [Act.put, List.setIfInBounds_toArray, List.set_cons_zero, List.set_cons_succ]
      refine wpAnyH_takeL (i := 14) (v := (.bool false)) rfl (by kernel_rfl) (by kernel_rfl) (by kernel_rfl) (fun _ _ _ h => h) (Or.inl ⟨by rfl, fun w' hq => by go_simp⟩) (R11sp h0) ?_
      simp only [Act.put, List.setIfInBounds_toArray, List.set_cons_zero, List.set_cons_succ]
      refine wpAnyH_takeL (i := 15) (v := (.bool false)) rfl (by kernel_rfl) (by kernel_rfl) (by kernel_rfl) (fun _ _ _ h => h) (Or.inl ⟨by rfl, fun w' hq => by go_simp⟩) (R11sp h0) ?_
      simp only [Act.put, List.setIfInBounds_toArray, List.set_cons_zero, List.set_cons_succ]
      refine wpAnyH_takeL (i := 16) (v := (.bool false)) rfl (by kernel_rfl) (by kernel_rfl) (by kernel_rfl) (fun _ _ _ h => h) (Or.inl ⟨by rfl, fun w' hq => by go_simp⟩) (R11sp h0) ?_
      simp only [Act.put, List.setIfInBounds_toArray, List.set_cons_zero, List.set_cons_succ]
      refine wpAnyH_takeL (i := 17) (v := .agg (bytesV L)) rfl (by kernel_rfl) (by kernel_rfl) (by kernel_rfl) (fun _ _ _ h => h) (yieldsIf_load_mid (by rfl) _ _ rfl _ _ rfl (L.map (Value.int .u8)) _ (fun _ q => q.2.2) hu26 rfl hi3) (R11sp h0) ?_
      simp only [Act.put, List.setIfInBounds_toArray, List.set_cons_zero, List.set_cons_succ]
      refine wpAnyH_takeL (i := 19) (v := .agg (bytesV l)) rfl (by kernel_rfl) (by kernel_rfl) (by kernel_rfl) (fun _ _ _ h => h) (yieldsIf_load_mid (by rfl) _ _ rfl _ _ rfl (l.map (Value.int .u8)) _ (fun _ q => q.2.1) hu26 rfl hi1) (R11sp h0) ?_
      simp only [Act.put, List.setIfInBounds_toArray, List.set_cons_zero, List.set_cons_succ]
      refine wpAnyH_takeL (i := 22) (v := (.string c)) rfl (by kernel_rfl) (by kernel_rfl) (by kernel_rfl) (fun _ _ _ h => h) (Or.inl ⟨by rfl, fun w' hq => by go_simp⟩) (R11sp h0) ?_
      simp only [Act.put, List.setIfInBounds_toArray, List.set_cons_zero, List.set_cons_succ]
      refine wpAnyH_takeL (i := 23) (v := (.int .i64 (c.size : Int))) rfl (by kernel_rfl) (by kernel_rfl) (by kernel_rfl) (fun _ _ _ h => h) (Or.inl ⟨by rfl, fun w' hq => by go_simp⟩) (R11sp h0) ?_
      simp only [Act.put, List.setIfInBounds_toArray, List.set_cons_zero, List.set_cons_succ]
      refine wpAnyH_ready (rs := [18]) (by kernel_rfl) (by simp) ?_
      refine AllReadyH.callR (fun x W' => x = (.int .i64 (rm - 1 - (c.size : Int))) ∧ Pgs w [(g6, bytesV l), (g5, bytesV L), (g4, bytesV l), (w.heap.size, bytesV l)] W') rfl (by rfl) 17 #[.agg (bytesV L)] (by go_simp) (fun _ _ q => R11sp q.2) ((Room_ok W0 L BL.out).mono (by rintro e w19 ⟨rfl, hk⟩; exact ⟨_, rfl, by rw [ERM.out], h0.keep hk⟩)) ?_ AllReadyH.nil
      rintro _ W1 ⟨rfl, h1⟩
      simp only [Act.put, List.setIfInBounds_toArray, List.set_cons_zero, List.set_cons_succ]
      refine wpAnyH_ready (rs := [20]) (by kernel_rfl) (by simp) ?_
      refine AllReadyH.callR (fun x W' => x = (.int .i64 rm) ∧ Pgs w [(g6, bytesV l), (g5, bytesV L), (g4, bytesV l), (w.heap.size, bytesV l)] W') rfl (by rfl) 17 #[.agg (bytesV l)] (by go_simp) (fun _ _ q => R11sp q.2) ((Room_ok W1 l HB.out).mono (by rintro e w19 ⟨rfl, hk⟩; exact ⟨_, rfl, by rw [HRF2.out], h1.keep hk⟩)) ?_ AllReadyH.nil
      rintro _ W2 ⟨rfl, h2⟩
      simp only [Act.put, List.setIfInBounds_toArray, List.set_cons_zero, List.set_cons_succ]
      refine wpAnyH_takeL (i := 21) (v := (.int .i64 (rm - 1))) rfl (by kernel_rfl) (by kernel_rfl) (by kernel_rfl) (fun _ _ _ h => h) (Or.inl ⟨by rfl, fun w' hq => by go_simp⟩) (R11sp h2) ?_
      simp only [Act.put, List.setIfInBounds_toArray, List.set_cons_zero, List.set_cons_succ]
      refine wpAnyH_takeL (i := 24) (v := (.int .i64 (rm - 1 - (c.size : Int)))) rfl (by kernel_rfl) (by kernel_rfl) (by kernel_rfl) (fun _ _ _ h => h) (Or.inl ⟨by rfl, fun w' hq => by go_simp⟩) (R11sp h2) ?_
      simp only [Act.put, List.setIfInBounds_toArray, List.set_cons_zero, List.set_cons_succ]
      refine wpAnyH_takeL (i := 25) (v := (.bool false)) rfl (by kernel_rfl) (by kernel_rfl) (by kernel_rfl) (fun _ _ _ h => h) (Or.inl ⟨by rfl, fun w' hq => by go_simp⟩) (R11sp h2) ?_
      simp only [Act.put, List.setIfInBounds_toArray, List.set_cons_zero, List.set_cons_succ]
      refine wpAnyH_takeL (i := 26) (v := (.bool false)) rfl (by kernel_rfl) (by kernel_rfl) (by kernel_rfl) (fun _ _ _ h => h) (Or.inl ⟨by rfl, fun w' hq => by go_simp⟩) (R11sp h2) ?_
      simp only [Act.put, List.setIfInBounds_toArray, List.set_cons_zero, List.set_cons_succ]
      refine wpAnyH_takeL (i := 27) (v := (.bool false)) rfl (by kernel_rfl) (by kernel_rfl) (by kernel_rfl) (fun _ _ _ h => h) (Or.inl ⟨by rfl, fun w' hq => by go_simp⟩) (R11sp h2) ?_
      simp only [Act.put, List.setIfInBounds_toArray, List.set_cons_zero, List.set_cons_succ]
      refine wpAnyH_takeL (i := 28) (v := .agg (bytesV L)) rfl (by kernel_rfl) (by kernel_rfl) (by kernel_rfl) (fun _ _ _ h => h) (yieldsIf_load_mid (by rfl) _ _ rfl _ _ rfl (L.map (Value.int .u8)) _ (fun _ q => q.2.2) hu26 rfl hi3) (R11sp h2) ?_
      simp only [Act.put, List.setIfInBounds_toArray, List.set_cons_zero, List.set_cons_succ]
      refine wpAnyH_ready (rs := [29]) (by kernel_rfl) (by simp) ?_
      refine AllReadyH.callR (fun x W' => x = (.int .i64 0) ∧ Pgs w [(g6, bytesV l), (g5, bytesV L), (g4, bytesV l), (w.heap.size, bytesV l)] W') rfl (by rfl) 13 #[.agg (bytesV L)] (by go_simp) (fun _ _ q => R11sp q.2) ((Check_ok W2 L BL.out).mono (by rintro e w19 ⟨rfl, hk⟩; exact ⟨_, rfl, by rw [ECK.out], h2.keep hk⟩)) ?_ AllReadyH.nil
      rintro _ W3 ⟨rfl, h3⟩
      simp only [Act.put, List.setIfInBounds_toArray, List.set_cons_zero, List.set_cons_succ]
      refine wpAnyH_takeL (i := 30) (v := (.bool false)) rfl (by kernel_rfl) (by kernel_rfl) (by kernel_rfl) (fun _ _ _ h => h) (Or.inl ⟨by rfl, fun w' hq => by go_simp⟩) (R11sp h3) ?_
      simp only [Act.put, List.setIfInBounds_toArray, List.set_cons_zero, List.set_cons_succ]
      refine wpAnyH_takeL (i := 31) (v := (.bool false)) rfl (by kernel_rfl) (by kernel_rfl) (by kernel_rfl) (fun _ _ _ h => h) (Or.inl ⟨by rfl, fun w' hq => by go_simp⟩) (R11sp h3) ?_
      simp only [Act.put, List.setIfInBounds_toArray, List.set_cons_zero, List.set_cons_succ]
      refine wpAnyH_done (by kernel_rfl) ?_ _
      have HP11z := Lib.hid h3
      clear hHeld h0 h1 h2 h3
      obtain ⟨t4, r4⟩ := HP11z.out.at w.heap.size (bytesV l) (by simp) lsz
      go_wp2_with fail
      refine forget (p := fun wx => Calls _ _ _ wx _) (Pgs w [(w.heap.size, bytesV l)]) (HP11z.out.sub (by simp)) ?_
      clear t4 r4 HP11z
      intro V hv
      have HT := Lib.hid hv
      clear hv
      refine (Cut_ok _ l HB.out n).mono ?_
      rintro e w8 ⟨rfl, hk⟩
      by_cases hn : n < 0 ∨ (cs.length : Int) < n
      · rw [cut_bad HR.out hn]
        obtain ⟨th8, th9, hp8⟩ := (HT.out.keep hk).two zero256 zero256 zsz zsz
        have HP8 := Lib.hid hp8
        clear hk hp8 hn
        go_wp2_with (go_at_call 8; go_must (refine (awake_ok _).mono ?_); rintro e w99 ⟨rfl, hk9⟩; have HK9 := Lib.hid hk9; clear hk9)
        go_ret
        exact ⟨rfl, HP8.out.k.trans HK9.out (fun _ _ q => q)⟩
      · obtain ⟨L1, L2, ce, b1, b2, ej, ec, ek1, ek2⟩ := cut_same HB.out HR.out hn
        rw [ce]
        have s1 : (bytesV L1).size = 256 := by rw [bytesV_size, b1.len]
        have s2 : (bytesV L2).size = 256 := by rw [bytesV_size, b2.len]
        have o1 := bytesV_one L1
        have o2 := bytesV_one L2
        have B1 := Lib.hid b1
        have B2 := Lib.hid b2
        have EJ := Lib.hid ej
        have EC := Lib.hid ec
        have EK1 := Lib.hid ek1
        have EK2 := Lib.hid ek2
        obtain ⟨th8, th9, hp8⟩ := (HT.out.keep hk).two (bytesV L1) (bytesV L2) s1 s2
        have HP8 := Lib.hid hp8
        obtain ⟨tA, rA⟩ := hp8.at w8.heap.size (bytesV L1) (by simp) s1
        obtain ⟨tB, rB⟩ := hp8.at (w8.heap.size + 1) (bytesV L2) (by simp) s2
        clear hk hp8 hn ce b1 b2 ej ec ek1 ek2
        go_wp2_with (first
          | (go_at_call 21; go_must (refine (Join_ok _ L1 L2 B1.out B2.out).mono ?_); rw [EJ.out]; rintro e w9 ⟨rfl, hk⟩; obtain ⟨th10, hp9⟩ := (HP8.out.keep hk).one (bytesV l) lsz; have HP9 := Lib.hid hp9; obtain ⟨t19, r19⟩ := hp9.at w9.heap.size (bytesV l) (by simp) lsz; obtain ⟨t4, r4⟩ := hp9.at w.heap.size (bytesV l) (by simp) lsz; obtain ⟨t17, r17⟩ := hp9.at w8.heap.size (bytesV L1) (by simp) s1; clear hk hp9)
          | (go_at_call 15; go_must (refine (Count_ok _ L1 B1.out).mono ?_); rw [EC.out]; rintro e w10 ⟨rfl, hk⟩; have HP10 := Lib.hid (HP9.out.keep hk); obtain ⟨t17b, r17b⟩ := HP10.out.at w8.heap.size (bytesV L1) (by simp) s1; clear hk)
          | (have hG := HP11; clear hG; go_at_call 13; go_must (refine (Check_ok _ L2 B2.out).mono ?_); rw [EK2.out]; rintro e w12 ⟨rfl, hk⟩; have HP12 := Lib.hid (HP11.out.keep hk); clear hk)
          | (go_at_call 13; go_must (refine (Check_ok _ L1 B1.out).mono ?_); rw [EK1.out]; rintro e w11 ⟨rfl, hk⟩; have HP11 := Lib.hid (HP10.out.keep hk); obtain ⟨t18b, r18b⟩ := HP11.out.at (w8.heap.size + 1) (bytesV L2) (by simp) s2; clear hk)
          | (go_at_call 8; go_must (refine (awake_ok _).mono ?_); rintro e w99 ⟨rfl, hk9⟩; have HK9 := Lib.hid hk9; clear hk9))
        go_ret
        exact ⟨rfl, HP12.out.k.trans HK9.out (fun _ _ q => q)⟩
    · have hex2 : (ex == 0) = false := by simpa using hex
      go_wp2_with (go_at_call 24; go_must (refine (Insert_ok _ l HB.out i c (by have := HCZ.out; omega)).mono ?_); rw [HX.out]; rintro e w5 ⟨rfl, hk⟩; obtain ⟨th5, hp5⟩ := (HP.out.keep hk).one X sX; have HP5 := Lib.hid hp5; obtain ⟨t4, r4⟩ := hp5.at w.heap.size (bytesV l) (by simp) lsz; obtain ⟨t12, r12⟩ := hp5.at w5.heap.size X (by simp) sX; clear hk hp5)
      refine forget (p := fun wx => Calls _ _ _ wx _) (Pgs w [(w.heap.size, bytesV l)]) (HP5.out.sub (by simp)) ?_
      clear t4 r4 t12 r12 th5 HP HP5
      intro V hv
      have HT := Lib.hid hv
      clear hv
      refine (Cut_ok _ l HB.out n).mono ?_
      rintro e w8 ⟨rfl, hk⟩
      by_cases hn : n < 0 ∨ (cs.length : Int) < n
      · rw [cut_bad HR.out hn]
        obtain ⟨th8, th9, hp8⟩ := (HT.out.keep hk).two zero256 zero256 zsz zsz
        have HP8 := Lib.hid hp8
        clear hk hp8 hn
        go_wp2_with (go_at_call 8; go_must (refine (awake_ok _).mono ?_); rintro e w99 ⟨rfl, hk9⟩; have HK9 := Lib.hid hk9; clear hk9)
        go_ret
        exact ⟨rfl, HP8.out.k.trans HK9.out (fun _ _ q => q)⟩
      · obtain ⟨L1, L2, ce, b1, b2, ej, ec, ek1, ek2⟩ := cut_same HB.out HR.out hn
        rw [ce]
        have s1 : (bytesV L1).size = 256 := by rw [bytesV_size, b1.len]
        have s2 : (bytesV L2).size = 256 := by rw [bytesV_size, b2.len]
        have o1 := bytesV_one L1
        have o2 := bytesV_one L2
        have B1 := Lib.hid b1
        have B2 := Lib.hid b2
        have EJ := Lib.hid ej
        have EC := Lib.hid ec
        have EK1 := Lib.hid ek1
        have EK2 := Lib.hid ek2
        obtain ⟨th8, th9, hp8⟩ := (HT.out.keep hk).two (bytesV L1) (bytesV L2) s1 s2
        have HP8 := Lib.hid hp8
        obtain ⟨tA, rA⟩ := hp8.at w8.heap.size (bytesV L1) (by simp) s1
        obtain ⟨tB, rB⟩ := hp8.at (w8.heap.size + 1) (bytesV L2) (by simp) s2
        clear hk hp8 hn ce b1 b2 ej ec ek1 ek2
        go_wp2_with (first
          | (go_at_call 21; go_must (refine (Join_ok _ L1 L2 B1.out B2.out).mono ?_); rw [EJ.out]; rintro e w9 ⟨rfl, hk⟩; obtain ⟨th10, hp9⟩ := (HP8.out.keep hk).one (bytesV l) lsz; have HP9 := Lib.hid hp9; obtain ⟨t19, r19⟩ := hp9.at w9.heap.size (bytesV l) (by simp) lsz; obtain ⟨t4, r4⟩ := hp9.at w.heap.size (bytesV l) (by simp) lsz; obtain ⟨t17, r17⟩ := hp9.at w8.heap.size (bytesV L1) (by simp) s1; clear hk hp9)
          | (go_at_call 15; go_must (refine (Count_ok _ L1 B1.out).mono ?_); rw [EC.out]; rintro e w10 ⟨rfl, hk⟩; have HP10 := Lib.hid (HP9.out.keep hk); obtain ⟨t17b, r17b⟩ := HP10.out.at w8.heap.size (bytesV L1) (by simp) s1; clear hk)
          | (have hG := HP11; clear hG; go_at_call 13; go_must (refine (Check_ok _ L2 B2.out).mono ?_); rw [EK2.out]; rintro e w12 ⟨rfl, hk⟩; have HP12 := Lib.hid (HP11.out.keep hk); clear hk)
          | (go_at_call 13; go_must (refine (Check_ok _ L1 B1.out).mono ?_); rw [EK1.out]; rintro e w11 ⟨rfl, hk⟩; have HP11 := Lib.hid (HP10.out.keep hk); obtain ⟨t18b, r18b⟩ := HP11.out.at (w8.heap.size + 1) (bytesV L2) (by simp) s2; clear hk)
          | (go_at_call 8; go_must (refine (awake_ok _).mono ?_); rintro e w99 ⟨rfl, hk9⟩; have HK9 := Lib.hid hk9; clear hk9))
        go_ret
        exact ⟨rfl, HP12.out.k.trans HK9.out (fun _ _ q => q)⟩
end Go.Proofs.Ytnleoeogcinadaa
