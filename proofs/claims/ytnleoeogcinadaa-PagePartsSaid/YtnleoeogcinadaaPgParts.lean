/- PageParts: the two readings; no condition. -/
import Derived.Test.YtnleoeogcinadaaPgPartsT
import Derived.Test.YtnleoeogcinadaaInto4
namespace Go.Proofs.Ytnleoeogcinadaa
open Go.RowKit
attribute [local go_sem ↓] load26 store26 alloc26 build26 slice26lo load34 store34 eql26 neq26
attribute [local go_sem] size_setCells

set_option maxRecDepth 100000 in
set_option maxHeartbeats 8000000 in
theorem parts_ok (w : World) (l m : List Int) (hL : Bytes l) (hM : Bytes m) (n : Int) : Calls Try.prog 5 #[.agg (bytesV l), .agg (bytesV m), .int .i64 n] w fun e w' => e = .returned (.bool true) ∧ Kp NoB w w' := by
  have h0 : R1S w l m none none none none (((w.alloc (.cells (bytesV l) 26)).alloc (.cells (bytesV m) 26)).drew) :=
    ⟨(((Kp.refl NoB w).alloc _).alloc _).drew, ((Blk.new _ _ _).alloc _).drew, (Blk.newAt _ _ _ _ (by simp)).drew, (fun _ e => nomatch e), (fun _ e => nomatch e), (fun _ e => nomatch e), (fun _ e => nomatch e), (fun _ _ e => nomatch e)⟩
  have H0 := Lib.hid h0
  have hu26 := Try.underlying26
  have hi1 : (Try.prog.info? 26).map (·.size) = some (l.map (Value.int .u8)).length := by rw [List.length_map, hL.len]; exact info26
  have hi2 : (Try.prog.info? 26).map (·.size) = some (m.map (Value.int .u8)).length := by rw [List.length_map, hM.len]; exact info26
  clear h0
  go_enter Try.func5, Try.ntmps5
  go_wp2_with fail
  apply wp_into4 (G := fun W' g h u v => PA2 w l m W' g h u v)
  · refine wp_region_held_drew (S := SP w l m) (by kernel_rfl) H0.out.sp (fun hHeld => ?_)
    refine wpAnyH_takeL (i := 0) (v := .agg (bytesV l)) rfl (by kernel_rfl) (by kernel_rfl) (by kernel_rfl) (fun _ _ _ h => h) (yieldsIf_load_mid (by rfl) _ _ rfl _ _ rfl (l.map (Value.int .u8)) _ (fun _ q => q.1) hu26 rfl hi1) hHeld ?_
    simp only [Act.put, List.setIfInBounds_toArray, List.set_cons_zero, List.set_cons_succ]
    refine wpAnyH_takeL (i := 2) (v := .agg (bytesV m)) rfl (by kernel_rfl) (by kernel_rfl) (by kernel_rfl) (fun _ _ _ h => h) (yieldsIf_load_mid (by rfl) _ _ rfl _ _ rfl (m.map (Value.int .u8)) _ (fun _ q => q.2) hu26 rfl hi2) hHeld ?_
    simp only [Act.put, List.setIfInBounds_toArray, List.set_cons_zero, List.set_cons_succ]
    have h0 := H0.out
    generalize (((w.alloc (.cells (bytesV l) 26)).alloc (.cells (bytesV m) 26)).drew) = W0 at h0 ⊢
    refine wpAnyH_ready (rs := [1, 4, 5]) (by kernel_rfl) (by simp) ?_
    refine AllReadyH.callR (fun x W' => R1S w l m (some x) none none none W') rfl (by rfl) 11 #[.agg (bytesV l)] (by go_simp) (fun _ _ q => q.sp) ((rread4 W0 l hL).mono (by rintro e w2 ⟨v, rfl, hf, hk⟩; exact ⟨v, rfl, h0.call1 hf hk⟩)) ?_ (AllReadyH.valR (fun W' => R1S w l m none none (some W0.heap.size) none W') rfl (by rfl) (.pointer (some ⟨W0.heap.size, 0, none⟩)) (W0.alloc (.cells zero4 34)) (by go_simp; rfl) (fun _ q => q.sp) h0.alloc7 ?_ (AllReadyH.valR (fun W' => R1S w l m none none none (some W0.heap.size) W') rfl (by rfl) (.pointer (some ⟨W0.heap.size, 0, none⟩)) (W0.alloc (.cells zero4 34)) (by go_simp; rfl) (fun _ q => q.sp) h0.alloc8 ?_ AllReadyH.nil))
    · intro v39 W39 h39
      simp only [Act.put, List.setIfInBounds_toArray, List.set_cons_zero, List.set_cons_succ]
      refine wpAnyH_ready (rs := [3, 4, 5]) (by kernel_rfl) (by simp) ?_
      refine AllReadyH.callR (fun x W' => R1S w l m (some v39) (some x) none none W') rfl (by rfl) 11 #[.agg (bytesV m)] (by go_simp) (fun _ _ q => q.sp) ((rread4 W39 m hM).mono (by rintro e w2 ⟨v, rfl, hf, hk⟩; exact ⟨v, rfl, h39.call2 hf hk⟩)) ?_ (AllReadyH.valR (fun W' => R1S w l m (some v39) none (some W39.heap.size) none W') rfl (by rfl) (.pointer (some ⟨W39.heap.size, 0, none⟩)) (W39.alloc (.cells zero4 34)) (by go_simp; rfl) (fun _ q => q.sp) h39.alloc7 ?_ (AllReadyH.valR (fun W' => R1S w l m (some v39) none none (some W39.heap.size) W') rfl (by rfl) (.pointer (some ⟨W39.heap.size, 0, none⟩)) (W39.alloc (.cells zero4 34)) (by go_simp; rfl) (fun _ q => q.sp) h39.alloc8 ?_ AllReadyH.nil))
      · intro v42 W42 h42
        simp only [Act.put, List.setIfInBounds_toArray, List.set_cons_zero, List.set_cons_succ]
        refine wpAnyH_ready (rs := [4, 5]) (by kernel_rfl) (by simp) ?_
        refine AllReadyH.valR (fun W' => R1S w l m (some v39) (some v42) (some W42.heap.size) none W') rfl (by rfl) (.pointer (some ⟨W42.heap.size, 0, none⟩)) (W42.alloc (.cells zero4 34)) (by go_simp; rfl) (fun _ q => q.sp) h42.alloc7 ?_ (AllReadyH.valR (fun W' => R1S w l m (some v39) (some v42) none (some W42.heap.size) W') rfl (by rfl) (.pointer (some ⟨W42.heap.size, 0, none⟩)) (W42.alloc (.cells zero4 34)) (by go_simp; rfl) (fun _ q => q.sp) h42.alloc8 ?_ AllReadyH.nil)
        · intro W45 h45
          generalize W42.heap.size = g45 at h45 ⊢
          simp only [Act.put, List.setIfInBounds_toArray, List.set_cons_zero, List.set_cons_succ]
          refine wpAnyH_ready (rs := [5]) (by kernel_rfl) (by simp) ?_
          refine AllReadyH.valR (fun W' => R1S w l m (some v39) (some v42) (some g45) (some W45.heap.size) W') rfl (by rfl) (.pointer (some ⟨W45.heap.size, 0, none⟩)) (W45.alloc (.cells zero4 34)) (by go_simp; rfl) (fun _ q => q.sp) h45.alloc8 ?_ AllReadyH.nil
          · intro W47 h47
            generalize W45.heap.size = g47 at h47 ⊢
            simp only [Act.put, List.setIfInBounds_toArray, List.set_cons_zero, List.set_cons_succ]
            have hq := part1_end h47
            obtain ⟨c7, c8, e7, e8, hi7, hi8, s7, s8, o7, o8, t7, t8, hS1, hS2, hfin⟩ := hq
            refine wpAnyH_ready (rs := [6]) (by kernel_rfl) (by simp) ?_
            refine AllReadyH.storeL rfl (by rfl) g45 0 c7 rfl e7 t7 hi7 o7 hS1 ?_ AllReadyH.nil
            refine wpAnyH_ready (rs := [7]) (by kernel_rfl) (by simp) ?_
            refine AllReadyH.storeL rfl (by rfl) g47 0 c8 rfl e8 t8 hi8 o8 hS2 ?_ AllReadyH.nil
            refine wpAnyH_done (by kernel_rfl) ?_ _
            exact into4_of g45 g47 v39 v42 hfin rfl
        · intro W46 h46
          generalize W42.heap.size = g46 at h46 ⊢
          simp only [Act.put, List.setIfInBounds_toArray, List.set_cons_zero, List.set_cons_succ]
          refine wpAnyH_ready (rs := [4]) (by kernel_rfl) (by simp) ?_
          refine AllReadyH.valR (fun W' => R1S w l m (some v39) (some v42) (some W46.heap.size) (some g46) W') rfl (by rfl) (.pointer (some ⟨W46.heap.size, 0, none⟩)) (W46.alloc (.cells zero4 34)) (by go_simp; rfl) (fun _ q => q.sp) h46.alloc7 ?_ AllReadyH.nil
          · intro W48 h48
            generalize W46.heap.size = g48 at h48 ⊢
            simp only [Act.put, List.setIfInBounds_toArray, List.set_cons_zero, List.set_cons_succ]
            have hq := part1_end h48
            obtain ⟨c7, c8, e7, e8, hi7, hi8, s7, s8, o7, o8, t7, t8, hS1, hS2, hfin⟩ := hq
            refine wpAnyH_ready (rs := [6]) (by kernel_rfl) (by simp) ?_
            refine AllReadyH.storeL rfl (by rfl) g48 0 c7 rfl e7 t7 hi7 o7 hS1 ?_ AllReadyH.nil
            refine wpAnyH_ready (rs := [7]) (by kernel_rfl) (by simp) ?_
            refine AllReadyH.storeL rfl (by rfl) g46 0 c8 rfl e8 t8 hi8 o8 hS2 ?_ AllReadyH.nil
            refine wpAnyH_done (by kernel_rfl) ?_ _
            exact into4_of g48 g46 v39 v42 hfin rfl
      · intro W43 h43
        generalize W39.heap.size = g43 at h43 ⊢
        simp only [Act.put, List.setIfInBounds_toArray, List.set_cons_zero, List.set_cons_succ]
        refine wpAnyH_ready (rs := [3, 5]) (by kernel_rfl) (by simp) ?_
        refine AllReadyH.callR (fun x W' => R1S w l m (some v39) (some x) (some g43) none W') rfl (by rfl) 11 #[.agg (bytesV m)] (by go_simp) (fun _ _ q => q.sp) ((rread4 W43 m hM).mono (by rintro e w2 ⟨v, rfl, hf, hk⟩; exact ⟨v, rfl, h43.call2 hf hk⟩)) ?_ (AllReadyH.valR (fun W' => R1S w l m (some v39) none (some g43) (some W43.heap.size) W') rfl (by rfl) (.pointer (some ⟨W43.heap.size, 0, none⟩)) (W43.alloc (.cells zero4 34)) (by go_simp; rfl) (fun _ q => q.sp) h43.alloc8 ?_ AllReadyH.nil)
        · intro v49 W49 h49
          simp only [Act.put, List.setIfInBounds_toArray, List.set_cons_zero, List.set_cons_succ]
          refine wpAnyH_ready (rs := [5]) (by kernel_rfl) (by simp) ?_
          refine AllReadyH.valR (fun W' => R1S w l m (some v39) (some v49) (some g43) (some W49.heap.size) W') rfl (by rfl) (.pointer (some ⟨W49.heap.size, 0, none⟩)) (W49.alloc (.cells zero4 34)) (by go_simp; rfl) (fun _ q => q.sp) h49.alloc8 ?_ AllReadyH.nil
          · intro W51 h51
            generalize W49.heap.size = g51 at h51 ⊢
            simp only [Act.put, List.setIfInBounds_toArray, List.set_cons_zero, List.set_cons_succ]
            have hq := part1_end h51
            obtain ⟨c7, c8, e7, e8, hi7, hi8, s7, s8, o7, o8, t7, t8, hS1, hS2, hfin⟩ := hq
            refine wpAnyH_ready (rs := [6]) (by kernel_rfl) (by simp) ?_
            refine AllReadyH.storeL rfl (by rfl) g43 0 c7 rfl e7 t7 hi7 o7 hS1 ?_ AllReadyH.nil
            refine wpAnyH_ready (rs := [7]) (by kernel_rfl) (by simp) ?_
            refine AllReadyH.storeL rfl (by rfl) g51 0 c8 rfl e8 t8 hi8 o8 hS2 ?_ AllReadyH.nil
            refine wpAnyH_done (by kernel_rfl) ?_ _
            exact into4_of g43 g51 v39 v49 hfin rfl
        · intro W50 h50
          generalize W43.heap.size = g50 at h50 ⊢
          simp only [Act.put, List.setIfInBounds_toArray, List.set_cons_zero, List.set_cons_succ]
          refine wpAnyH_ready (rs := [3]) (by kernel_rfl) (by simp) ?_
          refine AllReadyH.callR (fun x W' => R1S w l m (some v39) (some x) (some g43) (some g50) W') rfl (by rfl) 11 #[.agg (bytesV m)] (by go_simp) (fun _ _ q => q.sp) ((rread4 W50 m hM).mono (by rintro e w2 ⟨v, rfl, hf, hk⟩; exact ⟨v, rfl, h50.call2 hf hk⟩)) ?_ AllReadyH.nil
          · intro v52 W52 h52
            simp only [Act.put, List.setIfInBounds_toArray, List.set_cons_zero, List.set_cons_succ]
            have hq := part1_end h52
            obtain ⟨c7, c8, e7, e8, hi7, hi8, s7, s8, o7, o8, t7, t8, hS1, hS2, hfin⟩ := hq
            refine wpAnyH_ready (rs := [6]) (by kernel_rfl) (by simp) ?_
            refine AllReadyH.storeL rfl (by rfl) g43 0 c7 rfl e7 t7 hi7 o7 hS1 ?_ AllReadyH.nil
            refine wpAnyH_ready (rs := [7]) (by kernel_rfl) (by simp) ?_
            refine AllReadyH.storeL rfl (by rfl) g50 0 c8 rfl e8 t8 hi8 o8 hS2 ?_ AllReadyH.nil
            refine wpAnyH_done (by kernel_rfl) ?_ _
            exact into4_of g43 g50 v39 v52 hfin rfl
      · intro W44 h44
        generalize W39.heap.size = g44 at h44 ⊢
        simp only [Act.put, List.setIfInBounds_toArray, List.set_cons_zero, List.set_cons_succ]
        refine wpAnyH_ready (rs := [3, 4]) (by kernel_rfl) (by simp) ?_
        refine AllReadyH.callR (fun x W' => R1S w l m (some v39) (some x) none (some g44) W') rfl (by rfl) 11 #[.agg (bytesV m)] (by go_simp) (fun _ _ q => q.sp) ((rread4 W44 m hM).mono (by rintro e w2 ⟨v, rfl, hf, hk⟩; exact ⟨v, rfl, h44.call2 hf hk⟩)) ?_ (AllReadyH.valR (fun W' => R1S w l m (some v39) none (some W44.heap.size) (some g44) W') rfl (by rfl) (.pointer (some ⟨W44.heap.size, 0, none⟩)) (W44.alloc (.cells zero4 34)) (by go_simp; rfl) (fun _ q => q.sp) h44.alloc7 ?_ AllReadyH.nil)
        · intro v53 W53 h53
          simp only [Act.put, List.setIfInBounds_toArray, List.set_cons_zero, List.set_cons_succ]
          refine wpAnyH_ready (rs := [4]) (by kernel_rfl) (by simp) ?_
          refine AllReadyH.valR (fun W' => R1S w l m (some v39) (some v53) (some W53.heap.size) (some g44) W') rfl (by rfl) (.pointer (some ⟨W53.heap.size, 0, none⟩)) (W53.alloc (.cells zero4 34)) (by go_simp; rfl) (fun _ q => q.sp) h53.alloc7 ?_ AllReadyH.nil
          · intro W55 h55
            generalize W53.heap.size = g55 at h55 ⊢
            simp only [Act.put, List.setIfInBounds_toArray, List.set_cons_zero, List.set_cons_succ]
            have hq := part1_end h55
            obtain ⟨c7, c8, e7, e8, hi7, hi8, s7, s8, o7, o8, t7, t8, hS1, hS2, hfin⟩ := hq
            refine wpAnyH_ready (rs := [6]) (by kernel_rfl) (by simp) ?_
            refine AllReadyH.storeL rfl (by rfl) g55 0 c7 rfl e7 t7 hi7 o7 hS1 ?_ AllReadyH.nil
            refine wpAnyH_ready (rs := [7]) (by kernel_rfl) (by simp) ?_
            refine AllReadyH.storeL rfl (by rfl) g44 0 c8 rfl e8 t8 hi8 o8 hS2 ?_ AllReadyH.nil
            refine wpAnyH_done (by kernel_rfl) ?_ _
            exact into4_of g55 g44 v39 v53 hfin rfl
        · intro W54 h54
          generalize W44.heap.size = g54 at h54 ⊢
          simp only [Act.put, List.setIfInBounds_toArray, List.set_cons_zero, List.set_cons_succ]
          refine wpAnyH_ready (rs := [3]) (by kernel_rfl) (by simp) ?_
          refine AllReadyH.callR (fun x W' => R1S w l m (some v39) (some x) (some g54) (some g44) W') rfl (by rfl) 11 #[.agg (bytesV m)] (by go_simp) (fun _ _ q => q.sp) ((rread4 W54 m hM).mono (by rintro e w2 ⟨v, rfl, hf, hk⟩; exact ⟨v, rfl, h54.call2 hf hk⟩)) ?_ AllReadyH.nil
          · intro v56 W56 h56
            simp only [Act.put, List.setIfInBounds_toArray, List.set_cons_zero, List.set_cons_succ]
            have hq := part1_end h56
            obtain ⟨c7, c8, e7, e8, hi7, hi8, s7, s8, o7, o8, t7, t8, hS1, hS2, hfin⟩ := hq
            refine wpAnyH_ready (rs := [6]) (by kernel_rfl) (by simp) ?_
            refine AllReadyH.storeL rfl (by rfl) g54 0 c7 rfl e7 t7 hi7 o7 hS1 ?_ AllReadyH.nil
            refine wpAnyH_ready (rs := [7]) (by kernel_rfl) (by simp) ?_
            refine AllReadyH.storeL rfl (by rfl) g44 0 c8 rfl e8 t8 hi8 o8 hS2 ?_ AllReadyH.nil
            refine wpAnyH_done (by kernel_rfl) ?_ _
            exact into4_of g54 g44 v39 v56 hfin rfl
    · intro W40 h40
      generalize W0.heap.size = g40 at h40 ⊢
      simp only [Act.put, List.setIfInBounds_toArray, List.set_cons_zero, List.set_cons_succ]
      refine wpAnyH_ready (rs := [1, 5]) (by kernel_rfl) (by simp) ?_
      refine AllReadyH.callR (fun x W' => R1S w l m (some x) none (some g40) none W') rfl (by rfl) 11 #[.agg (bytesV l)] (by go_simp) (fun _ _ q => q.sp) ((rread4 W40 l hL).mono (by rintro e w2 ⟨v, rfl, hf, hk⟩; exact ⟨v, rfl, h40.call1 hf hk⟩)) ?_ (AllReadyH.valR (fun W' => R1S w l m none none (some g40) (some W40.heap.size) W') rfl (by rfl) (.pointer (some ⟨W40.heap.size, 0, none⟩)) (W40.alloc (.cells zero4 34)) (by go_simp; rfl) (fun _ q => q.sp) h40.alloc8 ?_ AllReadyH.nil)
      · intro v57 W57 h57
        simp only [Act.put, List.setIfInBounds_toArray, List.set_cons_zero, List.set_cons_succ]
        refine wpAnyH_ready (rs := [3, 5]) (by kernel_rfl) (by simp) ?_
        refine AllReadyH.callR (fun x W' => R1S w l m (some v57) (some x) (some g40) none W') rfl (by rfl) 11 #[.agg (bytesV m)] (by go_simp) (fun _ _ q => q.sp) ((rread4 W57 m hM).mono (by rintro e w2 ⟨v, rfl, hf, hk⟩; exact ⟨v, rfl, h57.call2 hf hk⟩)) ?_ (AllReadyH.valR (fun W' => R1S w l m (some v57) none (some g40) (some W57.heap.size) W') rfl (by rfl) (.pointer (some ⟨W57.heap.size, 0, none⟩)) (W57.alloc (.cells zero4 34)) (by go_simp; rfl) (fun _ q => q.sp) h57.alloc8 ?_ AllReadyH.nil)
        · intro v59 W59 h59
          simp only [Act.put, List.setIfInBounds_toArray, List.set_cons_zero, List.set_cons_succ]
          refine wpAnyH_ready (rs := [5]) (by kernel_rfl) (by simp) ?_
          refine AllReadyH.valR (fun W' => R1S w l m (some v57) (some v59) (some g40) (some W59.heap.size) W') rfl (by rfl) (.pointer (some ⟨W59.heap.size, 0, none⟩)) (W59.alloc (.cells zero4 34)) (by go_simp; rfl) (fun _ q => q.sp) h59.alloc8 ?_ AllReadyH.nil
          · intro W61 h61
            generalize W59.heap.size = g61 at h61 ⊢
            simp only [Act.put, List.setIfInBounds_toArray, List.set_cons_zero, List.set_cons_succ]
            have hq := part1_end h61
            obtain ⟨c7, c8, e7, e8, hi7, hi8, s7, s8, o7, o8, t7, t8, hS1, hS2, hfin⟩ := hq
            refine wpAnyH_ready (rs := [6]) (by kernel_rfl) (by simp) ?_
            refine AllReadyH.storeL rfl (by rfl) g40 0 c7 rfl e7 t7 hi7 o7 hS1 ?_ AllReadyH.nil
            refine wpAnyH_ready (rs := [7]) (by kernel_rfl) (by simp) ?_
            refine AllReadyH.storeL rfl (by rfl) g61 0 c8 rfl e8 t8 hi8 o8 hS2 ?_ AllReadyH.nil
            refine wpAnyH_done (by kernel_rfl) ?_ _
            exact into4_of g40 g61 v57 v59 hfin rfl
        · intro W60 h60
          generalize W57.heap.size = g60 at h60 ⊢
          simp only [Act.put, List.setIfInBounds_toArray, List.set_cons_zero, List.set_cons_succ]
          refine wpAnyH_ready (rs := [3]) (by kernel_rfl) (by simp) ?_
          refine AllReadyH.callR (fun x W' => R1S w l m (some v57) (some x) (some g40) (some g60) W') rfl (by rfl) 11 #[.agg (bytesV m)] (by go_simp) (fun _ _ q => q.sp) ((rread4 W60 m hM).mono (by rintro e w2 ⟨v, rfl, hf, hk⟩; exact ⟨v, rfl, h60.call2 hf hk⟩)) ?_ AllReadyH.nil
          · intro v62 W62 h62
            simp only [Act.put, List.setIfInBounds_toArray, List.set_cons_zero, List.set_cons_succ]
            have hq := part1_end h62
            obtain ⟨c7, c8, e7, e8, hi7, hi8, s7, s8, o7, o8, t7, t8, hS1, hS2, hfin⟩ := hq
            refine wpAnyH_ready (rs := [6]) (by kernel_rfl) (by simp) ?_
            refine AllReadyH.storeL rfl (by rfl) g40 0 c7 rfl e7 t7 hi7 o7 hS1 ?_ AllReadyH.nil
            refine wpAnyH_ready (rs := [7]) (by kernel_rfl) (by simp) ?_
            refine AllReadyH.storeL rfl (by rfl) g60 0 c8 rfl e8 t8 hi8 o8 hS2 ?_ AllReadyH.nil
            refine wpAnyH_done (by kernel_rfl) ?_ _
            exact into4_of g40 g60 v57 v62 hfin rfl
      · intro W58 h58
        generalize W40.heap.size = g58 at h58 ⊢
        simp only [Act.put, List.setIfInBounds_toArray, List.set_cons_zero, List.set_cons_succ]
        refine wpAnyH_ready (rs := [1]) (by kernel_rfl) (by simp) ?_
        refine AllReadyH.callR (fun x W' => R1S w l m (some x) none (some g40) (some g58) W') rfl (by rfl) 11 #[.agg (bytesV l)] (by go_simp) (fun _ _ q => q.sp) ((rread4 W58 l hL).mono (by rintro e w2 ⟨v, rfl, hf, hk⟩; exact ⟨v, rfl, h58.call1 hf hk⟩)) ?_ AllReadyH.nil
        · intro v63 W63 h63
          simp only [Act.put, List.setIfInBounds_toArray, List.set_cons_zero, List.set_cons_succ]
          refine wpAnyH_ready (rs := [3]) (by kernel_rfl) (by simp) ?_
          refine AllReadyH.callR (fun x W' => R1S w l m (some v63) (some x) (some g40) (some g58) W') rfl (by rfl) 11 #[.agg (bytesV m)] (by go_simp) (fun _ _ q => q.sp) ((rread4 W63 m hM).mono (by rintro e w2 ⟨v, rfl, hf, hk⟩; exact ⟨v, rfl, h63.call2 hf hk⟩)) ?_ AllReadyH.nil
          · intro v64 W64 h64
            simp only [Act.put, List.setIfInBounds_toArray, List.set_cons_zero, List.set_cons_succ]
            have hq := part1_end h64
            obtain ⟨c7, c8, e7, e8, hi7, hi8, s7, s8, o7, o8, t7, t8, hS1, hS2, hfin⟩ := hq
            refine wpAnyH_ready (rs := [6]) (by kernel_rfl) (by simp) ?_
            refine AllReadyH.storeL rfl (by rfl) g40 0 c7 rfl e7 t7 hi7 o7 hS1 ?_ AllReadyH.nil
            refine wpAnyH_ready (rs := [7]) (by kernel_rfl) (by simp) ?_
            refine AllReadyH.storeL rfl (by rfl) g58 0 c8 rfl e8 t8 hi8 o8 hS2 ?_ AllReadyH.nil
            refine wpAnyH_done (by kernel_rfl) ?_ _
            exact into4_of g40 g58 v63 v64 hfin rfl
    · intro W41 h41
      generalize W0.heap.size = g41 at h41 ⊢
      simp only [Act.put, List.setIfInBounds_toArray, List.set_cons_zero, List.set_cons_succ]
      refine wpAnyH_ready (rs := [1, 4]) (by kernel_rfl) (by simp) ?_
      refine AllReadyH.callR (fun x W' => R1S w l m (some x) none none (some g41) W') rfl (by rfl) 11 #[.agg (bytesV l)] (by go_simp) (fun _ _ q => q.sp) ((rread4 W41 l hL).mono (by rintro e w2 ⟨v, rfl, hf, hk⟩; exact ⟨v, rfl, h41.call1 hf hk⟩)) ?_ (AllReadyH.valR (fun W' => R1S w l m none none (some W41.heap.size) (some g41) W') rfl (by rfl) (.pointer (some ⟨W41.heap.size, 0, none⟩)) (W41.alloc (.cells zero4 34)) (by go_simp; rfl) (fun _ q => q.sp) h41.alloc7 ?_ AllReadyH.nil)
      · intro v65 W65 h65
        simp only [Act.put, List.setIfInBounds_toArray, List.set_cons_zero, List.set_cons_succ]
        refine wpAnyH_ready (rs := [3, 4]) (by kernel_rfl) (by simp) ?_
        refine AllReadyH.callR (fun x W' => R1S w l m (some v65) (some x) none (some g41) W') rfl (by rfl) 11 #[.agg (bytesV m)] (by go_simp) (fun _ _ q => q.sp) ((rread4 W65 m hM).mono (by rintro e w2 ⟨v, rfl, hf, hk⟩; exact ⟨v, rfl, h65.call2 hf hk⟩)) ?_ (AllReadyH.valR (fun W' => R1S w l m (some v65) none (some W65.heap.size) (some g41) W') rfl (by rfl) (.pointer (some ⟨W65.heap.size, 0, none⟩)) (W65.alloc (.cells zero4 34)) (by go_simp; rfl) (fun _ q => q.sp) h65.alloc7 ?_ AllReadyH.nil)
        · intro v67 W67 h67
          simp only [Act.put, List.setIfInBounds_toArray, List.set_cons_zero, List.set_cons_succ]
          refine wpAnyH_ready (rs := [4]) (by kernel_rfl) (by simp) ?_
          refine AllReadyH.valR (fun W' => R1S w l m (some v65) (some v67) (some W67.heap.size) (some g41) W') rfl (by rfl) (.pointer (some ⟨W67.heap.size, 0, none⟩)) (W67.alloc (.cells zero4 34)) (by go_simp; rfl) (fun _ q => q.sp) h67.alloc7 ?_ AllReadyH.nil
          · intro W69 h69
            generalize W67.heap.size = g69 at h69 ⊢
            simp only [Act.put, List.setIfInBounds_toArray, List.set_cons_zero, List.set_cons_succ]
            have hq := part1_end h69
            obtain ⟨c7, c8, e7, e8, hi7, hi8, s7, s8, o7, o8, t7, t8, hS1, hS2, hfin⟩ := hq
            refine wpAnyH_ready (rs := [6]) (by kernel_rfl) (by simp) ?_
            refine AllReadyH.storeL rfl (by rfl) g69 0 c7 rfl e7 t7 hi7 o7 hS1 ?_ AllReadyH.nil
            refine wpAnyH_ready (rs := [7]) (by kernel_rfl) (by simp) ?_
            refine AllReadyH.storeL rfl (by rfl) g41 0 c8 rfl e8 t8 hi8 o8 hS2 ?_ AllReadyH.nil
            refine wpAnyH_done (by kernel_rfl) ?_ _
            exact into4_of g69 g41 v65 v67 hfin rfl
        · intro W68 h68
          generalize W65.heap.size = g68 at h68 ⊢
          simp only [Act.put, List.setIfInBounds_toArray, List.set_cons_zero, List.set_cons_succ]
          refine wpAnyH_ready (rs := [3]) (by kernel_rfl) (by simp) ?_
          refine AllReadyH.callR (fun x W' => R1S w l m (some v65) (some x) (some g68) (some g41) W') rfl (by rfl) 11 #[.agg (bytesV m)] (by go_simp) (fun _ _ q => q.sp) ((rread4 W68 m hM).mono (by rintro e w2 ⟨v, rfl, hf, hk⟩; exact ⟨v, rfl, h68.call2 hf hk⟩)) ?_ AllReadyH.nil
          · intro v70 W70 h70
            simp only [Act.put, List.setIfInBounds_toArray, List.set_cons_zero, List.set_cons_succ]
            have hq := part1_end h70
            obtain ⟨c7, c8, e7, e8, hi7, hi8, s7, s8, o7, o8, t7, t8, hS1, hS2, hfin⟩ := hq
            refine wpAnyH_ready (rs := [6]) (by kernel_rfl) (by simp) ?_
            refine AllReadyH.storeL rfl (by rfl) g68 0 c7 rfl e7 t7 hi7 o7 hS1 ?_ AllReadyH.nil
            refine wpAnyH_ready (rs := [7]) (by kernel_rfl) (by simp) ?_
            refine AllReadyH.storeL rfl (by rfl) g41 0 c8 rfl e8 t8 hi8 o8 hS2 ?_ AllReadyH.nil
            refine wpAnyH_done (by kernel_rfl) ?_ _
            exact into4_of g68 g41 v65 v70 hfin rfl
      · intro W66 h66
        generalize W41.heap.size = g66 at h66 ⊢
        simp only [Act.put, List.setIfInBounds_toArray, List.set_cons_zero, List.set_cons_succ]
        refine wpAnyH_ready (rs := [1]) (by kernel_rfl) (by simp) ?_
        refine AllReadyH.callR (fun x W' => R1S w l m (some x) none (some g66) (some g41) W') rfl (by rfl) 11 #[.agg (bytesV l)] (by go_simp) (fun _ _ q => q.sp) ((rread4 W66 l hL).mono (by rintro e w2 ⟨v, rfl, hf, hk⟩; exact ⟨v, rfl, h66.call1 hf hk⟩)) ?_ AllReadyH.nil
        · intro v71 W71 h71
          simp only [Act.put, List.setIfInBounds_toArray, List.set_cons_zero, List.set_cons_succ]
          refine wpAnyH_ready (rs := [3]) (by kernel_rfl) (by simp) ?_
          refine AllReadyH.callR (fun x W' => R1S w l m (some v71) (some x) (some g66) (some g41) W') rfl (by rfl) 11 #[.agg (bytesV m)] (by go_simp) (fun _ _ q => q.sp) ((rread4 W71 m hM).mono (by rintro e w2 ⟨v, rfl, hf, hk⟩; exact ⟨v, rfl, h71.call2 hf hk⟩)) ?_ AllReadyH.nil
          · intro v72 W72 h72
            simp only [Act.put, List.setIfInBounds_toArray, List.set_cons_zero, List.set_cons_succ]
            have hq := part1_end h72
            obtain ⟨c7, c8, e7, e8, hi7, hi8, s7, s8, o7, o8, t7, t8, hS1, hS2, hfin⟩ := hq
            refine wpAnyH_ready (rs := [6]) (by kernel_rfl) (by simp) ?_
            refine AllReadyH.storeL rfl (by rfl) g66 0 c7 rfl e7 t7 hi7 o7 hS1 ?_ AllReadyH.nil
            refine wpAnyH_ready (rs := [7]) (by kernel_rfl) (by simp) ?_
            refine AllReadyH.storeL rfl (by rfl) g41 0 c8 rfl e8 t8 hi8 o8 hS2 ?_ AllReadyH.nil
            refine wpAnyH_done (by kernel_rfl) ?_ _
            exact into4_of g66 g41 v71 v72 hfin rfl
  intro g7 g8 u v W hq
  obtain ⟨c7, c8, rfl, rfl, hf1, hf2, hPA⟩ := hq
  have HL := Lib.hid hL
  have HM := Lib.hid hM
  have HF1 := Lib.hid hf1
  have HF2 := Lib.hid hf2
  have HPA := Lib.hid hPA
  obtain ⟨X, Y, ec, hcut, hX, hY⟩ := cut_pages hL n
  obtain ⟨Z, fc, hjoin, hZ⟩ := join_page l m
  have HC := Lib.hid hcut
  have HJ := Lib.hid hjoin
  obtain ⟨sX, oX, pX⟩ := hX
  obtain ⟨sY, oY, pY⟩ := hY
  obtain ⟨sZ, oZ, pZ⟩ := hZ
  have l256 := hL.len
  have m256 := hM.len
  have t3 := hPA.b3.thereAll 256 (by rw [bytesV_size]; exact l256)
  have r3 := hPA.b3.readAll 256 (by rw [bytesV_size]; exact l256)
  have zsz := zero256_size
  have zon := zero256_one
  have zok := pgOK_zero
  clear hL hM hf1 hf2 hPA hcut hjoin hi1 hi2 hu26 H0
  go_wp2_with (go_at_call 20; go_must (refine (Cut_ok _ l HL.out n).mono ?_); rintro e w2 hq; rw [HC.out] at hq; obtain ⟨rfl, hk⟩ := hq; obtain ⟨th9, th10, hb9, hb10, kk⟩ := two_pages w2 X Y sX sY; have hkk := hk.trans kk (fun _ _ q => q); have HKK := Lib.hid hkk; have HB9 := Lib.hid hb9; have HB10 := Lib.hid hb10; have t3' := (HPA.out.b3.keep hkk (fun q => q)).thereAll 256 (by rw [bytesV_size]; exact l256); have r3' := (HPA.out.b3.keep hkk (fun q => q)).readAll 256 (by rw [bytesV_size]; exact l256); have t4' := (HPA.out.b4.keep hkk (fun q => q)).thereAll 256 (by rw [bytesV_size]; exact m256); have r4' := (HPA.out.b4.keep hkk (fun q => q)).readAll 256 (by rw [bytesV_size]; exact m256); clear hk hb9 hb10 kk hkk t3 r3)
  refine forget (p := fun wx => Calls _ _ _ wx _) (PB w l m g7 g8 c7 c8 w2.heap.size X Y) ⟨HPA.out.keep HKK.out, HF1.out.keep HKK.out, HF2.out.keep HKK.out, HB9.out, HB10.out⟩ ?_
  clear th9 th10 t3' r3' t4' r4' HKK HB9 HB10 HPA HF1 HF2
  generalize w2.heap.size = g9
  intro V hPB
  have HPB := Lib.hid hPB
  clear hPB
  rcases hr1 : readF l with _ | ⟨k1, l1, cs⟩
  · have h1 := HPB.out.f1
    rw [hr1] at h1
    obtain rfl : c7 = rBody4 false 0 0 none 0 0 := Value.agg.inj h1
    have h2 := HC.out
    rw [show cutF l n = (zero256, zero256, 8) by unfold cutF; rw [hr1]] at h2
    simp only [Prod.mk.injEq] at h2
    obtain ⟨rfl, rfl, rfl⟩ := h2
    have h3 := HJ.out
    rw [show joinF l m = (zero256, 8) by unfold joinF; rw [hr1]] at h3
    simp only [Prod.mk.injEq] at h3
    obtain ⟨rfl, rfl⟩ := h3
    have HR1 := Lib.hid hr1
    clear h1 hr1
    refine (Join_ok _ l m HL.out HM.out).mono ?_
    rintro e w4 hq
    rw [HJ.out] at hq
    obtain ⟨rfl, hk⟩ := hq
    obtain ⟨th12, hb12, kk⟩ := one_page w4 _ sZ
    have HPC := Lib.hid (show PC w l m g7 g8 _ _ g9 _ _ w4.heap.size _ _ from ⟨HPB.out.keep (hk.trans kk (fun _ _ q => q)), hb12⟩)
    have HKV := Lib.hid (hk.trans kk (fun _ _ q => q))
    clear hk hb12 kk
    have c70 := cellAt (v := .bool false) HPC.out.pb.pa.b7 0 rfl
    have t9 := HPC.out.pb.b9.thereAll 256 zsz
    have r9 := HPC.out.pb.b9.readAll 256 zsz
    have t10 := HPC.out.pb.b10.thereAll 256 zsz
    have r10 := HPC.out.pb.b10.readAll 256 zsz
    have t12 := HPC.out.b12.thereAll 256 zsz
    have r12 := HPC.out.b12.readAll 256 zsz
    go_wp2_with (go_at_call 8; go_must (refine (awake_ok _).mono ?_); rintro e w9 ⟨rfl, hk9⟩; have HK9 := Lib.hid hk9; clear hk9)
    go_ret
    exact ⟨rfl, HPC.out.pb.pa.kp.trans HK9.out (fun _ _ q => q)⟩
  · obtain ⟨A, cap, h1, hsl, hnA, hform, hcap⟩ := (show RRf (some (k1, l1, cs)) (.agg c7) V from hr1 ▸ HPB.out.f1).form
    obtain rfl : c7 = rBody4 true k1 l1 A cs.length cap := Value.agg.inj h1
    have hfa := readF_facts HL.out hr1
    have HR1 := Lib.hid hr1
    have HSL := Lib.hid hsl
    have HNA := Lib.hid hnA
    have hc250 := hfa.1
    have HFA := Lib.hid hfa
    clear h1 hr1 hsl hnA hfa
    have i0e : ∃ i, Try.prog.info? 9 = some i ∧ i.zero = some (.string ByteArray.empty) ∧ i.size = 1 ∧ i.bytes = 16 := by
      obtain ⟨i, a, b, c, d⟩ := info_parts infoStr
      exact ⟨i, a, b, c, d⟩
    obtain ⟨i0, hi0, hz0, hz1, hz2⟩ := i0e
    have HI0 := Lib.hid hi0
    have HZ0 := Lib.hid hz0
    have HZ1 := Lib.hid hz1
    have HZ2 := Lib.hid hz2
    clear hi0 hz0 hz1 hz2
    by_cases hbad : n < 0 ∨ (cs.length : Int) < n
    · have h2 := HC.out
      rw [show cutF l n = (zero256, zero256, 4) by unfold cutF; rw [HR1.out]; exact if_pos hbad] at h2
      simp only [Prod.mk.injEq] at h2
      obtain ⟨rfl, rfl, rfl⟩ := h2
      rcases hr2 : readF m with _ | ⟨k2, l2, ds⟩
      · have h3 := HJ.out
        rw [show joinF l m = (zero256, 8) by unfold joinF; rw [HR1.out, hr2]] at h3
        simp only [Prod.mk.injEq] at h3
        obtain ⟨rfl, rfl⟩ := h3
        have hd := HPB.out.f2
        rw [hr2] at hd
        obtain rfl : c8 = rBody4 false 0 0 none 0 0 := Value.agg.inj hd
        have HR2 := Lib.hid hr2
        clear hd hr2
        refine (Join_ok _ l m HL.out HM.out).mono ?_
        rintro e w4 hq
        rw [HJ.out] at hq
        obtain ⟨rfl, hk⟩ := hq
        obtain ⟨th12, hb12, kk⟩ := one_page w4 _ sZ
        have HPC := Lib.hid (show PC w l m g7 g8 _ _ g9 _ _ w4.heap.size _ _ from ⟨HPB.out.keep (hk.trans kk (fun _ _ q => q)), hb12⟩)
        have HKV := Lib.hid (hk.trans kk (fun _ _ q => q))
        clear hk hb12 kk
        have c70 := cellAt (v := .bool true) HPC.out.pb.pa.b7 0 rfl
        have c73 := cellAt (v := .slice A cs.length cap) HPC.out.pb.pa.b7 3 rfl
        have t9 := HPC.out.pb.b9.thereAll 256 zsz
        have r9 := HPC.out.pb.b9.readAll 256 zsz
        have t10 := HPC.out.pb.b10.thereAll 256 zsz
        have r10 := HPC.out.pb.b10.readAll 256 zsz
        obtain ⟨th16, k16, hb16, hs16⟩ := after15 ((w4.alloc (.cells zero256 26)).setCells w4.heap.size 0 zero256.toList) (w4.heap.size + 1) (by simp [size_setCells])
        have HPC6 := Lib.hid (HPC.out.keep k16)
        have HB16 := Lib.hid hb16
        have HS16 := Lib.hid hs16
        have HK16 := Lib.hid k16
        have t16 := hb16.thereAll 256 zsz
        have r16 := hb16.readAll 256 zsz
        have t12 := HPC6.out.b12.thereAll 256 sZ
        have r12 := HPC6.out.b12.readAll 256 sZ
        clear k16 hb16 hs16
        have c80 := cellAt (v := .bool false) HPC6.out.pb.pa.b8 0 rfl
        rcases (show n < 0 ∨ (0 ≤ n ∧ (cs.length : Int) < n) by omega) with q | ⟨q0, q⟩
        all_goals
          clear hbad
          go_wp2_with (go_at_call 8; go_must (refine (awake_ok _).mono ?_); rintro e w9 ⟨rfl, hk9⟩; have HK9 := Lib.hid hk9; clear hk9)
          go_ret
          exact ⟨rfl, HPC6.out.pb.pa.kp.trans HK9.out (fun _ _ q => q)⟩
      · obtain ⟨B, cb, hd, hsd, hnB, -, -⟩ := (show RRf (some (k2, l2, ds)) (.agg c8) _ from hr2 ▸ HPB.out.f2).form
        obtain rfl : c8 = rBody4 true k2 l2 B ds.length cb := Value.agg.inj hd
        have HR2 := Lib.hid hr2
        have HSD := Lib.hid hsd
        have HNB := Lib.hid hnB
        have hfb := readF_facts HM.out hr2
        have hd250 := hfb.1
        have hkb := hfb.2.2
        have HFB := Lib.hid hfb
        clear hd hsd hnB hr2 hfb
        by_cases hkk : k1 = k2
        · subst hkk
          have h3 := HJ.out
          rw [show joinF l m = toldR k1 l2 (cs ++ ds) by unfold joinF; rw [HR1.out, HR2.out]; exact if_pos rfl] at h3
          have HT := Lib.hid h3
          clear h3
          refine (Join_ok _ l m HL.out HM.out).mono ?_
          rintro e w4 hq
          rw [HJ.out] at hq
          obtain ⟨rfl, hk⟩ := hq
          obtain ⟨th12, hb12, kk⟩ := one_page w4 _ sZ
          have HPC := Lib.hid (show PC w l m g7 g8 _ _ g9 _ _ w4.heap.size _ _ from ⟨HPB.out.keep (hk.trans kk (fun _ _ q => q)), hb12⟩)
          have HKV := Lib.hid (hk.trans kk (fun _ _ q => q))
          clear hk hb12 kk
          have c70 := cellAt (v := .bool true) HPC.out.pb.pa.b7 0 rfl
          have c73 := cellAt (v := .slice A cs.length cap) HPC.out.pb.pa.b7 3 rfl
          have t9 := HPC.out.pb.b9.thereAll 256 zsz
          have r9 := HPC.out.pb.b9.readAll 256 zsz
          have t10 := HPC.out.pb.b10.thereAll 256 zsz
          have r10 := HPC.out.pb.b10.readAll 256 zsz
          obtain ⟨th16, k16, hb16, hs16⟩ := after15 ((w4.alloc (.cells zero256 26)).setCells w4.heap.size 0 Z.toList) (w4.heap.size + 1) (by simp [size_setCells])
          have HPC6 := Lib.hid (HPC.out.keep k16)
          have HB16 := Lib.hid hb16
          have HS16 := Lib.hid hs16
          have HK16 := Lib.hid k16
          have t16 := hb16.thereAll 256 zsz
          have r16 := hb16.readAll 256 zsz
          have t12 := HPC6.out.b12.thereAll 256 sZ
          have r12 := HPC6.out.b12.readAll 256 sZ
          clear k16 hb16 hs16
          have H60 : Hid (∀ c ∈ cs ++ ds, 1 ≤ c.size ∧ c.size ≤ 60) := Lib.hid (fun c hc => (List.mem_append.1 hc).elim (HFA.out.2.1 c) (HFB.out.2.1 c))
          have HSLV := Lib.hid (HSL.out.keep HKV.out)
          have HSDV := Lib.hid (HSD.out.keep HKV.out)
          have c80 := cellAt (v := .bool true) HPC6.out.pb.pa.b8 0 rfl
          have c71 := cellAt (v := .int .i64 k1) HPC6.out.pb.pa.b7 1 rfl
          have c81 := cellAt (v := .int .i64 k1) HPC6.out.pb.pa.b8 1 rfl
          have t8 := HPC6.out.pb.pa.b8.thereAll 4 rfl
          have r8 := HPC6.out.pb.pa.b8.readAll 4 rfl
          have s8 : (rBody4 true k1 l2 B ds.length cb).size = 4 := rfl
          have o8 : ones (rBody4 true k1 l2 B ds.length cb) := body4_one _ _ _ _ _ _
          obtain ⟨th18, k19, hb18, hs19⟩ := after19 ((((w4.alloc (.cells zero256 26)).setCells w4.heap.size 0 Z.toList).alloc (.cells zero256 26)).setCells (w4.heap.size + 1) 0 zero256.toList) (w4.heap.size + 1 + 1) (rBody4 true k1 l2 B ds.length cb) HS16.out rfl
          have hpc7 := HPC6.out.keep k19
          have HTW8 := Lib.hid ((show TW ((w4.alloc (.cells zero256 26)).setCells w4.heap.size 0 Z.toList) (w4.heap.size + 1) (w4.heap.size + 1 + 1) k1 l2 (.slice B ds.length cb) _ from ⟨HK16.out.trans k19 (fun _ _ q => q), HB16.out.keep k19 (fun q => q), hb18⟩).alloc (.cells #[] 9))
          have hpc8 := hpc7.keep ((Kp.refl NoB _).alloc (.cells #[] 9))
          have c73w := cellAt (v := .slice A cs.length cap) hpc8.pb.pa.b7 3 rfl
          have HSA8 := Lib.hid (Sl.keep HSLV.out HTW8.out.k)
          have HOWN8 := Lib.hid (show (((((((w4.alloc (.cells zero256 26)).setCells w4.heap.size 0 Z.toList).alloc (.cells zero256 26)).setCells (w4.heap.size + 1) 0 zero256.toList).alloc (.cells #[.bool false, .int .i64 0, .int .u32 0, .slice none 0 0] 34)).setCells (w4.heap.size + 1 + 1) 0 (rBody4 true k1 l2 B ds.length cb).toList).alloc (.cells #[] 9)).ownsRow (w4.heap.size + 1 + 1 + 1) 9 1 (.slice (some ⟨w4.heap.size + 1 + 1 + 1, 0, none⟩) 0 0) 0 [] from ⟨rfl, .inr ⟨w4.heap.size + 1 + 1 + 1, 0, #[], rfl, Nat.le_refl _, Blk.newAt _ _ _ _ hs19, Nat.le_refl _, by simp, rfl, rfl⟩⟩)
          have HS8 := Lib.hid (show w4.heap.size + 1 + 1 + 1 ≤ (((((((w4.alloc (.cells zero256 26)).setCells w4.heap.size 0 Z.toList).alloc (.cells zero256 26)).setCells (w4.heap.size + 1) 0 zero256.toList).alloc (.cells #[.bool false, .int .i64 0, .int .u32 0, .slice none 0 0] 34)).setCells (w4.heap.size + 1 + 1) 0 (rBody4 true k1 l2 B ds.length cb).toList).alloc (.cells #[] 9)).heap.size by rw [← hs19]; simp)
          clear k19 hb18 hs19 hpc7 hpc8
          rcases (show n < 0 ∨ (0 ≤ n ∧ (cs.length : Int) < n) by omega) with q | ⟨q0, q⟩
          all_goals
            clear hbad
            go_wp2_with (first
              | (have hG := HOWN8; clear hG; at_builtin; refine wpList_append_src rfl _ _ 23 rfl (w4.heap.size + 1 + 1 + 1) 9 i0 _ 16 Try.underlying23 HI0.out HZ0.out HZ1.out HZ2.out rfl _ 0 [] rfl HOWN8.out A cs.length cap (cs.map Value.string) rfl (fun e => by first | exact HNA.out e | exact HNA.out trivial | cases e) (by rw [List.length_map]) (cat_src HSA8.out) (texts_one cs) (by unfold maxLen; omega) (by omega) HS8.out ?_; intro v1 w11 hown1 hgr1; rw [Nat.zero_add, List.nil_append] at hown1; obtain ⟨A1, cap1, rfl⟩ := own_slice hown1; obtain ⟨c183, f183, htw12, hown12, c183w⟩ := HTW8.out.step (by simp [size_setCells]) (by omega) hgr1 (by intro k e; have e1 : w4.heap.size + 1 + 1 + 1 = k := Option.some.inj e; omega) hown1; have hpc12 := HPC.out.keep htw12.k; have c83w := cellAt (v := .slice B ds.length cb) hpc12.pb.pa.b8 3 rfl; have HSB12 := Lib.hid (HSDV.out.keep htw12.k); have HOWN12 := Lib.hid hown12; have HTW12 := Lib.hid htw12; have HS12 := Lib.hid (Nat.le_of_lt_succ (Nat.succ_lt_succ htw12.b18.lt)); clear hown1 hgr1 htw12 hown12 hpc12 HOWN8 HTW8)
              | (have hG := HOWN12; clear hG; at_builtin; refine wpList_append_src rfl _ _ 23 rfl (w4.heap.size + 1 + 1 + 1) 9 i0 _ 16 Try.underlying23 HI0.out HZ0.out HZ1.out HZ2.out rfl _ cs.length (cs.map Value.string) rfl HOWN12.out B ds.length cb (ds.map Value.string) rfl HNB.out (by rw [List.length_map]) (cat_src HSB12.out) (texts_one ds) (by unfold maxLen; omega) (by omega) HS12.out ?_; intro v2 w13 hown2 hgr2; rw [← List.map_append] at hown2; obtain ⟨C, cc, rfl⟩ := own_slice hown2; obtain ⟨c183, f183, htw14, hown14, c183w⟩ := HTW12.out.step (by simp [size_setCells]) (by omega) hgr2 (own_ge HOWN12.out) hown2; have t18w := htw14.b18.thereAll 4 rfl; have r18w := htw14.b18.readAll 4 rfl; have HSC := Lib.hid (own_Sl hown14 List.length_append); have HTW14 := Lib.hid htw14; clear hown2 hgr2 htw14 hown14 HOWN12 HTW12)
              | (go_at_call 23; go_must (refine (rtold_ok _ true k1 l2 C (cs.length + ds.length) cc (cs ++ ds) HFA.out.2.2.1 (by have := HFA.out.2.2.2.1; omega) (by omega) H60.out HSC.out).mono ?_); rintro e w15 hq; rw [HT.out] at hq; obtain ⟨rfl, hk15⟩ := hq; have hb16x := HTW14.out.b16.keep hk15 (fun q => q); have th16w := hb16x.thereAll 256 zsz; have hb16w := hb16x.whole Z (by rw [zsz]; exact sZ.symm); have t16w := hb16w.thereAll 256 sZ; have r16w := hb16w.readAll 256 sZ; have hpcw := HPC.out.keep (Kp.setCells (S := NoB) (g := w4.heap.size + 1) (.inl (by simp [size_setCells])) Z.toList 0 _ (HTW14.out.k.trans hk15 (fun _ _ q => q))); have t12w := hpcw.b12.thereAll 256 sZ; have r12w := hpcw.b12.readAll 256 sZ; have HPCW := Lib.hid hpcw; clear hk15 hb16x hb16w hpcw)
              | (go_at_call 8; go_must (refine (awake_ok _).mono ?_); rintro e w9 ⟨rfl, hk9⟩; have HK9 := Lib.hid hk9; clear hk9))
            go_ret
            exact ⟨rfl, HPCW.out.pb.pa.kp.trans HK9.out (fun _ _ q => q)⟩
        · have h3 := HJ.out
          rw [show joinF l m = (zero256, 2) by unfold joinF; rw [HR1.out, HR2.out]; exact if_neg hkk] at h3
          simp only [Prod.mk.injEq] at h3
          obtain ⟨hz3, rfl⟩ := h3
          have HZ3 := Lib.hid hz3.symm
          clear hz3
          have hkd : decide (k1 = k2) = false := decide_eq_false hkk
          have hk4 : (k1 == k2) = false := beq_eq_false_iff_ne.2 hkk
          have hk5 : (k1 != k2) = true := bne_iff_ne.2 hkk
          refine (Join_ok _ l m HL.out HM.out).mono ?_
          rintro e w4 hq
          rw [HJ.out] at hq
          obtain ⟨rfl, hk⟩ := hq
          obtain ⟨th12, hb12, kk⟩ := one_page w4 _ sZ
          have HPC := Lib.hid (show PC w l m g7 g8 _ _ g9 _ _ w4.heap.size _ _ from ⟨HPB.out.keep (hk.trans kk (fun _ _ q => q)), hb12⟩)
          have HKV := Lib.hid (hk.trans kk (fun _ _ q => q))
          clear hk hb12 kk
          have c70 := cellAt (v := .bool true) HPC.out.pb.pa.b7 0 rfl
          have c73 := cellAt (v := .slice A cs.length cap) HPC.out.pb.pa.b7 3 rfl
          have t9 := HPC.out.pb.b9.thereAll 256 zsz
          have r9 := HPC.out.pb.b9.readAll 256 zsz
          have t10 := HPC.out.pb.b10.thereAll 256 zsz
          have r10 := HPC.out.pb.b10.readAll 256 zsz
          obtain ⟨th16, k16, hb16, hs16⟩ := after15 ((w4.alloc (.cells zero256 26)).setCells w4.heap.size 0 Z.toList) (w4.heap.size + 1) (by simp [size_setCells])
          have HPC6 := Lib.hid (HPC.out.keep k16)
          have HB16 := Lib.hid hb16
          have HS16 := Lib.hid hs16
          have HK16 := Lib.hid k16
          have t16 := hb16.thereAll 256 zsz
          have r16 := hb16.readAll 256 zsz
          have t12 := HPC6.out.b12.thereAll 256 sZ
          have r12 := HPC6.out.b12.readAll 256 sZ
          clear k16 hb16 hs16
          have r12z := r12.trans HZ3.out
          clear r12
          have c80 := cellAt (v := .bool true) HPC6.out.pb.pa.b8 0 rfl
          have c71 := cellAt (v := .int .i64 k1) HPC6.out.pb.pa.b7 1 rfl
          have c81 := cellAt (v := .int .i64 k2) HPC6.out.pb.pa.b8 1 rfl
          rcases (show n < 0 ∨ (0 ≤ n ∧ (cs.length : Int) < n) by omega) with q | ⟨q0, q⟩
          all_goals
            clear hbad
            go_wp2_with (go_at_call 8; go_must (refine (awake_ok _).mono ?_); rintro e w9 ⟨rfl, hk9⟩; have HK9 := Lib.hid hk9; clear hk9)
            go_ret
            exact ⟨rfl, HPC6.out.pb.pa.kp.trans HK9.out (fun _ _ q => q)⟩
    · have h2 := HC.out
      rw [show cutF l n = (bytesV (layI k1 0 (cs.take n.toNat)), bytesV (layI k1 l1 (cs.drop n.toNat)), 0) by unfold cutF; rw [HR1.out]; exact if_neg hbad] at h2
      simp only [Prod.mk.injEq] at h2
      obtain ⟨hX2, hY2, rfl⟩ := h2
      have hroom := readF_room HL.out HR1.out
      obtain ⟨k, rfl⟩ := Int.eq_ofNat_of_zero_le (show 0 ≤ n by omega)
      rw [show ((k : Int)).toNat = k by omega] at hX2 hY2
      have hk : k ≤ cs.length := by omega
      have hki : (k : Int) ≤ cs.length := by omega
      have hkc : (k : Int) ≤ (cap : Int) := by omega
      have q1 := roomI_take_ge cs k
      have q2 := roomI_drop_ge cs k
      have HRM := Lib.hid (show 0 ≤ roomI (cs.take k) ∧ 0 ≤ roomI (cs.drop k) from ⟨by omega, by omega⟩)
      have len1 := layI_len k1 0 (cs.take k) (by omega)
      have len2 := layI_len k1 l1 (cs.drop k) (by omega)
      obtain ⟨L1, hL1⟩ : ∃ L, layI k1 0 (cs.take k) = L := ⟨_, rfl⟩
      obtain ⟨L2, hL2⟩ : ∃ L, layI k1 l1 (cs.drop k) = L := ⟨_, rfl⟩
      rw [hL1] at hX2 len1
      rw [hL2] at hY2 len2
      have HL1 := Lib.hid hL1
      have HL2 := Lib.hid hL2
      subst hX2 hY2
      have h0n : ¬ ((k : Int) < 0) := by omega
      clear hbad hroom q1 q2 hL1 hL2
      refine (Join_ok _ l m HL.out HM.out).mono ?_
      rintro e w4 hq
      rw [HJ.out] at hq
      obtain ⟨rfl, hk⟩ := hq
      obtain ⟨th12, hb12, kk⟩ := one_page w4 _ sZ
      have HPC := Lib.hid (show PC w l m g7 g8 _ _ g9 _ _ w4.heap.size _ _ from ⟨HPB.out.keep (hk.trans kk (fun _ _ q => q)), hb12⟩)
      have HKV := Lib.hid (hk.trans kk (fun _ _ q => q))
      clear hk hb12 kk
      have c70 := cellAt (v := .bool true) HPC.out.pb.pa.b7 0 rfl
      have c73 := cellAt (v := .slice A cs.length cap) HPC.out.pb.pa.b7 3 rfl
      go_wp2_with fail
      refine forget (p := fun wx => Code.wp _ _ _ _ wx) (fun W' => PC w l m g7 g8 (rBody4 true k1 l1 A cs.length cap) c8 g9 (bytesV L1) (bytesV L2) w4.heap.size Z W' ∧ Sl W' A cs.length cs) ⟨HPC.out, HSL.out.keep HKV.out⟩ ?_
      clear c70 c73 th12 HPC
      generalize w4.heap.size = g12
      rintro V9 ⟨hV9, hsl9⟩
      have HV9 := Lib.hid hV9
      have HSL9 := Lib.hid hsl9
      apply wp_into2 (G := R10 V9 (rBody4 true k1 l1 A cs.length cap))
      · have h9 : R9 V9 none none V9.drew := ⟨(Kp.refl NoB V9).drew, (fun _ e => nomatch e), (fun _ e => nomatch e), (fun _ _ e => nomatch e)⟩
        refine wp_region_held_drew (S := fun W' => Blk W' g7 34 (rBody4 true k1 l1 A cs.length cap)) (by kernel_rfl) (HV9.out.pb.pa.b7.keep h9.k (fun q => q)) (fun hHeld => ?_)
        refine wpAnyH_takeL (i := 0) (v := .agg (rBody4 true k1 l1 A cs.length cap)) rfl (by kernel_rfl) (by kernel_rfl) (by kernel_rfl) (fun _ _ _ h => h) (Or.inl ⟨by rfl, fun w hw => by have tt := Blk.thereAll hw 4 rfl; have rr := Blk.readAll hw 4 rfl; go_simp⟩) hHeld ?_
        simp only [Act.put, List.setIfInBounds_toArray, List.set_cons_zero, List.set_cons_succ]
        refine wpAnyH_takeL (i := 1) (v := .agg (rBody4 true k1 l1 A cs.length cap)) rfl (by kernel_rfl) (by kernel_rfl) (by kernel_rfl) (fun _ _ _ h => h) (Or.inl ⟨by rfl, fun w hw => by have tt := Blk.thereAll hw 4 rfl; have rr := Blk.readAll hw 4 rfl; go_simp⟩) hHeld ?_
        simp only [Act.put, List.setIfInBounds_toArray, List.set_cons_zero, List.set_cons_succ]
        generalize V9.drew = W0 at h9 ⊢
        refine wpAnyH_ready (rs := [2, 3]) (by kernel_rfl) (by simp) ?_
        refine AllReadyH.valR (fun W' => R9 V9 (some W0.heap.size) none W') rfl (by rfl) (.pointer (some ⟨W0.heap.size, 0, none⟩)) (W0.alloc (.cells zero4 34)) (by go_simp; rfl) (fun _ q => HV9.out.pb.pa.b7.keep q.k (fun q => q)) h9.alloc14 ?_ (AllReadyH.valR (fun W' => R9 V9 none (some W0.heap.size) W') rfl (by rfl) (.pointer (some ⟨W0.heap.size, 0, none⟩)) (W0.alloc (.cells zero4 34)) (by go_simp; rfl) (fun _ q => HV9.out.pb.pa.b7.keep q.k (fun q => q)) h9.alloc15 ?_ AllReadyH.nil)
        · intro W35 h35
          generalize W0.heap.size = g35 at h35 ⊢
          simp only [Act.put, List.setIfInBounds_toArray, List.set_cons_zero, List.set_cons_succ]
          refine wpAnyH_ready (rs := [3]) (by kernel_rfl) (by simp) ?_
          refine AllReadyH.valR (fun W' => R9 V9 (some g35) (some W35.heap.size) W') rfl (by rfl) (.pointer (some ⟨W35.heap.size, 0, none⟩)) (W35.alloc (.cells zero4 34)) (by go_simp; rfl) (fun _ q => HV9.out.pb.pa.b7.keep q.k (fun q => q)) h35.alloc15 ?_ AllReadyH.nil
          · intro W37 h37
            generalize W35.heap.size = g37 at h37 ⊢
            simp only [Act.put, List.setIfInBounds_toArray, List.set_cons_zero, List.set_cons_succ]
            obtain ⟨t14, t15, kk, hR10⟩ := h37.fin (rBody4 true k1 l1 A cs.length cap) rfl
            refine wpAnyH_ready (rs := [4]) (by kernel_rfl) (by simp) ?_
            refine AllReadyH.storeL rfl (by rfl) g35 0 (rBody4 true k1 l1 A cs.length cap) rfl rfl t14 info34 (body4_one _ _ _ _ _ _) (HV9.out.pb.pa.b7.keep kk (fun q => q)) ?_ AllReadyH.nil
            refine wpAnyH_ready (rs := [5]) (by kernel_rfl) (by simp) ?_
            refine AllReadyH.storeL rfl (by rfl) g37 0 (rBody4 true k1 l1 A cs.length cap) rfl rfl t15 info34 (body4_one _ _ _ _ _ _) (HV9.out.pb.pa.b7.keep hR10.k (fun q => q)) ?_ AllReadyH.nil
            refine wpAnyH_done (by kernel_rfl) ?_ _
            exact into2_of g35 g37 hR10 rfl
        · intro W36 h36
          generalize W0.heap.size = g36 at h36 ⊢
          simp only [Act.put, List.setIfInBounds_toArray, List.set_cons_zero, List.set_cons_succ]
          refine wpAnyH_ready (rs := [2]) (by kernel_rfl) (by simp) ?_
          refine AllReadyH.valR (fun W' => R9 V9 (some W36.heap.size) (some g36) W') rfl (by rfl) (.pointer (some ⟨W36.heap.size, 0, none⟩)) (W36.alloc (.cells zero4 34)) (by go_simp; rfl) (fun _ q => HV9.out.pb.pa.b7.keep q.k (fun q => q)) h36.alloc14 ?_ AllReadyH.nil
          · intro W38 h38
            generalize W36.heap.size = g38 at h38 ⊢
            simp only [Act.put, List.setIfInBounds_toArray, List.set_cons_zero, List.set_cons_succ]
            obtain ⟨t14, t15, kk, hR10⟩ := h38.fin (rBody4 true k1 l1 A cs.length cap) rfl
            refine wpAnyH_ready (rs := [4]) (by kernel_rfl) (by simp) ?_
            refine AllReadyH.storeL rfl (by rfl) g38 0 (rBody4 true k1 l1 A cs.length cap) rfl rfl t14 info34 (body4_one _ _ _ _ _ _) (HV9.out.pb.pa.b7.keep kk (fun q => q)) ?_ AllReadyH.nil
            refine wpAnyH_ready (rs := [5]) (by kernel_rfl) (by simp) ?_
            refine AllReadyH.storeL rfl (by rfl) g36 0 (rBody4 true k1 l1 A cs.length cap) rfl rfl t15 info34 (body4_one _ _ _ _ _ _) (HV9.out.pb.pa.b7.keep hR10.k (fun q => q)) ?_ AllReadyH.nil
            refine wpAnyH_done (by kernel_rfl) ?_ _
            exact into2_of g38 g36 hR10 rfl
      intro g14 g15 V10 hR10
      have HR10 := Lib.hid hR10
      have n7 : g7 < V9.heap.size := hV9.pb.pa.b7.lt
      have n714 : g7 ≠ g14 := by have := hR10.n14; omega
      have n715 : g7 ≠ g15 := by have := hR10.n15; omega
      have n1415 : g14 ≠ g15 := hR10.ne
      have n1514 : g15 ≠ g14 := Ne.symm hR10.ne
      have hb7x := hV9.pb.pa.b7.keep hR10.k (fun q => q)
      have HB7X := Lib.hid hb7x
      clear hR10 hb7x hV9 hsl9
      rcases hform with ⟨rfl, hn0, hcap0⟩ | ⟨g, rfl⟩
      · have HSa := Lib.hid (show ∀ W', Sl W' none k (cs.take k) from fun W' => ⟨by rw [List.length_take]; omega, fun h => by omega⟩)
        have HSb := Lib.hid (show ∀ W', Sl W' none (cs.length - k) (cs.drop k) from fun W' => ⟨by rw [List.length_drop], fun h => by omega⟩)
        clear hn0 hcap0
        obtain ⟨⟨c142, f142⟩, ⟨c73a, c143a, f143a⟩, ⟨c73b, c153b, f153b⟩, kX, bX14, bX15⟩ := after12 HR10.out HB7X.out n714 n715 none none k cap (cs.length - k) (cap - k)
        have HKX := Lib.hid kX
        have HX14 := Lib.hid bX14
        have HX15 := Lib.hid bX15
        clear kX bX14 bX15
        go_wp2_with fail
        have sl12 := HSL9.out.keep HKX.out
        refine forget (p := fun wx => Code.wp _ _ _ _ wx) (fun W' => PC w l m g7 g8 (rBody4 true k1 l1 none cs.length cap) c8 g9 (bytesV L1) (bytesV L2) g12 Z W' ∧ (Blk W' g14 34 (rBody4 true k1 0 none k cap) ∧ Blk W' g15 34 (rBody4 true k1 l1 none (cs.length - k) (cap - k))) ∧ Sl W' none k (cs.take k) ∧ Sl W' none (cs.length - k) (cs.drop k) ∧ Sl W' none cs.length cs) ⟨HV9.out.keep HKX.out, ⟨HX14.out, HX15.out⟩, HSa.out _, HSb.out _, sl12⟩ ?_
        clear c142 f142 c73a c143a f143a c73b c153b f153b sl12 HKX HX14 HX15 HR10 HB7X
        rintro V13 ⟨hV13, ⟨hb14, hb15⟩, hsa, hsb, hsl⟩
        have HV13 := Lib.hid hV13
        have HB14 := Lib.hid hb14
        have HB15 := Lib.hid hb15
        have HSA := Lib.hid hsa
        have HSB := Lib.hid hsb
        have HSL13 := Lib.hid hsl
        clear hV13 hb14 hb15 hsa hsb hsl
        have hS13 : Hid (∀ W', Kp NoB V13 W' → (W'.rangeAt g9 0 (L1.map (Value.int .u8)) ∧ W'.rangeAt (g9 + 1) 0 (L2.map (Value.int .u8))) ∧ Blk W' g14 34 (rBody4 true k1 0 none k cap) ∧ Blk W' g15 34 (rBody4 true k1 l1 none (cs.length - k) (cap - k))) := Lib.hid (fun W' k =>
          ⟨⟨Blk.range (xa := []) (xd := []) (by rw [List.nil_append, List.append_nil]; exact HV13.out.pb.b9.keep k (fun q => q)) 0 rfl, Blk.range (xa := []) (xd := []) (by rw [List.nil_append, List.append_nil]; exact HV13.out.pb.b10.keep k (fun q => q)) 0 rfl⟩, HB14.out.keep k (fun q => q), HB15.out.keep k (fun q => q)⟩)
        have hu26 := Try.underlying26
        have hiA : (Try.prog.info? 26).map (·.size) = some (L1.map (Value.int .u8)).length := by rw [List.length_map, len1]; exact info26
        have hiB : (Try.prog.info? 26).map (·.size) = some (L2.map (Value.int .u8)).length := by rw [List.length_map, len2]; exact info26
        have hkk9 : k1 ≤ 255 := by have := HFA.out.2.2.2.1; omega
        have hkk0 : 0 ≤ k1 := HFA.out.2.2.1
        have hk0 := hS13.out _ (Kp.refl NoB V13).drew
        refine wp_region_held_drew (S := fun W' => (W'.rangeAt g9 0 (L1.map (Value.int .u8)) ∧ W'.rangeAt (g9 + 1) 0 (L2.map (Value.int .u8))) ∧ Blk W' g14 34 (rBody4 true k1 0 none k cap) ∧ Blk W' g15 34 (rBody4 true k1 l1 none (cs.length - k) (cap - k))) (by kernel_rfl) hk0 (fun hHeld => ?_)
        refine wpAnyH_takeL (i := 0) (v := .int .i64 0) rfl (by kernel_rfl) (by kernel_rfl) (by kernel_rfl) (fun _ _ _ h => h) (Or.inl ⟨by rfl, fun w hw => by go_simp⟩) hHeld ?_
        simp only [Act.put, List.setIfInBounds_toArray, List.set_cons_zero, List.set_cons_succ]
        refine wpAnyH_takeL (i := 1) (v := .bool false) rfl (by kernel_rfl) (by kernel_rfl) (by kernel_rfl) (fun _ _ _ h => h) (Or.inl ⟨by rfl, fun w hw => by go_simp⟩) hHeld ?_
        simp only [Act.put, List.setIfInBounds_toArray, List.set_cons_zero, List.set_cons_succ]
        refine wpAnyH_takeL (i := 2) (v := .bool false) rfl (by kernel_rfl) (by kernel_rfl) (by kernel_rfl) (fun _ _ _ h => h) (Or.inl ⟨by rfl, fun w hw => by go_simp⟩) hHeld ?_
        simp only [Act.put, List.setIfInBounds_toArray, List.set_cons_zero, List.set_cons_succ]
        refine wpAnyH_takeL (i := 3) (v := .agg (bytesV L1)) rfl (by kernel_rfl) (by kernel_rfl) (by kernel_rfl) (fun _ _ _ h => h) (yieldsIf_load_mid (by rfl) _ _ rfl _ _ rfl (L1.map (Value.int .u8)) _ (fun _ q => q.1.1) hu26 rfl hiA) hHeld ?_
        simp only [Act.put, List.setIfInBounds_toArray, List.set_cons_zero, List.set_cons_succ]
        refine wpAnyH_takeL (i := 4) (v := .agg (rBody4 true k1 0 none k cap)) rfl (by kernel_rfl) (by kernel_rfl) (by kernel_rfl) (fun _ _ _ h => h) (Or.inl ⟨by rfl, fun w hw => by have tt := Blk.thereAll hw.2.1 4 rfl; have rr := Blk.readAll hw.2.1 4 rfl; go_simp⟩) hHeld ?_
        simp only [Act.put, List.setIfInBounds_toArray, List.set_cons_zero, List.set_cons_succ]
        refine wpAnyH_ready (rs := [5]) (by kernel_rfl) (by simp) ?_
        refine AllReadyH.callR (fun v W' => v = .agg (bytesV L1) ∧ Kp NoB V13 W') rfl (by rfl) 22 #[.agg (rBody4 true k1 0 none k cap)] (by go_simp) (fun _ _ q => hS13.out _ q.2) ((rlay_ok _ true k1 0 none k cap (cs.take k) hkk0 hkk9 (by omega) (fun c hc => HFA.out.2.1 c (List.mem_of_mem_take hc)) (HSA.out.keep ((Kp.refl NoB V13).drew)) HRM.out.1).mono (by rintro e w2 ⟨rfl, hk⟩; exact ⟨_, rfl, congrArg (fun L => Value.agg (bytesV L)) HL1.out, ((Kp.refl NoB V13).drew).trans hk (fun _ _ q => q)⟩)) ?_ AllReadyH.nil
        intro va Wa ⟨hva, hka⟩
        subst hva
        simp only [Act.put, List.setIfInBounds_toArray, List.set_cons_zero, List.set_cons_succ]
        have hHa := hS13.out _ hka
        refine wpAnyH_takeL (i := 6) (v := .bool false) rfl (by kernel_rfl) (by kernel_rfl) (by kernel_rfl) (fun _ _ _ h => h) (Or.inl ⟨by rfl, fun w hw => by go_simp⟩) hHa ?_
        simp only [Act.put, List.setIfInBounds_toArray, List.set_cons_zero, List.set_cons_succ]
        refine wpAnyH_takeL (i := 7) (v := .bool false) rfl (by kernel_rfl) (by kernel_rfl) (by kernel_rfl) (fun _ _ _ h => h) (Or.inl ⟨by rfl, fun w hw => by go_simp⟩) hHa ?_
        simp only [Act.put, List.setIfInBounds_toArray, List.set_cons_zero, List.set_cons_succ]
        refine wpAnyH_takeL (i := 8) (v := .bool false) rfl (by kernel_rfl) (by kernel_rfl) (by kernel_rfl) (fun _ _ _ h => h) (Or.inl ⟨by rfl, fun w hw => by go_simp⟩) hHa ?_
        simp only [Act.put, List.setIfInBounds_toArray, List.set_cons_zero, List.set_cons_succ]
        refine wpAnyH_takeL (i := 9) (v := .agg (bytesV L2)) rfl (by kernel_rfl) (by kernel_rfl) (by kernel_rfl) (fun _ _ _ h => h) (yieldsIf_load_mid (by rfl) _ _ rfl _ _ rfl (L2.map (Value.int .u8)) _ (fun _ q => q.1.2) hu26 rfl hiB) hHa ?_
        simp only [Act.put, List.setIfInBounds_toArray, List.set_cons_zero, List.set_cons_succ]
        refine wpAnyH_takeL (i := 10) (v := .agg (rBody4 true k1 l1 none (cs.length - k) (cap - k))) rfl (by kernel_rfl) (by kernel_rfl) (by kernel_rfl) (fun _ _ _ h => h) (Or.inl ⟨by rfl, fun w hw => by have tt := Blk.thereAll hw.2.2 4 rfl; have rr := Blk.readAll hw.2.2 4 rfl; go_simp⟩) hHa ?_
        simp only [Act.put, List.setIfInBounds_toArray, List.set_cons_zero, List.set_cons_succ]
        refine wpAnyH_ready (rs := [11]) (by kernel_rfl) (by simp) ?_
        refine AllReadyH.callR (fun v W' => v = .agg (bytesV L2) ∧ Kp NoB V13 W') rfl (by rfl) 22 #[.agg (rBody4 true k1 l1 none (cs.length - k) (cap - k))] (by go_simp) (fun _ _ q => hS13.out _ q.2) ((rlay_ok _ true k1 l1 none (cs.length - k) (cap - k) (cs.drop k) hkk0 hkk9 (by omega) (fun c hc => HFA.out.2.1 c (List.mem_of_mem_drop hc)) (HSB.out.keep hka) HRM.out.2).mono (by rintro e w2 ⟨rfl, hk⟩; exact ⟨_, rfl, congrArg (fun L => Value.agg (bytesV L)) HL2.out, hka.trans hk (fun _ _ q => q)⟩)) ?_ AllReadyH.nil
        intro vb V14 ⟨hvb, hkb⟩
        subst hvb
        simp only [Act.put, List.setIfInBounds_toArray, List.set_cons_zero, List.set_cons_succ]
        have hHb := hS13.out _ hkb
        refine wpAnyH_takeL (i := 12) (v := .bool false) rfl (by kernel_rfl) (by kernel_rfl) (by kernel_rfl) (fun _ _ _ h => h) (Or.inl ⟨by rfl, fun w hw => by go_simp⟩) hHb ?_
        simp only [Act.put, List.setIfInBounds_toArray, List.set_cons_zero, List.set_cons_succ]
        refine wpAnyH_takeL (i := 13) (v := .bool false) rfl (by kernel_rfl) (by kernel_rfl) (by kernel_rfl) (fun _ _ _ h => h) (Or.inl ⟨by rfl, fun w hw => by go_simp⟩) hHb ?_
        simp only [Act.put, List.setIfInBounds_toArray, List.set_cons_zero, List.set_cons_succ]
        refine wpAnyH_done (by kernel_rfl) ?_ _
        have HV14 := Lib.hid (HV13.out.keep hkb)
        have HPB14 := Lib.hid HV14.out.pb
        have HSLV := Lib.hid (HSL13.out.keep hkb)
        clear hkb hka hHa hHb hHeld hk0 hiA hiB hu26 hkk0 hkk9 HB14 HB15 HSA HSB HSL13 HV13
        clear hS13
        rcases hr2 : readF m with _ | ⟨k2, l2, ds⟩
        · have h3 := HJ.out
          rw [show joinF l m = (zero256, 8) by unfold joinF; rw [HR1.out, hr2]] at h3
          simp only [Prod.mk.injEq] at h3
          obtain ⟨rfl, rfl⟩ := h3
          have hd := HPB14.out.f2
          rw [hr2] at hd
          obtain rfl : c8 = rBody4 false 0 0 none 0 0 := Value.agg.inj hd
          have HR2 := Lib.hid hr2
          clear hd hr2
          obtain ⟨th16, k16, hb16, hs16⟩ := after15 (V14) (V14.heap.size) (by simp [size_setCells])
          have HPC6 := Lib.hid (HV14.out.keep k16)
          have HB16 := Lib.hid hb16
          have HS16 := Lib.hid hs16
          have HK16 := Lib.hid k16
          have t16 := hb16.thereAll 256 zsz
          have r16 := hb16.readAll 256 zsz
          have t12 := HPC6.out.b12.thereAll 256 sZ
          have r12 := HPC6.out.b12.readAll 256 sZ
          clear k16 hb16 hs16
          have c80 := cellAt (v := .bool false) HPC6.out.pb.pa.b8 0 rfl
          go_wp2_with (go_at_call 8; go_must (refine (awake_ok _).mono ?_); rintro e w9 ⟨rfl, hk9⟩; have HK9 := Lib.hid hk9; clear hk9)
          go_ret
          exact ⟨rfl, HPC6.out.pb.pa.kp.trans HK9.out (fun _ _ q => q)⟩
        · obtain ⟨B, cb, hd, hsd, hnB, -, -⟩ := (show RRf (some (k2, l2, ds)) (.agg c8) _ from hr2 ▸ HPB14.out.f2).form
          obtain rfl : c8 = rBody4 true k2 l2 B ds.length cb := Value.agg.inj hd
          have HR2 := Lib.hid hr2
          have HSD := Lib.hid hsd
          have HNB := Lib.hid hnB
          have hfb := readF_facts HM.out hr2
          have hd250 := hfb.1
          have hkb := hfb.2.2
          have HFB := Lib.hid hfb
          clear hd hsd hnB hr2 hfb
          by_cases hkk : k1 = k2
          · subst hkk
            have h3 := HJ.out
            rw [show joinF l m = toldR k1 l2 (cs ++ ds) by unfold joinF; rw [HR1.out, HR2.out]; exact if_pos rfl] at h3
            have HT := Lib.hid h3
            clear h3
            obtain ⟨th16, k16, hb16, hs16⟩ := after15 (V14) (V14.heap.size) (by simp [size_setCells])
            have HPC6 := Lib.hid (HV14.out.keep k16)
            have HB16 := Lib.hid hb16
            have HS16 := Lib.hid hs16
            have HK16 := Lib.hid k16
            have t16 := hb16.thereAll 256 zsz
            have r16 := hb16.readAll 256 zsz
            have t12 := HPC6.out.b12.thereAll 256 sZ
            have r12 := HPC6.out.b12.readAll 256 sZ
            clear k16 hb16 hs16
            have H60 : Hid (∀ c ∈ cs ++ ds, 1 ≤ c.size ∧ c.size ≤ 60) := Lib.hid (fun c hc => (List.mem_append.1 hc).elim (HFA.out.2.1 c) (HFB.out.2.1 c))
            have HSDV := HSD
            have c80 := cellAt (v := .bool true) HPC6.out.pb.pa.b8 0 rfl
            have c71 := cellAt (v := .int .i64 k1) HPC6.out.pb.pa.b7 1 rfl
            have c81 := cellAt (v := .int .i64 k1) HPC6.out.pb.pa.b8 1 rfl
            have t8 := HPC6.out.pb.pa.b8.thereAll 4 rfl
            have r8 := HPC6.out.pb.pa.b8.readAll 4 rfl
            have s8 : (rBody4 true k1 l2 B ds.length cb).size = 4 := rfl
            have o8 : ones (rBody4 true k1 l2 B ds.length cb) := body4_one _ _ _ _ _ _
            obtain ⟨th18, k19, hb18, hs19⟩ := after19 (((V14).alloc (.cells zero256 26)).setCells (V14.heap.size) 0 zero256.toList) (V14.heap.size + 1) (rBody4 true k1 l2 B ds.length cb) HS16.out rfl
            have hpc7 := HPC6.out.keep k19
            have HTW8 := Lib.hid ((show TW (V14) (V14.heap.size) (V14.heap.size + 1) k1 l2 (.slice B ds.length cb) _ from ⟨HK16.out.trans k19 (fun _ _ q => q), HB16.out.keep k19 (fun q => q), hb18⟩).alloc (.cells #[] 9))
            have hpc8 := hpc7.keep ((Kp.refl NoB _).alloc (.cells #[] 9))
            have c73w := cellAt (v := .slice none cs.length cap) hpc8.pb.pa.b7 3 rfl
            have HSA8 := Lib.hid (Sl.keep HSLV.out HTW8.out.k)
            have HOWN8 := Lib.hid (show ((((((V14).alloc (.cells zero256 26)).setCells (V14.heap.size) 0 zero256.toList).alloc (.cells #[.bool false, .int .i64 0, .int .u32 0, .slice none 0 0] 34)).setCells (V14.heap.size + 1) 0 (rBody4 true k1 l2 B ds.length cb).toList).alloc (.cells #[] 9)).ownsRow (V14.heap.size + 1 + 1) 9 1 (.slice (some ⟨V14.heap.size + 1 + 1, 0, none⟩) 0 0) 0 [] from ⟨rfl, .inr ⟨V14.heap.size + 1 + 1, 0, #[], rfl, Nat.le_refl _, Blk.newAt _ _ _ _ hs19, Nat.le_refl _, by simp, rfl, rfl⟩⟩)
            have HS8 := Lib.hid (show V14.heap.size + 1 + 1 ≤ ((((((V14).alloc (.cells zero256 26)).setCells (V14.heap.size) 0 zero256.toList).alloc (.cells #[.bool false, .int .i64 0, .int .u32 0, .slice none 0 0] 34)).setCells (V14.heap.size + 1) 0 (rBody4 true k1 l2 B ds.length cb).toList).alloc (.cells #[] 9)).heap.size by rw [← hs19]; simp)
            clear k19 hb18 hs19 hpc7 hpc8
            go_wp2_with (first
              | (have hG := HOWN8; clear hG; at_builtin; refine wpList_append_src rfl _ _ 23 rfl (V14.heap.size + 1 + 1) 9 i0 _ 16 Try.underlying23 HI0.out HZ0.out HZ1.out HZ2.out rfl _ 0 [] rfl HOWN8.out none cs.length cap (cs.map Value.string) rfl (fun e => by first | exact HNA.out e | exact HNA.out trivial | cases e) (by rw [List.length_map]) (cat_src HSA8.out) (texts_one cs) (by unfold maxLen; omega) (by omega) HS8.out ?_; intro v1 w11 hown1 hgr1; rw [Nat.zero_add, List.nil_append] at hown1; obtain ⟨A1, cap1, rfl⟩ := own_slice hown1; obtain ⟨c183, f183, htw12, hown12, c183w⟩ := HTW8.out.step (Nat.le_refl _) (by omega) hgr1 (by intro k e; have e1 : V14.heap.size + 1 + 1 = k := Option.some.inj e; omega) hown1; have hpc12 := HV14.out.keep htw12.k; have c83w := cellAt (v := .slice B ds.length cb) hpc12.pb.pa.b8 3 rfl; have HSB12 := Lib.hid (HSDV.out.keep htw12.k); have HOWN12 := Lib.hid hown12; have HTW12 := Lib.hid htw12; have HS12 := Lib.hid (Nat.le_of_lt_succ (Nat.succ_lt_succ htw12.b18.lt)); clear hown1 hgr1 htw12 hown12 hpc12 HOWN8 HTW8)
              | (have hG := HOWN12; clear hG; at_builtin; refine wpList_append_src rfl _ _ 23 rfl (V14.heap.size + 1 + 1) 9 i0 _ 16 Try.underlying23 HI0.out HZ0.out HZ1.out HZ2.out rfl _ cs.length (cs.map Value.string) rfl HOWN12.out B ds.length cb (ds.map Value.string) rfl HNB.out (by rw [List.length_map]) (cat_src HSB12.out) (texts_one ds) (by unfold maxLen; omega) (by omega) HS12.out ?_; intro v2 w13 hown2 hgr2; rw [← List.map_append] at hown2; obtain ⟨C, cc, rfl⟩ := own_slice hown2; obtain ⟨c183, f183, htw14, hown14, c183w⟩ := HTW12.out.step (Nat.le_refl _) (by omega) hgr2 (own_ge HOWN12.out) hown2; have t18w := htw14.b18.thereAll 4 rfl; have r18w := htw14.b18.readAll 4 rfl; have HSC := Lib.hid (own_Sl hown14 List.length_append); have HTW14 := Lib.hid htw14; clear hown2 hgr2 htw14 hown14 HOWN12 HTW12)
              | (go_at_call 23; go_must (refine (rtold_ok _ true k1 l2 C (cs.length + ds.length) cc (cs ++ ds) HFA.out.2.2.1 (by have := HFA.out.2.2.2.1; omega) (by omega) H60.out HSC.out).mono ?_); rintro e w15 hq; rw [HT.out] at hq; obtain ⟨rfl, hk15⟩ := hq; have hb16x := HTW14.out.b16.keep hk15 (fun q => q); have th16w := hb16x.thereAll 256 zsz; have hb16w := hb16x.whole Z (by rw [zsz]; exact sZ.symm); have t16w := hb16w.thereAll 256 sZ; have r16w := hb16w.readAll 256 sZ; have hpcw := HV14.out.keep (Kp.setCells (S := NoB) (g := V14.heap.size) (.inl (Nat.le_refl _)) Z.toList 0 _ (HTW14.out.k.trans hk15 (fun _ _ q => q))); have t12w := hpcw.b12.thereAll 256 sZ; have r12w := hpcw.b12.readAll 256 sZ; have HPCW := Lib.hid hpcw; clear hk15 hb16x hb16w hpcw)
              | (go_at_call 8; go_must (refine (awake_ok _).mono ?_); rintro e w9 ⟨rfl, hk9⟩; have HK9 := Lib.hid hk9; clear hk9))
            go_ret
            exact ⟨rfl, HPCW.out.pb.pa.kp.trans HK9.out (fun _ _ q => q)⟩
          · have h3 := HJ.out
            rw [show joinF l m = (zero256, 2) by unfold joinF; rw [HR1.out, HR2.out]; exact if_neg hkk] at h3
            simp only [Prod.mk.injEq] at h3
            obtain ⟨hz3, rfl⟩ := h3
            have HZ3 := Lib.hid hz3.symm
            clear hz3
            have hkd : decide (k1 = k2) = false := decide_eq_false hkk
            have hk4 : (k1 == k2) = false := beq_eq_false_iff_ne.2 hkk
            have hk5 : (k1 != k2) = true := bne_iff_ne.2 hkk
            obtain ⟨th16, k16, hb16, hs16⟩ := after15 (V14) (V14.heap.size) (by simp [size_setCells])
            have HPC6 := Lib.hid (HV14.out.keep k16)
            have HB16 := Lib.hid hb16
            have HS16 := Lib.hid hs16
            have HK16 := Lib.hid k16
            have t16 := hb16.thereAll 256 zsz
            have r16 := hb16.readAll 256 zsz
            have t12 := HPC6.out.b12.thereAll 256 sZ
            have r12 := HPC6.out.b12.readAll 256 sZ
            clear k16 hb16 hs16
            have r12z := r12.trans HZ3.out
            clear r12
            have c80 := cellAt (v := .bool true) HPC6.out.pb.pa.b8 0 rfl
            have c71 := cellAt (v := .int .i64 k1) HPC6.out.pb.pa.b7 1 rfl
            have c81 := cellAt (v := .int .i64 k2) HPC6.out.pb.pa.b8 1 rfl
            go_wp2_with (go_at_call 8; go_must (refine (awake_ok _).mono ?_); rintro e w9 ⟨rfl, hk9⟩; have HK9 := Lib.hid hk9; clear hk9)
            go_ret
            exact ⟨rfl, HPC6.out.pb.pa.kp.trans HK9.out (fun _ _ q => q)⟩
      · by_cases hck : cap = k
        · have HE := Lib.hid (show cs.drop k = [] from List.drop_eq_nil_of_le (by omega))
          subst hck
          obtain ⟨⟨c142, f142⟩, ⟨c73a, c143a, f143a⟩, ⟨c73b, c153b, f153b⟩, kX, bX14, bX15⟩ := after12 HR10.out HB7X.out n714 n715 (some ⟨g, 0, none⟩) (some ⟨g, 0, none⟩) cap cap 0 0
          have HKX := Lib.hid kX
          have HX14 := Lib.hid bX14
          have HX15 := Lib.hid bX15
          clear kX bX14 bX15
          go_wp2_with fail
          have sl12 := HSL9.out.keep HKX.out
          refine forget (p := fun wx => Code.wp _ _ _ _ wx) (fun W' => PC w l m g7 g8 (rBody4 true k1 l1 (some ⟨g, 0, none⟩) cs.length cap) c8 g9 (bytesV L1) (bytesV L2) g12 Z W' ∧ (Blk W' g14 34 (rBody4 true k1 0 (some ⟨g, 0, none⟩) cap cap) ∧ Blk W' g15 34 (rBody4 true k1 l1 (some ⟨g, 0, none⟩) 0 0)) ∧ Sl W' (some ⟨g, 0, none⟩) cap (cs.take cap) ∧ Sl W' (some ⟨g, 0, none⟩) 0 (cs.drop cap) ∧ Sl W' (some ⟨g, 0, none⟩) cs.length cs) ⟨HV9.out.keep HKX.out, ⟨HX14.out, HX15.out⟩, sl12.take cap hk, (by rw [HE.out]; exact Sl.empty _ _), sl12⟩ ?_
          clear c142 f142 c73a c143a f143a c73b c153b f153b sl12 HKX HX14 HX15 HR10 HB7X
          rintro V13 ⟨hV13, ⟨hb14, hb15⟩, hsa, hsb, hsl⟩
          have HV13 := Lib.hid hV13
          have HB14 := Lib.hid hb14
          have HB15 := Lib.hid hb15
          have HSA := Lib.hid hsa
          have HSB := Lib.hid hsb
          have HSL13 := Lib.hid hsl
          clear hV13 hb14 hb15 hsa hsb hsl
          have hS13 : Hid (∀ W', Kp NoB V13 W' → (W'.rangeAt g9 0 (L1.map (Value.int .u8)) ∧ W'.rangeAt (g9 + 1) 0 (L2.map (Value.int .u8))) ∧ Blk W' g14 34 (rBody4 true k1 0 (some ⟨g, 0, none⟩) cap cap) ∧ Blk W' g15 34 (rBody4 true k1 l1 (some ⟨g, 0, none⟩) 0 0)) := Lib.hid (fun W' k =>
            ⟨⟨Blk.range (xa := []) (xd := []) (by rw [List.nil_append, List.append_nil]; exact HV13.out.pb.b9.keep k (fun q => q)) 0 rfl, Blk.range (xa := []) (xd := []) (by rw [List.nil_append, List.append_nil]; exact HV13.out.pb.b10.keep k (fun q => q)) 0 rfl⟩, HB14.out.keep k (fun q => q), HB15.out.keep k (fun q => q)⟩)
          have hu26 := Try.underlying26
          have hiA : (Try.prog.info? 26).map (·.size) = some (L1.map (Value.int .u8)).length := by rw [List.length_map, len1]; exact info26
          have hiB : (Try.prog.info? 26).map (·.size) = some (L2.map (Value.int .u8)).length := by rw [List.length_map, len2]; exact info26
          have hkk9 : k1 ≤ 255 := by have := HFA.out.2.2.2.1; omega
          have hkk0 : 0 ≤ k1 := HFA.out.2.2.1
          have hk0 := hS13.out _ (Kp.refl NoB V13).drew
          refine wp_region_held_drew (S := fun W' => (W'.rangeAt g9 0 (L1.map (Value.int .u8)) ∧ W'.rangeAt (g9 + 1) 0 (L2.map (Value.int .u8))) ∧ Blk W' g14 34 (rBody4 true k1 0 (some ⟨g, 0, none⟩) cap cap) ∧ Blk W' g15 34 (rBody4 true k1 l1 (some ⟨g, 0, none⟩) 0 0)) (by kernel_rfl) hk0 (fun hHeld => ?_)
          refine wpAnyH_takeL (i := 0) (v := .int .i64 0) rfl (by kernel_rfl) (by kernel_rfl) (by kernel_rfl) (fun _ _ _ h => h) (Or.inl ⟨by rfl, fun w hw => by go_simp⟩) hHeld ?_
          simp only [Act.put, List.setIfInBounds_toArray, List.set_cons_zero, List.set_cons_succ]
          refine wpAnyH_takeL (i := 1) (v := .bool false) rfl (by kernel_rfl) (by kernel_rfl) (by kernel_rfl) (fun _ _ _ h => h) (Or.inl ⟨by rfl, fun w hw => by go_simp⟩) hHeld ?_
          simp only [Act.put, List.setIfInBounds_toArray, List.set_cons_zero, List.set_cons_succ]
          refine wpAnyH_takeL (i := 2) (v := .bool false) rfl (by kernel_rfl) (by kernel_rfl) (by kernel_rfl) (fun _ _ _ h => h) (Or.inl ⟨by rfl, fun w hw => by go_simp⟩) hHeld ?_
          simp only [Act.put, List.setIfInBounds_toArray, List.set_cons_zero, List.set_cons_succ]
          refine wpAnyH_takeL (i := 3) (v := .agg (bytesV L1)) rfl (by kernel_rfl) (by kernel_rfl) (by kernel_rfl) (fun _ _ _ h => h) (yieldsIf_load_mid (by rfl) _ _ rfl _ _ rfl (L1.map (Value.int .u8)) _ (fun _ q => q.1.1) hu26 rfl hiA) hHeld ?_
          simp only [Act.put, List.setIfInBounds_toArray, List.set_cons_zero, List.set_cons_succ]
          refine wpAnyH_takeL (i := 4) (v := .agg (rBody4 true k1 0 (some ⟨g, 0, none⟩) cap cap)) rfl (by kernel_rfl) (by kernel_rfl) (by kernel_rfl) (fun _ _ _ h => h) (Or.inl ⟨by rfl, fun w hw => by have tt := Blk.thereAll hw.2.1 4 rfl; have rr := Blk.readAll hw.2.1 4 rfl; go_simp⟩) hHeld ?_
          simp only [Act.put, List.setIfInBounds_toArray, List.set_cons_zero, List.set_cons_succ]
          refine wpAnyH_ready (rs := [5]) (by kernel_rfl) (by simp) ?_
          refine AllReadyH.callR (fun v W' => v = .agg (bytesV L1) ∧ Kp NoB V13 W') rfl (by rfl) 22 #[.agg (rBody4 true k1 0 (some ⟨g, 0, none⟩) cap cap)] (by go_simp) (fun _ _ q => hS13.out _ q.2) ((rlay_ok _ true k1 0 (some ⟨g, 0, none⟩) cap cap (cs.take cap) hkk0 hkk9 (by omega) (fun c hc => HFA.out.2.1 c (List.mem_of_mem_take hc)) (HSA.out.keep ((Kp.refl NoB V13).drew)) HRM.out.1).mono (by rintro e w2 ⟨rfl, hk⟩; exact ⟨_, rfl, congrArg (fun L => Value.agg (bytesV L)) HL1.out, ((Kp.refl NoB V13).drew).trans hk (fun _ _ q => q)⟩)) ?_ AllReadyH.nil
          intro va Wa ⟨hva, hka⟩
          subst hva
          simp only [Act.put, List.setIfInBounds_toArray, List.set_cons_zero, List.set_cons_succ]
          have hHa := hS13.out _ hka
          refine wpAnyH_takeL (i := 6) (v := .bool false) rfl (by kernel_rfl) (by kernel_rfl) (by kernel_rfl) (fun _ _ _ h => h) (Or.inl ⟨by rfl, fun w hw => by go_simp⟩) hHa ?_
          simp only [Act.put, List.setIfInBounds_toArray, List.set_cons_zero, List.set_cons_succ]
          refine wpAnyH_takeL (i := 7) (v := .bool false) rfl (by kernel_rfl) (by kernel_rfl) (by kernel_rfl) (fun _ _ _ h => h) (Or.inl ⟨by rfl, fun w hw => by go_simp⟩) hHa ?_
          simp only [Act.put, List.setIfInBounds_toArray, List.set_cons_zero, List.set_cons_succ]
          refine wpAnyH_takeL (i := 8) (v := .bool false) rfl (by kernel_rfl) (by kernel_rfl) (by kernel_rfl) (fun _ _ _ h => h) (Or.inl ⟨by rfl, fun w hw => by go_simp⟩) hHa ?_
          simp only [Act.put, List.setIfInBounds_toArray, List.set_cons_zero, List.set_cons_succ]
          refine wpAnyH_takeL (i := 9) (v := .agg (bytesV L2)) rfl (by kernel_rfl) (by kernel_rfl) (by kernel_rfl) (fun _ _ _ h => h) (yieldsIf_load_mid (by rfl) _ _ rfl _ _ rfl (L2.map (Value.int .u8)) _ (fun _ q => q.1.2) hu26 rfl hiB) hHa ?_
          simp only [Act.put, List.setIfInBounds_toArray, List.set_cons_zero, List.set_cons_succ]
          refine wpAnyH_takeL (i := 10) (v := .agg (rBody4 true k1 l1 (some ⟨g, 0, none⟩) 0 0)) rfl (by kernel_rfl) (by kernel_rfl) (by kernel_rfl) (fun _ _ _ h => h) (Or.inl ⟨by rfl, fun w hw => by have tt := Blk.thereAll hw.2.2 4 rfl; have rr := Blk.readAll hw.2.2 4 rfl; go_simp⟩) hHa ?_
          simp only [Act.put, List.setIfInBounds_toArray, List.set_cons_zero, List.set_cons_succ]
          refine wpAnyH_ready (rs := [11]) (by kernel_rfl) (by simp) ?_
          refine AllReadyH.callR (fun v W' => v = .agg (bytesV L2) ∧ Kp NoB V13 W') rfl (by rfl) 22 #[.agg (rBody4 true k1 l1 (some ⟨g, 0, none⟩) 0 0)] (by go_simp) (fun _ _ q => hS13.out _ q.2) ((rlay_ok _ true k1 l1 (some ⟨g, 0, none⟩) 0 0 (cs.drop cap) hkk0 hkk9 (by omega) (fun c hc => HFA.out.2.1 c (List.mem_of_mem_drop hc)) (HSB.out.keep hka) HRM.out.2).mono (by rintro e w2 ⟨rfl, hk⟩; exact ⟨_, rfl, congrArg (fun L => Value.agg (bytesV L)) HL2.out, hka.trans hk (fun _ _ q => q)⟩)) ?_ AllReadyH.nil
          intro vb V14 ⟨hvb, hkb⟩
          subst hvb
          simp only [Act.put, List.setIfInBounds_toArray, List.set_cons_zero, List.set_cons_succ]
          have hHb := hS13.out _ hkb
          refine wpAnyH_takeL (i := 12) (v := .bool false) rfl (by kernel_rfl) (by kernel_rfl) (by kernel_rfl) (fun _ _ _ h => h) (Or.inl ⟨by rfl, fun w hw => by go_simp⟩) hHb ?_
          simp only [Act.put, List.setIfInBounds_toArray, List.set_cons_zero, List.set_cons_succ]
          refine wpAnyH_takeL (i := 13) (v := .bool false) rfl (by kernel_rfl) (by kernel_rfl) (by kernel_rfl) (fun _ _ _ h => h) (Or.inl ⟨by rfl, fun w hw => by go_simp⟩) hHb ?_
          simp only [Act.put, List.setIfInBounds_toArray, List.set_cons_zero, List.set_cons_succ]
          refine wpAnyH_done (by kernel_rfl) ?_ _
          have HV14 := Lib.hid (HV13.out.keep hkb)
          have HPB14 := Lib.hid HV14.out.pb
          have HSLV := Lib.hid (HSL13.out.keep hkb)
          clear hkb hka hHa hHb hHeld hk0 hiA hiB hu26 hkk0 hkk9 HB14 HB15 HSA HSB HSL13 HV13
          clear hS13
          rcases hr2 : readF m with _ | ⟨k2, l2, ds⟩
          · have h3 := HJ.out
            rw [show joinF l m = (zero256, 8) by unfold joinF; rw [HR1.out, hr2]] at h3
            simp only [Prod.mk.injEq] at h3
            obtain ⟨rfl, rfl⟩ := h3
            have hd := HPB14.out.f2
            rw [hr2] at hd
            obtain rfl : c8 = rBody4 false 0 0 none 0 0 := Value.agg.inj hd
            have HR2 := Lib.hid hr2
            clear hd hr2
            obtain ⟨th16, k16, hb16, hs16⟩ := after15 (V14) (V14.heap.size) (by simp [size_setCells])
            have HPC6 := Lib.hid (HV14.out.keep k16)
            have HB16 := Lib.hid hb16
            have HS16 := Lib.hid hs16
            have HK16 := Lib.hid k16
            have t16 := hb16.thereAll 256 zsz
            have r16 := hb16.readAll 256 zsz
            have t12 := HPC6.out.b12.thereAll 256 sZ
            have r12 := HPC6.out.b12.readAll 256 sZ
            clear k16 hb16 hs16
            have c80 := cellAt (v := .bool false) HPC6.out.pb.pa.b8 0 rfl
            go_wp2_with (go_at_call 8; go_must (refine (awake_ok _).mono ?_); rintro e w9 ⟨rfl, hk9⟩; have HK9 := Lib.hid hk9; clear hk9)
            go_ret
            exact ⟨rfl, HPC6.out.pb.pa.kp.trans HK9.out (fun _ _ q => q)⟩
          · obtain ⟨B, cb, hd, hsd, hnB, -, -⟩ := (show RRf (some (k2, l2, ds)) (.agg c8) _ from hr2 ▸ HPB14.out.f2).form
            obtain rfl : c8 = rBody4 true k2 l2 B ds.length cb := Value.agg.inj hd
            have HR2 := Lib.hid hr2
            have HSD := Lib.hid hsd
            have HNB := Lib.hid hnB
            have hfb := readF_facts HM.out hr2
            have hd250 := hfb.1
            have hkb := hfb.2.2
            have HFB := Lib.hid hfb
            clear hd hsd hnB hr2 hfb
            by_cases hkk : k1 = k2
            · subst hkk
              have h3 := HJ.out
              rw [show joinF l m = toldR k1 l2 (cs ++ ds) by unfold joinF; rw [HR1.out, HR2.out]; exact if_pos rfl] at h3
              have HT := Lib.hid h3
              clear h3
              obtain ⟨th16, k16, hb16, hs16⟩ := after15 (V14) (V14.heap.size) (by simp [size_setCells])
              have HPC6 := Lib.hid (HV14.out.keep k16)
              have HB16 := Lib.hid hb16
              have HS16 := Lib.hid hs16
              have HK16 := Lib.hid k16
              have t16 := hb16.thereAll 256 zsz
              have r16 := hb16.readAll 256 zsz
              have t12 := HPC6.out.b12.thereAll 256 sZ
              have r12 := HPC6.out.b12.readAll 256 sZ
              clear k16 hb16 hs16
              have H60 : Hid (∀ c ∈ cs ++ ds, 1 ≤ c.size ∧ c.size ≤ 60) := Lib.hid (fun c hc => (List.mem_append.1 hc).elim (HFA.out.2.1 c) (HFB.out.2.1 c))
              have HSDV := HSD
              have c80 := cellAt (v := .bool true) HPC6.out.pb.pa.b8 0 rfl
              have c71 := cellAt (v := .int .i64 k1) HPC6.out.pb.pa.b7 1 rfl
              have c81 := cellAt (v := .int .i64 k1) HPC6.out.pb.pa.b8 1 rfl
              have t8 := HPC6.out.pb.pa.b8.thereAll 4 rfl
              have r8 := HPC6.out.pb.pa.b8.readAll 4 rfl
              have s8 : (rBody4 true k1 l2 B ds.length cb).size = 4 := rfl
              have o8 : ones (rBody4 true k1 l2 B ds.length cb) := body4_one _ _ _ _ _ _
              obtain ⟨th18, k19, hb18, hs19⟩ := after19 (((V14).alloc (.cells zero256 26)).setCells (V14.heap.size) 0 zero256.toList) (V14.heap.size + 1) (rBody4 true k1 l2 B ds.length cb) HS16.out rfl
              have hpc7 := HPC6.out.keep k19
              have HTW8 := Lib.hid ((show TW (V14) (V14.heap.size) (V14.heap.size + 1) k1 l2 (.slice B ds.length cb) _ from ⟨HK16.out.trans k19 (fun _ _ q => q), HB16.out.keep k19 (fun q => q), hb18⟩).alloc (.cells #[] 9))
              have hpc8 := hpc7.keep ((Kp.refl NoB _).alloc (.cells #[] 9))
              have c73w := cellAt (v := .slice (some ⟨g, 0, none⟩) cs.length cap) hpc8.pb.pa.b7 3 rfl
              have HSA8 := Lib.hid (Sl.keep HSLV.out HTW8.out.k)
              have HOWN8 := Lib.hid (show ((((((V14).alloc (.cells zero256 26)).setCells (V14.heap.size) 0 zero256.toList).alloc (.cells #[.bool false, .int .i64 0, .int .u32 0, .slice none 0 0] 34)).setCells (V14.heap.size + 1) 0 (rBody4 true k1 l2 B ds.length cb).toList).alloc (.cells #[] 9)).ownsRow (V14.heap.size + 1 + 1) 9 1 (.slice (some ⟨V14.heap.size + 1 + 1, 0, none⟩) 0 0) 0 [] from ⟨rfl, .inr ⟨V14.heap.size + 1 + 1, 0, #[], rfl, Nat.le_refl _, Blk.newAt _ _ _ _ hs19, Nat.le_refl _, by simp, rfl, rfl⟩⟩)
              have HS8 := Lib.hid (show V14.heap.size + 1 + 1 ≤ ((((((V14).alloc (.cells zero256 26)).setCells (V14.heap.size) 0 zero256.toList).alloc (.cells #[.bool false, .int .i64 0, .int .u32 0, .slice none 0 0] 34)).setCells (V14.heap.size + 1) 0 (rBody4 true k1 l2 B ds.length cb).toList).alloc (.cells #[] 9)).heap.size by rw [← hs19]; simp)
              clear k19 hb18 hs19 hpc7 hpc8
              go_wp2_with (first
                | (have hG := HOWN8; clear hG; at_builtin; refine wpList_append_src rfl _ _ 23 rfl (V14.heap.size + 1 + 1) 9 i0 _ 16 Try.underlying23 HI0.out HZ0.out HZ1.out HZ2.out rfl _ 0 [] rfl HOWN8.out (some ⟨g, 0, none⟩) cs.length cap (cs.map Value.string) rfl (fun e => by first | exact HNA.out e | exact HNA.out trivial | cases e) (by rw [List.length_map]) (cat_src HSA8.out) (texts_one cs) (by unfold maxLen; omega) (by omega) HS8.out ?_; intro v1 w11 hown1 hgr1; rw [Nat.zero_add, List.nil_append] at hown1; obtain ⟨A1, cap1, rfl⟩ := own_slice hown1; obtain ⟨c183, f183, htw12, hown12, c183w⟩ := HTW8.out.step (Nat.le_refl _) (by omega) hgr1 (by intro k e; have e1 : V14.heap.size + 1 + 1 = k := Option.some.inj e; omega) hown1; have hpc12 := HV14.out.keep htw12.k; have c83w := cellAt (v := .slice B ds.length cb) hpc12.pb.pa.b8 3 rfl; have HSB12 := Lib.hid (HSDV.out.keep htw12.k); have HOWN12 := Lib.hid hown12; have HTW12 := Lib.hid htw12; have HS12 := Lib.hid (Nat.le_of_lt_succ (Nat.succ_lt_succ htw12.b18.lt)); clear hown1 hgr1 htw12 hown12 hpc12 HOWN8 HTW8)
                | (have hG := HOWN12; clear hG; at_builtin; refine wpList_append_src rfl _ _ 23 rfl (V14.heap.size + 1 + 1) 9 i0 _ 16 Try.underlying23 HI0.out HZ0.out HZ1.out HZ2.out rfl _ cs.length (cs.map Value.string) rfl HOWN12.out B ds.length cb (ds.map Value.string) rfl HNB.out (by rw [List.length_map]) (cat_src HSB12.out) (texts_one ds) (by unfold maxLen; omega) (by omega) HS12.out ?_; intro v2 w13 hown2 hgr2; rw [← List.map_append] at hown2; obtain ⟨C, cc, rfl⟩ := own_slice hown2; obtain ⟨c183, f183, htw14, hown14, c183w⟩ := HTW12.out.step (Nat.le_refl _) (by omega) hgr2 (own_ge HOWN12.out) hown2; have t18w := htw14.b18.thereAll 4 rfl; have r18w := htw14.b18.readAll 4 rfl; have HSC := Lib.hid (own_Sl hown14 List.length_append); have HTW14 := Lib.hid htw14; clear hown2 hgr2 htw14 hown14 HOWN12 HTW12)
                | (go_at_call 23; go_must (refine (rtold_ok _ true k1 l2 C (cs.length + ds.length) cc (cs ++ ds) HFA.out.2.2.1 (by have := HFA.out.2.2.2.1; omega) (by omega) H60.out HSC.out).mono ?_); rintro e w15 hq; rw [HT.out] at hq; obtain ⟨rfl, hk15⟩ := hq; have hb16x := HTW14.out.b16.keep hk15 (fun q => q); have th16w := hb16x.thereAll 256 zsz; have hb16w := hb16x.whole Z (by rw [zsz]; exact sZ.symm); have t16w := hb16w.thereAll 256 sZ; have r16w := hb16w.readAll 256 sZ; have hpcw := HV14.out.keep (Kp.setCells (S := NoB) (g := V14.heap.size) (.inl (Nat.le_refl _)) Z.toList 0 _ (HTW14.out.k.trans hk15 (fun _ _ q => q))); have t12w := hpcw.b12.thereAll 256 sZ; have r12w := hpcw.b12.readAll 256 sZ; have HPCW := Lib.hid hpcw; clear hk15 hb16x hb16w hpcw)
                | (go_at_call 8; go_must (refine (awake_ok _).mono ?_); rintro e w9 ⟨rfl, hk9⟩; have HK9 := Lib.hid hk9; clear hk9))
              go_ret
              exact ⟨rfl, HPCW.out.pb.pa.kp.trans HK9.out (fun _ _ q => q)⟩
            · have h3 := HJ.out
              rw [show joinF l m = (zero256, 2) by unfold joinF; rw [HR1.out, HR2.out]; exact if_neg hkk] at h3
              simp only [Prod.mk.injEq] at h3
              obtain ⟨hz3, rfl⟩ := h3
              have HZ3 := Lib.hid hz3.symm
              clear hz3
              have hkd : decide (k1 = k2) = false := decide_eq_false hkk
              have hk4 : (k1 == k2) = false := beq_eq_false_iff_ne.2 hkk
              have hk5 : (k1 != k2) = true := bne_iff_ne.2 hkk
              obtain ⟨th16, k16, hb16, hs16⟩ := after15 (V14) (V14.heap.size) (by simp [size_setCells])
              have HPC6 := Lib.hid (HV14.out.keep k16)
              have HB16 := Lib.hid hb16
              have HS16 := Lib.hid hs16
              have HK16 := Lib.hid k16
              have t16 := hb16.thereAll 256 zsz
              have r16 := hb16.readAll 256 zsz
              have t12 := HPC6.out.b12.thereAll 256 sZ
              have r12 := HPC6.out.b12.readAll 256 sZ
              clear k16 hb16 hs16
              have r12z := r12.trans HZ3.out
              clear r12
              have c80 := cellAt (v := .bool true) HPC6.out.pb.pa.b8 0 rfl
              have c71 := cellAt (v := .int .i64 k1) HPC6.out.pb.pa.b7 1 rfl
              have c81 := cellAt (v := .int .i64 k2) HPC6.out.pb.pa.b8 1 rfl
              go_wp2_with (go_at_call 8; go_must (refine (awake_ok _).mono ?_); rintro e w9 ⟨rfl, hk9⟩; have HK9 := Lib.hid hk9; clear hk9)
              go_ret
              exact ⟨rfl, HPC6.out.pb.pa.kp.trans HK9.out (fun _ _ q => q)⟩
        · obtain ⟨⟨c142, f142⟩, ⟨c73a, c143a, f143a⟩, ⟨c73b, c153b, f153b⟩, kX, bX14, bX15⟩ := after12 HR10.out HB7X.out n714 n715 (some ⟨g, 0, none⟩) (some ⟨g, k, none⟩) k cap (cs.length - k) (cap - k)
          have HKX := Lib.hid kX
          have HX14 := Lib.hid bX14
          have HX15 := Lib.hid bX15
          clear kX bX14 bX15
          go_wp2_with fail
          have sl12 := HSL9.out.keep HKX.out
          refine forget (p := fun wx => Code.wp _ _ _ _ wx) (fun W' => PC w l m g7 g8 (rBody4 true k1 l1 (some ⟨g, 0, none⟩) cs.length cap) c8 g9 (bytesV L1) (bytesV L2) g12 Z W' ∧ (Blk W' g14 34 (rBody4 true k1 0 (some ⟨g, 0, none⟩) k cap) ∧ Blk W' g15 34 (rBody4 true k1 l1 (some ⟨g, k, none⟩) (cs.length - k) (cap - k))) ∧ Sl W' (some ⟨g, 0, none⟩) k (cs.take k) ∧ Sl W' (some ⟨g, k, none⟩) (cs.length - k) (cs.drop k) ∧ Sl W' (some ⟨g, 0, none⟩) cs.length cs) ⟨HV9.out.keep HKX.out, ⟨HX14.out, HX15.out⟩, sl12.take k hk, (by have := sl12.drop k hk; rwa [Nat.zero_add] at this), sl12⟩ ?_
          clear c142 f142 c73a c143a f143a c73b c153b f153b sl12 HKX HX14 HX15 HR10 HB7X
          rintro V13 ⟨hV13, ⟨hb14, hb15⟩, hsa, hsb, hsl⟩
          have HV13 := Lib.hid hV13
          have HB14 := Lib.hid hb14
          have HB15 := Lib.hid hb15
          have HSA := Lib.hid hsa
          have HSB := Lib.hid hsb
          have HSL13 := Lib.hid hsl
          clear hV13 hb14 hb15 hsa hsb hsl
          have hS13 : Hid (∀ W', Kp NoB V13 W' → (W'.rangeAt g9 0 (L1.map (Value.int .u8)) ∧ W'.rangeAt (g9 + 1) 0 (L2.map (Value.int .u8))) ∧ Blk W' g14 34 (rBody4 true k1 0 (some ⟨g, 0, none⟩) k cap) ∧ Blk W' g15 34 (rBody4 true k1 l1 (some ⟨g, k, none⟩) (cs.length - k) (cap - k))) := Lib.hid (fun W' k =>
            ⟨⟨Blk.range (xa := []) (xd := []) (by rw [List.nil_append, List.append_nil]; exact HV13.out.pb.b9.keep k (fun q => q)) 0 rfl, Blk.range (xa := []) (xd := []) (by rw [List.nil_append, List.append_nil]; exact HV13.out.pb.b10.keep k (fun q => q)) 0 rfl⟩, HB14.out.keep k (fun q => q), HB15.out.keep k (fun q => q)⟩)
          have hu26 := Try.underlying26
          have hiA : (Try.prog.info? 26).map (·.size) = some (L1.map (Value.int .u8)).length := by rw [List.length_map, len1]; exact info26
          have hiB : (Try.prog.info? 26).map (·.size) = some (L2.map (Value.int .u8)).length := by rw [List.length_map, len2]; exact info26
          have hkk9 : k1 ≤ 255 := by have := HFA.out.2.2.2.1; omega
          have hkk0 : 0 ≤ k1 := HFA.out.2.2.1
          have hk0 := hS13.out _ (Kp.refl NoB V13).drew
          refine wp_region_held_drew (S := fun W' => (W'.rangeAt g9 0 (L1.map (Value.int .u8)) ∧ W'.rangeAt (g9 + 1) 0 (L2.map (Value.int .u8))) ∧ Blk W' g14 34 (rBody4 true k1 0 (some ⟨g, 0, none⟩) k cap) ∧ Blk W' g15 34 (rBody4 true k1 l1 (some ⟨g, k, none⟩) (cs.length - k) (cap - k))) (by kernel_rfl) hk0 (fun hHeld => ?_)
          refine wpAnyH_takeL (i := 0) (v := .int .i64 0) rfl (by kernel_rfl) (by kernel_rfl) (by kernel_rfl) (fun _ _ _ h => h) (Or.inl ⟨by rfl, fun w hw => by go_simp⟩) hHeld ?_
          simp only [Act.put, List.setIfInBounds_toArray, List.set_cons_zero, List.set_cons_succ]
          refine wpAnyH_takeL (i := 1) (v := .bool false) rfl (by kernel_rfl) (by kernel_rfl) (by kernel_rfl) (fun _ _ _ h => h) (Or.inl ⟨by rfl, fun w hw => by go_simp⟩) hHeld ?_
          simp only [Act.put, List.setIfInBounds_toArray, List.set_cons_zero, List.set_cons_succ]
          refine wpAnyH_takeL (i := 2) (v := .bool false) rfl (by kernel_rfl) (by kernel_rfl) (by kernel_rfl) (fun _ _ _ h => h) (Or.inl ⟨by rfl, fun w hw => by go_simp⟩) hHeld ?_
          simp only [Act.put, List.setIfInBounds_toArray, List.set_cons_zero, List.set_cons_succ]
          refine wpAnyH_takeL (i := 3) (v := .agg (bytesV L1)) rfl (by kernel_rfl) (by kernel_rfl) (by kernel_rfl) (fun _ _ _ h => h) (yieldsIf_load_mid (by rfl) _ _ rfl _ _ rfl (L1.map (Value.int .u8)) _ (fun _ q => q.1.1) hu26 rfl hiA) hHeld ?_
          simp only [Act.put, List.setIfInBounds_toArray, List.set_cons_zero, List.set_cons_succ]
          refine wpAnyH_takeL (i := 4) (v := .agg (rBody4 true k1 0 (some ⟨g, 0, none⟩) k cap)) rfl (by kernel_rfl) (by kernel_rfl) (by kernel_rfl) (fun _ _ _ h => h) (Or.inl ⟨by rfl, fun w hw => by have tt := Blk.thereAll hw.2.1 4 rfl; have rr := Blk.readAll hw.2.1 4 rfl; go_simp⟩) hHeld ?_
          simp only [Act.put, List.setIfInBounds_toArray, List.set_cons_zero, List.set_cons_succ]
          refine wpAnyH_ready (rs := [5]) (by kernel_rfl) (by simp) ?_
          refine AllReadyH.callR (fun v W' => v = .agg (bytesV L1) ∧ Kp NoB V13 W') rfl (by rfl) 22 #[.agg (rBody4 true k1 0 (some ⟨g, 0, none⟩) k cap)] (by go_simp) (fun _ _ q => hS13.out _ q.2) ((rlay_ok _ true k1 0 (some ⟨g, 0, none⟩) k cap (cs.take k) hkk0 hkk9 (by omega) (fun c hc => HFA.out.2.1 c (List.mem_of_mem_take hc)) (HSA.out.keep ((Kp.refl NoB V13).drew)) HRM.out.1).mono (by rintro e w2 ⟨rfl, hk⟩; exact ⟨_, rfl, congrArg (fun L => Value.agg (bytesV L)) HL1.out, ((Kp.refl NoB V13).drew).trans hk (fun _ _ q => q)⟩)) ?_ AllReadyH.nil
          intro va Wa ⟨hva, hka⟩
          subst hva
          simp only [Act.put, List.setIfInBounds_toArray, List.set_cons_zero, List.set_cons_succ]
          have hHa := hS13.out _ hka
          refine wpAnyH_takeL (i := 6) (v := .bool false) rfl (by kernel_rfl) (by kernel_rfl) (by kernel_rfl) (fun _ _ _ h => h) (Or.inl ⟨by rfl, fun w hw => by go_simp⟩) hHa ?_
          simp only [Act.put, List.setIfInBounds_toArray, List.set_cons_zero, List.set_cons_succ]
          refine wpAnyH_takeL (i := 7) (v := .bool false) rfl (by kernel_rfl) (by kernel_rfl) (by kernel_rfl) (fun _ _ _ h => h) (Or.inl ⟨by rfl, fun w hw => by go_simp⟩) hHa ?_
          simp only [Act.put, List.setIfInBounds_toArray, List.set_cons_zero, List.set_cons_succ]
          refine wpAnyH_takeL (i := 8) (v := .bool false) rfl (by kernel_rfl) (by kernel_rfl) (by kernel_rfl) (fun _ _ _ h => h) (Or.inl ⟨by rfl, fun w hw => by go_simp⟩) hHa ?_
          simp only [Act.put, List.setIfInBounds_toArray, List.set_cons_zero, List.set_cons_succ]
          refine wpAnyH_takeL (i := 9) (v := .agg (bytesV L2)) rfl (by kernel_rfl) (by kernel_rfl) (by kernel_rfl) (fun _ _ _ h => h) (yieldsIf_load_mid (by rfl) _ _ rfl _ _ rfl (L2.map (Value.int .u8)) _ (fun _ q => q.1.2) hu26 rfl hiB) hHa ?_
          simp only [Act.put, List.setIfInBounds_toArray, List.set_cons_zero, List.set_cons_succ]
          refine wpAnyH_takeL (i := 10) (v := .agg (rBody4 true k1 l1 (some ⟨g, k, none⟩) (cs.length - k) (cap - k))) rfl (by kernel_rfl) (by kernel_rfl) (by kernel_rfl) (fun _ _ _ h => h) (Or.inl ⟨by rfl, fun w hw => by have tt := Blk.thereAll hw.2.2 4 rfl; have rr := Blk.readAll hw.2.2 4 rfl; go_simp⟩) hHa ?_
          simp only [Act.put, List.setIfInBounds_toArray, List.set_cons_zero, List.set_cons_succ]
          refine wpAnyH_ready (rs := [11]) (by kernel_rfl) (by simp) ?_
          refine AllReadyH.callR (fun v W' => v = .agg (bytesV L2) ∧ Kp NoB V13 W') rfl (by rfl) 22 #[.agg (rBody4 true k1 l1 (some ⟨g, k, none⟩) (cs.length - k) (cap - k))] (by go_simp) (fun _ _ q => hS13.out _ q.2) ((rlay_ok _ true k1 l1 (some ⟨g, k, none⟩) (cs.length - k) (cap - k) (cs.drop k) hkk0 hkk9 (by omega) (fun c hc => HFA.out.2.1 c (List.mem_of_mem_drop hc)) (HSB.out.keep hka) HRM.out.2).mono (by rintro e w2 ⟨rfl, hk⟩; exact ⟨_, rfl, congrArg (fun L => Value.agg (bytesV L)) HL2.out, hka.trans hk (fun _ _ q => q)⟩)) ?_ AllReadyH.nil
          intro vb V14 ⟨hvb, hkb⟩
          subst hvb
          simp only [Act.put, List.setIfInBounds_toArray, List.set_cons_zero, List.set_cons_succ]
          have hHb := hS13.out _ hkb
          refine wpAnyH_takeL (i := 12) (v := .bool false) rfl (by kernel_rfl) (by kernel_rfl) (by kernel_rfl) (fun _ _ _ h => h) (Or.inl ⟨by rfl, fun w hw => by go_simp⟩) hHb ?_
          simp only [Act.put, List.setIfInBounds_toArray, List.set_cons_zero, List.set_cons_succ]
          refine wpAnyH_takeL (i := 13) (v := .bool false) rfl (by kernel_rfl) (by kernel_rfl) (by kernel_rfl) (fun _ _ _ h => h) (Or.inl ⟨by rfl, fun w hw => by go_simp⟩) hHb ?_
          simp only [Act.put, List.setIfInBounds_toArray, List.set_cons_zero, List.set_cons_succ]
          refine wpAnyH_done (by kernel_rfl) ?_ _
          have HV14 := Lib.hid (HV13.out.keep hkb)
          have HPB14 := Lib.hid HV14.out.pb
          have HSLV := Lib.hid (HSL13.out.keep hkb)
          clear hkb hka hHa hHb hHeld hk0 hiA hiB hu26 hkk0 hkk9 HB14 HB15 HSA HSB HSL13 HV13
          clear hS13
          rcases hr2 : readF m with _ | ⟨k2, l2, ds⟩
          · have h3 := HJ.out
            rw [show joinF l m = (zero256, 8) by unfold joinF; rw [HR1.out, hr2]] at h3
            simp only [Prod.mk.injEq] at h3
            obtain ⟨rfl, rfl⟩ := h3
            have hd := HPB14.out.f2
            rw [hr2] at hd
            obtain rfl : c8 = rBody4 false 0 0 none 0 0 := Value.agg.inj hd
            have HR2 := Lib.hid hr2
            clear hd hr2
            obtain ⟨th16, k16, hb16, hs16⟩ := after15 (V14) (V14.heap.size) (by simp [size_setCells])
            have HPC6 := Lib.hid (HV14.out.keep k16)
            have HB16 := Lib.hid hb16
            have HS16 := Lib.hid hs16
            have HK16 := Lib.hid k16
            have t16 := hb16.thereAll 256 zsz
            have r16 := hb16.readAll 256 zsz
            have t12 := HPC6.out.b12.thereAll 256 sZ
            have r12 := HPC6.out.b12.readAll 256 sZ
            clear k16 hb16 hs16
            have c80 := cellAt (v := .bool false) HPC6.out.pb.pa.b8 0 rfl
            go_wp2_with (go_at_call 8; go_must (refine (awake_ok _).mono ?_); rintro e w9 ⟨rfl, hk9⟩; have HK9 := Lib.hid hk9; clear hk9)
            go_ret
            exact ⟨rfl, HPC6.out.pb.pa.kp.trans HK9.out (fun _ _ q => q)⟩
          · obtain ⟨B, cb, hd, hsd, hnB, -, -⟩ := (show RRf (some (k2, l2, ds)) (.agg c8) _ from hr2 ▸ HPB14.out.f2).form
            obtain rfl : c8 = rBody4 true k2 l2 B ds.length cb := Value.agg.inj hd
            have HR2 := Lib.hid hr2
            have HSD := Lib.hid hsd
            have HNB := Lib.hid hnB
            have hfb := readF_facts HM.out hr2
            have hd250 := hfb.1
            have hkb := hfb.2.2
            have HFB := Lib.hid hfb
            clear hd hsd hnB hr2 hfb
            by_cases hkk : k1 = k2
            · subst hkk
              have h3 := HJ.out
              rw [show joinF l m = toldR k1 l2 (cs ++ ds) by unfold joinF; rw [HR1.out, HR2.out]; exact if_pos rfl] at h3
              have HT := Lib.hid h3
              clear h3
              obtain ⟨th16, k16, hb16, hs16⟩ := after15 (V14) (V14.heap.size) (by simp [size_setCells])
              have HPC6 := Lib.hid (HV14.out.keep k16)
              have HB16 := Lib.hid hb16
              have HS16 := Lib.hid hs16
              have HK16 := Lib.hid k16
              have t16 := hb16.thereAll 256 zsz
              have r16 := hb16.readAll 256 zsz
              have t12 := HPC6.out.b12.thereAll 256 sZ
              have r12 := HPC6.out.b12.readAll 256 sZ
              clear k16 hb16 hs16
              have H60 : Hid (∀ c ∈ cs ++ ds, 1 ≤ c.size ∧ c.size ≤ 60) := Lib.hid (fun c hc => (List.mem_append.1 hc).elim (HFA.out.2.1 c) (HFB.out.2.1 c))
              have HSDV := HSD
              have c80 := cellAt (v := .bool true) HPC6.out.pb.pa.b8 0 rfl
              have c71 := cellAt (v := .int .i64 k1) HPC6.out.pb.pa.b7 1 rfl
              have c81 := cellAt (v := .int .i64 k1) HPC6.out.pb.pa.b8 1 rfl
              have t8 := HPC6.out.pb.pa.b8.thereAll 4 rfl
              have r8 := HPC6.out.pb.pa.b8.readAll 4 rfl
              have s8 : (rBody4 true k1 l2 B ds.length cb).size = 4 := rfl
              have o8 : ones (rBody4 true k1 l2 B ds.length cb) := body4_one _ _ _ _ _ _
              obtain ⟨th18, k19, hb18, hs19⟩ := after19 (((V14).alloc (.cells zero256 26)).setCells (V14.heap.size) 0 zero256.toList) (V14.heap.size + 1) (rBody4 true k1 l2 B ds.length cb) HS16.out rfl
              have hpc7 := HPC6.out.keep k19
              have HTW8 := Lib.hid ((show TW (V14) (V14.heap.size) (V14.heap.size + 1) k1 l2 (.slice B ds.length cb) _ from ⟨HK16.out.trans k19 (fun _ _ q => q), HB16.out.keep k19 (fun q => q), hb18⟩).alloc (.cells #[] 9))
              have hpc8 := hpc7.keep ((Kp.refl NoB _).alloc (.cells #[] 9))
              have c73w := cellAt (v := .slice (some ⟨g, 0, none⟩) cs.length cap) hpc8.pb.pa.b7 3 rfl
              have HSA8 := Lib.hid (Sl.keep HSLV.out HTW8.out.k)
              have HOWN8 := Lib.hid (show ((((((V14).alloc (.cells zero256 26)).setCells (V14.heap.size) 0 zero256.toList).alloc (.cells #[.bool false, .int .i64 0, .int .u32 0, .slice none 0 0] 34)).setCells (V14.heap.size + 1) 0 (rBody4 true k1 l2 B ds.length cb).toList).alloc (.cells #[] 9)).ownsRow (V14.heap.size + 1 + 1) 9 1 (.slice (some ⟨V14.heap.size + 1 + 1, 0, none⟩) 0 0) 0 [] from ⟨rfl, .inr ⟨V14.heap.size + 1 + 1, 0, #[], rfl, Nat.le_refl _, Blk.newAt _ _ _ _ hs19, Nat.le_refl _, by simp, rfl, rfl⟩⟩)
              have HS8 := Lib.hid (show V14.heap.size + 1 + 1 ≤ ((((((V14).alloc (.cells zero256 26)).setCells (V14.heap.size) 0 zero256.toList).alloc (.cells #[.bool false, .int .i64 0, .int .u32 0, .slice none 0 0] 34)).setCells (V14.heap.size + 1) 0 (rBody4 true k1 l2 B ds.length cb).toList).alloc (.cells #[] 9)).heap.size by rw [← hs19]; simp)
              clear k19 hb18 hs19 hpc7 hpc8
              go_wp2_with (first
                | (have hG := HOWN8; clear hG; at_builtin; refine wpList_append_src rfl _ _ 23 rfl (V14.heap.size + 1 + 1) 9 i0 _ 16 Try.underlying23 HI0.out HZ0.out HZ1.out HZ2.out rfl _ 0 [] rfl HOWN8.out (some ⟨g, 0, none⟩) cs.length cap (cs.map Value.string) rfl (fun e => by first | exact HNA.out e | exact HNA.out trivial | cases e) (by rw [List.length_map]) (cat_src HSA8.out) (texts_one cs) (by unfold maxLen; omega) (by omega) HS8.out ?_; intro v1 w11 hown1 hgr1; rw [Nat.zero_add, List.nil_append] at hown1; obtain ⟨A1, cap1, rfl⟩ := own_slice hown1; obtain ⟨c183, f183, htw12, hown12, c183w⟩ := HTW8.out.step (Nat.le_refl _) (by omega) hgr1 (by intro k e; have e1 : V14.heap.size + 1 + 1 = k := Option.some.inj e; omega) hown1; have hpc12 := HV14.out.keep htw12.k; have c83w := cellAt (v := .slice B ds.length cb) hpc12.pb.pa.b8 3 rfl; have HSB12 := Lib.hid (HSDV.out.keep htw12.k); have HOWN12 := Lib.hid hown12; have HTW12 := Lib.hid htw12; have HS12 := Lib.hid (Nat.le_of_lt_succ (Nat.succ_lt_succ htw12.b18.lt)); clear hown1 hgr1 htw12 hown12 hpc12 HOWN8 HTW8)
                | (have hG := HOWN12; clear hG; at_builtin; refine wpList_append_src rfl _ _ 23 rfl (V14.heap.size + 1 + 1) 9 i0 _ 16 Try.underlying23 HI0.out HZ0.out HZ1.out HZ2.out rfl _ cs.length (cs.map Value.string) rfl HOWN12.out B ds.length cb (ds.map Value.string) rfl HNB.out (by rw [List.length_map]) (cat_src HSB12.out) (texts_one ds) (by unfold maxLen; omega) (by omega) HS12.out ?_; intro v2 w13 hown2 hgr2; rw [← List.map_append] at hown2; obtain ⟨C, cc, rfl⟩ := own_slice hown2; obtain ⟨c183, f183, htw14, hown14, c183w⟩ := HTW12.out.step (Nat.le_refl _) (by omega) hgr2 (own_ge HOWN12.out) hown2; have t18w := htw14.b18.thereAll 4 rfl; have r18w := htw14.b18.readAll 4 rfl; have HSC := Lib.hid (own_Sl hown14 List.length_append); have HTW14 := Lib.hid htw14; clear hown2 hgr2 htw14 hown14 HOWN12 HTW12)
                | (go_at_call 23; go_must (refine (rtold_ok _ true k1 l2 C (cs.length + ds.length) cc (cs ++ ds) HFA.out.2.2.1 (by have := HFA.out.2.2.2.1; omega) (by omega) H60.out HSC.out).mono ?_); rintro e w15 hq; rw [HT.out] at hq; obtain ⟨rfl, hk15⟩ := hq; have hb16x := HTW14.out.b16.keep hk15 (fun q => q); have th16w := hb16x.thereAll 256 zsz; have hb16w := hb16x.whole Z (by rw [zsz]; exact sZ.symm); have t16w := hb16w.thereAll 256 sZ; have r16w := hb16w.readAll 256 sZ; have hpcw := HV14.out.keep (Kp.setCells (S := NoB) (g := V14.heap.size) (.inl (Nat.le_refl _)) Z.toList 0 _ (HTW14.out.k.trans hk15 (fun _ _ q => q))); have t12w := hpcw.b12.thereAll 256 sZ; have r12w := hpcw.b12.readAll 256 sZ; have HPCW := Lib.hid hpcw; clear hk15 hb16x hb16w hpcw)
                | (go_at_call 8; go_must (refine (awake_ok _).mono ?_); rintro e w9 ⟨rfl, hk9⟩; have HK9 := Lib.hid hk9; clear hk9))
              go_ret
              exact ⟨rfl, HPCW.out.pb.pa.kp.trans HK9.out (fun _ _ q => q)⟩
            · have h3 := HJ.out
              rw [show joinF l m = (zero256, 2) by unfold joinF; rw [HR1.out, HR2.out]; exact if_neg hkk] at h3
              simp only [Prod.mk.injEq] at h3
              obtain ⟨hz3, rfl⟩ := h3
              have HZ3 := Lib.hid hz3.symm
              clear hz3
              have hkd : decide (k1 = k2) = false := decide_eq_false hkk
              have hk4 : (k1 == k2) = false := beq_eq_false_iff_ne.2 hkk
              have hk5 : (k1 != k2) = true := bne_iff_ne.2 hkk
              obtain ⟨th16, k16, hb16, hs16⟩ := after15 (V14) (V14.heap.size) (by simp [size_setCells])
              have HPC6 := Lib.hid (HV14.out.keep k16)
              have HB16 := Lib.hid hb16
              have HS16 := Lib.hid hs16
              have HK16 := Lib.hid k16
              have t16 := hb16.thereAll 256 zsz
              have r16 := hb16.readAll 256 zsz
              have t12 := HPC6.out.b12.thereAll 256 sZ
              have r12 := HPC6.out.b12.readAll 256 sZ
              clear k16 hb16 hs16
              have r12z := r12.trans HZ3.out
              clear r12
              have c80 := cellAt (v := .bool true) HPC6.out.pb.pa.b8 0 rfl
              have c71 := cellAt (v := .int .i64 k1) HPC6.out.pb.pa.b7 1 rfl
              have c81 := cellAt (v := .int .i64 k2) HPC6.out.pb.pa.b8 1 rfl
              go_wp2_with (go_at_call 8; go_must (refine (awake_ok _).mono ?_); rintro e w9 ⟨rfl, hk9⟩; have HK9 := Lib.hid hk9; clear hk9)
              go_ret
              exact ⟨rfl, HPC6.out.pb.pa.kp.trans HK9.out (fun _ _ q => q)⟩
end Go.Proofs.Ytnleoeogcinadaa
