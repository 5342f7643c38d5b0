/- The program's Cut: a page in two; no condition. -/
import Derived.Test.YtnleoeogcinadaaPgCutB
import Derived.Test.YtnleoeogcinadaaInto
namespace Go.Proofs.Ytnleoeogcinadaa
open Go.RowKit
attribute [local go_sem ↓] load26 store26 alloc26 build26 slice26lo load62 store62
set_option maxRecDepth 100000 in
set_option maxHeartbeats 12000000 in
theorem Cut_main (w : World) (l : List Int) (hB : Bytes l) (n : Int) {kind link : Int} {cs : List ByteArray} (hr : readF l = some (kind, link, cs)) (hbad : ¬ (n < 0 ∨ (cs.length : Int) < n)) : Calls Try.prog 20 #[.agg (bytesV l), .int .i64 n] w (CutPost w (cutF l n)) := by
  have HB := Lib.hid hB
  have hb0 := (Blk.new w 26 (bytesV l))
  have HB0 := Lib.hid hb0
  have hb1 := (hb0.alloc (.cells zero256 26)).alloc (.cells zero256 26)
  have t1 := hb1.thereAll 256 (by rw [bytesV_size]; exact hB.len)
  have r1 := hb1.readAll 256 (by rw [bytesV_size]; exact hB.len)
  clear hB hb0 hb1
  have HR := Lib.hid hr
  have on3 : ones #[.int .u8 0, .int .u32 0, .slice none 0 0] := by unfold ones; simp [Value.oneCell']
  have zsz := zero256_size
  have zon := zero256_one
  have HZ := Lib.hid (show Z2 (w.heap.size + 1) (((w.alloc (.cells (bytesV l) 26)).alloc (.cells zero256 26)).alloc (.cells zero256 26)) from ⟨(Blk.newAt _ _ _ _ (by simp)).alloc _, Blk.newAt _ _ _ _ (by simp)⟩)
  have hq : cutF l n = (bytesV (layI kind 0 (cs.take n.toNat)), bytesV (layI kind link (cs.drop n.toNat)), 0) := by unfold cutF; rw [hr]; exact if_neg hbad
  rw [hq]
  have hroom := readF_room HB.out hr
  have hfacts := readF_facts HB.out hr
  clear hq hr
  obtain ⟨k, rfl⟩ := Int.eq_ofNat_of_zero_le (show 0 ≤ n by omega)
  have hk : k ≤ cs.length := by omega
  have hki : (k : Int) ≤ cs.length := by omega
  rw [show ((k : Int)).toNat = k by omega]
  have r1 := roomI_take_ge cs k
  have r2 := roomI_drop_ge cs k
  have l1 := layI_len kind 0 (cs.take k) (by omega)
  have l2 := layI_len kind link (cs.drop k) (by omega)
  have e1 : bytesV (layI kind 0 (cs.take k)) = ((layI kind 0 (cs.take k)).map (Value.int .u8)).toArray := rfl
  have e2 : bytesV (layI kind link (cs.drop k)) = ((layI kind link (cs.drop k)).map (Value.int .u8)).toArray := rfl
  rw [e1, e2]
  obtain ⟨M1, hM1⟩ : ∃ M, (layI kind 0 (cs.take k)).map (Value.int .u8) = M := ⟨_, rfl⟩
  obtain ⟨M2, hM2⟩ : ∃ M, (layI kind link (cs.drop k)).map (Value.int .u8) = M := ⟨_, rfl⟩
  have len1 : M1.length = 256 := by rw [← hM1, List.length_map, l1]
  have len2 : M2.length = 256 := by rw [← hM2, List.length_map, l2]
  have one1 : ∀ v ∈ M1, v.oneCell' = true := by rw [← hM1]; intro v hv; rw [List.mem_map] at hv; obtain ⟨x, _, rfl⟩ := hv; rfl
  have one2 : ∀ v ∈ M2, v.oneCell' = true := by rw [← hM2]; intro v hv; rw [List.mem_map] at hv; obtain ⟨x, _, rfl⟩ := hv; rfl
  have hinf := info26
  rw [hM1, hM2]
  have HM1 := Lib.hid hM1
  have HM2 := Lib.hid hM2
  have HFC := Lib.hid hfacts
  have HRM := Lib.hid (show 0 ≤ roomI (cs.take k) ∧ 0 ≤ roomI (cs.drop k) from ⟨by omega, by omega⟩)
  have h60a : Hid (∀ c ∈ cs.take k, 1 ≤ c.size ∧ c.size ≤ 60) := Lib.hid (fun c hc => hfacts.2.1 c (List.mem_of_mem_take hc))
  have h60b : Hid (∀ c ∈ cs.drop k, 1 ≤ c.size ∧ c.size ≤ 60) := Lib.hid (fun c hc => hfacts.2.1 c (List.mem_of_mem_drop hc))
  have hc250 := hfacts.1
  clear hbad r1 r2 hroom hfacts hM1 hM2 l1 l2 e1 e2
  go_enter Try.func20, Try.ntmps20
  go_wp2_with (go_at_call 32; go_must (refine (read_ok _ l HB.out).mono ?_); rintro e w2 hq; rw [HR.out] at hq; obtain ⟨hk2, A, cap, rfl, ho, hs⟩ := hq.some; have hform := own_form ho; have hcap := own_cap ho; clear hq ho; have HK := Lib.hid hk2; have HFORM := Lib.hid hform; have hb := (Blk.new w2 62 #[.int .u8 0, .int .u32 0, .slice none 0 0]); have th := hb.thereAll 3 rfl; have hb3 := hb.whole (body3 kind link A cs.length cap) rfl; have HB3 := Lib.hid hb3; have HS := Lib.hid (hs.keep (Kp.setCells (S := NoB) (g := w2.heap.size) (.inl (Nat.le_refl _)) (body3 kind link A cs.length cap).toList 0 _ ((Kp.refl NoB w2).alloc (.cells #[.int .u8 0, .int .u32 0, .slice none 0 0] 62)))); have c0 := hb3.cell 0; have c1 := hb3.cell 1; have c2 := hb3.cell 2; have th3 := hb3.thereAll 3 rfl; have rd3 := hb3.readAll 3 rfl; have on4 : ones (body3 kind link A cs.length cap) := (by unfold ones body3; simp [Value.oneCell']); have hz := zfar (HZ.out.keep hk2) 62 #[.int .u8 0, .int .u32 0, .slice none 0 0] (body3 kind link A cs.length cap); have HZ2 := Lib.hid hz; obtain ⟨t4, t5, t5'⟩ := hz.facts; unfold body3 at th3 rd3 on4 c0 c1 c2 t4 t5 t5'; clear hk2 hs hb hb3 hform hz)
  refine forget (p := fun wx => Code.wp _ _ _ _ wx) (CW w w2.heap.size kind link A cs.length cap cs) ⟨(Kp.setCells (.inl (by have := HK.out.size; simp at this; omega)) _ _ _ (((((Kp.refl NoB w).alloc _).alloc _).alloc _).trans HK.out (fun _ _ q => q) |>.alloc _)), HZ2.out, HB3.out, HS.out⟩ ?_
  intro W hW
  have HW := Lib.hid hW
  obtain ⟨g7, hg7e⟩ : ∃ g, w2.heap.size = g := ⟨_, rfl⟩
  rw [hg7e] at HW ⊢
  clear hW c0 c1 c2 t4 t5 t5' th th3 rd3 hg7e
  have hg7 := HW.out.b7.lt
  have hneA : g7 ≠ W.heap.size := by omega
  have c0 : W.cell? ⟨g7, 0, none⟩ = some (.int .u8 kind) := HW.out.b7.cell 0
  have c1 : W.cell? ⟨g7, 1, none⟩ = some (.int .u32 link) := HW.out.b7.cell 1
  rcases HFORM.out with ⟨rfl, hn0, hcap0⟩ | ⟨g, rfl⟩
  · have HSN : Hid (∀ W', Sl W' none k (cs.take k)) := Lib.hid (fun W' => ⟨by rw [List.length_take]; omega, fun h => by omega⟩)
    have HSM : Hid (∀ W', Sl W' none (cs.length - k) (cs.drop k)) := Lib.hid (fun W' => ⟨by rw [List.length_drop], fun h => by omega⟩)
    have hkc : (k : Int) ≤ (cap : Int) := by omega
    clear hn0 hcap0
    have c2 : W.cell? ⟨g7, 2, none⟩ = some (.slice none cs.length cap) := HW.out.b7.cell 2
    go_region_held3 (fun w' => w'.cell? ⟨g7, 0, none⟩ = some (.int .u8 kind) ∧ w'.cell? ⟨g7, 1, none⟩ = some (.int .u32 link) ∧ w'.cell? ⟨g7, 2, none⟩ = some (.slice none cs.length cap)) (first | exact ⟨s0, s1, s2⟩ | go_keep | (rw [cell_setCells_far _ hneA, cell_setCells_far _ hneA, cell_setCells_far _ hneA]; first | exact ⟨s0, s1, s2⟩ | go_keep) | (rw [cell_setCells_far _ hneB, cell_setCells_far _ hneB, cell_setCells_far _ hneB]; first | exact ⟨s0, s1, s2⟩ | go_keep)) ((go_at_call 31; go_must (refine (told_fit _ kind 0 none k cap (cs.take k) M1 HM1.out HRM.out.1 (by omega) h60a.out (HSN.out _)).mono ?_); rintro e w3 ⟨rfl, hk3⟩; have hq3 : Kp NoB W w3 := (by first | exact (Kp.refl NoB W).drew.trans hk3 (fun _ _ q => q) | exact ((Kp.refl NoB W).drew.alloc _).trans hk3 (fun _ _ q => q) | exact ((Kp.refl NoB W).alloc _).drew.trans hk3 (fun _ _ q => q)); have HK3 := Lib.hid hq3; have s0 := (hq3.cell hg7 (fun q => q)).trans c0; have s1 := (hq3.cell hg7 (fun q => q)).trans c1; have s2 := (hq3.cell hg7 (fun q => q)).trans c2; have hneB : g7 ≠ w3.heap.size := (by have := hq3.size; omega); have thB := (Blk.new w3 26 zero256).thereAll 256 zero256_size; first | (have hbA := ((Blk.new W 26 zero256).drew).keep hk3 (fun q => q); have thA := hbA.thereAll 256 zero256_size; have HBA := Lib.hid hbA; clear hbA) | skip; clear hk3 hq3))
    all_goals
      first
        | (refine forget (p := fun wx => Exit.then _ _ Exit.normal _ wx) (fun W' => CW w g7 kind link none cs.length cap cs W' ∧ Blk W' W.heap.size 26 M1.toArray ∧ w.heap.size + 2 < W.heap.size) ⟨HW.out.keep (Kp.setCells (.inl (Nat.le_refl _)) _ _ _ HK3.out), HBA.out.whole M1.toArray (by simp [len1, zero256_size]), by have := HW.out.z.b5.lt; omega⟩ ?_; generalize W.heap.size = g9)
        | (refine forget (p := fun wx => Exit.then _ _ Exit.normal _ wx) (fun W' => CW w g7 kind link none cs.length cap cs W' ∧ Blk W' w3.heap.size 26 M1.toArray ∧ w.heap.size + 2 < w3.heap.size) ⟨HW.out.keep (Kp.setCells (.inl (by have := HK3.out.size; omega)) _ _ _ (HK3.out.alloc _)), (Blk.new w3 _ _).whole M1.toArray (by simp [len1, zero256_size]), by have := HW.out.z.b5.lt; have := HK3.out.size; omega⟩ ?_; generalize w3.heap.size = g9)
    all_goals
      intro V hV0
      obtain ⟨hV, hb9, hgt9⟩ := hV0
      have HV := Lib.hid hV
      have HB9 := Lib.hid hb9
      have hg7 := hV.b7.lt
      have hneA : g7 ≠ V.heap.size := by omega
      have c0 : V.cell? ⟨g7, 0, none⟩ = some (.int .u8 kind) := hV.b7.cell 0
      have c1 : V.cell? ⟨g7, 1, none⟩ = some (.int .u32 link) := hV.b7.cell 1
      have c2 : V.cell? ⟨g7, 2, none⟩ = some (.slice none cs.length cap) := hV.b7.cell 2
      clear hV hb9
      go_wp2_with fail
      go_region_held3 (fun w' => w'.cell? ⟨g7, 0, none⟩ = some (.int .u8 kind) ∧ w'.cell? ⟨g7, 1, none⟩ = some (.int .u32 link) ∧ w'.cell? ⟨g7, 2, none⟩ = some (.slice none cs.length cap)) (first | exact ⟨s0, s1, s2⟩ | go_keep | (rw [cell_setCells_far _ hneA, cell_setCells_far _ hneA, cell_setCells_far _ hneA]; first | exact ⟨s0, s1, s2⟩ | go_keep) | (rw [cell_setCells_far _ hneB, cell_setCells_far _ hneB, cell_setCells_far _ hneB]; first | exact ⟨s0, s1, s2⟩ | go_keep)) ((go_at_call 31; go_must (refine (told_fit _ kind link none (cs.length - k) (cap - k) (cs.drop k) M2 HM2.out HRM.out.2 (by omega) h60b.out (HSM.out _)).mono ?_); rintro e w3 ⟨rfl, hk3⟩; have hq3 : Kp NoB V w3 := (by first | exact (Kp.refl NoB V).drew.trans hk3 (fun _ _ q => q) | exact ((Kp.refl NoB V).drew.alloc _).trans hk3 (fun _ _ q => q) | exact ((Kp.refl NoB V).alloc _).drew.trans hk3 (fun _ _ q => q)); have HK3 := Lib.hid hq3; have s0 := (hq3.cell hg7 (fun q => q)).trans c0; have s1 := (hq3.cell hg7 (fun q => q)).trans c1; have s2 := (hq3.cell hg7 (fun q => q)).trans c2; have hneB : g7 ≠ w3.heap.size := (by have := hq3.size; omega); have thB := (Blk.new w3 26 zero256).thereAll 256 zero256_size; first | (have hbA := ((Blk.new V 26 zero256).drew).keep hk3 (fun q => q); have thA := hbA.thereAll 256 zero256_size; have HBA := Lib.hid hbA; clear hbA) | skip; clear hk3 hq3))
      all_goals
        first
          | (refine forget (p := fun wx => Exit.then _ _ Exit.normal _ wx) (fun W' => CW w g7 kind link none cs.length cap cs W' ∧ (Blk W' g9 26 M1.toArray ∧ Blk W' V.heap.size 26 M2.toArray) ∧ w.heap.size + 2 < V.heap.size) ⟨HV.out.keep (Kp.setCells (.inl (Nat.le_refl _)) _ _ _ HK3.out), ⟨HB9.out.keep (Kp.setCells (.inl (Nat.le_refl _)) _ _ _ HK3.out) (fun q => q), HBA.out.whole M2.toArray (by simp [len2, zero256_size])⟩, by have := HV.out.z.b5.lt; omega⟩ ?_; generalize V.heap.size = g11)
          | (refine forget (p := fun wx => Exit.then _ _ Exit.normal _ wx) (fun W' => CW w g7 kind link none cs.length cap cs W' ∧ (Blk W' g9 26 M1.toArray ∧ Blk W' w3.heap.size 26 M2.toArray) ∧ w.heap.size + 2 < w3.heap.size) ⟨HV.out.keep (Kp.setCells (.inl (by have := HK3.out.size; omega)) _ _ _ (HK3.out.alloc _)), ⟨HB9.out.keep (Kp.setCells (.inl (by have := HK3.out.size; omega)) _ _ _ (HK3.out.alloc _)) (fun q => q), (Blk.new w3 _ _).whole M2.toArray (by simp [len2, zero256_size])⟩, by have := HV.out.z.b5.lt; have := HK3.out.size; omega⟩ ?_; generalize w3.heap.size = g11)
      all_goals
        intro U hU0
        obtain ⟨hU, ⟨hc9, hc11⟩, hgt11⟩ := hU0
        have HU := Lib.hid hU
        have rg9 : U.drew.rangeAt g9 0 M1 := Blk.range (xa := []) (xd := []) (by simpa using hc9.drew) 0 rfl
        have rg11 : U.drew.rangeAt g11 0 M2 := Blk.range (xa := []) (xd := []) (by simpa using hc11.drew) 0 rfl
        have tz4 := hU.z.b4.drew.thereAll 256 zero256_size
        have tz5 := hU.z.b5.drew.thereAll 256 zero256_size
        have hn94 : g9 ≠ w.heap.size + 1 := by omega
        have hn95 : g9 ≠ w.heap.size + 1 + 1 := by omega
        have hn14 : g11 ≠ w.heap.size + 1 := by omega
        have hn15 : g11 ≠ w.heap.size + 1 + 1 := by omega
        have hu26 := Try.underlying26
        have hi1 : (Try.prog.info? 26).map (·.size) = some M1.length := by rw [len1]; exact hinf
        have hi2 : (Try.prog.info? 26).map (·.size) = some M2.length := by rw [len2]; exact hinf
        have sM1 : M1.toArray.size = 256 := by simpa using len1
        have sM2 : M2.toArray.size = 256 := by simpa using len2
        have oM1 := all_oneCell_toArray one1
        have oM2 := all_oneCell_toArray one2
        clear hU hc9 hc11 hinf
        go_wp2_with fail
        refine wp_region_held_drew (S := fun w' => w'.rangeAt g9 0 M1 ∧ w'.rangeAt g11 0 M2 ∧ w'.there (w.heap.size + 1) 0 256 ∧ w'.there (w.heap.size + 1 + 1) 0 256) (by kernel_rfl) ⟨rg9, rg11, tz4, tz5⟩ (fun hHeld => ?_)
        refine wpAnyH_take (i := 0) (v := .agg M1.toArray) rfl (by kernel_rfl) (by kernel_rfl) (by kernel_rfl) (fun _ _ _ h => h) (yieldsIf_load_mid (by rfl) _ _ rfl _ _ rfl _ _ (fun _ q => q.1) hu26 rfl hi1) hHeld ?_
        simp only [Act.put, List.setIfInBounds_toArray, List.set_cons_zero, List.set_cons_succ]
        refine wpAnyH_take (i := 1) (v := .agg M2.toArray) rfl (by kernel_rfl) (by kernel_rfl) (by kernel_rfl) (fun _ _ _ h => h) (yieldsIf_load_mid (by rfl) _ _ rfl _ _ rfl _ _ (fun _ q => q.2.1) hu26 rfl hi2) hHeld ?_
        simp only [Act.put, List.setIfInBounds_toArray, List.set_cons_zero, List.set_cons_succ]
        refine wpAnyH_take (i := 2) (v := .int .i64 0) rfl (by kernel_rfl) (by kernel_rfl) (by kernel_rfl) (fun _ _ _ h => h) (Or.inl ⟨by rfl, fun w hSw => by go_simp⟩) hHeld ?_
        simp only [Act.put, List.setIfInBounds_toArray, List.set_cons_zero, List.set_cons_succ]
        refine wpAnyH_take (i := 3) (v := .int .i64 0) rfl (by kernel_rfl) (by kernel_rfl) (by kernel_rfl) (fun _ _ _ h => h) (Or.inl ⟨by rfl, fun w hSw => by go_simp⟩) hHeld ?_
        simp only [Act.put, List.setIfInBounds_toArray, List.set_cons_zero, List.set_cons_succ]
        refine wpAnyH_take (i := 4) (v := .int .i64 0) rfl (by kernel_rfl) (by kernel_rfl) (by kernel_rfl) (fun _ _ _ h => h) (Or.inl ⟨by rfl, fun w hSw => by go_simp⟩) hHeld ?_
        simp only [Act.put, List.setIfInBounds_toArray, List.set_cons_zero, List.set_cons_succ]
        refine wpAnyH_ready (rs := [5]) (by kernel_rfl) (by simp) ?_
        refine AllReadyH.store rfl (by rfl) _ _ _ rfl (w.heap.size + 1) 0 M1.toArray rfl rfl (by rw [sM1]; exact tz4) hi1 oM1 ⟨World.rangeAt_setCells_apart rg9 _ _ _ (.inl hn94), World.rangeAt_setCells_apart rg11 _ _ _ (.inl hn14), World.there_setCells tz4 _ _ _, World.there_setCells tz5 _ _ _⟩ ?_ AllReadyH.nil
        simp only [Act.put, List.setIfInBounds_toArray, List.set_cons_zero, List.set_cons_succ]
        refine wpAnyH_ready (rs := [6]) (by kernel_rfl) (by simp) ?_
        have hHeld2 : (fun w' : World => w'.rangeAt g9 0 M1 ∧ w'.rangeAt g11 0 M2 ∧ w'.there (w.heap.size + 1) 0 256 ∧ w'.there (w.heap.size + 1 + 1) 0 256) ((U.drew.setCells (w.heap.size + 1) 0 M1).setCells (w.heap.size + 1 + 1) 0 M2) := ⟨World.rangeAt_setCells_apart (World.rangeAt_setCells_apart rg9 _ _ _ (.inl hn94)) _ _ _ (.inl hn95), World.rangeAt_setCells_apart (World.rangeAt_setCells_apart rg11 _ _ _ (.inl hn14)) _ _ _ (.inl hn15), World.there_setCells (World.there_setCells tz4 _ _ _) _ _ _, World.there_setCells (World.there_setCells tz5 _ _ _) _ _ _⟩
        refine AllReadyH.store rfl (by rfl) _ _ _ rfl (w.heap.size + 1 + 1) 0 M2.toArray rfl rfl (by rw [sM2]; exact World.there_setCells tz5 _ _ _) hi2 oM2 hHeld2 ?_ AllReadyH.nil
        simp only [Act.put, List.setIfInBounds_toArray, List.set_cons_zero, List.set_cons_succ]
        refine wpAnyH_take (i := 7) (v := .int .i64 0) rfl (by kernel_rfl) (by kernel_rfl) (by kernel_rfl) (fun _ _ _ h => h) (Or.inl ⟨by rfl, fun w hSw => by go_simp⟩) hHeld2 ?_
        simp only [Act.put, List.setIfInBounds_toArray, List.set_cons_zero, List.set_cons_succ]
        refine wpAnyH_done (by kernel_rfl) ?_ _
        go_wp2_with fail
        refine bodyPost_ret (ret_cct rfl _ _ _ _ _ _ _ _ _ rfl rfl ((HU.out.z.b4.drew.whole M1.toArray (by rw [sM1, zero256_size])).farCells (by omega) _ _ _) ((HU.out.z.b5.drew.farCells (by omega) _ _ _).whole M2.toArray (by rw [sM2, zero256_size])) Try.underlying26 rfl hi1 hi2 _ rfl) rfl ?_
        exact ⟨rfl, Kp.setCells (.inl (by omega)) _ _ _ (Kp.setCells (.inl (by omega)) _ _ _ HU.out.kp.drew)⟩
  · have c2 : W.cell? ⟨g7, 2, none⟩ = some (.slice (some ⟨g, 0, none⟩) cs.length cap) := HW.out.b7.cell 2
    have hkc : (k : Int) ≤ (cap : Int) := by omega
    apply wp_into (G := fun W' gx => CW w g7 kind link (some ⟨g, 0, none⟩) cs.length cap cs W' ∧ Blk W' gx 26 M1.toArray ∧ w.heap.size + 2 < gx)
    · go_region_held3 (fun w' => w'.cell? ⟨g7, 0, none⟩ = some (.int .u8 kind) ∧ w'.cell? ⟨g7, 1, none⟩ = some (.int .u32 link) ∧ w'.cell? ⟨g7, 2, none⟩ = some (.slice (some ⟨g, 0, none⟩) cs.length cap)) (first | exact ⟨s0, s1, s2⟩ | go_keep | (rw [cell_setCells_far _ hneA, cell_setCells_far _ hneA, cell_setCells_far _ hneA]; first | exact ⟨s0, s1, s2⟩ | go_keep) | (rw [cell_setCells_far _ hneB, cell_setCells_far _ hneB, cell_setCells_far _ hneB]; first | exact ⟨s0, s1, s2⟩ | go_keep)) ((go_at_call 31; go_must (refine (told_fit _ kind 0 (some ⟨g, 0, none⟩) k cap (cs.take k) M1 HM1.out HRM.out.1 (by omega) h60a.out ((HW.out.sl.take k hk).keep (by first | exact (Kp.refl NoB W).drew | exact ((Kp.refl NoB W).drew.alloc _) | exact ((Kp.refl NoB W).alloc _).drew))).mono ?_); rintro e w3 ⟨rfl, hk3⟩; have hq3 : Kp NoB W w3 := (by first | exact (Kp.refl NoB W).drew.trans hk3 (fun _ _ q => q) | exact ((Kp.refl NoB W).drew.alloc _).trans hk3 (fun _ _ q => q) | exact ((Kp.refl NoB W).alloc _).drew.trans hk3 (fun _ _ q => q)); have HK3 := Lib.hid hq3; have s0 := (hq3.cell hg7 (fun q => q)).trans c0; have s1 := (hq3.cell hg7 (fun q => q)).trans c1; have s2 := (hq3.cell hg7 (fun q => q)).trans c2; have hneB : g7 ≠ w3.heap.size := (by have := hq3.size; omega); have thB := (Blk.new w3 26 zero256).thereAll 256 zero256_size; first | (have hbA := ((Blk.new W 26 zero256).drew).keep hk3 (fun q => q); have thA := hbA.thereAll 256 zero256_size; have HBA := Lib.hid hbA; clear hbA) | skip; clear hk3 hq3))
      all_goals
        first
          | (refine into_of W.heap.size ⟨HW.out.keep (Kp.setCells (.inl (Nat.le_refl _)) _ _ _ HK3.out), HBA.out.whole M1.toArray (by simp [len1, zero256_size]), by have := HW.out.z.b5.lt; omega⟩ ?_; generalize W.heap.size = g9; rfl)
          | (refine into_of w3.heap.size ⟨HW.out.keep (Kp.setCells (.inl (by have := HK3.out.size; omega)) _ _ _ (HK3.out.alloc _)), (Blk.new w3 _ _).whole M1.toArray (by simp [len1, zero256_size]), by have := HW.out.z.b5.lt; have := HK3.out.size; omega⟩ ?_; generalize w3.heap.size = g9; rfl)
    intro g9
    intro V hV0
    obtain ⟨hV, hb9, hgt9⟩ := hV0
    have HV := Lib.hid hV
    have HB9 := Lib.hid hb9
    have hg7 := hV.b7.lt
    have hneA : g7 ≠ V.heap.size := by omega
    have c0 : V.cell? ⟨g7, 0, none⟩ = some (.int .u8 kind) := hV.b7.cell 0
    have c1 : V.cell? ⟨g7, 1, none⟩ = some (.int .u32 link) := hV.b7.cell 1
    have c2 : V.cell? ⟨g7, 2, none⟩ = some (.slice (some ⟨g, 0, none⟩) cs.length cap) := hV.b7.cell 2
    clear hV hb9
    go_wp2_with fail
    have HSD : Hid (Sl V (some ⟨g, k, none⟩) (cs.length - k) (cs.drop k)) := Lib.hid (by have := HV.out.sl.drop k hk; rwa [Nat.zero_add] at this)
    by_cases hck : cap = k
    · have HE := Lib.hid (show cs.drop k = [] from List.drop_eq_nil_of_le (by omega))
      have HSE : Hid (∀ W', Sl W' (some ⟨g, 0, none⟩) 0 (cs.drop k)) := Lib.hid (fun W' => by rw [HE.out]; exact Sl.empty _ _)
      subst hck
      apply wp_into (G := fun W' gx => CW w g7 kind link (some ⟨g, 0, none⟩) cs.length cap cs W' ∧ (Blk W' g9 26 M1.toArray ∧ Blk W' gx 26 M2.toArray) ∧ w.heap.size + 2 < gx)
      · go_region_held3 (fun w' => w'.cell? ⟨g7, 0, none⟩ = some (.int .u8 kind) ∧ w'.cell? ⟨g7, 1, none⟩ = some (.int .u32 link) ∧ w'.cell? ⟨g7, 2, none⟩ = some (.slice (some ⟨g, 0, none⟩) cs.length cap)) (first | exact ⟨s0, s1, s2⟩ | go_keep | (rw [cell_setCells_far _ hneA, cell_setCells_far _ hneA, cell_setCells_far _ hneA]; first | exact ⟨s0, s1, s2⟩ | go_keep) | (rw [cell_setCells_far _ hneB, cell_setCells_far _ hneB, cell_setCells_far _ hneB]; first | exact ⟨s0, s1, s2⟩ | go_keep)) ((go_at_call 31; go_must (refine (told_fit _ kind link (some ⟨g, 0, none⟩) 0 0 (cs.drop cap) M2 HM2.out HRM.out.2 (by omega) h60b.out (HSE.out _)).mono ?_); rintro e w3 ⟨rfl, hk3⟩; have hq3 : Kp NoB V w3 := (by first | exact (Kp.refl NoB V).drew.trans hk3 (fun _ _ q => q) | exact ((Kp.refl NoB V).drew.alloc _).trans hk3 (fun _ _ q => q) | exact ((Kp.refl NoB V).alloc _).drew.trans hk3 (fun _ _ q => q)); have HK3 := Lib.hid hq3; have s0 := (hq3.cell hg7 (fun q => q)).trans c0; have s1 := (hq3.cell hg7 (fun q => q)).trans c1; have s2 := (hq3.cell hg7 (fun q => q)).trans c2; have hneB : g7 ≠ w3.heap.size := (by have := hq3.size; omega); have thB := (Blk.new w3 26 zero256).thereAll 256 zero256_size; first | (have hbA := ((Blk.new V 26 zero256).drew).keep hk3 (fun q => q); have thA := hbA.thereAll 256 zero256_size; have HBA := Lib.hid hbA; clear hbA) | skip; clear hk3 hq3))
        all_goals
          first
            | (refine into_of V.heap.size ⟨HV.out.keep (Kp.setCells (.inl (Nat.le_refl _)) _ _ _ HK3.out), ⟨HB9.out.keep (Kp.setCells (.inl (Nat.le_refl _)) _ _ _ HK3.out) (fun q => q), HBA.out.whole M2.toArray (by simp [len2, zero256_size])⟩, by have := HV.out.z.b5.lt; omega⟩ ?_; generalize V.heap.size = g11; rfl)
            | (refine into_of w3.heap.size ⟨HV.out.keep (Kp.setCells (.inl (by have := HK3.out.size; omega)) _ _ _ (HK3.out.alloc _)), ⟨HB9.out.keep (Kp.setCells (.inl (by have := HK3.out.size; omega)) _ _ _ (HK3.out.alloc _)) (fun q => q), (Blk.new w3 _ _).whole M2.toArray (by simp [len2, zero256_size])⟩, by have := HV.out.z.b5.lt; have := HK3.out.size; omega⟩ ?_; generalize w3.heap.size = g11; rfl)
      intro g11
      intro U hU0
      obtain ⟨hU, ⟨hc9, hc11⟩, hgt11⟩ := hU0
      have HU := Lib.hid hU
      have rg9 : U.drew.rangeAt g9 0 M1 := Blk.range (xa := []) (xd := []) (by simpa using hc9.drew) 0 rfl
      have rg11 : U.drew.rangeAt g11 0 M2 := Blk.range (xa := []) (xd := []) (by simpa using hc11.drew) 0 rfl
      have tz4 := hU.z.b4.drew.thereAll 256 zero256_size
      have tz5 := hU.z.b5.drew.thereAll 256 zero256_size
      have hn94 : g9 ≠ w.heap.size + 1 := by omega
      have hn95 : g9 ≠ w.heap.size + 1 + 1 := by omega
      have hn14 : g11 ≠ w.heap.size + 1 := by omega
      have hn15 : g11 ≠ w.heap.size + 1 + 1 := by omega
      have hu26 := Try.underlying26
      have hi1 : (Try.prog.info? 26).map (·.size) = some M1.length := by rw [len1]; exact hinf
      have hi2 : (Try.prog.info? 26).map (·.size) = some M2.length := by rw [len2]; exact hinf
      have sM1 : M1.toArray.size = 256 := by simpa using len1
      have sM2 : M2.toArray.size = 256 := by simpa using len2
      have oM1 := all_oneCell_toArray one1
      have oM2 := all_oneCell_toArray one2
      clear hU hc9 hc11 hinf
      go_wp2_with fail
      refine wp_region_held_drew (S := fun w' => w'.rangeAt g9 0 M1 ∧ w'.rangeAt g11 0 M2 ∧ w'.there (w.heap.size + 1) 0 256 ∧ w'.there (w.heap.size + 1 + 1) 0 256) (by kernel_rfl) ⟨rg9, rg11, tz4, tz5⟩ (fun hHeld => ?_)
      refine wpAnyH_take (i := 0) (v := .agg M1.toArray) rfl (by kernel_rfl) (by kernel_rfl) (by kernel_rfl) (fun _ _ _ h => h) (yieldsIf_load_mid (by rfl) _ _ rfl _ _ rfl _ _ (fun _ q => q.1) hu26 rfl hi1) hHeld ?_
      simp only [Act.put, List.setIfInBounds_toArray, List.set_cons_zero, List.set_cons_succ]
      refine wpAnyH_take (i := 1) (v := .agg M2.toArray) rfl (by kernel_rfl) (by kernel_rfl) (by kernel_rfl) (fun _ _ _ h => h) (yieldsIf_load_mid (by rfl) _ _ rfl _ _ rfl _ _ (fun _ q => q.2.1) hu26 rfl hi2) hHeld ?_
      simp only [Act.put, List.setIfInBounds_toArray, List.set_cons_zero, List.set_cons_succ]
      refine wpAnyH_take (i := 2) (v := .int .i64 0) rfl (by kernel_rfl) (by kernel_rfl) (by kernel_rfl) (fun _ _ _ h => h) (Or.inl ⟨by rfl, fun w hSw => by go_simp⟩) hHeld ?_
      simp only [Act.put, List.setIfInBounds_toArray, List.set_cons_zero, List.set_cons_succ]
      refine wpAnyH_take (i := 3) (v := .int .i64 0) rfl (by kernel_rfl) (by kernel_rfl) (by kernel_rfl) (fun _ _ _ h => h) (Or.inl ⟨by rfl, fun w hSw => by go_simp⟩) hHeld ?_
      simp only [Act.put, List.setIfInBounds_toArray, List.set_cons_zero, List.set_cons_succ]
      refine wpAnyH_take (i := 4) (v := .int .i64 0) rfl (by kernel_rfl) (by kernel_rfl) (by kernel_rfl) (fun _ _ _ h => h) (Or.inl ⟨by rfl, fun w hSw => by go_simp⟩) hHeld ?_
      simp only [Act.put, List.setIfInBounds_toArray, List.set_cons_zero, List.set_cons_succ]
      refine wpAnyH_ready (rs := [5]) (by kernel_rfl) (by simp) ?_
      refine AllReadyH.store rfl (by rfl) _ _ _ rfl (w.heap.size + 1) 0 M1.toArray rfl rfl (by rw [sM1]; exact tz4) hi1 oM1 ⟨World.rangeAt_setCells_apart rg9 _ _ _ (.inl hn94), World.rangeAt_setCells_apart rg11 _ _ _ (.inl hn14), World.there_setCells tz4 _ _ _, World.there_setCells tz5 _ _ _⟩ ?_ AllReadyH.nil
      simp only [Act.put, List.setIfInBounds_toArray, List.set_cons_zero, List.set_cons_succ]
      refine wpAnyH_ready (rs := [6]) (by kernel_rfl) (by simp) ?_
      have hHeld2 : (fun w' : World => w'.rangeAt g9 0 M1 ∧ w'.rangeAt g11 0 M2 ∧ w'.there (w.heap.size + 1) 0 256 ∧ w'.there (w.heap.size + 1 + 1) 0 256) ((U.drew.setCells (w.heap.size + 1) 0 M1).setCells (w.heap.size + 1 + 1) 0 M2) := ⟨World.rangeAt_setCells_apart (World.rangeAt_setCells_apart rg9 _ _ _ (.inl hn94)) _ _ _ (.inl hn95), World.rangeAt_setCells_apart (World.rangeAt_setCells_apart rg11 _ _ _ (.inl hn14)) _ _ _ (.inl hn15), World.there_setCells (World.there_setCells tz4 _ _ _) _ _ _, World.there_setCells (World.there_setCells tz5 _ _ _) _ _ _⟩
      refine AllReadyH.store rfl (by rfl) _ _ _ rfl (w.heap.size + 1 + 1) 0 M2.toArray rfl rfl (by rw [sM2]; exact World.there_setCells tz5 _ _ _) hi2 oM2 hHeld2 ?_ AllReadyH.nil
      simp only [Act.put, List.setIfInBounds_toArray, List.set_cons_zero, List.set_cons_succ]
      refine wpAnyH_take (i := 7) (v := .int .i64 0) rfl (by kernel_rfl) (by kernel_rfl) (by kernel_rfl) (fun _ _ _ h => h) (Or.inl ⟨by rfl, fun w hSw => by go_simp⟩) hHeld2 ?_
      simp only [Act.put, List.setIfInBounds_toArray, List.set_cons_zero, List.set_cons_succ]
      refine wpAnyH_done (by kernel_rfl) ?_ _
      go_wp2_with fail
      refine bodyPost_ret (ret_cct rfl _ _ _ _ _ _ _ _ _ rfl rfl ((HU.out.z.b4.drew.whole M1.toArray (by rw [sM1, zero256_size])).farCells (by omega) _ _ _) ((HU.out.z.b5.drew.farCells (by omega) _ _ _).whole M2.toArray (by rw [sM2, zero256_size])) Try.underlying26 rfl hi1 hi2 _ rfl) rfl ?_
      exact ⟨rfl, Kp.setCells (.inl (by omega)) _ _ _ (Kp.setCells (.inl (by omega)) _ _ _ HU.out.kp.drew)⟩
    · apply wp_into (G := fun W' gx => CW w g7 kind link (some ⟨g, 0, none⟩) cs.length cap cs W' ∧ (Blk W' g9 26 M1.toArray ∧ Blk W' gx 26 M2.toArray) ∧ w.heap.size + 2 < gx)
      · go_region_held3 (fun w' => w'.cell? ⟨g7, 0, none⟩ = some (.int .u8 kind) ∧ w'.cell? ⟨g7, 1, none⟩ = some (.int .u32 link) ∧ w'.cell? ⟨g7, 2, none⟩ = some (.slice (some ⟨g, 0, none⟩) cs.length cap)) (first | exact ⟨s0, s1, s2⟩ | go_keep | (rw [cell_setCells_far _ hneA, cell_setCells_far _ hneA, cell_setCells_far _ hneA]; first | exact ⟨s0, s1, s2⟩ | go_keep) | (rw [cell_setCells_far _ hneB, cell_setCells_far _ hneB, cell_setCells_far _ hneB]; first | exact ⟨s0, s1, s2⟩ | go_keep)) ((go_at_call 31; go_must (refine (told_fit _ kind link (some ⟨g, k, none⟩) (cs.length - k) (cap - k) (cs.drop k) M2 HM2.out HRM.out.2 (by omega) h60b.out (HSD.out.keep (by first | exact (Kp.refl NoB V).drew | exact ((Kp.refl NoB V).drew.alloc _) | exact ((Kp.refl NoB V).alloc _).drew))).mono ?_); rintro e w3 ⟨rfl, hk3⟩; have hq3 : Kp NoB V w3 := (by first | exact (Kp.refl NoB V).drew.trans hk3 (fun _ _ q => q) | exact ((Kp.refl NoB V).drew.alloc _).trans hk3 (fun _ _ q => q) | exact ((Kp.refl NoB V).alloc _).drew.trans hk3 (fun _ _ q => q)); have HK3 := Lib.hid hq3; have s0 := (hq3.cell hg7 (fun q => q)).trans c0; have s1 := (hq3.cell hg7 (fun q => q)).trans c1; have s2 := (hq3.cell hg7 (fun q => q)).trans c2; have hneB : g7 ≠ w3.heap.size := (by have := hq3.size; omega); have thB := (Blk.new w3 26 zero256).thereAll 256 zero256_size; first | (have hbA := ((Blk.new V 26 zero256).drew).keep hk3 (fun q => q); have thA := hbA.thereAll 256 zero256_size; have HBA := Lib.hid hbA; clear hbA) | skip; clear hk3 hq3))
        all_goals
          first
            | (refine into_of V.heap.size ⟨HV.out.keep (Kp.setCells (.inl (Nat.le_refl _)) _ _ _ HK3.out), ⟨HB9.out.keep (Kp.setCells (.inl (Nat.le_refl _)) _ _ _ HK3.out) (fun q => q), HBA.out.whole M2.toArray (by simp [len2, zero256_size])⟩, by have := HV.out.z.b5.lt; omega⟩ ?_; generalize V.heap.size = g11; rfl)
            | (refine into_of w3.heap.size ⟨HV.out.keep (Kp.setCells (.inl (by have := HK3.out.size; omega)) _ _ _ (HK3.out.alloc _)), ⟨HB9.out.keep (Kp.setCells (.inl (by have := HK3.out.size; omega)) _ _ _ (HK3.out.alloc _)) (fun q => q), (Blk.new w3 _ _).whole M2.toArray (by simp [len2, zero256_size])⟩, by have := HV.out.z.b5.lt; have := HK3.out.size; omega⟩ ?_; generalize w3.heap.size = g11; rfl)
      intro g11
      intro U hU0
      obtain ⟨hU, ⟨hc9, hc11⟩, hgt11⟩ := hU0
      have HU := Lib.hid hU
      have rg9 : U.drew.rangeAt g9 0 M1 := Blk.range (xa := []) (xd := []) (by simpa using hc9.drew) 0 rfl
      have rg11 : U.drew.rangeAt g11 0 M2 := Blk.range (xa := []) (xd := []) (by simpa using hc11.drew) 0 rfl
      have tz4 := hU.z.b4.drew.thereAll 256 zero256_size
      have tz5 := hU.z.b5.drew.thereAll 256 zero256_size
      have hn94 : g9 ≠ w.heap.size + 1 := by omega
      have hn95 : g9 ≠ w.heap.size + 1 + 1 := by omega
      have hn14 : g11 ≠ w.heap.size + 1 := by omega
      have hn15 : g11 ≠ w.heap.size + 1 + 1 := by omega
      have hu26 := Try.underlying26
      have hi1 : (Try.prog.info? 26).map (·.size) = some M1.length := by rw [len1]; exact hinf
      have hi2 : (Try.prog.info? 26).map (·.size) = some M2.length := by rw [len2]; exact hinf
      have sM1 : M1.toArray.size = 256 := by simpa using len1
      have sM2 : M2.toArray.size = 256 := by simpa using len2
      have oM1 := all_oneCell_toArray one1
      have oM2 := all_oneCell_toArray one2
      clear hU hc9 hc11 hinf
      go_wp2_with fail
      refine wp_region_held_drew (S := fun w' => w'.rangeAt g9 0 M1 ∧ w'.rangeAt g11 0 M2 ∧ w'.there (w.heap.size + 1) 0 256 ∧ w'.there (w.heap.size + 1 + 1) 0 256) (by kernel_rfl) ⟨rg9, rg11, tz4, tz5⟩ (fun hHeld => ?_)
      refine wpAnyH_take (i := 0) (v := .agg M1.toArray) rfl (by kernel_rfl) (by kernel_rfl) (by kernel_rfl) (fun _ _ _ h => h) (yieldsIf_load_mid (by rfl) _ _ rfl _ _ rfl _ _ (fun _ q => q.1) hu26 rfl hi1) hHeld ?_
      simp only [Act.put, List.setIfInBounds_toArray, List.set_cons_zero, List.set_cons_succ]
      refine wpAnyH_take (i := 1) (v := .agg M2.toArray) rfl (by kernel_rfl) (by kernel_rfl) (by kernel_rfl) (fun _ _ _ h => h) (yieldsIf_load_mid (by rfl) _ _ rfl _ _ rfl _ _ (fun _ q => q.2.1) hu26 rfl hi2) hHeld ?_
      simp only [Act.put, List.setIfInBounds_toArray, List.set_cons_zero, List.set_cons_succ]
      refine wpAnyH_take (i := 2) (v := .int .i64 0) rfl (by kernel_rfl) (by kernel_rfl) (by kernel_rfl) (fun _ _ _ h => h) (Or.inl ⟨by rfl, fun w hSw => by go_simp⟩) hHeld ?_
      simp only [Act.put, List.setIfInBounds_toArray, List.set_cons_zero, List.set_cons_succ]
      refine wpAnyH_take (i := 3) (v := .int .i64 0) rfl (by kernel_rfl) (by kernel_rfl) (by kernel_rfl) (fun _ _ _ h => h) (Or.inl ⟨by rfl, fun w hSw => by go_simp⟩) hHeld ?_
      simp only [Act.put, List.setIfInBounds_toArray, List.set_cons_zero, List.set_cons_succ]
      refine wpAnyH_take (i := 4) (v := .int .i64 0) rfl (by kernel_rfl) (by kernel_rfl) (by kernel_rfl) (fun _ _ _ h => h) (Or.inl ⟨by rfl, fun w hSw => by go_simp⟩) hHeld ?_
      simp only [Act.put, List.setIfInBounds_toArray, List.set_cons_zero, List.set_cons_succ]
      refine wpAnyH_ready (rs := [5]) (by kernel_rfl) (by simp) ?_
      refine AllReadyH.store rfl (by rfl) _ _ _ rfl (w.heap.size + 1) 0 M1.toArray rfl rfl (by rw [sM1]; exact tz4) hi1 oM1 ⟨World.rangeAt_setCells_apart rg9 _ _ _ (.inl hn94), World.rangeAt_setCells_apart rg11 _ _ _ (.inl hn14), World.there_setCells tz4 _ _ _, World.there_setCells tz5 _ _ _⟩ ?_ AllReadyH.nil
      simp only [Act.put, List.setIfInBounds_toArray, List.set_cons_zero, List.set_cons_succ]
      refine wpAnyH_ready (rs := [6]) (by kernel_rfl) (by simp) ?_
      have hHeld2 : (fun w' : World => w'.rangeAt g9 0 M1 ∧ w'.rangeAt g11 0 M2 ∧ w'.there (w.heap.size + 1) 0 256 ∧ w'.there (w.heap.size + 1 + 1) 0 256) ((U.drew.setCells (w.heap.size + 1) 0 M1).setCells (w.heap.size + 1 + 1) 0 M2) := ⟨World.rangeAt_setCells_apart (World.rangeAt_setCells_apart rg9 _ _ _ (.inl hn94)) _ _ _ (.inl hn95), World.rangeAt_setCells_apart (World.rangeAt_setCells_apart rg11 _ _ _ (.inl hn14)) _ _ _ (.inl hn15), World.there_setCells (World.there_setCells tz4 _ _ _) _ _ _, World.there_setCells (World.there_setCells tz5 _ _ _) _ _ _⟩
      refine AllReadyH.store rfl (by rfl) _ _ _ rfl (w.heap.size + 1 + 1) 0 M2.toArray rfl rfl (by rw [sM2]; exact World.there_setCells tz5 _ _ _) hi2 oM2 hHeld2 ?_ AllReadyH.nil
      simp only [Act.put, List.setIfInBounds_toArray, List.set_cons_zero, List.set_cons_succ]
      refine wpAnyH_take (i := 7) (v := .int .i64 0) rfl (by kernel_rfl) (by kernel_rfl) (by kernel_rfl) (fun _ _ _ h => h) (Or.inl ⟨by rfl, fun w hSw => by go_simp⟩) hHeld2 ?_
      simp only [Act.put, List.setIfInBounds_toArray, List.set_cons_zero, List.set_cons_succ]
      refine wpAnyH_done (by kernel_rfl) ?_ _
      go_wp2_with fail
      refine bodyPost_ret (ret_cct rfl _ _ _ _ _ _ _ _ _ rfl rfl ((HU.out.z.b4.drew.whole M1.toArray (by rw [sM1, zero256_size])).farCells (by omega) _ _ _) ((HU.out.z.b5.drew.farCells (by omega) _ _ _).whole M2.toArray (by rw [sM2, zero256_size])) Try.underlying26 rfl hi1 hi2 _ rfl) rfl ?_
      exact ⟨rfl, Kp.setCells (.inl (by omega)) _ _ _ (Kp.setCells (.inl (by omega)) _ _ _ HU.out.kp.drew)⟩

theorem Cut_ok (w : World) (l : List Int) (hB : Bytes l) (n : Int) : Calls Try.prog 20 #[.agg (bytesV l), .int .i64 n] w (CutPost w (cutF l n)) := by
  rcases hr : readF l with _ | ⟨kind, link, cs⟩
  · exact Cut_none w l hB n hr
  · by_cases hbad : n < 0 ∨ (cs.length : Int) < n
    · exact Cut_idx w l hB n hr hbad
    · exact Cut_main w l hB n hr hbad
end Go.Proofs.Ytnleoeogcinadaa
