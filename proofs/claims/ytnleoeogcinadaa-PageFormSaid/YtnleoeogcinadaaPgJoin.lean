/- The program's Join: two pages as one; no condition. -/
import Derived.Test.YtnleoeogcinadaaPgJoinB
import Derived.Test.YtnleoeogcinadaaPgEq
namespace Go.Proofs.Ytnleoeogcinadaa
open Go.RowKit
attribute [local go_sem ↓] load26 store26 alloc26 build26 slice26lo load62 store62

theorem told_page (kind link : Int) (xs : List ByteArray) : ∃ L : List Int, (toldR kind link xs).1 = bytesV L ∧ L.length = 256 := by
  unfold toldR
  split
  · exact ⟨zeros 256, rfl, List.length_replicate ..⟩
  · exact ⟨layI kind link xs, rfl, layI_len kind link xs (by omega)⟩
set_option maxRecDepth 100000 in
set_option maxHeartbeats 4000000 in
theorem Join_eq (w : World) (l m : List Int) (hL : Bytes l) (hM : Bytes m) {k l0 : Int} {cs : List ByteArray} {k' l0' : Int} {ds : List ByteArray} (hr1 : readF l = some (k, l0, cs)) (hr2 : readF m = some (k', l0', ds)) (he : k = k') : Calls Try.prog 21 #[.agg (bytesV l), .agg (bytesV m)] w (PagePost w (toldR k l0' (cs ++ ds))) := by
  have HBP := Lib.hid hL
  have HBQ := Lib.hid hM
  have hb0 := ((Blk.new w 26 (bytesV l)).alloc (.cells (bytesV m) 26)).alloc (.cells zero256 26)
  have hq0 : Blk (((w.alloc (.cells (bytesV l) 26)).alloc (.cells (bytesV m) 26)).alloc (.cells zero256 26)) (w.heap.size + 1) 26 (bytesV m) := (Blk.newAt _ _ _ _ (by simp)).alloc _
  have hz0 : Blk (((w.alloc (.cells (bytesV l) 26)).alloc (.cells (bytesV m) 26)).alloc (.cells zero256 26)) (w.heap.size + 1 + 1) 26 zero256 := Blk.newAt _ _ _ _ (by simp)
  have HQ0 := Lib.hid hq0
  have HZ0 := Lib.hid hz0
  have HK0 := Lib.hid ((((Kp.refl NoB w).alloc (.cells (bytesV l) 26)).alloc (.cells (bytesV m) 26)).alloc (.cells zero256 26))
  have tp := hb0.thereAll 256 (by rw [bytesV_size]; exact hL.len)
  have rp := hb0.readAll 256 (by rw [bytesV_size]; exact hL.len)
  clear hb0 hq0 hz0
  have hmq := hM.len
  clear hL hM
  have HR1 := Lib.hid hr1
  have HR2 := Lib.hid hr2
  clear hr1 hr2
  have on3 : ones #[.int .u8 0, .int .u32 0, .slice none 0 0] := by unfold ones; simp [Value.oneCell']
  have zsz := zero256_size
  have zon := zero256_one
  have hf1 := readF_facts HBP.out HR1.out
  have hf2 := readF_facts HBQ.out HR2.out
  have hc250 := hf1.1
  have hd250 := hf2.1
  have H60 : Hid (∀ c ∈ cs ++ ds, 1 ≤ c.size ∧ c.size ≤ 60) := Lib.hid (fun c hc => (List.mem_append.1 hc).elim (hf1.2.1 c) (hf2.2.1 c))
  obtain ⟨L, hL, hL2⟩ := told_page k l0' (cs ++ ds)
  obtain ⟨code, hcode⟩ : ∃ code, (toldR k l0' (cs ++ ds)).2 = code := ⟨_, rfl⟩
  obtain ⟨M, hM⟩ : ∃ M, L.map (Value.int .u8) = M := ⟨_, rfl⟩
  have HT := Lib.hid (show toldR k l0' (cs ++ ds) = (M.toArray, code) from Prod.ext (hL.trans (by rw [← hM]; rfl)) hcode)
  rw [HT.out]
  have len1 : M.length = 256 := by rw [← hM, List.length_map, hL2]
  have one1 : ∀ v ∈ M, v.oneCell' = true := by rw [← hM]; intro v hv; rw [List.mem_map] at hv; obtain ⟨x, _, rfl⟩ := hv; rfl
  subst he
  clear hL hcode hL2 hf1 hf2 hM
  go_enter Try.func21, Try.ntmps21
  go_wp2_with (have hG := HQ0; clear hG; go_at_call 32; go_must (refine (read_any _ l HBP.out).mono ?_); rintro e w2 ⟨k1, lk1, A1, n1, ca1, ok1, rfl, hk, hf⟩; have HK1 := Lib.hid hk; rw [HR1.out] at hf; obtain ⟨rfl, rfl, rfl, rfl, hs1, hn1⟩ := hf; have HS1 := Lib.hid hs1; have HN1 := Lib.hid hn1; clear hs1 hn1; have hb := Blk.new w2 62 #[.int .u8 0, .int .u32 0, .slice none 0 0]; have thn1 := hb.thereAll 3 rfl; have hb3 := hb.whole (body3 k1 lk1 A1 cs.length ca1) rfl; have HBN1 := Lib.hid hb3; have ths1 := hb3.thereAll 3 rfl; have rds1 := hb3.readAll 3 rfl; have ona1 : ones (body3 k1 lk1 A1 cs.length ca1) := (by unfold ones body3; simp [Value.oneCell']); have kk := Kp.setCells (S := NoB) (g := w2.heap.size) (.inl (Nat.le_refl _)) (body3 k1 lk1 A1 cs.length ca1).toList 0 _ ((Kp.refl NoB w2).alloc (.cells #[.int .u8 0, .int .u32 0, .slice none 0 0] 62)); have HKK1 := Lib.hid (hk.trans kk (fun _ _ q => q)); have hkk := hk.trans kk (fun _ _ q => q); have hq3 := HQ0.out.keep hkk (fun q => q); have HQ3 := Lib.hid hq3; have HZ3 := Lib.hid (HZ0.out.keep hkk (fun q => q)); have tq := hq3.thereAll 256 (by rw [bytesV_size]; exact hmq); have rq := hq3.readAll 256 (by rw [bytesV_size]; exact hmq); clear hq3; unfold body3 at ths1 rds1 ona1 tq rq; clear hk hb hb3 kk hkk; clear HQ0)
  refine forget (p := fun wx => Calls _ _ _ wx _) (fun W' => JA w w2.heap.size (body3 k1 lk1 A1 cs.length ca1) m W' ∧ w.heap.size + 1 + 1 < w2.heap.size ∧ Sl W' A1 cs.length cs) ⟨⟨HK0.out.trans HKK1.out (fun _ _ q => q), HQ3.out, HZ3.out, HBN1.out⟩, by have := HK1.out.size; simp at this; omega, HS1.out.keep ((Kp.setCells (S := NoB) (g := w2.heap.size) (.inl (Nat.le_refl _)) (body3 k1 lk1 A1 cs.length ca1).toList 0 _ ((Kp.refl NoB w2).alloc (.cells #[.int .u8 0, .int .u32 0, .slice none 0 0] 62))))⟩ ?_
  rintro W ⟨hJ, hlt, hsl⟩
  have HSL := Lib.hid hsl
  clear hsl
  obtain ⟨g6, hg6⟩ : ∃ g, w2.heap.size = g := ⟨_, rfl⟩
  rw [hg6] at hJ hlt ⊢
  have HJ := Lib.hid hJ
  clear hJ hg6 tq rq thn1 ths1 rds1
  go_must (refine (read_any _ m HBQ.out).mono ?_); rintro e w4 ⟨k2, lk2, A2, n2, ca2, ok2, rfl, hk, hf⟩; have HK2 := Lib.hid hk; rw [HR2.out] at hf; obtain ⟨rfl, rfl, rfl, rfl, hs2, hn2⟩ := hf; have HS2 := Lib.hid hs2; have HN2 := Lib.hid hn2; clear hs2 hn2; have hb := Blk.new w4 62 #[.int .u8 0, .int .u32 0, .slice none 0 0]; have thn2 := hb.thereAll 3 rfl; have hb3 := hb.whole (body3 k2 lk2 A2 ds.length ca2) rfl; have HBN2 := Lib.hid hb3; have ths2 := hb3.thereAll 3 rfl; have rds2 := hb3.readAll 3 rfl; have ona2 : ones (body3 k2 lk2 A2 ds.length ca2) := (by unfold ones body3; simp [Value.oneCell']); have kk := Kp.setCells (S := NoB) (g := w4.heap.size) (.inl (Nat.le_refl _)) (body3 k2 lk2 A2 ds.length ca2).toList 0 _ ((Kp.refl NoB w4).alloc (.cells #[.int .u8 0, .int .u32 0, .slice none 0 0] 62)); have HKK2 := Lib.hid (hk.trans kk (fun _ _ q => q)); have hkk := hk.trans kk (fun _ _ q => q); have c60 := (HJ.out.b6.keep hkk (fun q => q)).cell 0; have c80 := hb3.cell 0; have tz := (HJ.out.z.keep hkk (fun q => q)).thereAll 256 zero256_size; unfold body3 at ths2 rds2 ona2 c60 c80 tz; clear hk hb hb3 kk hkk
  go_wp2_with fail
  have hge8 : w.heap.size + 1 + 1 < w4.heap.size := by have := HJ.out.z.lt; have := HK2.out.size; omega
  obtain ⟨g8, hg8⟩ : ∃ g, w4.heap.size = g := ⟨_, rfl⟩
  refine forget (p := fun wx => Code.wp _ _ _ _ wx) (fun W' => JW w g6 w4.heap.size #[.int .u8 k2, .int .u32 lk1, .slice A1 cs.length ca1] #[.int .u8 k2, .int .u32 lk2, .slice A2 ds.length ca2] W' ∧ Sl W' A1 cs.length cs ∧ Sl W' A2 ds.length ds) ⟨⟨HJ.out.kp.trans HKK2.out (fun _ _ q => q), HJ.out.z.keep HKK2.out (fun q => q), HJ.out.b6.keep HKK2.out (fun q => q), HBN2.out⟩, HSL.out.keep HKK2.out, HS2.out.keep (Kp.setCells (S := NoB) (g := w4.heap.size) (.inl (Nat.le_refl _)) (body3 k2 lk2 A2 ds.length ca2).toList 0 _ ((Kp.refl NoB w4).alloc (.cells #[.int .u8 0, .int .u32 0, .slice none 0 0] 62)))⟩ ?_
  rintro V ⟨hV, hsa, hsb⟩
  rw [hg8] at hV hge8 ⊢
  have hn6 : g6 ≠ w.heap.size + 1 + 1 := by omega
  have hn8 : g8 ≠ w.heap.size + 1 + 1 := by omega
  have HV := Lib.hid hV
  have HSA := Lib.hid hsa
  have HSB := Lib.hid hsb
  have c60 : V.cell? ⟨g6, 0, none⟩ = some (.int .u8 k2) := hV.b6.cell 0
  have c62 : V.cell? ⟨g6, 2, none⟩ = some (.slice A1 cs.length ca1) := hV.b6.cell 2
  have c81 : V.cell? ⟨g8, 1, none⟩ = some (.int .u32 lk2) := hV.b8.cell 1
  have c82 : V.cell? ⟨g8, 2, none⟩ = some (.slice A2 ds.length ca2) := hV.b8.cell 2
  have tz := hV.z.thereAll 256 zero256_size
  have h6lt := hV.b6.lt
  have h8lt := hV.b8.lt
  have hinf := info26
  clear hV hsa hsb hg8 thn2 ths2 rds2 ona2 ona1
  go_region_held3 (fun w' => w'.cell? ⟨g6, 0, none⟩ = some (.int .u8 k2) ∧ w'.cell? ⟨g6, 2, none⟩ = some (.slice A1 cs.length ca1) ∧ w'.cell? ⟨g8, 1, none⟩ = some (.int .u32 lk2) ∧ w'.cell? ⟨g8, 2, none⟩ = some (.slice A2 ds.length ca2)) (first | exact ⟨s0, s1, s2, s3⟩ | (rw [cell_setCells_far _ hn6, cell_setCells_far _ hn6, cell_setCells_far _ hn8, cell_setCells_far _ hn8]; exact ⟨s0, s1, s2, s3⟩) | go_keep) (first
    | (go_at_call 35; go_must (refine (concat_ok _ _ _ A1 A2 cs.length ca1 ds.length ca2 cs ds ((Blk.new V _ _).cell 0) ((Blk.new V _ _).cell 1) HN1.out HN2.out (by omega) (by omega) (HSA.out.keep (((Kp.refl NoB V).alloc _).drew)) (HSB.out.keep (((Kp.refl NoB V).alloc _).drew))).mono ?_); rintro e w5 ⟨C, cc, rfl, hsC, hk5⟩; have hq5 : Kp NoB V w5 := (((Kp.refl NoB V).alloc _).drew).trans hk5 (fun _ _ q => q); have HQ5 := Lib.hid hq5; have HSC := Lib.hid hsC; have s0 := (hq5.cell h6lt (fun q => q)).trans c60; have s1 := (hq5.cell h6lt (fun q => q)).trans c62; have s2 := (hq5.cell h8lt (fun q => q)).trans c81; have s3 := (hq5.cell h8lt (fun q => q)).trans c82; clear hq5 hk5 hsC)
    | (go_at_call 31; go_must (refine (told_ok w5 k2 lk2 C (cs.length + ds.length) cc (cs ++ ds) (by omega) H60.out HSC.out).mono ?_); rintro e w6 hq; rw [HT.out] at hq; obtain ⟨rfl, hk6⟩ := hq; have hq6 : Kp NoB V w6 := HQ5.out.trans hk6 (fun _ _ q => q); have HQ6 := Lib.hid hq6; have s0 := (hq6.cell h6lt (fun q => q)).trans c60; have s1 := (hq6.cell h6lt (fun q => q)).trans c62; have s2 := (hq6.cell h8lt (fun q => q)).trans c81; have s3 := (hq6.cell h8lt (fun q => q)).trans c82; have tz6 := (HV.out.z.keep hq6 (fun q => q)).thereAll 256 zero256_size; clear hq6 hk6))
  go_wp2_with fail
  refine bodyPost_ret (ret_cell_tmp rfl _ _ _ _ _ _ rfl ((HV.out.z.keep HQ6.out (fun q => q)).whole M.toArray (by rw [zero256_size]; simpa using len1.symm)) Try.underlying26 rfl (by rw [show M.toArray.size = 256 by simpa using len1]; exact hinf) _ rfl) rfl ?_
  exact ⟨rfl, Kp.setCells (.inl (by omega)) _ _ _ (HV.out.kp.trans HQ6.out (fun _ _ q => q))⟩

theorem Join_ok (w : World) (l m : List Int) (hL : Bytes l) (hM : Bytes m) : Calls Try.prog 21 #[.agg (bytesV l), .agg (bytesV m)] w (PagePost w (joinF l m)) := by
  rcases hr1 : readF l with _ | ⟨k, l0, cs⟩
  · rw [show joinF l m = (zero256, 8) by unfold joinF; rw [hr1]]
    exact Join_bad1 w l m hL hM hr1 rfl
  · rcases hr2 : readF m with _ | ⟨k', l0', ds⟩
    · rw [show joinF l m = (zero256, 8) by unfold joinF; rw [hr1, hr2]]
      exact Join_bad2 w l m hL hM hr1 hr2
    · by_cases he : k = k'
      · rw [show joinF l m = toldR k l0' (cs ++ ds) by unfold joinF; rw [hr1, hr2]; exact if_pos he]
        exact Join_eq w l m hL hM hr1 hr2 he
      · rw [show joinF l m = (zero256, 2) by unfold joinF; rw [hr1, hr2]; exact if_neg he]
        exact Join_ne w l m hL hM hr1 hr2 he
end Go.Proofs.Ytnleoeogcinadaa
