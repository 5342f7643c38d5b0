/- Texts of this proof, one behind the other: lemmas and contracts; each says its own conditions. -/
import Derived.Test.YtegcbdfilkecpaaM6
/- The reference's disk: Write where it is refused or writes nothing, on the plain state; condition: fewer than 2^40 files and changes. -/
namespace Go.Proofs.Ytegcbdfilkecpaa
open Go.RowKit

theorem strOf_strIW (s : ByteArray) : strOf (strI s) = s := by
  unfold strOf strI
  simp [List.map_map, ByteArray.ext_iff, Function.comp_def]
/-- all is well, and something is to be written -/
def WrMain (p : Pl) (s : ByteArray) (a : Int) (D : ByteArray) : Prop := p.down = false ∧ 0 ≤ a ∧ a + D.size ≤ 1048576 ∧ D ≠ ⟨#[]⟩ ∧ p.fits s (max (a + D.size) (p.seen s).length) = 0
set_option maxRecDepth 100000 in
set_option maxHeartbeats 1600000 in
theorem write_badR (w : World) (d : Rd) (p : Pl) (s : ByteArray) (a : Int) (D : ByteArray) (h : Rf w d p) (hs : s.size ≤ maxLen) (hD : D.size ≤ maxLen) (ha : -9223372036854775808 ≤ a ∧ a ≤ 9223372036854775807) (hnf : p.nf < 1099511627776 - 10) (hpd : p.pd.length < 1099511627776 - 20000) (hm : ¬ WrMain p s a D) :
    Calls Try.prog 79 #[rdV d p, .string s, .int .i64 a, .string D] w fun e w' => ∃ d', e = .returned (.tuple #[rdV d' (p.write s a (strI D)), .int .i64 (p.writeE s a (strI D))]) ∧ Rf w' d' (p.write s a (strI D)) ∧ Kp NoB w w' := by
  have HM := Lib.hid hm
  have H := Lib.hid h
  have HS := Lib.hid hs
  have HNF := Lib.hid hnf
  have HPD := Lib.hid hpd
  have HA := Lib.hid ha
  have HDL := Lib.hid hD
  have hsl := strI_len D
  have hb0 : Blk ((w.alloc (.cells (rdC d p) 56)).alloc (.cells rdZ 56)) w.heap.size 56 (rdC d p) := (Blk.new w _ _).alloc _
  have hb2 : Blk ((w.alloc (.cells (rdC d p) 56)).alloc (.cells rdZ 56)) (w.heap.size + 1) 56 rdZ := Blk.top (by simp)
  have hk : Kp NoB w ((w.alloc (.cells (rdC d p) 56)).alloc (.cells rdZ 56)) := ((Kp.refl NoB w).alloc _).alloc _
  clear h hs hnf hpd ha hD hm
  by_cases hd : p.down = true
  · have hw : Hid (p.wrong = 7) := Lib.hid (by unfold Pl.wrong; rw [hd]; rfl)
    have hT : Hid (p.write s a (strI D) = p ∧ p.writeE s a (strI D) = 7) := Lib.hid (by unfold Pl.write Pl.writeE; rw [hd]; simp)
    clear hd
    rw [hT.out.1, hT.out.2]
    unfold rdV
    go_enter Try.func79, Try.ntmps79
    go_wp2_with fail
    refine (show Calls _ _ #[rdV d p] _ _ from wrong_okR _ d p (H.out.keep hk)).mono ?_
    rintro e w2 ⟨rfl, hk2⟩
    rw [hw.out]
    have HB0 := Lib.hid (hb0.keep hk2 (fun q => q))
    have HB2 := Lib.hid (hb2.keep hk2 (fun q => q))
    have HK := Lib.hid (hk.trans hk2 (fun _ _ q => q))
    clear hb0 hb2 hk hk2
    generalize hs0 : w.heap.size = s0 at HB0 HB2 ⊢
    have HS0 := Lib.hid hs0
    have kz : w.heap.size ≤ s0 + 1 := by omega
    clear hs0
    have hl0 := HB0.out.lt
    have hl2 := HB2.out.lt
    obtain ⟨c0, c1, c2, c3, c4, c5, c6, c7⟩ := HB0.out.rdc
    obtain ⟨y0, y1, y2, y3, y4, y5, y6, y7⟩ := HB2.out.c8
    obtain ⟨z0, z1, z2, z3, z4, z5, z6, z7⟩ := HB2.out.z8
    go_wp2_with fail
    refine bodyPost_ret (ret_cell_tmp rfl _ _ _ _ _ _ rfl (blk8 HB2.out rfl) Try.underlying56 rfl (by exact infoRd) _ rfl) rfl ⟨d, rfl, (H.out.keep (kp8 HK.out (.inl kz))), kp8 HK.out (.inl kz)⟩
  · have hd' : p.down = false := by simpa using hd
    have hw : Hid (p.wrong = 0) := Lib.hid (by unfold Pl.wrong; rw [hd']; rfl)
    by_cases hneg : a < 0
    · have hT : Hid (p.write s a (strI D) = p ∧ p.writeE s a (strI D) = 2) := Lib.hid (by unfold Pl.write Pl.writeE; rw [hd']; simp [hneg])
      clear hd hd'
      rw [hT.out.1, hT.out.2]
      unfold rdV
      go_enter Try.func79, Try.ntmps79
      go_wp2_with fail
      refine (show Calls _ _ #[rdV d p] _ _ from wrong_okR _ d p (H.out.keep hk)).mono ?_
      rintro e w2 ⟨rfl, hk2⟩
      rw [hw.out]
      have HB0 := Lib.hid (hb0.keep hk2 (fun q => q))
      have HB2 := Lib.hid (hb2.keep hk2 (fun q => q))
      have HK := Lib.hid (hk.trans hk2 (fun _ _ q => q))
      clear hb0 hb2 hk hk2
      generalize hs0 : w.heap.size = s0 at HB0 HB2 ⊢
      have HS0 := Lib.hid hs0
      have kz : w.heap.size ≤ s0 + 1 := by omega
      clear hs0
      have hl0 := HB0.out.lt
      have hl2 := HB2.out.lt
      obtain ⟨c0, c1, c2, c3, c4, c5, c6, c7⟩ := HB0.out.rdc
      obtain ⟨y0, y1, y2, y3, y4, y5, y6, y7⟩ := HB2.out.c8
      obtain ⟨z0, z1, z2, z3, z4, z5, z6, z7⟩ := HB2.out.z8
      go_wp2_with fail
      refine bodyPost_ret (ret_cell_tmp rfl _ _ _ _ _ _ rfl (blk8 HB2.out rfl) Try.underlying56 rfl (by exact infoRd) _ rfl) rfl ⟨d, rfl, (H.out.keep (kp8 HK.out (.inl kz))), kp8 HK.out (.inl kz)⟩
    · by_cases hlong : 1048576 < a ∨ 1048576 - a < (D.size : Int)
      · have hT : Hid (p.write s a (strI D) = p ∧ p.writeE s a (strI D) = 3) := Lib.hid (by
          unfold Pl.write Pl.writeE
          rw [hd', hsl]
          simp only [hneg, Bool.false_eq_true, if_false, false_or, if_pos hlong]
          exact ⟨trivial, trivial⟩)
        have hw1 : IntKind.i64.wrap (1048576 - a) = 1048576 - a := by have := HA.out; rw [IntKind.wrap_i64]; omega
        clear hd hd'
        rw [hT.out.1, hT.out.2]
        have hlong' : 1048576 < a ∨ (¬ 1048576 < a ∧ 1048576 - a < (D.size : Int)) := by omega
        clear hlong
        rcases hlong' with q1 | ⟨q1, q2⟩
        all_goals
          unfold rdV
          go_enter Try.func79, Try.ntmps79
          go_wp2_with fail
          refine (show Calls _ _ #[rdV d p] _ _ from wrong_okR _ d p (H.out.keep hk)).mono ?_
          rintro e w2 ⟨rfl, hk2⟩
          rw [hw.out]
          have HB0 := Lib.hid (hb0.keep hk2 (fun q => q))
          have HB2 := Lib.hid (hb2.keep hk2 (fun q => q))
          have HK := Lib.hid (hk.trans hk2 (fun _ _ q => q))
          clear hb0 hb2 hk hk2
          generalize hs0 : w.heap.size = s0 at HB0 HB2 ⊢
          have HS0 := Lib.hid hs0
          have kz : w.heap.size ≤ s0 + 1 := by omega
          clear hs0
          have hl0 := HB0.out.lt
          have hl2 := HB2.out.lt
          obtain ⟨c0, c1, c2, c3, c4, c5, c6, c7⟩ := HB0.out.rdc
          obtain ⟨y0, y1, y2, y3, y4, y5, y6, y7⟩ := HB2.out.c8
          obtain ⟨z0, z1, z2, z3, z4, z5, z6, z7⟩ := HB2.out.z8
          go_wp2_with fail
          refine bodyPost_ret (ret_cell_tmp rfl _ _ _ _ _ _ rfl (blk8 HB2.out rfl) Try.underlying56 rfl (by exact infoRd) _ rfl) rfl ⟨d, rfl, (H.out.keep (kp8 HK.out (.inl kz))), kp8 HK.out (.inl kz)⟩
      · have hw1 : IntKind.i64.wrap (1048576 - a) = 1048576 - a := by have := HA.out; rw [IntKind.wrap_i64]; omega
        have q1 : ¬ 1048576 < a := by omega
        have q2 : ¬ 1048576 - a < (D.size : Int) := by omega
        by_cases hnil : D = ⟨#[]⟩
        · have hT : Hid (p.write s a (strI D) = p.step ∧ p.writeE s a (strI D) = p.stepE) := Lib.hid (by
            have e : strI D = [] := by rw [hnil]; rfl
            unfold Pl.write Pl.writeE
            rw [hd', hsl, if_pos e, if_pos e]
            simp only [hneg, Bool.false_eq_true, if_false, false_or, if_neg hlong]
            exact ⟨trivial, trivial⟩)
          subst hnil
          clear hd hd' hlong
          rw [hT.out.1, hT.out.2]
          unfold rdV
          go_enter Try.func79, Try.ntmps79
          go_wp2_with fail
          refine (show Calls _ _ #[rdV d p] _ _ from wrong_okR _ d p (H.out.keep hk)).mono ?_
          rintro e w2 ⟨rfl, hk2⟩
          rw [hw.out]
          have HB0 := Lib.hid (hb0.keep hk2 (fun q => q))
          have HB2 := Lib.hid (hb2.keep hk2 (fun q => q))
          have HK := Lib.hid (hk.trans hk2 (fun _ _ q => q))
          clear hb0 hb2 hk hk2
          generalize hs0 : w.heap.size = s0 at HB0 HB2 ⊢
          have HS0 := Lib.hid hs0
          have kz : w.heap.size ≤ s0 + 1 := by omega
          clear hs0
          have hl0 := HB0.out.lt
          have hl2 := HB2.out.lt
          obtain ⟨c0, c1, c2, c3, c4, c5, c6, c7⟩ := HB0.out.rdc
          obtain ⟨y0, y1, y2, y3, y4, y5, y6, y7⟩ := HB2.out.c8
          obtain ⟨z0, z1, z2, z3, z4, z5, z6, z7⟩ := HB2.out.z8
          go_wp2_with fail
          refine (show Calls _ _ #[rdV d p] _ _ from step_okR _ d p (H.out.keep HK.out)).mono ?_
          rintro e w3 ⟨rfl, h3, hk3⟩
          have HR3 := Lib.hid h3
          have HB0' := Lib.hid (HB0.out.keep hk3 (fun q => q))
          have HB2' := Lib.hid (HB2.out.keep hk3 (fun q => q))
          have HK' := Lib.hid (HK.out.trans hk3 (fun _ _ q => q))
          clear hk3 HB0 HB2 HK
          have HB0 := HB0'
          have HB2 := HB2'
          have HK := HK'
          clear HB0' HB2' HK' c0 c1 c2 c3 c4 c5 c6 c7 y0 y1 y2 y3 y4 y5 y6 y7 z0 z1 z2 z3 z4 z5 z6 z7 hl0 hl2
          have hl0 := HB0.out.lt
          have hl2 := HB2.out.lt
          obtain ⟨c0, c1, c2, c3, c4, c5, c6, c7⟩ := HB0.out.rdc
          obtain ⟨y0, y1, y2, y3, y4, y5, y6, y7⟩ := HB2.out.c8
          obtain ⟨z0, z1, z2, z3, z4, z5, z6, z7⟩ := HB2.out.z8
          clear h3
          unfold rdV
          go_wp2_with fail
          refine bodyPost_ret (ret_cell_tmp rfl _ _ _ _ _ _ rfl (blk8 HB2.out rfl) Try.underlying56 rfl (by exact infoRd) _ rfl) rfl ⟨d, rfl, (HR3.out.keepB (kp8 (Kp.refl _ w3) (.inr rfl)) HB2.out rdZ_str), kp8 HK.out (.inl kz)⟩
        · have hne : strI D ≠ [] := fun e => hnil (by rw [← strOf_strIW D, e]; rfl)
          obtain ⟨A, rfl⟩ := Int.eq_ofNat_of_zero_le (show 0 ≤ a by omega)
          obtain ⟨n, hn⟩ : ∃ n, D.size = n := ⟨_, rfl⟩
          obtain ⟨l0, hl0⟩ : ∃ l0, p.seen s = l0 := ⟨_, rfl⟩
          have hn0 : 0 < n := by
            rcases Nat.eq_zero_or_pos n with q | q
            · exact absurd (List.eq_nil_of_length_eq_zero (by rw [hsl]; omega)) hne
            · exact q
          obtain ⟨F, hF⟩ : ∃ F, p.fits s (max ((A : Int) + n) l0.length) = F := ⟨_, rfl⟩
          have hW : p.writeE s A (strI D) = (if F ≠ 0 then F else p.stepE) ∧ p.write s A (strI D) = if F ≠ 0 then p else p.write1 s A (strI D) := by
            unfold Pl.write Pl.writeE
            rw [hd', hsl, hl0, hn, hF, if_neg hne, if_neg hne]
            simp only [hneg, Bool.false_eq_true, if_false, false_or]
            rw [← hn, if_neg hlong, if_neg hlong]
            exact ⟨rfl, rfl⟩
          have hA1 : A + n ≤ 1048576 := by omega
          have HW := Lib.hid hW
          have HFT := Lib.hid hF
          have HL0 := Lib.hid hl0
          have HNE := Lib.hid hne
          have hll := (H.out.look s).1.1
          rw [hl0] at hll
          have hls := strOf_size l0
          have hwe : IntKind.i64.wrap ((A : Int) + (n : Int)) = (A : Int) + (n : Int) := by rw [IntKind.wrap_i64]; omega
          rw [hn] at q2 hsl
          have HSL := Lib.hid hsl
          have HSZ := Lib.hid hn
          have HDD := Lib.hid hd'
          have HNIL := Lib.hid hnil
          have hb2' : D.toList.isEmpty = false := by
            rw [ByteArray.toList_eq]
            have h3 : D.data.toList.length = n := hn
            cases hq : D.data.toList with
            | nil => rw [hq] at h3; simp at h3; omega
            | cons x r => rfl
          clear hd hd' hlong hnil hW hF hl0 hne hsl
          obtain ⟨p1, hp1⟩ : ∃ p1, (if l0.length < A + n then p.length s (A + n) else p) = p1 := ⟨_, rfl⟩
          have hnum : p1.down = p.down ∧ p1.room = p.room ∧ p1.steps = p.steps ∧ p1.crash = p.crash ∧ p1.starts = p.starts := by
            rw [← hp1]
            split
            · exact len_nums p s (A + n)
            · exact ⟨rfl, rfl, rfl, rfl, rfl⟩
          have HNUM := Lib.hid hnum
          have HP1 := Lib.hid hp1
          have HRV : Hid (∀ d', rdV d' p = rdV d' p1) := Lib.hid (fun d' => by unfold rdV; rw [hnum.1, hnum.2.1, hnum.2.2.1, hnum.2.2.2.1, hnum.2.2.2.2])
          have hcase : (l0.length < A + n) ∨ (l0.length = A + n) ∨ (A + n < l0.length) := by omega
          clear hp1 hnum
          rcases hcase with hg | hg | hg
          · have g1 : (l0.length : Int) ≤ (A : Int) + (n : Int) := by omega
            have g2 : (l0.length : Int) < (A : Int) + (n : Int) := by omega
            have HFM : Hid (p.fits s ((A : Int) + (n : Int)) = F) := Lib.hid (by have := HFT.out; rwa [show max ((A : Int) + n) (l0.length : Int) = (A : Int) + n by omega] at this)
            have hP : Hid (p.length s (A + n) = p1) := Lib.hid (by have := HP1.out; rwa [if_pos hg] at this)
            by_cases hf : F = 0
            · exact absurd ⟨HDD.out, by omega, by rw [HSZ.out]; omega, HNIL.out, by rw [HSZ.out, HL0.out, HFT.out]; exact hf⟩ HM.out
            · have hf2 : (F != 0) = true := by simpa using hf
              have hf3 : (F == 0) = false := by simpa using hf
              have hT := HW.out
              rw [if_pos hf, if_pos hf] at hT
              rw [hT.1, hT.2]
              clear hT hf
              unfold rdV
              go_enter Try.func79, Try.ntmps79
              go_wp2_with fail
              refine (show Calls _ _ #[rdV d p] _ _ from wrong_okR _ d p (H.out.keep hk)).mono ?_
              rintro e w2 ⟨rfl, hk2⟩
              rw [hw.out]
              have HB0 := Lib.hid (hb0.keep hk2 (fun q => q))
              have HB2 := Lib.hid (hb2.keep hk2 (fun q => q))
              have HK := Lib.hid (hk.trans hk2 (fun _ _ q => q))
              clear hb0 hb2 hk hk2
              generalize hs0 : w.heap.size = s0 at HB0 HB2 ⊢
              have HS0 := Lib.hid hs0
              have kz : w.heap.size ≤ s0 + 1 := by omega
              clear hs0
              have hl0 := HB0.out.lt
              have hl2 := HB2.out.lt
              obtain ⟨c0, c1, c2, c3, c4, c5, c6, c7⟩ := HB0.out.rdc
              obtain ⟨y0, y1, y2, y3, y4, y5, y6, y7⟩ := HB2.out.c8
              obtain ⟨z0, z1, z2, z3, z4, z5, z6, z7⟩ := HB2.out.z8
              go_wp2_with fail
              refine (show Calls _ _ #[rdV d p, .string s] _ _ from seen_ok _ d p s (H.out.keep HK.out) (by have := HNF.out; omega)).mono ?_
              rintro e w3 ⟨rfl, hk3⟩
              rw [HL0.out]
              have HB0' := Lib.hid (HB0.out.keep hk3 (fun q => q))
              have HB2' := Lib.hid (HB2.out.keep hk3 (fun q => q))
              have HK' := Lib.hid (HK.out.trans hk3 (fun _ _ q => q))
              clear hk3 HB0 HB2 HK
              have HB0 := HB0'
              have HB2 := HB2'
              have HK := HK'
              clear HB0' HB2' HK' c0 c1 c2 c3 c4 c5 c6 c7 y0 y1 y2 y3 y4 y5 y6 y7 z0 z1 z2 z3 z4 z5 z6 z7 hl0 hl2
              have hl0 := HB0.out.lt
              have hl2 := HB2.out.lt
              obtain ⟨c0, c1, c2, c3, c4, c5, c6, c7⟩ := HB0.out.rdc
              obtain ⟨y0, y1, y2, y3, y4, y5, y6, y7⟩ := HB2.out.c8
              obtain ⟨z0, z1, z2, z3, z4, z5, z6, z7⟩ := HB2.out.z8
              go_wp2_with fail
              refine (show Calls _ _ #[rdV d p, .string s, .int .i64 ((A : Int) + (n : Int))] _ _ from fits_okR _ d p s _ (H.out.keep HK.out) (by have := HNF.out; omega) (by omega)).mono ?_
              rintro e w4 ⟨rfl, hk4⟩
              rw [HFM.out]
              have HB0' := Lib.hid (HB0.out.keep hk4 (fun q => q))
              have HB2' := Lib.hid (HB2.out.keep hk4 (fun q => q))
              have HK' := Lib.hid (HK.out.trans hk4 (fun _ _ q => q))
              clear hk4 HB0 HB2 HK
              have HB0 := HB0'
              have HB2 := HB2'
              have HK := HK'
              clear HB0' HB2' HK' c0 c1 c2 c3 c4 c5 c6 c7 y0 y1 y2 y3 y4 y5 y6 y7 z0 z1 z2 z3 z4 z5 z6 z7 hl0 hl2
              have hl0 := HB0.out.lt
              have hl2 := HB2.out.lt
              obtain ⟨c0, c1, c2, c3, c4, c5, c6, c7⟩ := HB0.out.rdc
              obtain ⟨y0, y1, y2, y3, y4, y5, y6, y7⟩ := HB2.out.c8
              obtain ⟨z0, z1, z2, z3, z4, z5, z6, z7⟩ := HB2.out.z8
              go_wp2_with fail
              refine bodyPost_ret (ret_cell_tmp rfl _ _ _ _ _ _ rfl (blk8 HB2.out rfl) Try.underlying56 rfl (by exact infoRd) _ rfl) rfl ⟨d, rfl, (H.out.keep (kp8 HK.out (.inl kz))), kp8 HK.out (.inl kz)⟩
          · have g1 : (l0.length : Int) ≤ (A : Int) + (n : Int) := by omega
            have g2 : ¬ (l0.length : Int) < (A : Int) + (n : Int) := by omega
            have HFM : Hid (p.fits s ((A : Int) + (n : Int)) = F) := Lib.hid (by have := HFT.out; rwa [show max ((A : Int) + n) (l0.length : Int) = (A : Int) + n by omega] at this)
            have hP : Hid (p = p1) := Lib.hid (by have := HP1.out; rwa [if_neg (by omega)] at this)
            by_cases hf : F = 0
            · exact absurd ⟨HDD.out, by omega, by rw [HSZ.out]; omega, HNIL.out, by rw [HSZ.out, HL0.out, HFT.out]; exact hf⟩ HM.out
            · have hf2 : (F != 0) = true := by simpa using hf
              have hf3 : (F == 0) = false := by simpa using hf
              have hT := HW.out
              rw [if_pos hf, if_pos hf] at hT
              rw [hT.1, hT.2]
              clear hT hf
              unfold rdV
              go_enter Try.func79, Try.ntmps79
              go_wp2_with fail
              refine (show Calls _ _ #[rdV d p] _ _ from wrong_okR _ d p (H.out.keep hk)).mono ?_
              rintro e w2 ⟨rfl, hk2⟩
              rw [hw.out]
              have HB0 := Lib.hid (hb0.keep hk2 (fun q => q))
              have HB2 := Lib.hid (hb2.keep hk2 (fun q => q))
              have HK := Lib.hid (hk.trans hk2 (fun _ _ q => q))
              clear hb0 hb2 hk hk2
              generalize hs0 : w.heap.size = s0 at HB0 HB2 ⊢
              have HS0 := Lib.hid hs0
              have kz : w.heap.size ≤ s0 + 1 := by omega
              clear hs0
              have hl0 := HB0.out.lt
              have hl2 := HB2.out.lt
              obtain ⟨c0, c1, c2, c3, c4, c5, c6, c7⟩ := HB0.out.rdc
              obtain ⟨y0, y1, y2, y3, y4, y5, y6, y7⟩ := HB2.out.c8
              obtain ⟨z0, z1, z2, z3, z4, z5, z6, z7⟩ := HB2.out.z8
              go_wp2_with fail
              refine (show Calls _ _ #[rdV d p, .string s] _ _ from seen_ok _ d p s (H.out.keep HK.out) (by have := HNF.out; omega)).mono ?_
              rintro e w3 ⟨rfl, hk3⟩
              rw [HL0.out]
              have HB0' := Lib.hid (HB0.out.keep hk3 (fun q => q))
              have HB2' := Lib.hid (HB2.out.keep hk3 (fun q => q))
              have HK' := Lib.hid (HK.out.trans hk3 (fun _ _ q => q))
              clear hk3 HB0 HB2 HK
              have HB0 := HB0'
              have HB2 := HB2'
              have HK := HK'
              clear HB0' HB2' HK' c0 c1 c2 c3 c4 c5 c6 c7 y0 y1 y2 y3 y4 y5 y6 y7 z0 z1 z2 z3 z4 z5 z6 z7 hl0 hl2
              have hl0 := HB0.out.lt
              have hl2 := HB2.out.lt
              obtain ⟨c0, c1, c2, c3, c4, c5, c6, c7⟩ := HB0.out.rdc
              obtain ⟨y0, y1, y2, y3, y4, y5, y6, y7⟩ := HB2.out.c8
              obtain ⟨z0, z1, z2, z3, z4, z5, z6, z7⟩ := HB2.out.z8
              go_wp2_with fail
              refine (show Calls _ _ #[rdV d p, .string s, .int .i64 ((A : Int) + (n : Int))] _ _ from fits_okR _ d p s _ (H.out.keep HK.out) (by have := HNF.out; omega) (by omega)).mono ?_
              rintro e w4 ⟨rfl, hk4⟩
              rw [HFM.out]
              have HB0' := Lib.hid (HB0.out.keep hk4 (fun q => q))
              have HB2' := Lib.hid (HB2.out.keep hk4 (fun q => q))
              have HK' := Lib.hid (HK.out.trans hk4 (fun _ _ q => q))
              clear hk4 HB0 HB2 HK
              have HB0 := HB0'
              have HB2 := HB2'
              have HK := HK'
              clear HB0' HB2' HK' c0 c1 c2 c3 c4 c5 c6 c7 y0 y1 y2 y3 y4 y5 y6 y7 z0 z1 z2 z3 z4 z5 z6 z7 hl0 hl2
              have hl0 := HB0.out.lt
              have hl2 := HB2.out.lt
              obtain ⟨c0, c1, c2, c3, c4, c5, c6, c7⟩ := HB0.out.rdc
              obtain ⟨y0, y1, y2, y3, y4, y5, y6, y7⟩ := HB2.out.c8
              obtain ⟨z0, z1, z2, z3, z4, z5, z6, z7⟩ := HB2.out.z8
              go_wp2_with fail
              refine bodyPost_ret (ret_cell_tmp rfl _ _ _ _ _ _ rfl (blk8 HB2.out rfl) Try.underlying56 rfl (by exact infoRd) _ rfl) rfl ⟨d, rfl, (H.out.keep (kp8 HK.out (.inl kz))), kp8 HK.out (.inl kz)⟩
          · have g1 : (A : Int) + (n : Int) < (l0.length : Int) := by omega
            have g2 : ¬ (l0.length : Int) < (A : Int) + (n : Int) := by omega
            have HFM : Hid (p.fits s (l0.length : Int) = F) := Lib.hid (by have := HFT.out; rwa [show max ((A : Int) + n) (l0.length : Int) = (l0.length : Int) by omega] at this)
            have hP : Hid (p = p1) := Lib.hid (by have := HP1.out; rwa [if_neg (by omega)] at this)
            by_cases hf : F = 0
            · exact absurd ⟨HDD.out, by omega, by rw [HSZ.out]; omega, HNIL.out, by rw [HSZ.out, HL0.out, HFT.out]; exact hf⟩ HM.out
            · have hf2 : (F != 0) = true := by simpa using hf
              have hf3 : (F == 0) = false := by simpa using hf
              have hT := HW.out
              rw [if_pos hf, if_pos hf] at hT
              rw [hT.1, hT.2]
              clear hT hf
              unfold rdV
              go_enter Try.func79, Try.ntmps79
              go_wp2_with fail
              refine (show Calls _ _ #[rdV d p] _ _ from wrong_okR _ d p (H.out.keep hk)).mono ?_
              rintro e w2 ⟨rfl, hk2⟩
              rw [hw.out]
              have HB0 := Lib.hid (hb0.keep hk2 (fun q => q))
              have HB2 := Lib.hid (hb2.keep hk2 (fun q => q))
              have HK := Lib.hid (hk.trans hk2 (fun _ _ q => q))
              clear hb0 hb2 hk hk2
              generalize hs0 : w.heap.size = s0 at HB0 HB2 ⊢
              have HS0 := Lib.hid hs0
              have kz : w.heap.size ≤ s0 + 1 := by omega
              clear hs0
              have hl0 := HB0.out.lt
              have hl2 := HB2.out.lt
              obtain ⟨c0, c1, c2, c3, c4, c5, c6, c7⟩ := HB0.out.rdc
              obtain ⟨y0, y1, y2, y3, y4, y5, y6, y7⟩ := HB2.out.c8
              obtain ⟨z0, z1, z2, z3, z4, z5, z6, z7⟩ := HB2.out.z8
              go_wp2_with fail
              refine (show Calls _ _ #[rdV d p, .string s] _ _ from seen_ok _ d p s (H.out.keep HK.out) (by have := HNF.out; omega)).mono ?_
              rintro e w3 ⟨rfl, hk3⟩
              rw [HL0.out]
              have HB0' := Lib.hid (HB0.out.keep hk3 (fun q => q))
              have HB2' := Lib.hid (HB2.out.keep hk3 (fun q => q))
              have HK' := Lib.hid (HK.out.trans hk3 (fun _ _ q => q))
              clear hk3 HB0 HB2 HK
              have HB0 := HB0'
              have HB2 := HB2'
              have HK := HK'
              clear HB0' HB2' HK' c0 c1 c2 c3 c4 c5 c6 c7 y0 y1 y2 y3 y4 y5 y6 y7 z0 z1 z2 z3 z4 z5 z6 z7 hl0 hl2
              have hl0 := HB0.out.lt
              have hl2 := HB2.out.lt
              obtain ⟨c0, c1, c2, c3, c4, c5, c6, c7⟩ := HB0.out.rdc
              obtain ⟨y0, y1, y2, y3, y4, y5, y6, y7⟩ := HB2.out.c8
              obtain ⟨z0, z1, z2, z3, z4, z5, z6, z7⟩ := HB2.out.z8
              go_wp2_with fail
              refine (show Calls _ _ #[rdV d p, .string s, .int .i64 (l0.length : Int)] _ _ from fits_okR _ d p s _ (H.out.keep HK.out) (by have := HNF.out; omega) (by omega)).mono ?_
              rintro e w4 ⟨rfl, hk4⟩
              rw [HFM.out]
              have HB0' := Lib.hid (HB0.out.keep hk4 (fun q => q))
              have HB2' := Lib.hid (HB2.out.keep hk4 (fun q => q))
              have HK' := Lib.hid (HK.out.trans hk4 (fun _ _ q => q))
              clear hk4 HB0 HB2 HK
              have HB0 := HB0'
              have HB2 := HB2'
              have HK := HK'
              clear HB0' HB2' HK' c0 c1 c2 c3 c4 c5 c6 c7 y0 y1 y2 y3 y4 y5 y6 y7 z0 z1 z2 z3 z4 z5 z6 z7 hl0 hl2
              have hl0 := HB0.out.lt
              have hl2 := HB2.out.lt
              obtain ⟨c0, c1, c2, c3, c4, c5, c6, c7⟩ := HB0.out.rdc
              obtain ⟨y0, y1, y2, y3, y4, y5, y6, y7⟩ := HB2.out.c8
              obtain ⟨z0, z1, z2, z3, z4, z5, z6, z7⟩ := HB2.out.z8
              go_wp2_with fail
              refine bodyPost_ret (ret_cell_tmp rfl _ _ _ _ _ _ rfl (blk8 HB2.out rfl) Try.underlying56 rfl (by exact infoRd) _ rfl) rfl ⟨d, rfl, (H.out.keep (kp8 HK.out (.inl kz))), kp8 HK.out (.inl kz)⟩
end Go.Proofs.Ytegcbdfilkecpaa
