/- Texts of this proof, one behind the other: lemmas and contracts; each says its own conditions. -/
import Derived.Test.YtegcbdfilkecpaaM5
import Derived.Test.YtegcbdfilkecpaaM7
/- The reference's disk: Write, on the plain state; condition: fewer than 2^40 files and changes. -/
namespace Go.Proofs.Ytegcbdfilkecpaa
open Go.RowKit

def WtRel (w : World) (s0 f : Nat) (p p2 : Pl) (s : ByteArray) (l kp : List Int) (k0 ke : Nat) (v14 : Value) (wr : World) : Prop :=
  ∃ (k : Nat) (dk : Rd), v14 = .int .i64 (k : Int) ∧ k0 ≤ k ∧ k ≤ ke ∧ Blk wr s0 56 (rdC dk p) ∧ Rf wr dk (p2.pend (secs s l k0 k)) ∧ Blk wr (s0 + 1) 56 rdZ ∧ Blk wr f 137 #[.string s, .string (strOf l), .string (strOf kp)] ∧ Kp NoB w wr
theorem pend_pend (p : Pl) (a b : List Cg) : (p.pend a).pend b = p.pend (a ++ b) := by
  unfold Pl.pend
  rw [List.append_assoc]
theorem pend_nil (p : Pl) : p.pend [] = p := by
  unfold Pl.pend
  rw [List.append_nil]
theorem secs_zero (s : ByteArray) (l : List Int) (k : Nat) : secs s l k k = [] := by
  unfold secs
  rw [Nat.sub_self]
  rfl
set_option maxRecDepth 100000 in
set_option maxHeartbeats 1600000 in
theorem write_mainR (w : World) (d : Rd) (p : Pl) (s : ByteArray) (a : Int) (D : ByteArray) (h : Rf w d p) (hs : s.size ≤ maxLen) (hD : D.size ≤ maxLen) (ha : -9223372036854775808 ≤ a ∧ a ≤ 9223372036854775807) (hnf : p.nf < 1099511627776 - 10) (hpd : p.pd.length < 1099511627776 - 20000) (hm : WrMain p s a D) :
    Calls Try.prog 79 #[rdV d p, .string s, .int .i64 a, .string D] w fun e w' => ∃ d', e = .returned (.tuple #[rdV d' (p.write s a (strI D)), .int .i64 (p.writeE s a (strI D))]) ∧ Rf w' d' (p.write s a (strI D)) ∧ Kp NoB w w' := by
  have H := Lib.hid h
  have HS := Lib.hid hs
  have HNF := Lib.hid hnf
  have HPD := Lib.hid hpd
  have HA := Lib.hid ha
  have HDL := Lib.hid hD
  have hsl := strI_len D
  obtain ⟨hd', hneg0, hlong0, hnil, hfits⟩ := hm
  have hneg : ¬ a < 0 := by omega
  have hlong : ¬ (1048576 < a ∨ 1048576 - a < (D.size : Int)) := by omega
  have hw : Hid (p.wrong = 0) := Lib.hid (by unfold Pl.wrong; rw [hd']; rfl)
  have hw1 : IntKind.i64.wrap (1048576 - a) = 1048576 - a := by have := HA.out; rw [IntKind.wrap_i64]; omega
  have q1 : ¬ 1048576 < a := by omega
  have q2 : ¬ 1048576 - a < (D.size : Int) := by omega
  have hb0 : Blk ((w.alloc (.cells (rdC d p) 56)).alloc (.cells rdZ 56)) w.heap.size 56 (rdC d p) := (Blk.new w _ _).alloc _
  have hb2 : Blk ((w.alloc (.cells (rdC d p) 56)).alloc (.cells rdZ 56)) (w.heap.size + 1) 56 rdZ := Blk.top (by simp)
  have hk : Kp NoB w ((w.alloc (.cells (rdC d p) 56)).alloc (.cells rdZ 56)) := ((Kp.refl NoB w).alloc _).alloc _
  clear h hs hnf hpd ha hD
  have hne : strI D ≠ [] := fun e => hnil (by rw [← strOf_strIW D, e]; rfl)
  obtain ⟨A, rfl⟩ := Int.eq_ofNat_of_zero_le (show 0 ≤ a by omega)
  obtain ⟨n, hn⟩ : ∃ n, D.size = n := ⟨_, rfl⟩
  obtain ⟨l0, hl0⟩ : ∃ l0, p.seen s = l0 := ⟨_, rfl⟩
  have hn0 : 0 < n := by
    rcases Nat.eq_zero_or_pos n with q | q
    · exact absurd (List.eq_nil_of_length_eq_zero (by rw [hsl]; omega)) hne
    · exact q
  have hF : p.fits s (max ((A : Int) + n) l0.length) = 0 := by rw [← hn, ← hl0]; exact hfits
  have hW : p.writeE s A (strI D) = p.stepE ∧ p.write s A (strI D) = p.write1 s A (strI D) := by
    unfold Pl.write Pl.writeE
    rw [hd', hsl, hl0, hn, hF, if_neg hne, if_neg hne]
    simp only [hneg, Bool.false_eq_true, if_false, false_or]
    rw [← hn, if_neg hlong, if_neg hlong]
    exact ⟨rfl, rfl⟩
  have hA1 : A + n ≤ 1048576 := by omega
  have HW := Lib.hid hW
  have HFT := Lib.hid hF
  have HL0 := Lib.hid hl0
  have HNE := Lib.hid hne
  have hll := (H.out.look s).1.1
  rw [hl0] at hll
  have hls := strOf_size l0
  have hwe : IntKind.i64.wrap ((A : Int) + (n : Int)) = (A : Int) + (n : Int) := by rw [IntKind.wrap_i64]; omega
  rw [hn] at q2 hsl
  have HSL := Lib.hid hsl
  have HSZ := Lib.hid hn
  have hb2' : D.toList.isEmpty = false := by
    rw [ByteArray.toList_eq]
    have h3 : D.data.toList.length = n := hn
    cases hq : D.data.toList with
    | nil => rw [hq] at h3; simp at h3; omega
    | cons x r => rfl
  clear hd' hlong hnil hW hF hl0 hne hsl hfits hneg0 hlong0
  obtain ⟨p1, hp1⟩ : ∃ p1, (if l0.length < A + n then p.length s (A + n) else p) = p1 := ⟨_, rfl⟩
  have hnum : p1.down = p.down ∧ p1.room = p.room ∧ p1.steps = p.steps ∧ p1.crash = p.crash ∧ p1.starts = p.starts := by
    rw [← hp1]
    split
    · exact len_nums p s (A + n)
    · exact ⟨rfl, rfl, rfl, rfl, rfl⟩
  have HNUM := Lib.hid hnum
  have HNF1 : Hid (p1.nf < 1099511627776) := Lib.hid (by
    have := HNF.out
    rw [← hp1]
    split
    · unfold Pl.length; split <;> (show p.nf + 1 < _; omega)
    · omega)
  have HPD1 : Hid (p1.pd.length < 1099511627776 - 19000) := Lib.hid (by
    have := HPD.out
    rw [← hp1]
    split
    · unfold Pl.length
      split
      · show p.pd.length < _; omega
      · show (p.pd ++ [_]).length < _
        rw [List.length_append]
        simp only [List.length_cons, List.length_nil]
        omega
    · omega)
  obtain ⟨l1, hl1⟩ : ∃ l1, p1.seen s = l1 := ⟨_, rfl⟩
  have hl1A : A + n ≤ l1.length := by
    rw [← hl1, ← hp1]
    by_cases q : l0.length < A + n
    · rw [if_pos q]
      unfold Pl.length
      rw [if_neg (by rw [HL0.out]; omega)]
      show A + n ≤ (upd p.seen s (sizedF (p.seen s) (A + n)) s).length
      rw [upd_same, sizedF_len]
      omega
    · rw [if_neg q, HL0.out]
      omega
  have HL1 := Lib.hid hl1
  clear hl1
  have HP1 := Lib.hid hp1
  have HRV : Hid (∀ d', rdV d' p = rdV d' p1) := Lib.hid (fun d' => by unfold rdV; rw [hnum.1, hnum.2.1, hnum.2.2.1, hnum.2.2.2.1, hnum.2.2.2.2])
  have hcase : (l0.length < A + n) ∨ (l0.length = A + n) ∨ (A + n < l0.length) := by omega
  clear hp1 hnum
  rw [HW.out.1, HW.out.2]
  rcases hcase with hg | hg | hg
  · have g1 : (l0.length : Int) ≤ (A : Int) + (n : Int) := by omega
    have g2 : (l0.length : Int) < (A : Int) + (n : Int) := by omega
    have HFM : Hid (p.fits s ((A : Int) + (n : Int)) = 0) := Lib.hid (by have := HFT.out; rwa [show max ((A : Int) + n) (l0.length : Int) = (A : Int) + n by omega] at this)
    have hP : Hid (p.length s (A + n) = p1) := Lib.hid (by have := HP1.out; rwa [if_pos hg] at this)
    unfold rdV
    go_enter Try.func79, Try.ntmps79
    go_wp2_with fail
    refine (show Calls _ _ #[rdV d p] _ _ from wrong_okR _ d p (H.out.keep hk)).mono ?_
    rintro e w2 ⟨rfl, hk2⟩
    rw [hw.out]
    have HB0 := Lib.hid (hb0.keep hk2 (fun q => q))
    have HB2 := Lib.hid (hb2.keep hk2 (fun q => q))
    have HK := Lib.hid (hk.trans hk2 (fun _ _ q => q))
    clear hb0 hb2 hk hk2
    generalize hs0 : w.heap.size = s0 at HB0 HB2 ⊢
    have HS0 := Lib.hid hs0
    have kz : w.heap.size ≤ s0 + 1 := by omega
    clear hs0
    have hl0 := HB0.out.lt
    have hl2 := HB2.out.lt
    obtain ⟨c0, c1, c2, c3, c4, c5, c6, c7⟩ := HB0.out.rdc
    obtain ⟨y0, y1, y2, y3, y4, y5, y6, y7⟩ := HB2.out.c8
    obtain ⟨z0, z1, z2, z3, z4, z5, z6, z7⟩ := HB2.out.z8
    go_wp2_with fail
    refine (show Calls _ _ #[rdV d p, .string s] _ _ from seen_ok _ d p s (H.out.keep HK.out) (by have := HNF.out; omega)).mono ?_
    rintro e w3 ⟨rfl, hk3⟩
    rw [HL0.out]
    have HB0' := Lib.hid (HB0.out.keep hk3 (fun q => q))
    have HB2' := Lib.hid (HB2.out.keep hk3 (fun q => q))
    have HK' := Lib.hid (HK.out.trans hk3 (fun _ _ q => q))
    clear hk3 HB0 HB2 HK
    have HB0 := HB0'
    have HB2 := HB2'
    have HK := HK'
    clear HB0' HB2' HK' c0 c1 c2 c3 c4 c5 c6 c7 y0 y1 y2 y3 y4 y5 y6 y7 z0 z1 z2 z3 z4 z5 z6 z7 hl0 hl2
    have hl0 := HB0.out.lt
    have hl2 := HB2.out.lt
    obtain ⟨c0, c1, c2, c3, c4, c5, c6, c7⟩ := HB0.out.rdc
    obtain ⟨y0, y1, y2, y3, y4, y5, y6, y7⟩ := HB2.out.c8
    obtain ⟨z0, z1, z2, z3, z4, z5, z6, z7⟩ := HB2.out.z8
    go_wp2_with fail
    refine (show Calls _ _ #[rdV d p, .string s, .int .i64 ((A : Int) + (n : Int))] _ _ from fits_okR _ d p s _ (H.out.keep HK.out) (by have := HNF.out; omega) (by omega)).mono ?_
    rintro e w4 ⟨rfl, hk4⟩
    rw [HFM.out]
    have HB0' := Lib.hid (HB0.out.keep hk4 (fun q => q))
    have HB2' := Lib.hid (HB2.out.keep hk4 (fun q => q))
    have HK' := Lib.hid (HK.out.trans hk4 (fun _ _ q => q))
    clear hk4 HB0 HB2 HK
    have HB0 := HB0'
    have HB2 := HB2'
    have HK := HK'
    clear HB0' HB2' HK' c0 c1 c2 c3 c4 c5 c6 c7 y0 y1 y2 y3 y4 y5 y6 y7 z0 z1 z2 z3 z4 z5 z6 z7 hl0 hl2
    have hl0 := HB0.out.lt
    have hl2 := HB2.out.lt
    obtain ⟨c0, c1, c2, c3, c4, c5, c6, c7⟩ := HB0.out.rdc
    obtain ⟨y0, y1, y2, y3, y4, y5, y6, y7⟩ := HB2.out.c8
    obtain ⟨z0, z1, z2, z3, z4, z5, z6, z7⟩ := HB2.out.z8
    go_wp2_with fail
    refine (show Calls _ _ #[rdV d p, .string s, .int .i64 ((A : Int) + (n : Int))] _ _ from by rw [show (A : Int) + (n : Int) = ((A + n : Nat) : Int) by omega]; exact length_okR _ d p s (A + n) (H.out.keep HK.out) HS.out hA1 (by have := HNF.out; omega) (by have := HPD.out; omega)).mono ?_
    rintro e w5 ⟨d5, rfl, h5, hk5⟩
    have HR5 : Hid (Rf w5 d5 p1) := Lib.hid (by rw [← hP.out]; exact h5)
    clear h5
    have HB0' := Lib.hid (HB0.out.keep hk5 (fun q => q))
    have HB2' := Lib.hid (HB2.out.keep hk5 (fun q => q))
    have HK' := Lib.hid (HK.out.trans hk5 (fun _ _ q => q))
    clear hk5 HB0 HB2 HK
    have HB0 := HB0'
    have HB2 := HB2'
    have HK := HK'
    clear HB0' HB2' HK' c0 c1 c2 c3 c4 c5 c6 c7 y0 y1 y2 y3 y4 y5 y6 y7 z0 z1 z2 z3 z4 z5 z6 z7 hl0 hl2
    have hl0 := HB0.out.lt
    have hl2 := HB2.out.lt
    obtain ⟨c0, c1, c2, c3, c4, c5, c6, c7⟩ := HB0.out.rdc
    obtain ⟨y0, y1, y2, y3, y4, y5, y6, y7⟩ := HB2.out.c8
    obtain ⟨z0, z1, z2, z3, z4, z5, z6, z7⟩ := HB2.out.z8
    obtain ⟨x0, x1, x2, x3, x4, x5, x6, x7⟩ := HB0.out.z8
    unfold rdV
    go_upto_region 17 with fail
    have kz0 : w.heap.size ≤ s0 := by have := HS0.out; omega
    have hb4 : Blk (((((((((w5.setCell ⟨s0, 0, none⟩ (.bool true)).setCell ⟨s0, 1, none⟩ (.bool p.down)).setCell ⟨s0, 2, none⟩ (.slice d5.fA d5.fn d5.fc)).setCell ⟨s0, 3, none⟩ (.slice d5.pA d5.pn d5.pc)).setCell ⟨s0, 4, none⟩ (.int .i64 p.room)).setCell ⟨s0, 5, none⟩ (.int .i64 p.steps)).setCell ⟨s0, 6, none⟩ (.int .i64 p.crash)).setCell ⟨s0, 7, none⟩ (.int .i64 p.starts))) s0 56 (rdC d5 p) := blk8 HB0.out rfl
    have hq4 : Kp (OnB s0) w5 (((((((((w5.setCell ⟨s0, 0, none⟩ (.bool true)).setCell ⟨s0, 1, none⟩ (.bool p.down)).setCell ⟨s0, 2, none⟩ (.slice d5.fA d5.fn d5.fc)).setCell ⟨s0, 3, none⟩ (.slice d5.pA d5.pn d5.pc)).setCell ⟨s0, 4, none⟩ (.int .i64 p.room)).setCell ⟨s0, 5, none⟩ (.int .i64 p.steps)).setCell ⟨s0, 6, none⟩ (.int .i64 p.crash)).setCell ⟨s0, 7, none⟩ (.int .i64 p.starts))) := kp8 (Kp.refl _ w5) (.inr rfl)
    have hr4 : Rf (((((((((w5.setCell ⟨s0, 0, none⟩ (.bool true)).setCell ⟨s0, 1, none⟩ (.bool p.down)).setCell ⟨s0, 2, none⟩ (.slice d5.fA d5.fn d5.fc)).setCell ⟨s0, 3, none⟩ (.slice d5.pA d5.pn d5.pc)).setCell ⟨s0, 4, none⟩ (.int .i64 p.room)).setCell ⟨s0, 5, none⟩ (.int .i64 p.steps)).setCell ⟨s0, 6, none⟩ (.int .i64 p.crash)).setCell ⟨s0, 7, none⟩ (.int .i64 p.starts))) d5 (p1) := (HR5.out).keepB hq4 HB0.out (rdC_str _ _)
    have hz4 : Blk (((((((((w5.setCell ⟨s0, 0, none⟩ (.bool true)).setCell ⟨s0, 1, none⟩ (.bool p.down)).setCell ⟨s0, 2, none⟩ (.slice d5.fA d5.fn d5.fc)).setCell ⟨s0, 3, none⟩ (.slice d5.pA d5.pn d5.pc)).setCell ⟨s0, 4, none⟩ (.int .i64 p.room)).setCell ⟨s0, 5, none⟩ (.int .i64 p.steps)).setCell ⟨s0, 6, none⟩ (.int .i64 p.crash)).setCell ⟨s0, 7, none⟩ (.int .i64 p.starts))) (s0 + 1) 56 rdZ := HB2.out.keep hq4 (fun q => by have q' : s0 + 1 = s0 := q; omega)
    have hw4 : Kp NoB w (((((((((w5.setCell ⟨s0, 0, none⟩ (.bool true)).setCell ⟨s0, 1, none⟩ (.bool p.down)).setCell ⟨s0, 2, none⟩ (.slice d5.fA d5.fn d5.fc)).setCell ⟨s0, 3, none⟩ (.slice d5.pA d5.pn d5.pc)).setCell ⟨s0, 4, none⟩ (.int .i64 p.room)).setCell ⟨s0, 5, none⟩ (.int .i64 p.steps)).setCell ⟨s0, 6, none⟩ (.int .i64 p.crash)).setCell ⟨s0, 7, none⟩ (.int .i64 p.starts))) := kp8 HK.out (.inl kz0)
    clear hq4 HB0 HB2 HK
    generalize ((((((((w5.setCell ⟨s0, 0, none⟩ (.bool true)).setCell ⟨s0, 1, none⟩ (.bool p.down)).setCell ⟨s0, 2, none⟩ (.slice d5.fA d5.fn d5.fc)).setCell ⟨s0, 3, none⟩ (.slice d5.pA d5.pn d5.pc)).setCell ⟨s0, 4, none⟩ (.int .i64 p.room)).setCell ⟨s0, 5, none⟩ (.int .i64 p.steps)).setCell ⟨s0, 6, none⟩ (.int .i64 p.crash)).setCell ⟨s0, 7, none⟩ (.int .i64 p.starts)) = w6 at hb4 hr4 hz4 hw4 ⊢
    have HB0 := Lib.hid hb4
    have HB2 := Lib.hid hz4
    have HK := Lib.hid hw4
    have HR := Lib.hid hr4
    clear hb4 hz4 hw4 hr4 c0 c1 c2 c3 c4 c5 c6 c7 y0 y1 y2 y3 y4 y5 y6 y7 z0 z1 z2 z3 z4 z5 z6 z7 hl0 hl2 kz0
    have hl0 := HB0.out.lt
    have hl2 := HB2.out.lt
    obtain ⟨c0, c1, c2, c3, c4, c5, c6, c7⟩ := HB0.out.rdc
    obtain ⟨y0, y1, y2, y3, y4, y5, y6, y7⟩ := HB2.out.c8
    obtain ⟨z0, z1, z2, z3, z4, z5, z6, z7⟩ := HB2.out.z8
    go_wp2_with fail
    refine (show Calls _ _ #[rdV d5 p, .string s] _ _ from by rw [HRV.out]; exact file_ok _ d5 p1 s HR.out HNF1.out).mono ?_
    rintro e w7 ⟨rfl, hk7⟩
    have HR7 := Lib.hid (HR.out.keep hk7)
    have hl1L := (HR7.out.look s).1.1
    have HL1R := Lib.hid (HR7.out.look s).1.2
    have HK1R := Lib.hid (HR7.out.look s).2
    rw [HL1.out] at hl1L HL1R ⊢
    have hl1s := strOf_size l1
    clear HR
    have HB0' := Lib.hid (HB0.out.keep hk7 (fun q => q))
    have HB2' := Lib.hid (HB2.out.keep hk7 (fun q => q))
    have HK' := Lib.hid (HK.out.trans hk7 (fun _ _ q => q))
    clear hk7 HB0 HB2 HK
    have HB0 := HB0'
    have HB2 := HB2'
    have HK := HK'
    clear HB0' HB2' HK' c0 c1 c2 c3 c4 c5 c6 c7 y0 y1 y2 y3 y4 y5 y6 y7 z0 z1 z2 z3 z4 z5 z6 z7 hl0 hl2
    have hl0 := HB0.out.lt
    have hl2 := HB2.out.lt
    obtain ⟨c0, c1, c2, c3, c4, c5, c6, c7⟩ := HB0.out.rdc
    obtain ⟨y0, y1, y2, y3, y4, y5, y6, y7⟩ := HB2.out.c8
    obtain ⟨z0, z1, z2, z3, z4, z5, z6, z7⟩ := HB2.out.z8
    unfold fileV
    have hlf : ∀ g, g < w7.heap.size → g ≠ w7.heap.size := fun g q e => by omega
    go_upto_region 18 with fail
    obtain ⟨E, hE⟩ : ∃ E : Nat, A + n = E := ⟨_, rfl⟩
    have hEE : (A : Int) + (n : Int) = (E : Int) := by omega
    rw [hEE]
    have hk8 : Kp NoB w7 (w7.alloc (.cells #[.string s, .string (strOf l1), .string (strOf (p1.kept s))] 137)) := (Kp.refl NoB w7).alloc _
    have hf8 : Blk (w7.alloc (.cells #[.string s, .string (strOf l1), .string (strOf (p1.kept s))] 137)) w7.heap.size 137 #[.string s, .string (strOf l1), .string (strOf (p1.kept s))] := Blk.new _ _ _
    have hl8 : (w7.alloc (.cells #[.string s, .string (strOf l1), .string (strOf (p1.kept s))] 137)).heap.size = w7.heap.size + 1 := by simp
    generalize w7.alloc (.cells #[.string s, .string (strOf l1), .string (strOf (p1.kept s))] 137) = w8 at hk8 hf8 hl8 ⊢
    generalize hff : w7.heap.size = f at hf8 hl8 hl0 hl2 ⊢
    have HFF := Lib.hid hff
    have HF8 := Lib.hid hf8
    have HL8 := Lib.hid hl8
    have HK8 := Lib.hid hk8
    have hE0 : E ≤ l1.length := by omega
    have x1 : ((strOf l1).extract 0 A).size = A := by rw [ByteArray.size_extract]; omega
    have x2 : ((strOf l1).extract 0 A ++ D).size = A + n := by rw [ByteArray.size_append, x1, hn]
    have x3 : ((strOf l1).extract E l1.length).size = l1.length - E := by rw [ByteArray.size_extract]; omega
    have hA0 : A ≤ l1.length := by omega
    have hput : (strOf l1).extract 0 A ++ D ++ (strOf l1).extract E l1.length = strOf (Pl.put l1 A (strI D)) := by
      unfold Pl.put
      rw [strOf_app, strOf_app, strOf_strIW, strOf_sub, strOf_sub, List.drop_zero, Nat.sub_zero, HSL.out, hE, show (l1.drop E).take (l1.length - E) = l1.drop E from List.take_of_length_le (by rw [List.length_drop]; exact Nat.le_refl _)]
    have hE63 : E ≤ 9223372036854775807 := by omega
    have hA63 : A ≤ 9223372036854775807 := by omega
    have hl63 : l1.length ≤ 9223372036854775807 := by omega
    have HPUT := Lib.hid hput
    clear hff hlf hk8 hput hEE c0 c1 c2 c3 c4 c5 c6 c7 y0 y1 y2 y3 y4 y5 y6 y7 z0 z1 z2 z3 z4 z5 z6 z7
    apply wp_into (G := fun V g => V = w8.drew.setCell ⟨f, 1, none⟩ (.string (strOf (Pl.put l1 A (strI D)))))
    · obtain ⟨gg, hgg⟩ : ∃ gg : Nat, gg = 0 := ⟨_, rfl⟩
      refine wp_region_held_drew (S := fun _ => True) (by kernel_rfl) trivial (fun hHeld => ?_)
      have d1 := hf8.cell 1
      have f1 := hf8.frozen 1
      have d1' : w8.drew.cell? ⟨f, 1, none⟩ = some (.string (strOf l1)) := d1
      refine tkS (i := 0) (v := (.pointer (some ⟨f, 1, none⟩))) rfl (Or.inl ⟨by rfl, fun w' hq => by go_simp⟩) trivial ?_
      simp only [Act.put, skA, skB, skC]
      refine tkS (i := 2) (v := (.int .i64 (A : Int))) rfl (Or.inl ⟨by rfl, fun w' hq => by go_simp⟩) trivial ?_
      simp only [Act.put, skA, skB, skC]
      refine tkS (i := 4) (v := (.string D)) rfl (Or.inl ⟨by rfl, fun w' hq => by go_simp⟩) trivial ?_
      simp only [Act.put, skA, skB, skC]
      refine tkS (i := 6) (v := (.pointer (some ⟨f, 1, none⟩))) rfl (Or.inl ⟨by rfl, fun w' hq => by go_simp⟩) trivial ?_
      simp only [Act.put, skA, skB, skC]
      refine tkS (i := 8) (v := (.int .i64 (E : Int))) rfl (Or.inl ⟨by rfl, fun w' hq => by go_simp⟩) trivial ?_
      simp only [Act.put, skA, skB, skC]
      refine wpAnyH_ready (rs := [1, 7]) (by kernel_rfl) (by simp) ?_
      refine AllReadyH.valR (fun W' => w8.drew = W') rfl (by rfl) (.string (strOf l1)) _ (by go_simp) (fun _ _ => trivial) rfl ?_ ?_
      · rintro _ rfl
        simp only [Act.put, skA, skB, skC]
        refine tkS (i := 3) (v := (.string ((strOf l1).extract 0 A))) rfl (Or.inl ⟨by rfl, fun w' hq => by go_simp⟩) trivial ?_
        simp only [Act.put, skA, skB, skC]
        refine tkS (i := 5) (v := (.string ((strOf l1).extract 0 A ++ D))) rfl (Or.inl ⟨by rfl, fun w' hq => by go_simp⟩) trivial ?_
        simp only [Act.put, skA, skB, skC]
        refine wpAnyH_ready (rs := [7]) (by kernel_rfl) (by simp) ?_
        refine AllReadyH.valR (fun W' => w8.drew = W') rfl (by rfl) (.string (strOf l1)) _ (by go_simp) (fun _ _ => trivial) rfl ?_ AllReadyH.nil
        rintro _ rfl
        simp only [Act.put, skA, skB, skC]
        refine tkS (i := 9) (v := (.string ((strOf l1).extract E l1.length))) rfl (Or.inl ⟨by rfl, fun w' hq => by go_simp⟩) trivial ?_
        simp only [Act.put, skA, skB, skC]
        refine tkS (i := 10) (v := (.string ((strOf l1).extract 0 A ++ D ++ (strOf l1).extract E l1.length))) rfl (Or.inl ⟨by rfl, fun w' hq => by go_simp⟩) trivial ?_
        simp only [Act.put, skA, skB, skC]
        refine tkS (i := 11) (v := (.pointer (some ⟨f, 1, none⟩))) rfl (Or.inl ⟨by rfl, fun w' hq => by go_simp⟩) trivial ?_
        simp only [Act.put, skA, skB, skC]
        refine wpAnyH_ready (rs := [12]) (by kernel_rfl) (by simp) ?_
        refine AllReadyH.skipR rfl (by rfl) (w8.drew.setCell ⟨f, 1, none⟩ (.string ((strOf l1).extract 0 A ++ D ++ (strOf l1).extract E l1.length))) (by go_simp) trivial ?_ AllReadyH.nil
        refine wpAnyH_done (by kernel_rfl) ?_ _
        exact into_of gg (by rw [HPUT.out]) rfl
      · refine AllReadyH.valR (fun W' => w8.drew = W') rfl (by rfl) (.string (strOf l1)) _ (by go_simp) (fun _ _ => trivial) rfl ?_ AllReadyH.nil
        rintro _ rfl
        simp only [Act.put, skA, skB, skC]
        refine tkS (i := 9) (v := (.string ((strOf l1).extract E l1.length))) rfl (Or.inl ⟨by rfl, fun w' hq => by go_simp⟩) trivial ?_
        simp only [Act.put, skA, skB, skC]
        refine wpAnyH_ready (rs := [1]) (by kernel_rfl) (by simp) ?_
        refine AllReadyH.valR (fun W' => w8.drew = W') rfl (by rfl) (.string (strOf l1)) _ (by go_simp) (fun _ _ => trivial) rfl ?_ AllReadyH.nil
        rintro _ rfl
        simp only [Act.put, skA, skB, skC]
        refine tkS (i := 3) (v := (.string ((strOf l1).extract 0 A))) rfl (Or.inl ⟨by rfl, fun w' hq => by go_simp⟩) trivial ?_
        simp only [Act.put, skA, skB, skC]
        refine tkS (i := 5) (v := (.string ((strOf l1).extract 0 A ++ D))) rfl (Or.inl ⟨by rfl, fun w' hq => by go_simp⟩) trivial ?_
        simp only [Act.put, skA, skB, skC]
        refine tkS (i := 10) (v := (.string ((strOf l1).extract 0 A ++ D ++ (strOf l1).extract E l1.length))) rfl (Or.inl ⟨by rfl, fun w' hq => by go_simp⟩) trivial ?_
        simp only [Act.put, skA, skB, skC]
        refine tkS (i := 11) (v := (.pointer (some ⟨f, 1, none⟩))) rfl (Or.inl ⟨by rfl, fun w' hq => by go_simp⟩) trivial ?_
        simp only [Act.put, skA, skB, skC]
        refine wpAnyH_ready (rs := [12]) (by kernel_rfl) (by simp) ?_
        refine AllReadyH.skipR rfl (by rfl) (w8.drew.setCell ⟨f, 1, none⟩ (.string ((strOf l1).extract 0 A ++ D ++ (strOf l1).extract E l1.length))) (by go_simp) trivial ?_ AllReadyH.nil
        refine wpAnyH_done (by kernel_rfl) ?_ _
        exact into_of gg (by rw [HPUT.out]) rfl
    · rintro g V hV
      obtain ⟨l, hl⟩ : ∃ l, Pl.put l1 A (strI D) = l := ⟨_, rfl⟩
      rw [hl] at hV HPUT
      have hll2 : l.length = l1.length := by
        rw [← hl]
        unfold Pl.put
        simp only [List.length_append, List.length_take, List.length_drop, HSL.out]
        omega
      have hlr : ∀ y ∈ l, 0 ≤ y ∧ y < 256 := fun y hy => by
        rw [← hl] at hy
        unfold Pl.put at hy
        rcases List.mem_append.1 hy with q | q
        · rcases List.mem_append.1 q with q | q
          · exact HL1R.out y (List.mem_of_mem_take q)
          · exact strI_rng D y q
        · exact HL1R.out y (List.mem_of_mem_drop q)
      have HLL := Lib.hid hl
      have HLR := Lib.hid hlr
      have hkV : Kp NoB w7 V := by
        rw [hV]
        exact HK8.out.drew.setCell (.inl (by show _ ≤ f; have := HFF.out; omega)) _
      have hfV : Blk V f 137 #[.string s, .string (strOf l), .string (strOf (p1.kept s))] := by
        rw [hV]
        exact HF8.out.drew.set_ 1 _
      have HFV := Lib.hid hfV
      have HRV7 := Lib.hid (HR7.out.keep hkV)
      clear hV hl hlr hfV HF8 HR7 HPUT x1 x2 x3 hf8 hl8
      have HLF := Lib.hid (show s0 < f ∧ s0 + 1 < f from ⟨hl0, hl2⟩)
      clear hl0 hl2
      have HB0' := Lib.hid (HB0.out.keep hkV (fun q => q))
      have HB2' := Lib.hid (HB2.out.keep hkV (fun q => q))
      have HK' := Lib.hid (HK.out.trans hkV (fun _ _ q => q))
      clear hkV HB0 HB2 HK
      have HB0 := HB0'
      have HB2 := HB2'
      have HK := HK'
      clear HB0' HB2' HK'
      have hl0 := HB0.out.lt
      have hl2 := HB2.out.lt
      obtain ⟨c0, c1, c2, c3, c4, c5, c6, c7⟩ := HB0.out.rdc
      obtain ⟨y0, y1, y2, y3, y4, y5, y6, y7⟩ := HB2.out.c8
      obtain ⟨z0, z1, z2, z3, z4, z5, z6, z7⟩ := HB2.out.z8
      obtain ⟨d0, d1, d2⟩ := HFV.out.c3
      have hlV := HFV.out.lt
      go_wp2_with fail
      refine (show Calls _ _ #[rdV d5 p, .agg (fileV s l (p1.kept s))] _ _ from by rw [HRV.out]; exact with_ok _ d5 p1 ⟨s, l, p1.kept s⟩ HRV7.out ⟨HS.out, HLR.out, HK1R.out.2, by show l.length ≤ _; omega, HK1R.out.1⟩ HNF1.out).mono ?_
      rintro e w9 ⟨d9, rfl, h9, hk9⟩
      have HR9 : Hid (Rf w9 d9 (p1.at_.setSeen s l)) := Lib.hid (by
        have e9 : (p1.at_.setSeen s l).setKept s (p1.kept s) = p1.at_.setSeen s l := kept_same (p1.at_.setSeen s l) s
        rw [← e9]; exact h9)
      have HF9 := Lib.hid (HFV.out.keep hk9 (fun q => q))
      rw [← HRV.out]
      clear h9 d0 d1 d2 hlV
      have HB0' := Lib.hid (HB0.out.keep hk9 (fun q => q))
      have HB2' := Lib.hid (HB2.out.keep hk9 (fun q => q))
      have HK' := Lib.hid (HK.out.trans hk9 (fun _ _ q => q))
      clear hk9 HB0 HB2 HK
      have HB0 := HB0'
      have HB2 := HB2'
      have HK := HK'
      clear HB0' HB2' HK' c0 c1 c2 c3 c4 c5 c6 c7 y0 y1 y2 y3 y4 y5 y6 y7 z0 z1 z2 z3 z4 z5 z6 z7 hl0 hl2
      have hl0 := HB0.out.lt
      have hl2 := HB2.out.lt
      obtain ⟨c0, c1, c2, c3, c4, c5, c6, c7⟩ := HB0.out.rdc
      obtain ⟨y0, y1, y2, y3, y4, y5, y6, y7⟩ := HB2.out.c8
      obtain ⟨z0, z1, z2, z3, z4, z5, z6, z7⟩ := HB2.out.z8
      obtain ⟨x0, x1, x2, x3, x4, x5, x6, x7⟩ := HB0.out.z8
      unfold rdV
      go_upto_region 20 with fail
      have hfx : Blk (((((((((w9.setCell ⟨s0, 0, none⟩ (.bool true)).setCell ⟨s0, 1, none⟩ (.bool p.down)).setCell ⟨s0, 2, none⟩ (.slice d9.fA d9.fn d9.fc)).setCell ⟨s0, 3, none⟩ (.slice d9.pA d9.pn d9.pc)).setCell ⟨s0, 4, none⟩ (.int .i64 p.room)).setCell ⟨s0, 5, none⟩ (.int .i64 p.steps)).setCell ⟨s0, 6, none⟩ (.int .i64 p.crash)).setCell ⟨s0, 7, none⟩ (.int .i64 p.starts))) f 137 #[.string s, .string (strOf l), .string (strOf (p1.kept s))] := HF9.out.keep (kp8 (S := OnB s0) (Kp.refl _ w9) (.inr rfl)) (fun q => by have q' : f = s0 := q; have := HLF.out; omega)
      have kz0 : w.heap.size ≤ s0 := by have := HS0.out; omega
      have hb4 : Blk (((((((((w9.setCell ⟨s0, 0, none⟩ (.bool true)).setCell ⟨s0, 1, none⟩ (.bool p.down)).setCell ⟨s0, 2, none⟩ (.slice d9.fA d9.fn d9.fc)).setCell ⟨s0, 3, none⟩ (.slice d9.pA d9.pn d9.pc)).setCell ⟨s0, 4, none⟩ (.int .i64 p.room)).setCell ⟨s0, 5, none⟩ (.int .i64 p.steps)).setCell ⟨s0, 6, none⟩ (.int .i64 p.crash)).setCell ⟨s0, 7, none⟩ (.int .i64 p.starts))) s0 56 (rdC d9 p) := blk8 HB0.out rfl
      have hq4 : Kp (OnB s0) w9 (((((((((w9.setCell ⟨s0, 0, none⟩ (.bool true)).setCell ⟨s0, 1, none⟩ (.bool p.down)).setCell ⟨s0, 2, none⟩ (.slice d9.fA d9.fn d9.fc)).setCell ⟨s0, 3, none⟩ (.slice d9.pA d9.pn d9.pc)).setCell ⟨s0, 4, none⟩ (.int .i64 p.room)).setCell ⟨s0, 5, none⟩ (.int .i64 p.steps)).setCell ⟨s0, 6, none⟩ (.int .i64 p.crash)).setCell ⟨s0, 7, none⟩ (.int .i64 p.starts))) := kp8 (Kp.refl _ w9) (.inr rfl)
      have hr4 : Rf (((((((((w9.setCell ⟨s0, 0, none⟩ (.bool true)).setCell ⟨s0, 1, none⟩ (.bool p.down)).setCell ⟨s0, 2, none⟩ (.slice d9.fA d9.fn d9.fc)).setCell ⟨s0, 3, none⟩ (.slice d9.pA d9.pn d9.pc)).setCell ⟨s0, 4, none⟩ (.int .i64 p.room)).setCell ⟨s0, 5, none⟩ (.int .i64 p.steps)).setCell ⟨s0, 6, none⟩ (.int .i64 p.crash)).setCell ⟨s0, 7, none⟩ (.int .i64 p.starts))) d9 (p1.at_.setSeen s l) := (HR9.out).keepB hq4 HB0.out (rdC_str _ _)
      have hz4 : Blk (((((((((w9.setCell ⟨s0, 0, none⟩ (.bool true)).setCell ⟨s0, 1, none⟩ (.bool p.down)).setCell ⟨s0, 2, none⟩ (.slice d9.fA d9.fn d9.fc)).setCell ⟨s0, 3, none⟩ (.slice d9.pA d9.pn d9.pc)).setCell ⟨s0, 4, none⟩ (.int .i64 p.room)).setCell ⟨s0, 5, none⟩ (.int .i64 p.steps)).setCell ⟨s0, 6, none⟩ (.int .i64 p.crash)).setCell ⟨s0, 7, none⟩ (.int .i64 p.starts))) (s0 + 1) 56 rdZ := HB2.out.keep hq4 (fun q => by have q' : s0 + 1 = s0 := q; omega)
      have hw4 : Kp NoB w (((((((((w9.setCell ⟨s0, 0, none⟩ (.bool true)).setCell ⟨s0, 1, none⟩ (.bool p.down)).setCell ⟨s0, 2, none⟩ (.slice d9.fA d9.fn d9.fc)).setCell ⟨s0, 3, none⟩ (.slice d9.pA d9.pn d9.pc)).setCell ⟨s0, 4, none⟩ (.int .i64 p.room)).setCell ⟨s0, 5, none⟩ (.int .i64 p.steps)).setCell ⟨s0, 6, none⟩ (.int .i64 p.crash)).setCell ⟨s0, 7, none⟩ (.int .i64 p.starts))) := kp8 HK.out (.inl kz0)
      clear hq4 HB0 HB2 HK
      generalize ((((((((w9.setCell ⟨s0, 0, none⟩ (.bool true)).setCell ⟨s0, 1, none⟩ (.bool p.down)).setCell ⟨s0, 2, none⟩ (.slice d9.fA d9.fn d9.fc)).setCell ⟨s0, 3, none⟩ (.slice d9.pA d9.pn d9.pc)).setCell ⟨s0, 4, none⟩ (.int .i64 p.room)).setCell ⟨s0, 5, none⟩ (.int .i64 p.steps)).setCell ⟨s0, 6, none⟩ (.int .i64 p.crash)).setCell ⟨s0, 7, none⟩ (.int .i64 p.starts)) = w10 at hb4 hr4 hz4 hw4 hfx ⊢
      have HB0 := Lib.hid hb4
      have HB2 := Lib.hid hz4
      have HK := Lib.hid hw4
      have HR := Lib.hid hr4
      clear hb4 hz4 hw4 hr4 c0 c1 c2 c3 c4 c5 c6 c7 y0 y1 y2 y3 y4 y5 y6 y7 z0 z1 z2 z3 z4 z5 z6 z7 hl0 hl2 kz0
      have hl0 := HB0.out.lt
      have hl2 := HB2.out.lt
      obtain ⟨c0, c1, c2, c3, c4, c5, c6, c7⟩ := HB0.out.rdc
      obtain ⟨y0, y1, y2, y3, y4, y5, y6, y7⟩ := HB2.out.c8
      obtain ⟨z0, z1, z2, z3, z4, z5, z6, z7⟩ := HB2.out.z8
      have HFX := Lib.hid hfx
      clear hfx
      have HQ0 : Hid ((A : Int) / 64 = ((A / 64 : Nat) : Int)) := Lib.hid (by omega)
      have HL2 := Lib.hid hll2
      clear hll2
      have hls2 := strOf_size l
      go_wp2_with fail
      go_loopw [14, 15] (fun v14 v15 wr => WtRel w s0 f p (p1.at_.setSeen s l) s l (p1.kept s) (A / 64) ((E + 63) / 64) v14 wr) (fun v _ _ => (E + 63) / 64 - (intOf v).toNat)
      case atStart => exact ⟨A / 64, d9, by rw [HQ0.out], Nat.le_refl _, by omega, HB0.out, by rw [secs_zero, pend_nil]; exact HR.out, HB2.out, HFX.out, HK.out⟩
      case round =>
        obtain ⟨wq, rfl⟩ : ∃ wq, wq = wr := ⟨_, rfl⟩
        obtain ⟨k, dk, rfl, hk0, hk1, hb0, hr, hb2, hbf, hkp⟩ := hrel
        have XB0 := Lib.hid hb0
        have XR := Lib.hid hr
        have XB2 := Lib.hid hb2
        have XF := Lib.hid hbf
        have XK := Lib.hid hkp
        have XK0 := Lib.hid hk0
        have XK1 := Lib.hid hk1
        obtain ⟨kk, hkk⟩ : ∃ kk, k * 64 = kk := ⟨_, rfl⟩
        have HKK := Lib.hid hkk
        have hwm : IntKind.i64.wrap ((k : Int) * 64) = (kk : Int) := by rw [IntKind.wrap_i64]; omega
        clear hb0 hr hb2 hbf hkp hk0 hk1 hkk
        obtain ⟨d0, d1, d2⟩ := XF.out.c3
        by_cases hlt : kk < E
        · have hlt' : (kk : Int) < (E : Int) := by omega
          have hkl : kk ≤ l.length := by have := HL2.out; omega
          have hl63' : l.length ≤ 9223372036854775807 := by have := HL2.out; omega
          have x1 : ((strOf l).extract kk l.length).size = l.length - kk := by rw [ByteArray.size_extract]; omega
          have y1' : (strOf l).extract kk l.length = strOf (l.drop kk) := by rw [strOf_sub, List.take_of_length_le (by simp)]
          go_upto_region 24 with fail
          clear x1 y1' d0 d1 d2
          obtain ⟨c0, c1, c2, c3, c4, c5, c6, c7⟩ := XB0.out.rdc
          obtain ⟨z0, z1, z2, z3, z4, z5, z6, z7⟩ := XB0.out.z8
          have HSZ9 : Hid (∀ V, Kp NoB wq V → Calls Try.prog 139 #[.string (strOf (l.drop kk)), .int .i64 64] V fun e w' => e = .returned (.string (strOf (sizedF (l.drop kk) 64))) ∧ Kp NoB V w') := Lib.hid (fun V _ => sized_ok V (l.drop kk) 64 (by rw [List.length_drop]; have := HL2.out; omega) (by omega))
          have HCH9 : Hid (∀ V, Kp NoB wq V → Calls Try.prog 138 #[rdV dk p, .agg #[.string s, .int .i64 (k : Int), .int .i64 0, .string (strOf (sizedF (l.drop kk) 64))]] V fun e w' => ∃ d', e = .returned (rdV d' p) ∧ Rf w' d' ((p1.at_.setSeen s l).pend (secs s l (A / 64) (k + 1))) ∧ Kp NoB V w') := Lib.hid (fun V hV => by
            have hrv : ∀ d', rdV d' ((p1.at_.setSeen s l).pend (secs s l (A / 64) k)) = rdV d' p := fun d' => by rw [HRV.out d']; rfl
            have h1 := change_okR V dk ((p1.at_.setSeen s l).pend (secs s l (A / 64) k)) ⟨s, (k : Int), 0, sizedF (l.drop kk) 64⟩ (XR.out.keep hV) ⟨.inr ⟨sizedF_len _ _, by show (0 : Int) ≤ (k : Int); omega, by show (k : Int) ≤ 16384; have := HKK.out; omega, rfl⟩, fun y hy => sizedF_rng (fun x hx => HLR.out x (List.mem_of_mem_drop hx)) 64 y hy, HS.out⟩ (by
              show (p1.pd ++ secs s l (A / 64) k).length < _
              rw [List.length_append, secs_len]
              have := HPD1.out
              have := HKK.out
              omega)
            rw [hrv] at h1
            refine h1.mono ?_
            rintro e w' ⟨d', rfl, h2, h3⟩
            refine ⟨d', by rw [hrv], ?_, h3⟩
            rw [pend_pend] at h2
            rw [secs_next s l XK0.out, HKK.out]
            exact h2)
          apply wp_into4 (G := fun V g h u v => ∃ d' W', u = rdV d' p ∧ V = (((((((((W'.setCell ⟨s0, 0, none⟩ (.bool true)).setCell ⟨s0, 1, none⟩ (.bool p.down)).setCell ⟨s0, 2, none⟩ (.slice d'.fA d'.fn d'.fc)).setCell ⟨s0, 3, none⟩ (.slice d'.pA d'.pn d'.pc)).setCell ⟨s0, 4, none⟩ (.int .i64 p.room)).setCell ⟨s0, 5, none⟩ (.int .i64 p.steps)).setCell ⟨s0, 6, none⟩ (.int .i64 p.crash)).setCell ⟨s0, 7, none⟩ (.int .i64 p.starts))) ∧ Rf W' d' ((p1.at_.setSeen s l).pend (secs s l (A / 64) (k + 1))) ∧ Kp NoB wq W')
          · obtain ⟨gg, hgg⟩ : ∃ gg : Nat, gg = 0 := ⟨_, rfl⟩
            obtain ⟨hh, hhh⟩ : ∃ gg : Nat, gg = 0 := ⟨_, rfl⟩
            obtain ⟨vv, hvv⟩ : ∃ vv : Value, vv = .bool true := ⟨_, rfl⟩
            refine wp_region_held_drew (S := fun _ => True) (by kernel_rfl) trivial (fun hHeld => ?_)
            have k0 : Kp NoB wq wq.drew := (Kp.refl NoB wq).drew
            generalize wq.drew = V0 at k0 hHeld ⊢
            refine tkS (i := 1) (v := (.string s)) rfl (Or.inl ⟨by rfl, fun w' hq => by go_simp⟩) trivial ?_
            simp only [Act.put, skA, skB, skC]
            refine tkS (i := 2) (v := (.int .i64 (k : Int))) rfl (Or.inl ⟨by rfl, fun w' hq => by go_simp⟩) trivial ?_
            simp only [Act.put, skA, skB, skC]
            refine tkS (i := 3) (v := (.string (strOf (l.drop kk)))) rfl (Or.inl ⟨by rfl, fun w' hq => by go_simp⟩) trivial ?_
            simp only [Act.put, skA, skB, skC]
            refine wpAnyH_ready (rs := [0, 4]) (by kernel_rfl) (by simp) ?_
            refine AllReadyH.valR (fun W' => V0 = W') rfl (by rfl) (rdV dk p) _ (by (obtain ⟨c0, c1, c2, c3, c4, c5, c6, c7⟩ := (XB0.out.keep k0 (fun q => q)).rdc; unfold rdV; go_simp)) (fun _ _ => trivial) rfl ?_ ?_
            · rintro _ rfl
              simp only [Act.put, skA, skB, skC]
              refine wpAnyH_ready (rs := [4]) (by kernel_rfl) (by simp) ?_
              refine AllReadyH.callR (fun x W' => x = .string (strOf (sizedF (l.drop kk) 64)) ∧ Kp NoB wq W') rfl (by rfl) 139 #[.string (strOf (l.drop kk)), .int .i64 64] (by first | (go_simp; done) | (go_simp; rfl)) (fun _ _ q => trivial) ((HSZ9.out V0 k0).mono (by rintro e w' ⟨rfl, hk⟩; exact ⟨_, rfl, rfl, k0.trans hk (fun _ _ q => q)⟩)) ?_ AllReadyH.nil
              rintro x V1 ⟨rfl, k1⟩
              simp only [Act.put, skA, skB, skC]
              refine tkS (i := 5) (v := (.agg #[.string s, .int .i64 (k : Int), .int .i64 0, .string (strOf (sizedF (l.drop kk) 64))])) rfl (Or.inl ⟨by rfl, fun w' hq => by go_simp⟩) trivial ?_
              simp only [Act.put, skA, skB, skC]
              refine wpAnyH_ready (rs := [6]) (by kernel_rfl) (by simp) ?_
              refine AllReadyH.callR (fun x W' => ∃ d', x = rdV d' p ∧ Rf W' d' ((p1.at_.setSeen s l).pend (secs s l (A / 64) (k + 1))) ∧ Kp NoB wq W') rfl (by rfl) 138 #[rdV dk p, .agg #[.string s, .int .i64 (k : Int), .int .i64 0, .string (strOf (sizedF (l.drop kk) 64))]] (by first | (go_simp; done) | (go_simp; rfl)) (fun _ _ q => trivial) ((HCH9.out V1 k1).mono (by rintro e w' ⟨d', rfl, h2, hk⟩; exact ⟨_, rfl, d', rfl, h2, (k1).trans hk (fun _ _ q => q)⟩)) ?_ AllReadyH.nil
              rintro x V2 ⟨d', rfl, h2, k2⟩
              simp only [Act.put, skA, skB, skC]
              refine wpAnyH_ready (rs := [7]) (by kernel_rfl) (by simp) ?_
              refine AllReadyH.skipR rfl (by rfl) (((((((((V2.setCell ⟨s0, 0, none⟩ (.bool true)).setCell ⟨s0, 1, none⟩ (.bool p.down)).setCell ⟨s0, 2, none⟩ (.slice d'.fA d'.fn d'.fc)).setCell ⟨s0, 3, none⟩ (.slice d'.pA d'.pn d'.pc)).setCell ⟨s0, 4, none⟩ (.int .i64 p.room)).setCell ⟨s0, 5, none⟩ (.int .i64 p.steps)).setCell ⟨s0, 6, none⟩ (.int .i64 p.crash)).setCell ⟨s0, 7, none⟩ (.int .i64 p.starts))) (by (obtain ⟨c0, c1, c2, c3, c4, c5, c6, c7⟩ := (XB0.out.keep k2 (fun q => q)).rdc; obtain ⟨z0, z1, z2, z3, z4, z5, z6, z7⟩ := (XB0.out.keep k2 (fun q => q)).z8; unfold rdV; go_simp)) trivial ?_ AllReadyH.nil
              refine wpAnyH_done (by kernel_rfl) ?_ _
              obtain ⟨uu, huu⟩ : ∃ uu, rdV d' p = uu := ⟨_, rfl⟩
              rw [huu]
              exact into4_of gg hh uu vv ⟨d', V2, huu.symm, rfl, h2, k2⟩ rfl
            · refine AllReadyH.callR (fun x W' => x = .string (strOf (sizedF (l.drop kk) 64)) ∧ Kp NoB wq W') rfl (by rfl) 139 #[.string (strOf (l.drop kk)), .int .i64 64] (by first | (go_simp; done) | (go_simp; rfl)) (fun _ _ q => trivial) ((HSZ9.out V0 k0).mono (by rintro e w' ⟨rfl, hk⟩; exact ⟨_, rfl, rfl, k0.trans hk (fun _ _ q => q)⟩)) ?_ AllReadyH.nil
              rintro x V1 ⟨rfl, k1⟩
              simp only [Act.put, skA, skB, skC]
              refine tkS (i := 5) (v := (.agg #[.string s, .int .i64 (k : Int), .int .i64 0, .string (strOf (sizedF (l.drop kk) 64))])) rfl (Or.inl ⟨by rfl, fun w' hq => by go_simp⟩) trivial ?_
              simp only [Act.put, skA, skB, skC]
              refine wpAnyH_ready (rs := [0]) (by kernel_rfl) (by simp) ?_
              refine AllReadyH.valR (fun W' => V1 = W') rfl (by rfl) (rdV dk p) _ (by (obtain ⟨c0, c1, c2, c3, c4, c5, c6, c7⟩ := (XB0.out.keep k1 (fun q => q)).rdc; unfold rdV; go_simp)) (fun _ _ => trivial) rfl ?_ AllReadyH.nil
              rintro _ rfl
              simp only [Act.put, skA, skB, skC]
              refine wpAnyH_ready (rs := [6]) (by kernel_rfl) (by simp) ?_
              refine AllReadyH.callR (fun x W' => ∃ d', x = rdV d' p ∧ Rf W' d' ((p1.at_.setSeen s l).pend (secs s l (A / 64) (k + 1))) ∧ Kp NoB wq W') rfl (by rfl) 138 #[rdV dk p, .agg #[.string s, .int .i64 (k : Int), .int .i64 0, .string (strOf (sizedF (l.drop kk) 64))]] (by first | (go_simp; done) | (go_simp; rfl)) (fun _ _ q => trivial) ((HCH9.out V1 k1).mono (by rintro e w' ⟨d', rfl, h2, hk⟩; exact ⟨_, rfl, d', rfl, h2, (k1).trans hk (fun _ _ q => q)⟩)) ?_ AllReadyH.nil
              rintro x V2 ⟨d', rfl, h2, k2⟩
              simp only [Act.put, skA, skB, skC]
              refine wpAnyH_ready (rs := [7]) (by kernel_rfl) (by simp) ?_
              refine AllReadyH.skipR rfl (by rfl) (((((((((V2.setCell ⟨s0, 0, none⟩ (.bool true)).setCell ⟨s0, 1, none⟩ (.bool p.down)).setCell ⟨s0, 2, none⟩ (.slice d'.fA d'.fn d'.fc)).setCell ⟨s0, 3, none⟩ (.slice d'.pA d'.pn d'.pc)).setCell ⟨s0, 4, none⟩ (.int .i64 p.room)).setCell ⟨s0, 5, none⟩ (.int .i64 p.steps)).setCell ⟨s0, 6, none⟩ (.int .i64 p.crash)).setCell ⟨s0, 7, none⟩ (.int .i64 p.starts))) (by (obtain ⟨c0, c1, c2, c3, c4, c5, c6, c7⟩ := (XB0.out.keep k2 (fun q => q)).rdc; obtain ⟨z0, z1, z2, z3, z4, z5, z6, z7⟩ := (XB0.out.keep k2 (fun q => q)).z8; unfold rdV; go_simp)) trivial ?_ AllReadyH.nil
              refine wpAnyH_done (by kernel_rfl) ?_ _
              obtain ⟨uu, huu⟩ : ∃ uu, rdV d' p = uu := ⟨_, rfl⟩
              rw [huu]
              exact into4_of gg hh uu vv ⟨d', V2, huu.symm, rfl, h2, k2⟩ rfl
          · rintro g h u v V ⟨d', W', rfl, hV, hR, hK⟩
            have hkW : Kp NoB wq W' := hK
            have hq : Kp (OnB s0) W' V := by rw [hV]; exact kp8 (Kp.refl _ W') (.inr rfl)
            have yb0 := XB0.out.keep hkW (fun q => q)
            have e0 : Blk V s0 56 (rdC d' p) := by rw [hV]; exact blk8 yb0 rfl
            have eR : Rf V d' ((p1.at_.setSeen s l).pend (secs s l (A / 64) (k + 1))) := hR.keepB hq yb0 (rdC_str _ _)
            have e2 : Blk V (s0 + 1) 56 rdZ := (XB2.out.keep hkW (fun q => q)).keep hq (fun q => by have q' : s0 + 1 = s0 := q; omega)
            have eF := (XF.out.keep hkW (fun q => q)).keep hq (fun q => by have q' : f = s0 := q; have := HLF.out; omega)
            have eK : Kp NoB w V := by rw [hV]; exact kp8 (XK.out.trans hkW (fun _ _ q => q)) (.inl (by have := HS0.out; omega))
            have E9 := Lib.hid (show WtRel w s0 f p (p1.at_.setSeen s l) s l (p1.kept s) (A / 64) ((E + 63) / 64) (.int .i64 ((k + 1 : Nat) : Int)) V from ⟨k + 1, d', rfl, by have := XK0.out; omega, by have := HKK.out; omega, e0, eR, e2, eF, eK⟩)
            clear hV hR hK hkW hq yb0 e0 eR e2 eF eK c0 c1 c2 c3 c4 c5 c6 c7 z0 z1 z2 z3 z4 z5 z6 z7
            have hk16 : k < 1048576 := by have := HKK.out; omega
            go_wp2_with fail
            go_roundw
            case rel => exact E9.out
            case measure => simp [intOf]; have := HKK.out; omega
        · have hlt' : ¬ (kk : Int) < (E : Int) := by omega
          have hke : k = (E + 63) / 64 := by have := HKK.out; have := XK1.out; omega
          have EW : Hid (p.write1 s A (strI D) = ((p1.at_.setSeen s l).pend (secs s l (A / 64) k)).step ∧ p.stepE = ((p1.at_.setSeen s l).pend (secs s l (A / 64) k)).stepE) := Lib.hid (by
            constructor
            · show (((if (p.seen s).length < A + (strI D).length then p.length s (A + (strI D).length) else p).at_.setSeen s (Pl.put ((if (p.seen s).length < A + (strI D).length then p.length s (A + (strI D).length) else p).seen s) A (strI D))).pend (Pl.sectors s (Pl.put ((if (p.seen s).length < A + (strI D).length then p.length s (A + (strI D).length) else p).seen s) A (strI D)) A (A + (strI D).length))).step = _
              rw [HL0.out, HSL.out, HP1.out, HL1.out, HLL.out, hE, ← secs_all, hke]
            · show (if p.crash = 1 then (7 : Int) else 0) = if p1.crash = 1 then 7 else 0
              rw [HNUM.out.2.2.2.1])
          have EV : Hid (rdV dk p = rdV dk ((p1.at_.setSeen s l).pend (secs s l (A / 64) k))) := Lib.hid (by rw [HRV.out dk]; rfl)
          obtain ⟨p3, hp3⟩ : ∃ p3, (p1.at_.setSeen s l).pend (secs s l (A / 64) k) = p3 := ⟨_, rfl⟩
          rw [hp3] at EW EV XR
          clear hke hp3 d0 d1 d2
          obtain ⟨c0, c1, c2, c3, c4, c5, c6, c7⟩ := XB0.out.rdc
          go_wp2_with fail
          refine (show Calls _ _ #[rdV dk p] _ _ from by rw [EV.out]; exact step_okR wq dk p3 XR.out).mono ?_
          rintro e w11 ⟨rfl, h11, hk11⟩
          have HR11 := Lib.hid h11
          have YB2 := Lib.hid (XB2.out.keep hk11 (fun q => q))
          have YK := Lib.hid (XK.out.trans hk11 (fun _ _ q => q))
          clear h11 hk11 c0 c1 c2 c3 c4 c5 c6 c7
          obtain ⟨y0, y1, y2, y3, y4, y5, y6, y7⟩ := YB2.out.c8
          obtain ⟨z0, z1, z2, z3, z4, z5, z6, z7⟩ := YB2.out.z8
          unfold rdV
          go_wp2_with fail
          refine bodyPost_ret (ret_cell_tmp rfl _ _ _ _ _ _ rfl (blk8 YB2.out rfl) Try.underlying56 rfl (by exact infoRd) _ rfl) rfl ⟨dk, by rw [EW.out.1, EW.out.2]; rfl, ?_, kp8 YK.out (.inl kz)⟩
          rw [EW.out.1]
          exact HR11.out.keepB (kp8 (Kp.refl _ w11) (.inr rfl)) YB2.out rdZ_str
  · have g1 : (l0.length : Int) ≤ (A : Int) + (n : Int) := by omega
    have g2 : ¬ (l0.length : Int) < (A : Int) + (n : Int) := by omega
    have HFM : Hid (p.fits s ((A : Int) + (n : Int)) = 0) := Lib.hid (by have := HFT.out; rwa [show max ((A : Int) + n) (l0.length : Int) = (A : Int) + (n : Int) by omega] at this)
    have hP : Hid (p = p1) := Lib.hid (by have := HP1.out; rwa [if_neg (by omega)] at this)
    clear hg
    unfold rdV
    go_enter Try.func79, Try.ntmps79
    go_wp2_with fail
    refine (show Calls _ _ #[rdV d p] _ _ from wrong_okR _ d p (H.out.keep hk)).mono ?_
    rintro e w2 ⟨rfl, hk2⟩
    rw [hw.out]
    have HB0 := Lib.hid (hb0.keep hk2 (fun q => q))
    have HB2 := Lib.hid (hb2.keep hk2 (fun q => q))
    have HK := Lib.hid (hk.trans hk2 (fun _ _ q => q))
    clear hb0 hb2 hk hk2
    generalize hs0 : w.heap.size = s0 at HB0 HB2 ⊢
    have HS0 := Lib.hid hs0
    have kz : w.heap.size ≤ s0 + 1 := by omega
    clear hs0
    have hl0 := HB0.out.lt
    have hl2 := HB2.out.lt
    obtain ⟨c0, c1, c2, c3, c4, c5, c6, c7⟩ := HB0.out.rdc
    obtain ⟨y0, y1, y2, y3, y4, y5, y6, y7⟩ := HB2.out.c8
    obtain ⟨z0, z1, z2, z3, z4, z5, z6, z7⟩ := HB2.out.z8
    go_wp2_with fail
    refine (show Calls _ _ #[rdV d p, .string s] _ _ from seen_ok _ d p s (H.out.keep HK.out) (by have := HNF.out; omega)).mono ?_
    rintro e w3 ⟨rfl, hk3⟩
    rw [HL0.out]
    have HB0' := Lib.hid (HB0.out.keep hk3 (fun q => q))
    have HB2' := Lib.hid (HB2.out.keep hk3 (fun q => q))
    have HK' := Lib.hid (HK.out.trans hk3 (fun _ _ q => q))
    clear hk3 HB0 HB2 HK
    have HB0 := HB0'
    have HB2 := HB2'
    have HK := HK'
    clear HB0' HB2' HK' c0 c1 c2 c3 c4 c5 c6 c7 y0 y1 y2 y3 y4 y5 y6 y7 z0 z1 z2 z3 z4 z5 z6 z7 hl0 hl2
    have hl0 := HB0.out.lt
    have hl2 := HB2.out.lt
    obtain ⟨c0, c1, c2, c3, c4, c5, c6, c7⟩ := HB0.out.rdc
    obtain ⟨y0, y1, y2, y3, y4, y5, y6, y7⟩ := HB2.out.c8
    obtain ⟨z0, z1, z2, z3, z4, z5, z6, z7⟩ := HB2.out.z8
    go_wp2_with fail
    refine (show Calls _ _ #[rdV d p, .string s, .int .i64 ((A : Int) + (n : Int))] _ _ from fits_okR _ d p s _ (H.out.keep HK.out) (by have := HNF.out; omega) (by omega)).mono ?_
    rintro e w4 ⟨rfl, hk4⟩
    rw [HFM.out]
    have HB0' := Lib.hid (HB0.out.keep hk4 (fun q => q))
    have HB2' := Lib.hid (HB2.out.keep hk4 (fun q => q))
    have HK' := Lib.hid (HK.out.trans hk4 (fun _ _ q => q))
    clear hk4 HB0 HB2 HK
    have HB0 := HB0'
    have HB2 := HB2'
    have HK := HK'
    clear HB0' HB2' HK' c0 c1 c2 c3 c4 c5 c6 c7 y0 y1 y2 y3 y4 y5 y6 y7 z0 z1 z2 z3 z4 z5 z6 z7 hl0 hl2
    have hl0 := HB0.out.lt
    have hl2 := HB2.out.lt
    obtain ⟨c0, c1, c2, c3, c4, c5, c6, c7⟩ := HB0.out.rdc
    obtain ⟨y0, y1, y2, y3, y4, y5, y6, y7⟩ := HB2.out.c8
    obtain ⟨z0, z1, z2, z3, z4, z5, z6, z7⟩ := HB2.out.z8
    go_upto_region 17 with fail
    have HR : Hid (Rf w4 d p1) := Lib.hid (by rw [← hP.out]; exact H.out.keep HK.out)
    go_wp2_with fail
    refine (show Calls _ _ #[rdV d p, .string s] _ _ from by rw [HRV.out]; exact file_ok _ d p1 s HR.out HNF1.out).mono ?_
    rintro e w7 ⟨rfl, hk7⟩
    have HR7 := Lib.hid (HR.out.keep hk7)
    have hl1L := (HR7.out.look s).1.1
    have HL1R := Lib.hid (HR7.out.look s).1.2
    have HK1R := Lib.hid (HR7.out.look s).2
    rw [HL1.out] at hl1L HL1R ⊢
    have hl1s := strOf_size l1
    clear HR
    have HB0' := Lib.hid (HB0.out.keep hk7 (fun q => q))
    have HB2' := Lib.hid (HB2.out.keep hk7 (fun q => q))
    have HK' := Lib.hid (HK.out.trans hk7 (fun _ _ q => q))
    clear hk7 HB0 HB2 HK
    have HB0 := HB0'
    have HB2 := HB2'
    have HK := HK'
    clear HB0' HB2' HK' c0 c1 c2 c3 c4 c5 c6 c7 y0 y1 y2 y3 y4 y5 y6 y7 z0 z1 z2 z3 z4 z5 z6 z7 hl0 hl2
    have hl0 := HB0.out.lt
    have hl2 := HB2.out.lt
    obtain ⟨c0, c1, c2, c3, c4, c5, c6, c7⟩ := HB0.out.rdc
    obtain ⟨y0, y1, y2, y3, y4, y5, y6, y7⟩ := HB2.out.c8
    obtain ⟨z0, z1, z2, z3, z4, z5, z6, z7⟩ := HB2.out.z8
    unfold fileV
    have hlf : ∀ g, g < w7.heap.size → g ≠ w7.heap.size := fun g q e => by omega
    go_upto_region 18 with fail
    obtain ⟨E, hE⟩ : ∃ E : Nat, A + n = E := ⟨_, rfl⟩
    have hEE : (A : Int) + (n : Int) = (E : Int) := by omega
    rw [hEE]
    have hk8 : Kp NoB w7 (w7.alloc (.cells #[.string s, .string (strOf l1), .string (strOf (p1.kept s))] 137)) := (Kp.refl NoB w7).alloc _
    have hf8 : Blk (w7.alloc (.cells #[.string s, .string (strOf l1), .string (strOf (p1.kept s))] 137)) w7.heap.size 137 #[.string s, .string (strOf l1), .string (strOf (p1.kept s))] := Blk.new _ _ _
    have hl8 : (w7.alloc (.cells #[.string s, .string (strOf l1), .string (strOf (p1.kept s))] 137)).heap.size = w7.heap.size + 1 := by simp
    generalize w7.alloc (.cells #[.string s, .string (strOf l1), .string (strOf (p1.kept s))] 137) = w8 at hk8 hf8 hl8 ⊢
    generalize hff : w7.heap.size = f at hf8 hl8 hl0 hl2 ⊢
    have HFF := Lib.hid hff
    have HF8 := Lib.hid hf8
    have HL8 := Lib.hid hl8
    have HK8 := Lib.hid hk8
    have hE0 : E ≤ l1.length := by omega
    have x1 : ((strOf l1).extract 0 A).size = A := by rw [ByteArray.size_extract]; omega
    have x2 : ((strOf l1).extract 0 A ++ D).size = A + n := by rw [ByteArray.size_append, x1, hn]
    have x3 : ((strOf l1).extract E l1.length).size = l1.length - E := by rw [ByteArray.size_extract]; omega
    have hA0 : A ≤ l1.length := by omega
    have hput : (strOf l1).extract 0 A ++ D ++ (strOf l1).extract E l1.length = strOf (Pl.put l1 A (strI D)) := by
      unfold Pl.put
      rw [strOf_app, strOf_app, strOf_strIW, strOf_sub, strOf_sub, List.drop_zero, Nat.sub_zero, HSL.out, hE, show (l1.drop E).take (l1.length - E) = l1.drop E from List.take_of_length_le (by rw [List.length_drop]; exact Nat.le_refl _)]
    have hE63 : E ≤ 9223372036854775807 := by omega
    have hA63 : A ≤ 9223372036854775807 := by omega
    have hl63 : l1.length ≤ 9223372036854775807 := by omega
    have HPUT := Lib.hid hput
    clear hff hlf hk8 hput hEE c0 c1 c2 c3 c4 c5 c6 c7 y0 y1 y2 y3 y4 y5 y6 y7 z0 z1 z2 z3 z4 z5 z6 z7
    apply wp_into (G := fun V g => V = w8.drew.setCell ⟨f, 1, none⟩ (.string (strOf (Pl.put l1 A (strI D)))))
    · obtain ⟨gg, hgg⟩ : ∃ gg : Nat, gg = 0 := ⟨_, rfl⟩
      refine wp_region_held_drew (S := fun _ => True) (by kernel_rfl) trivial (fun hHeld => ?_)
      have d1 := hf8.cell 1
      have f1 := hf8.frozen 1
      have d1' : w8.drew.cell? ⟨f, 1, none⟩ = some (.string (strOf l1)) := d1
      refine tkS (i := 0) (v := (.pointer (some ⟨f, 1, none⟩))) rfl (Or.inl ⟨by rfl, fun w' hq => by go_simp⟩) trivial ?_
      simp only [Act.put, skA, skB, skC]
      refine tkS (i := 2) (v := (.int .i64 (A : Int))) rfl (Or.inl ⟨by rfl, fun w' hq => by go_simp⟩) trivial ?_
      simp only [Act.put, skA, skB, skC]
      refine tkS (i := 4) (v := (.string D)) rfl (Or.inl ⟨by rfl, fun w' hq => by go_simp⟩) trivial ?_
      simp only [Act.put, skA, skB, skC]
      refine tkS (i := 6) (v := (.pointer (some ⟨f, 1, none⟩))) rfl (Or.inl ⟨by rfl, fun w' hq => by go_simp⟩) trivial ?_
      simp only [Act.put, skA, skB, skC]
      refine tkS (i := 8) (v := (.int .i64 (E : Int))) rfl (Or.inl ⟨by rfl, fun w' hq => by go_simp⟩) trivial ?_
      simp only [Act.put, skA, skB, skC]
      refine wpAnyH_ready (rs := [1, 7]) (by kernel_rfl) (by simp) ?_
      refine AllReadyH.valR (fun W' => w8.drew = W') rfl (by rfl) (.string (strOf l1)) _ (by go_simp) (fun _ _ => trivial) rfl ?_ ?_
      · rintro _ rfl
        simp only [Act.put, skA, skB, skC]
        refine tkS (i := 3) (v := (.string ((strOf l1).extract 0 A))) rfl (Or.inl ⟨by rfl, fun w' hq => by go_simp⟩) trivial ?_
        simp only [Act.put, skA, skB, skC]
        refine tkS (i := 5) (v := (.string ((strOf l1).extract 0 A ++ D))) rfl (Or.inl ⟨by rfl, fun w' hq => by go_simp⟩) trivial ?_
        simp only [Act.put, skA, skB, skC]
        refine wpAnyH_ready (rs := [7]) (by kernel_rfl) (by simp) ?_
        refine AllReadyH.valR (fun W' => w8.drew = W') rfl (by rfl) (.string (strOf l1)) _ (by go_simp) (fun _ _ => trivial) rfl ?_ AllReadyH.nil
        rintro _ rfl
        simp only [Act.put, skA, skB, skC]
        refine tkS (i := 9) (v := (.string ((strOf l1).extract E l1.length))) rfl (Or.inl ⟨by rfl, fun w' hq => by go_simp⟩) trivial ?_
        simp only [Act.put, skA, skB, skC]
        refine tkS (i := 10) (v := (.string ((strOf l1).extract 0 A ++ D ++ (strOf l1).extract E l1.length))) rfl (Or.inl ⟨by rfl, fun w' hq => by go_simp⟩) trivial ?_
        simp only [Act.put, skA, skB, skC]
        refine tkS (i := 11) (v := (.pointer (some ⟨f, 1, none⟩))) rfl (Or.inl ⟨by rfl, fun w' hq => by go_simp⟩) trivial ?_
        simp only [Act.put, skA, skB, skC]
        refine wpAnyH_ready (rs := [12]) (by kernel_rfl) (by simp) ?_
        refine AllReadyH.skipR rfl (by rfl) (w8.drew.setCell ⟨f, 1, none⟩ (.string ((strOf l1).extract 0 A ++ D ++ (strOf l1).extract E l1.length))) (by go_simp) trivial ?_ AllReadyH.nil
        refine wpAnyH_done (by kernel_rfl) ?_ _
        exact into_of gg (by rw [HPUT.out]) rfl
      · refine AllReadyH.valR (fun W' => w8.drew = W') rfl (by rfl) (.string (strOf l1)) _ (by go_simp) (fun _ _ => trivial) rfl ?_ AllReadyH.nil
        rintro _ rfl
        simp only [Act.put, skA, skB, skC]
        refine tkS (i := 9) (v := (.string ((strOf l1).extract E l1.length))) rfl (Or.inl ⟨by rfl, fun w' hq => by go_simp⟩) trivial ?_
        simp only [Act.put, skA, skB, skC]
        refine wpAnyH_ready (rs := [1]) (by kernel_rfl) (by simp) ?_
        refine AllReadyH.valR (fun W' => w8.drew = W') rfl (by rfl) (.string (strOf l1)) _ (by go_simp) (fun _ _ => trivial) rfl ?_ AllReadyH.nil
        rintro _ rfl
        simp only [Act.put, skA, skB, skC]
        refine tkS (i := 3) (v := (.string ((strOf l1).extract 0 A))) rfl (Or.inl ⟨by rfl, fun w' hq => by go_simp⟩) trivial ?_
        simp only [Act.put, skA, skB, skC]
        refine tkS (i := 5) (v := (.string ((strOf l1).extract 0 A ++ D))) rfl (Or.inl ⟨by rfl, fun w' hq => by go_simp⟩) trivial ?_
        simp only [Act.put, skA, skB, skC]
        refine tkS (i := 10) (v := (.string ((strOf l1).extract 0 A ++ D ++ (strOf l1).extract E l1.length))) rfl (Or.inl ⟨by rfl, fun w' hq => by go_simp⟩) trivial ?_
        simp only [Act.put, skA, skB, skC]
        refine tkS (i := 11) (v := (.pointer (some ⟨f, 1, none⟩))) rfl (Or.inl ⟨by rfl, fun w' hq => by go_simp⟩) trivial ?_
        simp only [Act.put, skA, skB, skC]
        refine wpAnyH_ready (rs := [12]) (by kernel_rfl) (by simp) ?_
        refine AllReadyH.skipR rfl (by rfl) (w8.drew.setCell ⟨f, 1, none⟩ (.string ((strOf l1).extract 0 A ++ D ++ (strOf l1).extract E l1.length))) (by go_simp) trivial ?_ AllReadyH.nil
        refine wpAnyH_done (by kernel_rfl) ?_ _
        exact into_of gg (by rw [HPUT.out]) rfl
    · rintro g V hV
      obtain ⟨l, hl⟩ : ∃ l, Pl.put l1 A (strI D) = l := ⟨_, rfl⟩
      rw [hl] at hV HPUT
      have hll2 : l.length = l1.length := by
        rw [← hl]
        unfold Pl.put
        simp only [List.length_append, List.length_take, List.length_drop, HSL.out]
        omega
      have hlr : ∀ y ∈ l, 0 ≤ y ∧ y < 256 := fun y hy => by
        rw [← hl] at hy
        unfold Pl.put at hy
        rcases List.mem_append.1 hy with q | q
        · rcases List.mem_append.1 q with q | q
          · exact HL1R.out y (List.mem_of_mem_take q)
          · exact strI_rng D y q
        · exact HL1R.out y (List.mem_of_mem_drop q)
      have HLL := Lib.hid hl
      have HLR := Lib.hid hlr
      have hkV : Kp NoB w7 V := by
        rw [hV]
        exact HK8.out.drew.setCell (.inl (by show _ ≤ f; have := HFF.out; omega)) _
      have hfV : Blk V f 137 #[.string s, .string (strOf l), .string (strOf (p1.kept s))] := by
        rw [hV]
        exact HF8.out.drew.set_ 1 _
      have HFV := Lib.hid hfV
      have HRV7 := Lib.hid (HR7.out.keep hkV)
      clear hV hl hlr hfV HF8 HR7 HPUT x1 x2 x3 hf8 hl8
      have HLF := Lib.hid (show s0 < f ∧ s0 + 1 < f from ⟨hl0, hl2⟩)
      clear hl0 hl2
      have HB0' := Lib.hid (HB0.out.keep hkV (fun q => q))
      have HB2' := Lib.hid (HB2.out.keep hkV (fun q => q))
      have HK' := Lib.hid (HK.out.trans hkV (fun _ _ q => q))
      clear hkV HB0 HB2 HK
      have HB0 := HB0'
      have HB2 := HB2'
      have HK := HK'
      clear HB0' HB2' HK'
      have hl0 := HB0.out.lt
      have hl2 := HB2.out.lt
      obtain ⟨c0, c1, c2, c3, c4, c5, c6, c7⟩ := HB0.out.rdc
      obtain ⟨y0, y1, y2, y3, y4, y5, y6, y7⟩ := HB2.out.c8
      obtain ⟨z0, z1, z2, z3, z4, z5, z6, z7⟩ := HB2.out.z8
      obtain ⟨d0, d1, d2⟩ := HFV.out.c3
      have hlV := HFV.out.lt
      go_wp2_with fail
      refine (show Calls _ _ #[rdV d p, .agg (fileV s l (p1.kept s))] _ _ from by rw [HRV.out]; exact with_ok _ d p1 ⟨s, l, p1.kept s⟩ HRV7.out ⟨HS.out, HLR.out, HK1R.out.2, by show l.length ≤ _; omega, HK1R.out.1⟩ HNF1.out).mono ?_
      rintro e w9 ⟨d9, rfl, h9, hk9⟩
      have HR9 : Hid (Rf w9 d9 (p1.at_.setSeen s l)) := Lib.hid (by
        have e9 : (p1.at_.setSeen s l).setKept s (p1.kept s) = p1.at_.setSeen s l := kept_same (p1.at_.setSeen s l) s
        rw [← e9]; exact h9)
      have HF9 := Lib.hid (HFV.out.keep hk9 (fun q => q))
      rw [← HRV.out]
      clear h9 d0 d1 d2 hlV
      have HB0' := Lib.hid (HB0.out.keep hk9 (fun q => q))
      have HB2' := Lib.hid (HB2.out.keep hk9 (fun q => q))
      have HK' := Lib.hid (HK.out.trans hk9 (fun _ _ q => q))
      clear hk9 HB0 HB2 HK
      have HB0 := HB0'
      have HB2 := HB2'
      have HK := HK'
      clear HB0' HB2' HK' c0 c1 c2 c3 c4 c5 c6 c7 y0 y1 y2 y3 y4 y5 y6 y7 z0 z1 z2 z3 z4 z5 z6 z7 hl0 hl2
      have hl0 := HB0.out.lt
      have hl2 := HB2.out.lt
      obtain ⟨c0, c1, c2, c3, c4, c5, c6, c7⟩ := HB0.out.rdc
      obtain ⟨y0, y1, y2, y3, y4, y5, y6, y7⟩ := HB2.out.c8
      obtain ⟨z0, z1, z2, z3, z4, z5, z6, z7⟩ := HB2.out.z8
      obtain ⟨x0, x1, x2, x3, x4, x5, x6, x7⟩ := HB0.out.z8
      unfold rdV
      go_upto_region 20 with fail
      have hfx : Blk (((((((((w9.setCell ⟨s0, 0, none⟩ (.bool true)).setCell ⟨s0, 1, none⟩ (.bool p.down)).setCell ⟨s0, 2, none⟩ (.slice d9.fA d9.fn d9.fc)).setCell ⟨s0, 3, none⟩ (.slice d9.pA d9.pn d9.pc)).setCell ⟨s0, 4, none⟩ (.int .i64 p.room)).setCell ⟨s0, 5, none⟩ (.int .i64 p.steps)).setCell ⟨s0, 6, none⟩ (.int .i64 p.crash)).setCell ⟨s0, 7, none⟩ (.int .i64 p.starts))) f 137 #[.string s, .string (strOf l), .string (strOf (p1.kept s))] := HF9.out.keep (kp8 (S := OnB s0) (Kp.refl _ w9) (.inr rfl)) (fun q => by have q' : f = s0 := q; have := HLF.out; omega)
      have kz0 : w.heap.size ≤ s0 := by have := HS0.out; omega
      have hb4 : Blk (((((((((w9.setCell ⟨s0, 0, none⟩ (.bool true)).setCell ⟨s0, 1, none⟩ (.bool p.down)).setCell ⟨s0, 2, none⟩ (.slice d9.fA d9.fn d9.fc)).setCell ⟨s0, 3, none⟩ (.slice d9.pA d9.pn d9.pc)).setCell ⟨s0, 4, none⟩ (.int .i64 p.room)).setCell ⟨s0, 5, none⟩ (.int .i64 p.steps)).setCell ⟨s0, 6, none⟩ (.int .i64 p.crash)).setCell ⟨s0, 7, none⟩ (.int .i64 p.starts))) s0 56 (rdC d9 p) := blk8 HB0.out rfl
      have hq4 : Kp (OnB s0) w9 (((((((((w9.setCell ⟨s0, 0, none⟩ (.bool true)).setCell ⟨s0, 1, none⟩ (.bool p.down)).setCell ⟨s0, 2, none⟩ (.slice d9.fA d9.fn d9.fc)).setCell ⟨s0, 3, none⟩ (.slice d9.pA d9.pn d9.pc)).setCell ⟨s0, 4, none⟩ (.int .i64 p.room)).setCell ⟨s0, 5, none⟩ (.int .i64 p.steps)).setCell ⟨s0, 6, none⟩ (.int .i64 p.crash)).setCell ⟨s0, 7, none⟩ (.int .i64 p.starts))) := kp8 (Kp.refl _ w9) (.inr rfl)
      have hr4 : Rf (((((((((w9.setCell ⟨s0, 0, none⟩ (.bool true)).setCell ⟨s0, 1, none⟩ (.bool p.down)).setCell ⟨s0, 2, none⟩ (.slice d9.fA d9.fn d9.fc)).setCell ⟨s0, 3, none⟩ (.slice d9.pA d9.pn d9.pc)).setCell ⟨s0, 4, none⟩ (.int .i64 p.room)).setCell ⟨s0, 5, none⟩ (.int .i64 p.steps)).setCell ⟨s0, 6, none⟩ (.int .i64 p.crash)).setCell ⟨s0, 7, none⟩ (.int .i64 p.starts))) d9 (p1.at_.setSeen s l) := (HR9.out).keepB hq4 HB0.out (rdC_str _ _)
      have hz4 : Blk (((((((((w9.setCell ⟨s0, 0, none⟩ (.bool true)).setCell ⟨s0, 1, none⟩ (.bool p.down)).setCell ⟨s0, 2, none⟩ (.slice d9.fA d9.fn d9.fc)).setCell ⟨s0, 3, none⟩ (.slice d9.pA d9.pn d9.pc)).setCell ⟨s0, 4, none⟩ (.int .i64 p.room)).setCell ⟨s0, 5, none⟩ (.int .i64 p.steps)).setCell ⟨s0, 6, none⟩ (.int .i64 p.crash)).setCell ⟨s0, 7, none⟩ (.int .i64 p.starts))) (s0 + 1) 56 rdZ := HB2.out.keep hq4 (fun q => by have q' : s0 + 1 = s0 := q; omega)
      have hw4 : Kp NoB w (((((((((w9.setCell ⟨s0, 0, none⟩ (.bool true)).setCell ⟨s0, 1, none⟩ (.bool p.down)).setCell ⟨s0, 2, none⟩ (.slice d9.fA d9.fn d9.fc)).setCell ⟨s0, 3, none⟩ (.slice d9.pA d9.pn d9.pc)).setCell ⟨s0, 4, none⟩ (.int .i64 p.room)).setCell ⟨s0, 5, none⟩ (.int .i64 p.steps)).setCell ⟨s0, 6, none⟩ (.int .i64 p.crash)).setCell ⟨s0, 7, none⟩ (.int .i64 p.starts))) := kp8 HK.out (.inl kz0)
      clear hq4 HB0 HB2 HK
      generalize ((((((((w9.setCell ⟨s0, 0, none⟩ (.bool true)).setCell ⟨s0, 1, none⟩ (.bool p.down)).setCell ⟨s0, 2, none⟩ (.slice d9.fA d9.fn d9.fc)).setCell ⟨s0, 3, none⟩ (.slice d9.pA d9.pn d9.pc)).setCell ⟨s0, 4, none⟩ (.int .i64 p.room)).setCell ⟨s0, 5, none⟩ (.int .i64 p.steps)).setCell ⟨s0, 6, none⟩ (.int .i64 p.crash)).setCell ⟨s0, 7, none⟩ (.int .i64 p.starts)) = w10 at hb4 hr4 hz4 hw4 hfx ⊢
      have HB0 := Lib.hid hb4
      have HB2 := Lib.hid hz4
      have HK := Lib.hid hw4
      have HR := Lib.hid hr4
      clear hb4 hz4 hw4 hr4 c0 c1 c2 c3 c4 c5 c6 c7 y0 y1 y2 y3 y4 y5 y6 y7 z0 z1 z2 z3 z4 z5 z6 z7 hl0 hl2 kz0
      have hl0 := HB0.out.lt
      have hl2 := HB2.out.lt
      obtain ⟨c0, c1, c2, c3, c4, c5, c6, c7⟩ := HB0.out.rdc
      obtain ⟨y0, y1, y2, y3, y4, y5, y6, y7⟩ := HB2.out.c8
      obtain ⟨z0, z1, z2, z3, z4, z5, z6, z7⟩ := HB2.out.z8
      have HFX := Lib.hid hfx
      clear hfx
      have HQ0 : Hid ((A : Int) / 64 = ((A / 64 : Nat) : Int)) := Lib.hid (by omega)
      have HL2 := Lib.hid hll2
      clear hll2
      have hls2 := strOf_size l
      go_wp2_with fail
      go_loopw [14, 15] (fun v14 v15 wr => WtRel w s0 f p (p1.at_.setSeen s l) s l (p1.kept s) (A / 64) ((E + 63) / 64) v14 wr) (fun v _ _ => (E + 63) / 64 - (intOf v).toNat)
      case atStart => exact ⟨A / 64, d9, by rw [HQ0.out], Nat.le_refl _, by omega, HB0.out, by rw [secs_zero, pend_nil]; exact HR.out, HB2.out, HFX.out, HK.out⟩
      case round =>
        obtain ⟨wq, rfl⟩ : ∃ wq, wq = wr := ⟨_, rfl⟩
        obtain ⟨k, dk, rfl, hk0, hk1, hb0, hr, hb2, hbf, hkp⟩ := hrel
        have XB0 := Lib.hid hb0
        have XR := Lib.hid hr
        have XB2 := Lib.hid hb2
        have XF := Lib.hid hbf
        have XK := Lib.hid hkp
        have XK0 := Lib.hid hk0
        have XK1 := Lib.hid hk1
        obtain ⟨kk, hkk⟩ : ∃ kk, k * 64 = kk := ⟨_, rfl⟩
        have HKK := Lib.hid hkk
        have hwm : IntKind.i64.wrap ((k : Int) * 64) = (kk : Int) := by rw [IntKind.wrap_i64]; omega
        clear hb0 hr hb2 hbf hkp hk0 hk1 hkk
        obtain ⟨d0, d1, d2⟩ := XF.out.c3
        by_cases hlt : kk < E
        · have hlt' : (kk : Int) < (E : Int) := by omega
          have hkl : kk ≤ l.length := by have := HL2.out; omega
          have hl63' : l.length ≤ 9223372036854775807 := by have := HL2.out; omega
          have x1 : ((strOf l).extract kk l.length).size = l.length - kk := by rw [ByteArray.size_extract]; omega
          have y1' : (strOf l).extract kk l.length = strOf (l.drop kk) := by rw [strOf_sub, List.take_of_length_le (by simp)]
          go_upto_region 24 with fail
          clear x1 y1' d0 d1 d2
          obtain ⟨c0, c1, c2, c3, c4, c5, c6, c7⟩ := XB0.out.rdc
          obtain ⟨z0, z1, z2, z3, z4, z5, z6, z7⟩ := XB0.out.z8
          have HSZ9 : Hid (∀ V, Kp NoB wq V → Calls Try.prog 139 #[.string (strOf (l.drop kk)), .int .i64 64] V fun e w' => e = .returned (.string (strOf (sizedF (l.drop kk) 64))) ∧ Kp NoB V w') := Lib.hid (fun V _ => sized_ok V (l.drop kk) 64 (by rw [List.length_drop]; have := HL2.out; omega) (by omega))
          have HCH9 : Hid (∀ V, Kp NoB wq V → Calls Try.prog 138 #[rdV dk p, .agg #[.string s, .int .i64 (k : Int), .int .i64 0, .string (strOf (sizedF (l.drop kk) 64))]] V fun e w' => ∃ d', e = .returned (rdV d' p) ∧ Rf w' d' ((p1.at_.setSeen s l).pend (secs s l (A / 64) (k + 1))) ∧ Kp NoB V w') := Lib.hid (fun V hV => by
            have hrv : ∀ d', rdV d' ((p1.at_.setSeen s l).pend (secs s l (A / 64) k)) = rdV d' p := fun d' => by rw [HRV.out d']; rfl
            have h1 := change_okR V dk ((p1.at_.setSeen s l).pend (secs s l (A / 64) k)) ⟨s, (k : Int), 0, sizedF (l.drop kk) 64⟩ (XR.out.keep hV) ⟨.inr ⟨sizedF_len _ _, by show (0 : Int) ≤ (k : Int); omega, by show (k : Int) ≤ 16384; have := HKK.out; omega, rfl⟩, fun y hy => sizedF_rng (fun x hx => HLR.out x (List.mem_of_mem_drop hx)) 64 y hy, HS.out⟩ (by
              show (p1.pd ++ secs s l (A / 64) k).length < _
              rw [List.length_append, secs_len]
              have := HPD1.out
              have := HKK.out
              omega)
            rw [hrv] at h1
            refine h1.mono ?_
            rintro e w' ⟨d', rfl, h2, h3⟩
            refine ⟨d', by rw [hrv], ?_, h3⟩
            rw [pend_pend] at h2
            rw [secs_next s l XK0.out, HKK.out]
            exact h2)
          apply wp_into4 (G := fun V g h u v => ∃ d' W', u = rdV d' p ∧ V = (((((((((W'.setCell ⟨s0, 0, none⟩ (.bool true)).setCell ⟨s0, 1, none⟩ (.bool p.down)).setCell ⟨s0, 2, none⟩ (.slice d'.fA d'.fn d'.fc)).setCell ⟨s0, 3, none⟩ (.slice d'.pA d'.pn d'.pc)).setCell ⟨s0, 4, none⟩ (.int .i64 p.room)).setCell ⟨s0, 5, none⟩ (.int .i64 p.steps)).setCell ⟨s0, 6, none⟩ (.int .i64 p.crash)).setCell ⟨s0, 7, none⟩ (.int .i64 p.starts))) ∧ Rf W' d' ((p1.at_.setSeen s l).pend (secs s l (A / 64) (k + 1))) ∧ Kp NoB wq W')
          · obtain ⟨gg, hgg⟩ : ∃ gg : Nat, gg = 0 := ⟨_, rfl⟩
            obtain ⟨hh, hhh⟩ : ∃ gg : Nat, gg = 0 := ⟨_, rfl⟩
            obtain ⟨vv, hvv⟩ : ∃ vv : Value, vv = .bool true := ⟨_, rfl⟩
            refine wp_region_held_drew (S := fun _ => True) (by kernel_rfl) trivial (fun hHeld => ?_)
            have k0 : Kp NoB wq wq.drew := (Kp.refl NoB wq).drew
            generalize wq.drew = V0 at k0 hHeld ⊢
            refine tkS (i := 1) (v := (.string s)) rfl (Or.inl ⟨by rfl, fun w' hq => by go_simp⟩) trivial ?_
            simp only [Act.put, skA, skB, skC]
            refine tkS (i := 2) (v := (.int .i64 (k : Int))) rfl (Or.inl ⟨by rfl, fun w' hq => by go_simp⟩) trivial ?_
            simp only [Act.put, skA, skB, skC]
            refine tkS (i := 3) (v := (.string (strOf (l.drop kk)))) rfl (Or.inl ⟨by rfl, fun w' hq => by go_simp⟩) trivial ?_
            simp only [Act.put, skA, skB, skC]
            refine wpAnyH_ready (rs := [0, 4]) (by kernel_rfl) (by simp) ?_
            refine AllReadyH.valR (fun W' => V0 = W') rfl (by rfl) (rdV dk p) _ (by (obtain ⟨c0, c1, c2, c3, c4, c5, c6, c7⟩ := (XB0.out.keep k0 (fun q => q)).rdc; unfold rdV; go_simp)) (fun _ _ => trivial) rfl ?_ ?_
            · rintro _ rfl
              simp only [Act.put, skA, skB, skC]
              refine wpAnyH_ready (rs := [4]) (by kernel_rfl) (by simp) ?_
              refine AllReadyH.callR (fun x W' => x = .string (strOf (sizedF (l.drop kk) 64)) ∧ Kp NoB wq W') rfl (by rfl) 139 #[.string (strOf (l.drop kk)), .int .i64 64] (by first | (go_simp; done) | (go_simp; rfl)) (fun _ _ q => trivial) ((HSZ9.out V0 k0).mono (by rintro e w' ⟨rfl, hk⟩; exact ⟨_, rfl, rfl, k0.trans hk (fun _ _ q => q)⟩)) ?_ AllReadyH.nil
              rintro x V1 ⟨rfl, k1⟩
              simp only [Act.put, skA, skB, skC]
              refine tkS (i := 5) (v := (.agg #[.string s, .int .i64 (k : Int), .int .i64 0, .string (strOf (sizedF (l.drop kk) 64))])) rfl (Or.inl ⟨by rfl, fun w' hq => by go_simp⟩) trivial ?_
              simp only [Act.put, skA, skB, skC]
              refine wpAnyH_ready (rs := [6]) (by kernel_rfl) (by simp) ?_
              refine AllReadyH.callR (fun x W' => ∃ d', x = rdV d' p ∧ Rf W' d' ((p1.at_.setSeen s l).pend (secs s l (A / 64) (k + 1))) ∧ Kp NoB wq W') rfl (by rfl) 138 #[rdV dk p, .agg #[.string s, .int .i64 (k : Int), .int .i64 0, .string (strOf (sizedF (l.drop kk) 64))]] (by first | (go_simp; done) | (go_simp; rfl)) (fun _ _ q => trivial) ((HCH9.out V1 k1).mono (by rintro e w' ⟨d', rfl, h2, hk⟩; exact ⟨_, rfl, d', rfl, h2, (k1).trans hk (fun _ _ q => q)⟩)) ?_ AllReadyH.nil
              rintro x V2 ⟨d', rfl, h2, k2⟩
              simp only [Act.put, skA, skB, skC]
              refine wpAnyH_ready (rs := [7]) (by kernel_rfl) (by simp) ?_
              refine AllReadyH.skipR rfl (by rfl) (((((((((V2.setCell ⟨s0, 0, none⟩ (.bool true)).setCell ⟨s0, 1, none⟩ (.bool p.down)).setCell ⟨s0, 2, none⟩ (.slice d'.fA d'.fn d'.fc)).setCell ⟨s0, 3, none⟩ (.slice d'.pA d'.pn d'.pc)).setCell ⟨s0, 4, none⟩ (.int .i64 p.room)).setCell ⟨s0, 5, none⟩ (.int .i64 p.steps)).setCell ⟨s0, 6, none⟩ (.int .i64 p.crash)).setCell ⟨s0, 7, none⟩ (.int .i64 p.starts))) (by (obtain ⟨c0, c1, c2, c3, c4, c5, c6, c7⟩ := (XB0.out.keep k2 (fun q => q)).rdc; obtain ⟨z0, z1, z2, z3, z4, z5, z6, z7⟩ := (XB0.out.keep k2 (fun q => q)).z8; unfold rdV; go_simp)) trivial ?_ AllReadyH.nil
              refine wpAnyH_done (by kernel_rfl) ?_ _
              obtain ⟨uu, huu⟩ : ∃ uu, rdV d' p = uu := ⟨_, rfl⟩
              rw [huu]
              exact into4_of gg hh uu vv ⟨d', V2, huu.symm, rfl, h2, k2⟩ rfl
            · refine AllReadyH.callR (fun x W' => x = .string (strOf (sizedF (l.drop kk) 64)) ∧ Kp NoB wq W') rfl (by rfl) 139 #[.string (strOf (l.drop kk)), .int .i64 64] (by first | (go_simp; done) | (go_simp; rfl)) (fun _ _ q => trivial) ((HSZ9.out V0 k0).mono (by rintro e w' ⟨rfl, hk⟩; exact ⟨_, rfl, rfl, k0.trans hk (fun _ _ q => q)⟩)) ?_ AllReadyH.nil
              rintro x V1 ⟨rfl, k1⟩
              simp only [Act.put, skA, skB, skC]
              refine tkS (i := 5) (v := (.agg #[.string s, .int .i64 (k : Int), .int .i64 0, .string (strOf (sizedF (l.drop kk) 64))])) rfl (Or.inl ⟨by rfl, fun w' hq => by go_simp⟩) trivial ?_
              simp only [Act.put, skA, skB, skC]
              refine wpAnyH_ready (rs := [0]) (by kernel_rfl) (by simp) ?_
              refine AllReadyH.valR (fun W' => V1 = W') rfl (by rfl) (rdV dk p) _ (by (obtain ⟨c0, c1, c2, c3, c4, c5, c6, c7⟩ := (XB0.out.keep k1 (fun q => q)).rdc; unfold rdV; go_simp)) (fun _ _ => trivial) rfl ?_ AllReadyH.nil
              rintro _ rfl
              simp only [Act.put, skA, skB, skC]
              refine wpAnyH_ready (rs := [6]) (by kernel_rfl) (by simp) ?_
              refine AllReadyH.callR (fun x W' => ∃ d', x = rdV d' p ∧ Rf W' d' ((p1.at_.setSeen s l).pend (secs s l (A / 64) (k + 1))) ∧ Kp NoB wq W') rfl (by rfl) 138 #[rdV dk p, .agg #[.string s, .int .i64 (k : Int), .int .i64 0, .string (strOf (sizedF (l.drop kk) 64))]] (by first | (go_simp; done) | (go_simp; rfl)) (fun _ _ q => trivial) ((HCH9.out V1 k1).mono (by rintro e w' ⟨d', rfl, h2, hk⟩; exact ⟨_, rfl, d', rfl, h2, (k1).trans hk (fun _ _ q => q)⟩)) ?_ AllReadyH.nil
              rintro x V2 ⟨d', rfl, h2, k2⟩
              simp only [Act.put, skA, skB, skC]
              refine wpAnyH_ready (rs := [7]) (by kernel_rfl) (by simp) ?_
              refine AllReadyH.skipR rfl (by rfl) (((((((((V2.setCell ⟨s0, 0, none⟩ (.bool true)).setCell ⟨s0, 1, none⟩ (.bool p.down)).setCell ⟨s0, 2, none⟩ (.slice d'.fA d'.fn d'.fc)).setCell ⟨s0, 3, none⟩ (.slice d'.pA d'.pn d'.pc)).setCell ⟨s0, 4, none⟩ (.int .i64 p.room)).setCell ⟨s0, 5, none⟩ (.int .i64 p.steps)).setCell ⟨s0, 6, none⟩ (.int .i64 p.crash)).setCell ⟨s0, 7, none⟩ (.int .i64 p.starts))) (by (obtain ⟨c0, c1, c2, c3, c4, c5, c6, c7⟩ := (XB0.out.keep k2 (fun q => q)).rdc; obtain ⟨z0, z1, z2, z3, z4, z5, z6, z7⟩ := (XB0.out.keep k2 (fun q => q)).z8; unfold rdV; go_simp)) trivial ?_ AllReadyH.nil
              refine wpAnyH_done (by kernel_rfl) ?_ _
              obtain ⟨uu, huu⟩ : ∃ uu, rdV d' p = uu := ⟨_, rfl⟩
              rw [huu]
              exact into4_of gg hh uu vv ⟨d', V2, huu.symm, rfl, h2, k2⟩ rfl
          · rintro g h u v V ⟨d', W', rfl, hV, hR, hK⟩
            have hkW : Kp NoB wq W' := hK
            have hq : Kp (OnB s0) W' V := by rw [hV]; exact kp8 (Kp.refl _ W') (.inr rfl)
            have yb0 := XB0.out.keep hkW (fun q => q)
            have e0 : Blk V s0 56 (rdC d' p) := by rw [hV]; exact blk8 yb0 rfl
            have eR : Rf V d' ((p1.at_.setSeen s l).pend (secs s l (A / 64) (k + 1))) := hR.keepB hq yb0 (rdC_str _ _)
            have e2 : Blk V (s0 + 1) 56 rdZ := (XB2.out.keep hkW (fun q => q)).keep hq (fun q => by have q' : s0 + 1 = s0 := q; omega)
            have eF := (XF.out.keep hkW (fun q => q)).keep hq (fun q => by have q' : f = s0 := q; have := HLF.out; omega)
            have eK : Kp NoB w V := by rw [hV]; exact kp8 (XK.out.trans hkW (fun _ _ q => q)) (.inl (by have := HS0.out; omega))
            have E9 := Lib.hid (show WtRel w s0 f p (p1.at_.setSeen s l) s l (p1.kept s) (A / 64) ((E + 63) / 64) (.int .i64 ((k + 1 : Nat) : Int)) V from ⟨k + 1, d', rfl, by have := XK0.out; omega, by have := HKK.out; omega, e0, eR, e2, eF, eK⟩)
            clear hV hR hK hkW hq yb0 e0 eR e2 eF eK c0 c1 c2 c3 c4 c5 c6 c7 z0 z1 z2 z3 z4 z5 z6 z7
            have hk16 : k < 1048576 := by have := HKK.out; omega
            go_wp2_with fail
            go_roundw
            case rel => exact E9.out
            case measure => simp [intOf]; have := HKK.out; omega
        · have hlt' : ¬ (kk : Int) < (E : Int) := by omega
          have hke : k = (E + 63) / 64 := by have := HKK.out; have := XK1.out; omega
          have EW : Hid (p.write1 s A (strI D) = ((p1.at_.setSeen s l).pend (secs s l (A / 64) k)).step ∧ p.stepE = ((p1.at_.setSeen s l).pend (secs s l (A / 64) k)).stepE) := Lib.hid (by
            constructor
            · show (((if (p.seen s).length < A + (strI D).length then p.length s (A + (strI D).length) else p).at_.setSeen s (Pl.put ((if (p.seen s).length < A + (strI D).length then p.length s (A + (strI D).length) else p).seen s) A (strI D))).pend (Pl.sectors s (Pl.put ((if (p.seen s).length < A + (strI D).length then p.length s (A + (strI D).length) else p).seen s) A (strI D)) A (A + (strI D).length))).step = _
              rw [HL0.out, HSL.out, HP1.out, HL1.out, HLL.out, hE, ← secs_all, hke]
            · show (if p.crash = 1 then (7 : Int) else 0) = if p1.crash = 1 then 7 else 0
              rw [HNUM.out.2.2.2.1])
          have EV : Hid (rdV dk p = rdV dk ((p1.at_.setSeen s l).pend (secs s l (A / 64) k))) := Lib.hid (by rw [HRV.out dk]; rfl)
          obtain ⟨p3, hp3⟩ : ∃ p3, (p1.at_.setSeen s l).pend (secs s l (A / 64) k) = p3 := ⟨_, rfl⟩
          rw [hp3] at EW EV XR
          clear hke hp3 d0 d1 d2
          obtain ⟨c0, c1, c2, c3, c4, c5, c6, c7⟩ := XB0.out.rdc
          go_wp2_with fail
          refine (show Calls _ _ #[rdV dk p] _ _ from by rw [EV.out]; exact step_okR wq dk p3 XR.out).mono ?_
          rintro e w11 ⟨rfl, h11, hk11⟩
          have HR11 := Lib.hid h11
          have YB2 := Lib.hid (XB2.out.keep hk11 (fun q => q))
          have YK := Lib.hid (XK.out.trans hk11 (fun _ _ q => q))
          clear h11 hk11 c0 c1 c2 c3 c4 c5 c6 c7
          obtain ⟨y0, y1, y2, y3, y4, y5, y6, y7⟩ := YB2.out.c8
          obtain ⟨z0, z1, z2, z3, z4, z5, z6, z7⟩ := YB2.out.z8
          unfold rdV
          go_wp2_with fail
          refine bodyPost_ret (ret_cell_tmp rfl _ _ _ _ _ _ rfl (blk8 YB2.out rfl) Try.underlying56 rfl (by exact infoRd) _ rfl) rfl ⟨dk, by rw [EW.out.1, EW.out.2]; rfl, ?_, kp8 YK.out (.inl kz)⟩
          rw [EW.out.1]
          exact HR11.out.keepB (kp8 (Kp.refl _ w11) (.inr rfl)) YB2.out rdZ_str
  · have g1 : (A : Int) + (n : Int) < (l0.length : Int) := by omega
    have g2 : ¬ (l0.length : Int) < (A : Int) + (n : Int) := by omega
    have HFM : Hid (p.fits s ((l0.length : Int)) = 0) := Lib.hid (by have := HFT.out; rwa [show max ((A : Int) + n) (l0.length : Int) = (l0.length : Int) by omega] at this)
    have hP : Hid (p = p1) := Lib.hid (by have := HP1.out; rwa [if_neg (by omega)] at this)
    clear hg
    unfold rdV
    go_enter Try.func79, Try.ntmps79
    go_wp2_with fail
    refine (show Calls _ _ #[rdV d p] _ _ from wrong_okR _ d p (H.out.keep hk)).mono ?_
    rintro e w2 ⟨rfl, hk2⟩
    rw [hw.out]
    have HB0 := Lib.hid (hb0.keep hk2 (fun q => q))
    have HB2 := Lib.hid (hb2.keep hk2 (fun q => q))
    have HK := Lib.hid (hk.trans hk2 (fun _ _ q => q))
    clear hb0 hb2 hk hk2
    generalize hs0 : w.heap.size = s0 at HB0 HB2 ⊢
    have HS0 := Lib.hid hs0
    have kz : w.heap.size ≤ s0 + 1 := by omega
    clear hs0
    have hl0 := HB0.out.lt
    have hl2 := HB2.out.lt
    obtain ⟨c0, c1, c2, c3, c4, c5, c6, c7⟩ := HB0.out.rdc
    obtain ⟨y0, y1, y2, y3, y4, y5, y6, y7⟩ := HB2.out.c8
    obtain ⟨z0, z1, z2, z3, z4, z5, z6, z7⟩ := HB2.out.z8
    go_wp2_with fail
    refine (show Calls _ _ #[rdV d p, .string s] _ _ from seen_ok _ d p s (H.out.keep HK.out) (by have := HNF.out; omega)).mono ?_
    rintro e w3 ⟨rfl, hk3⟩
    rw [HL0.out]
    have HB0' := Lib.hid (HB0.out.keep hk3 (fun q => q))
    have HB2' := Lib.hid (HB2.out.keep hk3 (fun q => q))
    have HK' := Lib.hid (HK.out.trans hk3 (fun _ _ q => q))
    clear hk3 HB0 HB2 HK
    have HB0 := HB0'
    have HB2 := HB2'
    have HK := HK'
    clear HB0' HB2' HK' c0 c1 c2 c3 c4 c5 c6 c7 y0 y1 y2 y3 y4 y5 y6 y7 z0 z1 z2 z3 z4 z5 z6 z7 hl0 hl2
    have hl0 := HB0.out.lt
    have hl2 := HB2.out.lt
    obtain ⟨c0, c1, c2, c3, c4, c5, c6, c7⟩ := HB0.out.rdc
    obtain ⟨y0, y1, y2, y3, y4, y5, y6, y7⟩ := HB2.out.c8
    obtain ⟨z0, z1, z2, z3, z4, z5, z6, z7⟩ := HB2.out.z8
    go_wp2_with fail
    refine (show Calls _ _ #[rdV d p, .string s, .int .i64 ((l0.length : Int))] _ _ from fits_okR _ d p s _ (H.out.keep HK.out) (by have := HNF.out; omega) (by omega)).mono ?_
    rintro e w4 ⟨rfl, hk4⟩
    rw [HFM.out]
    have HB0' := Lib.hid (HB0.out.keep hk4 (fun q => q))
    have HB2' := Lib.hid (HB2.out.keep hk4 (fun q => q))
    have HK' := Lib.hid (HK.out.trans hk4 (fun _ _ q => q))
    clear hk4 HB0 HB2 HK
    have HB0 := HB0'
    have HB2 := HB2'
    have HK := HK'
    clear HB0' HB2' HK' c0 c1 c2 c3 c4 c5 c6 c7 y0 y1 y2 y3 y4 y5 y6 y7 z0 z1 z2 z3 z4 z5 z6 z7 hl0 hl2
    have hl0 := HB0.out.lt
    have hl2 := HB2.out.lt
    obtain ⟨c0, c1, c2, c3, c4, c5, c6, c7⟩ := HB0.out.rdc
    obtain ⟨y0, y1, y2, y3, y4, y5, y6, y7⟩ := HB2.out.c8
    obtain ⟨z0, z1, z2, z3, z4, z5, z6, z7⟩ := HB2.out.z8
    go_upto_region 17 with fail
    have HR : Hid (Rf w4 d p1) := Lib.hid (by rw [← hP.out]; exact H.out.keep HK.out)
    go_wp2_with fail
    refine (show Calls _ _ #[rdV d p, .string s] _ _ from by rw [HRV.out]; exact file_ok _ d p1 s HR.out HNF1.out).mono ?_
    rintro e w7 ⟨rfl, hk7⟩
    have HR7 := Lib.hid (HR.out.keep hk7)
    have hl1L := (HR7.out.look s).1.1
    have HL1R := Lib.hid (HR7.out.look s).1.2
    have HK1R := Lib.hid (HR7.out.look s).2
    rw [HL1.out] at hl1L HL1R ⊢
    have hl1s := strOf_size l1
    clear HR
    have HB0' := Lib.hid (HB0.out.keep hk7 (fun q => q))
    have HB2' := Lib.hid (HB2.out.keep hk7 (fun q => q))
    have HK' := Lib.hid (HK.out.trans hk7 (fun _ _ q => q))
    clear hk7 HB0 HB2 HK
    have HB0 := HB0'
    have HB2 := HB2'
    have HK := HK'
    clear HB0' HB2' HK' c0 c1 c2 c3 c4 c5 c6 c7 y0 y1 y2 y3 y4 y5 y6 y7 z0 z1 z2 z3 z4 z5 z6 z7 hl0 hl2
    have hl0 := HB0.out.lt
    have hl2 := HB2.out.lt
    obtain ⟨c0, c1, c2, c3, c4, c5, c6, c7⟩ := HB0.out.rdc
    obtain ⟨y0, y1, y2, y3, y4, y5, y6, y7⟩ := HB2.out.c8
    obtain ⟨z0, z1, z2, z3, z4, z5, z6, z7⟩ := HB2.out.z8
    unfold fileV
    have hlf : ∀ g, g < w7.heap.size → g ≠ w7.heap.size := fun g q e => by omega
    go_upto_region 18 with fail
    obtain ⟨E, hE⟩ : ∃ E : Nat, A + n = E := ⟨_, rfl⟩
    have hEE : (A : Int) + (n : Int) = (E : Int) := by omega
    rw [hEE]
    have hk8 : Kp NoB w7 (w7.alloc (.cells #[.string s, .string (strOf l1), .string (strOf (p1.kept s))] 137)) := (Kp.refl NoB w7).alloc _
    have hf8 : Blk (w7.alloc (.cells #[.string s, .string (strOf l1), .string (strOf (p1.kept s))] 137)) w7.heap.size 137 #[.string s, .string (strOf l1), .string (strOf (p1.kept s))] := Blk.new _ _ _
    have hl8 : (w7.alloc (.cells #[.string s, .string (strOf l1), .string (strOf (p1.kept s))] 137)).heap.size = w7.heap.size + 1 := by simp
    generalize w7.alloc (.cells #[.string s, .string (strOf l1), .string (strOf (p1.kept s))] 137) = w8 at hk8 hf8 hl8 ⊢
    generalize hff : w7.heap.size = f at hf8 hl8 hl0 hl2 ⊢
    have HFF := Lib.hid hff
    have HF8 := Lib.hid hf8
    have HL8 := Lib.hid hl8
    have HK8 := Lib.hid hk8
    have hE0 : E ≤ l1.length := by omega
    have x1 : ((strOf l1).extract 0 A).size = A := by rw [ByteArray.size_extract]; omega
    have x2 : ((strOf l1).extract 0 A ++ D).size = A + n := by rw [ByteArray.size_append, x1, hn]
    have x3 : ((strOf l1).extract E l1.length).size = l1.length - E := by rw [ByteArray.size_extract]; omega
    have hA0 : A ≤ l1.length := by omega
    have hput : (strOf l1).extract 0 A ++ D ++ (strOf l1).extract E l1.length = strOf (Pl.put l1 A (strI D)) := by
      unfold Pl.put
      rw [strOf_app, strOf_app, strOf_strIW, strOf_sub, strOf_sub, List.drop_zero, Nat.sub_zero, HSL.out, hE, show (l1.drop E).take (l1.length - E) = l1.drop E from List.take_of_length_le (by rw [List.length_drop]; exact Nat.le_refl _)]
    have hE63 : E ≤ 9223372036854775807 := by omega
    have hA63 : A ≤ 9223372036854775807 := by omega
    have hl63 : l1.length ≤ 9223372036854775807 := by omega
    have HPUT := Lib.hid hput
    clear hff hlf hk8 hput hEE c0 c1 c2 c3 c4 c5 c6 c7 y0 y1 y2 y3 y4 y5 y6 y7 z0 z1 z2 z3 z4 z5 z6 z7
    apply wp_into (G := fun V g => V = w8.drew.setCell ⟨f, 1, none⟩ (.string (strOf (Pl.put l1 A (strI D)))))
    · obtain ⟨gg, hgg⟩ : ∃ gg : Nat, gg = 0 := ⟨_, rfl⟩
      refine wp_region_held_drew (S := fun _ => True) (by kernel_rfl) trivial (fun hHeld => ?_)
      have d1 := hf8.cell 1
      have f1 := hf8.frozen 1
      have d1' : w8.drew.cell? ⟨f, 1, none⟩ = some (.string (strOf l1)) := d1
      refine tkS (i := 0) (v := (.pointer (some ⟨f, 1, none⟩))) rfl (Or.inl ⟨by rfl, fun w' hq => by go_simp⟩) trivial ?_
      simp only [Act.put, skA, skB, skC]
      refine tkS (i := 2) (v := (.int .i64 (A : Int))) rfl (Or.inl ⟨by rfl, fun w' hq => by go_simp⟩) trivial ?_
      simp only [Act.put, skA, skB, skC]
      refine tkS (i := 4) (v := (.string D)) rfl (Or.inl ⟨by rfl, fun w' hq => by go_simp⟩) trivial ?_
      simp only [Act.put, skA, skB, skC]
      refine tkS (i := 6) (v := (.pointer (some ⟨f, 1, none⟩))) rfl (Or.inl ⟨by rfl, fun w' hq => by go_simp⟩) trivial ?_
      simp only [Act.put, skA, skB, skC]
      refine tkS (i := 8) (v := (.int .i64 (E : Int))) rfl (Or.inl ⟨by rfl, fun w' hq => by go_simp⟩) trivial ?_
      simp only [Act.put, skA, skB, skC]
      refine wpAnyH_ready (rs := [1, 7]) (by kernel_rfl) (by simp) ?_
      refine AllReadyH.valR (fun W' => w8.drew = W') rfl (by rfl) (.string (strOf l1)) _ (by go_simp) (fun _ _ => trivial) rfl ?_ ?_
      · rintro _ rfl
        simp only [Act.put, skA, skB, skC]
        refine tkS (i := 3) (v := (.string ((strOf l1).extract 0 A))) rfl (Or.inl ⟨by rfl, fun w' hq => by go_simp⟩) trivial ?_
        simp only [Act.put, skA, skB, skC]
        refine tkS (i := 5) (v := (.string ((strOf l1).extract 0 A ++ D))) rfl (Or.inl ⟨by rfl, fun w' hq => by go_simp⟩) trivial ?_
        simp only [Act.put, skA, skB, skC]
        refine wpAnyH_ready (rs := [7]) (by kernel_rfl) (by simp) ?_
        refine AllReadyH.valR (fun W' => w8.drew = W') rfl (by rfl) (.string (strOf l1)) _ (by go_simp) (fun _ _ => trivial) rfl ?_ AllReadyH.nil
        rintro _ rfl
        simp only [Act.put, skA, skB, skC]
        refine tkS (i := 9) (v := (.string ((strOf l1).extract E l1.length))) rfl (Or.inl ⟨by rfl, fun w' hq => by go_simp⟩) trivial ?_
        simp only [Act.put, skA, skB, skC]
        refine tkS (i := 10) (v := (.string ((strOf l1).extract 0 A ++ D ++ (strOf l1).extract E l1.length))) rfl (Or.inl ⟨by rfl, fun w' hq => by go_simp⟩) trivial ?_
        simp only [Act.put, skA, skB, skC]
        refine tkS (i := 11) (v := (.pointer (some ⟨f, 1, none⟩))) rfl (Or.inl ⟨by rfl, fun w' hq => by go_simp⟩) trivial ?_
        simp only [Act.put, skA, skB, skC]
        refine wpAnyH_ready (rs := [12]) (by kernel_rfl) (by simp) ?_
        refine AllReadyH.skipR rfl (by rfl) (w8.drew.setCell ⟨f, 1, none⟩ (.string ((strOf l1).extract 0 A ++ D ++ (strOf l1).extract E l1.length))) (by go_simp) trivial ?_ AllReadyH.nil
        refine wpAnyH_done (by kernel_rfl) ?_ _
        exact into_of gg (by rw [HPUT.out]) rfl
      · refine AllReadyH.valR (fun W' => w8.drew = W') rfl (by rfl) (.string (strOf l1)) _ (by go_simp) (fun _ _ => trivial) rfl ?_ AllReadyH.nil
        rintro _ rfl
        simp only [Act.put, skA, skB, skC]
        refine tkS (i := 9) (v := (.string ((strOf l1).extract E l1.length))) rfl (Or.inl ⟨by rfl, fun w' hq => by go_simp⟩) trivial ?_
        simp only [Act.put, skA, skB, skC]
        refine wpAnyH_ready (rs := [1]) (by kernel_rfl) (by simp) ?_
        refine AllReadyH.valR (fun W' => w8.drew = W') rfl (by rfl) (.string (strOf l1)) _ (by go_simp) (fun _ _ => trivial) rfl ?_ AllReadyH.nil
        rintro _ rfl
        simp only [Act.put, skA, skB, skC]
        refine tkS (i := 3) (v := (.string ((strOf l1).extract 0 A))) rfl (Or.inl ⟨by rfl, fun w' hq => by go_simp⟩) trivial ?_
        simp only [Act.put, skA, skB, skC]
        refine tkS (i := 5) (v := (.string ((strOf l1).extract 0 A ++ D))) rfl (Or.inl ⟨by rfl, fun w' hq => by go_simp⟩) trivial ?_
        simp only [Act.put, skA, skB, skC]
        refine tkS (i := 10) (v := (.string ((strOf l1).extract 0 A ++ D ++ (strOf l1).extract E l1.length))) rfl (Or.inl ⟨by rfl, fun w' hq => by go_simp⟩) trivial ?_
        simp only [Act.put, skA, skB, skC]
        refine tkS (i := 11) (v := (.pointer (some ⟨f, 1, none⟩))) rfl (Or.inl ⟨by rfl, fun w' hq => by go_simp⟩) trivial ?_
        simp only [Act.put, skA, skB, skC]
        refine wpAnyH_ready (rs := [12]) (by kernel_rfl) (by simp) ?_
        refine AllReadyH.skipR rfl (by rfl) (w8.drew.setCell ⟨f, 1, none⟩ (.string ((strOf l1).extract 0 A ++ D ++ (strOf l1).extract E l1.length))) (by go_simp) trivial ?_ AllReadyH.nil
        refine wpAnyH_done (by kernel_rfl) ?_ _
        exact into_of gg (by rw [HPUT.out]) rfl
    · rintro g V hV
      obtain ⟨l, hl⟩ : ∃ l, Pl.put l1 A (strI D) = l := ⟨_, rfl⟩
      rw [hl] at hV HPUT
      have hll2 : l.length = l1.length := by
        rw [← hl]
        unfold Pl.put
        simp only [List.length_append, List.length_take, List.length_drop, HSL.out]
        omega
      have hlr : ∀ y ∈ l, 0 ≤ y ∧ y < 256 := fun y hy => by
        rw [← hl] at hy
        unfold Pl.put at hy
        rcases List.mem_append.1 hy with q | q
        · rcases List.mem_append.1 q with q | q
          · exact HL1R.out y (List.mem_of_mem_take q)
          · exact strI_rng D y q
        · exact HL1R.out y (List.mem_of_mem_drop q)
      have HLL := Lib.hid hl
      have HLR := Lib.hid hlr
      have hkV : Kp NoB w7 V := by
        rw [hV]
        exact HK8.out.drew.setCell (.inl (by show _ ≤ f; have := HFF.out; omega)) _
      have hfV : Blk V f 137 #[.string s, .string (strOf l), .string (strOf (p1.kept s))] := by
        rw [hV]
        exact HF8.out.drew.set_ 1 _
      have HFV := Lib.hid hfV
      have HRV7 := Lib.hid (HR7.out.keep hkV)
      clear hV hl hlr hfV HF8 HR7 HPUT x1 x2 x3 hf8 hl8
      have HLF := Lib.hid (show s0 < f ∧ s0 + 1 < f from ⟨hl0, hl2⟩)
      clear hl0 hl2
      have HB0' := Lib.hid (HB0.out.keep hkV (fun q => q))
      have HB2' := Lib.hid (HB2.out.keep hkV (fun q => q))
      have HK' := Lib.hid (HK.out.trans hkV (fun _ _ q => q))
      clear hkV HB0 HB2 HK
      have HB0 := HB0'
      have HB2 := HB2'
      have HK := HK'
      clear HB0' HB2' HK'
      have hl0 := HB0.out.lt
      have hl2 := HB2.out.lt
      obtain ⟨c0, c1, c2, c3, c4, c5, c6, c7⟩ := HB0.out.rdc
      obtain ⟨y0, y1, y2, y3, y4, y5, y6, y7⟩ := HB2.out.c8
      obtain ⟨z0, z1, z2, z3, z4, z5, z6, z7⟩ := HB2.out.z8
      obtain ⟨d0, d1, d2⟩ := HFV.out.c3
      have hlV := HFV.out.lt
      go_wp2_with fail
      refine (show Calls _ _ #[rdV d p, .agg (fileV s l (p1.kept s))] _ _ from by rw [HRV.out]; exact with_ok _ d p1 ⟨s, l, p1.kept s⟩ HRV7.out ⟨HS.out, HLR.out, HK1R.out.2, by show l.length ≤ _; omega, HK1R.out.1⟩ HNF1.out).mono ?_
      rintro e w9 ⟨d9, rfl, h9, hk9⟩
      have HR9 : Hid (Rf w9 d9 (p1.at_.setSeen s l)) := Lib.hid (by
        have e9 : (p1.at_.setSeen s l).setKept s (p1.kept s) = p1.at_.setSeen s l := kept_same (p1.at_.setSeen s l) s
        rw [← e9]; exact h9)
      have HF9 := Lib.hid (HFV.out.keep hk9 (fun q => q))
      rw [← HRV.out]
      clear h9 d0 d1 d2 hlV
      have HB0' := Lib.hid (HB0.out.keep hk9 (fun q => q))
      have HB2' := Lib.hid (HB2.out.keep hk9 (fun q => q))
      have HK' := Lib.hid (HK.out.trans hk9 (fun _ _ q => q))
      clear hk9 HB0 HB2 HK
      have HB0 := HB0'
      have HB2 := HB2'
      have HK := HK'
      clear HB0' HB2' HK' c0 c1 c2 c3 c4 c5 c6 c7 y0 y1 y2 y3 y4 y5 y6 y7 z0 z1 z2 z3 z4 z5 z6 z7 hl0 hl2
      have hl0 := HB0.out.lt
      have hl2 := HB2.out.lt
      obtain ⟨c0, c1, c2, c3, c4, c5, c6, c7⟩ := HB0.out.rdc
      obtain ⟨y0, y1, y2, y3, y4, y5, y6, y7⟩ := HB2.out.c8
      obtain ⟨z0, z1, z2, z3, z4, z5, z6, z7⟩ := HB2.out.z8
      obtain ⟨x0, x1, x2, x3, x4, x5, x6, x7⟩ := HB0.out.z8
      unfold rdV
      go_upto_region 20 with fail
      have hfx : Blk (((((((((w9.setCell ⟨s0, 0, none⟩ (.bool true)).setCell ⟨s0, 1, none⟩ (.bool p.down)).setCell ⟨s0, 2, none⟩ (.slice d9.fA d9.fn d9.fc)).setCell ⟨s0, 3, none⟩ (.slice d9.pA d9.pn d9.pc)).setCell ⟨s0, 4, none⟩ (.int .i64 p.room)).setCell ⟨s0, 5, none⟩ (.int .i64 p.steps)).setCell ⟨s0, 6, none⟩ (.int .i64 p.crash)).setCell ⟨s0, 7, none⟩ (.int .i64 p.starts))) f 137 #[.string s, .string (strOf l), .string (strOf (p1.kept s))] := HF9.out.keep (kp8 (S := OnB s0) (Kp.refl _ w9) (.inr rfl)) (fun q => by have q' : f = s0 := q; have := HLF.out; omega)
      have kz0 : w.heap.size ≤ s0 := by have := HS0.out; omega
      have hb4 : Blk (((((((((w9.setCell ⟨s0, 0, none⟩ (.bool true)).setCell ⟨s0, 1, none⟩ (.bool p.down)).setCell ⟨s0, 2, none⟩ (.slice d9.fA d9.fn d9.fc)).setCell ⟨s0, 3, none⟩ (.slice d9.pA d9.pn d9.pc)).setCell ⟨s0, 4, none⟩ (.int .i64 p.room)).setCell ⟨s0, 5, none⟩ (.int .i64 p.steps)).setCell ⟨s0, 6, none⟩ (.int .i64 p.crash)).setCell ⟨s0, 7, none⟩ (.int .i64 p.starts))) s0 56 (rdC d9 p) := blk8 HB0.out rfl
      have hq4 : Kp (OnB s0) w9 (((((((((w9.setCell ⟨s0, 0, none⟩ (.bool true)).setCell ⟨s0, 1, none⟩ (.bool p.down)).setCell ⟨s0, 2, none⟩ (.slice d9.fA d9.fn d9.fc)).setCell ⟨s0, 3, none⟩ (.slice d9.pA d9.pn d9.pc)).setCell ⟨s0, 4, none⟩ (.int .i64 p.room)).setCell ⟨s0, 5, none⟩ (.int .i64 p.steps)).setCell ⟨s0, 6, none⟩ (.int .i64 p.crash)).setCell ⟨s0, 7, none⟩ (.int .i64 p.starts))) := kp8 (Kp.refl _ w9) (.inr rfl)
      have hr4 : Rf (((((((((w9.setCell ⟨s0, 0, none⟩ (.bool true)).setCell ⟨s0, 1, none⟩ (.bool p.down)).setCell ⟨s0, 2, none⟩ (.slice d9.fA d9.fn d9.fc)).setCell ⟨s0, 3, none⟩ (.slice d9.pA d9.pn d9.pc)).setCell ⟨s0, 4, none⟩ (.int .i64 p.room)).setCell ⟨s0, 5, none⟩ (.int .i64 p.steps)).setCell ⟨s0, 6, none⟩ (.int .i64 p.crash)).setCell ⟨s0, 7, none⟩ (.int .i64 p.starts))) d9 (p1.at_.setSeen s l) := (HR9.out).keepB hq4 HB0.out (rdC_str _ _)
      have hz4 : Blk (((((((((w9.setCell ⟨s0, 0, none⟩ (.bool true)).setCell ⟨s0, 1, none⟩ (.bool p.down)).setCell ⟨s0, 2, none⟩ (.slice d9.fA d9.fn d9.fc)).setCell ⟨s0, 3, none⟩ (.slice d9.pA d9.pn d9.pc)).setCell ⟨s0, 4, none⟩ (.int .i64 p.room)).setCell ⟨s0, 5, none⟩ (.int .i64 p.steps)).setCell ⟨s0, 6, none⟩ (.int .i64 p.crash)).setCell ⟨s0, 7, none⟩ (.int .i64 p.starts))) (s0 + 1) 56 rdZ := HB2.out.keep hq4 (fun q => by have q' : s0 + 1 = s0 := q; omega)
      have hw4 : Kp NoB w (((((((((w9.setCell ⟨s0, 0, none⟩ (.bool true)).setCell ⟨s0, 1, none⟩ (.bool p.down)).setCell ⟨s0, 2, none⟩ (.slice d9.fA d9.fn d9.fc)).setCell ⟨s0, 3, none⟩ (.slice d9.pA d9.pn d9.pc)).setCell ⟨s0, 4, none⟩ (.int .i64 p.room)).setCell ⟨s0, 5, none⟩ (.int .i64 p.steps)).setCell ⟨s0, 6, none⟩ (.int .i64 p.crash)).setCell ⟨s0, 7, none⟩ (.int .i64 p.starts))) := kp8 HK.out (.inl kz0)
      clear hq4 HB0 HB2 HK
      generalize ((((((((w9.setCell ⟨s0, 0, none⟩ (.bool true)).setCell ⟨s0, 1, none⟩ (.bool p.down)).setCell ⟨s0, 2, none⟩ (.slice d9.fA d9.fn d9.fc)).setCell ⟨s0, 3, none⟩ (.slice d9.pA d9.pn d9.pc)).setCell ⟨s0, 4, none⟩ (.int .i64 p.room)).setCell ⟨s0, 5, none⟩ (.int .i64 p.steps)).setCell ⟨s0, 6, none⟩ (.int .i64 p.crash)).setCell ⟨s0, 7, none⟩ (.int .i64 p.starts)) = w10 at hb4 hr4 hz4 hw4 hfx ⊢
      have HB0 := Lib.hid hb4
      have HB2 := Lib.hid hz4
      have HK := Lib.hid hw4
      have HR := Lib.hid hr4
      clear hb4 hz4 hw4 hr4 c0 c1 c2 c3 c4 c5 c6 c7 y0 y1 y2 y3 y4 y5 y6 y7 z0 z1 z2 z3 z4 z5 z6 z7 hl0 hl2 kz0
      have hl0 := HB0.out.lt
      have hl2 := HB2.out.lt
      obtain ⟨c0, c1, c2, c3, c4, c5, c6, c7⟩ := HB0.out.rdc
      obtain ⟨y0, y1, y2, y3, y4, y5, y6, y7⟩ := HB2.out.c8
      obtain ⟨z0, z1, z2, z3, z4, z5, z6, z7⟩ := HB2.out.z8
      have HFX := Lib.hid hfx
      clear hfx
      have HQ0 : Hid ((A : Int) / 64 = ((A / 64 : Nat) : Int)) := Lib.hid (by omega)
      have HL2 := Lib.hid hll2
      clear hll2
      have hls2 := strOf_size l
      go_wp2_with fail
      go_loopw [14, 15] (fun v14 v15 wr => WtRel w s0 f p (p1.at_.setSeen s l) s l (p1.kept s) (A / 64) ((E + 63) / 64) v14 wr) (fun v _ _ => (E + 63) / 64 - (intOf v).toNat)
      case atStart => exact ⟨A / 64, d9, by rw [HQ0.out], Nat.le_refl _, by omega, HB0.out, by rw [secs_zero, pend_nil]; exact HR.out, HB2.out, HFX.out, HK.out⟩
      case round =>
        obtain ⟨wq, rfl⟩ : ∃ wq, wq = wr := ⟨_, rfl⟩
        obtain ⟨k, dk, rfl, hk0, hk1, hb0, hr, hb2, hbf, hkp⟩ := hrel
        have XB0 := Lib.hid hb0
        have XR := Lib.hid hr
        have XB2 := Lib.hid hb2
        have XF := Lib.hid hbf
        have XK := Lib.hid hkp
        have XK0 := Lib.hid hk0
        have XK1 := Lib.hid hk1
        obtain ⟨kk, hkk⟩ : ∃ kk, k * 64 = kk := ⟨_, rfl⟩
        have HKK := Lib.hid hkk
        have hwm : IntKind.i64.wrap ((k : Int) * 64) = (kk : Int) := by rw [IntKind.wrap_i64]; omega
        clear hb0 hr hb2 hbf hkp hk0 hk1 hkk
        obtain ⟨d0, d1, d2⟩ := XF.out.c3
        by_cases hlt : kk < E
        · have hlt' : (kk : Int) < (E : Int) := by omega
          have hkl : kk ≤ l.length := by have := HL2.out; omega
          have hl63' : l.length ≤ 9223372036854775807 := by have := HL2.out; omega
          have x1 : ((strOf l).extract kk l.length).size = l.length - kk := by rw [ByteArray.size_extract]; omega
          have y1' : (strOf l).extract kk l.length = strOf (l.drop kk) := by rw [strOf_sub, List.take_of_length_le (by simp)]
          go_upto_region 24 with fail
          clear x1 y1' d0 d1 d2
          obtain ⟨c0, c1, c2, c3, c4, c5, c6, c7⟩ := XB0.out.rdc
          obtain ⟨z0, z1, z2, z3, z4, z5, z6, z7⟩ := XB0.out.z8
          have HSZ9 : Hid (∀ V, Kp NoB wq V → Calls Try.prog 139 #[.string (strOf (l.drop kk)), .int .i64 64] V fun e w' => e = .returned (.string (strOf (sizedF (l.drop kk) 64))) ∧ Kp NoB V w') := Lib.hid (fun V _ => sized_ok V (l.drop kk) 64 (by rw [List.length_drop]; have := HL2.out; omega) (by omega))
          have HCH9 : Hid (∀ V, Kp NoB wq V → Calls Try.prog 138 #[rdV dk p, .agg #[.string s, .int .i64 (k : Int), .int .i64 0, .string (strOf (sizedF (l.drop kk) 64))]] V fun e w' => ∃ d', e = .returned (rdV d' p) ∧ Rf w' d' ((p1.at_.setSeen s l).pend (secs s l (A / 64) (k + 1))) ∧ Kp NoB V w') := Lib.hid (fun V hV => by
            have hrv : ∀ d', rdV d' ((p1.at_.setSeen s l).pend (secs s l (A / 64) k)) = rdV d' p := fun d' => by rw [HRV.out d']; rfl
            have h1 := change_okR V dk ((p1.at_.setSeen s l).pend (secs s l (A / 64) k)) ⟨s, (k : Int), 0, sizedF (l.drop kk) 64⟩ (XR.out.keep hV) ⟨.inr ⟨sizedF_len _ _, by show (0 : Int) ≤ (k : Int); omega, by show (k : Int) ≤ 16384; have := HKK.out; omega, rfl⟩, fun y hy => sizedF_rng (fun x hx => HLR.out x (List.mem_of_mem_drop hx)) 64 y hy, HS.out⟩ (by
              show (p1.pd ++ secs s l (A / 64) k).length < _
              rw [List.length_append, secs_len]
              have := HPD1.out
              have := HKK.out
              omega)
            rw [hrv] at h1
            refine h1.mono ?_
            rintro e w' ⟨d', rfl, h2, h3⟩
            refine ⟨d', by rw [hrv], ?_, h3⟩
            rw [pend_pend] at h2
            rw [secs_next s l XK0.out, HKK.out]
            exact h2)
          apply wp_into4 (G := fun V g h u v => ∃ d' W', u = rdV d' p ∧ V = (((((((((W'.setCell ⟨s0, 0, none⟩ (.bool true)).setCell ⟨s0, 1, none⟩ (.bool p.down)).setCell ⟨s0, 2, none⟩ (.slice d'.fA d'.fn d'.fc)).setCell ⟨s0, 3, none⟩ (.slice d'.pA d'.pn d'.pc)).setCell ⟨s0, 4, none⟩ (.int .i64 p.room)).setCell ⟨s0, 5, none⟩ (.int .i64 p.steps)).setCell ⟨s0, 6, none⟩ (.int .i64 p.crash)).setCell ⟨s0, 7, none⟩ (.int .i64 p.starts))) ∧ Rf W' d' ((p1.at_.setSeen s l).pend (secs s l (A / 64) (k + 1))) ∧ Kp NoB wq W')
          · obtain ⟨gg, hgg⟩ : ∃ gg : Nat, gg = 0 := ⟨_, rfl⟩
            obtain ⟨hh, hhh⟩ : ∃ gg : Nat, gg = 0 := ⟨_, rfl⟩
            obtain ⟨vv, hvv⟩ : ∃ vv : Value, vv = .bool true := ⟨_, rfl⟩
            refine wp_region_held_drew (S := fun _ => True) (by kernel_rfl) trivial (fun hHeld => ?_)
            have k0 : Kp NoB wq wq.drew := (Kp.refl NoB wq).drew
            generalize wq.drew = V0 at k0 hHeld ⊢
            refine tkS (i := 1) (v := (.string s)) rfl (Or.inl ⟨by rfl, fun w' hq => by go_simp⟩) trivial ?_
            simp only [Act.put, skA, skB, skC]
            refine tkS (i := 2) (v := (.int .i64 (k : Int))) rfl (Or.inl ⟨by rfl, fun w' hq => by go_simp⟩) trivial ?_
            simp only [Act.put, skA, skB, skC]
            refine tkS (i := 3) (v := (.string (strOf (l.drop kk)))) rfl (Or.inl ⟨by rfl, fun w' hq => by go_simp⟩) trivial ?_
            simp only [Act.put, skA, skB, skC]
            refine wpAnyH_ready (rs := [0, 4]) (by kernel_rfl) (by simp) ?_
            refine AllReadyH.valR (fun W' => V0 = W') rfl (by rfl) (rdV dk p) _ (by (obtain ⟨c0, c1, c2, c3, c4, c5, c6, c7⟩ := (XB0.out.keep k0 (fun q => q)).rdc; unfold rdV; go_simp)) (fun _ _ => trivial) rfl ?_ ?_
            · rintro _ rfl
              simp only [Act.put, skA, skB, skC]
              refine wpAnyH_ready (rs := [4]) (by kernel_rfl) (by simp) ?_
              refine AllReadyH.callR (fun x W' => x = .string (strOf (sizedF (l.drop kk) 64)) ∧ Kp NoB wq W') rfl (by rfl) 139 #[.string (strOf (l.drop kk)), .int .i64 64] (by first | (go_simp; done) | (go_simp; rfl)) (fun _ _ q => trivial) ((HSZ9.out V0 k0).mono (by rintro e w' ⟨rfl, hk⟩; exact ⟨_, rfl, rfl, k0.trans hk (fun _ _ q => q)⟩)) ?_ AllReadyH.nil
              rintro x V1 ⟨rfl, k1⟩
              simp only [Act.put, skA, skB, skC]
              refine tkS (i := 5) (v := (.agg #[.string s, .int .i64 (k : Int), .int .i64 0, .string (strOf (sizedF (l.drop kk) 64))])) rfl (Or.inl ⟨by rfl, fun w' hq => by go_simp⟩) trivial ?_
              simp only [Act.put, skA, skB, skC]
              refine wpAnyH_ready (rs := [6]) (by kernel_rfl) (by simp) ?_
              refine AllReadyH.callR (fun x W' => ∃ d', x = rdV d' p ∧ Rf W' d' ((p1.at_.setSeen s l).pend (secs s l (A / 64) (k + 1))) ∧ Kp NoB wq W') rfl (by rfl) 138 #[rdV dk p, .agg #[.string s, .int .i64 (k : Int), .int .i64 0, .string (strOf (sizedF (l.drop kk) 64))]] (by first | (go_simp; done) | (go_simp; rfl)) (fun _ _ q => trivial) ((HCH9.out V1 k1).mono (by rintro e w' ⟨d', rfl, h2, hk⟩; exact ⟨_, rfl, d', rfl, h2, (k1).trans hk (fun _ _ q => q)⟩)) ?_ AllReadyH.nil
              rintro x V2 ⟨d', rfl, h2, k2⟩
              simp only [Act.put, skA, skB, skC]
              refine wpAnyH_ready (rs := [7]) (by kernel_rfl) (by simp) ?_
              refine AllReadyH.skipR rfl (by rfl) (((((((((V2.setCell ⟨s0, 0, none⟩ (.bool true)).setCell ⟨s0, 1, none⟩ (.bool p.down)).setCell ⟨s0, 2, none⟩ (.slice d'.fA d'.fn d'.fc)).setCell ⟨s0, 3, none⟩ (.slice d'.pA d'.pn d'.pc)).setCell ⟨s0, 4, none⟩ (.int .i64 p.room)).setCell ⟨s0, 5, none⟩ (.int .i64 p.steps)).setCell ⟨s0, 6, none⟩ (.int .i64 p.crash)).setCell ⟨s0, 7, none⟩ (.int .i64 p.starts))) (by (obtain ⟨c0, c1, c2, c3, c4, c5, c6, c7⟩ := (XB0.out.keep k2 (fun q => q)).rdc; obtain ⟨z0, z1, z2, z3, z4, z5, z6, z7⟩ := (XB0.out.keep k2 (fun q => q)).z8; unfold rdV; go_simp)) trivial ?_ AllReadyH.nil
              refine wpAnyH_done (by kernel_rfl) ?_ _
              obtain ⟨uu, huu⟩ : ∃ uu, rdV d' p = uu := ⟨_, rfl⟩
              rw [huu]
              exact into4_of gg hh uu vv ⟨d', V2, huu.symm, rfl, h2, k2⟩ rfl
            · refine AllReadyH.callR (fun x W' => x = .string (strOf (sizedF (l.drop kk) 64)) ∧ Kp NoB wq W') rfl (by rfl) 139 #[.string (strOf (l.drop kk)), .int .i64 64] (by first | (go_simp; done) | (go_simp; rfl)) (fun _ _ q => trivial) ((HSZ9.out V0 k0).mono (by rintro e w' ⟨rfl, hk⟩; exact ⟨_, rfl, rfl, k0.trans hk (fun _ _ q => q)⟩)) ?_ AllReadyH.nil
              rintro x V1 ⟨rfl, k1⟩
              simp only [Act.put, skA, skB, skC]
              refine tkS (i := 5) (v := (.agg #[.string s, .int .i64 (k : Int), .int .i64 0, .string (strOf (sizedF (l.drop kk) 64))])) rfl (Or.inl ⟨by rfl, fun w' hq => by go_simp⟩) trivial ?_
              simp only [Act.put, skA, skB, skC]
              refine wpAnyH_ready (rs := [0]) (by kernel_rfl) (by simp) ?_
              refine AllReadyH.valR (fun W' => V1 = W') rfl (by rfl) (rdV dk p) _ (by (obtain ⟨c0, c1, c2, c3, c4, c5, c6, c7⟩ := (XB0.out.keep k1 (fun q => q)).rdc; unfold rdV; go_simp)) (fun _ _ => trivial) rfl ?_ AllReadyH.nil
              rintro _ rfl
              simp only [Act.put, skA, skB, skC]
              refine wpAnyH_ready (rs := [6]) (by kernel_rfl) (by simp) ?_
              refine AllReadyH.callR (fun x W' => ∃ d', x = rdV d' p ∧ Rf W' d' ((p1.at_.setSeen s l).pend (secs s l (A / 64) (k + 1))) ∧ Kp NoB wq W') rfl (by rfl) 138 #[rdV dk p, .agg #[.string s, .int .i64 (k : Int), .int .i64 0, .string (strOf (sizedF (l.drop kk) 64))]] (by first | (go_simp; done) | (go_simp; rfl)) (fun _ _ q => trivial) ((HCH9.out V1 k1).mono (by rintro e w' ⟨d', rfl, h2, hk⟩; exact ⟨_, rfl, d', rfl, h2, (k1).trans hk (fun _ _ q => q)⟩)) ?_ AllReadyH.nil
              rintro x V2 ⟨d', rfl, h2, k2⟩
              simp only [Act.put, skA, skB, skC]
              refine wpAnyH_ready (rs := [7]) (by kernel_rfl) (by simp) ?_
              refine AllReadyH.skipR rfl (by rfl) (((((((((V2.setCell ⟨s0, 0, none⟩ (.bool true)).setCell ⟨s0, 1, none⟩ (.bool p.down)).setCell ⟨s0, 2, none⟩ (.slice d'.fA d'.fn d'.fc)).setCell ⟨s0, 3, none⟩ (.slice d'.pA d'.pn d'.pc)).setCell ⟨s0, 4, none⟩ (.int .i64 p.room)).setCell ⟨s0, 5, none⟩ (.int .i64 p.steps)).setCell ⟨s0, 6, none⟩ (.int .i64 p.crash)).setCell ⟨s0, 7, none⟩ (.int .i64 p.starts))) (by (obtain ⟨c0, c1, c2, c3, c4, c5, c6, c7⟩ := (XB0.out.keep k2 (fun q => q)).rdc; obtain ⟨z0, z1, z2, z3, z4, z5, z6, z7⟩ := (XB0.out.keep k2 (fun q => q)).z8; unfold rdV; go_simp)) trivial ?_ AllReadyH.nil
              refine wpAnyH_done (by kernel_rfl) ?_ _
              obtain ⟨uu, huu⟩ : ∃ uu, rdV d' p = uu := ⟨_, rfl⟩
              rw [huu]
              exact into4_of gg hh uu vv ⟨d', V2, huu.symm, rfl, h2, k2⟩ rfl
          · rintro g h u v V ⟨d', W', rfl, hV, hR, hK⟩
            have hkW : Kp NoB wq W' := hK
            have hq : Kp (OnB s0) W' V := by rw [hV]; exact kp8 (Kp.refl _ W') (.inr rfl)
            have yb0 := XB0.out.keep hkW (fun q => q)
            have e0 : Blk V s0 56 (rdC d' p) := by rw [hV]; exact blk8 yb0 rfl
            have eR : Rf V d' ((p1.at_.setSeen s l).pend (secs s l (A / 64) (k + 1))) := hR.keepB hq yb0 (rdC_str _ _)
            have e2 : Blk V (s0 + 1) 56 rdZ := (XB2.out.keep hkW (fun q => q)).keep hq (fun q => by have q' : s0 + 1 = s0 := q; omega)
            have eF := (XF.out.keep hkW (fun q => q)).keep hq (fun q => by have q' : f = s0 := q; have := HLF.out; omega)
            have eK : Kp NoB w V := by rw [hV]; exact kp8 (XK.out.trans hkW (fun _ _ q => q)) (.inl (by have := HS0.out; omega))
            have E9 := Lib.hid (show WtRel w s0 f p (p1.at_.setSeen s l) s l (p1.kept s) (A / 64) ((E + 63) / 64) (.int .i64 ((k + 1 : Nat) : Int)) V from ⟨k + 1, d', rfl, by have := XK0.out; omega, by have := HKK.out; omega, e0, eR, e2, eF, eK⟩)
            clear hV hR hK hkW hq yb0 e0 eR e2 eF eK c0 c1 c2 c3 c4 c5 c6 c7 z0 z1 z2 z3 z4 z5 z6 z7
            have hk16 : k < 1048576 := by have := HKK.out; omega
            go_wp2_with fail
            go_roundw
            case rel => exact E9.out
            case measure => simp [intOf]; have := HKK.out; omega
        · have hlt' : ¬ (kk : Int) < (E : Int) := by omega
          have hke : k = (E + 63) / 64 := by have := HKK.out; have := XK1.out; omega
          have EW : Hid (p.write1 s A (strI D) = ((p1.at_.setSeen s l).pend (secs s l (A / 64) k)).step ∧ p.stepE = ((p1.at_.setSeen s l).pend (secs s l (A / 64) k)).stepE) := Lib.hid (by
            constructor
            · show (((if (p.seen s).length < A + (strI D).length then p.length s (A + (strI D).length) else p).at_.setSeen s (Pl.put ((if (p.seen s).length < A + (strI D).length then p.length s (A + (strI D).length) else p).seen s) A (strI D))).pend (Pl.sectors s (Pl.put ((if (p.seen s).length < A + (strI D).length then p.length s (A + (strI D).length) else p).seen s) A (strI D)) A (A + (strI D).length))).step = _
              rw [HL0.out, HSL.out, HP1.out, HL1.out, HLL.out, hE, ← secs_all, hke]
            · show (if p.crash = 1 then (7 : Int) else 0) = if p1.crash = 1 then 7 else 0
              rw [HNUM.out.2.2.2.1])
          have EV : Hid (rdV dk p = rdV dk ((p1.at_.setSeen s l).pend (secs s l (A / 64) k))) := Lib.hid (by rw [HRV.out dk]; rfl)
          obtain ⟨p3, hp3⟩ : ∃ p3, (p1.at_.setSeen s l).pend (secs s l (A / 64) k) = p3 := ⟨_, rfl⟩
          rw [hp3] at EW EV XR
          clear hke hp3 d0 d1 d2
          obtain ⟨c0, c1, c2, c3, c4, c5, c6, c7⟩ := XB0.out.rdc
          go_wp2_with fail
          refine (show Calls _ _ #[rdV dk p] _ _ from by rw [EV.out]; exact step_okR wq dk p3 XR.out).mono ?_
          rintro e w11 ⟨rfl, h11, hk11⟩
          have HR11 := Lib.hid h11
          have YB2 := Lib.hid (XB2.out.keep hk11 (fun q => q))
          have YK := Lib.hid (XK.out.trans hk11 (fun _ _ q => q))
          clear h11 hk11 c0 c1 c2 c3 c4 c5 c6 c7
          obtain ⟨y0, y1, y2, y3, y4, y5, y6, y7⟩ := YB2.out.c8
          obtain ⟨z0, z1, z2, z3, z4, z5, z6, z7⟩ := YB2.out.z8
          unfold rdV
          go_wp2_with fail
          refine bodyPost_ret (ret_cell_tmp rfl _ _ _ _ _ _ rfl (blk8 YB2.out rfl) Try.underlying56 rfl (by exact infoRd) _ rfl) rfl ⟨dk, by rw [EW.out.1, EW.out.2]; rfl, ?_, kp8 YK.out (.inl kz)⟩
          rw [EW.out.1]
          exact HR11.out.keepB (kp8 (Kp.refl _ w11) (.inr rfl)) YB2.out rdZ_str
/-- Write -/
theorem write_okR (w : World) (d : Rd) (p : Pl) (s : ByteArray) (a : Int) (D : ByteArray) (h : Rf w d p) (hs : s.size ≤ maxLen) (hD : D.size ≤ maxLen) (ha : -9223372036854775808 ≤ a ∧ a ≤ 9223372036854775807) (hnf : p.nf < 1099511627776 - 10) (hpd : p.pd.length < 1099511627776 - 20000) :
    Calls Try.prog 79 #[rdV d p, .string s, .int .i64 a, .string D] w fun e w' => ∃ d', e = .returned (.tuple #[rdV d' (p.write s a (strI D)), .int .i64 (p.writeE s a (strI D))]) ∧ Rf w' d' (p.write s a (strI D)) ∧ Kp NoB w w' := by
  by_cases hm : WrMain p s a D
  · exact write_mainR w d p s a D h hs hD ha hnf hpd hm
  · exact write_badR w d p s a D h hs hD ha hnf hpd hm
end Go.Proofs.Ytegcbdfilkecpaa
