/- Texts of this proof, one behind the other: lemmas and contracts; each says its own conditions. -/
import Derived.Test.YtegcbdfilkecpaaGreatQ6
import Derived.Test.YtegcbdfilkecpaaGreatQ7
namespace Go.Proofs.YtegcbdfilkecpaaGreat
section
open Go.RowKit
def othC (l : List Cg) (s : ByteArray) : List Cg := l.filter fun c => !decide (c.nm = s)
def SyRel (w7 : World) (l : List Cg) (s : ByteArray) (n : Nat) (v8 v9 : Value) (wr : World) : Prop :=
 ∃ k : Nat, v9 = .int .i64 (k : Int) ∧ k ≤ n ∧ wr.ownsRow w7.heap.size 131 4 v8 (othC (l.take k) s).length ((othC (l.take k) s).map rcCells).flatten ∧ Kp NoB w7 wr
set_option maxRecDepth 100000 in
set_option maxHeartbeats 1600000 in
theorem sync_okR (w : World) (d : Rd) (p : Pl) (s : ByteArray) (h : Rf w d p) (hs : s.size ≤ maxLen) (hnf : p.nf < 1099511627776) (hpd : p.pd.length < 1099511627776) :
  Calls Tryz.prog 99 #[rdV d p, .string s] w fun e w' => ∃ d', e = .returned (.tuple #[rdV d' (p.sync s), .int .i64 p.syncE]) ∧ Rf w' d' (p.sync s) ∧ Kp NoB w w' := by
 have H := zh h
 have HS := zh hs
 have HNF := zh hnf
 have HPD := zh hpd
 have hb0 : Blk ((w.alloc (.cells (rdC d p) 29)).alloc (.cells rdZ 29)) w.heap.size 29 (rdC d p) := (Blk.new w _ _).alloc _
 have hb2 : Blk ((w.alloc (.cells (rdC d p) 29)).alloc (.cells rdZ 29)) (w.heap.size + 1) 29 rdZ := Blk.top (by simp)
 have hk : Kp NoB w ((w.alloc (.cells (rdC d p) 29)).alloc (.cells rdZ 29)) := ((Kp.refl NoB w).alloc _).alloc _
 clear h hs hnf hpd
 by_cases hd : p.down = true
 ·have hw : Hid (p.wrong = 7) := zh (by unfold Pl.wrong; rw [hd]; rfl)
  have hT : Hid (p.sync s = p ∧ p.syncE = 7) := zh (by unfold Pl.sync Pl.syncE; rw [hd]; simp)
  clear hd
  rw [hT.out.1, hT.out.2]
  unfold rdV
  go_enter Tryz.func99, Tryz.ntmps99
  go_wp2_with fail
  refine (show Calls _ _ #[rdV d p] _ _ from wrong_okR _ d p (H.out.keep hk)).mono ?_
  rintro e w2 ⟨rfl, hk2⟩
  rw [hw.out]
  have HB0 := zh (hb0.keep hk2 (fun q => q))
  have HB2 := zh (hb2.keep hk2 (fun q => q))
  have HK := zh (hk.trans hk2 (fun _ _ q => q))
  clear hb0 hb2 hk hk2
  generalize hs0 : w.heap.size = s0 at HB0 HB2 ⊢
  have HS0 := zh hs0
  have kz : w.heap.size ≤ s0 + 1 := by omega
  clear hs0
  have hl0 := HB0.out.lt
  have hl2 := HB2.out.lt
  obtain ⟨c0, c1, c2, c3, c4, c5, c6, c7⟩ := HB0.out.rdc
  obtain ⟨y0, y1, y2, y3, y4, y5, y6, y7⟩ := HB2.out.c8
  obtain ⟨z0, z1, z2, z3, z4, z5, z6, z7⟩ := HB2.out.z8
  go_wp2_with fail
  refine bodyPost_ret (ret_cell_tmp rfl _ _ _ _ _ _ rfl (blk8 HB2.out rfl) Tryz.underlying29 rfl (by exact infoRd) _ rfl) rfl ⟨d, rfl, (H.out.keep (kp8 HK.out (.inl kz))), kp8 HK.out (.inl kz)⟩
 ·have hd' : p.down = false := by simpa using hd
  have hw : Hid (p.wrong = 0) := zh (by unfold Pl.wrong; rw [hd']; rfl)
  by_cases hc : p.crash = 1
  ·have hE : Hid (p.stepE = 7) := zh (by unfold Pl.stepE; rw [if_pos hc])
   have hT : Hid (p.sync s = p.step ∧ p.syncE = 7) := zh (by unfold Pl.sync Pl.syncE; rw [hd', hE.out]; simp)
   clear hd hd' hc
   rw [hT.out.1, hT.out.2]
   unfold rdV
   go_enter Tryz.func99, Tryz.ntmps99
   go_wp2_with fail
   refine (show Calls _ _ #[rdV d p] _ _ from wrong_okR _ d p (H.out.keep hk)).mono ?_
   rintro e w2 ⟨rfl, hk2⟩
   rw [hw.out]
   have HB0 := zh (hb0.keep hk2 (fun q => q))
   have HB2 := zh (hb2.keep hk2 (fun q => q))
   have HK := zh (hk.trans hk2 (fun _ _ q => q))
   clear hb0 hb2 hk hk2
   generalize hs0 : w.heap.size = s0 at HB0 HB2 ⊢
   have HS0 := zh hs0
   have kz : w.heap.size ≤ s0 + 1 := by omega
   clear hs0
   have hl0 := HB0.out.lt
   have hl2 := HB2.out.lt
   obtain ⟨c0, c1, c2, c3, c4, c5, c6, c7⟩ := HB0.out.rdc
   obtain ⟨y0, y1, y2, y3, y4, y5, y6, y7⟩ := HB2.out.c8
   obtain ⟨z0, z1, z2, z3, z4, z5, z6, z7⟩ := HB2.out.z8
   go_wp2_with fail
   refine (show Calls _ _ #[rdV d p] _ _ from step_okR _ d p (H.out.keep HK.out)).mono ?_
   rintro e w3 ⟨rfl, h3, hk3⟩
   have HR3 := zh h3
   rw [hE.out]
   have HB0' := zh (HB0.out.keep hk3 (fun q => q))
   have HB2' := zh (HB2.out.keep hk3 (fun q => q))
   have HK' := zh (HK.out.trans hk3 (fun _ _ q => q))
   clear hk3 HB0 HB2 HK
   have HB0 := HB0'
   have HB2 := HB2'
   have HK := HK'
   clear HB0' HB2' HK' c0 c1 c2 c3 c4 c5 c6 c7 y0 y1 y2 y3 y4 y5 y6 y7 z0 z1 z2 z3 z4 z5 z6 z7 hl0 hl2
   have hl0 := HB0.out.lt
   have hl2 := HB2.out.lt
   obtain ⟨c0, c1, c2, c3, c4, c5, c6, c7⟩ := HB0.out.rdc
   obtain ⟨y0, y1, y2, y3, y4, y5, y6, y7⟩ := HB2.out.c8
   obtain ⟨z0, z1, z2, z3, z4, z5, z6, z7⟩ := HB2.out.z8
   have x0 := HB0.out.frozen 0
   obtain ⟨x0, x1, x2, x3, x4, x5, x6, x7⟩ := HB0.out.z8
   clear h3
   unfold rdV
   go_wp2_with fail
   have kz0 : w.heap.size ≤ s0 := by have := HS0.out; omega
   have hq3 : Kp (OnB s0) w3 (((((((((w3.setCell ⟨s0, 0, none⟩ (.bool true)).setCell ⟨s0, 1, none⟩ (.bool p.step.down)).setCell ⟨s0, 2, none⟩ (.slice d.fA d.fn d.fc)).setCell ⟨s0, 3, none⟩ (.slice d.pA d.pn d.pc)).setCell ⟨s0, 4, none⟩ (.int .i64 p.step.room)).setCell ⟨s0, 5, none⟩ (.int .i64 p.step.steps)).setCell ⟨s0, 6, none⟩ (.int .i64 p.step.crash)).setCell ⟨s0, 7, none⟩ (.int .i64 p.step.starts))) := kp8 (Kp.refl _ w3) (.inr rfl)
   have hz3 := HB2.out.keep hq3 (fun q => by have q' : s0 + 1 = s0 := q; omega)
   refine bodyPost_ret (ret_cell_tmp rfl _ _ _ _ _ _ rfl (blk8 hz3 rfl) Tryz.underlying29 rfl (by exact infoRd) _ rfl) rfl ⟨d, rfl, ?_, kp8 (kp8 HK.out (.inl kz0)) (.inl kz)⟩
   exact (HR3.out.keepB hq3 HB0.out (rdC_str _ _)).keepB (kp8 (Kp.refl _ _) (.inr rfl)) hz3 rdZ_str
  ·have hE : Hid (p.stepE = 0) := zh (by unfold Pl.stepE; rw [if_neg hc])
   have hT : Hid (p.sync s = { p.step.at_.setKept s (p.seen s) with pd := p.pd.filter fun c => !decide (c.nm = s) } ∧ p.syncE = 0) := zh (by unfold Pl.sync Pl.syncE; rw [hd', hE.out]; simp)
   clear hd hd' hc
   rw [hT.out.1, hT.out.2]
   unfold rdV
   go_enter Tryz.func99, Tryz.ntmps99
   go_wp2_with fail
   refine (show Calls _ _ #[rdV d p] _ _ from wrong_okR _ d p (H.out.keep hk)).mono ?_
   rintro e w2 ⟨rfl, hk2⟩
   rw [hw.out]
   have HB0 := zh (hb0.keep hk2 (fun q => q))
   have HB2 := zh (hb2.keep hk2 (fun q => q))
   have HK := zh (hk.trans hk2 (fun _ _ q => q))
   clear hb0 hb2 hk hk2
   generalize hs0 : w.heap.size = s0 at HB0 HB2 ⊢
   have HS0 := zh hs0
   have kz : w.heap.size ≤ s0 + 1 := by omega
   clear hs0
   have hl0 := HB0.out.lt
   have hl2 := HB2.out.lt
   obtain ⟨c0, c1, c2, c3, c4, c5, c6, c7⟩ := HB0.out.rdc
   obtain ⟨y0, y1, y2, y3, y4, y5, y6, y7⟩ := HB2.out.c8
   obtain ⟨z0, z1, z2, z3, z4, z5, z6, z7⟩ := HB2.out.z8
   go_wp2_with fail
   refine (show Calls _ _ #[rdV d p] _ _ from step_okR _ d p (H.out.keep HK.out)).mono ?_
   rintro e w3 ⟨rfl, h3, hk3⟩
   have HR3 := zh h3
   rw [hE.out]
   have HB0' := zh (HB0.out.keep hk3 (fun q => q))
   have HB2' := zh (HB2.out.keep hk3 (fun q => q))
   have HK' := zh (HK.out.trans hk3 (fun _ _ q => q))
   clear hk3 HB0 HB2 HK
   have HB0 := HB0'
   have HB2 := HB2'
   have HK := HK'
   clear HB0' HB2' HK' c0 c1 c2 c3 c4 c5 c6 c7 y0 y1 y2 y3 y4 y5 y6 y7 z0 z1 z2 z3 z4 z5 z6 z7 hl0 hl2
   have hl0 := HB0.out.lt
   have hl2 := HB2.out.lt
   obtain ⟨c0, c1, c2, c3, c4, c5, c6, c7⟩ := HB0.out.rdc
   obtain ⟨y0, y1, y2, y3, y4, y5, y6, y7⟩ := HB2.out.c8
   obtain ⟨z0, z1, z2, z3, z4, z5, z6, z7⟩ := HB2.out.z8
   obtain ⟨x0, x1, x2, x3, x4, x5, x6, x7⟩ := HB0.out.z8
   clear h3
   unfold rdV
   go_wp2_with fail
   have kz0 : w.heap.size ≤ s0 := by have := HS0.out; omega
   refine forgetK (fun V => Blk V s0 29 (rdC d p.step) ∧ Rf V d (p.step) ∧ Blk V (s0 + 1) 29 rdZ ∧ Kp NoB w V) ⟨blk8 HB0.out rfl, (HR3.out).keepB (kp8 (Kp.refl (OnB s0) w3) (.inr rfl)) HB0.out (rdC_str _ _), HB2.out.keep (kp8 (Kp.refl (OnB s0) w3) (.inr rfl)) (fun q => by have q' : s0 + 1 = s0 := q; omega), kp8 HK.out (.inl kz0)⟩ ?_
   rintro w4 ⟨hb4, hr4, hz4, hw4⟩
   clear HB0 HB2 HK
   have HB0 := zh hb4
   have HB2 := zh hz4
   have HK := zh hw4
   have HR := zh hr4
   clear hb4 hz4 hw4 hr4 c0 c1 c2 c3 c4 c5 c6 c7 y0 y1 y2 y3 y4 y5 y6 y7 z0 z1 z2 z3 z4 z5 z6 z7 hl0 hl2 kz0
   have hl0 := HB0.out.lt
   have hl2 := HB2.out.lt
   obtain ⟨c0, c1, c2, c3, c4, c5, c6, c7⟩ := HB0.out.rdc
   obtain ⟨y0, y1, y2, y3, y4, y5, y6, y7⟩ := HB2.out.c8
   obtain ⟨z0, z1, z2, z3, z4, z5, z6, z7⟩ := HB2.out.z8
   refine (show Calls _ _ #[rdV d p.step, .string s] _ _ from file_ok _ d p.step s HR.out HNF.out).mono ?_
   rintro e w5 ⟨rfl, hk5⟩
   have HR5 := zh (HR.out.keep hk5)
   have HB0' := zh (HB0.out.keep hk5 (fun q => q))
   have HB2' := zh (HB2.out.keep hk5 (fun q => q))
   have HK' := zh (HK.out.trans hk5 (fun _ _ q => q))
   clear hk5 HB0 HB2 HK
   have HB0 := HB0'
   have HB2 := HB2'
   have HK := HK'
   clear HB0' HB2' HK' c0 c1 c2 c3 c4 c5 c6 c7 y0 y1 y2 y3 y4 y5 y6 y7 z0 z1 z2 z3 z4 z5 z6 z7 hl0 hl2
   have hl0 := HB0.out.lt
   have hl2 := HB2.out.lt
   obtain ⟨c0, c1, c2, c3, c4, c5, c6, c7⟩ := HB0.out.rdc
   obtain ⟨y0, y1, y2, y3, y4, y5, y6, y7⟩ := HB2.out.c8
   obtain ⟨z0, z1, z2, z3, z4, z5, z6, z7⟩ := HB2.out.z8
   have hfn : ∀ g, g = w5.heap.size → g ≠ s0 ∧ g ≠ s0 + 1 := fun g e => by omega
   unfold fileV
   go_wp2_with fail
   have hkf : Kp NoB w5 (w5.alloc (.cells #[.string s, .string (strOf (p.seen s)), .string (strOf (p.seen s))] 72)) := (Kp.refl NoB w5).alloc _
   have hlk := HR5.out.look s
   refine (show Calls _ _ #[rdV d p.step, .agg (fileV s (p.seen s) (p.seen s))] _ _ from with_ok _ d p.step ⟨s, p.seen s, p.seen s⟩ (HR5.out.keep hkf) ⟨HS.out, hlk.1.2, hlk.1.2, hlk.1.1, hlk.1.1⟩ HNF.out).mono ?_
   rintro e w6 ⟨d6, rfl, h6, hk6⟩
   have hk56 := hkf.trans hk6 (fun _ _ q => q)
   have HR6 : Hid (Rf w6 d6 (p.step.at_.setKept s (p.seen s))) := zh (by
    have e6 : (p.step.at_.setSeen s (p.seen s)).setKept s (p.seen s) = p.step.at_.setKept s (p.seen s) := by rw [show p.step.at_.setSeen s (p.seen s) = p.step.at_ from seen_same p.step.at_ s]
    rw [← e6]; exact h6)
   clear h6 hlk hkf hk6 hfn
   have HB0' := zh (HB0.out.keep hk56 (fun q => q))
   have HB2' := zh (HB2.out.keep hk56 (fun q => q))
   have HK' := zh (HK.out.trans hk56 (fun _ _ q => q))
   clear hk56 HB0 HB2 HK
   have HB0 := HB0'
   have HB2 := HB2'
   have HK := HK'
   clear HB0' HB2' HK' c0 c1 c2 c3 c4 c5 c6 c7 y0 y1 y2 y3 y4 y5 y6 y7 z0 z1 z2 z3 z4 z5 z6 z7 hl0 hl2
   have hl0 := HB0.out.lt
   have hl2 := HB2.out.lt
   obtain ⟨c0, c1, c2, c3, c4, c5, c6, c7⟩ := HB0.out.rdc
   obtain ⟨y0, y1, y2, y3, y4, y5, y6, y7⟩ := HB2.out.c8
   obtain ⟨z0, z1, z2, z3, z4, z5, z6, z7⟩ := HB2.out.z8
   obtain ⟨x0, x1, x2, x3, x4, x5, x6, x7⟩ := HB0.out.z8
   unfold rdV
   go_upto_region 10 with fail
   have kz0 : w.heap.size ≤ s0 := by have := HS0.out; omega
   refine forgetC (fun V => Blk V s0 29 (rdC d6 p.step) ∧ Rf V d6 (p.step.at_.setKept s (p.seen s)) ∧ Blk V (s0 + 1) 29 rdZ ∧ Kp NoB w V) ⟨blk8 HB0.out rfl, (HR6.out).keepB (kp8 (Kp.refl (OnB s0) w6) (.inr rfl)) HB0.out (rdC_str _ _), HB2.out.keep (kp8 (Kp.refl (OnB s0) w6) (.inr rfl)) (fun q => by have q' : s0 + 1 = s0 := q; omega), kp8 HK.out (.inl kz0)⟩ ?_
   rintro w7 ⟨hb4, hr4, hz4, hw4⟩
   clear HB0 HB2 HK
   have HB0 := zh hb4
   have HB2 := zh hz4
   have HK := zh hw4
   have HR := zh hr4
   clear hb4 hz4 hw4 hr4 c0 c1 c2 c3 c4 c5 c6 c7 y0 y1 y2 y3 y4 y5 y6 y7 z0 z1 z2 z3 z4 z5 z6 z7 hl0 hl2 kz0
   have hl0 := HB0.out.lt
   have hl2 := HB2.out.lt
   obtain ⟨c0, c1, c2, c3, c4, c5, c6, c7⟩ := HB0.out.rdc
   obtain ⟨y0, y1, y2, y3, y4, y5, y6, y7⟩ := HB2.out.c8
   obtain ⟨z0, z1, z2, z3, z4, z5, z6, z7⟩ := HB2.out.z8
   have HPN : Hid (Rows w7 d6.pA d6.pn 4 (p.pd.map rcCells)) := zh HR.out.pend
   have HPL : Hid (p.pd.length = d6.pn) := zh HR.out.pl
   obtain ⟨pA, hpA⟩ : ∃ x, d6.pA = x := ⟨_, rfl⟩
   obtain ⟨pn, hpn⟩ : ∃ x, d6.pn = x := ⟨_, rfl⟩
   obtain ⟨pc, hpc⟩ : ∃ x, d6.pc = x := ⟨_, rfl⟩
   rw [hpA, hpn, hpc] at c3
   rw [hpA, hpn] at HPN
   rw [hpn] at HPL
   have HC3 : Hid (∀ wr, Kp NoB w7 wr → wr.cell? ⟨s0, 3, none⟩ = some (.slice pA pn pc)) := zh (fun wr k => (k.cell hl0 (fun q => q)).trans c3)
   have HNN : Hid (pn < 1099511627776) := zh (by have := HPL.out; have := HPD.out; omega)
   clear hpA hpn hpc
   obtain ⟨j0, hj0, hj1⟩ := Option.map_eq_some_iff.1 infoRch
   simp only [Prod.mk.injEq] at hj1
   have HJ0 := zh hj0
   have HY0 := zh hj1.1
   have HY1 := zh hj1.2.1
   have HY2 := zh hj1.2.2
   clear hj0 hj1
   have HL7 := zh hl0
   go_wp2_with fail
   go_loopw [8, 9] (fun v8 v9 wr => SyRel w7 p.pd s pn v8 v9 wr) (fun _ v _ => pn - (intOf v).toNat)
   case atStart => exact ⟨0, rfl, Nat.zero_le _, by rw [List.take_zero]; exact World.ownsRow_nil _ _ _ _, Kp.refl _ _⟩
   case round =>
    obtain ⟨wq, rfl⟩ : ∃ wq, wq = wr := ⟨_, rfl⟩
    obtain ⟨k, rfl, hk, how, hkp⟩ := hrel
    have HOW := zh how
    have HKP := zh hkp
    have c3 := HC3.out wq hkp
    obtain ⟨A8, cap8, rfl⟩ := own_slice how
    have hnn := HNN.out
    clear how
    by_cases hlt : k < pn
    ·have hkl : k < p.pd.length := by have := HPL.out; omega
     obtain ⟨x, hx⟩ : ∃ x, p.pd[k] = x := ⟨_, rfl⟩
     have hxk : p.pd[k]? = some x := by rw [List.getElem?_eq_getElem hkl, hx]
     have hnext : othC (p.pd.take (k + 1)) s = othC (p.pd.take k) s ++ (if x.nm = s then [] else [x]) := by
      unfold othC
      rw [List.take_add_one, hxk, List.filter_append]
      by_cases q : x.nm = s
      ·simp [q]
      ·simp [q]
     obtain ⟨g, o, rfl, hg, hc⟩ := (HPN.out.keep hkp).cell (k := k) (x := rcCells x) (by rw [List.getElem?_map, hxk]; rfl)
     have q0 := hc 0 _ rfl
     have q1 := hc 1 _ rfl
     have q2 := hc 2 _ rfl
     have q3 := hc 3 _ rfl
     rw [Nat.add_zero] at q0
     have hkk : (k : Int) < (pn : Int) := by omega
     have HNX := zh hnext
     clear hc hx hxk hkl hnext
     have hb := str_eqB x.nm s
     by_cases he : x.nm = s
     ·rw [decide_eq_true he] at hb
      have HE := zh he
      clear he
      go_wp2_with fail
      go_roundw
      case rel => exact ⟨k + 1, by go_num, by omega, by rw [HNX.out, if_pos HE.out, List.append_nil]; exact HOW.out, HKP.out⟩
      case measure => simp [intOf]; omega
     ·rw [decide_eq_false he] at hb
      have HE := zh he
      clear he
      have hml : (othC (p.pd.take k) s).length ≤ pn := by
       unfold othC
       refine Nat.le_trans (List.length_filter_le _ _) ?_
       rw [List.length_take]
       have := HPL.out
       omega
      have HML := zh hml
      obtain ⟨m, hm⟩ : ∃ m, (othC (p.pd.take k) s).length = m := ⟨_, rfl⟩
      rw [hm] at HOW HML
      have HM := zh hm
      rw [hm]
      clear hm hml
      go_wp2_with (at_builtin; refine wpList_append_ownB rfl _ _ 27 rfl w7.heap.size 131 j0 _ 4 48 Tryz.underlying27 HJ0.out HY0.out HY1.out HY2.out rfl (by omega) _ m ((othC (p.pd.take k) s).map rcCells).flatten rfl (own_keepB HOW.out ((Kp.refl NoB wq).alloc _) (fun _ _ q => q)) ⟨wq.heap.size, 0, none⟩ 1 1 (rcCells x) rfl rfl (cells_newR _ _ _) (fun u hu => rc_one [x] u (by simpa using hu)) (by have := HML.out; have := HNN.out; unfold maxLen; omega) (by have := HML.out; have := HNN.out; omega) (by have := HKP.out.size; simp; omega) ?_; intro v3 w9 hown3 hgrow3 _; have HO3 := zh hown3; have hk3 := (HKP.out.alloc _).own hgrow3 rfl HOW.out; have HK3 := zh hk3; clear hown3 hgrow3)
      go_roundw
      case rel => exact ⟨k + 1, by go_num, by omega, by
       rw [HNX.out, if_neg HE.out, List.map_append, List.flatten_append, List.length_append, HM.out]
       have e1 : ([x].map rcCells).flatten = rcCells x := by simp
       rw [e1]
       exact HO3.out, HK3.out⟩
      case measure => simp [intOf]; omega
    ·have hkk : ¬ (k : Int) < (pn : Int) := by omega
     obtain rfl : k = pn := by omega
     have eF : othC (p.pd.take k) s = othC p.pd s := by rw [List.take_of_length_le (by have := HPL.out; omega)]
     rw [eF] at HOW
     rw [eF]
     obtain ⟨m, hm⟩ : ∃ m, (othC p.pd s).length = m := ⟨_, rfl⟩
     rw [hm] at HOW ⊢
     have hb0 := HB0.out.keep hkp (fun q => q)
     have hb2 := HB2.out.keep hkp (fun q => q)
     have HX2 := zh hb2
     clear c3
     obtain ⟨c0, c1, c2, c3', c4, c5, c6, c7⟩ := hb0.rdc
     obtain ⟨y0, y1, y2, y3, y4, y5, y6, y7⟩ := hb2.c8
     obtain ⟨z0, z1, z2, z3, z4, z5, z6, z7⟩ := hb2.z8
     have f3 := hb0.frozen 3
     have hl0 := hb0.lt
     have hl2 := hb2.lt
     clear hb0 hb2 eF
     have c3 := HC3.out wq hkp
     clear c3'
     have HM := zh hm
     clear hm
     go_wp2_with fail
     have kz0 : w.heap.size ≤ s0 := by have := HS0.out; omega
     have hb0 := HB0.out.keep HKP.out (fun q => q)
     have kpA : Kp (OnB s0) wq (wq.setCell ⟨s0, 3, none⟩ (.slice A8 m cap8)) := (Kp.refl (OnB s0) wq).setAt (g := s0) rfl 3 _
     have hz : Blk (wq.setCell ⟨s0, 3, none⟩ (.slice A8 m cap8)) (s0 + 1) 29 rdZ := HX2.out.keep kpA (fun q => by have q' : s0 + 1 = s0 := q; omega)
     have R2 := ((HR.out.keep HKP.out).keepB kpA hb0 (rdC_str _ _)).keepB (kp8 (a0 := .bool true) (a1 := .bool p.step.down) (a2 := .slice d6.fA d6.fn d6.fc) (a3 := .slice A8 m cap8) (a4 := .int .i64 p.step.room) (a5 := .int .i64 p.step.steps) (a6 := .int .i64 p.step.crash) (a7 := .int .i64 p.step.starts) (Kp.refl _ _) (.inr rfl)) hz rdZ_str
     refine bodyPost_ret (ret_cell_tmp rfl _ _ _ _ _ _ rfl (blk9 HX2.out rfl (by omega)) Tryz.underlying29 rfl (by exact infoRd) _ rfl) rfl ⟨{ d6 with pA := A8, pn := m, pc := cap8 }, rfl, ?_, kp9 (HK.out.trans HKP.out (fun _ _ q => q)) (.inl kz0) (.inl kz)⟩
     have hkp9 := kp9 (S := fun b => b = s0 ∨ b = s0 + 1) (s0 := s0) (s2 := s0 + 1) (i := 3) (y := .slice A8 m cap8) (a0 := .bool true) (a1 := .bool p.step.down) (a2 := .slice d6.fA d6.fn d6.fc) (a3 := .slice A8 m cap8) (a4 := .int .i64 p.step.room) (a5 := .int .i64 p.step.steps) (a6 := .int .i64 p.step.crash) (a7 := .int .i64 p.step.starts) (Kp.refl _ wq) (.inr (.inl rfl)) (.inr (.inr rfl))
     have ho := own_keepB HOW.out hkp9 (fun g hg q => by
      have h1 := own_ge HOW.out g hg
      have h2 := HB0.out.lt
      have h3 := HB2.out.lt
      rcases q with q | q <;> omega)
     exact
      {files := R2.files, fnil := R2.fnil, fok := R2.fok, names := R2.names, seen := R2.seen, kept := R2.kept, sum := R2.sum, ksum := R2.ksum, nf := R2.nf, room := R2.room, steps := R2.steps, crash := R2.crash, starts := R2.starts
       pend := Rows.own (base := w7.heap.size) (e := 131) (cap := cap8) ho (by rw [List.length_map]; exact HM.out) (rc_len _)
       pnil := own_nil ho
       cok := fun c hc => R2.cok c (List.mem_filter.1 hc).1 }
end
section
open Go.RowKit
theorem strOf_strIW (s : ByteArray) : strOf (strI s) = s := by
 unfold strOf strI
 simp [List.map_map, ByteArray.ext_iff, Function.comp_def]
def WrMain (p : Pl) (s : ByteArray) (a : Int) (D : ByteArray) : Prop := p.down = false ∧ 0 ≤ a ∧ a + D.size ≤ 1048576 ∧ D ≠ ⟨#[]⟩ ∧ p.fits s (max (a + D.size) (p.seen s).length) = 0
set_option maxRecDepth 100000 in
set_option maxHeartbeats 1600000 in
theorem write_badR (w : World) (d : Rd) (p : Pl) (s : ByteArray) (a : Int) (D : ByteArray) (h : Rf w d p) (hs : s.size ≤ maxLen) (hD : D.size ≤ maxLen) (ha : -9223372036854775808 ≤ a ∧ a ≤ 9223372036854775807) (hnf : p.nf < 1099511627776 - 10) (hpd : p.pd.length < 1099511627776 - 20000) (hm : ¬ WrMain p s a D) :
  Calls Tryz.prog 26 #[rdV d p, .string s, .int .i64 a, .string D] w fun e w' => ∃ d', e = .returned (.tuple #[rdV d' (p.write s a (strI D)), .int .i64 (p.writeE s a (strI D))]) ∧ Rf w' d' (p.write s a (strI D)) ∧ Kp NoB w w' := by
 have HM := zh hm
 have H := zh h
 have HS := zh hs
 have HNF := zh hnf
 have HPD := zh hpd
 have HA := zh ha
 have HDL := zh hD
 have hsl := strI_len D
 have hb0 : Blk ((w.alloc (.cells (rdC d p) 29)).alloc (.cells rdZ 29)) w.heap.size 29 (rdC d p) := (Blk.new w _ _).alloc _
 have hb2 : Blk ((w.alloc (.cells (rdC d p) 29)).alloc (.cells rdZ 29)) (w.heap.size + 1) 29 rdZ := Blk.top (by simp)
 have hk : Kp NoB w ((w.alloc (.cells (rdC d p) 29)).alloc (.cells rdZ 29)) := ((Kp.refl NoB w).alloc _).alloc _
 clear h hs hnf hpd ha hD hm
 by_cases hd : p.down = true
 ·have hw : Hid (p.wrong = 7) := zh (by unfold Pl.wrong; rw [hd]; rfl)
  have hT : Hid (p.write s a (strI D) = p ∧ p.writeE s a (strI D) = 7) := zh (by unfold Pl.write Pl.writeE; rw [hd]; simp)
  clear hd
  rw [hT.out.1, hT.out.2]
  unfold rdV
  go_enter Tryz.func26, Tryz.ntmps26
  go_wp2_with fail
  refine (show Calls _ _ #[rdV d p] _ _ from wrong_okR _ d p (H.out.keep hk)).mono ?_
  rintro e w2 ⟨rfl, hk2⟩
  rw [hw.out]
  have HB0 := zh (hb0.keep hk2 (fun q => q))
  have HB2 := zh (hb2.keep hk2 (fun q => q))
  have HK := zh (hk.trans hk2 (fun _ _ q => q))
  clear hb0 hb2 hk hk2
  generalize hs0 : w.heap.size = s0 at HB0 HB2 ⊢
  have HS0 := zh hs0
  have kz : w.heap.size ≤ s0 + 1 := by omega
  clear hs0
  have hl0 := HB0.out.lt
  have hl2 := HB2.out.lt
  obtain ⟨c0, c1, c2, c3, c4, c5, c6, c7⟩ := HB0.out.rdc
  obtain ⟨y0, y1, y2, y3, y4, y5, y6, y7⟩ := HB2.out.c8
  obtain ⟨z0, z1, z2, z3, z4, z5, z6, z7⟩ := HB2.out.z8
  go_wp2_with fail
  refine bodyPost_ret (ret_cell_tmp rfl _ _ _ _ _ _ rfl (blk8 HB2.out rfl) Tryz.underlying29 rfl (by exact infoRd) _ rfl) rfl ⟨d, rfl, (H.out.keep (kp8 HK.out (.inl kz))), kp8 HK.out (.inl kz)⟩
 ·have hd' : p.down = false := by simpa using hd
  have hw : Hid (p.wrong = 0) := zh (by unfold Pl.wrong; rw [hd']; rfl)
  by_cases hneg : a < 0
  ·have hT : Hid (p.write s a (strI D) = p ∧ p.writeE s a (strI D) = 2) := zh (by unfold Pl.write Pl.writeE; rw [hd']; simp [hneg])
   clear hd hd'
   rw [hT.out.1, hT.out.2]
   unfold rdV
   go_enter Tryz.func26, Tryz.ntmps26
   go_wp2_with fail
   refine (show Calls _ _ #[rdV d p] _ _ from wrong_okR _ d p (H.out.keep hk)).mono ?_
   rintro e w2 ⟨rfl, hk2⟩
   rw [hw.out]
   have HB0 := zh (hb0.keep hk2 (fun q => q))
   have HB2 := zh (hb2.keep hk2 (fun q => q))
   have HK := zh (hk.trans hk2 (fun _ _ q => q))
   clear hb0 hb2 hk hk2
   generalize hs0 : w.heap.size = s0 at HB0 HB2 ⊢
   have HS0 := zh hs0
   have kz : w.heap.size ≤ s0 + 1 := by omega
   clear hs0
   have hl0 := HB0.out.lt
   have hl2 := HB2.out.lt
   obtain ⟨c0, c1, c2, c3, c4, c5, c6, c7⟩ := HB0.out.rdc
   obtain ⟨y0, y1, y2, y3, y4, y5, y6, y7⟩ := HB2.out.c8
   obtain ⟨z0, z1, z2, z3, z4, z5, z6, z7⟩ := HB2.out.z8
   go_wp2_with fail
   refine bodyPost_ret (ret_cell_tmp rfl _ _ _ _ _ _ rfl (blk8 HB2.out rfl) Tryz.underlying29 rfl (by exact infoRd) _ rfl) rfl ⟨d, rfl, (H.out.keep (kp8 HK.out (.inl kz))), kp8 HK.out (.inl kz)⟩
  ·by_cases hlong : 1048576 < a ∨ 1048576 - a < (D.size : Int)
   ·have hT : Hid (p.write s a (strI D) = p ∧ p.writeE s a (strI D) = 3) := zh (by
     unfold Pl.write Pl.writeE
     rw [hd', hsl]
     simp only [hneg, Bool.false_eq_true, if_false, false_or, if_pos hlong]
     exact ⟨trivial, trivial⟩)
    have hw1 : IntKind.i64.wrap (1048576 - a) = 1048576 - a := by have := HA.out; rw [IntKind.wrap_i64]; omega
    clear hd hd'
    rw [hT.out.1, hT.out.2]
    have hlong' : 1048576 < a ∨ (¬ 1048576 < a ∧ 1048576 - a < (D.size : Int)) := by omega
    clear hlong
    rcases hlong' with q1 | ⟨q1, q2⟩
    all_goals
     unfold rdV
     go_enter Tryz.func26, Tryz.ntmps26
     go_wp2_with fail
     refine (show Calls _ _ #[rdV d p] _ _ from wrong_okR _ d p (H.out.keep hk)).mono ?_
     rintro e w2 ⟨rfl, hk2⟩
     rw [hw.out]
     have HB0 := zh (hb0.keep hk2 (fun q => q))
     have HB2 := zh (hb2.keep hk2 (fun q => q))
     have HK := zh (hk.trans hk2 (fun _ _ q => q))
     clear hb0 hb2 hk hk2
     generalize hs0 : w.heap.size = s0 at HB0 HB2 ⊢
     have HS0 := zh hs0
     have kz : w.heap.size ≤ s0 + 1 := by omega
     clear hs0
     have hl0 := HB0.out.lt
     have hl2 := HB2.out.lt
     obtain ⟨c0, c1, c2, c3, c4, c5, c6, c7⟩ := HB0.out.rdc
     obtain ⟨y0, y1, y2, y3, y4, y5, y6, y7⟩ := HB2.out.c8
     obtain ⟨z0, z1, z2, z3, z4, z5, z6, z7⟩ := HB2.out.z8
     go_wp2_with fail
     refine bodyPost_ret (ret_cell_tmp rfl _ _ _ _ _ _ rfl (blk8 HB2.out rfl) Tryz.underlying29 rfl (by exact infoRd) _ rfl) rfl ⟨d, rfl, (H.out.keep (kp8 HK.out (.inl kz))), kp8 HK.out (.inl kz)⟩
   ·have hw1 : IntKind.i64.wrap (1048576 - a) = 1048576 - a := by have := HA.out; rw [IntKind.wrap_i64]; omega
    have q1 : ¬ 1048576 < a := by omega
    have q2 : ¬ 1048576 - a < (D.size : Int) := by omega
    by_cases hnil : D = ⟨#[]⟩
    ·have hT : Hid (p.write s a (strI D) = p.step ∧ p.writeE s a (strI D) = p.stepE) := zh (by
      have e : strI D = [] := by rw [hnil]; rfl
      unfold Pl.write Pl.writeE
      rw [hd', hsl, if_pos e, if_pos e]
      simp only [hneg, Bool.false_eq_true, if_false, false_or, if_neg hlong]
      exact ⟨trivial, trivial⟩)
     subst hnil
     clear hd hd' hlong
     rw [hT.out.1, hT.out.2]
     unfold rdV
     go_enter Tryz.func26, Tryz.ntmps26
     go_wp2_with fail
     refine (show Calls _ _ #[rdV d p] _ _ from wrong_okR _ d p (H.out.keep hk)).mono ?_
     rintro e w2 ⟨rfl, hk2⟩
     rw [hw.out]
     have HB0 := zh (hb0.keep hk2 (fun q => q))
     have HB2 := zh (hb2.keep hk2 (fun q => q))
     have HK := zh (hk.trans hk2 (fun _ _ q => q))
     clear hb0 hb2 hk hk2
     generalize hs0 : w.heap.size = s0 at HB0 HB2 ⊢
     have HS0 := zh hs0
     have kz : w.heap.size ≤ s0 + 1 := by omega
     clear hs0
     have hl0 := HB0.out.lt
     have hl2 := HB2.out.lt
     obtain ⟨c0, c1, c2, c3, c4, c5, c6, c7⟩ := HB0.out.rdc
     obtain ⟨y0, y1, y2, y3, y4, y5, y6, y7⟩ := HB2.out.c8
     obtain ⟨z0, z1, z2, z3, z4, z5, z6, z7⟩ := HB2.out.z8
     go_wp2_with fail
     refine (show Calls _ _ #[rdV d p] _ _ from step_okR _ d p (H.out.keep HK.out)).mono ?_
     rintro e w3 ⟨rfl, h3, hk3⟩
     have HR3 := zh h3
     have HB0' := zh (HB0.out.keep hk3 (fun q => q))
     have HB2' := zh (HB2.out.keep hk3 (fun q => q))
     have HK' := zh (HK.out.trans hk3 (fun _ _ q => q))
     clear hk3 HB0 HB2 HK
     have HB0 := HB0'
     have HB2 := HB2'
     have HK := HK'
     clear HB0' HB2' HK' c0 c1 c2 c3 c4 c5 c6 c7 y0 y1 y2 y3 y4 y5 y6 y7 z0 z1 z2 z3 z4 z5 z6 z7 hl0 hl2
     have hl0 := HB0.out.lt
     have hl2 := HB2.out.lt
     obtain ⟨c0, c1, c2, c3, c4, c5, c6, c7⟩ := HB0.out.rdc
     obtain ⟨y0, y1, y2, y3, y4, y5, y6, y7⟩ := HB2.out.c8
     obtain ⟨z0, z1, z2, z3, z4, z5, z6, z7⟩ := HB2.out.z8
     clear h3
     unfold rdV
     go_wp2_with fail
     refine bodyPost_ret (ret_cell_tmp rfl _ _ _ _ _ _ rfl (blk8 HB2.out rfl) Tryz.underlying29 rfl (by exact infoRd) _ rfl) rfl ⟨d, rfl, (HR3.out.keepB (kp8 (Kp.refl _ w3) (.inr rfl)) HB2.out rdZ_str), kp8 HK.out (.inl kz)⟩
    ·have hne : strI D ≠ [] := fun e => hnil (by rw [← strOf_strIW D, e]; rfl)
     obtain ⟨A, rfl⟩ := Int.eq_ofNat_of_zero_le (show 0 ≤ a by omega)
     obtain ⟨n, hn⟩ : ∃ n, D.size = n := ⟨_, rfl⟩
     obtain ⟨l0, hl0⟩ : ∃ l0, p.seen s = l0 := ⟨_, rfl⟩
     have hn0 : 0 < n := by
      rcases Nat.eq_zero_or_pos n with q | q
      ·exact absurd (List.eq_nil_of_length_eq_zero (by rw [hsl]; omega)) hne
      ·exact q
     obtain ⟨F, hF⟩ : ∃ F, p.fits s (max ((A : Int) + n) l0.length) = F := ⟨_, rfl⟩
     have hW : p.writeE s A (strI D) = (if F ≠ 0 then F else p.stepE) ∧ p.write s A (strI D) = if F ≠ 0 then p else p.write1 s A (strI D) := by
      unfold Pl.write Pl.writeE
      rw [hd', hsl, hl0, hn, hF, if_neg hne, if_neg hne]
      simp only [hneg, Bool.false_eq_true, if_false, false_or]
      rw [← hn, if_neg hlong, if_neg hlong]
      exact ⟨rfl, rfl⟩
     have hA1 : A + n ≤ 1048576 := by omega
     have HW := zh hW
     have HFT := zh hF
     have HL0 := zh hl0
     have HNE := zh hne
     have hll := (H.out.look s).1.1
     rw [hl0] at hll
     have hls := strOf_size l0
     have hwe : IntKind.i64.wrap ((A : Int) + (n : Int)) = (A : Int) + (n : Int) := by rw [IntKind.wrap_i64]; omega
     rw [hn] at q2 hsl
     have HSL := zh hsl
     have HSZ := zh hn
     have HDD := zh hd'
     have HNIL := zh hnil
     have hb2' : D.toList.isEmpty = false := by
      rw [ByteArray.toList_eq]
      have h3 : D.data.toList.length = n := hn
      cases hq : D.data.toList with
      | nil => rw [hq] at h3; simp at h3; omega
      | cons x r => rfl
     clear hd hd' hlong hnil hW hF hl0 hne hsl
     obtain ⟨p1, hp1⟩ : ∃ p1, (if l0.length < A + n then p.length s (A + n) else p) = p1 := ⟨_, rfl⟩
     have hnum : p1.down = p.down ∧ p1.room = p.room ∧ p1.steps = p.steps ∧ p1.crash = p.crash ∧ p1.starts = p.starts := by
      rw [← hp1]
      split
      ·exact len_nums p s (A + n)
      ·exact ⟨rfl, rfl, rfl, rfl, rfl⟩
     have HNUM := zh hnum
     have HP1 := zh hp1
     have HRV : Hid (∀ d', rdV d' p = rdV d' p1) := zh (fun d' => by unfold rdV; rw [hnum.1, hnum.2.1, hnum.2.2.1, hnum.2.2.2.1, hnum.2.2.2.2])
     have hcase : (l0.length < A + n) ∨ (l0.length = A + n) ∨ (A + n < l0.length) := by omega
     clear hp1 hnum
     rcases hcase with hg | hg | hg
     ·have g1 : (l0.length : Int) ≤ (A : Int) + (n : Int) := by omega
      have g2 : (l0.length : Int) < (A : Int) + (n : Int) := by omega
      have HFM : Hid (p.fits s ((A : Int) + (n : Int)) = F) := zh (by have := HFT.out; rwa [show max ((A : Int) + n) (l0.length : Int) = (A : Int) + n by omega] at this)
      have hP : Hid (p.length s (A + n) = p1) := zh (by have := HP1.out; rwa [if_pos hg] at this)
      by_cases hf : F = 0
      ·exact absurd ⟨HDD.out, by omega, by rw [HSZ.out]; omega, HNIL.out, by rw [HSZ.out, HL0.out, HFT.out]; exact hf⟩ HM.out
      ·have hf2 : (F != 0) = true := by simpa using hf
       have hf3 : (F == 0) = false := by simpa using hf
       have hT := HW.out
       rw [if_pos hf, if_pos hf] at hT
       rw [hT.1, hT.2]
       clear hT hf
       unfold rdV
       go_enter Tryz.func26, Tryz.ntmps26
       go_wp2_with fail
       refine (show Calls _ _ #[rdV d p] _ _ from wrong_okR _ d p (H.out.keep hk)).mono ?_
       rintro e w2 ⟨rfl, hk2⟩
       rw [hw.out]
       have HB0 := zh (hb0.keep hk2 (fun q => q))
       have HB2 := zh (hb2.keep hk2 (fun q => q))
       have HK := zh (hk.trans hk2 (fun _ _ q => q))
       clear hb0 hb2 hk hk2
       generalize hs0 : w.heap.size = s0 at HB0 HB2 ⊢
       have HS0 := zh hs0
       have kz : w.heap.size ≤ s0 + 1 := by omega
       clear hs0
       have hl0 := HB0.out.lt
       have hl2 := HB2.out.lt
       obtain ⟨c0, c1, c2, c3, c4, c5, c6, c7⟩ := HB0.out.rdc
       obtain ⟨y0, y1, y2, y3, y4, y5, y6, y7⟩ := HB2.out.c8
       obtain ⟨z0, z1, z2, z3, z4, z5, z6, z7⟩ := HB2.out.z8
       go_wp2_with fail
       refine (show Calls _ _ #[rdV d p, .string s] _ _ from seen_ok _ d p s (H.out.keep HK.out) (by have := HNF.out; omega)).mono ?_
       rintro e w3 ⟨rfl, hk3⟩
       rw [HL0.out]
       have HB0' := zh (HB0.out.keep hk3 (fun q => q))
       have HB2' := zh (HB2.out.keep hk3 (fun q => q))
       have HK' := zh (HK.out.trans hk3 (fun _ _ q => q))
       clear hk3 HB0 HB2 HK
       have HB0 := HB0'
       have HB2 := HB2'
       have HK := HK'
       clear HB0' HB2' HK' c0 c1 c2 c3 c4 c5 c6 c7 y0 y1 y2 y3 y4 y5 y6 y7 z0 z1 z2 z3 z4 z5 z6 z7 hl0 hl2
       have hl0 := HB0.out.lt
       have hl2 := HB2.out.lt
       obtain ⟨c0, c1, c2, c3, c4, c5, c6, c7⟩ := HB0.out.rdc
       obtain ⟨y0, y1, y2, y3, y4, y5, y6, y7⟩ := HB2.out.c8
       obtain ⟨z0, z1, z2, z3, z4, z5, z6, z7⟩ := HB2.out.z8
       go_wp2_with fail
       refine (show Calls _ _ #[rdV d p, .string s, .int .i64 ((A : Int) + (n : Int))] _ _ from fits_okR _ d p s _ (H.out.keep HK.out) (by have := HNF.out; omega) (by omega)).mono ?_
       rintro e w4 ⟨rfl, hk4⟩
       rw [HFM.out]
       have HB0' := zh (HB0.out.keep hk4 (fun q => q))
       have HB2' := zh (HB2.out.keep hk4 (fun q => q))
       have HK' := zh (HK.out.trans hk4 (fun _ _ q => q))
       clear hk4 HB0 HB2 HK
       have HB0 := HB0'
       have HB2 := HB2'
       have HK := HK'
       clear HB0' HB2' HK' c0 c1 c2 c3 c4 c5 c6 c7 y0 y1 y2 y3 y4 y5 y6 y7 z0 z1 z2 z3 z4 z5 z6 z7 hl0 hl2
       have hl0 := HB0.out.lt
       have hl2 := HB2.out.lt
       obtain ⟨c0, c1, c2, c3, c4, c5, c6, c7⟩ := HB0.out.rdc
       obtain ⟨y0, y1, y2, y3, y4, y5, y6, y7⟩ := HB2.out.c8
       obtain ⟨z0, z1, z2, z3, z4, z5, z6, z7⟩ := HB2.out.z8
       go_wp2_with fail
       refine bodyPost_ret (ret_cell_tmp rfl _ _ _ _ _ _ rfl (blk8 HB2.out rfl) Tryz.underlying29 rfl (by exact infoRd) _ rfl) rfl ⟨d, rfl, (H.out.keep (kp8 HK.out (.inl kz))), kp8 HK.out (.inl kz)⟩
     ·have g1 : (l0.length : Int) ≤ (A : Int) + (n : Int) := by omega
      have g2 : ¬ (l0.length : Int) < (A : Int) + (n : Int) := by omega
      have HFM : Hid (p.fits s ((A : Int) + (n : Int)) = F) := zh (by have := HFT.out; rwa [show max ((A : Int) + n) (l0.length : Int) = (A : Int) + n by omega] at this)
      have hP : Hid (p = p1) := zh (by have := HP1.out; rwa [if_neg (by omega)] at this)
      by_cases hf : F = 0
      ·exact absurd ⟨HDD.out, by omega, by rw [HSZ.out]; omega, HNIL.out, by rw [HSZ.out, HL0.out, HFT.out]; exact hf⟩ HM.out
      ·have hf2 : (F != 0) = true := by simpa using hf
       have hf3 : (F == 0) = false := by simpa using hf
       have hT := HW.out
       rw [if_pos hf, if_pos hf] at hT
       rw [hT.1, hT.2]
       clear hT hf
       unfold rdV
       go_enter Tryz.func26, Tryz.ntmps26
       go_wp2_with fail
       refine (show Calls _ _ #[rdV d p] _ _ from wrong_okR _ d p (H.out.keep hk)).mono ?_
       rintro e w2 ⟨rfl, hk2⟩
       rw [hw.out]
       have HB0 := zh (hb0.keep hk2 (fun q => q))
       have HB2 := zh (hb2.keep hk2 (fun q => q))
       have HK := zh (hk.trans hk2 (fun _ _ q => q))
       clear hb0 hb2 hk hk2
       generalize hs0 : w.heap.size = s0 at HB0 HB2 ⊢
       have HS0 := zh hs0
       have kz : w.heap.size ≤ s0 + 1 := by omega
       clear hs0
       have hl0 := HB0.out.lt
       have hl2 := HB2.out.lt
       obtain ⟨c0, c1, c2, c3, c4, c5, c6, c7⟩ := HB0.out.rdc
       obtain ⟨y0, y1, y2, y3, y4, y5, y6, y7⟩ := HB2.out.c8
       obtain ⟨z0, z1, z2, z3, z4, z5, z6, z7⟩ := HB2.out.z8
       go_wp2_with fail
       refine (show Calls _ _ #[rdV d p, .string s] _ _ from seen_ok _ d p s (H.out.keep HK.out) (by have := HNF.out; omega)).mono ?_
       rintro e w3 ⟨rfl, hk3⟩
       rw [HL0.out]
       have HB0' := zh (HB0.out.keep hk3 (fun q => q))
       have HB2' := zh (HB2.out.keep hk3 (fun q => q))
       have HK' := zh (HK.out.trans hk3 (fun _ _ q => q))
       clear hk3 HB0 HB2 HK
       have HB0 := HB0'
       have HB2 := HB2'
       have HK := HK'
       clear HB0' HB2' HK' c0 c1 c2 c3 c4 c5 c6 c7 y0 y1 y2 y3 y4 y5 y6 y7 z0 z1 z2 z3 z4 z5 z6 z7 hl0 hl2
       have hl0 := HB0.out.lt
       have hl2 := HB2.out.lt
       obtain ⟨c0, c1, c2, c3, c4, c5, c6, c7⟩ := HB0.out.rdc
       obtain ⟨y0, y1, y2, y3, y4, y5, y6, y7⟩ := HB2.out.c8
       obtain ⟨z0, z1, z2, z3, z4, z5, z6, z7⟩ := HB2.out.z8
       go_wp2_with fail
       refine (show Calls _ _ #[rdV d p, .string s, .int .i64 ((A : Int) + (n : Int))] _ _ from fits_okR _ d p s _ (H.out.keep HK.out) (by have := HNF.out; omega) (by omega)).mono ?_
       rintro e w4 ⟨rfl, hk4⟩
       rw [HFM.out]
       have HB0' := zh (HB0.out.keep hk4 (fun q => q))
       have HB2' := zh (HB2.out.keep hk4 (fun q => q))
       have HK' := zh (HK.out.trans hk4 (fun _ _ q => q))
       clear hk4 HB0 HB2 HK
       have HB0 := HB0'
       have HB2 := HB2'
       have HK := HK'
       clear HB0' HB2' HK' c0 c1 c2 c3 c4 c5 c6 c7 y0 y1 y2 y3 y4 y5 y6 y7 z0 z1 z2 z3 z4 z5 z6 z7 hl0 hl2
       have hl0 := HB0.out.lt
       have hl2 := HB2.out.lt
       obtain ⟨c0, c1, c2, c3, c4, c5, c6, c7⟩ := HB0.out.rdc
       obtain ⟨y0, y1, y2, y3, y4, y5, y6, y7⟩ := HB2.out.c8
       obtain ⟨z0, z1, z2, z3, z4, z5, z6, z7⟩ := HB2.out.z8
       go_wp2_with fail
       refine bodyPost_ret (ret_cell_tmp rfl _ _ _ _ _ _ rfl (blk8 HB2.out rfl) Tryz.underlying29 rfl (by exact infoRd) _ rfl) rfl ⟨d, rfl, (H.out.keep (kp8 HK.out (.inl kz))), kp8 HK.out (.inl kz)⟩
     ·have g1 : (A : Int) + (n : Int) < (l0.length : Int) := by omega
      have g2 : ¬ (l0.length : Int) < (A : Int) + (n : Int) := by omega
      have HFM : Hid (p.fits s (l0.length : Int) = F) := zh (by have := HFT.out; rwa [show max ((A : Int) + n) (l0.length : Int) = (l0.length : Int) by omega] at this)
      have hP : Hid (p = p1) := zh (by have := HP1.out; rwa [if_neg (by omega)] at this)
      by_cases hf : F = 0
      ·exact absurd ⟨HDD.out, by omega, by rw [HSZ.out]; omega, HNIL.out, by rw [HSZ.out, HL0.out, HFT.out]; exact hf⟩ HM.out
      ·have hf2 : (F != 0) = true := by simpa using hf
       have hf3 : (F == 0) = false := by simpa using hf
       have hT := HW.out
       rw [if_pos hf, if_pos hf] at hT
       rw [hT.1, hT.2]
       clear hT hf
       unfold rdV
       go_enter Tryz.func26, Tryz.ntmps26
       go_wp2_with fail
       refine (show Calls _ _ #[rdV d p] _ _ from wrong_okR _ d p (H.out.keep hk)).mono ?_
       rintro e w2 ⟨rfl, hk2⟩
       rw [hw.out]
       have HB0 := zh (hb0.keep hk2 (fun q => q))
       have HB2 := zh (hb2.keep hk2 (fun q => q))
       have HK := zh (hk.trans hk2 (fun _ _ q => q))
       clear hb0 hb2 hk hk2
       generalize hs0 : w.heap.size = s0 at HB0 HB2 ⊢
       have HS0 := zh hs0
       have kz : w.heap.size ≤ s0 + 1 := by omega
       clear hs0
       have hl0 := HB0.out.lt
       have hl2 := HB2.out.lt
       obtain ⟨c0, c1, c2, c3, c4, c5, c6, c7⟩ := HB0.out.rdc
       obtain ⟨y0, y1, y2, y3, y4, y5, y6, y7⟩ := HB2.out.c8
       obtain ⟨z0, z1, z2, z3, z4, z5, z6, z7⟩ := HB2.out.z8
       go_wp2_with fail
       refine (show Calls _ _ #[rdV d p, .string s] _ _ from seen_ok _ d p s (H.out.keep HK.out) (by have := HNF.out; omega)).mono ?_
       rintro e w3 ⟨rfl, hk3⟩
       rw [HL0.out]
       have HB0' := zh (HB0.out.keep hk3 (fun q => q))
       have HB2' := zh (HB2.out.keep hk3 (fun q => q))
       have HK' := zh (HK.out.trans hk3 (fun _ _ q => q))
       clear hk3 HB0 HB2 HK
       have HB0 := HB0'
       have HB2 := HB2'
       have HK := HK'
       clear HB0' HB2' HK' c0 c1 c2 c3 c4 c5 c6 c7 y0 y1 y2 y3 y4 y5 y6 y7 z0 z1 z2 z3 z4 z5 z6 z7 hl0 hl2
       have hl0 := HB0.out.lt
       have hl2 := HB2.out.lt
       obtain ⟨c0, c1, c2, c3, c4, c5, c6, c7⟩ := HB0.out.rdc
       obtain ⟨y0, y1, y2, y3, y4, y5, y6, y7⟩ := HB2.out.c8
       obtain ⟨z0, z1, z2, z3, z4, z5, z6, z7⟩ := HB2.out.z8
       go_wp2_with fail
       refine (show Calls _ _ #[rdV d p, .string s, .int .i64 (l0.length : Int)] _ _ from fits_okR _ d p s _ (H.out.keep HK.out) (by have := HNF.out; omega) (by omega)).mono ?_
       rintro e w4 ⟨rfl, hk4⟩
       rw [HFM.out]
       have HB0' := zh (HB0.out.keep hk4 (fun q => q))
       have HB2' := zh (HB2.out.keep hk4 (fun q => q))
       have HK' := zh (HK.out.trans hk4 (fun _ _ q => q))
       clear hk4 HB0 HB2 HK
       have HB0 := HB0'
       have HB2 := HB2'
       have HK := HK'
       clear HB0' HB2' HK' c0 c1 c2 c3 c4 c5 c6 c7 y0 y1 y2 y3 y4 y5 y6 y7 z0 z1 z2 z3 z4 z5 z6 z7 hl0 hl2
       have hl0 := HB0.out.lt
       have hl2 := HB2.out.lt
       obtain ⟨c0, c1, c2, c3, c4, c5, c6, c7⟩ := HB0.out.rdc
       obtain ⟨y0, y1, y2, y3, y4, y5, y6, y7⟩ := HB2.out.c8
       obtain ⟨z0, z1, z2, z3, z4, z5, z6, z7⟩ := HB2.out.z8
       go_wp2_with fail
       refine bodyPost_ret (ret_cell_tmp rfl _ _ _ _ _ _ rfl (blk8 HB2.out rfl) Tryz.underlying29 rfl (by exact infoRd) _ rfl) rfl ⟨d, rfl, (H.out.keep (kp8 HK.out (.inl kz))), kp8 HK.out (.inl kz)⟩
end
section
open Go.RowKit
def WtRel (w : World) (s0 f : Nat) (p p2 : Pl) (s : ByteArray) (l kp : List Int) (k0 ke : Nat) (v14 : Value) (wr : World) : Prop :=
 ∃ (k : Nat) (dk : Rd), v14 = .int .i64 (k : Int) ∧ k0 ≤ k ∧ k ≤ ke ∧ Blk wr s0 29 (rdC dk p) ∧ Rf wr dk (p2.pend (secs s l k0 k)) ∧ Blk wr (s0 + 1) 29 rdZ ∧ Blk wr f 72 #[.string s, .string (strOf l), .string (strOf kp)] ∧ Kp NoB w wr
theorem pend_pend (p : Pl) (a b : List Cg) : (p.pend a).pend b = p.pend (a ++ b) := by
 unfold Pl.pend
 rw [List.append_assoc]
theorem pend_nil (p : Pl) : p.pend [] = p := by
 unfold Pl.pend
 rw [List.append_nil]
theorem secs_zero (s : ByteArray) (l : List Int) (k : Nat) : secs s l k k = [] := by
 unfold secs
 rw [Nat.sub_self]
 rfl
set_option maxRecDepth 100000 in
set_option maxHeartbeats 1600000 in
theorem write_mainR (w : World) (d : Rd) (p : Pl) (s : ByteArray) (a : Int) (D : ByteArray) (h : Rf w d p) (hs : s.size ≤ maxLen) (hD : D.size ≤ maxLen) (ha : -9223372036854775808 ≤ a ∧ a ≤ 9223372036854775807) (hnf : p.nf < 1099511627776 - 10) (hpd : p.pd.length < 1099511627776 - 20000) (hm : WrMain p s a D) :
  Calls Tryz.prog 26 #[rdV d p, .string s, .int .i64 a, .string D] w fun e w' => ∃ d', e = .returned (.tuple #[rdV d' (p.write s a (strI D)), .int .i64 (p.writeE s a (strI D))]) ∧ Rf w' d' (p.write s a (strI D)) ∧ Kp NoB w w' := by
 have H := zh h
 have HS := zh hs
 have HNF := zh hnf
 have HPD := zh hpd
 have HA := zh ha
 have HDL := zh hD
 have hsl := strI_len D
 obtain ⟨hd', hneg0, hlong0, hnil, hfits⟩ := hm
 have hneg : ¬ a < 0 := by omega
 have hlong : ¬ (1048576 < a ∨ 1048576 - a < (D.size : Int)) := by omega
 have hw : Hid (p.wrong = 0) := zh (by unfold Pl.wrong; rw [hd']; rfl)
 have hw1 : IntKind.i64.wrap (1048576 - a) = 1048576 - a := by have := HA.out; rw [IntKind.wrap_i64]; omega
 have q1 : ¬ 1048576 < a := by omega
 have q2 : ¬ 1048576 - a < (D.size : Int) := by omega
 have hb0 : Blk ((w.alloc (.cells (rdC d p) 29)).alloc (.cells rdZ 29)) w.heap.size 29 (rdC d p) := (Blk.new w _ _).alloc _
 have hb2 : Blk ((w.alloc (.cells (rdC d p) 29)).alloc (.cells rdZ 29)) (w.heap.size + 1) 29 rdZ := Blk.top (by simp)
 have hk : Kp NoB w ((w.alloc (.cells (rdC d p) 29)).alloc (.cells rdZ 29)) := ((Kp.refl NoB w).alloc _).alloc _
 clear h hs hnf hpd ha hD
 have hne : strI D ≠ [] := fun e => hnil (by rw [← strOf_strIW D, e]; rfl)
 obtain ⟨A, rfl⟩ := Int.eq_ofNat_of_zero_le (show 0 ≤ a by omega)
 obtain ⟨n, hn⟩ : ∃ n, D.size = n := ⟨_, rfl⟩
 obtain ⟨l0, hl0⟩ : ∃ l0, p.seen s = l0 := ⟨_, rfl⟩
 have hn0 : 0 < n := by
  rcases Nat.eq_zero_or_pos n with q | q
  ·exact absurd (List.eq_nil_of_length_eq_zero (by rw [hsl]; omega)) hne
  ·exact q
 have hF : p.fits s (max ((A : Int) + n) l0.length) = 0 := by rw [← hn, ← hl0]; exact hfits
 have hW : p.writeE s A (strI D) = p.stepE ∧ p.write s A (strI D) = p.write1 s A (strI D) := by
  unfold Pl.write Pl.writeE
  rw [hd', hsl, hl0, hn, hF, if_neg hne, if_neg hne]
  simp only [hneg, Bool.false_eq_true, if_false, false_or]
  rw [← hn, if_neg hlong, if_neg hlong]
  exact ⟨rfl, rfl⟩
 have hA1 : A + n ≤ 1048576 := by omega
 have HW := zh hW
 have HFT := zh hF
 have HL0 := zh hl0
 have HNE := zh hne
 have hll := (H.out.look s).1.1
 rw [hl0] at hll
 have hls := strOf_size l0
 have hwe : IntKind.i64.wrap ((A : Int) + (n : Int)) = (A : Int) + (n : Int) := by rw [IntKind.wrap_i64]; omega
 rw [hn] at q2 hsl
 have HSL := zh hsl
 have HSZ := zh hn
 have hb2' : D.toList.isEmpty = false := by
  rw [ByteArray.toList_eq]
  have h3 : D.data.toList.length = n := hn
  cases hq : D.data.toList with
  | nil => rw [hq] at h3; simp at h3; omega
  | cons x r => rfl
 clear hd' hlong hnil hW hF hl0 hne hsl hfits hneg0 hlong0
 obtain ⟨p1, hp1⟩ : ∃ p1, (if l0.length < A + n then p.length s (A + n) else p) = p1 := ⟨_, rfl⟩
 have hnum : p1.down = p.down ∧ p1.room = p.room ∧ p1.steps = p.steps ∧ p1.crash = p.crash ∧ p1.starts = p.starts := by
  rw [← hp1]
  split
  ·exact len_nums p s (A + n)
  ·exact ⟨rfl, rfl, rfl, rfl, rfl⟩
 have HNUM := zh hnum
 have HNF1 : Hid (p1.nf < 1099511627776) := zh (by
  have := HNF.out
  rw [← hp1]
  split
  ·unfold Pl.length; split <;> (show p.nf + 1 < _; omega)
  ·omega)
 have HPD1 : Hid (p1.pd.length < 1099511627776 - 19000) := zh (by
  have := HPD.out
  rw [← hp1]
  split
  ·unfold Pl.length
   split
   ·show p.pd.length < _; omega
   ·show (p.pd ++ [_]).length < _
    rw [List.length_append]
    simp only [List.length_cons, List.length_nil]
    omega
  ·omega)
 obtain ⟨l1, hl1⟩ : ∃ l1, p1.seen s = l1 := ⟨_, rfl⟩
 have hl1A : A + n ≤ l1.length := by
  rw [← hl1, ← hp1]
  by_cases q : l0.length < A + n
  ·rw [if_pos q]
   unfold Pl.length
   rw [if_neg (by rw [HL0.out]; omega)]
   show A + n ≤ (upd p.seen s (sizedF (p.seen s) (A + n)) s).length
   rw [upd_same, sizedF_len]
   omega
  ·rw [if_neg q, HL0.out]
   omega
 have HL1 := zh hl1
 clear hl1
 have HP1 := zh hp1
 have HRV : Hid (∀ d', rdV d' p = rdV d' p1) := zh (fun d' => by unfold rdV; rw [hnum.1, hnum.2.1, hnum.2.2.1, hnum.2.2.2.1, hnum.2.2.2.2])
 clear hp1 hnum
 rw [HW.out.1, HW.out.2]
 have HFM := HFT
 unfold rdV
 go_enter Tryz.func26, Tryz.ntmps26
 go_wp2_with fail
 refine (show Calls _ _ #[rdV d p] _ _ from wrong_okR _ d p (H.out.keep hk)).mono ?_
 rintro e w2 ⟨rfl, hk2⟩
 rw [hw.out]
 have HB0 := zh (hb0.keep hk2 (fun q => q))
 have HB2 := zh (hb2.keep hk2 (fun q => q))
 have HK := zh (hk.trans hk2 (fun _ _ q => q))
 clear hb0 hb2 hk hk2
 generalize hs0 : w.heap.size = s0 at HB0 HB2 ⊢
 have HS0 := zh hs0
 have kz : w.heap.size ≤ s0 + 1 := by omega
 clear hs0
 have hl0 := HB0.out.lt
 have hl2 := HB2.out.lt
 obtain ⟨c0, c1, c2, c3, c4, c5, c6, c7⟩ := HB0.out.rdc
 obtain ⟨y0, y1, y2, y3, y4, y5, y6, y7⟩ := HB2.out.c8
 obtain ⟨z0, z1, z2, z3, z4, z5, z6, z7⟩ := HB2.out.z8
 go_wp2_with fail
 refine (show Calls _ _ #[rdV d p, .string s] _ _ from seen_ok _ d p s (H.out.keep HK.out) (by have := HNF.out; omega)).mono ?_
 rintro e w3 ⟨rfl, hk3⟩
 rw [HL0.out]
 have HB0' := zh (HB0.out.keep hk3 (fun q => q))
 have HB2' := zh (HB2.out.keep hk3 (fun q => q))
 have HK' := zh (HK.out.trans hk3 (fun _ _ q => q))
 clear hk3 HB0 HB2 HK
 have HB0 := HB0'
 have HB2 := HB2'
 have HK := HK'
 clear HB0' HB2' HK' c0 c1 c2 c3 c4 c5 c6 c7 y0 y1 y2 y3 y4 y5 y6 y7 z0 z1 z2 z3 z4 z5 z6 z7 hl0 hl2
 have hl0 := HB0.out.lt
 have hl2 := HB2.out.lt
 obtain ⟨c0, c1, c2, c3, c4, c5, c6, c7⟩ := HB0.out.rdc
 obtain ⟨y0, y1, y2, y3, y4, y5, y6, y7⟩ := HB2.out.c8
 obtain ⟨z0, z1, z2, z3, z4, z5, z6, z7⟩ := HB2.out.z8
 go_upto_region 12 with fail
 apply wp_intoJ [10, 48, 49, 50, 51, 52, 53, 54] (G := fun u V => u 10 = .int .i64 0 ∧ Kp NoB w3 V)
 ·by_cases g1 : (l0.length : Int) ≤ (A : Int) + (n : Int)
  ·go_wp2_with fail
   refine (show Calls _ _ #[rdV d p, .string s, .int .i64 ((A : Int) + (n : Int))] _ _ from fits_okR _ d p s _ (H.out.keep HK.out) (by have := HNF.out; omega) (by omega)).mono ?_
   rintro e w4 ⟨rfl, hk4⟩
   rw [show p.fits s ((A : Int) + (n : Int)) = 0 by have h9 := HFM.out; rwa [show max ((A : Int) + (n : Int)) (l0.length : Int) = (A : Int) + (n : Int) by omega] at h9]
   have HK4 := zh hk4
   clear hk4
   go_wp2_with fail
   exact intoJ_of (by kernel_rfl) ⟨rfl, HK4.out⟩
  ·go_wp2_with fail
   refine (show Calls _ _ #[rdV d p, .string s, .int .i64 (l0.length : Int)] _ _ from fits_okR _ d p s _ (H.out.keep HK.out) (by have := HNF.out; omega) (by omega)).mono ?_
   rintro e w4 ⟨rfl, hk4⟩
   rw [show p.fits s (l0.length : Int) = 0 by have h9 := HFM.out; rwa [show max ((A : Int) + (n : Int)) (l0.length : Int) = (l0.length : Int) by omega] at h9]
   have HK4 := zh hk4
   clear hk4
   go_wp2_with fail
   exact intoJ_of (by kernel_rfl) ⟨rfl, HK4.out⟩
 rintro u0 w4 ⟨hu0, hk4⟩
 simp only [fillL, List.foldl_cons, List.foldl_nil, List.setIfInBounds_toArray, List.set_cons_zero, List.set_cons_succ, hu0]
 clear hu0
 have HB0' := zh (HB0.out.keep hk4 (fun q => q))
 have HB2' := zh (HB2.out.keep hk4 (fun q => q))
 have HK' := zh (HK.out.trans hk4 (fun _ _ q => q))
 clear hk4 HB0 HB2 HK
 have HB0 := HB0'
 have HB2 := HB2'
 have HK := HK'
 clear HB0' HB2' HK' c0 c1 c2 c3 c4 c5 c6 c7 y0 y1 y2 y3 y4 y5 y6 y7 z0 z1 z2 z3 z4 z5 z6 z7 hl0 hl2
 have hl0 := HB0.out.lt
 have hl2 := HB2.out.lt
 obtain ⟨c0, c1, c2, c3, c4, c5, c6, c7⟩ := HB0.out.rdc
 obtain ⟨y0, y1, y2, y3, y4, y5, y6, y7⟩ := HB2.out.c8
 obtain ⟨z0, z1, z2, z3, z4, z5, z6, z7⟩ := HB2.out.z8
 go_upto_region 15 with fail
 rename_i KR hKR KC hKC
 have HKR := zh hKR
 have HKC := zh hKC
 clear hKR hKC
 go_wp2_with fail
 refine HKC.out _ _ ?_
 clear HKC
 apply wp_intoJ [62, 63, 64, 65, 66] (G := fun _ V => ∃ d', Blk V s0 29 (rdC d' p) ∧ Rf V d' p1 ∧ Blk V (s0 + 1) 29 rdZ ∧ Kp NoB w V)
 ·by_cases hg : l0.length < A + n
  ·have g2 : (l0.length : Int) < (A : Int) + (n : Int) := by omega
   have hP : Hid (p.length s (A + n) = p1) := zh (by have := HP1.out; rwa [if_pos hg] at this)
   go_wp2_with fail
   refine (show Calls _ _ #[rdV d p, .string s, .int .i64 ((A : Int) + (n : Int))] _ _ from by rw [show (A : Int) + (n : Int) = ((A + n : Nat) : Int) by omega]; exact length_okR _ d p s (A + n) (H.out.keep HK.out) HS.out hA1 (by have := HNF.out; omega) (by have := HPD.out; omega)).mono ?_
   rintro e w5 ⟨d5, rfl, h5, hk5⟩
   have HR5 : Hid (Rf w5 d5 p1) := zh (by rw [← hP.out]; exact h5)
   clear h5
   have HB0' := zh (HB0.out.keep hk5 (fun q => q))
   have HB2' := zh (HB2.out.keep hk5 (fun q => q))
   have HK' := zh (HK.out.trans hk5 (fun _ _ q => q))
   clear hk5 HB0 HB2 HK
   have HB0 := HB0'
   have HB2 := HB2'
   have HK := HK'
   clear HB0' HB2' HK' c0 c1 c2 c3 c4 c5 c6 c7 y0 y1 y2 y3 y4 y5 y6 y7 z0 z1 z2 z3 z4 z5 z6 z7 hl0 hl2
   have hl0 := HB0.out.lt
   have hl2 := HB2.out.lt
   obtain ⟨c0, c1, c2, c3, c4, c5, c6, c7⟩ := HB0.out.rdc
   obtain ⟨y0, y1, y2, y3, y4, y5, y6, y7⟩ := HB2.out.c8
   obtain ⟨z0, z1, z2, z3, z4, z5, z6, z7⟩ := HB2.out.z8
   obtain ⟨x0, x1, x2, x3, x4, x5, x6, x7⟩ := HB0.out.z8
   unfold rdV
   go_wp2_with fail
   refine intoJ_of (by kernel_rfl) ⟨d5, blk8 HB0.out rfl, HR5.out.keepB (kp8 (Kp.refl (OnB s0) w5) (.inr rfl)) HB0.out (rdC_str _ _), HB2.out.keep (kp8 (Kp.refl (OnB s0) w5) (.inr rfl)) (fun q => by have q' : s0 + 1 = s0 := q; omega), kp8 HK.out (.inl (by have := HS0.out; omega))⟩
  ·have g2 : ¬ (l0.length : Int) < (A : Int) + (n : Int) := by omega
   have hP : Hid (p = p1) := zh (by have := HP1.out; rwa [if_neg hg] at this)
   go_wp2_with fail
   refine intoJ_of (by kernel_rfl) ⟨d, HB0.out, by rw [← hP.out]; exact H.out.keep HK.out, HB2.out, HK.out⟩
 rintro u w6 ⟨d5, hb4, hr4, hz4, hw4⟩
 refine HKR.out _ _ ?_
 clear HKR HB0 HB2 HK
 have HB0 := zh hb4
 have HB2 := zh hz4
 have HK := zh hw4
 have HR := zh hr4
 clear hb4 hz4 hw4 hr4 c0 c1 c2 c3 c4 c5 c6 c7 y0 y1 y2 y3 y4 y5 y6 y7 z0 z1 z2 z3 z4 z5 z6 z7 hl0 hl2
 have hl0 := HB0.out.lt
 have hl2 := HB2.out.lt
 obtain ⟨c0, c1, c2, c3, c4, c5, c6, c7⟩ := HB0.out.rdc
 obtain ⟨y0, y1, y2, y3, y4, y5, y6, y7⟩ := HB2.out.c8
 obtain ⟨z0, z1, z2, z3, z4, z5, z6, z7⟩ := HB2.out.z8
 simp only [fillL, List.foldl_cons, List.foldl_nil, List.setIfInBounds_toArray, List.set_cons_zero, List.set_cons_succ]
 go_wp2_with fail
 refine (show Calls _ _ #[rdV d5 p, .string s] _ _ from by rw [HRV.out]; exact file_ok _ d5 p1 s HR.out HNF1.out).mono ?_
 rintro e w7 ⟨rfl, hk7⟩
 have HR7 := zh (HR.out.keep hk7)
 have hl1L := (HR7.out.look s).1.1
 have HL1R := zh (HR7.out.look s).1.2
 have HK1R := zh (HR7.out.look s).2
 rw [HL1.out] at hl1L HL1R ⊢
 have hl1s := strOf_size l1
 clear HR
 have HB0' := zh (HB0.out.keep hk7 (fun q => q))
 have HB2' := zh (HB2.out.keep hk7 (fun q => q))
 have HK' := zh (HK.out.trans hk7 (fun _ _ q => q))
 clear hk7 HB0 HB2 HK
 have HB0 := HB0'
 have HB2 := HB2'
 have HK := HK'
 clear HB0' HB2' HK' c0 c1 c2 c3 c4 c5 c6 c7 y0 y1 y2 y3 y4 y5 y6 y7 z0 z1 z2 z3 z4 z5 z6 z7 hl0 hl2
 have hl0 := HB0.out.lt
 have hl2 := HB2.out.lt
 obtain ⟨c0, c1, c2, c3, c4, c5, c6, c7⟩ := HB0.out.rdc
 obtain ⟨y0, y1, y2, y3, y4, y5, y6, y7⟩ := HB2.out.c8
 obtain ⟨z0, z1, z2, z3, z4, z5, z6, z7⟩ := HB2.out.z8
 unfold fileV
 have hlf : ∀ g, g < w7.heap.size → g ≠ w7.heap.size := fun g q e => by omega
 go_upto_region 18 with fail
 obtain ⟨E, hE⟩ : ∃ E : Nat, A + n = E := ⟨_, rfl⟩
 have hEE : (A : Int) + (n : Int) = (E : Int) := by omega
 rw [hEE]
 have hk8 : Kp NoB w7 (w7.alloc (.cells #[.string s, .string (strOf l1), .string (strOf (p1.kept s))] 72)) := (Kp.refl NoB w7).alloc _
 have hf8 : Blk (w7.alloc (.cells #[.string s, .string (strOf l1), .string (strOf (p1.kept s))] 72)) w7.heap.size 72 #[.string s, .string (strOf l1), .string (strOf (p1.kept s))] := Blk.new _ _ _
 have hl8 : (w7.alloc (.cells #[.string s, .string (strOf l1), .string (strOf (p1.kept s))] 72)).heap.size = w7.heap.size + 1 := by simp
 generalize w7.alloc (.cells #[.string s, .string (strOf l1), .string (strOf (p1.kept s))] 72) = w8 at hk8 hf8 hl8 ⊢
 generalize hff : w7.heap.size = f at hf8 hl8 hl0 hl2 ⊢
 have HFF := zh hff
 have HF8 := zh hf8
 have HL8 := zh hl8
 have HK8 := zh hk8
 have hE0 : E ≤ l1.length := by omega
 have x1 : ((strOf l1).extract 0 A).size = A := by rw [ByteArray.size_extract]; omega
 have x2 : ((strOf l1).extract 0 A ++ D).size = A + n := by rw [ByteArray.size_append, x1, hn]
 have x3 : ((strOf l1).extract E l1.length).size = l1.length - E := by rw [ByteArray.size_extract]; omega
 have hA0 : A ≤ l1.length := by omega
 have hput : (strOf l1).extract 0 A ++ D ++ (strOf l1).extract E l1.length = strOf (Pl.put l1 A (strI D)) := by
  unfold Pl.put
  rw [strOf_app, strOf_app, strOf_strIW, strOf_sub, strOf_sub, List.drop_zero, Nat.sub_zero, HSL.out, hE, show (l1.drop E).take (l1.length - E) = l1.drop E from List.take_of_length_le (by rw [List.length_drop]; exact Nat.le_refl _)]
 have hE63 : E ≤ 9223372036854775807 := by omega
 have hA63 : A ≤ 9223372036854775807 := by omega
 have hl63 : l1.length ≤ 9223372036854775807 := by omega
 have HPUT := zh hput
 clear hff hlf hk8 hput hEE c0 c1 c2 c3 c4 c5 c6 c7 y0 y1 y2 y3 y4 y5 y6 y7 z0 z1 z2 z3 z4 z5 z6 z7
 apply wp_into (G := fun V g => V = w8.drew.setCell ⟨f, 1, none⟩ (.string (strOf (Pl.put l1 A (strI D)))))
 ·obtain ⟨gg, hgg⟩ : ∃ gg : Nat, gg = 0 := ⟨_, rfl⟩
  refine wp_region_held_drew (S := fun _ => True) (by kernel_rfl) trivial (fun hHeld => ?_)
  have d1 := hf8.cell 1
  have f1 := hf8.frozen 1
  have d1' : w8.drew.cell? ⟨f, 1, none⟩ = some (.string (strOf l1)) := d1
  refine tkJ (i := 0) (v := (.pointer (some ⟨f, 1, none⟩))) rfl trivial ?_
  simp only [Act.put, sA, sB, sC]
  refine tkJ (i := 2) (v := (.int .i64 (A : Int))) rfl trivial ?_
  simp only [Act.put, sA, sB, sC]
  refine tkJ (i := 4) (v := (.string D)) rfl trivial ?_
  simp only [Act.put, sA, sB, sC]
  refine tkJ (i := 6) (v := (.pointer (some ⟨f, 1, none⟩))) rfl trivial ?_
  simp only [Act.put, sA, sB, sC]
  refine tkJ (i := 8) (v := (.int .i64 (E : Int))) rfl trivial ?_
  simp only [Act.put, sA, sB, sC]
  refine tkR [1, 7] ?_
  refine AllReadyH.valR (fun W' => w8.drew = W') rfl (by rfl) (.string (strOf l1)) _ (by go_simp) (fun _ _ => trivial) rfl ?_ ?_
  ·rintro _ rfl
   simp only [Act.put, sA, sB, sC]
   refine tkJ (i := 3) (v := (.string ((strOf l1).extract 0 A))) rfl trivial ?_
   simp only [Act.put, sA, sB, sC]
   refine tkJ (i := 5) (v := (.string ((strOf l1).extract 0 A ++ D))) rfl trivial ?_
   simp only [Act.put, sA, sB, sC]
   refine tkR [7] ?_
   refine AllReadyH.valR (fun W' => w8.drew = W') rfl (by rfl) (.string (strOf l1)) _ (by go_simp) (fun _ _ => trivial) rfl ?_ AllReadyH.nil
   rintro _ rfl
   simp only [Act.put, sA, sB, sC]
   refine tkJ (i := 9) (v := (.string ((strOf l1).extract E l1.length))) rfl trivial ?_
   simp only [Act.put, sA, sB, sC]
   refine tkJ (i := 10) (v := (.string ((strOf l1).extract 0 A ++ D ++ (strOf l1).extract E l1.length))) rfl trivial ?_
   simp only [Act.put, sA, sB, sC]
   refine tkJ (i := 11) (v := (.pointer (some ⟨f, 1, none⟩))) rfl trivial ?_
   simp only [Act.put, sA, sB, sC]
   refine tkR [12] ?_
   refine AllReadyH.skipR rfl (by rfl) (w8.drew.setCell ⟨f, 1, none⟩ (.string ((strOf l1).extract 0 A ++ D ++ (strOf l1).extract E l1.length))) (by go_simp) trivial ?_ AllReadyH.nil
   refine wpAnyH_done (by kernel_rfl) ?_ _
   exact into_of gg (by rw [HPUT.out]) rfl
  ·refine AllReadyH.valR (fun W' => w8.drew = W') rfl (by rfl) (.string (strOf l1)) _ (by go_simp) (fun _ _ => trivial) rfl ?_ AllReadyH.nil
   rintro _ rfl
   simp only [Act.put, sA, sB, sC]
   refine tkJ (i := 9) (v := (.string ((strOf l1).extract E l1.length))) rfl trivial ?_
   simp only [Act.put, sA, sB, sC]
   refine tkR [1] ?_
   refine AllReadyH.valR (fun W' => w8.drew = W') rfl (by rfl) (.string (strOf l1)) _ (by go_simp) (fun _ _ => trivial) rfl ?_ AllReadyH.nil
   rintro _ rfl
   simp only [Act.put, sA, sB, sC]
   refine tkJ (i := 3) (v := (.string ((strOf l1).extract 0 A))) rfl trivial ?_
   simp only [Act.put, sA, sB, sC]
   refine tkJ (i := 5) (v := (.string ((strOf l1).extract 0 A ++ D))) rfl trivial ?_
   simp only [Act.put, sA, sB, sC]
   refine tkJ (i := 10) (v := (.string ((strOf l1).extract 0 A ++ D ++ (strOf l1).extract E l1.length))) rfl trivial ?_
   simp only [Act.put, sA, sB, sC]
   refine tkJ (i := 11) (v := (.pointer (some ⟨f, 1, none⟩))) rfl trivial ?_
   simp only [Act.put, sA, sB, sC]
   refine tkR [12] ?_
   refine AllReadyH.skipR rfl (by rfl) (w8.drew.setCell ⟨f, 1, none⟩ (.string ((strOf l1).extract 0 A ++ D ++ (strOf l1).extract E l1.length))) (by go_simp) trivial ?_ AllReadyH.nil
   refine wpAnyH_done (by kernel_rfl) ?_ _
   exact into_of gg (by rw [HPUT.out]) rfl
 ·rintro g V hV
  obtain ⟨l, hl⟩ : ∃ l, Pl.put l1 A (strI D) = l := ⟨_, rfl⟩
  rw [hl] at hV HPUT
  have hll2 : l.length = l1.length := by
   rw [← hl]
   unfold Pl.put
   simp only [List.length_append, List.length_take, List.length_drop, HSL.out]
   omega
  have hlr : ∀ y ∈ l, 0 ≤ y ∧ y < 256 := fun y hy => by
   rw [← hl] at hy
   unfold Pl.put at hy
   rcases List.mem_append.1 hy with q | q
   ·rcases List.mem_append.1 q with q | q
    ·exact HL1R.out y (List.mem_of_mem_take q)
    ·exact strI_rng D y q
   ·exact HL1R.out y (List.mem_of_mem_drop q)
  have HLL := zh hl
  have HLR := zh hlr
  have hkV : Kp NoB w7 V := by
   rw [hV]
   exact HK8.out.drew.setCell (.inl (by show _ ≤ f; have := HFF.out; omega)) _
  have hfV : Blk V f 72 #[.string s, .string (strOf l), .string (strOf (p1.kept s))] := by
   rw [hV]
   exact HF8.out.drew.set_ 1 _
  have HFV := zh hfV
  have HRV7 := zh (HR7.out.keep hkV)
  clear hV hl hlr hfV HF8 HR7 HPUT x1 x2 x3 hf8 hl8
  have HLF := zh (show s0 < f ∧ s0 + 1 < f from ⟨hl0, hl2⟩)
  clear hl0 hl2
  have HB0' := zh (HB0.out.keep hkV (fun q => q))
  have HB2' := zh (HB2.out.keep hkV (fun q => q))
  have HK' := zh (HK.out.trans hkV (fun _ _ q => q))
  clear hkV HB0 HB2 HK
  have HB0 := HB0'
  have HB2 := HB2'
  have HK := HK'
  clear HB0' HB2' HK'
  have hl0 := HB0.out.lt
  have hl2 := HB2.out.lt
  obtain ⟨c0, c1, c2, c3, c4, c5, c6, c7⟩ := HB0.out.rdc
  obtain ⟨y0, y1, y2, y3, y4, y5, y6, y7⟩ := HB2.out.c8
  obtain ⟨z0, z1, z2, z3, z4, z5, z6, z7⟩ := HB2.out.z8
  obtain ⟨d0, d1, d2⟩ := HFV.out.c3
  have hlV := HFV.out.lt
  go_wp2_with fail
  refine (show Calls _ _ #[rdV d5 p, .agg (fileV s l (p1.kept s))] _ _ from by rw [HRV.out]; exact with_ok _ d5 p1 ⟨s, l, p1.kept s⟩ HRV7.out ⟨HS.out, HLR.out, HK1R.out.2, by show l.length ≤ _; omega, HK1R.out.1⟩ HNF1.out).mono ?_
  rintro e w9 ⟨d9, rfl, h9, hk9⟩
  have HR9 : Hid (Rf w9 d9 (p1.at_.setSeen s l)) := zh (by
   have e9 : (p1.at_.setSeen s l).setKept s (p1.kept s) = p1.at_.setSeen s l := kept_same (p1.at_.setSeen s l) s
   rw [← e9]; exact h9)
  have HF9 := zh (HFV.out.keep hk9 (fun q => q))
  rw [← HRV.out]
  clear h9 d0 d1 d2 hlV
  have HB0' := zh (HB0.out.keep hk9 (fun q => q))
  have HB2' := zh (HB2.out.keep hk9 (fun q => q))
  have HK' := zh (HK.out.trans hk9 (fun _ _ q => q))
  clear hk9 HB0 HB2 HK
  have HB0 := HB0'
  have HB2 := HB2'
  have HK := HK'
  clear HB0' HB2' HK' c0 c1 c2 c3 c4 c5 c6 c7 y0 y1 y2 y3 y4 y5 y6 y7 z0 z1 z2 z3 z4 z5 z6 z7 hl0 hl2
  have hl0 := HB0.out.lt
  have hl2 := HB2.out.lt
  obtain ⟨c0, c1, c2, c3, c4, c5, c6, c7⟩ := HB0.out.rdc
  obtain ⟨y0, y1, y2, y3, y4, y5, y6, y7⟩ := HB2.out.c8
  obtain ⟨z0, z1, z2, z3, z4, z5, z6, z7⟩ := HB2.out.z8
  obtain ⟨x0, x1, x2, x3, x4, x5, x6, x7⟩ := HB0.out.z8
  unfold rdV
  go_upto_region 20 with fail
  have hfx : Blk (((((((((w9.setCell ⟨s0, 0, none⟩ (.bool true)).setCell ⟨s0, 1, none⟩ (.bool p.down)).setCell ⟨s0, 2, none⟩ (.slice d9.fA d9.fn d9.fc)).setCell ⟨s0, 3, none⟩ (.slice d9.pA d9.pn d9.pc)).setCell ⟨s0, 4, none⟩ (.int .i64 p.room)).setCell ⟨s0, 5, none⟩ (.int .i64 p.steps)).setCell ⟨s0, 6, none⟩ (.int .i64 p.crash)).setCell ⟨s0, 7, none⟩ (.int .i64 p.starts))) f 72 #[.string s, .string (strOf l), .string (strOf (p1.kept s))] := HF9.out.keep (kp8 (S := OnB s0) (Kp.refl _ w9) (.inr rfl)) (fun q => by have q' : f = s0 := q; have := HLF.out; omega)
  have kz0 : w.heap.size ≤ s0 := by have := HS0.out; omega
  have hb4 : Blk (((((((((w9.setCell ⟨s0, 0, none⟩ (.bool true)).setCell ⟨s0, 1, none⟩ (.bool p.down)).setCell ⟨s0, 2, none⟩ (.slice d9.fA d9.fn d9.fc)).setCell ⟨s0, 3, none⟩ (.slice d9.pA d9.pn d9.pc)).setCell ⟨s0, 4, none⟩ (.int .i64 p.room)).setCell ⟨s0, 5, none⟩ (.int .i64 p.steps)).setCell ⟨s0, 6, none⟩ (.int .i64 p.crash)).setCell ⟨s0, 7, none⟩ (.int .i64 p.starts))) s0 29 (rdC d9 p) := blk8 HB0.out rfl
  have hq4 : Kp (OnB s0) w9 (((((((((w9.setCell ⟨s0, 0, none⟩ (.bool true)).setCell ⟨s0, 1, none⟩ (.bool p.down)).setCell ⟨s0, 2, none⟩ (.slice d9.fA d9.fn d9.fc)).setCell ⟨s0, 3, none⟩ (.slice d9.pA d9.pn d9.pc)).setCell ⟨s0, 4, none⟩ (.int .i64 p.room)).setCell ⟨s0, 5, none⟩ (.int .i64 p.steps)).setCell ⟨s0, 6, none⟩ (.int .i64 p.crash)).setCell ⟨s0, 7, none⟩ (.int .i64 p.starts))) := kp8 (Kp.refl _ w9) (.inr rfl)
  have hr4 : Rf (((((((((w9.setCell ⟨s0, 0, none⟩ (.bool true)).setCell ⟨s0, 1, none⟩ (.bool p.down)).setCell ⟨s0, 2, none⟩ (.slice d9.fA d9.fn d9.fc)).setCell ⟨s0, 3, none⟩ (.slice d9.pA d9.pn d9.pc)).setCell ⟨s0, 4, none⟩ (.int .i64 p.room)).setCell ⟨s0, 5, none⟩ (.int .i64 p.steps)).setCell ⟨s0, 6, none⟩ (.int .i64 p.crash)).setCell ⟨s0, 7, none⟩ (.int .i64 p.starts))) d9 (p1.at_.setSeen s l) := (HR9.out).keepB hq4 HB0.out (rdC_str _ _)
  have hz4 : Blk (((((((((w9.setCell ⟨s0, 0, none⟩ (.bool true)).setCell ⟨s0, 1, none⟩ (.bool p.down)).setCell ⟨s0, 2, none⟩ (.slice d9.fA d9.fn d9.fc)).setCell ⟨s0, 3, none⟩ (.slice d9.pA d9.pn d9.pc)).setCell ⟨s0, 4, none⟩ (.int .i64 p.room)).setCell ⟨s0, 5, none⟩ (.int .i64 p.steps)).setCell ⟨s0, 6, none⟩ (.int .i64 p.crash)).setCell ⟨s0, 7, none⟩ (.int .i64 p.starts))) (s0 + 1) 29 rdZ := HB2.out.keep hq4 (fun q => by have q' : s0 + 1 = s0 := q; omega)
  have hw4 : Kp NoB w (((((((((w9.setCell ⟨s0, 0, none⟩ (.bool true)).setCell ⟨s0, 1, none⟩ (.bool p.down)).setCell ⟨s0, 2, none⟩ (.slice d9.fA d9.fn d9.fc)).setCell ⟨s0, 3, none⟩ (.slice d9.pA d9.pn d9.pc)).setCell ⟨s0, 4, none⟩ (.int .i64 p.room)).setCell ⟨s0, 5, none⟩ (.int .i64 p.steps)).setCell ⟨s0, 6, none⟩ (.int .i64 p.crash)).setCell ⟨s0, 7, none⟩ (.int .i64 p.starts))) := kp8 HK.out (.inl kz0)
  clear hq4 HB0 HB2 HK
  generalize ((((((((w9.setCell ⟨s0, 0, none⟩ (.bool true)).setCell ⟨s0, 1, none⟩ (.bool p.down)).setCell ⟨s0, 2, none⟩ (.slice d9.fA d9.fn d9.fc)).setCell ⟨s0, 3, none⟩ (.slice d9.pA d9.pn d9.pc)).setCell ⟨s0, 4, none⟩ (.int .i64 p.room)).setCell ⟨s0, 5, none⟩ (.int .i64 p.steps)).setCell ⟨s0, 6, none⟩ (.int .i64 p.crash)).setCell ⟨s0, 7, none⟩ (.int .i64 p.starts)) = w10 at hb4 hr4 hz4 hw4 hfx ⊢
  have HB0 := zh hb4
  have HB2 := zh hz4
  have HK := zh hw4
  have HR := zh hr4
  clear hb4 hz4 hw4 hr4 c0 c1 c2 c3 c4 c5 c6 c7 y0 y1 y2 y3 y4 y5 y6 y7 z0 z1 z2 z3 z4 z5 z6 z7 hl0 hl2 kz0
  have hl0 := HB0.out.lt
  have hl2 := HB2.out.lt
  obtain ⟨c0, c1, c2, c3, c4, c5, c6, c7⟩ := HB0.out.rdc
  obtain ⟨y0, y1, y2, y3, y4, y5, y6, y7⟩ := HB2.out.c8
  obtain ⟨z0, z1, z2, z3, z4, z5, z6, z7⟩ := HB2.out.z8
  have HFX := zh hfx
  clear hfx
  have HQ0 : Hid ((A : Int) / 64 = ((A / 64 : Nat) : Int)) := zh (by omega)
  have HL2 := zh hll2
  clear hll2
  have hls2 := strOf_size l
  go_wp2_with fail
  go_loopw [14, 15] (fun v14 v15 wr => WtRel w s0 f p (p1.at_.setSeen s l) s l (p1.kept s) (A / 64) ((E + 63) / 64) v14 wr) (fun v _ _ => (E + 63) / 64 - (intOf v).toNat)
  case atStart => exact ⟨A / 64, d9, by rw [HQ0.out], Nat.le_refl _, by omega, HB0.out, by rw [secs_zero, pend_nil]; exact HR.out, HB2.out, HFX.out, HK.out⟩
  case round =>
   obtain ⟨wq, rfl⟩ : ∃ wq, wq = wr := ⟨_, rfl⟩
   obtain ⟨k, dk, rfl, hk0, hk1, hb0, hr, hb2, hbf, hkp⟩ := hrel
   have XB0 := zh hb0
   have XR := zh hr
   have XB2 := zh hb2
   have XF := zh hbf
   have XK := zh hkp
   have XK0 := zh hk0
   have XK1 := zh hk1
   obtain ⟨kk, hkk⟩ : ∃ kk, k * 64 = kk := ⟨_, rfl⟩
   have HKK := zh hkk
   have hwm : IntKind.i64.wrap ((k : Int) * 64) = (kk : Int) := by rw [IntKind.wrap_i64]; omega
   clear hb0 hr hb2 hbf hkp hk0 hk1 hkk
   obtain ⟨d0, d1, d2⟩ := XF.out.c3
   by_cases hlt : kk < E
   ·have hlt' : (kk : Int) < (E : Int) := by omega
    have hkl : kk ≤ l.length := by have := HL2.out; omega
    have hl63' : l.length ≤ 9223372036854775807 := by have := HL2.out; omega
    have x1 : ((strOf l).extract kk l.length).size = l.length - kk := by rw [ByteArray.size_extract]; omega
    have y1' : (strOf l).extract kk l.length = strOf (l.drop kk) := by rw [strOf_sub, List.take_of_length_le (by simp)]
    go_upto_region 24 with fail
    clear x1 y1' d0 d1 d2
    obtain ⟨c0, c1, c2, c3, c4, c5, c6, c7⟩ := XB0.out.rdc
    obtain ⟨z0, z1, z2, z3, z4, z5, z6, z7⟩ := XB0.out.z8
    have HSZ9 : Hid (∀ V, Kp NoB wq V → Calls Tryz.prog 75 #[.string (strOf (l.drop kk)), .int .i64 64] V fun e w' => e = .returned (.string (strOf (sizedF (l.drop kk) 64))) ∧ Kp NoB V w') := zh (fun V _ => sized_ok V (l.drop kk) 64 (by rw [List.length_drop]; have := HL2.out; omega) (by omega))
    have HCH9 : Hid (∀ V, Kp NoB wq V → Calls Tryz.prog 74 #[rdV dk p, .agg #[.string s, .int .i64 (k : Int), .int .i64 0, .string (strOf (sizedF (l.drop kk) 64))]] V fun e w' => ∃ d', e = .returned (rdV d' p) ∧ Rf w' d' ((p1.at_.setSeen s l).pend (secs s l (A / 64) (k + 1))) ∧ Kp NoB V w') := zh (fun V hV => by
     have hrv : ∀ d', rdV d' ((p1.at_.setSeen s l).pend (secs s l (A / 64) k)) = rdV d' p := fun d' => by rw [HRV.out d']; rfl
     have h1 := change_okR V dk ((p1.at_.setSeen s l).pend (secs s l (A / 64) k)) ⟨s, (k : Int), 0, sizedF (l.drop kk) 64⟩ (XR.out.keep hV) ⟨.inr ⟨sizedF_len _ _, by show (0 : Int) ≤ (k : Int); omega, by show (k : Int) ≤ 16384; have := HKK.out; omega, rfl⟩, fun y hy => sizedF_rng (fun x hx => HLR.out x (List.mem_of_mem_drop hx)) 64 y hy, HS.out⟩ (by
      show (p1.pd ++ secs s l (A / 64) k).length < _
      rw [List.length_append, secs_len]
      have := HPD1.out
      have := HKK.out
      omega)
     rw [hrv] at h1
     refine h1.mono ?_
     rintro e w' ⟨d', rfl, h2, h3⟩
     refine ⟨d', by rw [hrv], ?_, h3⟩
     rw [pend_pend] at h2
     rw [secs_next s l XK0.out, HKK.out]
     exact h2)
    apply wp_into4 (G := fun V g h u v => ∃ d' W', u = rdV d' p ∧ V = (((((((((W'.setCell ⟨s0, 0, none⟩ (.bool true)).setCell ⟨s0, 1, none⟩ (.bool p.down)).setCell ⟨s0, 2, none⟩ (.slice d'.fA d'.fn d'.fc)).setCell ⟨s0, 3, none⟩ (.slice d'.pA d'.pn d'.pc)).setCell ⟨s0, 4, none⟩ (.int .i64 p.room)).setCell ⟨s0, 5, none⟩ (.int .i64 p.steps)).setCell ⟨s0, 6, none⟩ (.int .i64 p.crash)).setCell ⟨s0, 7, none⟩ (.int .i64 p.starts))) ∧ Rf W' d' ((p1.at_.setSeen s l).pend (secs s l (A / 64) (k + 1))) ∧ Kp NoB wq W')
    ·obtain ⟨gg, hgg⟩ : ∃ gg : Nat, gg = 0 := ⟨_, rfl⟩
     obtain ⟨hh, hhh⟩ : ∃ gg : Nat, gg = 0 := ⟨_, rfl⟩
     obtain ⟨vv, hvv⟩ : ∃ vv : Value, vv = .bool true := ⟨_, rfl⟩
     refine wp_region_held_drew (S := fun _ => True) (by kernel_rfl) trivial (fun hHeld => ?_)
     have k0 : Kp NoB wq wq.drew := (Kp.refl NoB wq).drew
     generalize wq.drew = V0 at k0 hHeld ⊢
     refine tkJ (i := 1) (v := (.string s)) rfl trivial ?_
     simp only [Act.put, sA, sB, sC]
     refine tkJ (i := 2) (v := (.int .i64 (k : Int))) rfl trivial ?_
     simp only [Act.put, sA, sB, sC]
     refine tkJ (i := 3) (v := (.string (strOf (l.drop kk)))) rfl trivial ?_
     simp only [Act.put, sA, sB, sC]
     refine tkR [0, 4] ?_
     refine AllReadyH.valR (fun W' => V0 = W') rfl (by rfl) (rdV dk p) _ (by (obtain ⟨c0, c1, c2, c3, c4, c5, c6, c7⟩ := (XB0.out.keep k0 (fun q => q)).rdc; unfold rdV; go_simp)) (fun _ _ => trivial) rfl ?_ ?_
     ·rintro _ rfl
      simp only [Act.put, sA, sB, sC]
      refine tkR [4] ?_
      refine AllReadyH.callR (fun x W' => x = .string (strOf (sizedF (l.drop kk) 64)) ∧ Kp NoB wq W') rfl (by rfl) 75 #[.string (strOf (l.drop kk)), .int .i64 64] (by first | (go_simp; done) | (go_simp; rfl)) (fun _ _ q => trivial) ((HSZ9.out V0 k0).mono (by rintro e w' ⟨rfl, hk⟩; exact ⟨_, rfl, rfl, k0.trans hk (fun _ _ q => q)⟩)) ?_ AllReadyH.nil
      rintro x V1 ⟨rfl, k1⟩
      simp only [Act.put, sA, sB, sC]
      refine tkJ (i := 5) (v := (.agg #[.string s, .int .i64 (k : Int), .int .i64 0, .string (strOf (sizedF (l.drop kk) 64))])) rfl trivial ?_
      simp only [Act.put, sA, sB, sC]
      refine tkR [6] ?_
      refine AllReadyH.callR (fun x W' => ∃ d', x = rdV d' p ∧ Rf W' d' ((p1.at_.setSeen s l).pend (secs s l (A / 64) (k + 1))) ∧ Kp NoB wq W') rfl (by rfl) 74 #[rdV dk p, .agg #[.string s, .int .i64 (k : Int), .int .i64 0, .string (strOf (sizedF (l.drop kk) 64))]] (by first | (go_simp; done) | (go_simp; rfl)) (fun _ _ q => trivial) ((HCH9.out V1 k1).mono (by rintro e w' ⟨d', rfl, h2, hk⟩; exact ⟨_, rfl, d', rfl, h2, (k1).trans hk (fun _ _ q => q)⟩)) ?_ AllReadyH.nil
      rintro x V2 ⟨d', rfl, h2, k2⟩
      simp only [Act.put, sA, sB, sC]
      refine tkR [7] ?_
      refine AllReadyH.skipR rfl (by rfl) (((((((((V2.setCell ⟨s0, 0, none⟩ (.bool true)).setCell ⟨s0, 1, none⟩ (.bool p.down)).setCell ⟨s0, 2, none⟩ (.slice d'.fA d'.fn d'.fc)).setCell ⟨s0, 3, none⟩ (.slice d'.pA d'.pn d'.pc)).setCell ⟨s0, 4, none⟩ (.int .i64 p.room)).setCell ⟨s0, 5, none⟩ (.int .i64 p.steps)).setCell ⟨s0, 6, none⟩ (.int .i64 p.crash)).setCell ⟨s0, 7, none⟩ (.int .i64 p.starts))) (by (obtain ⟨c0, c1, c2, c3, c4, c5, c6, c7⟩ := (XB0.out.keep k2 (fun q => q)).rdc; obtain ⟨z0, z1, z2, z3, z4, z5, z6, z7⟩ := (XB0.out.keep k2 (fun q => q)).z8; unfold rdV; go_simp)) trivial ?_ AllReadyH.nil
      refine wpAnyH_done (by kernel_rfl) ?_ _
      obtain ⟨uu, huu⟩ : ∃ uu, rdV d' p = uu := ⟨_, rfl⟩
      rw [huu]
      exact into4_of gg hh uu vv ⟨d', V2, huu.symm, rfl, h2, k2⟩ rfl
     ·refine AllReadyH.callR (fun x W' => x = .string (strOf (sizedF (l.drop kk) 64)) ∧ Kp NoB wq W') rfl (by rfl) 75 #[.string (strOf (l.drop kk)), .int .i64 64] (by first | (go_simp; done) | (go_simp; rfl)) (fun _ _ q => trivial) ((HSZ9.out V0 k0).mono (by rintro e w' ⟨rfl, hk⟩; exact ⟨_, rfl, rfl, k0.trans hk (fun _ _ q => q)⟩)) ?_ AllReadyH.nil
      rintro x V1 ⟨rfl, k1⟩
      simp only [Act.put, sA, sB, sC]
      refine tkJ (i := 5) (v := (.agg #[.string s, .int .i64 (k : Int), .int .i64 0, .string (strOf (sizedF (l.drop kk) 64))])) rfl trivial ?_
      simp only [Act.put, sA, sB, sC]
      refine tkR [0] ?_
      refine AllReadyH.valR (fun W' => V1 = W') rfl (by rfl) (rdV dk p) _ (by (obtain ⟨c0, c1, c2, c3, c4, c5, c6, c7⟩ := (XB0.out.keep k1 (fun q => q)).rdc; unfold rdV; go_simp)) (fun _ _ => trivial) rfl ?_ AllReadyH.nil
      rintro _ rfl
      simp only [Act.put, sA, sB, sC]
      refine tkR [6] ?_
      refine AllReadyH.callR (fun x W' => ∃ d', x = rdV d' p ∧ Rf W' d' ((p1.at_.setSeen s l).pend (secs s l (A / 64) (k + 1))) ∧ Kp NoB wq W') rfl (by rfl) 74 #[rdV dk p, .agg #[.string s, .int .i64 (k : Int), .int .i64 0, .string (strOf (sizedF (l.drop kk) 64))]] (by first | (go_simp; done) | (go_simp; rfl)) (fun _ _ q => trivial) ((HCH9.out V1 k1).mono (by rintro e w' ⟨d', rfl, h2, hk⟩; exact ⟨_, rfl, d', rfl, h2, (k1).trans hk (fun _ _ q => q)⟩)) ?_ AllReadyH.nil
      rintro x V2 ⟨d', rfl, h2, k2⟩
      simp only [Act.put, sA, sB, sC]
      refine tkR [7] ?_
      refine AllReadyH.skipR rfl (by rfl) (((((((((V2.setCell ⟨s0, 0, none⟩ (.bool true)).setCell ⟨s0, 1, none⟩ (.bool p.down)).setCell ⟨s0, 2, none⟩ (.slice d'.fA d'.fn d'.fc)).setCell ⟨s0, 3, none⟩ (.slice d'.pA d'.pn d'.pc)).setCell ⟨s0, 4, none⟩ (.int .i64 p.room)).setCell ⟨s0, 5, none⟩ (.int .i64 p.steps)).setCell ⟨s0, 6, none⟩ (.int .i64 p.crash)).setCell ⟨s0, 7, none⟩ (.int .i64 p.starts))) (by (obtain ⟨c0, c1, c2, c3, c4, c5, c6, c7⟩ := (XB0.out.keep k2 (fun q => q)).rdc; obtain ⟨z0, z1, z2, z3, z4, z5, z6, z7⟩ := (XB0.out.keep k2 (fun q => q)).z8; unfold rdV; go_simp)) trivial ?_ AllReadyH.nil
      refine wpAnyH_done (by kernel_rfl) ?_ _
      obtain ⟨uu, huu⟩ : ∃ uu, rdV d' p = uu := ⟨_, rfl⟩
      rw [huu]
      exact into4_of gg hh uu vv ⟨d', V2, huu.symm, rfl, h2, k2⟩ rfl
    ·rintro g h u v V ⟨d', W', rfl, hV, hR, hK⟩
     have hkW : Kp NoB wq W' := hK
     have hq : Kp (OnB s0) W' V := by rw [hV]; exact kp8 (Kp.refl _ W') (.inr rfl)
     have yb0 := XB0.out.keep hkW (fun q => q)
     have e0 : Blk V s0 29 (rdC d' p) := by rw [hV]; exact blk8 yb0 rfl
     have eR : Rf V d' ((p1.at_.setSeen s l).pend (secs s l (A / 64) (k + 1))) := hR.keepB hq yb0 (rdC_str _ _)
     have e2 : Blk V (s0 + 1) 29 rdZ := (XB2.out.keep hkW (fun q => q)).keep hq (fun q => by have q' : s0 + 1 = s0 := q; omega)
     have eF := (XF.out.keep hkW (fun q => q)).keep hq (fun q => by have q' : f = s0 := q; have := HLF.out; omega)
     have eK : Kp NoB w V := by rw [hV]; exact kp8 (XK.out.trans hkW (fun _ _ q => q)) (.inl (by have := HS0.out; omega))
     have E9 := zh (show WtRel w s0 f p (p1.at_.setSeen s l) s l (p1.kept s) (A / 64) ((E + 63) / 64) (.int .i64 ((k + 1 : Nat) : Int)) V from ⟨k + 1, d', rfl, by have := XK0.out; omega, by have := HKK.out; omega, e0, eR, e2, eF, eK⟩)
     clear hV hR hK hkW hq yb0 e0 eR e2 eF eK c0 c1 c2 c3 c4 c5 c6 c7 z0 z1 z2 z3 z4 z5 z6 z7
     have hk16 : k < 1048576 := by have := HKK.out; omega
     go_wp2_with fail
     go_roundw
     case rel => exact E9.out
     case measure => simp [intOf]; have := HKK.out; omega
   ·have hlt' : ¬ (kk : Int) < (E : Int) := by omega
    have hke : k = (E + 63) / 64 := by have := HKK.out; have := XK1.out; omega
    have EW : Hid (p.write1 s A (strI D) = ((p1.at_.setSeen s l).pend (secs s l (A / 64) k)).step ∧ p.stepE = ((p1.at_.setSeen s l).pend (secs s l (A / 64) k)).stepE) := zh (by
     constructor
     ·show (((if (p.seen s).length < A + (strI D).length then p.length s (A + (strI D).length) else p).at_.setSeen s (Pl.put ((if (p.seen s).length < A + (strI D).length then p.length s (A + (strI D).length) else p).seen s) A (strI D))).pend (Pl.sectors s (Pl.put ((if (p.seen s).length < A + (strI D).length then p.length s (A + (strI D).length) else p).seen s) A (strI D)) A (A + (strI D).length))).step = _
      rw [HL0.out, HSL.out, HP1.out, HL1.out, HLL.out, hE, ← secs_all, hke]
     ·show (if p.crash = 1 then (7 : Int) else 0) = if p1.crash = 1 then 7 else 0
      rw [HNUM.out.2.2.2.1])
    have EV : Hid (rdV dk p = rdV dk ((p1.at_.setSeen s l).pend (secs s l (A / 64) k))) := zh (by rw [HRV.out dk]; rfl)
    obtain ⟨p3, hp3⟩ : ∃ p3, (p1.at_.setSeen s l).pend (secs s l (A / 64) k) = p3 := ⟨_, rfl⟩
    rw [hp3] at EW EV XR
    clear hke hp3 d0 d1 d2
    obtain ⟨c0, c1, c2, c3, c4, c5, c6, c7⟩ := XB0.out.rdc
    go_wp2_with fail
    refine (show Calls _ _ #[rdV dk p] _ _ from by rw [EV.out]; exact step_okR wq dk p3 XR.out).mono ?_
    rintro e w11 ⟨rfl, h11, hk11⟩
    have HR11 := zh h11
    have YB2 := zh (XB2.out.keep hk11 (fun q => q))
    have YK := zh (XK.out.trans hk11 (fun _ _ q => q))
    clear h11 hk11 c0 c1 c2 c3 c4 c5 c6 c7
    obtain ⟨y0, y1, y2, y3, y4, y5, y6, y7⟩ := YB2.out.c8
    obtain ⟨z0, z1, z2, z3, z4, z5, z6, z7⟩ := YB2.out.z8
    unfold rdV
    go_wp2_with fail
    refine bodyPost_ret (ret_cell_tmp rfl _ _ _ _ _ _ rfl (blk8 YB2.out rfl) Tryz.underlying29 rfl (by exact infoRd) _ rfl) rfl ⟨dk, by rw [EW.out.1, EW.out.2]; rfl, ?_, kp8 YK.out (.inl kz)⟩
    rw [EW.out.1]
    exact HR11.out.keepB (kp8 (Kp.refl _ w11) (.inr rfl)) YB2.out rdZ_str
theorem write_okR (w : World) (d : Rd) (p : Pl) (s : ByteArray) (a : Int) (D : ByteArray) (h : Rf w d p) (hs : s.size ≤ maxLen) (hD : D.size ≤ maxLen) (ha : -9223372036854775808 ≤ a ∧ a ≤ 9223372036854775807) (hnf : p.nf < 1099511627776 - 10) (hpd : p.pd.length < 1099511627776 - 20000) :
  Calls Tryz.prog 26 #[rdV d p, .string s, .int .i64 a, .string D] w fun e w' => ∃ d', e = .returned (.tuple #[rdV d' (p.write s a (strI D)), .int .i64 (p.writeE s a (strI D))]) ∧ Rf w' d' (p.write s a (strI D)) ∧ Kp NoB w w' := by
 by_cases hm : WrMain p s a D
 ·exact write_mainR w d p s a D h hs hD ha hnf hpd hm
 ·exact write_badR w d p s a D h hs hD ha hnf hpd hm
end
section
open Go.RowKit
def keepF (f : Rfile) : Rfile := { f with seen := f.kept }
theorem find_keep (fs : List Rfile) (s : ByteArray) : findR (fs.map keepF) s = (findR fs s).map keepF := by
 unfold findR
 induction fs with
 | nil => rfl
 | cons f r ih =>
  rw [List.map_cons]
  by_cases h : f.nm = s
  ·rw [List.find?_cons_of_pos (by show decide (f.nm = s) = true; exact decide_eq_true h), List.find?_cons_of_pos (by simpa using h)]
   rfl
  ·rw [List.find?_cons_of_neg (by show ¬ decide (f.nm = s) = true; rw [decide_eq_false h]; decide), List.find?_cons_of_neg (by simpa using h)]
   exact ih
theorem seen_keep (fs : List Rfile) : seenR (fs.map keepF) = keptR fs := by
 funext s
 unfold seenR keptR
 rw [find_keep]
 cases findR fs s <;> rfl
theorem kept_keep (fs : List Rfile) : keptR (fs.map keepF) = keptR fs := by
 funext s
 unfold keptR
 rw [find_keep]
 cases findR fs s <;> rfl
theorem sum_keep (fs : List Rfile) : sumR (fs.map keepF) = ksumR fs ∧ ksumR (fs.map keepF) = ksumR fs := by
 unfold sumR ksumR
 rw [List.map_map, List.map_map]
 exact ⟨rfl, rfl⟩
theorem names_keep {fs : List Rfile} (h : fs.Pairwise fun x y => x.nm ≠ y.nm) : (fs.map keepF).Pairwise fun x y => x.nm ≠ y.nm := List.pairwise_map.2 h
theorem ok_keep {fs : List Rfile} (h : ∀ f ∈ fs, RfOk f) : ∀ f ∈ fs.map keepF, RfOk f := by
 intro f hf
 obtain ⟨x, hx, rfl⟩ := List.mem_map.1 hf
 have := h x hx
 exact ⟨this.nl, this.krng, this.krng, this.kl, this.kl⟩
def keepK (fs : List Rfile) (k : Nat) : List Rfile := (fs.take k).map keepF ++ fs.drop k
theorem keepK_all (fs : List Rfile) {k : Nat} (h : fs.length ≤ k) : keepK fs k = fs.map keepF := by
 unfold keepK
 rw [List.take_of_length_le h, List.drop_eq_nil_of_le h, List.append_nil]
theorem keepK_zero (fs : List Rfile) : keepK fs 0 = fs := by simp [keepK]
theorem keepK_at {fs : List Rfile} {k : Nat} {f : Rfile} (h : fs[k]? = some f) : (keepK fs k)[k]? = some f ∧ keepK fs (k + 1) = (keepK fs k).set k (keepF f) := by
 obtain ⟨hk, rfl⟩ := List.getElem?_eq_some_iff.1 h
 have hl : ((fs.take k).map keepF).length = k := by rw [List.length_map, List.length_take]; omega
 constructor
 ·unfold keepK
  rw [List.getElem?_append_right (by omega), hl, Nat.sub_self, List.getElem?_drop, Nat.add_zero, h]
 ·unfold keepK
  rw [List.set_append_right _ _ (by omega), hl, Nat.sub_self, List.drop_eq_getElem_cons hk, List.set_cons_zero, List.take_add_one, List.getElem?_eq_getElem hk, Option.toList_some, List.map_append, List.append_assoc]
  rfl
theorem survive_cons (p : Pl) (c : Cg) (cs : List Cg) (ch : Int) (r : List Int) : p.survive (c :: cs) (ch :: r) = (p.at_.setKept c.nm (Pl.made (p.kept c.nm) c ch)).survive cs r := by
 rw [Pl.survive]
theorem survive_stop (p : Pl) (cs : List Cg) (r : List Int) (h : cs = [] ∨ r = []) : p.survive cs r = p := by
 rcases h with rfl | rfl
 ·unfold Pl.survive; rfl
 ·cases cs <;> (unfold Pl.survive; rfl)
theorem made_fine {l : List Int} {c : Cg} (ch : Int) (hl : l.length ≤ 1048576) (hr : ∀ y ∈ l, 0 ≤ y ∧ y < 256) (hc : CgOk c) : (Pl.made l c ch).length ≤ 1048576 ∧ ∀ y ∈ Pl.made l c ch, 0 ≤ y ∧ y < 256 := by
 unfold Pl.made
 split
 ·exact ⟨hl, hr⟩
 ·split
  ·rename_i h2
   have hn : c.n.toNat ≤ 1048576 := by
    rcases hc.kind with ⟨_, _, _, h⟩ | ⟨_, h, _⟩
    ·omega
    ·omega
   exact ⟨by rw [sizedF_len]; exact hn, sizedF_rng hr _⟩
  ·constructor
   ·unfold Pl.put
    simp only [List.length_append, List.length_take, List.length_drop]
    omega
   ·intro y hy
    unfold Pl.put at hy
    rcases List.mem_append.1 hy with q | q
    ·rcases List.mem_append.1 q with q | q
     ·exact hr y (List.mem_of_mem_take q)
     ·exact hc.rng y (List.mem_of_mem_take (List.mem_of_mem_take q))
    ·exact hr y (List.mem_of_mem_drop q)
theorem Rows.set1 {w : World} {g o n k : Nat} {a b c v : Value} {xs : List (List Value)} (h : Rows w (some ⟨g, o, none⟩) n 3 xs) (hk : xs[k]? = some [a, b, c]) : Rows (w.setCell ⟨g, o + k * 3 + 1, none⟩ v) (some ⟨g, o, none⟩) n 3 (xs.set k [a, v, c]) := by
 obtain ⟨hkl, hke⟩ := List.getElem?_eq_some_iff.1 hk
 refine ⟨by rw [List.length_set]; exact h.1, fun x hx => ?_, fun hn => ?_⟩
 ·rcases List.mem_or_eq_of_mem_set hx with q | q
  ·exact h.2.1 x q
  ·rw [q]; rfl
 ·obtain ⟨g', o', t, cs, e, hb, hs, hc⟩ := h.2.2 hn
  injection e with e
  injection e with e1 e2
  subst e1 e2
  refine ⟨g, o, t, cs.setIfInBounds (o + k * 3 + 1) v, rfl, hb.set_ _ _, by rw [Array.size_setIfInBounds]; exact hs, fun i hi j hj => ?_⟩
  rw [List.length_set] at hi
  have h1 := h.1
  rw [Array.getElem?_setIfInBounds, List.getElem_set]
  by_cases hik : k = i
  ·subst hik
   rw [if_pos rfl]
   by_cases hj1 : j = 1
   ·subst hj1
    rw [if_pos rfl, if_pos (by omega)]
    rfl
   ·rw [if_neg (by omega), hc k hi j hj, hke]
    rcases j with _ | _ | _ | j
    ·rfl
    ·omega
    ·rfl
    ·omega
  ·rw [if_neg (by omega), if_neg hik, hc i hi j hj]
end
end Go.Proofs.YtegcbdfilkecpaaGreat
