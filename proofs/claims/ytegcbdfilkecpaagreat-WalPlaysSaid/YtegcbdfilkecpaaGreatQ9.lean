/- Texts of this proof, one behind the other: lemmas and contracts; each says its own conditions. -/
import Derived.Test.YtegcbdfilkecpaaGreatQ5
import Derived.Test.YtegcbdfilkecpaaGreatQ6
import Derived.Test.YtegcbdfilkecpaaGreatQ7
import Derived.Test.YtegcbdfilkecpaaGreatQ8
namespace Go.Proofs.YtegcbdfilkecpaaGreat
section
open Go.RowKit
def RsRel (w : World) (s0 : Nat) (p : Pl) (chs : List Int) (v6 : Value) (wr : World) : Prop :=
 ∃ (k : Nat) (dk : Rd) (pk : Pl), v6 = .int .i64 (k : Int) ∧ k ≤ p.pd.length ∧ k ≤ chs.length ∧ Blk wr s0 29 (rdC dk p) ∧ Rf wr dk pk ∧ (pk.down = p.down ∧ pk.room = p.room ∧ pk.steps = p.steps ∧ pk.crash = p.crash ∧ pk.starts = p.starts) ∧ pk.pd = p.pd ∧
  p.survive p.pd chs = pk.survive (p.pd.drop k) (chs.drop k) ∧ pk.nf ≤ p.nf + k ∧ Blk wr (s0 + 1) 29 rdZ ∧ Kp NoB w wr
theorem infoRf3 : (Tryz.prog.info? 72).map (·.size) = some 3 := by kernel_rfl
def rdL (d : Rd) (p : Pl) : List Value := [.bool true, .bool p.down, .slice d.fA d.fn d.fc, .slice d.pA d.pn d.pc, .int .i64 p.room, .int .i64 p.steps, .int .i64 p.crash, .int .i64 p.starts]
theorem infoRd8 (d : Rd) (p : Pl) : (Tryz.prog.info? 29).map (·.size) = some (rdL d p).length := infoRd
theorem Blk.spd {w : World} {g : Nat} {t : TypeId} {d : Rd} {p : Pl} (h : Blk w g t (rdC d p)) : w.rangeAt g 0 (rdL d p) := Blk.sp (cs := rdL d p) h
theorem fil_ones (s : ByteArray) (l k : List Int) : (fileV s l k).all (·.oneCell') = true := by simp [fileV, Value.oneCell']
def RkRel (wq : World) (B : Option Addr) (fs : List Rfile) (n : Nat) (v9 : Value) (wr : World) : Prop :=
 ∃ k : Nat, v9 = .int .i64 (k : Int) ∧ k ≤ n ∧ Rows wr B n 3 ((keepK fs k).map rfCells) ∧ Kp NoB wq wr
set_option maxRecDepth 100000 in
set_option maxHeartbeats 1600000 in
theorem restart_okR (w : World) (d : Rd) (p : Pl) (C : Option Addr) (m cc : Nat) (chs : List Int) (h : Rf w d p) (hC : Nums w C m chs) (hch : ∀ y ∈ chs, -9223372036854775808 ≤ y ∧ y ≤ 9223372036854775807) (hm : m ≤ 9223372036854775807) (hnf : p.nf < 549755813888) (hpd : p.pd.length < 549755813888) :
  Calls Tryz.prog 24 #[rdV d p, .slice C m cc] w fun e w' => ∃ d', e = .returned (.tuple #[rdV d' (p.restart chs), .int .i64 p.restartE]) ∧ Rf w' d' (p.restart chs) ∧ Kp NoB w w' := by
 have H := zh h
 have HC := zh hC
 have HCH := zh hch
 have HM := zh hm
 have HNF := zh hnf
 have HPD := zh hpd
 have hb0 : Blk ((w.alloc (.cells (rdC d p) 29)).alloc (.cells rdZ 29)) w.heap.size 29 (rdC d p) := (Blk.new w _ _).alloc _
 have hb2 : Blk ((w.alloc (.cells (rdC d p) 29)).alloc (.cells rdZ 29)) (w.heap.size + 1) 29 rdZ := Blk.top (by simp)
 have hk : Kp NoB w ((w.alloc (.cells (rdC d p) 29)).alloc (.cells rdZ 29)) := ((Kp.refl NoB w).alloc _).alloc _
 clear h hC hch hm hnf hpd
 by_cases hd : p.down = true
 ·have HD := zh hd
  have hT : Hid (p.restart chs = { p.survive p.pd chs with seen := (p.survive p.pd chs).kept, sum := (p.survive p.pd chs).ksum, pd := [], steps := 0, crash := 0, down := false, starts := wrp (p.starts + 1) } ∧ p.restartE = 0) := zh (by unfold Pl.restart Pl.restartE; rw [hd]; exact ⟨rfl, rfl⟩)
  have hcl : chs.length = m := HC.out.1
  have HCL := zh hcl
  clear hcl
  rw [hT.out.1, hT.out.2]
  obtain ⟨q, hq⟩ : ∃ q, p.survive p.pd chs = q := ⟨_, rfl⟩
  have HQ := zh hq
  rw [hq]
  clear hq hT
  unfold rdV
  go_enter Tryz.func24, Tryz.ntmps24
  clear hd
  go_upto_region 1 with fail
  unfold rdC rdZ at hb0 hb2 hk
  generalize (w.alloc (.cells #[.bool true, .bool p.down, .slice d.fA d.fn d.fc, .slice d.pA d.pn d.pc, .int .i64 p.room, .int .i64 p.steps, .int .i64 p.crash, .int .i64 p.starts] 29)).alloc (.cells #[.bool false, .bool false, .slice none 0 0, .slice none 0 0, .int .i64 0, .int .i64 0, .int .i64 0, .int .i64 0] 29) = w2 at hb0 hb2 hk ⊢
  generalize hs0 : w.heap.size = s0 at hb0 hb2 ⊢
  have HS0 := zh hs0
  have HB0 : Hid (Blk w2 s0 29 (rdC d p)) := zh hb0
  have HB2 : Hid (Blk w2 (s0 + 1) 29 rdZ) := zh hb2
  have HK := zh hk
  clear hs0 hb0 hb2 hk
  have hl0 := HB0.out.lt
  have hl2 := HB2.out.lt
  obtain ⟨c0, c1, c2, c3, c4, c5, c6, c7⟩ := HB0.out.rdc
  obtain ⟨y0, y1, y2, y3, y4, y5, y6, y7⟩ := HB2.out.c8
  obtain ⟨z0, z1, z2, z3, z4, z5, z6, z7⟩ := HB2.out.z8
  rw [HD.out] at c1
  go_upto_region 6 with fail
  go_loopw [6, 7] (fun v6 v7 wr => RsRel w s0 p chs v6 wr) (fun v _ _ => p.pd.length - (intOf v).toNat)
  case atStart => exact ⟨0, d, p, rfl, Nat.zero_le _, Nat.zero_le _, HB0.out, H.out.keep HK.out, ⟨rfl, rfl, rfl, rfl, rfl⟩, rfl, rfl, Nat.le_refl _, HB2.out, HK.out⟩
  case round =>
   obtain ⟨wq, rfl⟩ : ∃ wq, wq = wr := ⟨_, rfl⟩
   obtain ⟨k, dk, pk, rfl, hk1, hk2, hb0, hr, hnum, hpk, hsv, hnk, hb2, hkp⟩ := hrel
   clear HB0 HB2 HK c0 c1 c2 c3 c4 c5 c6 c7 y0 y1 y2 y3 y4 y5 y6 y7 z0 z1 z2 z3 z4 z5 z6 z7 hl0 hl2
   have HB0 := zh hb0
   have HB2 := zh hb2
   have HK := zh hkp
   have HR := zh hr
   have HNUM := zh hnum
   have HPK := zh hpk
   have HSV := zh hsv
   have HNK := zh hnk
   have HK1 := zh hk1
   have HK2 := zh hk2
   have HPN : Hid (Rows wq dk.pA dk.pn 4 (p.pd.map rcCells)) := zh (by rw [← hpk]; exact hr.pend)
   have hpl : p.pd.length = dk.pn := by rw [← hpk]; exact hr.pl
   have HPL := zh hpl
   clear hb0 hb2 hkp hr hnum hpk hsv hnk
   have hl0 := HB0.out.lt
   have hl2 := HB2.out.lt
   obtain ⟨c0, c1, c2, c3, c4, c5, c6, c7⟩ := HB0.out.rdc
   obtain ⟨y0, y1, y2, y3, y4, y5, y6, y7⟩ := HB2.out.c8
   obtain ⟨z0, z1, z2, z3, z4, z5, z6, z7⟩ := HB2.out.z8
   obtain ⟨pA, hpA⟩ : ∃ x, dk.pA = x := ⟨_, rfl⟩
   obtain ⟨pn, hpn⟩ : ∃ x, dk.pn = x := ⟨_, rfl⟩
   obtain ⟨pc, hpc⟩ : ∃ x, dk.pc = x := ⟨_, rfl⟩
   have HPA := zh hpA
   have HPNN := zh hpn
   have HPC := zh hpc
   rw [hpA, hpn, hpc] at c3
   rw [hpA, hpn] at HPN
   rw [hpn] at HPL hpl
   clear hpA hpn hpc
   by_cases hlt : k < p.pd.length ∧ k < m
   ·have hkk : (k : Int) < (pn : Int) := by omega
    have hkm : (k : Int) < (m : Int) := by omega
    have hpn63 : pn ≤ 9223372036854775807 := by have := HPD.out; omega
    have hm63 := HM.out
    obtain ⟨x, hx⟩ : ∃ x, p.pd[k]'hlt.1 = x := ⟨_, rfl⟩
    have hxk : p.pd[k]? = some x := by rw [List.getElem?_eq_getElem hlt.1, hx]
    obtain ⟨g, o, hpg, hg, hc⟩ := HPN.out.cell (k := k) (x := rcCells x) (by rw [List.getElem?_map, hxk]; rfl)
    subst hpg
    have q0 := hc 0 _ rfl
    have q1 := hc 1 _ rfl
    have q2 := hc 2 _ rfl
    have q3 := hc 3 _ rfl
    rw [Nat.add_zero] at q0
    have HXK := zh hxk
    have HG := zh hg
    obtain ⟨gc, oc, hC0, hgc, hcc⟩ := HC.out.2 (by omega)
    subst hC0
    obtain ⟨ch, hch⟩ : ∃ ch, chs.getD k 0 = ch := ⟨_, rfl⟩
    have hkc : k < chs.length := by have := HCL.out; omega
    have HCHK : Hid (chs[k]? = some ch) := zh (by rw [← hch, List.getD_eq_getElem?_getD, List.getElem?_eq_getElem hkc]; rfl)
    have HCR : Hid (-9223372036854775808 ≤ ch ∧ ch ≤ 9223372036854775807) := zh (HCH.out ch (List.mem_of_getElem? HCHK.out))
    have HCC : Hid (∀ V, Kp NoB w V → V.cell? ⟨gc, oc + k, none⟩ = some (.int .i64 ch)) := zh (fun V q => by rw [← hch]; exact (q.cell hgc (fun z => z)).trans (hcc k (by omega)))
    have HGC := zh hgc
    clear hcc hch hgc hkc
    have HS3 : Hid (∀ V, Kp NoB wq V → V.cell? ⟨s0, 3, none⟩ = some (.slice (some ⟨g, o, none⟩) pn pc)) := zh (fun V q => (q.cell hl0 (fun z => z)).trans c3)
    have HQ0 : Hid (∀ V, Kp NoB wq V → V.cell? ⟨g, o + k * 4, none⟩ = some (.string x.nm)) := zh (fun V q => (q.cell hg (fun z => z)).trans q0)
    have HQL : Hid (∀ V, Kp NoB wq V → V.rangeAt g (o + k * 4) (rcCells x)) := zh (fun V q j u hj => (q.cell hg (fun z => z)).trans (hc j u hj))
    have HCL9 : Hid (∀ V, Kp NoB wq V → Calls Tryz.prog 63 #[rdV dk p, .string x.nm] V fun e w' => e = .returned (.agg (fileV x.nm (pk.seen x.nm) (pk.kept x.nm))) ∧ Kp NoB V w') := zh (fun V q => by
     have hrv : rdV dk pk = rdV dk p := by unfold rdV; rw [HNUM.out.1, HNUM.out.2.1, HNUM.out.2.2.1, HNUM.out.2.2.2.1, HNUM.out.2.2.2.2]
     rw [← hrv]
     exact file_ok V dk pk x.nm (HR.out.keep q) (by have := HNK.out; have := HNF.out; have := HPD.out; have := HK1.out; omega))
    clear hx hxk hc
    go_upto_region 8 with fail
    apply wp_into (G := fun V f => Blk V f 72 (fileV x.nm (pk.seen x.nm) (pk.kept x.nm)) ∧ Kp NoB wq V ∧ wq.heap.size ≤ f)
    ·refine wp_region_held_drew (S := fun V => Kp NoB wq V) (by kernel_rfl) (Kp.refl NoB wq).drew (fun hHeld => ?_)
     have k0 : Kp NoB wq wq.drew := (Kp.refl NoB wq).drew
     have hs0' : wq.heap.size ≤ wq.drew.heap.size := Nat.le_refl _
     generalize wq.drew = V0 at k0 hHeld hs0' ⊢
     have huw := Tryz.underlying29
     have hiw := infoRd8 dk p
     refine tkS (i := 0) (v := .agg ((rdL dk p)).toArray) rfl (yieldsIf_load_mid (by rfl) _ _ rfl _ _ rfl (rdL dk p) _ (fun V q => (HB0.out.keep q (fun z => z)).spd) huw rfl hiw) k0 ?_
     simp only [Act.put, sA, sB, sC]
     refine tkJ (i := 1) (v := (.pointer (some ⟨s0, 3, none⟩))) rfl k0 ?_
     simp only [Act.put, sA, sB, sC]
     refine tkS (i := 2) (v := (.slice (some ⟨g, o, none⟩) pn pc)) rfl (Or.inl ⟨by rfl, fun w' hq => by (have := HS3.out w' hq); go_simp⟩) k0 ?_
     simp only [Act.put, sA, sB, sC]
     refine tkJ (i := 3) (v := (.int .i64 (k : Int))) rfl k0 ?_
     simp only [Act.put, sA, sB, sC]
     refine tkJ (i := 4) (v := (.pointer (some ⟨g, o + k * 4, none⟩))) rfl k0 ?_
     simp only [Act.put, sA, sB, sC]
     refine tkJ (i := 5) (v := (.pointer (some ⟨g, o + k * 4, none⟩))) rfl k0 ?_
     simp only [Act.put, sA, sB, sC]
     refine tkS (i := 6) (v := (.string x.nm)) rfl (Or.inl ⟨by rfl, fun w' hq => by (have := HQ0.out w' hq); go_simp⟩) k0 ?_
     simp only [Act.put, sA, sB, sC]
     have hhz : ∀ V : World, Blk (V.alloc (.cells #[.string ⟨#[]⟩, .string ⟨#[]⟩, .string ⟨#[]⟩] 72)) V.heap.size 72 #[.string ⟨#[]⟩, .string ⟨#[]⟩, .string ⟨#[]⟩] := fun V => Blk.new V _ _
     refine tkR [7, 8] ?_
     refine AllReadyH.callR (fun y W' => y = .agg (fileV x.nm (pk.seen x.nm) (pk.kept x.nm)) ∧ Kp NoB wq W') rfl (by rfl) 63 #[rdV dk p, .string x.nm] (by first | (go_simp; done) | (go_simp; rfl)) (fun _ _ q => q.2) ((HCL9.out V0 k0).mono (by rintro e w' ⟨rfl, hk⟩; exact ⟨_, rfl, rfl, k0.trans hk (fun _ _ q => q)⟩)) ?_ ?_
     ·rintro y V1 ⟨rfl, k1⟩
      simp only [Act.put, sA, sB, sC]
      refine tkR [8] ?_
      refine AllReadyH.valR (fun W' => W' = V1.alloc (.cells #[.string ⟨#[]⟩, .string ⟨#[]⟩, .string ⟨#[]⟩] 72)) rfl (by rfl) (.pointer (some ⟨V1.heap.size, 0, none⟩)) _ (by go_simp) (fun W' e => by rw [e]; exact k1.alloc _) rfl ?_ AllReadyH.nil
      rintro _ rfl
      simp only [Act.put, sA, sB, sC]
      have hbz := hhz V1
      have kz1 : Kp NoB wq ((V1.alloc (.cells #[.string ⟨#[]⟩, .string ⟨#[]⟩, .string ⟨#[]⟩] 72)).setCells V1.heap.size 0 (fileV x.nm (pk.seen x.nm) (pk.kept x.nm)).toList) := Kp.setCells (.inl k1.size) _ _ _ (k1.alloc _)
      refine tkR [9] ?_
      refine AllReadyH.storeL rfl (by rfl) V1.heap.size 0 (fileV x.nm (pk.seen x.nm) (pk.kept x.nm)) rfl rfl (hbz.thereAll _ rfl) infoRf3 (fil_ones _ _ _) kz1 ?_ AllReadyH.nil
      refine wpAnyH_done (by kernel_rfl) ?_ _
      have hbw := hbz.whole (fileV x.nm (pk.seen x.nm) (pk.kept x.nm)) rfl
      have hks := k1.size
      generalize V1.heap.size = ff at hbw kz1 hks ⊢
      exact into_of ff ⟨hbw, kz1, hks⟩ rfl
     ·refine AllReadyH.valR (fun W' => W' = V0.alloc (.cells #[.string ⟨#[]⟩, .string ⟨#[]⟩, .string ⟨#[]⟩] 72)) rfl (by rfl) (.pointer (some ⟨V0.heap.size, 0, none⟩)) _ (by go_simp) (fun W' e => by rw [e]; exact k0.alloc _) rfl ?_ AllReadyH.nil
      rintro _ rfl
      simp only [Act.put, sA, sB, sC]
      have hbz := hhz V0
      have ka : Kp NoB wq (V0.alloc (.cells #[.string ⟨#[]⟩, .string ⟨#[]⟩, .string ⟨#[]⟩] 72)) := k0.alloc _
      generalize V0.alloc (.cells #[.string ⟨#[]⟩, .string ⟨#[]⟩, .string ⟨#[]⟩] 72) = Va at hbz ka ⊢
      have hks := k0.size
      generalize V0.heap.size = ff at hbz hks ⊢
      refine tkR [7] ?_
      refine AllReadyH.callR (fun y W' => y = .agg (fileV x.nm (pk.seen x.nm) (pk.kept x.nm)) ∧ Kp NoB Va W') rfl (by rfl) 63 #[rdV dk p, .string x.nm] (by first | (go_simp; done) | (go_simp; rfl)) (fun _ _ q => ka.trans q.2 (fun _ _ q => q)) ((HCL9.out Va ka).mono (by rintro e w' ⟨rfl, hk⟩; exact ⟨_, rfl, rfl, hk⟩)) ?_ AllReadyH.nil
      rintro y V1 ⟨rfl, k1⟩
      simp only [Act.put, sA, sB, sC]
      have hbz1 := hbz.keep k1 (fun q => q)
      have kz1 : Kp NoB wq (V1.setCells ff 0 (fileV x.nm (pk.seen x.nm) (pk.kept x.nm)).toList) := Kp.setCells (.inl hks) _ _ _ (ka.trans k1 (fun _ _ q => q))
      refine tkR [9] ?_
      refine AllReadyH.storeL rfl (by rfl) ff 0 (fileV x.nm (pk.seen x.nm) (pk.kept x.nm)) rfl rfl (hbz1.thereAll _ rfl) infoRf3 (fil_ones _ _ _) kz1 ?_ AllReadyH.nil
      refine wpAnyH_done (by kernel_rfl) ?_ _
      have hbw := hbz1.whole (fileV x.nm (pk.seen x.nm) (pk.kept x.nm)) rfl
      exact into_of ff ⟨hbw, kz1, hks⟩ rfl
    ·rintro ff V ⟨hbf, hkV, hff⟩
     have HFF := zh hff
     have HF := zh hbf
     have HKV := zh hkV
     have hwq : w.heap.size ≤ wq.heap.size := HK.out.size
     have h0f : s0 ≠ ff := by omega
     have h2f : s0 + 1 ≠ ff := by omega
     have hgf : g ≠ ff := by have := HG.out; omega
     have hcf : gc ≠ ff := by have := HGC.out; omega
     have HNE := zh (show s0 ≠ ff ∧ s0 + 1 ≠ ff ∧ g ≠ ff ∧ gc ≠ ff from ⟨h0f, h2f, hgf, hcf⟩)
     have hlg : g < V.heap.size := Nat.lt_of_lt_of_le HG.out hkV.size
     have hlgc : gc < V.heap.size := Nat.lt_of_lt_of_le HGC.out (Nat.le_trans hwq hkV.size)
     have HS3' : Hid (∀ W, Kp (OnB ff) V W → W.cell? ⟨s0, 3, none⟩ = some (.slice (some ⟨g, o, none⟩) pn pc)) := zh (fun W q => (q.cell (Nat.lt_of_lt_of_le hl0 hkV.size) h0f).trans (HS3.out V hkV))
     have HQL' : Hid (∀ W, Kp (OnB ff) V W → W.rangeAt g (o + k * 4) (rcCells x)) := zh (fun W q j u hj => (q.cell hlg hgf).trans (HQL.out V hkV j u hj))
     have HCC' : Hid (∀ W, Kp (OnB ff) V W → W.cell? ⟨gc, oc + k, none⟩ = some (.int .i64 ch)) := zh (fun W q => (q.cell hlgc hcf).trans (HCC.out V (HK.out.trans hkV (fun _ _ q => q))))
     obtain ⟨kp, hkp9⟩ : ∃ kp, pk.kept x.nm = kp := ⟨_, rfl⟩
     obtain ⟨nk, hnk⟩ : ∃ nk, Pl.made kp x ch = nk := ⟨_, rfl⟩
     have hcg : CgOk x := HR.out.cok x (by rw [HPK.out]; exact List.mem_of_getElem? HXK.out)
     have HCG := zh hcg
     have hlk := (HR.out.look x.nm).2
     rw [hkp9] at hlk HF hbf ⊢
     have HLK := zh hlk
     have HKP9 := zh hkp9
     have HNK9 := zh hnk
     have HMD : Hid (∀ W, Calls Tryz.prog 64 #[.string (strOf kp), .agg #[.string x.nm, .int .i64 x.sec, .int .i64 x.n, .string (strOf x.s)], .int .i64 ch] W fun e w' => e = .returned (.string (strOf nk)) ∧ Kp NoB W w') := zh (fun W => by rw [← hnk]; exact made_ok W kp x ch hlk.1 hcg HCR.out)
     have d2 : V.cell? ⟨ff, 2, none⟩ = some (.string (strOf kp)) := hbf.cell 2
     clear hbf hkV hff hwq h0f h2f hgf hcf hlg hlgc hcg hlk hkp9 hnk q0 q1 q2 q3 c0 c1 c2 c3 c4 c5 c6 c7 y0 y1 y2 y3 y4 y5 y6 y7 z0 z1 z2 z3 z4 z5 z6 z7
     go_upto_region 9 with fail
     refine wp_region_held_drew (S := fun W => Kp (OnB ff) V W) (by kernel_rfl) (Kp.refl (OnB ff) V).drew (fun hHeld => ?_)
     have k0 : Kp (OnB ff) V V.drew := (Kp.refl (OnB ff) V).drew
     have kn : Kp NoB V V.drew := (Kp.refl NoB V).drew
     have d2' : V.drew.cell? ⟨ff, 2, none⟩ = some (.string (strOf kp)) := d2
     generalize V.drew = V0 at k0 kn hHeld d2' ⊢
     have huw := Tryz.underlying131
     have hiw : (Tryz.prog.info? 131).map (·.size) = some (rcCells x).length := infoRch4
     refine tkJ (i := 0) (v := (.pointer (some ⟨ff, 2, none⟩))) rfl k0 ?_
     simp only [Act.put, sA, sB, sC]
     refine tkJ (i := 2) (v := (.pointer (some ⟨s0, 3, none⟩))) rfl k0 ?_
     simp only [Act.put, sA, sB, sC]
     refine tkS (i := 3) (v := (.slice (some ⟨g, o, none⟩) pn pc)) rfl (Or.inl ⟨by rfl, fun w' hq => by (have := HS3'.out w' hq); go_simp⟩) k0 ?_
     simp only [Act.put, sA, sB, sC]
     refine tkJ (i := 4) (v := (.int .i64 (k : Int))) rfl k0 ?_
     simp only [Act.put, sA, sB, sC]
     refine tkJ (i := 5) (v := (.pointer (some ⟨g, o + k * 4, none⟩))) rfl k0 ?_
     simp only [Act.put, sA, sB, sC]
     refine tkS (i := 6) (v := .agg ((rcCells x)).toArray) rfl (yieldsIf_load_mid (by rfl) _ _ rfl _ _ rfl (rcCells x) _ (fun W q => HQL'.out W q) huw rfl hiw) k0 ?_
     simp only [Act.put, sA, sB, sC]
     refine tkJ (i := 7) (v := (.slice (some ⟨gc, oc, none⟩) m cc)) rfl k0 ?_
     simp only [Act.put, sA, sB, sC]
     refine tkJ (i := 8) (v := (.int .i64 (k : Int))) rfl k0 ?_
     simp only [Act.put, sA, sB, sC]
     refine tkJ (i := 9) (v := (.pointer (some ⟨gc, oc + k, none⟩))) rfl k0 ?_
     simp only [Act.put, sA, sB, sC]
     refine tkS (i := 10) (v := (.int .i64 ch)) rfl (Or.inl ⟨by rfl, fun w' hq => by (have := HCC'.out w' hq); go_simp⟩) k0 ?_
     simp only [Act.put, sA, sB, sC]
     refine tkR [1] ?_
     refine AllReadyH.valR (fun W' => V0 = W') rfl (by rfl) (.string (strOf kp)) _ (by go_simp) (fun _ e => by rw [← e]; exact k0) rfl ?_ AllReadyH.nil
     rintro _ rfl
     simp only [Act.put, sA, sB, sC]
     refine tkR [11] ?_
     refine AllReadyH.callR (fun x W' => x = .string (strOf nk) ∧ Kp NoB V W') rfl (by rfl) 64 #[.string (strOf kp), .agg #[.string x.nm, .int .i64 x.sec, .int .i64 x.n, .string (strOf x.s)], .int .i64 ch] (by first | (go_simp; done) | (go_simp; rfl)) (fun _ _ q => q.2.mono (fun _ _ q => q.elim)) ((HMD.out V0).mono (by rintro e w' ⟨rfl, hk⟩; exact ⟨_, rfl, rfl, kn.trans hk (fun _ _ q => q)⟩)) ?_ AllReadyH.nil
     rintro y V1 ⟨rfl, k1⟩
     simp only [Act.put, sA, sB, sC]
     refine tkJ (i := 12) (v := (.pointer (some ⟨ff, 2, none⟩))) rfl (k1.mono (fun _ _ q => q.elim)) ?_
     simp only [Act.put, sA, sB, sC]
     have e2 : V1.cell? ⟨ff, 2, none⟩ = some (.string (strOf kp)) := (HF.out.keep k1 (fun q => q)).cell 2
     have f2 := (HF.out.keep k1 (fun q => q)).frozen 2
     refine tkR [13] ?_
     refine AllReadyH.skipR rfl (by rfl) (V1.setCell ⟨ff, 2, none⟩ (.string (strOf nk))) (by go_simp) ((k1.mono (S' := OnB ff) (fun _ _ q => q.elim)).setAt (g := ff) rfl 2 _) ?_ AllReadyH.nil
     refine wpAnyH_done (by kernel_rfl) ?_ _
     have hb9 : Blk (V1.setCell ⟨ff, 2, none⟩ (.string (strOf nk))) ff 72 (fileV x.nm (pk.seen x.nm) nk) := (HF.out.keep k1 (fun q => q)).set_ 2 _
     have hk9 : Kp NoB wq (V1.setCell ⟨ff, 2, none⟩ (.string (strOf nk))) := (HKV.out.trans k1 (fun _ _ q => q)).setCell (.inl HFF.out) _
     have hpres : Kp NoB wq wq := Kp.refl NoB wq
     clear hHeld k0 kn d2 d2' k1 e2 f2 hpres
     generalize V1.setCell ⟨ff, 2, none⟩ (.string (strOf nk)) = V2 at hb9 hk9 ⊢
     have HF9 := zh hb9
     have HR9 := zh (HR.out.keep hk9)
     clear hb9 hl0 hl2
     have HB0' := zh (HB0.out.keep hk9 (fun q => q))
     have HB2' := zh (HB2.out.keep hk9 (fun q => q))
     have HK' := zh (HK.out.trans hk9 (fun _ _ q => q))
     clear hk9 HB0 HB2 HK
     have HB0 := HB0'
     have HB2 := HB2'
     have HK := HK'
     clear HB0' HB2' HK'
     have hl0 := HB0.out.lt
     have hl2 := HB2.out.lt
     obtain ⟨c0, c1, c2, c3, c4, c5, c6, c7⟩ := HB0.out.rdc
     obtain ⟨y0, y1, y2, y3, y4, y5, y6, y7⟩ := HB2.out.c8
     obtain ⟨z0, z1, z2, z3, z4, z5, z6, z7⟩ := HB2.out.z8
     obtain ⟨d0, d1, d2⟩ := HF9.out.c3
     have hlV := HF9.out.lt
     have hfi := made_fine ch HLK.out.1 HLK.out.2 HCG.out
     rw [HNK9.out] at hfi
     have HFI := zh hfi
     clear hfi
     go_wp2_with fail
     have hrv : ∀ d', rdV d' pk = rdV d' p := fun d' => by unfold rdV; rw [HNUM.out.1, HNUM.out.2.1, HNUM.out.2.2.1, HNUM.out.2.2.2.1, HNUM.out.2.2.2.2]
     refine (show Calls _ _ #[rdV dk p, .agg (fileV x.nm (pk.seen x.nm) nk)] _ _ from by rw [← hrv]; exact with_ok _ dk pk ⟨x.nm, pk.seen x.nm, nk⟩ HR9.out ⟨HCG.out.nl, (HR9.out.look x.nm).1.2, HFI.out.2, (HR9.out.look x.nm).1.1, HFI.out.1⟩ (by have := HNK.out; have := HNF.out; have := HPD.out; have := HK1.out; omega)).mono ?_
     rintro e w9 ⟨d9, rfl, h9, hk9⟩
     have HRA : Hid (Rf w9 d9 (pk.at_.setKept x.nm nk)) := zh (by
      have e9 : (pk.at_.setSeen x.nm (pk.seen x.nm)).setKept x.nm nk = pk.at_.setKept x.nm nk := by rw [show pk.at_.setSeen x.nm (pk.seen x.nm) = pk.at_ from seen_same pk.at_ x.nm]
      rw [← e9]; exact h9)
     rw [hrv]
     clear h9 d0 d1 d2 hlV hrv
     have HB0' := zh (HB0.out.keep hk9 (fun q => q))
     have HB2' := zh (HB2.out.keep hk9 (fun q => q))
     have HK' := zh (HK.out.trans hk9 (fun _ _ q => q))
     clear hk9 HB0 HB2 HK
     have HB0 := HB0'
     have HB2 := HB2'
     have HK := HK'
     clear HB0' HB2' HK' c0 c1 c2 c3 c4 c5 c6 c7 y0 y1 y2 y3 y4 y5 y6 y7 z0 z1 z2 z3 z4 z5 z6 z7 hl0 hl2
     have hl0 := HB0.out.lt
     have hl2 := HB2.out.lt
     obtain ⟨c0, c1, c2, c3, c4, c5, c6, c7⟩ := HB0.out.rdc
     obtain ⟨y0, y1, y2, y3, y4, y5, y6, y7⟩ := HB2.out.c8
     obtain ⟨z0, z1, z2, z3, z4, z5, z6, z7⟩ := HB2.out.z8
     obtain ⟨x0, x1, x2, x3, x4, x5, x6, x7⟩ := HB0.out.z8
     unfold rdV
     go_upto_region 7 with fail
     clear HR
     have kz0 : w.heap.size ≤ s0 := by have := HS0.out; omega
     refine forgetC (fun V => Blk V s0 29 (rdC d9 p) ∧ Rf V d9 (pk.at_.setKept x.nm nk) ∧ Blk V (s0 + 1) 29 rdZ ∧ Kp NoB w V) ⟨blk8 HB0.out rfl, (HRA.out).keepB (kp8 (Kp.refl (OnB s0) w9) (.inr rfl)) HB0.out (rdC_str _ _), HB2.out.keep (kp8 (Kp.refl (OnB s0) w9) (.inr rfl)) (fun q => by have q' : s0 + 1 = s0 := q; omega), kp8 HK.out (.inl kz0)⟩ ?_
     rintro w10 ⟨hb4, hr4, hz4, hw4⟩
     clear HB0 HB2 HK
     have HB0 := zh hb4
     have HB2 := zh hz4
     have HK := zh hw4
     have HR := zh hr4
     clear hb4 hz4 hw4 hr4 c0 c1 c2 c3 c4 c5 c6 c7 y0 y1 y2 y3 y4 y5 y6 y7 z0 z1 z2 z3 z4 z5 z6 z7 hl0 hl2 kz0
     have hl0 := HB0.out.lt
     have hl2 := HB2.out.lt
     obtain ⟨c0, c1, c2, c3, c4, c5, c6, c7⟩ := HB0.out.rdc
     obtain ⟨y0, y1, y2, y3, y4, y5, y6, y7⟩ := HB2.out.c8
     obtain ⟨z0, z1, z2, z3, z4, z5, z6, z7⟩ := HB2.out.z8
     have E9 := zh (show RsRel w s0 p chs (.int .i64 ((k + 1 : Nat) : Int)) w10 from ⟨k + 1, d9, pk.at_.setKept x.nm nk, rfl, by omega, by have := HCL.out; omega, HB0.out, HR.out, HNUM.out, HPK.out, by
      rw [HSV.out, List.drop_eq_getElem_cons hlt.1, List.drop_eq_getElem_cons (show k < chs.length by have := HCL.out; omega)]
      have e1 : p.pd[k]'hlt.1 = x := by have := HXK.out; rw [List.getElem?_eq_getElem hlt.1] at this; injection this
      have e2 : chs[k]'(by have := HCL.out; omega) = ch := by have := HCHK.out; rw [List.getElem?_eq_getElem (by have := HCL.out; omega)] at this; injection this
      rw [e1, e2, survive_cons, HKP9.out, HNK9.out], by show pk.nf + 1 ≤ _; have := HNK.out; omega, HB2.out, HK.out⟩)
     have hk63 : k < 9223372036854775807 := by have := HPD.out; omega
     go_wp2_with fail
     go_roundw
     case rel => exact E9.out
     case measure => simp [intOf]; omega
   ·have hfin : p.survive p.pd chs = pk := by
     rw [HSV.out]
     refine survive_stop pk _ _ ?_
     rcases (show p.pd.length ≤ k ∨ chs.length ≤ k by have := HCL.out; omega) with z | z
     ·exact .inl (List.drop_eq_nil_of_le z)
     ·exact .inr (List.drop_eq_nil_of_le z)
    have HQP : Hid (q = pk) := zh (HQ.out.symm.trans hfin)
    have hx : ¬ (k : Int) < (pn : Int) ∨ ((k : Int) < (pn : Int) ∧ ¬ (k : Int) < (m : Int)) := by omega
    have HFI : Hid (Rows wq dk.fA dk.fn 3 (dk.fs.map rfCells) ∧ (dk.fA = none → dk.fn = 0 ∧ dk.fc = 0) ∧ dk.fs.length = dk.fn ∧ dk.fn < 1099511627776) := zh ⟨HR.out.files, HR.out.fnil, HR.out.fl, by have := HR.out.nf; have := HNK.out; have := HNF.out; have := HPD.out; have := HK1.out; omega⟩
    have HFJ : Hid (dk.fn ≤ pk.nf ∧ pk.kept = keptR dk.fs ∧ pk.ksum = ksumR dk.fs ∧ (∀ f ∈ dk.fs, RfOk f) ∧ dk.fs.Pairwise fun x y => x.nm ≠ y.nm) := zh ⟨HR.out.nf, HR.out.kept, HR.out.ksum, HR.out.fok, HR.out.names⟩
    obtain ⟨fs, hfs⟩ : ∃ x, dk.fs = x := ⟨_, rfl⟩
    obtain ⟨fA, hfA⟩ : ∃ x, dk.fA = x := ⟨_, rfl⟩
    obtain ⟨fn, hfn⟩ : ∃ x, dk.fn = x := ⟨_, rfl⟩
    obtain ⟨fc, hfc⟩ : ∃ x, dk.fc = x := ⟨_, rfl⟩
    have HFS := zh hfs
    rw [hfA, hfn, hfc] at c2
    rw [hfA, hfn, hfc, hfs] at HFI
    rw [hfn, hfs] at HFJ
    have hfn63 : fn < 1099511627776 := HFI.out.2.2.2
    have HFN := zh hfn63
    clear hfin hfs hfA hfn hfc hlt hfn63
    obtain ⟨j0, hj0, hj1⟩ := Option.map_eq_some_iff.1 infoRfile
    simp only [Prod.mk.injEq] at hj1
    have HJ0 := zh hj0
    have HY0 := zh hj1.1
    have HY1 := zh hj1.2.1
    have HY2 := zh hj1.2.2
    clear hj0 hj1
    have HOWN : Hid ((wq.alloc (.cells #[] 72)).ownsRow wq.heap.size 72 3 (.slice (some ⟨wq.heap.size, 0, none⟩) 0 0) 0 []) := zh ⟨rfl, .inr ⟨wq.heap.size, 0, #[], rfl, Nat.le_refl _, heap_alloc_new _ _, Nat.le_refl _, by simp, rfl, rfl⟩⟩
    rcases hx with hx | ⟨hx1, hx⟩
    all_goals
     go_upto_region 12 with (at_builtin; refine wpList_append_srcN rfl _ _ 26 rfl wq.heap.size 72 j0 _ 3 48 Tryz.underlying26 HJ0.out HY0.out HY1.out HY2.out rfl (by omega) _ 0 [] rfl HOWN.out fA fn fc (fs.map rfCells).flatten rfl HFI.out.2.1 (by rw [flat_len 3 _ (rf_len fs), List.length_map, HFI.out.2.2.1]) (fun hn => (HFI.out.1.keep ((Kp.refl NoB wq).alloc _)).src hn (by omega)) (rf_one fs) (by have := HFN.out; unfold maxLen; omega) (by have := HFN.out; omega) (by simp) ?_; intro v1 w1 hown1 hgrow1; rw [Nat.zero_add, List.nil_append] at hown1; have HO1 := zh hown1; have hk1 := (((Kp.refl NoB wq).alloc _).own (v := .slice (some ⟨wq.heap.size, 0, none⟩) 0 0) hgrow1 rfl HOWN.out); have HKA := zh hk1; obtain ⟨B, cb, rfl⟩ := own_slice hown1; clear hown1 hgrow1 hk1)
     have HBG : Hid (∀ g o, B = some ⟨g, o, none⟩ → wq.heap.size ≤ g) := zh (fun g o e => own_ge HO1.out g (by rw [e]; rfl))
     have HRW : Hid (Rows w1 B fn 3 (fs.map rfCells)) := zh (Rows.own (base := wq.heap.size) (e := 72) (cap := cb) HO1.out (by rw [List.length_map]; exact HFI.out.2.2.1) (rf_len _))
     have HBN : Hid (B = none → fn = 0 ∧ cb = 0) := zh (own_nil HO1.out)
     clear c0 c1 c2 c3 c4 c5 c6 c7 y0 y1 y2 y3 y4 y5 y6 y7 z0 z1 z2 z3 z4 z5 z6 z7 hl0 hl2
     go_wp2_with fail
     go_loopw [9] (fun v9 wr => RkRel wq B fs fn v9 wr) (fun v _ => fn - (intOf v).toNat)
     case atStart => exact ⟨0, rfl, Nat.zero_le _, by rw [keepK_zero]; exact HRW.out, HKA.out⟩
     case round =>
      obtain ⟨wz, rfl⟩ : ∃ wz, wz = wr := ⟨_, rfl⟩
      obtain ⟨i, rfl, hi, hrw, hkz⟩ := hrel
      have HRZ := zh hrw
      have HKZ := zh hkz
      by_cases hlt2 : i < fn
      ·have hil : i < fs.length := by have := HFI.out.2.2.1; omega
       obtain ⟨f, hf⟩ : ∃ f, fs[i] = f := ⟨_, rfl⟩
       have hfi : fs[i]? = some f := by rw [List.getElem?_eq_getElem hil, hf]
       obtain ⟨e1, e2⟩ := keepK_at hfi
       have e3 : ((keepK fs i).map rfCells)[i]? = some [.string f.nm, .string (strOf f.seen), .string (strOf f.kept)] := by rw [List.getElem?_map, e1]; rfl
       obtain ⟨g, o, rfl, hg, hc⟩ := hrw.cell e3
       have q1 : wz.cell? ⟨g, o + i * 3 + 1, none⟩ = some (.string (strOf f.seen)) := hc 1 _ rfl
       have q2 : wz.cell? ⟨g, o + i * 3 + 2, none⟩ = some (.string (strOf f.kept)) := hc 2 _ rfl
       obtain ⟨g', o', t', cs', e', hb', _, _⟩ := hrw.2.2 (by omega)
       injection e' with e'
       injection e' with e4 e5
       subst e4 e5
       have f1 := hb'.frozen (o + i * 3 + 1)
       have hii : (i : Int) < (fn : Int) := by omega
       have hfn63 : fn ≤ 9223372036854775807 := by have := HFN.out; omega
       have HS1 : Hid (Rows (wz.setCell ⟨g, o + i * 3 + 1, none⟩ (.string (strOf f.kept))) (some ⟨g, o, none⟩) fn 3 ((keepK fs (i + 1)).map rfCells)) := zh (by
        have h9 := hrw.set1 (v := .string (strOf f.kept)) e3
        rw [e2, List.map_set]
        exact h9)
       have HK9 : Hid (Kp NoB wq (wz.setCell ⟨g, o + i * 3 + 1, none⟩ (.string (strOf f.kept)))) := zh (hkz.setCell (.inl (HBG.out g o rfl)) _)
       clear hf hfi e1 e2 e3 hc hrw hkz hb' hil
       go_wp2_with fail
       go_roundw
       case rel => exact ⟨i + 1, by go_num, by omega, HS1.out, HK9.out⟩
       case measure => simp [intOf]; omega
      ·have hii : ¬ (i : Int) < (fn : Int) := by omega
       have hie : i = fn := by omega
       have HRE : Hid (Rows wz B fn 3 ((fs.map keepF).map rfCells)) := zh (by rw [← keepK_all fs (k := i) (by have := HFI.out.2.2.1; omega)]; exact hrw)
       clear hrw hie
       have hb0 := HB0.out.keep hkz (fun q => q)
       have hb2 := HB2.out.keep hkz (fun q => q)
       have HX0 := zh hb0
       have HX2 := zh hb2
       clear hkz
       obtain ⟨c0, c1, c2, c3, c4, c5, c6, c7⟩ := hb0.rdc
       obtain ⟨y0, y1, y2, y3, y4, y5, y6, y7⟩ := hb2.c8
       obtain ⟨z0, z1, z2, z3, z4, z5, z6, z7⟩ := hb2.z8
       have hws : IntKind.i64.wrap (p.starts + 1) = wrp (p.starts + 1) := rfl
       clear hb0 hb2
       go_wp2_with fail
       have kzz : w.heap.size ≤ s0 + 1 := by have := HS0.out; omega
       have hkq : Kp (OnB (s0 + 1)) wz ((((((((wz.setCell ⟨s0 + 1, 0, none⟩ (.bool true)).setCell ⟨s0 + 1, 1, none⟩ (.bool false)).setCell ⟨s0 + 1, 2, none⟩ (.slice B fn cb)).setCell ⟨s0 + 1, 3, none⟩ (.slice none 0 0)).setCell ⟨s0 + 1, 4, none⟩ (.int .i64 p.room)).setCell ⟨s0 + 1, 5, none⟩ (.int .i64 0)).setCell ⟨s0 + 1, 6, none⟩ (.int .i64 0)).setCell ⟨s0 + 1, 7, none⟩ (.int .i64 (wrp (p.starts + 1)))) := kp8 (Kp.refl _ wz) (.inr rfl)
       refine bodyPost_ret (ret_cell_tmp rfl _ _ _ _ _ _ rfl (blk8 HX2.out rfl) Tryz.underlying29 rfl (by exact infoRd) _ rfl) rfl ⟨⟨B, fn, cb, fs.map keepF, none, 0, 0⟩, by rw [HQP.out, HNUM.out.2.1]; rfl, ?_, kp8 (HK.out.trans HKZ.out (fun _ _ q => q)) (.inl kzz)⟩
       obtain ⟨j1, j2, j3, j4, j5⟩ := HFJ.out
       have hst := H.out.starts
       rw [HQP.out]
       exact
        {files := HRE.out.keepB (by omega) (rf_str _) hkq HX2.out rdZ_str
         pend := ⟨rfl, by simp, fun h => absurd h (Nat.lt_irrefl 0)⟩
         fnil := HBN.out
         pnil := fun _ => ⟨rfl, rfl⟩
         fok := ok_keep j4
         cok := fun c hc => by cases hc
         names := names_keep j5
         seen := by show pk.kept = seenR (fs.map keepF); rw [seen_keep, j2]
         kept := by show pk.kept = keptR (fs.map keepF); rw [kept_keep, j2]
         sum := by show pk.ksum = sumR (fs.map keepF); rw [(sum_keep fs).1, j3]
         ksum := by show pk.ksum = ksumR (fs.map keepF); rw [(sum_keep fs).2, j3]
         nf := j1
         room := HR.out.room
         steps := by show -9223372036854775808 ≤ (0 : Int) ∧ (0 : Int) ≤ 9223372036854775807; omega
         crash := by show (0 : Int) ≤ 0 ∧ (0 : Int) ≤ 9223372036854775807; omega
         starts := by
          show -9223372036854775808 ≤ wrp (p.starts + 1) ∧ wrp (p.starts + 1) ≤ 9223372036854775807
          unfold wrp
          rw [IntKind.wrap_i64]
          omega }
 ·have hd' : p.down = false := by simpa using hd
  have hT : Hid (p.restart chs = p ∧ p.restartE = 4) := zh (by unfold Pl.restart Pl.restartE; rw [hd']; exact ⟨rfl, rfl⟩)
  have HD := zh hd'
  clear hd
  rw [hT.out.1, hT.out.2]
  unfold rdV
  go_enter Tryz.func24, Tryz.ntmps24
  go_wp2_with fail
  refine bodyPost_ret (ret_cell_tmp rfl _ _ _ _ _ _ rfl (Blk.top (by simp)) Tryz.underlying29 rfl (by exact infoRd) _ rfl) rfl ⟨d, by rw [HD.out]; rfl, H.out.keep (((Kp.refl NoB w).alloc _).alloc _), ((Kp.refl NoB w).alloc _).alloc _⟩
end
section
open Go.RowKit
attribute [local go_sem ↓] conv64
set_option maxRecDepth 100000 in
theorem four_rok (w : World) (n : Int) (hn : -9223372036854775808 ≤ n ∧ n ≤ 9223372036854775807) :
  Calls Tryz.prog 96 #[.int .i64 n] w fun e w' => e = .returned (.string (strOf (four n))) ∧ Kp NoB w w' := by
 have hb : Blk (w.alloc (.cells #[.int .u8 (n / 16777216 % 256), .int .u8 (n / 65536 % 256), .int .u8 (n / 256 % 256), .int .u8 (n % 256)] 5)) w.heap.size 5 (bytesV (four n)) := Blk.new _ _ _
 have h1 := hb.byAt 0 4 (Nat.le_refl _)
 have h2 := hb.byRd 0 4 (Nat.le_refl _)
 have h3 : ((four n).drop 0).take 4 = four n := rfl
 rw [h3] at h2
 clear h3 hb
 go_enter Tryz.func96, Tryz.ntmps96
 go_wp2_with fail
 go_ret
 exact ⟨by rfl, (Kp.refl NoB w).alloc _⟩
set_option maxRecDepth 100000 in
theorem zeros_rok (w : World) (n : Nat) (hn : n ≤ 1099511627776) :
  Calls Tryz.prog 92 #[.int .i64 n] w fun e w' => e = .returned (.string (strOf (zeros n))) ∧ Kp NoB w w' := by
 have hmk := run_make_row' (P := Tryz.prog) 68 5 (.int .u8 0) 1 Tryz.underlying68 infoU8z rfl .i64 .i64 n (by omega) (by omega) w
 rw [made_zeros] at hmk
 have hb := Blk.new w 5 (bytesV (zeros n))
 have h1 := hb.byAt 0 n (by simp [zeros])
 have h2 := hb.byRd 0 n (by simp [zeros])
 have h3 : ((zeros n).drop 0).take n = zeros n := by rw [List.drop_zero, List.take_of_length_le (by simp [zeros])]
 rw [h3] at h2
 clear h3 hb
 go_enter Tryz.func92, Tryz.ntmps92
 go_wp2_with fail
 go_ret
 exact ⟨by rfl, (Kp.refl NoB w).alloc _⟩
set_option maxRecDepth 100000 in
set_option maxHeartbeats 800000 in
theorem number_rok (w : World) (l : List Int) (a : Nat) (hr : ∀ y ∈ l, 0 ≤ y ∧ y < 256) (ha : a + 4 ≤ l.length) (hl : l.length ≤ 1099511627776) :
  Calls Tryz.prog 90 #[.string (strOf l), .int .i64 (a : Int)] w fun e w' => e = .returned (.int .i64 (num l a)) ∧ Kp NoB w w' := by
 have hg : ∀ j, j < l.length → 0 ≤ l.getD j 0 ∧ l.getD j 0 < 256 := fun j hj => hr _ (by rw [List.getD_eq_getElem?_getD, List.getElem?_eq_getElem hj]; exact List.getElem_mem hj)
 have hsz := strOf_size l
 have i0 := fun W => idxStr (s := strOf l) rfl hr (show a < l.length by omega) W
 have i1 := fun W => idxStr (s := strOf l) rfl hr (show a + 1 < l.length by omega) W
 have i2 := fun W => idxStr (s := strOf l) rfl hr (show a + 2 < l.length by omega) W
 have i3 := fun W => idxStr (s := strOf l) rfl hr (show a + 3 < l.length by omega) W
 rw [show ((a + 1 : Nat) : Int) = (a : Int) + 1 by omega] at i1
 rw [show ((a + 2 : Nat) : Int) = (a : Int) + 2 by omega] at i2
 rw [show ((a + 3 : Nat) : Int) = (a : Int) + 3 by omega] at i3
 have g0 := hg a (by omega)
 have g1 := hg (a + 1) (by omega)
 have g2 := hg (a + 2) (by omega)
 have g3 := hg (a + 3) (by omega)
 have hnum : Hid (num l a = l.getD a 0 * 16777216 + l.getD (a + 1) 0 * 65536 + l.getD (a + 2) 0 * 256 + l.getD (a + 3) 0) := zh rfl
 obtain ⟨x0, h0⟩ : ∃ x, l.getD a 0 = x := ⟨_, rfl⟩
 obtain ⟨x1, h1⟩ : ∃ x, l.getD (a + 1) 0 = x := ⟨_, rfl⟩
 obtain ⟨x2, h2⟩ : ∃ x, l.getD (a + 2) 0 = x := ⟨_, rfl⟩
 obtain ⟨x3, h3⟩ : ∃ x, l.getD (a + 3) 0 = x := ⟨_, rfl⟩
 rw [h0] at i0 g0 hnum
 rw [h1] at i1 g1 hnum
 rw [h2] at i2 g2 hnum
 rw [h3] at i3 g3 hnum
 have w1 : IntKind.i64.wrap ((a : Int) + 1) = (a : Int) + 1 := by rw [IntKind.wrap_i64]; omega
 have w2 : IntKind.i64.wrap ((a : Int) + 2) = (a : Int) + 2 := by rw [IntKind.wrap_i64]; omega
 have w3 : IntKind.i64.wrap ((a : Int) + 3) = (a : Int) + 3 := by rw [IntKind.wrap_i64]; omega
 clear h0 h1 h2 h3 hg hr
 go_enter Tryz.func90, Tryz.ntmps90
 go_wp2_with fail
 go_quiet (fail)
 go_wp2_with fail
 go_ret
 exact ⟨by rw [hnum.out]; rfl, (Kp.refl NoB w).drewN nq⟩
end
section
open Go.RowKit
structure W4R (v : W4) : Prop where
 a : -9223372036854775808 ≤ v.a ∧ v.a ≤ 9223372036854775807
 b : -9223372036854775808 ≤ v.b ∧ v.b ≤ 9223372036854775807
 c : -9223372036854775808 ≤ v.c ∧ v.c ≤ 9223372036854775807
 d : -9223372036854775808 ≤ v.d ∧ v.d ≤ 9223372036854775807
theorem strF_size (n : Int) : (strOf (four n)).size = 4 := strOf_size _
set_option maxRecDepth 100000 in
set_option maxHeartbeats 800000 in
theorem seal_rok (w : World) (v : W4) (hv : W4R v) :
  Calls Tryz.prog 95 #[.agg #[.int .i64 v.a, .int .i64 v.b, .int .i64 v.c, .int .i64 v.d]] w fun e w' => e = .returned (.string (strOf (sealB v))) ∧ Kp NoB w w' := by
 have HV := zh hv
 obtain ⟨va, vb, vc, vd⟩ := v
 have hb : Blk (w.alloc (.cells #[.int .i64 va, .int .i64 vb, .int .i64 vc, .int .i64 vd] 91)) w.heap.size 91 #[.int .i64 va, .int .i64 vb, .int .i64 vc, .int .i64 vd] := Blk.new _ _ _
 have hk : Kp NoB w (w.alloc (.cells #[.int .i64 va, .int .i64 vb, .int .i64 vc, .int .i64 vd] 91)) := (Kp.refl NoB w).alloc _
 have hl := hb.lt
 clear hv
 go_enter Tryz.func95, Tryz.ntmps95
 go_upto_region 1 with fail
 generalize w.alloc (.cells #[.int .i64 va, .int .i64 vb, .int .i64 vc, .int .i64 vd] 91) = W at hb hk hl ⊢
 generalize hs0 : w.heap.size = s0 at hb hl ⊢
 have HS0 := zh hs0
 have HB := zh hb
 have HK := zh hk
 have C0 : Hid (∀ V, Kp NoB W V → V.cell? ⟨s0, 0, none⟩ = some (.int .i64 va)) := zh (fun V q => (hb.keep q (fun z => z)).cell 0)
 have C1 : Hid (∀ V, Kp NoB W V → V.cell? ⟨s0, 1, none⟩ = some (.int .i64 vb)) := zh (fun V q => (hb.keep q (fun z => z)).cell 1)
 have C2 : Hid (∀ V, Kp NoB W V → V.cell? ⟨s0, 2, none⟩ = some (.int .i64 vc)) := zh (fun V q => (hb.keep q (fun z => z)).cell 2)
 have C3 : Hid (∀ V, Kp NoB W V → V.cell? ⟨s0, 3, none⟩ = some (.int .i64 vd)) := zh (fun V q => (hb.keep q (fun z => z)).cell 3)
 have F0 : Hid (∀ V, Calls Tryz.prog 96 #[.int .i64 va] V fun e w' => e = .returned (.string (strOf (four va))) ∧ Kp NoB V w') := zh (fun V => four_rok V va HV.out.a)
 have F1 : Hid (∀ V, Calls Tryz.prog 96 #[.int .i64 vb] V fun e w' => e = .returned (.string (strOf (four vb))) ∧ Kp NoB V w') := zh (fun V => four_rok V vb HV.out.b)
 have F2 : Hid (∀ V, Calls Tryz.prog 96 #[.int .i64 vc] V fun e w' => e = .returned (.string (strOf (four vc))) ∧ Kp NoB V w') := zh (fun V => four_rok V vc HV.out.c)
 have F3 : Hid (∀ V, Calls Tryz.prog 96 #[.int .i64 vd] V fun e w' => e = .returned (.string (strOf (four vd))) ∧ Kp NoB V w') := zh (fun V => four_rok V vd HV.out.d)
 have sz := strF_size
 clear hs0 hb hk hl
 refine wp_region_held_drew (S := fun V => Kp NoB W V) (by kernel_rfl) (Kp.refl NoB W).drew (fun hHeld => ?_)
 have k0 : Kp NoB W W.drew := (Kp.refl NoB W).drew
 generalize W.drew = V0 at k0 hHeld ⊢
 refine tkJ (i := 0) (v := (.pointer (some ⟨s0, 0, none⟩))) rfl k0 ?_
 simp only [Act.put, sA, sB, sC]
 refine tkS (i := 1) (v := (.int .i64 va)) rfl (Or.inl ⟨by rfl, fun w' hq => by (have := C0.out w' hq); go_simp⟩) k0 ?_
 simp only [Act.put, sA, sB, sC]
 refine tkJ (i := 3) (v := (.pointer (some ⟨s0, 1, none⟩))) rfl k0 ?_
 simp only [Act.put, sA, sB, sC]
 refine tkS (i := 4) (v := (.int .i64 vb)) rfl (Or.inl ⟨by rfl, fun w' hq => by (have := C1.out w' hq); go_simp⟩) k0 ?_
 simp only [Act.put, sA, sB, sC]
 refine tkJ (i := 7) (v := (.pointer (some ⟨s0, 2, none⟩))) rfl k0 ?_
 simp only [Act.put, sA, sB, sC]
 refine tkS (i := 8) (v := (.int .i64 vc)) rfl (Or.inl ⟨by rfl, fun w' hq => by (have := C2.out w' hq); go_simp⟩) k0 ?_
 simp only [Act.put, sA, sB, sC]
 refine tkJ (i := 11) (v := (.pointer (some ⟨s0, 3, none⟩))) rfl k0 ?_
 simp only [Act.put, sA, sB, sC]
 refine tkS (i := 12) (v := (.int .i64 vd)) rfl (Or.inl ⟨by rfl, fun w' hq => by (have := C3.out w' hq); go_simp⟩) k0 ?_
 simp only [Act.put, sA, sB, sC]
 refine tkR [2] ?_
 refine AllReadyH.callR (fun x W' => x = .string (strOf (four va)) ∧ Kp NoB W W') rfl (by rfl) 96 #[.int .i64 va] (by first | (go_simp; done) | (go_simp; rfl)) (fun _ _ q => q.2) ((F0.out V0).mono (by rintro e w' ⟨rfl, hk⟩; exact ⟨_, rfl, rfl, k0.trans hk (fun _ _ q => q)⟩)) ?_ AllReadyH.nil
 rintro x V1 ⟨rfl, k1⟩
 simp only [Act.put, sA, sB, sC]
 refine tkR [5] ?_
 refine AllReadyH.callR (fun x W' => x = .string (strOf (four vb)) ∧ Kp NoB W W') rfl (by rfl) 96 #[.int .i64 vb] (by first | (go_simp; done) | (go_simp; rfl)) (fun _ _ q => q.2) ((F1.out V1).mono (by rintro e w' ⟨rfl, hk⟩; exact ⟨_, rfl, rfl, k1.trans hk (fun _ _ q => q)⟩)) ?_ AllReadyH.nil
 rintro x V2 ⟨rfl, k2⟩
 simp only [Act.put, sA, sB, sC]
 refine tkJ (i := 6) (v := (.string (strOf (four va) ++ strOf (four vb)))) rfl k2 ?_
 simp only [Act.put, sA, sB, sC]
 refine tkR [9] ?_
 refine AllReadyH.callR (fun x W' => x = .string (strOf (four vc)) ∧ Kp NoB W W') rfl (by rfl) 96 #[.int .i64 vc] (by first | (go_simp; done) | (go_simp; rfl)) (fun _ _ q => q.2) ((F2.out V2).mono (by rintro e w' ⟨rfl, hk⟩; exact ⟨_, rfl, rfl, k2.trans hk (fun _ _ q => q)⟩)) ?_ AllReadyH.nil
 rintro x V3 ⟨rfl, k3⟩
 simp only [Act.put, sA, sB, sC]
 have z1 : (strOf (four va) ++ strOf (four vb)).size = 8 := by rw [ByteArray.size_append, sz, sz]
 refine tkJ (i := 10) (v := (.string (strOf (four va) ++ strOf (four vb) ++ strOf (four vc)))) rfl k3 ?_
 simp only [Act.put, sA, sB, sC]
 refine tkR [13] ?_
 refine AllReadyH.callR (fun x W' => x = .string (strOf (four vd)) ∧ Kp NoB W W') rfl (by rfl) 96 #[.int .i64 vd] (by first | (go_simp; done) | (go_simp; rfl)) (fun _ _ q => q.2) ((F3.out V3).mono (by rintro e w' ⟨rfl, hk⟩; exact ⟨_, rfl, rfl, k3.trans hk (fun _ _ q => q)⟩)) ?_ AllReadyH.nil
 rintro x V4 ⟨rfl, k4⟩
 simp only [Act.put, sA, sB, sC]
 have z2 : (strOf (four va) ++ strOf (four vb) ++ strOf (four vc)).size = 12 := by rw [ByteArray.size_append, z1, sz]
 refine tkJ (i := 14) (v := (.string (strOf (four va) ++ strOf (four vb) ++ strOf (four vc) ++ strOf (four vd)))) rfl k4 ?_
 simp only [Act.put, sA, sB, sC]
 refine tkJ (i := 15) (v := (.string (strOf (four va) ++ strOf (four vb) ++ strOf (four vc) ++ strOf (four vd)))) rfl k4 ?_
 simp only [Act.put, sA, sB, sC]
 refine wpAnyH_done (by kernel_rfl) ?_ _
 have hS : strOf (four va) ++ strOf (four vb) ++ strOf (four vc) ++ strOf (four vd) = strOf (W4.bytes ⟨va, vb, vc, vd⟩) := by unfold W4.bytes; rw [strOf_app, strOf_app, strOf_app]
 rw [hS]
 obtain ⟨S, hSS⟩ : ∃ S, strOf (W4.bytes ⟨va, vb, vc, vd⟩) = S := ⟨_, rfl⟩
 have s0z : S.size = 16 := by rw [← hSS, strOf_size]; rfl
 have s1z : (S ++ S).size = 32 := by rw [ByteArray.size_append, s0z]
 have s2z : (S ++ S ++ S).size = 48 := by rw [ByteArray.size_append, s1z, s0z]
 have s3z : (strOf (zeros 16)).size = 16 := by rw [strOf_size]; rfl
 rw [hSS]
 have HSS := zh hSS
 have K4 := zh (HK.out.trans k4 (fun _ _ q => q))
 clear hS hSS hHeld sz z1 z2 k0 k1 k2 k3 k4
 go_wp2_with (go_at_call 92; go_must (refine (zeros_rok _ 16 (by omega)).mono ?_); rintro e w5 ⟨rfl, hk5⟩; have HK5 := zh hk5; clear hk5)
 go_ret
 refine ⟨?_, K4.out.trans HK5.out (fun _ _ q => q)⟩
 show Ending.returned (.string (S ++ S ++ S ++ strOf (zeros 16))) = _
 unfold sealB
 rw [strOf_app, strOf_app, strOf_app, HSS.out]
end
section
open Go.RowKit
theorem num_takeR (l : List Int) (a k : Nat) (h : a + 4 ≤ k) : num (l.take k) a = num l a := by
 unfold num
 have e : ∀ j, j < k → (l.take k).getD j 0 = l.getD j 0 := fun j hj => by rw [List.getD_eq_getElem?_getD, List.getD_eq_getElem?_getD, List.getElem?_take, if_pos hj]
 rw [e a (by omega), e (a + 1) (by omega), e (a + 2) (by omega), e (a + 3) (by omega)]
theorem says_at (l : List Int) (h : ¬ l.length < 64) : says l = if l.take 16 = (l.drop 16).take 16 then wordsAt l 0 else wordsAt l 32 := by
 unfold says openB
 rw [if_neg h]
 have e1 : (l.take 64).take 16 = l.take 16 := by rw [List.take_take]; rfl
 have e2 : ((l.take 64).drop 16).take 16 = (l.drop 16).take 16 := by rw [List.drop_take, List.take_take]; rfl
 rw [e1, e2]
 unfold wordsAt
 split
 ·rw [num_takeR l 0 64 (by omega), num_takeR l (0 + 4) 64 (by omega), num_takeR l (0 + 8) 64 (by omega), num_takeR l (0 + 12) 64 (by omega)]
 ·rw [num_takeR l 32 64 (by omega), num_takeR l (32 + 4) 64 (by omega), num_takeR l (32 + 8) 64 (by omega), num_takeR l (32 + 12) 64 (by omega)]
theorem strOf_inj {a b : List Int} (ha : ∀ y ∈ a, 0 ≤ y ∧ y < 256) (hb : ∀ y ∈ b, 0 ≤ y ∧ y < 256) (h : strOf a = strOf b) : a = b := by
 rw [← strI_strOf a ha, h, strI_strOf b hb]
def w4V (v : W4) : Value := .agg #[.int .i64 v.a, .int .i64 v.b, .int .i64 v.c, .int .i64 v.d]
theorem buildI0 (w : World) : (Instr.build 91 #[]).run Tryz.prog w = .ok (.agg #[.int .i64 0, .int .i64 0, .int .i64 0, .int .i64 0]) w := by kernel_rfl
theorem infoI4 : (Tryz.prog.info? 91).map (·.size) = some 4 := by kernel_rfl
set_option maxRecDepth 100000 in
set_option maxHeartbeats 800000 in
theorem says_rok (w : World) (l : List Int) (hr : ∀ y ∈ l, 0 ≤ y ∧ y < 256) (hl : l.length ≤ 1099511627776) :
  Calls Tryz.prog 89 #[.string (strOf l)] w fun e w' => e = .returned (w4V (says l)) ∧ Kp NoB w w' := by
 have HR := zh hr
 have hsz := strOf_size l
 unfold w4V
 by_cases h64 : l.length < 64
 ·have hT : Hid (says l = ⟨0, 0, 0, 0⟩) := zh (by unfold says; rw [if_pos h64])
  rw [hT.out]
  have h64' : (l.length : Int) < 64 := by omega
  have hbu := buildI0
  clear hr
  go_enter Tryz.func89, Tryz.ntmps89
  go_wp2_with fail
  refine bodyPost_ret (results_cell_row rfl _ _ _ _ _ _ _ rfl (Blk.new _ _ _) Tryz.underlying91 rfl (by exact infoI4)) rfl ⟨rfl, (Kp.refl NoB w).alloc _⟩
 ·have h64' : ¬ (l.length : Int) < 64 := by omega
  have hT := says_at l h64
  have x1 : ((strOf l).extract 0 16).size = 16 := by rw [ByteArray.size_extract]; omega
  have x2 : ((strOf l).extract 16 32).size = 16 := by rw [ByteArray.size_extract]; omega
  have hb := str_eqB ((strOf l).extract 0 16) ((strOf l).extract 16 32)
  have he : ((strOf l).extract 0 16 = (strOf l).extract 16 32) ↔ l.take 16 = (l.drop 16).take 16 := by
   rw [strOf_sub, strOf_sub, List.drop_zero]
   exact ⟨fun q => strOf_inj (fun y hy => hr y (List.mem_of_mem_take hy)) (fun y hy => hr y (List.mem_of_mem_drop (List.mem_of_mem_take hy))) q, fun q => congrArg strOf q⟩
  clear hr
  by_cases h : l.take 16 = (l.drop 16).take 16
  ·rw [decide_eq_true (he.2 h)] at hb
   rw [if_pos h] at hT
   have HT := zh hT
   rw [hT]
   clear hT h he
   go_enter Tryz.func89, Tryz.ntmps89
   go_upto_region 4 with fail
   go_quiet (fail)
   have hb0 : Blk ((w.alloc (.cells #[.int .i64 0, .int .i64 0, .int .i64 0, .int .i64 0] 91)).drewN nq) w.heap.size 91 #[.int .i64 0, .int .i64 0, .int .i64 0, .int .i64 0] := (Blk.new _ _ _).drewN nq
   have hk0 : Kp NoB w ((w.alloc (.cells #[.int .i64 0, .int .i64 0, .int .i64 0, .int .i64 0] 91)).drewN nq) := ((Kp.refl NoB w).alloc _).drewN nq
   clear hb
   go_wp2_with fail
   refine (show Calls _ _ #[.string (strOf l), .int .i64 0] _ _ from number_rok _ l 0 HR.out (by omega) hl).mono ?_
   rintro e w1 ⟨rfl, hq1⟩
   have hb1 := hb0.keep hq1 (fun q => q)
   have hk1 := hk0.trans hq1 (fun _ _ q => q)
   go_wp2_with fail
   refine (show Calls _ _ #[.string (strOf l), .int .i64 4] _ _ from number_rok _ l 4 HR.out (by omega) hl).mono ?_
   rintro e w2 ⟨rfl, hq2⟩
   have hb2 := hb1.keep hq2 (fun q => q)
   have hk2 := hk1.trans hq2 (fun _ _ q => q)
   go_wp2_with fail
   refine (show Calls _ _ #[.string (strOf l), .int .i64 8] _ _ from number_rok _ l 8 HR.out (by omega) hl).mono ?_
   rintro e w3 ⟨rfl, hq3⟩
   have hb3 := hb2.keep hq3 (fun q => q)
   have hk3 := hk2.trans hq3 (fun _ _ q => q)
   go_wp2_with fail
   refine (show Calls _ _ #[.string (strOf l), .int .i64 12] _ _ from number_rok _ l 12 HR.out (by omega) hl).mono ?_
   rintro e w4 ⟨rfl, hq4⟩
   have hb4 := hb3.keep hq4 (fun q => q)
   have hk4 := hk3.trans hq4 (fun _ _ q => q)
   have HB := zh hb4
   have HK := zh hk4
   obtain ⟨c0, c1, c2, c3⟩ := show w4.cell? ⟨w.heap.size, 0, none⟩ = some (.int .i64 0) ∧ w4.cell? ⟨w.heap.size, 1, none⟩ = some (.int .i64 0) ∧ w4.cell? ⟨w.heap.size, 2, none⟩ = some (.int .i64 0) ∧ w4.cell? ⟨w.heap.size, 3, none⟩ = some (.int .i64 0) from ⟨hb4.cell 0, hb4.cell 1, hb4.cell 2, hb4.cell 3⟩
   obtain ⟨z0, z1, z2, z3⟩ := show w4.frozen? ⟨w.heap.size, 0, none⟩ = false ∧ w4.frozen? ⟨w.heap.size, 1, none⟩ = false ∧ w4.frozen? ⟨w.heap.size, 2, none⟩ = false ∧ w4.frozen? ⟨w.heap.size, 3, none⟩ = false from ⟨hb4.frozen 0, hb4.frozen 1, hb4.frozen 2, hb4.frozen 3⟩
   clear hb0 hb1 hb2 hb3 hb4 hk0 hk1 hk2 hk3 hk4 hq1 hq2 hq3 hq4
   go_wp2_with fail
   have hw : Blk ((((w4.setCell ⟨w.heap.size, 0, none⟩ (.int .i64 (num l 0))).setCell ⟨w.heap.size, 1, none⟩ (.int .i64 (num l 4))).setCell ⟨w.heap.size, 2, none⟩ (.int .i64 (num l 8))).setCell ⟨w.heap.size, 3, none⟩ (.int .i64 (num l 12))) w.heap.size 91 #[.int .i64 (num l 0), .int .i64 (num l 4), .int .i64 (num l 8), .int .i64 (num l 12)] := HB.out.whole #[.int .i64 (num l 0), .int .i64 (num l 4), .int .i64 (num l 8), .int .i64 (num l 12)] rfl
   refine bodyPost_ret (results_cell_row rfl _ _ _ _ _ _ _ rfl hw Tryz.underlying91 rfl (by exact infoI4)) rfl ⟨rfl, (((HK.out.setCell (p := ⟨w.heap.size, 0, none⟩) (.inl (Nat.le_refl _)) _).setCell (p := ⟨w.heap.size, 1, none⟩) (.inl (Nat.le_refl _)) _).setCell (p := ⟨w.heap.size, 2, none⟩) (.inl (Nat.le_refl _)) _).setCell (p := ⟨w.heap.size, 3, none⟩) (.inl (Nat.le_refl _)) _⟩
  ·rw [decide_eq_false (fun q => h (he.1 q))] at hb
   rw [if_neg h] at hT
   have HT := zh hT
   rw [hT]
   clear hT h he
   go_enter Tryz.func89, Tryz.ntmps89
   go_upto_region 4 with fail
   go_quiet (fail)
   have hb0 : Blk ((w.alloc (.cells #[.int .i64 0, .int .i64 0, .int .i64 0, .int .i64 0] 91)).drewN nq) w.heap.size 91 #[.int .i64 0, .int .i64 0, .int .i64 0, .int .i64 0] := (Blk.new _ _ _).drewN nq
   have hk0 : Kp NoB w ((w.alloc (.cells #[.int .i64 0, .int .i64 0, .int .i64 0, .int .i64 0] 91)).drewN nq) := ((Kp.refl NoB w).alloc _).drewN nq
   clear hb
   go_wp2_with fail
   refine (show Calls _ _ #[.string (strOf l), .int .i64 32] _ _ from number_rok _ l 32 HR.out (by omega) hl).mono ?_
   rintro e w1 ⟨rfl, hq1⟩
   have hb1 := hb0.keep hq1 (fun q => q)
   have hk1 := hk0.trans hq1 (fun _ _ q => q)
   go_wp2_with fail
   refine (show Calls _ _ #[.string (strOf l), .int .i64 36] _ _ from number_rok _ l 36 HR.out (by omega) hl).mono ?_
   rintro e w2 ⟨rfl, hq2⟩
   have hb2 := hb1.keep hq2 (fun q => q)
   have hk2 := hk1.trans hq2 (fun _ _ q => q)
   go_wp2_with fail
   refine (show Calls _ _ #[.string (strOf l), .int .i64 40] _ _ from number_rok _ l 40 HR.out (by omega) hl).mono ?_
   rintro e w3 ⟨rfl, hq3⟩
   have hb3 := hb2.keep hq3 (fun q => q)
   have hk3 := hk2.trans hq3 (fun _ _ q => q)
   go_wp2_with fail
   refine (show Calls _ _ #[.string (strOf l), .int .i64 44] _ _ from number_rok _ l 44 HR.out (by omega) hl).mono ?_
   rintro e w4 ⟨rfl, hq4⟩
   have hb4 := hb3.keep hq4 (fun q => q)
   have hk4 := hk3.trans hq4 (fun _ _ q => q)
   have HB := zh hb4
   have HK := zh hk4
   obtain ⟨c0, c1, c2, c3⟩ := show w4.cell? ⟨w.heap.size, 0, none⟩ = some (.int .i64 0) ∧ w4.cell? ⟨w.heap.size, 1, none⟩ = some (.int .i64 0) ∧ w4.cell? ⟨w.heap.size, 2, none⟩ = some (.int .i64 0) ∧ w4.cell? ⟨w.heap.size, 3, none⟩ = some (.int .i64 0) from ⟨hb4.cell 0, hb4.cell 1, hb4.cell 2, hb4.cell 3⟩
   obtain ⟨z0, z1, z2, z3⟩ := show w4.frozen? ⟨w.heap.size, 0, none⟩ = false ∧ w4.frozen? ⟨w.heap.size, 1, none⟩ = false ∧ w4.frozen? ⟨w.heap.size, 2, none⟩ = false ∧ w4.frozen? ⟨w.heap.size, 3, none⟩ = false from ⟨hb4.frozen 0, hb4.frozen 1, hb4.frozen 2, hb4.frozen 3⟩
   clear hb0 hb1 hb2 hb3 hb4 hk0 hk1 hk2 hk3 hk4 hq1 hq2 hq3 hq4
   go_wp2_with fail
   have hw : Blk ((((w4.setCell ⟨w.heap.size, 0, none⟩ (.int .i64 (num l 32))).setCell ⟨w.heap.size, 1, none⟩ (.int .i64 (num l 36))).setCell ⟨w.heap.size, 2, none⟩ (.int .i64 (num l 40))).setCell ⟨w.heap.size, 3, none⟩ (.int .i64 (num l 44))) w.heap.size 91 #[.int .i64 (num l 32), .int .i64 (num l 36), .int .i64 (num l 40), .int .i64 (num l 44)] := HB.out.whole #[.int .i64 (num l 32), .int .i64 (num l 36), .int .i64 (num l 40), .int .i64 (num l 44)] rfl
   refine bodyPost_ret (results_cell_row rfl _ _ _ _ _ _ _ rfl hw Tryz.underlying91 rfl (by exact infoI4)) rfl ⟨rfl, (((HK.out.setCell (p := ⟨w.heap.size, 0, none⟩) (.inl (Nat.le_refl _)) _).setCell (p := ⟨w.heap.size, 1, none⟩) (.inl (Nat.le_refl _)) _).setCell (p := ⟨w.heap.size, 2, none⟩) (.inl (Nat.le_refl _)) _).setCell (p := ⟨w.heap.size, 3, none⟩) (.inl (Nat.le_refl _)) _⟩
end
section
open Go.RowKit
def rfL (f : Fr) : List Value := [.int .i64 f.n, .int .i64 f.en] ++ f.b.map (Value.int .u8)
def rfA (f : Fr) : Array Value := (rfL f).toArray
theorem rfL_len {f : Fr} (h : f.b.length = 256) : (rfL f).length = 258 := by simp [rfL, h]
theorem rfA_size {f : Fr} (h : f.b.length = 256) : (rfA f).size = 258 := by simp [rfA, rfL, h]
theorem rfL_one (f : Fr) : ∀ u ∈ rfL f, u.oneCell' = true := by
 intro u hu
 unfold rfL at hu
 rcases List.mem_append.1 hu with hu | hu
 ·simp only [List.mem_cons, List.not_mem_nil, or_false] at hu
  rcases hu with rfl | rfl <;> rfl
 ·exact u8_one _ u hu
def rf0 : Array Value := rfA ⟨0, 0, zeros 256⟩
theorem infoRfr : (Tryz.prog.info? 99).map (fun i => (i.zero, i.size, i.bytes)) = some (some (.agg ((#[.int .i64 0, .int .i64 0] : Array Value) ++ Array.replicate 256 (.int .u8 0))), 258, 272) := by kernel_rfl
theorem infoRfrS : (Tryz.prog.info? 99).map (·.size) = some 258 := by kernel_rfl
theorem zeroRfr (w : World) : (zeroValue 99).run Tryz.prog w = .ok (.agg rf0) w := by kernel_rfl
theorem loadRfr (w : World) (ev : Operand → Value) (ds : Option Tmp) (x : Operand) (ty : TypeId) (ps : String) (af : Array Edge) (g : Option (Nat × Bool)) (h : thereP w (ev x) 258) :
  (execOp ev ⟨ds, .load 99 x, ty, ps, af, g⟩).run Tryz.prog w = .ok (.value (.agg (readP w (ev x) 258))) w := execLoad_P Tryz.underlying99 rfl infoRfrS w ev ds x ty ps af g h
theorem storeRfr (w : World) (ev : Operand → Value) (ds : Option Tmp) (x y : Operand) (ty : TypeId) (ps : String) (af : Array Edge) (g : Option (Nat × Bool)) (hv : aggOK (ev y) 258) (h : thereP w (ev x) 258) :
  (execOp ev ⟨ds, .store 99 x y, ty, ps, af, g⟩).run Tryz.prog w = .ok .skip (setP w (ev x) (ev y)) := execStore_P infoRfrS w ev ds x y ty ps af g hv h
theorem allocRfr (w : World) (ev : Operand → Value) (ds : Option Tmp) (ty : TypeId) (ps : String) (af : Array Edge) (g : Option (Nat × Bool)) :
  (execOp ev ⟨ds, .alloc 99, ty, ps, af, g⟩).run Tryz.prog w = .ok (.value (.pointer (some ⟨w.heap.size, 0, none⟩))) (w.alloc (.cells rf0 99)) := by
 simp only [execOp, Instr.alloc, Sem.run_bind, zeroRfr, Result.andThen_ok]
 rfl
theorem buildRfr0 (w : World) (ev : Operand → Value) (ds : Option Tmp) (ty : TypeId) (ps : String) (af : Array Edge) (g : Option (Nat × Bool)) :
  (execOp ev ⟨ds, .build 99 #[], ty, ps, af, g⟩).run Tryz.prog w = .ok (.value (.agg rf0)) w := by
 kernel_rfl
theorem sliceRfr (w : World) (cs : Array Value) (hs : cs.size = 258) : (Instr.buildSlice 92 1 #[(0, .agg cs)]).run Tryz.prog w = .ok (.slice (some ⟨w.heap.size, 0, none⟩) 1 1) (w.alloc (.cells cs 99)) := by
 obtain ⟨i, hi, h0, h1, h2⟩ := info_parts infoRfr
 have hu := Tryz.underlying92
 have hc : (Value.agg cs).cells = cs := rfl
 have hf : ∀ Z : Array Value, Z.size = 258 → Instr.fill (fun i => some (i * 258, 258)) Z [(0, .agg cs)] = some cs := fun Z hZ => by
  have := Go.Great.fill_whole (s := 258) (by omega) [.agg cs] Z (by simp [hc, hs]) (by simp [hZ])
  simpa [hc] using this
 simp [Instr.buildSlice, run_underlying hu, sizeOf, typeInfo, hi, h1, zeroRfr, newRow, newObj]
 rw [hf _ (by simp)]
 rfl
theorem exSliceRfr (w : World) (ev : Operand → Value) (x : Operand) (cs : Array Value) (ds : Option Tmp) (ty : TypeId) (ps : String) (af : Array Edge) (g : Option (Nat × Bool)) (hx : ev x = .agg cs) (hs : cs.size = 258) :
  (execOp ev ⟨ds, .buildSlice 92 1 #[(0, x)], ty, ps, af, g⟩).run Tryz.prog w = .ok (.value (.slice (some ⟨w.heap.size, 0, none⟩) 1 1)) (w.alloc (.cells cs 99)) := by
 simp only [execOp, List.map_toArray, List.map_cons, List.map_nil, hx, Sem.run_bind, sliceRfr w cs hs, Result.andThen_ok]
 rfl
def plRf : Nat → Option (Nat × Nat) := fun i => (#[(0, 1), (1, 1), (2, 256)] : Array (Nat × Nat))[i]?
theorem built_rf (parts : List (Nat × Value)) : Tryz.prog.built 99 parts = Instr.fill plRf rf0 parts := by kernel_rfl
theorem fill_rf3 (n en : Int) (b : List Int) (hb : b.length = 256) : Instr.fill plRf rf0 [(0, .int .i64 n), (1, .int .i64 en), (2, .agg (bytesV b))] = some (rfA ⟨n, en, b⟩) := by
 have hz : ((zeros 256).map (Value.int .u8)).length = 256 := by unfold zeros; rw [List.length_map, List.length_replicate]
 have hbl : (b.map (Value.int .u8)).length = 256 := by rw [List.length_map, hb]
 have e0 : rf0 = ([] ++ [Value.int .i64 0] ++ ([Value.int .i64 0] ++ (zeros 256).map (Value.int .u8))).toArray := by unfold rf0 rfA rfL; simp
 rw [e0, fill_at plRf 0 (.int .i64 n) _ [] [.int .i64 0] ([Value.int .i64 0] ++ (zeros 256).map (Value.int .u8)) [.int .i64 n] rfl rfl rfl]
 have e1 : ([] ++ [Value.int .i64 n] ++ ([Value.int .i64 0] ++ (zeros 256).map (Value.int .u8)) : List Value) = [.int .i64 n] ++ [.int .i64 0] ++ (zeros 256).map (Value.int .u8) := by simp
 rw [e1, fill_at plRf 1 (.int .i64 en) _ [.int .i64 n] [.int .i64 0] ((zeros 256).map (Value.int .u8)) [.int .i64 en] rfl rfl rfl]
 have e2 : ([Value.int .i64 n] ++ [.int .i64 en] ++ (zeros 256).map (Value.int .u8) : List Value) = [.int .i64 n, .int .i64 en] ++ (zeros 256).map (Value.int .u8) ++ [] := by simp
 rw [e2]
 refine (fill_at plRf 2 (.agg (bytesV b)) [] [.int .i64 n, .int .i64 en] ((zeros 256).map (Value.int .u8)) [] (b.map (Value.int .u8)) (by rw [hbl]; rfl) rfl (by rw [hz, hbl])).trans ?_
 unfold Instr.fill rfA rfL
 simp
theorem fill_rf2 (n : Int) (b : List Int) (hb : b.length = 256) : Instr.fill plRf rf0 [(0, .int .i64 n), (2, .agg (bytesV b))] = some (rfA ⟨n, 0, b⟩) := by
 have hz : ((zeros 256).map (Value.int .u8)).length = 256 := by unfold zeros; rw [List.length_map, List.length_replicate]
 have hbl : (b.map (Value.int .u8)).length = 256 := by rw [List.length_map, hb]
 have e0 : rf0 = ([] ++ [Value.int .i64 0] ++ ([Value.int .i64 0] ++ (zeros 256).map (Value.int .u8))).toArray := by unfold rf0 rfA rfL; simp
 rw [e0, fill_at plRf 0 (.int .i64 n) _ [] [.int .i64 0] ([Value.int .i64 0] ++ (zeros 256).map (Value.int .u8)) [.int .i64 n] rfl rfl rfl]
 have e2 : ([] ++ [Value.int .i64 n] ++ ([Value.int .i64 0] ++ (zeros 256).map (Value.int .u8)) : List Value) = [.int .i64 n, .int .i64 0] ++ (zeros 256).map (Value.int .u8) ++ [] := by simp
 rw [e2]
 refine (fill_at plRf 2 (.agg (bytesV b)) [] [.int .i64 n, .int .i64 0] ((zeros 256).map (Value.int .u8)) [] (b.map (Value.int .u8)) (by rw [hbl]; rfl) rfl (by rw [hz, hbl])).trans ?_
 unfold Instr.fill rfA rfL
 simp
theorem exBuildRf3 (w : World) (ev : Operand → Value) (x y z : Operand) (n en : Int) (b : List Int) (hb : b.length = 256) (ds : Option Tmp) (ty : TypeId) (ps : String) (af : Array Edge) (g : Option (Nat × Bool)) (hx : ev x = .int .i64 n) (hy : ev y = .int .i64 en) (hz : ev z = .agg (bytesV b)) :
  (execOp ev ⟨ds, .build 99 #[(0, x), (1, y), (2, z)], ty, ps, af, g⟩).run Tryz.prog w = .ok (.value (.agg (rfA ⟨n, en, b⟩))) w := by
 simp only [execOp, List.map_toArray, List.map_cons, List.map_nil, hx, hy, hz, Sem.run_bind, run_build w 99 _ _ ((built_rf _).trans (fill_rf3 n en b hb)), Result.andThen_ok]
 rfl
theorem exBuildRf2 (w : World) (ev : Operand → Value) (x z : Operand) (n : Int) (b : List Int) (hb : b.length = 256) (ds : Option Tmp) (ty : TypeId) (ps : String) (af : Array Edge) (g : Option (Nat × Bool)) (hx : ev x = .int .i64 n) (hz : ev z = .agg (bytesV b)) :
  (execOp ev ⟨ds, .build 99 #[(0, x), (2, z)], ty, ps, af, g⟩).run Tryz.prog w = .ok (.value (.agg (rfA ⟨n, 0, b⟩))) w := by
 simp only [execOp, List.map_toArray, List.map_cons, List.map_nil, hx, hz, Sem.run_bind, run_build w 99 _ _ ((built_rf _).trans (fill_rf2 n b hb)), Result.andThen_ok]
 rfl
def RfsAt (w : World) (A : Option Addr) (n : Nat) (fs : List Fr) : Prop := RowsC w A n 258 (fs.map rfL)
def lgA (v : W4) (A : Option Addr) (n c : Nat) : Array Value := #[.int .i64 v.a, .int .i64 v.b, .int .i64 v.c, .int .i64 v.d, .slice A n c]
def lgV (v : W4) (A : Option Addr) (n c : Nat) : Value := .agg (lgA v A n c)
theorem RfsAt.at_ {w : World} {A : Option Addr} {n : Nat} {fs : List Fr} (h : RfsAt w A n fs) {i : Nat} {f : Fr} (hf : fs[i]? = some f) (hl : f.b.length = 256) :
  ∃ g o, A = some ⟨g, o, none⟩ ∧ g < w.heap.size ∧ w.cell? ⟨g, o + i * 258, none⟩ = some (.int .i64 f.n) ∧ w.cell? ⟨g, o + i * 258 + 1, none⟩ = some (.int .i64 f.en) ∧ w.rangeAt g (o + i * 258) (rfL f) := by
 have hk : (fs.map rfL)[i]? = some (rfL f) := by rw [List.getElem?_map, hf]; rfl
 obtain ⟨g, o, e, hg, hc⟩ := h.cell hk
 refine ⟨g, o, e, hg, hc 0 _ rfl, hc 1 _ rfl, fun j u hj => hc j u hj⟩
end
section
open Go.RowKit
set_option maxRecDepth 100000 in
set_option maxHeartbeats 1600000 in
theorem number_q (w : World) (b : List Int) (hb : ∀ y ∈ b, 0 ≤ y ∧ y < 256) (hl : 4 ≤ b.length) :
  Calls Tryz.prog 108 #[.string (strOf b)] w fun e w' => e = .returned (.int .i64 (num b 0)) ∧ Kp NoB w w' := by
 have HBR := zh hb
 obtain ⟨s, hs⟩ : ∃ s, strOf b = s := ⟨_, rfl⟩
 have HS := zh hs
 have HIX : Hid (∀ j, j < b.length → ∀ W, (Instr.index 9 (.string s) (.int .i64 ((j : Nat) : Int))).run Tryz.prog W = .ok (.int .u8 (b.getD j 0)) W) := zh (fun j hj W => idxStr HS.out HBR.out hj W)
 have HL := zh hl
 rw [hs]
 clear hb hs hl
 go_enter Tryz.func108, Tryz.ntmps108
 go_upto_region 1 with fail
 have hix0 : ∀ W, (Instr.index 9 (.string s) (.int .i64 0)).run Tryz.prog W = .ok (.int .u8 (b.getD 0 0)) W := HIX.out 0 (by have := HL.out; omega)
 have hix1 : ∀ W, (Instr.index 9 (.string s) (.int .i64 1)).run Tryz.prog W = .ok (.int .u8 (b.getD 1 0)) W := HIX.out 1 (by have := HL.out; omega)
 have hix2 : ∀ W, (Instr.index 9 (.string s) (.int .i64 2)).run Tryz.prog W = .ok (.int .u8 (b.getD 2 0)) W := HIX.out 2 (by have := HL.out; omega)
 have hix3 : ∀ W, (Instr.index 9 (.string s) (.int .i64 3)).run Tryz.prog W = .ok (.int .u8 (b.getD 3 0)) W := HIX.out 3 (by have := HL.out; omega)
 have hnum : num b 0 = b.getD 0 0 * 16777216 + b.getD 1 0 * 65536 + b.getD 2 0 * 256 + b.getD 3 0 := rfl
 have g0 := getD_rng HBR.out 0
 have g1 := getD_rng HBR.out 1
 have g2 := getD_rng HBR.out 2
 have g3 := getD_rng HBR.out 3
 generalize b.getD 0 0 = b0 at hix0 hnum g0
 generalize b.getD 1 0 = b1 at hix1 hnum g1
 generalize b.getD 2 0 = b2 at hix2 hnum g2
 generalize b.getD 3 0 = b3 at hix3 hnum g3
 have hwb0 : IntKind.i64.wrap (b0 * 16777216) = b0 * 16777216 := by rw [IntKind.wrap_i64]; omega
 have hwb1 : IntKind.i64.wrap (b1 * 65536) = b1 * 65536 := by rw [IntKind.wrap_i64]; omega
 have hwb2 : IntKind.i64.wrap (b2 * 256) = b2 * 256 := by rw [IntKind.wrap_i64]; omega
 have hwc0 : IntKind.i64.wrap b0 = b0 := by rw [IntKind.wrap_i64]; omega
 have hwc1 : IntKind.i64.wrap b1 = b1 := by rw [IntKind.wrap_i64]; omega
 have hwc2 : IntKind.i64.wrap b2 = b2 := by rw [IntKind.wrap_i64]; omega
 have hwc3 : IntKind.i64.wrap b3 = b3 := by rw [IntKind.wrap_i64]; omega
 have ho1 : bits BinOp.or IntKind.i64 (b0 * 16777216) (b1 * 65536) = b0 * 16777216 + b1 * 65536 := or_sum 24 (by omega) b0 (b1 * 65536) (by omega) (by omega) (by omega) (by show _ < (16777216 : Int); omega)
 have ho2 : bits BinOp.or IntKind.i64 (b0 * 16777216 + b1 * 65536) (b2 * 256) = b0 * 16777216 + b1 * 65536 + b2 * 256 := by
  have := or_sum 16 (by omega) (b0 * 256 + b1) (b2 * 256) (by omega) (by omega) (by omega) (by show _ < (65536 : Int); omega)
  rw [show (b0 * 256 + b1) * (2 : Int) ^ 16 = b0 * 16777216 + b1 * 65536 by rw [show (2 : Int) ^ 16 = 65536 from rfl]; omega] at this
  exact this
 have ho3 : bits BinOp.or IntKind.i64 (b0 * 16777216 + b1 * 65536 + b2 * 256) b3 = b0 * 16777216 + b1 * 65536 + b2 * 256 + b3 := by
  have := or_sum 8 (by omega) (b0 * 65536 + b1 * 256 + b2) b3 (by omega) (by omega) (by omega) (by show _ < (256 : Int); omega)
  rw [show (b0 * 65536 + b1 * 256 + b2) * (2 : Int) ^ 8 = b0 * 16777216 + b1 * 65536 + b2 * 256 by rw [show (2 : Int) ^ 8 = 256 from rfl]; omega] at this
  exact this
 refine wp_region_held_drew (S := fun _ => True) (by kernel_rfl) trivial (fun hHeld => ?_)
 refine tkJ (i := 0) (v := (.string s)) rfl trivial ?_
 simp only [Act.put, sA, sB, sC]
 refine tkJ (i := 1) (v := (.int .u8 b0)) rfl trivial ?_
 simp only [Act.put, sA, sB, sC]
 refine tkJ (i := 2) (v := (.int .i64 b0)) rfl trivial ?_
 simp only [Act.put, sA, sB, sC]
 refine tkJ (i := 3) (v := (.int .i64 (b0 * 16777216))) rfl trivial ?_
 simp only [Act.put, sA, sB, sC]
 refine tkJ (i := 4) (v := (.string s)) rfl trivial ?_
 simp only [Act.put, sA, sB, sC]
 refine tkJ (i := 5) (v := (.int .u8 b1)) rfl trivial ?_
 simp only [Act.put, sA, sB, sC]
 refine tkJ (i := 6) (v := (.int .i64 b1)) rfl trivial ?_
 simp only [Act.put, sA, sB, sC]
 refine tkJ (i := 7) (v := (.int .i64 (b1 * 65536))) rfl trivial ?_
 simp only [Act.put, sA, sB, sC]
 refine tkJ (i := 8) (v := (.int .i64 (b0 * 16777216 + b1 * 65536))) rfl trivial ?_
 simp only [Act.put, sA, sB, sC]
 refine tkJ (i := 9) (v := (.string s)) rfl trivial ?_
 simp only [Act.put, sA, sB, sC]
 refine tkJ (i := 10) (v := (.int .u8 b2)) rfl trivial ?_
 simp only [Act.put, sA, sB, sC]
 refine tkJ (i := 11) (v := (.int .i64 b2)) rfl trivial ?_
 simp only [Act.put, sA, sB, sC]
 refine tkJ (i := 12) (v := (.int .i64 (b2 * 256))) rfl trivial ?_
 simp only [Act.put, sA, sB, sC]
 refine tkJ (i := 13) (v := (.int .i64 (b0 * 16777216 + b1 * 65536 + b2 * 256))) rfl trivial ?_
 simp only [Act.put, sA, sB, sC]
 refine tkJ (i := 14) (v := (.string s)) rfl trivial ?_
 simp only [Act.put, sA, sB, sC]
 refine tkJ (i := 15) (v := (.int .u8 b3)) rfl trivial ?_
 simp only [Act.put, sA, sB, sC]
 refine tkJ (i := 16) (v := (.int .i64 b3)) rfl trivial ?_
 simp only [Act.put, sA, sB, sC]
 refine tkJ (i := 17) (v := (.int .i64 (b0 * 16777216 + b1 * 65536 + b2 * 256 + b3))) rfl trivial ?_
 simp only [Act.put, sA, sB, sC]
 rw [← hnum]
 obtain ⟨x, hx⟩ : ∃ x, num b 0 = x := ⟨_, rfl⟩
 have HX := zh hx
 rw [hx] at hnum ⊢
 clear hx
 refine tkJ (i := 18) (v := (.int .i64 x)) rfl trivial ?_
 simp only [Act.put, sA, sB, sC]
 refine wpAnyH_done (by kernel_rfl) ?_ _
 clear hix0 hix1 hix2 hix3 hnum g0 g1 g2 g3 hwb0 hwb1 hwb2 hwc0 hwc1 hwc2 hwc3 ho1 ho2 ho3
 go_wp2_with fail
 go_ret
 exact ⟨by first | rfl | (rw [HX.out]; rfl), (Kp.refl NoB w).drew⟩
theorem wat_q (w : World) (k : Nat) (hk : k ≤ 1048576) : Calls Tryz.prog 78 #[.int .i64 (k : Int)] w fun e w' => e = .returned (.int .i64 ((64 + 320 * k : Nat) : Int)) ∧ w = w' := by
 have h1 : IntKind.i64.wrap ((k : Int) * 320) = (k : Int) * 320 := by rw [IntKind.wrap_i64]; omega
 have h2 : IntKind.i64.wrap (64 + (k : Int) * 320) = ((64 + 320 * k : Nat) : Int) := by rw [IntKind.wrap_i64]; omega
 go_enter Tryz.func78, Tryz.ntmps78
 go_wp2_with fail
 go_ret
 exact ⟨rfl, rfl⟩
end
end Go.Proofs.YtegcbdfilkecpaaGreat
