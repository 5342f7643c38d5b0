/- Texts of this proof, one behind the other: lemmas and contracts; each says its own conditions. -/
import Derived.Test.YtegcbdfilkecpaaGreatQ1
import Derived.Test.YtegcbdfilkecpaaGreatQ5
import Derived.Test.YtegcbdfilkecpaaGreatQ6
import Derived.Test.YtegcbdfilkecpaaGreatQ19
import Derived.ProofKit
import Derived.OpenShut
import Derived.ShutString
import Derived.ChangeOld
import Derived.Deep.Slices
import Derived.Deep.Fields
import Derived.ChangeSame
import Derived.Test.YtegcbdfilkecpaaGreatRows
import Derived.SliceStrings
import Derived.DataShut
namespace Go.Proofs.YtegcbdfilkecpaaGreat
section
open Go.RowKit
set_option maxRecDepth 100000 in
set_option maxHeartbeats 1600000 in
theorem done_2 (S : Nat → Prop) (w : World) (db : Nat) (p : Pl) (d : Rd) (x : JOp) (PA : Option Addr) (pn pc : Nat) (CA : Option Addr) (cn cc : Nat) (hq : Dq S w w db p) (hr : Rf w d p) (hO : OpOk S w x PA pn pc CA cn) (hdk : ∀ b, S b → DkB w b) (hsm : p.sm 600000000000) (hdo : x.do_ = 2) :
  Calls Tryz.prog 7 #[ptrV db, rdV d p, .agg (opV x PA pn pc CA cn cc)] w (DnPost S w db p) := by
 have hB := DnB.start (pc := pc) (cc := cc) hq hr hO hdk
 have HSM := zh hsm
 have HLT := zh hq.lt
 clear hq hr hO hdk hsm
 unfold rdC opV rdZ at hB
 unfold rdV opV
 rw [hdo]
 rw [hdo] at hB
 go_enter Tryz.func7, Tryz.ntmps7
 go_upto_region 1 with fail
 generalize (((w.alloc (.cells #[.bool true, .bool p.down, .slice d.fA d.fn d.fc, .slice d.pA d.pn d.pc, .int .i64 p.room, .int .i64 p.steps, .int .i64 p.crash, .int .i64 p.starts] 29)).alloc (.cells #[.int .i64 2, .int .i64 x.n, .int .i64 x.at_, .int .i64 x.count, .slice PA pn pc, .slice CA cn cc, .string x.data] 34)).alloc (.cells #[.bool false, .bool false, .slice none 0 0, .slice none 0 0, .int .i64 0, .int .i64 0, .int .i64 0, .int .i64 0] 29)) = w3 at hB ⊢
 generalize hs0 : w.heap.size = s0 at hB ⊢
 have HS0 := zh hs0
 have HB := zh hB
 clear hs0 hB
 have hl2 := HB.out.b2.lt
 have hl1 := HB.out.b1.lt
 have hl0 := HB.out.b0.lt
 obtain ⟨o0, o1, o2, o3, o4, o5, o6⟩ := opC7 HB.out.b1
 rw [hdo] at o0
 obtain ⟨c0, c1, c2, c3, c4, c5, c6, c7⟩ := HB.out.b0.rdc
 obtain ⟨y0, y1, y2, y3, y4, y5, y6, y7⟩ := HB.out.b2.c8
 obtain ⟨z0, z1, z2, z3, z4, z5, z6, z7⟩ := HB.out.b2.z8
 obtain ⟨x0, x1, x2, x3, x4, x5, x6, x7⟩ := HB.out.b0.z8
 have HB0 := zh HB.out.b0
 have HB1 := zh HB.out.b1
 have HB2 := zh HB.out.b2
 go_upto_region 17 with fail
 refine wp_region_held_drew (S := fun V => Kp (OnB (s0 + 1 + 1)) w3 V) (by kernel_rfl) (Kp.refl _ w3).drew (fun hHeld => ?_)
 have k0 : Kp NoB w3 w3.drew := (Kp.refl NoB w3).drew
 have m0 : Kp (OnB (s0 + 1 + 1)) w3 w3.drew := (Kp.refl _ w3).drew
 have hne0 : s0 ≠ s0 + 1 + 1 := by omega
 have hne1 : s0 + 1 ≠ s0 + 1 + 1 := by omega
 generalize w3.drew = T0 at k0 m0 hHeld ⊢
 refine tkS (i := 0) (v := (.agg #[.bool true, .bool p.down, .slice d.fA d.fn d.fc, .slice d.pA d.pn d.pc, .int .i64 p.room, .int .i64 p.steps, .int .i64 p.crash, .int .i64 p.starts])) rfl (Or.inl ⟨by rfl, fun w' hq => by obtain ⟨e0, e1, e2, e3, e4, e5, e6, e7⟩ := (HB0.out.keep hq (fun q => hne0 q)).rdc; go_simp⟩) m0 ?_
 simp only [Act.put, sA, sB, sC]
 refine tkJ (i := 1) (v := (ptrV db)) rfl m0 ?_
 simp only [Act.put, sA, sB, sC]
 refine tkS (i := 2) (v := (.agg #[.bool true, .bool p.down, .slice d.fA d.fn d.fc, .slice d.pA d.pn d.pc, .int .i64 p.room, .int .i64 p.steps, .int .i64 p.crash, .int .i64 p.starts])) rfl (Or.inl ⟨by rfl, fun w' hq => by obtain ⟨e0, e1, e2, e3, e4, e5, e6, e7⟩ := (HB0.out.keep hq (fun q => hne0 q)).rdc; go_simp⟩) m0 ?_
 simp only [Act.put, sA, sB, sC]
 refine tkJ (i := 3) (v := (.pointer (some ⟨s0 + 1, 2, none⟩))) rfl m0 ?_
 simp only [Act.put, sA, sB, sC]
 refine tkS (i := 4) (v := (.int .i64 x.at_)) rfl (Or.inl ⟨by rfl, fun w' hq => by obtain ⟨_, _, e2, _⟩ := opC7 (HB1.out.keep hq (fun q => hne1 q)); go_simp⟩) m0 ?_
 simp only [Act.put, sA, sB, sC]
 refine tkJ (i := 5) (v := (.pointer (some ⟨s0 + 1, 1, none⟩))) rfl m0 ?_
 simp only [Act.put, sA, sB, sC]
 refine tkS (i := 6) (v := (.int .i64 x.n)) rfl (Or.inl ⟨by rfl, fun w' hq => by obtain ⟨_, e1, _⟩ := opC7 (HB1.out.keep hq (fun q => hne1 q)); go_simp⟩) m0 ?_
 simp only [Act.put, sA, sB, sC]
 refine tkR [7] ?_
 refine AllReadyH.callR (fun y W' => y = .bool true ∧ Kp NoB w3 W') rfl (by rfl) 19 #[ptrV db, .agg #[.bool true, .bool p.down, .slice d.fA d.fn d.fc, .slice d.pA d.pn d.pc, .int .i64 p.room, .int .i64 p.steps, .int .i64 p.crash, .int .i64 p.starts], .int .i64 x.at_, .int .i64 x.n] (by first | (go_simp; done) | (go_simp; rfl)) (fun _ _ q => (q.2.mono (fun _ _ z => z.elim))) ((look_ok T0 db p d x.at_ x.n (HB.out.q.keep k0) (HB.out.r.keep k0) HSM.out HB.out.o.rn).mono (by rintro e w19 ⟨rfl, hk⟩; exact ⟨_, rfl, rfl, k0.trans hk (fun _ _ z => z)⟩)) ?_ AllReadyH.nil
 rintro y T1 ⟨rfl, k1⟩
 have m1 : Kp (OnB (s0 + 1 + 1)) w3 T1 := k1.mono (fun _ _ z => z.elim)
 simp only [Act.put, sA, sB, sC]
 refine tkR [8] ?_
 have hb3 := HB2.out.keep k1 (fun q => q)
 have hbe := hb3.whole (rdC d p) rfl
 have hkc : Kp (OnB (s0 + 1 + 1)) T1 (T1.setCells (s0 + 1 + 1) 0 (rdC d p).toList) := Kp.setCells (S := OnB (s0 + 1 + 1)) (.inr rfl) _ _ _ (Kp.refl _ T1)
 refine AllReadyH.storeL rfl (by rfl) (s0 + 1 + 1) 0 (rdC d p) rfl rfl (hb3.thereAll 8 rfl) (by exact infoRd) (rdC_ones d p) (m1.trans hkc (fun _ _ q => q)) ?_ AllReadyH.nil
 generalize T1.setCells (s0 + 1 + 1) 0 (rdC d p).toList = T5 at hbe hkc ⊢
 have m5 := m1.trans hkc (fun _ _ q => q)
 refine tkJ (i := 9) (v := (.bool true)) rfl m5 ?_
 simp only [Act.put, sA, sB, sC]
 refine wpAnyH_done (by kernel_rfl) ?_ _
 have HE0 := zh hbe
 have HE1 : Hid (Rf T5 d p) := zh ((HB.out.r.keep k1).keepB hkc hb3 rdZ_str)
 have HE2 : Hid (Dq S w T5 db p) := zh (HB.out.fin HS0.out (HB.out.q.keep k1) hkc)
 clear hHeld k0 k1 m0 m1 m5 hkc hb3 hbe
 go_wp2_with fail
 refine bodyPost_ret (ret_cell_tmp rfl _ _ _ _ _ _ rfl HE0.out Tryz.underlying29 rfl (by exact infoRd) _ rfl) rfl ⟨d, rfl, HE1.out, HE2.out⟩
end
section
open Go.RowKit
theorem pgsCells_lenG {l : List Pg} (h : ∀ x ∈ l, PgOk x) : (pgsCells l).length = l.length * 257 := by
 unfold pgsCells
 induction l with
 | nil => rfl
 | cons x r ih =>
  rw [List.flatMap_cons, List.length_append, ih fun y hy => h y (List.mem_cons_of_mem _ hy), pgL_len (h x (List.mem_cons_self ..)), List.length_cons]
  omega
theorem pgsCells_oneG (l : List Pg) : ∀ u ∈ pgsCells l, u.oneCell' = true := by
 intro u hu
 unfold pgsCells at hu
 obtain ⟨x, _, hx⟩ := List.mem_flatMap.1 hu
 exact pgL_one x u hx
theorem PgsAt.rgG {w : World} {A : Option Addr} {n : Nat} {l : List Pg} (h : PgsAt w A n l) {k : Nat} {x : Pg} (hx : l[k]? = some x) : ∃ g o, A = some ⟨g, o, none⟩ ∧ g < w.heap.size ∧ w.rangeAt g (o + k * 257) (pgL x) :=
 RowsC.cell h (k := k) (x := pgL x) (by rw [List.getElem?_map, hx]; rfl)
theorem Kp.rangeG {S : Nat → Prop} {w w' : World} {g o : Nat} {xs : List Value} (k : Kp S w w') (hg : g < w.heap.size) (hn : ¬ S g) (h : w.rangeAt g o xs) : w'.rangeAt g o xs := fun j v hj => (k.cell hg hn).trans (h j v hj)
def DnRel (w6 : World) (n : Nat) (v12 : Value) (wr : World) : Prop := ∃ k : Nat, v12 = .int .i64 (k : Int) ∧ k ≤ n ∧ Kp NoB w6 wr
attribute [local go_sem ↓] loadPg storePg allocPg
set_option maxRecDepth 100000 in
set_option maxHeartbeats 1600000 in
theorem done_0 (S : Nat → Prop) (w : World) (db : Nat) (p : Pl) (d : Rd) (x : JOp) (PA : Option Addr) (pn pc : Nat) (CA : Option Addr) (cn cc : Nat) (hq : Dq S w w db p) (hr : Rf w d p) (hO : OpOk S w x PA pn pc CA cn) (hdk : ∀ b, S b → DkB w b) (hsm : p.sm 600000000000) (hdo : x.do_ = 0) :
  Calls Tryz.prog 7 #[ptrV db, rdV d p, .agg (opV x PA pn pc CA cn cc)] w (DnPost S w db (p.wcommit x.count x.pages).1) := by
 have hlen : x.pages.length = pn := hO.pg.len
 have HLEN := zh hlen
 clear hlen
 have hB := DnB.start (pc := pc) (cc := cc) hq hr hO hdk
 have HSM := zh hsm
 have HLT := zh hq.lt
 clear hq hr hO hdk hsm
 unfold rdC opV rdZ at hB
 unfold rdV opV
 rw [hdo]
 rw [hdo] at hB
 go_enter Tryz.func7, Tryz.ntmps7
 go_upto_region 1 with fail
 generalize (((w.alloc (.cells #[.bool true, .bool p.down, .slice d.fA d.fn d.fc, .slice d.pA d.pn d.pc, .int .i64 p.room, .int .i64 p.steps, .int .i64 p.crash, .int .i64 p.starts] 29)).alloc (.cells #[.int .i64 0, .int .i64 x.n, .int .i64 x.at_, .int .i64 x.count, .slice PA pn pc, .slice CA cn cc, .string x.data] 34)).alloc (.cells #[.bool false, .bool false, .slice none 0 0, .slice none 0 0, .int .i64 0, .int .i64 0, .int .i64 0, .int .i64 0] 29)) = w3 at hB ⊢
 generalize hs0 : w.heap.size = s0 at hB ⊢
 have HS0 := zh hs0
 have HB := zh hB
 clear hs0 hB
 have hl2 := HB.out.b2.lt
 have hl1 := HB.out.b1.lt
 have hl0 := HB.out.b0.lt
 obtain ⟨o0, o1, o2, o3, o4, o5, o6⟩ := opC7 HB.out.b1
 rw [hdo] at o0
 obtain ⟨c0, c1, c2, c3, c4, c5, c6, c7⟩ := HB.out.b0.rdc
 obtain ⟨y0, y1, y2, y3, y4, y5, y6, y7⟩ := HB.out.b2.c8
 obtain ⟨z0, z1, z2, z3, z4, z5, z6, z7⟩ := HB.out.b2.z8
 obtain ⟨x0, x1, x2, x3, x4, x5, x6, x7⟩ := HB.out.b0.z8
 obtain ⟨j0, hj0, hy0, hy1, hy2⟩ := info_parts infoPgA
 have HJ0 := zh hj0
 have HY0 := zh hy0
 have HY1 := zh hy1
 have HY2 := zh hy2
 have HCZ : Hid ((Value.agg (#[Value.int .i64 0] ++ Array.replicate 256 (Value.int .u8 0))).cells.size = 257) := zh (by simp [Value.cells])
 have HOWN : Hid ((w3.alloc (.cells #[] 49)).ownsRow w3.heap.size 49 257 (.slice (some ⟨w3.heap.size, 0, none⟩) 0 0) 0 []) := zh ⟨rfl, .inr ⟨w3.heap.size, 0, #[], rfl, Nat.le_refl _, heap_alloc_new _ _, Nat.le_refl _, by simp, rfl, rfl⟩⟩
 have HFL : Hid ((x.pages.map pgL).flatten = pgsCells x.pages) := zh (by unfold pgsCells; rw [List.flatMap_def])
 have HP60 : Hid (pn ≤ 60) := zh HB.out.o.pn60
 have HCL : Hid ((pgsCells x.pages).length = pn * 257) := zh (by rw [pgsCells_lenG HB.out.o.pok, HLEN.out])
 clear hj0 hy0 hy1 hy2
 go_upto_region 4 with (at_builtin; go_loud (refine wpList_append_srcN rfl _ _ 31 rfl w3.heap.size 49 j0 _ 257 264 Tryz.underlying31 HJ0.out HY0.out HY1.out HY2.out HCZ.out (by omega) _ 0 [] rfl HOWN.out PA pn pc (pgsCells x.pages) rfl HB.out.o.pnil HCL.out (fun hn => by have := (RowsC.keep HB.out.o.pg ((Kp.refl NoB w3).alloc (.cells #[] 49))).src hn (by omega); rw [HFL.out] at this; exact this) (pgsCells_oneG x.pages) (by have := HP60.out; unfold maxLen; omega) (by have := HP60.out; omega) (by simp) ?_); intro v8 w4 hown1 hgrow1; rw [Nat.zero_add, List.nil_append] at hown1; have HO1 := zh hown1; have hk1 := (((Kp.refl NoB w3).alloc (.cells #[] 49)).own (v := .slice (some ⟨w3.heap.size, 0, none⟩) 0 0) hgrow1 rfl HOWN.out); have HK34 := zh hk1; clear hown1 hgrow1 hk1)
 have hk := HK34.out
 have hq4 := HB.out.q.keep hk
 clear HK34
 have HQ := zh hq4
 have HK34 := zh hk
 obtain ⟨_, b0, b1, b2, r, o⟩ := HB.out.to hq4.kp
 have HB0 := zh b0
 have HB1 := zh b1
 have HB2 := zh b2
 have HR := zh r
 have HO := zh o
 clear hk hq4 b0 b1 b2 r o c0 c1 c2 c3 c4 c5 c6 c7 y0 y1 y2 y3 y4 y5 y6 y7 z0 z1 z2 z3 z4 z5 z6 z7 x0 x1 x2 x3 x4 x5 x6 x7 o0 o1 o2 o3 o4 o5 o6 hl0 hl1 hl2
 have hl2 := HB2.out.lt
 have hl1 := HB1.out.lt
 have hl0 := HB0.out.lt
 obtain ⟨o0, o1, o2, o3, o4, o5, o6⟩ := opC7 HB1.out
 obtain ⟨c0, c1, c2, c3, c4, c5, c6, c7⟩ := HB0.out.rdc
 obtain ⟨y0, y1, y2, y3, y4, y5, y6, y7⟩ := HB2.out.c8
 obtain ⟨z0, z1, z2, z3, z4, z5, z6, z7⟩ := HB2.out.z8
 obtain ⟨x0, x1, x2, x3, x4, x5, x6, x7⟩ := HB0.out.z8
 obtain ⟨A8, c8, rfl⟩ := own_slice HO1.out
 have hpg8 : PgsAt w4 A8 pn x.pages := (ownPgs_rowsR (n0 := w3.heap.size) (c := c8) ⟨by rw [HLEN.out]; exact HO1.out, HB.out.o.pok⟩).2
 have hap8 : Apart S A8 pn := fun g o e hn q => by
  have h1 := own_ge HO1.out g (by rw [e]; rfl)
  have h2 := HB.out.q.lt g q
  omega
 have HPG8 := zh hpg8
 have HAP8 := zh hap8
 have HBK := zh (HB.out.q.base1 HK34.out)
 clear hpg8 hap8 HO1 HOWN
 go_wp2_with fail
 refine (wcommit_q HBK.out x.count HB.out.o.rc A8 pn c8 x.pages HPG8.out HAP8.out HB.out.o.pok (by have := HP60.out; omega) (sm_mono HSM.out (by omega))).mono ?_
 rintro e w5 ⟨rfl, hq5⟩
 have HPG5 := zh (RowsC.keepS HPG8.out hq5.kp HAP8.out)
 have hqq := HBK.out.up HK34.out HB.out.q.lt hq5
 obtain ⟨_, b0, b1, b2, r, o⟩ := HB.out.to hqq.kp
 clear HQ HB0 HB1 HB2 HR HO HBK HPG8 HAP8 c0 c1 c2 c3 c4 c5 c6 c7 y0 y1 y2 y3 y4 y5 y6 y7 z0 z1 z2 z3 z4 z5 z6 z7 x0 x1 x2 x3 x4 x5 x6 x7 o0 o1 o2 o3 o4 o5 o6 hl0 hl1 hl2 hq5
 have HQ := zh hqq
 have HB0 := zh b0
 have HB1 := zh b1
 have HB2 := zh b2
 have HR := zh r
 have HO := zh o
 clear hqq b0 b1 b2 r o
 have hl2 := HB2.out.lt
 have hl1 := HB1.out.lt
 have hl0 := HB0.out.lt
 obtain ⟨o0, o1, o2, o3, o4, o5, o6⟩ := opC7 HB1.out
 obtain ⟨c0, c1, c2, c3, c4, c5, c6, c7⟩ := HB0.out.rdc
 obtain ⟨y0, y1, y2, y3, y4, y5, y6, y7⟩ := HB2.out.c8
 obtain ⟨z0, z1, z2, z3, z4, z5, z6, z7⟩ := HB2.out.z8
 obtain ⟨x0, x1, x2, x3, x4, x5, x6, x7⟩ := HB0.out.z8
 go_wp2_with fail
 refine (show Calls _ _ #[rdV d p, .int .i64 x.count, .slice PA pn pc] _ _ from wcommit_rok w5 d p x.count PA pn pc x.pages HR.out HO.out.pg HO.out.pok (by have := HP60.out; omega) HO.out.rc (sm_mono HSM.out (by omega))).mono ?_
 rintro e w6 ⟨d5, rfl, h5, hk5⟩
 obtain ⟨q, N1, E, hqE⟩ : ∃ q N1 E, p.wcommit x.count x.pages = (q, N1, E) := ⟨_, _, _, rfl⟩
 have HRUN := zh (show (p.wcommit x.count x.pages).1 = q by rw [hqE])
 have HPG6 := zh (HPG5.out.keep hk5)
 rw [hqE] at h5 HQ ⊢
 clear hqE HPG5
 have HQ' := zh (HQ.out.keep hk5)
 have HB0' := zh (HB0.out.keep hk5 (fun q => q))
 have HB1' := zh (HB1.out.keep hk5 (fun q => q))
 have HB2' := zh (HB2.out.keep hk5 (fun q => q))
 have HR' := zh h5
 have HO' := zh (HO.out.keep (hk5.mono (fun _ _ q => q.elim)))
 clear hk5 h5 HQ HB0 HB1 HB2 HR HO c0 c1 c2 c3 c4 c5 c6 c7 y0 y1 y2 y3 y4 y5 y6 y7 z0 z1 z2 z3 z4 z5 z6 z7 x0 x1 x2 x3 x4 x5 x6 x7 o0 o1 o2 o3 o4 o5 o6 hl0 hl1 hl2
 have HQ := HQ'
 have HB0 := HB0'
 have HB1 := HB1'
 have HB2 := HB2'
 have HR := HR'
 have HO := HO'
 clear HQ' HB0' HB1' HB2' HR' HO'
 have hl2 := HB2.out.lt
 have hl1 := HB1.out.lt
 have hl0 := HB0.out.lt
 obtain ⟨o0, o1, o2, o3, o4, o5, o6⟩ := opC7 HB1.out
 obtain ⟨c0, c1, c2, c3, c4, c5, c6, c7⟩ := HB0.out.rdc
 obtain ⟨y0, y1, y2, y3, y4, y5, y6, y7⟩ := HB2.out.c8
 obtain ⟨z0, z1, z2, z3, z4, z5, z6, z7⟩ := HB2.out.z8
 obtain ⟨x0, x1, x2, x3, x4, x5, x6, x7⟩ := HB0.out.z8
 unfold rdV
 go_upto_region 6 with fail
 have hg2 : Blk (w6.alloc (.cells (rdC d5 q) 29)) w6.heap.size 29 (rdC d5 q) := Blk.new _ _ _
 have hk5 : Kp NoB w6 (w6.alloc (.cells (rdC d5 q) 29)) := (Kp.refl NoB w6).alloc _
 have h5 : Rf (w6.alloc (.cells (rdC d5 q) 29)) d5 (q) := HR.out.keep hk5
 unfold rdC at hg2 hk5 h5
 generalize hg : w6.heap.size = g at hg2 ⊢
 have hgl : s0 + 1 + 1 < g := by have := HB2.out.lt; omega
 generalize (w6.alloc (.cells #[.bool true, .bool (q).down, .slice d5.fA d5.fn d5.fc, .slice d5.pA d5.pn d5.pc, .int .i64 (q).room, .int .i64 (q).steps, .int .i64 (q).crash, .int .i64 (q).starts] 29)) = w7 at hg2 hk5 h5 ⊢
 have HG2 := zh (show Blk w7 g 29 (rdC d5 q) from hg2)
 have HGL := zh hgl
 have HKB := zh hk5
 clear hg2 hg hgl
 have HQ' := zh (HQ.out.keep hk5)
 have HB0' := zh (HB0.out.keep hk5 (fun q => q))
 have HB1' := zh (HB1.out.keep hk5 (fun q => q))
 have HB2' := zh (HB2.out.keep hk5 (fun q => q))
 have HR' := zh h5
 have HO' := zh (HO.out.keep (hk5.mono (fun _ _ q => q.elim)))
 clear hk5 h5 HQ HB0 HB1 HB2 HR HO c0 c1 c2 c3 c4 c5 c6 c7 y0 y1 y2 y3 y4 y5 y6 y7 z0 z1 z2 z3 z4 z5 z6 z7 x0 x1 x2 x3 x4 x5 x6 x7 o0 o1 o2 o3 o4 o5 o6 hl0 hl1 hl2
 have HQ := HQ'
 have HB0 := HB0'
 have HB1 := HB1'
 have HB2 := HB2'
 have HR := HR'
 have HO := HO'
 clear HQ' HB0' HB1' HB2' HR' HO'
 have hl2 := HB2.out.lt
 have hl1 := HB1.out.lt
 have hl0 := HB0.out.lt
 obtain ⟨o0, o1, o2, o3, o4, o5, o6⟩ := opC7 HB1.out
 obtain ⟨c0, c1, c2, c3, c4, c5, c6, c7⟩ := HB0.out.rdc
 obtain ⟨y0, y1, y2, y3, y4, y5, y6, y7⟩ := HB2.out.c8
 obtain ⟨z0, z1, z2, z3, z4, z5, z6, z7⟩ := HB2.out.z8
 obtain ⟨x0, x1, x2, x3, x4, x5, x6, x7⟩ := HB0.out.z8
 obtain ⟨g0, g1, g2, g3, g4, g5, g6, g7⟩ := HG2.out.rdc
 have hgs := HG2.out.lt
 have hgg : s0 < g ∧ s0 + 1 < g ∧ s0 + 1 + 1 < g := by have := HGL.out; omega
 have HPG7 := zh (HPG6.out.keep HKB.out)
 have HX0 := zh HB0.out
 have HX1 := zh HB1.out
 have HX2 := zh HB2.out
 have HXQ := zh HQ.out
 have HXR := zh HR.out
 have HXO := zh HO.out
 clear HPG6 HKB HB0 HB1 HB2 HQ HR HO g0 g1 g2 g3 g4 g5 g6 g7 hgs c0 c1 c2 c3 c4 c5 c6 c7 y0 y1 y2 y3 y4 y5 y6 y7 z0 z1 z2 z3 z4 z5 z6 z7 x0 x1 x2 x3 x4 x5 x6 x7 o0 o1 o2 o3 o4 o5 o6 hl0 hl1 hl2
 clear j0 HJ0 HY0 HY1 HY2 HCZ HFL HCL
 go_wp2_with fail
 go_loopw [14] (fun v12 wr => DnRel w7 pn v12 wr) (fun v12 _ => pn - (intOf v12).toNat)
 case atStart => exact ⟨0, rfl, Nat.zero_le _, Kp.refl _ _⟩
 case round =>
  obtain ⟨wq, rfl⟩ : ∃ wq, wq = wr := ⟨_, rfl⟩
  obtain ⟨k, rfl, hk, hkp⟩ := hrel
  have HKP := zh hkp
  have hP60 := HP60.out
  clear hkp
  by_cases hlt : k < pn
  ·have hkk : (k : Int) < (pn : Int) := by omega
   obtain ⟨y, hy⟩ : ∃ y, x.pages[k]? = some y := ⟨_, List.getElem?_eq_getElem (by rw [HLEN.out]; exact hlt)⟩
   have hyo : PgOk y := HB.out.o.pok y (List.mem_of_getElem? hy)
   obtain ⟨ga, oa, rfl, hga, hra⟩ := PgsAt.rgG HPG7.out hy
   obtain ⟨gb, ob, rfl, hgb, hrb⟩ := PgsAt.rgG HXO.out.pg hy
   have HRA := zh hra
   have HRB := zh hrb
   clear hra hrb
   go_upto_region 9 with fail
   refine wp_region_held_drew (S := fun V => Kp NoB w7 V) (by kernel_rfl) HKP.out.drew (fun hHeld => ?_)
   have k0 : Kp NoB w7 wq.drew := HKP.out.drew
   have hu := Tryz.underlying49
   have hix : (Tryz.prog.info? 49).map (·.size) = some (pgL y).length := by rw [pgL_len hyo]; exact infoPgS
   generalize wq.drew = V0 at k0 hHeld ⊢
   refine tkJ (i := 0) (v := (.slice (some ⟨ga, oa, none⟩) pn c8)) rfl k0 ?_
   simp only [Act.put, sA, sB, sC]
   refine tkJ (i := 1) (v := (.int .i64 (k : Int))) rfl k0 ?_
   simp only [Act.put, sA, sB, sC]
   refine tkJ (i := 2) (v := (.pointer (some ⟨ga, oa + k * 257, none⟩))) rfl k0 ?_
   simp only [Act.put, sA, sB, sC]
   refine tkS (i := 3) (v := .agg ((pgL y)).toArray) rfl (yieldsIf_load_mid (by rfl) _ _ rfl _ _ rfl (pgL y) _ (fun _ q => q.rangeG hga (fun z => z) HRA.out) hu rfl hix) k0 ?_
   simp only [Act.put, sA, sB, sC]
   refine tkJ (i := 4) (v := (.pointer (some ⟨s0 + 1, 4, none⟩))) rfl k0 ?_
   simp only [Act.put, sA, sB, sC]
   refine tkS (i := 5) (v := (.slice (some ⟨gb, ob, none⟩) pn pc)) rfl (Or.inl ⟨by rfl, fun w' hq => by obtain ⟨_, _, _, _, e4, _, _⟩ := opC7 (HX1.out.keep hq (fun q => q)); go_simp⟩) k0 ?_
   simp only [Act.put, sA, sB, sC]
   refine tkJ (i := 6) (v := (.int .i64 (k : Int))) rfl k0 ?_
   simp only [Act.put, sA, sB, sC]
   refine tkJ (i := 7) (v := (.pointer (some ⟨gb, ob + k * 257, none⟩))) rfl k0 ?_
   simp only [Act.put, sA, sB, sC]
   refine tkS (i := 8) (v := .agg ((pgL y)).toArray) rfl (yieldsIf_load_mid (by rfl) _ _ rfl _ _ rfl (pgL y) _ (fun _ q => q.rangeG hgb (fun z => z) HRB.out) hu rfl hix) k0 ?_
   simp only [Act.put, sA, sB, sC]
   refine tkS (i := 9) (v := .bool false) rfl (Or.inl ⟨by rfl, fun w' hq => neqPgA w' _ _ _ _ hyo rfl rfl⟩) k0 ?_
   simp only [Act.put, sA, sB, sC]
   refine wpAnyH_done (by kernel_rfl) ?_ _
   have HK0 := zh k0
   clear hHeld k0 hu hix
   go_wp2_with fail
   go_roundw
   case rel => exact ⟨k + 1, by congr 1, by omega, HK0.out⟩
   case measure => simp [intOf]; omega
  ·have hkk : ¬ (k : Int) < (pn : Int) := by omega
   have HQ := zh (HXQ.out.keep HKP.out)
   have HB0 := zh (HX0.out.keep HKP.out (fun q => q))
   have HB1 := zh (HX1.out.keep HKP.out (fun q => q))
   have HB2 := zh (HX2.out.keep HKP.out (fun q => q))
   have HR := zh (HXR.out.keep HKP.out)
   have HG := zh (HG2.out.keep HKP.out (fun q => q))
   have hl2 := HB2.out.lt
   have hl1 := HB1.out.lt
   have hl0 := HB0.out.lt
   obtain ⟨o0, o1, o2, o3, o4, o5, o6⟩ := opC7 HB1.out
   obtain ⟨c0, c1, c2, c3, c4, c5, c6, c7⟩ := HB0.out.rdc
   obtain ⟨y0, y1, y2, y3, y4, y5, y6, y7⟩ := HB2.out.c8
   obtain ⟨z0, z1, z2, z3, z4, z5, z6, z7⟩ := HB2.out.z8
   obtain ⟨x0, x1, x2, x3, x4, x5, x6, x7⟩ := HB0.out.z8
   obtain ⟨g0, g1, g2, g3, g4, g5, g6, g7⟩ := HG.out.rdc
   have hgs := HG.out.lt
   clear HPG7 HX0 HX1 HX2 HXQ HXR HXO hk hlt HP60 hP60
   go_wp2_with fail
   refine bodyPost_ret (ret_cell_tmp rfl _ _ _ _ _ _ rfl (blk8 HB2.out rfl) Tryz.underlying29 rfl (by exact infoRd) _ rfl) rfl ⟨d5, by rw [HRUN.out]; rfl, ?_, ?_⟩
   ·rw [HRUN.out]
    exact (HR.out).keepB (kp8 (Kp.refl _ wq) (.inr rfl)) HB2.out rdZ_str
   ·rw [HRUN.out]
    exact HB.out.fin HS0.out (HQ.out) (kp8 (Kp.refl _ wq) (.inr rfl))
end
section
open Go.RowKit
theorem done_ok (S : Nat → Prop) (w : World) (db : Nat) (p : Pl) (d : Rd) (x : JOp) (PA : Option Addr) (pn pc : Nat) (CA : Option Addr) (cn cc : Nat) (hq : Dq S w w db p) (hr : Rf w d p) (hO : OpOk S w x PA pn pc CA cn) (hdk : ∀ b, S b → DkB w b) (hsm : p.sm 600000000000) :
  Calls Tryz.prog 7 #[ptrV db, rdV d p, .agg (opV x PA pn pc CA cn cc)] w (DnPost S w db (wop p x)) := by
 unfold wop
 by_cases h0 : x.do_ = 0
 ·rw [if_pos h0]; exact done_0 S w db p d x PA pn pc CA cn cc hq hr hO hdk hsm h0
 rw [if_neg h0]
 by_cases h1 : x.do_ = 1
 ·rw [if_pos h1]; exact done_1 S w db p d x PA pn pc CA cn cc hq hr hO hdk hsm h1
 rw [if_neg h1]
 by_cases h2 : x.do_ = 2
 ·rw [if_pos h2]; exact done_2 S w db p d x PA pn pc CA cn cc hq hr hO hdk hsm h2
 rw [if_neg h2]
 by_cases h3 : x.do_ = 3
 ·rw [if_pos h3]; exact done_3 S w db p d x PA pn pc CA cn cc hq hr hO hdk hsm h3
 rw [if_neg h3]
 by_cases h4 : x.do_ = 4
 ·rw [if_pos h4]; exact done_4 S w db p d x PA pn pc CA cn cc hq hr hO hdk hsm h4
 rw [if_neg h4]
 by_cases h5 : x.do_ = 5
 ·rw [if_pos h5]; exact done_5 S w db p d x PA pn pc CA cn cc hq hr hO hdk hsm h5
 rw [if_neg h5]
 by_cases h6 : x.do_ = 6
 ·rw [if_pos h6]
  refine done_6 S w db p d x PA pn pc CA cn cc hq hr hO hdk hsm h6 _ ?_
  by_cases hn : x.n = 0
  ·rw [if_pos hn]; exact .inl ⟨hn, rfl⟩
  ·rw [if_neg hn]; exact .inr ⟨hn, rfl⟩
 rw [if_neg h6]
 exact done_7 S w db p d x PA pn pc CA cn cc hq hr hO hdk hsm (fun k a b e => by omega)
end
section
open Go.RowKit
theorem read_all {p : Pl} (hd : p.down = false) (s : ByteArray) (hl : (p.seen s).length ≤ 1048576) : p.read s 0 1048576 = p.seen s ∧ p.readE 0 1048576 = 0 := by
 have e : p.readE 0 1048576 = 0 := by unfold Pl.readE; rw [hd]; decide
 refine ⟨?_, e⟩
 unfold Pl.read
 rw [if_pos e]
 show ((p.seen s).drop 0).take 1048576 = _
 rw [List.drop_zero, List.take_of_length_le hl]
structure OpM (w : World) (x : JOp) (PA : Option Addr) (pn pc : Nat) (CA : Option Addr) (cn : Nat) : Prop where
 pg : PgsAt w PA pn x.pages
 pok : ∀ y ∈ x.pages, PgOk y
 pnil : PA = none → pn = 0 ∧ pc = 0
 ch : Nums w CA cn x.chs
 chr : ∀ y ∈ x.chs, -9223372036854775808 ≤ y ∧ y ≤ 9223372036854775807
 cn63 : cn ≤ 9223372036854775807
 rn : -9223372036854775808 ≤ x.n ∧ x.n ≤ 9223372036854775807
 ra : -9223372036854775808 ≤ x.at_ ∧ x.at_ ≤ 9223372036854775807
 rc : -9223372036854775808 ≤ x.count ∧ x.count ≤ 9223372036854775807
def JOps (w : World) (A : Option Addr) (n : Nat) (L : List JOp) : Prop := L.length = n ∧ ∀ k x, L[k]? = some x → ∃ (g o : Nat) (PA : Option Addr) (pn pc : Nat) (CA : Option Addr) (cn cc : Nat), A = some ⟨g, o, none⟩ ∧ g < w.heap.size ∧
 (∀ j v, (opV x PA pn pc CA cn cc)[j]? = some v → w.cell? ⟨g, o + k * 7 + j, none⟩ = some v) ∧ OpM w x PA pn pc CA cn
theorem OpM.ok {w w' : World} {x : JOp} {PA : Option Addr} {pn pc : Nat} {CA : Option Addr} {cn : Nat} (h : OpM w x PA pn pc CA cn) (k : Kp NoB w w') {S : Nat → Prop} (hS : ∀ b, S b → w.heap.size ≤ b) (h60 : pn ≤ 60) (hd : x.data.size ≤ 2000) : OpOk S w' x PA pn pc CA cn :=
 {pg := h.pg.keep k
  pa := fun g o e hn q => by have h1 := PgsAt.lt h.pg e hn; have h2 := hS g q; omega
  pok := h.pok
  pn60 := h60
  pnil := h.pnil
  ch := h.ch.keepG k (fun _ _ _ _ q => q)
  ca := fun g o e hn q => by have h1 := Nums.ltG h.ch e hn; have h2 := hS g q; omega
  chr := h.chr
  cn63 := h.cn63
  rn := h.rn
  ra := h.ra
  rc := h.rc
  dl := hd }
def JpRel (w : World) (n db g4 : Nat) (v5 : Value) (wr : World) : Prop := ∃ (k : Nat) (p : Pl) (d : Rd), v5 = .int .i64 (k : Int) ∧ k ≤ n ∧ Dq (fun _ => False) w wr db p ∧ Rf wr d p ∧ Blk wr g4 29 (rdC d p) ∧ w.heap.size ≤ g4 ∧ p.sm ((30 - k) * 400000000 + 600000000000)
set_option maxRecDepth 100000 in
set_option maxHeartbeats 4000000 in
theorem wplays_ok (w : World) (A : Option Addr) (n cap : Nat) (L : List JOp) (hL : JOps w A n L) : Calls Tryz.prog 3 #[.slice A n cap] w fun e w' => e = .returned (.bool true) ∧ Kp NoB w w' := by
 by_cases hbig : 30 < n
 ·have hb : (30 : Int) < (n : Int) := by omega
  clear hL
  go_enter Tryz.func3, Tryz.ntmps3
  go_wp2_with (go_at_call 4; go_must (refine (wawake_ok _).mono ?_); rintro e w8 ⟨rfl, hk8⟩; have HK8 := zh hk8; clear hk8)
  go_ret
  exact ⟨rfl, HK8.out⟩
 ·have hb : ¬ (30 : Int) < (n : Int) := by omega
  have HL := zh hL
  clear hL
  go_enter Tryz.func3, Tryz.ntmps3
  go_wp2_with fail
  refine (new_q w 40000 (by omega)).mono ?_
  rintro e w1 ⟨db, rfl, h1⟩
  have H1 := zh h1
  clear h1
  unfold ptrV
  go_wp2_with fail
  refine (newR_ok w1 40000 (by omega)).mono ?_
  rintro e w2 ⟨d0, rfl, hr0, hk2⟩
  have HR0 := zh hr0
  have HQ2 := zh (H1.out.keep hk2)
  clear hr0 hk2 H1
  obtain ⟨p0, hp0⟩ : ∃ p0, Pl.new 40000 = p0 := ⟨_, rfl⟩
  have hsm0 : p0.sm (30 * 400000000 + 600000000000) := by rw [← hp0]; unfold Pl.sm; show 0 + 0 + _ < _; omega
  rw [hp0] at HR0 HQ2 ⊢
  clear hp0
  unfold rdV
  go_upto_region 5 with fail
  have hb4 : Blk (w2.alloc (.cells (rdC d0 p0) 29)) w2.heap.size 29 (rdC d0 p0) := Blk.new _ _ _
  have hk4 : Kp NoB w2 (w2.alloc (.cells (rdC d0 p0) 29)) := (Kp.refl NoB w2).alloc _
  have hr4 : Rf (w2.alloc (.cells (rdC d0 p0) 29)) d0 p0 := HR0.out.keep hk4
  have hw4 : w.heap.size ≤ w2.heap.size := HQ2.out.kp.size
  have hq4 := HQ2.out.keep hk4
  unfold rdC at hb4 hk4 hr4 hq4
  generalize hg4 : w2.heap.size = g4 at hb4 hw4 ⊢
  generalize (w2.alloc (.cells #[.bool true, .bool p0.down, .slice d0.fA d0.fn d0.fc, .slice d0.pA d0.pn d0.pc, .int .i64 p0.room, .int .i64 p0.steps, .int .i64 p0.crash, .int .i64 p0.starts] 29)) = w5 at hb4 hk4 hr4 hq4 ⊢
  have HB4 := zh (show Blk w5 g4 29 (rdC d0 p0) from hb4)
  have HR4 := zh hr4
  have HQ4 := zh hq4
  have HW4 := zh hw4
  have HSM0 := zh hsm0
  clear hb4 hk4 hr4 hw4 hq4 hg4 hsm0 HR0 HQ2
  go_wp2_with fail
  go_loopw [5] (fun v5 wr => JpRel w n db g4 v5 wr) (fun v _ => n - (intOf v).toNat)
  case atStart => exact ⟨0, p0, d0, rfl, Nat.zero_le _, HQ4.out, HR4.out, HB4.out, HW4.out, HSM0.out⟩
  case round =>
   obtain ⟨wq, rfl⟩ : ∃ wq, wq = wr := ⟨_, rfl⟩
   obtain ⟨k, p, d, rfl, hk, hq, hr, hb4, hw4, hsm⟩ := hrel
   have HQ := zh hq
   have HR := zh hr
   have HB := zh hb4
   have HSM := zh hsm
   have HKP := zh (show Kp NoB w wq from hq.kp)
   clear hq hr hb4 hsm HR4 HQ4 HB4 HSM0
   by_cases hlt : k < n
   ·have hkk : (k : Int) < (n : Int) := by omega
    obtain ⟨x, hx⟩ : ∃ x, L[k]? = some x := ⟨_, List.getElem?_eq_getElem (by rw [HL.out.1]; exact hlt)⟩
    obtain ⟨g, o, PA, pn, pc, CA, cn, cc, rfl, hg, hc, hO⟩ := HL.out.2 k x hx
    have HO := zh hO
    have f : ∀ j v, (opV x PA pn pc CA cn cc)[j]? = some v → wq.cell? ⟨g, o + k * 7 + j, none⟩ = some v := fun j v hj => (HKP.out.cell hg (fun q => q)).trans (hc j v hj)
    have c0 : wq.cell? ⟨g, o + k * 7, none⟩ = some (.int .i64 x.do_) := f 0 _ rfl
    have c1 := f 1 (.int .i64 x.n) rfl
    have c2 := f 2 (.int .i64 x.at_) rfl
    have c3 := f 3 (.int .i64 x.count) rfl
    have c4 := f 4 (.slice PA pn pc) rfl
    have c5 := f 5 (.slice CA cn cc) rfl
    have c6 := f 6 (.string x.data) rfl
    clear f hc hO hx hg
    go_upto_region 9 with fail
    have hb6 : Blk (wq.alloc (.cells (opV x PA pn pc CA cn cc) 34)) wq.heap.size 34 (opV x PA pn pc CA cn cc) := Blk.new _ _ _
    have hk6 : Kp NoB wq (wq.alloc (.cells (opV x PA pn pc CA cn cc) 34)) := (Kp.refl NoB wq).alloc _
    unfold opV at hb6 hk6
    generalize hg6 : wq.heap.size = g6 at hb6 ⊢
    generalize (wq.alloc (.cells #[.int .i64 x.do_, .int .i64 x.n, .int .i64 x.at_, .int .i64 x.count, .slice PA pn pc, .slice CA cn cc, .string x.data] 34)) = w3 at hb6 hk6 ⊢
    have HB6 := zh (show Blk w3 g6 34 (opV x PA pn pc CA cn cc) from hb6)
    have HKX := zh hk6
    clear c0 c1 c2 c3 c4 c5 c6 hb6 hk6 hg6
    obtain ⟨o0, o1, o2, o3, o4, o5, o6⟩ := opC7 HB6.out
    by_cases h60 : (60 : Int) < (pn : Int)
    ·go_wp2_with (go_at_call 4; go_must (refine (wawake_ok _).mono ?_); rintro e w8 ⟨rfl, hk8⟩; have HK8 := zh hk8; clear hk8)
     go_ret
     exact ⟨rfl, (HKP.out.trans HKX.out (fun _ _ q => q)).trans HK8.out (fun _ _ q => q)⟩
    by_cases hc60 : (60 : Int) < x.count ∧ x.count ≤ 4096
    ·obtain ⟨hc1, hc2⟩ := hc60
     go_wp2_with (go_at_call 4; go_must (refine (wawake_ok _).mono ?_); rintro e w8 ⟨rfl, hk8⟩; have HK8 := zh hk8; clear hk8)
     go_ret
     exact ⟨rfl, (HKP.out.trans HKX.out (fun _ _ q => q)).trans HK8.out (fun _ _ q => q)⟩
    by_cases hc1 : (60 : Int) < x.count
    ·have hc2 : ¬ x.count ≤ 4096 := fun q => hc60 ⟨hc1, q⟩
     clear hc60
     by_cases h2k : (2000 : Int) < (x.data.size : Int)
     ·go_wp2_with (go_at_call 4; go_must (refine (wawake_ok _).mono ?_); rintro e w8 ⟨rfl, hk8⟩; have HK8 := zh hk8; clear hk8)
      go_ret
      exact ⟨rfl, (HKP.out.trans HKX.out (fun _ _ q => q)).trans HK8.out (fun _ _ q => q)⟩
     by_cases h20k : (20000 : Int) < x.at_
     ·by_cases hd6 : x.do_ = 6
      ·have hd6b : (x.do_ == 6) = true := by simpa using hd6
       go_wp2_with (go_at_call 4; go_must (refine (wawake_ok _).mono ?_); rintro e w8 ⟨rfl, hk8⟩; have HK8 := zh hk8; clear hk8)
       go_ret
       exact ⟨rfl, (HKP.out.trans HKX.out (fun _ _ q => q)).trans HK8.out (fun _ _ q => q)⟩
      ·have hd6b : (x.do_ == 6) = false := by simpa using hd6
       obtain ⟨b0, b1, b2, b3, b4, b5, b6, b7⟩ := (HB.out.keep HKX.out (fun q => q)).rdc
       go_wp2_with fail
       obtain ⟨S, hqS, hS, hdk⟩ := (HQ.out.keep HKX.out).baseT
       have HNB : Hid (¬ S g4) := zh (fun q => hdk g4 q _ _ (HB.out.keep HKX.out (fun q => q)) (by decide))
       have HS := zh hS
       refine (show Calls _ _ #[ptrV db, rdV d p, .agg (opV x PA pn pc CA cn cc)] _ _ from done_ok S w3 db p d x PA pn pc CA cn cc hqS (HR.out.keep HKX.out) (HO.out.ok (HKP.out.trans HKX.out (fun _ _ q => q)) (fun b q => (hS b q).elim (fun z => z.elim) id) (by omega) (by omega)) hdk (sm_mono HSM.out (by omega))).mono ?_
       rintro e w4 ⟨d', rfl, hr', hq'⟩
       have HB4 := zh ((HB.out.keep HKX.out (fun q => q)).keep hq'.kp HNB.out)
       have hdb := (HQ.out.keep HKX.out).seen_le nmDb
       have hsm' : (wop p x).sm ((30 - (k + 1)) * 400000000 + 600000000000) := wop_sm x ((HQ.out.keep HKX.out).seen_rng nmWal) hdb (by have := HO.out.pg.len; omega) (sm_mono HSM.out (by omega))
       obtain ⟨q, hqe⟩ : ∃ q, wop p x = q := ⟨_, rfl⟩
       rw [hqe] at hr' hq' hsm' ⊢
       have HR4 := zh hr'
       have HQ4 := zh hq'
       have HSM4 := zh hsm'
       clear hr' hq' hsm' hqe hdb hqS hS hdk b0 b1 b2 b3 b4 b5 b6 b7 o0 o1 o2 o3 o4 o5 o6 HR HSM HO
       unfold rdV
       go_upto_region 12 with fail
       have hb7 : Blk (w4.alloc (.cells (rdC d' q) 29)) w4.heap.size 29 (rdC d' q) := Blk.new _ _ _
       have hk7 : Kp NoB w4 (w4.alloc (.cells (rdC d' q) 29)) := (Kp.refl NoB w4).alloc _
       unfold rdC at hb7 hk7
       generalize hg7 : w4.heap.size = g7 at hb7 ⊢
       have hlt7 : g4 < g7 := by have := HB4.out.lt; omega
       generalize (w4.alloc (.cells #[.bool true, .bool q.down, .slice d'.fA d'.fn d'.fc, .slice d'.pA d'.pn d'.pc, .int .i64 q.room, .int .i64 q.steps, .int .i64 q.crash, .int .i64 q.starts] 29)) = w6 at hb7 hk7 ⊢
       have HB7 := zh (show Blk w6 g7 29 (rdC d' q) from hb7)
       have HK7 := zh hk7
       clear hb7 hk7 hg7
       obtain ⟨b0, b1, b2, b3, b4, b5, b6, b7⟩ := HB7.out.rdc
       have HB6 := zh (HB4.out.keep HK7.out (fun q => q))
       obtain ⟨e0, e1, e2, e3, e4, e5, e6, e7⟩ := HB6.out.rdc
       obtain ⟨z0, z1, z2, z3, z4, z5, z6, z7⟩ := HB6.out.z8
       have hgl := HB6.out.lt
       go_wp2_with fail
       have hkk8 := kp8 (a0 := .bool true) (a1 := .bool q.down) (a2 := .slice d'.fA d'.fn d'.fc) (a3 := .slice d'.pA d'.pn d'.pc) (a4 := .int .i64 q.room) (a5 := .int .i64 q.steps) (a6 := .int .i64 q.crash) (a7 := .int .i64 q.starts) (Kp.refl (OnB g4) w6) (.inr rfl)
       exact ⟨⟨k + 1, q, d', by congr 1, by omega,
         (HQ4.out.keep HK7.out).loc (HKP.out.trans HKX.out (fun _ _ q => q)) HS.out (fun _ q => q.elim) hkk8 (fun b q => by
          have q' : b = g4 := q
          subst q'
          exact ⟨HNB.out, hw4, (HB.out.keep HKX.out (fun q => q)).lt, _, _, HB6.out, by decide⟩),
         (HR4.out.keep HK7.out).keepB hkk8 HB6.out (rdC_str _ _), blk8 HB6.out rfl, hw4, HSM4.out⟩, by simp [intOf]; omega⟩
     obtain ⟨b0, b1, b2, b3, b4, b5, b6, b7⟩ := (HB.out.keep HKX.out (fun q => q)).rdc
     go_wp2_with fail
     obtain ⟨S, hqS, hS, hdk⟩ := (HQ.out.keep HKX.out).baseT
     have HNB : Hid (¬ S g4) := zh (fun q => hdk g4 q _ _ (HB.out.keep HKX.out (fun q => q)) (by decide))
     have HS := zh hS
     refine (show Calls _ _ #[ptrV db, rdV d p, .agg (opV x PA pn pc CA cn cc)] _ _ from done_ok S w3 db p d x PA pn pc CA cn cc hqS (HR.out.keep HKX.out) (HO.out.ok (HKP.out.trans HKX.out (fun _ _ q => q)) (fun b q => (hS b q).elim (fun z => z.elim) id) (by omega) (by omega)) hdk (sm_mono HSM.out (by omega))).mono ?_
     rintro e w4 ⟨d', rfl, hr', hq'⟩
     have HB4 := zh ((HB.out.keep HKX.out (fun q => q)).keep hq'.kp HNB.out)
     have hdb := (HQ.out.keep HKX.out).seen_le nmDb
     have hsm' : (wop p x).sm ((30 - (k + 1)) * 400000000 + 600000000000) := wop_sm x ((HQ.out.keep HKX.out).seen_rng nmWal) hdb (by have := HO.out.pg.len; omega) (sm_mono HSM.out (by omega))
     obtain ⟨q, hqe⟩ : ∃ q, wop p x = q := ⟨_, rfl⟩
     rw [hqe] at hr' hq' hsm' ⊢
     have HR4 := zh hr'
     have HQ4 := zh hq'
     have HSM4 := zh hsm'
     clear hr' hq' hsm' hqe hdb hqS hS hdk b0 b1 b2 b3 b4 b5 b6 b7 o0 o1 o2 o3 o4 o5 o6 HR HSM HO
     unfold rdV
     go_upto_region 12 with fail
     have hb7 : Blk (w4.alloc (.cells (rdC d' q) 29)) w4.heap.size 29 (rdC d' q) := Blk.new _ _ _
     have hk7 : Kp NoB w4 (w4.alloc (.cells (rdC d' q) 29)) := (Kp.refl NoB w4).alloc _
     unfold rdC at hb7 hk7
     generalize hg7 : w4.heap.size = g7 at hb7 ⊢
     have hlt7 : g4 < g7 := by have := HB4.out.lt; omega
     generalize (w4.alloc (.cells #[.bool true, .bool q.down, .slice d'.fA d'.fn d'.fc, .slice d'.pA d'.pn d'.pc, .int .i64 q.room, .int .i64 q.steps, .int .i64 q.crash, .int .i64 q.starts] 29)) = w6 at hb7 hk7 ⊢
     have HB7 := zh (show Blk w6 g7 29 (rdC d' q) from hb7)
     have HK7 := zh hk7
     clear hb7 hk7 hg7
     obtain ⟨b0, b1, b2, b3, b4, b5, b6, b7⟩ := HB7.out.rdc
     have HB6 := zh (HB4.out.keep HK7.out (fun q => q))
     obtain ⟨e0, e1, e2, e3, e4, e5, e6, e7⟩ := HB6.out.rdc
     obtain ⟨z0, z1, z2, z3, z4, z5, z6, z7⟩ := HB6.out.z8
     have hgl := HB6.out.lt
     go_wp2_with fail
     have hkk8 := kp8 (a0 := .bool true) (a1 := .bool q.down) (a2 := .slice d'.fA d'.fn d'.fc) (a3 := .slice d'.pA d'.pn d'.pc) (a4 := .int .i64 q.room) (a5 := .int .i64 q.steps) (a6 := .int .i64 q.crash) (a7 := .int .i64 q.starts) (Kp.refl (OnB g4) w6) (.inr rfl)
     exact ⟨⟨k + 1, q, d', by congr 1, by omega,
       (HQ4.out.keep HK7.out).loc (HKP.out.trans HKX.out (fun _ _ q => q)) HS.out (fun _ q => q.elim) hkk8 (fun b q => by
        have q' : b = g4 := q
        subst q'
        exact ⟨HNB.out, hw4, (HB.out.keep HKX.out (fun q => q)).lt, _, _, HB6.out, by decide⟩),
       (HR4.out.keep HK7.out).keepB hkk8 HB6.out (rdC_str _ _), blk8 HB6.out rfl, hw4, HSM4.out⟩, by simp [intOf]; omega⟩
    ·clear hc60
     by_cases h2k : (2000 : Int) < (x.data.size : Int)
     ·go_wp2_with (go_at_call 4; go_must (refine (wawake_ok _).mono ?_); rintro e w8 ⟨rfl, hk8⟩; have HK8 := zh hk8; clear hk8)
      go_ret
      exact ⟨rfl, (HKP.out.trans HKX.out (fun _ _ q => q)).trans HK8.out (fun _ _ q => q)⟩
     by_cases h20k : (20000 : Int) < x.at_
     ·by_cases hd6 : x.do_ = 6
      ·have hd6b : (x.do_ == 6) = true := by simpa using hd6
       go_wp2_with (go_at_call 4; go_must (refine (wawake_ok _).mono ?_); rintro e w8 ⟨rfl, hk8⟩; have HK8 := zh hk8; clear hk8)
       go_ret
       exact ⟨rfl, (HKP.out.trans HKX.out (fun _ _ q => q)).trans HK8.out (fun _ _ q => q)⟩
      ·have hd6b : (x.do_ == 6) = false := by simpa using hd6
       obtain ⟨b0, b1, b2, b3, b4, b5, b6, b7⟩ := (HB.out.keep HKX.out (fun q => q)).rdc
       go_wp2_with fail
       obtain ⟨S, hqS, hS, hdk⟩ := (HQ.out.keep HKX.out).baseT
       have HNB : Hid (¬ S g4) := zh (fun q => hdk g4 q _ _ (HB.out.keep HKX.out (fun q => q)) (by decide))
       have HS := zh hS
       refine (show Calls _ _ #[ptrV db, rdV d p, .agg (opV x PA pn pc CA cn cc)] _ _ from done_ok S w3 db p d x PA pn pc CA cn cc hqS (HR.out.keep HKX.out) (HO.out.ok (HKP.out.trans HKX.out (fun _ _ q => q)) (fun b q => (hS b q).elim (fun z => z.elim) id) (by omega) (by omega)) hdk (sm_mono HSM.out (by omega))).mono ?_
       rintro e w4 ⟨d', rfl, hr', hq'⟩
       have HB4 := zh ((HB.out.keep HKX.out (fun q => q)).keep hq'.kp HNB.out)
       have hdb := (HQ.out.keep HKX.out).seen_le nmDb
       have hsm' : (wop p x).sm ((30 - (k + 1)) * 400000000 + 600000000000) := wop_sm x ((HQ.out.keep HKX.out).seen_rng nmWal) hdb (by have := HO.out.pg.len; omega) (sm_mono HSM.out (by omega))
       obtain ⟨q, hqe⟩ : ∃ q, wop p x = q := ⟨_, rfl⟩
       rw [hqe] at hr' hq' hsm' ⊢
       have HR4 := zh hr'
       have HQ4 := zh hq'
       have HSM4 := zh hsm'
       clear hr' hq' hsm' hqe hdb hqS hS hdk b0 b1 b2 b3 b4 b5 b6 b7 o0 o1 o2 o3 o4 o5 o6 HR HSM HO
       unfold rdV
       go_upto_region 12 with fail
       have hb7 : Blk (w4.alloc (.cells (rdC d' q) 29)) w4.heap.size 29 (rdC d' q) := Blk.new _ _ _
       have hk7 : Kp NoB w4 (w4.alloc (.cells (rdC d' q) 29)) := (Kp.refl NoB w4).alloc _
       unfold rdC at hb7 hk7
       generalize hg7 : w4.heap.size = g7 at hb7 ⊢
       have hlt7 : g4 < g7 := by have := HB4.out.lt; omega
       generalize (w4.alloc (.cells #[.bool true, .bool q.down, .slice d'.fA d'.fn d'.fc, .slice d'.pA d'.pn d'.pc, .int .i64 q.room, .int .i64 q.steps, .int .i64 q.crash, .int .i64 q.starts] 29)) = w6 at hb7 hk7 ⊢
       have HB7 := zh (show Blk w6 g7 29 (rdC d' q) from hb7)
       have HK7 := zh hk7
       clear hb7 hk7 hg7
       obtain ⟨b0, b1, b2, b3, b4, b5, b6, b7⟩ := HB7.out.rdc
       have HB6 := zh (HB4.out.keep HK7.out (fun q => q))
       obtain ⟨e0, e1, e2, e3, e4, e5, e6, e7⟩ := HB6.out.rdc
       obtain ⟨z0, z1, z2, z3, z4, z5, z6, z7⟩ := HB6.out.z8
       have hgl := HB6.out.lt
       go_wp2_with fail
       have hkk8 := kp8 (a0 := .bool true) (a1 := .bool q.down) (a2 := .slice d'.fA d'.fn d'.fc) (a3 := .slice d'.pA d'.pn d'.pc) (a4 := .int .i64 q.room) (a5 := .int .i64 q.steps) (a6 := .int .i64 q.crash) (a7 := .int .i64 q.starts) (Kp.refl (OnB g4) w6) (.inr rfl)
       exact ⟨⟨k + 1, q, d', by congr 1, by omega,
         (HQ4.out.keep HK7.out).loc (HKP.out.trans HKX.out (fun _ _ q => q)) HS.out (fun _ q => q.elim) hkk8 (fun b q => by
          have q' : b = g4 := q
          subst q'
          exact ⟨HNB.out, hw4, (HB.out.keep HKX.out (fun q => q)).lt, _, _, HB6.out, by decide⟩),
         (HR4.out.keep HK7.out).keepB hkk8 HB6.out (rdC_str _ _), blk8 HB6.out rfl, hw4, HSM4.out⟩, by simp [intOf]; omega⟩
     obtain ⟨b0, b1, b2, b3, b4, b5, b6, b7⟩ := (HB.out.keep HKX.out (fun q => q)).rdc
     go_wp2_with fail
     obtain ⟨S, hqS, hS, hdk⟩ := (HQ.out.keep HKX.out).baseT
     have HNB : Hid (¬ S g4) := zh (fun q => hdk g4 q _ _ (HB.out.keep HKX.out (fun q => q)) (by decide))
     have HS := zh hS
     refine (show Calls _ _ #[ptrV db, rdV d p, .agg (opV x PA pn pc CA cn cc)] _ _ from done_ok S w3 db p d x PA pn pc CA cn cc hqS (HR.out.keep HKX.out) (HO.out.ok (HKP.out.trans HKX.out (fun _ _ q => q)) (fun b q => (hS b q).elim (fun z => z.elim) id) (by omega) (by omega)) hdk (sm_mono HSM.out (by omega))).mono ?_
     rintro e w4 ⟨d', rfl, hr', hq'⟩
     have HB4 := zh ((HB.out.keep HKX.out (fun q => q)).keep hq'.kp HNB.out)
     have hdb := (HQ.out.keep HKX.out).seen_le nmDb
     have hsm' : (wop p x).sm ((30 - (k + 1)) * 400000000 + 600000000000) := wop_sm x ((HQ.out.keep HKX.out).seen_rng nmWal) hdb (by have := HO.out.pg.len; omega) (sm_mono HSM.out (by omega))
     obtain ⟨q, hqe⟩ : ∃ q, wop p x = q := ⟨_, rfl⟩
     rw [hqe] at hr' hq' hsm' ⊢
     have HR4 := zh hr'
     have HQ4 := zh hq'
     have HSM4 := zh hsm'
     clear hr' hq' hsm' hqe hdb hqS hS hdk b0 b1 b2 b3 b4 b5 b6 b7 o0 o1 o2 o3 o4 o5 o6 HR HSM HO
     unfold rdV
     go_upto_region 12 with fail
     have hb7 : Blk (w4.alloc (.cells (rdC d' q) 29)) w4.heap.size 29 (rdC d' q) := Blk.new _ _ _
     have hk7 : Kp NoB w4 (w4.alloc (.cells (rdC d' q) 29)) := (Kp.refl NoB w4).alloc _
     unfold rdC at hb7 hk7
     generalize hg7 : w4.heap.size = g7 at hb7 ⊢
     have hlt7 : g4 < g7 := by have := HB4.out.lt; omega
     generalize (w4.alloc (.cells #[.bool true, .bool q.down, .slice d'.fA d'.fn d'.fc, .slice d'.pA d'.pn d'.pc, .int .i64 q.room, .int .i64 q.steps, .int .i64 q.crash, .int .i64 q.starts] 29)) = w6 at hb7 hk7 ⊢
     have HB7 := zh (show Blk w6 g7 29 (rdC d' q) from hb7)
     have HK7 := zh hk7
     clear hb7 hk7 hg7
     obtain ⟨b0, b1, b2, b3, b4, b5, b6, b7⟩ := HB7.out.rdc
     have HB6 := zh (HB4.out.keep HK7.out (fun q => q))
     obtain ⟨e0, e1, e2, e3, e4, e5, e6, e7⟩ := HB6.out.rdc
     obtain ⟨z0, z1, z2, z3, z4, z5, z6, z7⟩ := HB6.out.z8
     have hgl := HB6.out.lt
     go_wp2_with fail
     have hkk8 := kp8 (a0 := .bool true) (a1 := .bool q.down) (a2 := .slice d'.fA d'.fn d'.fc) (a3 := .slice d'.pA d'.pn d'.pc) (a4 := .int .i64 q.room) (a5 := .int .i64 q.steps) (a6 := .int .i64 q.crash) (a7 := .int .i64 q.starts) (Kp.refl (OnB g4) w6) (.inr rfl)
     exact ⟨⟨k + 1, q, d', by congr 1, by omega,
       (HQ4.out.keep HK7.out).loc (HKP.out.trans HKX.out (fun _ _ q => q)) HS.out (fun _ q => q.elim) hkk8 (fun b q => by
        have q' : b = g4 := q
        subst q'
        exact ⟨HNB.out, hw4, (HB.out.keep HKX.out (fun q => q)).lt, _, _, HB6.out, by decide⟩),
       (HR4.out.keep HK7.out).keepB hkk8 HB6.out (rdC_str _ _), blk8 HB6.out rfl, hw4, HSM4.out⟩, by simp [intOf]; omega⟩
   ·have hkk : ¬ (k : Int) < (n : Int) := by omega
    obtain ⟨b0, b1, b2, b3, b4, b5, b6, b7⟩ := HB.out.rdc
    by_cases hd : p.down = true
    ·rw [hd] at b1
     go_wp2_with fail
     refine (show Calls _ _ #[ptrV db] _ _ from down_q HQ.out).mono ?_
     rintro e w2 ⟨rfl, rfl⟩
     rw [hd]
     go_wp2_with (go_at_call 4; go_must (refine (wawake_ok _).mono ?_); rintro e w8 ⟨rfl, hk8⟩; have HK8 := zh hk8; clear hk8)
     go_ret
     exact ⟨rfl, HKP.out.trans HK8.out (fun _ _ q => q)⟩
    ·have hd' : p.down = false := by simpa using hd
     have HD := zh hd'
     rw [hd'] at b1
     clear hd hd'
     have hr1 := read_all HD.out nmDb (HQ.out.seen_le nmDb)
     have hr2 := read_all HD.out nmWal (HQ.out.seen_le nmWal)
     have HR1 := zh hr1
     have HR2 := zh hr2
     clear hr1 hr2
     obtain ⟨s1, hs1⟩ : ∃ s, strOf (p.seen nmDb) = s := ⟨_, rfl⟩
     obtain ⟨s2, hs2⟩ : ∃ s, strOf (p.seen nmWal) = s := ⟨_, rfl⟩
     have HS1 := zh hs1
     have HS2 := zh hs2
     clear hs1 hs2
     go_wp2_with fail
     refine (show Calls _ _ #[ptrV db, .string ⟨#[100, 98]⟩, .int .i64 0, .int .i64 1048576] _ _ from read_q HQ.out nmDb 0 1048576 nmD_le (by omega) (by omega)).mono ?_
     rintro e wx ⟨rfl, hkx⟩
     rw [HR1.out.1, HR1.out.2, HS1.out]
     have HKX := zh hkx
     clear hkx b0 b1 b2 b3 b4 b5 b6 b7
     go_wp2_with fail
     refine (show Calls _ _ #[ptrV db, .string ⟨#[119, 97, 108]⟩, .int .i64 0, .int .i64 1048576] _ _ from read_q (HQ.out.keep HKX.out) nmWal 0 1048576 nmW_le (by omega) (by omega)).mono ?_
     rintro e wy ⟨rfl, hky⟩
     rw [HR2.out.1, HR2.out.2, HS2.out]
     have HKY := zh (HKX.out.trans hky (fun _ _ q => q))
     clear hky
     go_upto_region 19 with fail
     have HNF : Hid (p.nf < 1099511627776) := zh (by have h := HSM.out; unfold Pl.sm at h; omega)
     refine wp_region_held_drew (S := fun V => Kp NoB wq V) (by kernel_rfl) HKY.out.drew (fun hHeld => ?_)
     have k0 : Kp NoB wq wy.drew := HKY.out.drew
     generalize wy.drew = V0 at k0 hHeld ⊢
     refine tkJ (i := 0) (v := (.int .i64 0)) rfl k0 ?_
     simp only [Act.put, sA, sB, sC]
     refine tkJ (i := 1) (v := (.bool true)) rfl k0 ?_
     simp only [Act.put, sA, sB, sC]
     refine tkJ (i := 2) (v := (.bool true)) rfl k0 ?_
     simp only [Act.put, sA, sB, sC]
     refine tkJ (i := 3) (v := (.int .i64 0)) rfl k0 ?_
     simp only [Act.put, sA, sB, sC]
     refine tkJ (i := 4) (v := (.bool true)) rfl k0 ?_
     simp only [Act.put, sA, sB, sC]
     refine tkJ (i := 5) (v := (.bool true)) rfl k0 ?_
     simp only [Act.put, sA, sB, sC]
     refine tkJ (i := 6) (v := (.bool true)) rfl k0 ?_
     simp only [Act.put, sA, sB, sC]
     refine tkJ (i := 7) (v := (.string s1)) rfl k0 ?_
     simp only [Act.put, sA, sB, sC]
     refine tkS (i := 8) (v := (rdV d p)) rfl (Or.inl ⟨by rfl, fun w' hq => by obtain ⟨e0, e1, e2, e3, e4, e5, e6, e7⟩ := (HB.out.keep hq (fun q => q)).rdc; unfold rdV; go_simp⟩) k0 ?_
     simp only [Act.put, sA, sB, sC]
     refine tkR [9] ?_
     refine AllReadyH.callR (fun y W' => y = .string (strOf (p.seen nmDb)) ∧ Kp NoB wq W') rfl (by rfl) 10 #[rdV d p, .string ⟨#[100, 98]⟩] (by first | (go_simp; done) | (go_simp; rfl)) (fun _ _ q => q.2) ((seen_ok V0 d p nmDb (HR.out.keep k0) HNF.out).mono (by rintro e w19 ⟨rfl, hk⟩; exact ⟨_, rfl, rfl, k0.trans hk (fun _ _ z => z)⟩)) ?_ AllReadyH.nil
     rintro y V1 ⟨rfl, k1⟩
     rw [HS1.out]
     simp only [Act.put, sA, sB, sC]
     refine tkJ (i := 10) (v := (.bool true)) rfl k1 ?_
     simp only [Act.put, sA, sB, sC]
     refine tkJ (i := 11) (v := (.bool true)) rfl k1 ?_
     simp only [Act.put, sA, sB, sC]
     refine tkJ (i := 12) (v := (.bool true)) rfl k1 ?_
     simp only [Act.put, sA, sB, sC]
     refine tkJ (i := 13) (v := (.string s2)) rfl k1 ?_
     simp only [Act.put, sA, sB, sC]
     refine tkS (i := 14) (v := (rdV d p)) rfl (Or.inl ⟨by rfl, fun w' hq => by obtain ⟨e0, e1, e2, e3, e4, e5, e6, e7⟩ := (HB.out.keep hq (fun q => q)).rdc; unfold rdV; go_simp⟩) k1 ?_
     simp only [Act.put, sA, sB, sC]
     refine tkR [15] ?_
     refine AllReadyH.callR (fun y W' => y = .string (strOf (p.seen nmWal)) ∧ Kp NoB wq W') rfl (by rfl) 10 #[rdV d p, .string ⟨#[119, 97, 108]⟩] (by first | (go_simp; done) | (go_simp; rfl)) (fun _ _ q => q.2) ((seen_ok V1 d p nmWal (HR.out.keep k1) HNF.out).mono (by rintro e w19 ⟨rfl, hk⟩; exact ⟨_, rfl, rfl, k1.trans hk (fun _ _ z => z)⟩)) ?_ AllReadyH.nil
     rintro y V2 ⟨rfl, k2⟩
     rw [HS2.out]
     simp only [Act.put, sA, sB, sC]
     refine tkJ (i := 16) (v := (.bool true)) rfl k2 ?_
     simp only [Act.put, sA, sB, sC]
     refine tkJ (i := 17) (v := (.bool true)) rfl k2 ?_
     simp only [Act.put, sA, sB, sC]
     refine tkJ (i := 18) (v := (.bool true)) rfl k2 ?_
     simp only [Act.put, sA, sB, sC]
     refine tkJ (i := 19) (v := (.pointer (some ⟨db, 0, none⟩))) rfl k2 ?_
     simp only [Act.put, sA, sB, sC]
     refine tkJ (i := 21) (v := (.pointer (some ⟨g4, 5, none⟩))) rfl k2 ?_
     simp only [Act.put, sA, sB, sC]
     refine tkS (i := 22) (v := (.int .i64 p.steps)) rfl (Or.inl ⟨by rfl, fun w' hq => by obtain ⟨e0, e1, e2, e3, e4, e5, e6, e7⟩ := (HB.out.keep hq (fun q => q)).rdc; go_simp⟩) k2 ?_
     simp only [Act.put, sA, sB, sC]
     refine tkR [20] ?_
     refine AllReadyH.callR (fun y W' => y = .int .i64 p.steps ∧ Kp NoB wq W') rfl (by rfl) 11 #[ptrV db] (by first | (go_simp; done) | (go_simp; rfl)) (fun _ _ q => q.2) ((steps_q (HQ.out.keep k2)).mono (by rintro e w19 ⟨rfl, rfl⟩; exact ⟨_, rfl, rfl, k2⟩)) ?_ AllReadyH.nil
     rintro y V3 ⟨rfl, k3⟩
     simp only [Act.put, sA, sB, sC]
     refine tkJ (i := 23) (v := (.bool true)) rfl k3 ?_
     simp only [Act.put, sA, sB, sC]
     refine tkJ (i := 24) (v := (.bool true)) rfl k3 ?_
     simp only [Act.put, sA, sB, sC]
     refine tkJ (i := 25) (v := (.bool true)) rfl k3 ?_
     simp only [Act.put, sA, sB, sC]
     refine tkJ (i := 26) (v := (.pointer (some ⟨db, 0, none⟩))) rfl k3 ?_
     simp only [Act.put, sA, sB, sC]
     refine tkJ (i := 28) (v := (.pointer (some ⟨g4, 3, none⟩))) rfl k3 ?_
     simp only [Act.put, sA, sB, sC]
     refine tkS (i := 29) (v := (.slice d.pA d.pn d.pc)) rfl (Or.inl ⟨by rfl, fun w' hq => by obtain ⟨e0, e1, e2, e3, e4, e5, e6, e7⟩ := (HB.out.keep hq (fun q => q)).rdc; go_simp⟩) k3 ?_
     simp only [Act.put, sA, sB, sC]
     refine tkJ (i := 30) (v := (.int .i64 (d.pn : Nat))) rfl k3 ?_
     simp only [Act.put, sA, sB, sC]
     refine tkR [27] ?_
     refine AllReadyH.callR (fun y W' => y = .int .i64 (d.pn : Nat) ∧ Kp NoB wq W') rfl (by rfl) 12 #[ptrV db] (by first | (go_simp; done) | (go_simp; rfl)) (fun _ _ q => q.2) ((pending_q (HQ.out.keep k3)).mono (by rintro e w19 ⟨rfl, rfl⟩; exact ⟨_, rfl, by rw [HR.out.pl], k3⟩)) ?_ AllReadyH.nil
     rintro y V4 ⟨rfl, k4⟩
     simp only [Act.put, sA, sB, sC]
     refine tkJ (i := 31) (v := (.bool true)) rfl k4 ?_
     simp only [Act.put, sA, sB, sC]
     refine tkJ (i := 32) (v := (.bool true)) rfl k4 ?_
     simp only [Act.put, sA, sB, sC]
     refine tkJ (i := 33) (v := (.bool true)) rfl k4 ?_
     simp only [Act.put, sA, sB, sC]
     refine tkR [34] ?_
     refine AllReadyH.callR (fun y W' => y = .bool true ∧ Kp NoB wq W') rfl (by rfl) 4 #[] (by first | (go_simp; done) | (go_simp; rfl)) (fun _ _ q => q.2) ((wawake_ok V4).mono (by rintro e w19 ⟨rfl, hk⟩; exact ⟨_, rfl, rfl, k4.trans hk (fun _ _ z => z)⟩)) ?_ AllReadyH.nil
     rintro y V5 ⟨rfl, k5⟩
     simp only [Act.put, sA, sB, sC]
     refine tkJ (i := 35) (v := (.bool true)) rfl k5 ?_
     simp only [Act.put, sA, sB, sC]
     refine tkJ (i := 36) (v := (.bool true)) rfl k5 ?_
     simp only [Act.put, sA, sB, sC]
     refine wpAnyH_done (by kernel_rfl) ?_ _
     have HK5 := zh k5
     clear hHeld k0 k1 k2 k3 k4 k5
     go_wp2_with fail
     go_ret
     exact ⟨rfl, HKP.out.trans HK5.out (fun _ _ q => q)⟩
end
section
open Go.ChangeShapes Go.WideShapes Go.Deep
section
variable {H : Type} {enc : TypeId × Value → H} {P : Program} {w : World} {base : Nat} {spare : Nat → Bool} {held : Bool}
theorem open_slice_fields {t e : TypeId} {fs : Array Field} {fuel : Nat} {cs : List Value} {x : DataW H × List MemPlace} (ht : P.underlying t = some (.slice e)) (he : P.underlying e = some (.struct fs))
  (hone : oneCellFields P fs = true) (hC : P.cellsOf e = fs.size) (h : DataW.trod enc P w base spare held fuel t cs = some x) :
  (cs = [.slice none 0 0] ∧ x = (.nil, [])) ∨
  ∃ (a : Addr) (len cap m : Nat) (D : Nat → DataW H) (Pl : Nat → List MemPlace), cs = [.slice (some a) len cap] ∧ base ≤ a.block ∧ len ≤ cap ∧ cap ≤ maxLen ∧ m = (if spare a.block then cap else len) ∧
   x = (.slice ((List.range len).map D) ((List.range (m - len)).map fun j => D (len + j)), MemPlace.row a (m * fs.size) ++ (List.range m).flatMap Pl) ∧
   ∀ i, i < m → ∃ (ys : List (DataW H × List MemPlace)) (n : Nat), D i = .agg (ys.map (·.1)) ∧ Pl i = ys.flatMap (·.2) ∧ ys.length = fs.size ∧
    ∀ (j : Nat) (f : Field), fs[j]? = some f → ∃ (v : Value) (y : DataW H × List MemPlace), w.cell? (a.add (i * fs.size + j)) = some v ∧ ys[j]? = some y ∧ DataW.trod enc P w base spare held n f.type [v] = some y := by
 rcases open_slice ht h with h0 | ⟨a, len, cap, m, n, D, Pl, hcs, hb, hl, hm, hmm, hx, hi⟩
 ·exact .inl h0
 ·refine .inr ⟨a, len, cap, m, D, Pl, hcs, hb, hl, hm, hmm, by rw [hC] at hx; exact hx, fun i him => ?_⟩
  obtain ⟨cs', hc, ht'⟩ := hi i him
  rw [hC] at hc
  obtain ⟨ys, n', hn', hy, hlen, hyl, hf⟩ := DataW.trod_struct he ht'
  obtain ⟨_, hcl, hat⟩ := World.cells?_some hc
  simp only [Prod.mk.injEq] at hy
  refine ⟨ys, n', hy.1, hy.2, hyl, fun j f hj => ?_⟩
  obtain ⟨ho, hk⟩ := hone_of hone j f hj
  have hjl : j < fs.size := (Array.getElem?_eq_some_iff.1 hj).1
  have hcell := hat j hjl
  have hv : cs'[j]? = some (cs'[j]'(by omega)) := List.getElem?_eq_getElem (by omega)
  have h1 := hf j f hj
  rw [ho, hk] at h1
  have hone' : (cs'.drop j).take 1 = [cs'[j]'(by omega)] := by
   rw [List.drop_eq_getElem_cons (by omega)]
   rfl
  rw [hone'] at h1
  have hys : ys[j]? = some (ys[j]'(by omega)) := List.getElem?_eq_getElem (by omega)
  refine ⟨_, _, ?_, hys, h1.trans hys⟩
  rw [← Go.Deep.add_add, hcell, hv]
end
end
section
open Go.ChangeShapes Go.WideShapes Go.ChangeAt Go.RowKit
section
variable {H : Type} {enc : TypeId × Value → H} {P : Program} {W : World} {spare : Nat → Bool} {held : Bool} {t e : TypeId} {d : DataW H} {p : List MemPlace}
theorem wf_u8 {n : Int} (h : (Lit.int .u8 n).wf = true) : 0 ≤ n ∧ n ≤ 255 := (Lit.wf_int_iff .u8 n).1 h
theorem wf_i64 {n : Int} (h : (Lit.int .i64 n).wf = true) : -9223372036854775808 ≤ n ∧ n ≤ 9223372036854775807 := (Lit.wf_int_iff .i64 n).1 h
theorem trod_lt' {v : Value} (h : DataW.Trod enc P W 0 spare held t v d p) : ∀ x ∈ p, x.block < W.heap.size := by obtain ⟨m, hm⟩ := h; exact DataW.trod_lt m _ _ _ hm
theorem DataW.trod_array {n fuel : Nat} {cs : List Value} {x : DataW H × List MemPlace} {base : Nat} (ht : P.underlying t = some (.array n e)) (h : DataW.trod enc P W base spare held fuel t cs = some x) :
  ∃ m, fuel = m + 1 ∧ cs.length = P.cellsOf t ∧ ∀ i, i < n → ∃ y, DataW.trod enc P W base spare held m e ((cs.drop (i * P.cellsOf e)).take (P.cellsOf e)) = some y := by
 cases fuel with
 | zero => simp [DataW.trod] at h
 | succ m =>
  unfold DataW.trod at h
  rw [ht] at h
  split at h <;> simp_all
  obtain ⟨hl, xs, hp, hd⟩ := h
  intro i hi
  have h1 := mapM_some_get hp i i (by simp [hi])
  have h2 := mapM_some_length hp
  simp at h2
  exact ⟨_, _, h1.trans (List.getElem?_eq_getElem (by omega))⟩
theorem open_row {n : Nat} {k : IntKind} {v : Value} (ht : P.underlying t = some (.array n e)) (he : P.underlying e = some (.int k)) (hc : P.cellsOf t = n) (hce : P.cellsOf e = 1) (hn : n ≠ 1) (h : DataW.Trod enc P W 0 spare held t v d p) :
  ∃ l : List Int, l.length = n ∧ v = .agg (l.map (Value.int k)).toArray ∧ ∀ x ∈ l, (Lit.int k x).wf = true := by
 obtain ⟨fuel, hf⟩ := h
 obtain ⟨m, _, hl, hi⟩ := DataW.trod_array ht hf
 rw [hc] at hl
 have hv : ∃ cs, v = .agg cs := by
  cases v <;> first | exact ⟨_, rfl⟩ | (simp [Value.cells] at hl; omega)
 obtain ⟨cs, rfl⟩ := hv
 simp only [Value.cells] at hl hi
 have hsz : cs.size = n := by simpa using hl
 have each : ∀ i, i < n → ∃ x : Int, cs[i]? = some (.int k x) ∧ (Lit.int k x).wf = true := by
  intro i hin
  obtain ⟨y, hy⟩ := hi i hin
  rw [hce, Nat.mul_one] at hy
  obtain ⟨x, e1, _, wf⟩ := DataW.trod_int he hy
  refine ⟨x, ?_, wf⟩
  have : (cs.toList.drop i)[0]? = some (.int k x) := by
   have := congrArg (fun l => l[0]?) e1
   simpa [List.getElem?_take] using this
  simpa using this
 refine ⟨cs.toList.map (fun v => match v with | .int _ x => x | _ => 0), by simp [hsz], ?_, ?_⟩
 ·congr 1
  apply Array.ext_getElem?
  intro i
  simp only [List.map_map, List.getElem?_toArray, List.getElem?_map, Array.getElem?_toList]
  rcases Nat.lt_or_ge i n with q | q
  ·obtain ⟨x, hx, _⟩ := each i q
   rw [hx]; rfl
  ·rw [Array.getElem?_eq_none (by omega)]; rfl
 ·intro x hx
  obtain ⟨i, hi', rfl⟩ := List.getElem_of_mem hx
  have hi2 : i < n := by simpa [hsz] using hi'
  obtain ⟨x, hx, wf⟩ := each i hi2
  have h3 : (cs.toList.map (fun v => match v with | .int _ x => x | _ => (0 : Int)))[i]? = some x := by
   rw [List.getElem?_map, Array.getElem?_toList, hx]; rfl
  rw [List.getElem?_eq_getElem (by simpa using hi')] at h3
  simp only [Option.some.injEq] at h3
  rw [h3]
  exact wf
end
end
section
open Go.ChangeShapes Go.WideShapes Go.ChangeAt Go.RowKit Go.Deep
theorem cellsPgA : Tryz.prog.cellsOf 49 = 257 := by kernel_rfl
theorem cellsPg : Tryz.prog.cellsOf 46 = 256 := by kernel_rfl
theorem cellsI : Tryz.prog.cellsOf 3 = 1 := by kernel_rfl
theorem cellsU8 : Tryz.prog.cellsOf 5 = 1 := by kernel_rfl
def Thaw (W : World) (p : List MemPlace) : Prop := ∀ b off, MemPlace.cell b off ∈ p → W.frozen? ⟨b, off, none⟩ = false
section
variable {H : Type} {enc : TypeId × Value → H} {W : World} {spare : Nat → Bool} {held : Bool}
theorem open_pgA {fuel : Nat} {cs : List Value} {y : DataW H × List MemPlace} (h : DataW.trod enc Tryz.prog W 0 spare held fuel 49 cs = some y) : ∃ x : Pg, PgOk x ∧ cs = pgL x := by
 obtain ⟨ys, n', hn', hy, hlen, hyl, hf⟩ := DataW.trod_struct pgUnd h
 rw [cellsPgA] at hlen
 have hF := pgF
 generalize hG : Tryz.prog.fieldsOf 49 = F at hF hf hyl
 obtain ⟨F⟩ := F
 rcases F with _ | ⟨a, _ | ⟨b, _ | ⟨c, F⟩⟩⟩
 ·simp at hF
 ·simp at hF
 ·simp only [List.map_cons, List.map_nil, List.cons.injEq, Prod.mk.injEq, and_true] at hF
  obtain ⟨⟨e1, e2, e3⟩, e4, e5, e6⟩ := hF
  have h0 := hf 0 a rfl
  have h1 := hf 1 b rfl
  rw [e2, e3, cellsI] at h0
  rw [e5, e6, cellsPg] at h1
  have hys : ys.length = 2 := hyl
  rw [List.getElem?_eq_getElem (by omega)] at h0 h1
  obtain ⟨n0, c0, _, wf0⟩ := DataW.trod_int Tryz.underlying3 h0
  obtain ⟨l, hl, hv, hw⟩ := open_row (v := .agg ((cs.drop 1).take 256).toArray) Tryz.underlying46 Tryz.underlying5 cellsPg cellsU8 (by omega) ⟨_, h1⟩
  injection hv with hv
  have hv := congrArg Array.toList hv
  simp only at hv
  refine ⟨⟨n0, l⟩, ⟨hl, fun y hy => by have := wf_u8 (hw y hy); omega, wf_i64 wf0⟩, ?_⟩
  obtain ⟨u, r, rfl⟩ : ∃ u r, cs = u :: r := by
   cases cs with
   | nil => simp at hlen
   | cons u r => exact ⟨u, r, rfl⟩
  simp only [List.drop_zero, List.take_succ_cons, List.take_zero, List.cons.injEq, and_true] at c0
  simp only [List.length_cons] at hlen
  rw [List.drop_succ_cons, List.drop_zero, List.take_of_length_le (by omega)] at hv
  unfold pgL
  rw [c0, hv]
 ·simp at hF
theorem open_pgs {fuel : Nat} {v : Value} {y : DataW H × List MemPlace} (h : DataW.trod enc Tryz.prog W 0 spare held fuel 31 [v] = some y) (hz : Thaw W y.2) :
  ∃ (A : Option Addr) (n c : Nat) (l : List Pg), v = .slice A n c ∧ PgsAt W A n l ∧ (∀ x ∈ l, PgOk x) ∧ (A = none → n = 0 ∧ c = 0) := by
 rcases open_slice Tryz.underlying31 h with ⟨hcs, _⟩ | ⟨a, len, c, m, nn, D, Pl, hcs, hb, hl, hm, hmm, hx, hi⟩
 ·simp only [List.cons.injEq, and_true] at hcs
  exact ⟨none, 0, 0, [], hcs, ⟨rfl, by simp, fun q => absurd q (by omega)⟩, by simp, fun _ => ⟨rfl, rfl⟩⟩
 ·simp only [List.cons.injEq, and_true] at hcs
  have hlm : len ≤ m := by rw [hmm]; split <;> omega
  have hcells : ∀ k, k < len → ∃ x : Pg, PgOk x ∧ ∀ j, j < 257 → W.cell? (a.add (k * 257 + j)) = (pgL x)[j]? := by
   intro k hk
   obtain ⟨cs', hc, ht'⟩ := hi k (by omega)
   rw [cellsPgA] at hc
   obtain ⟨x, hxo, rfl⟩ := open_pgA ht'
   obtain ⟨_, _, hat⟩ := World.cells?_some hc
   refine ⟨x, hxo, fun j hj => ?_⟩
   rw [← Go.Deep.add_add]
   exact hat j hj
  have hL : ∃ L : List Pg, L.length = len ∧ ∀ k (h : k < L.length), PgOk L[k] ∧ ∀ j, j < 257 → W.cell? (a.add (k * 257 + j)) = (pgL L[k])[j]? := by
   refine ⟨(List.range len).pmap (fun k hk => Classical.choose (hcells k hk)) (fun k hk => by simpa using hk), by simp, ?_⟩
   intro k hk
   have hk' : k < len := by simpa using hk
   have := Classical.choose_spec (hcells k hk')
   simpa using this
  obtain ⟨L, hLl, hLc⟩ := hL
  have hok : ∀ x ∈ L, PgOk x := fun x hx => by
   obtain ⟨k, hk, rfl⟩ := List.getElem_of_mem hx
   exact (hLc k hk).1
  refine ⟨some a, len, c, L, hcs, ⟨by rw [List.length_map, hLl], fun x hx => ?_, fun hpos => ?_⟩, hok, fun q => by cases q⟩
  ·obtain ⟨y, hy, rfl⟩ := List.mem_map.1 hx
   exact pgL_len (hok y hy)
  ·obtain ⟨sb, so, sp⟩ := a
   have h00 := (hLc 0 (by omega)).2 0 (by omega)
   have hspot : sp = none := by
    have h00' : W.cell? (({ block := sb, off := so, spot := sp } : Addr).add (0 * 257 + 0)) = some (.int .i64 (L[0]'(by omega)).n) := h00
    simpa [Addr.add] using World.cell?_spot h00'
   subst hspot
   rw [add_mk] at h00
   refine ⟨sb, so, rfl, block_lt_of_cell (w := W) (show W.cell? _ = some (.int .i64 (L[0]'(by omega)).n) from h00), fun k hk j hj => ?_⟩
   have hk' : k < L.length := by simpa using hk
   have h1 := (hLc k hk').2 j hj
   rw [add_mk, ← Nat.add_assoc] at h1
   refine ⟨by rw [h1]; simp only [List.getElem_map], hz sb _ ?_⟩
   rw [hx]
   refine List.mem_append.2 (.inl ?_)
   unfold MemPlace.row
   rw [cellsPgA]
   refine List.mem_map.2 ⟨k * 257 + j, List.mem_range.2 ?_, by rw [← Nat.add_assoc]⟩
   have : (k + 1) * 257 ≤ m * 257 := Nat.mul_le_mul_right _ (by omega)
   omega
theorem open_numsF {fuel : Nat} {v : Value} {y : DataW H × List MemPlace} (h : DataW.trod enc Tryz.prog W 0 spare held fuel 32 [v] = some y) :
  ∃ (A : Option Addr) (n c : Nat) (l : List Int), v = .slice A n c ∧ Nums W A n l ∧ (∀ x ∈ l, -9223372036854775808 ≤ x ∧ x ≤ 9223372036854775807) ∧ n ≤ 9223372036854775807 := by
 rcases open_slice Tryz.underlying32 h with ⟨hcs, _⟩ | ⟨x2, l2, c2, m2, nn2, D2, Pl2, hcs, _, hl2, hm2, hmm2, hx2, hi2⟩
 ·simp only [List.cons.injEq, and_true] at hcs
  exact ⟨none, 0, 0, [], hcs, ⟨rfl, fun q => absurd q (by omega)⟩, by simp, by omega⟩
 ·simp only [List.cons.injEq, and_true] at hcs
  have hlm2 : l2 ≤ m2 := by rw [hmm2]; split <;> omega
  have hnums : ∀ j, j < l2 → ∃ y : Int, W.cell? (x2.add j) = some (.int .i64 y) ∧ -9223372036854775808 ≤ y ∧ y ≤ 9223372036854775807 := by
   intro j hj
   obtain ⟨cs', hc, ht'⟩ := hi2 j (by omega)
   rw [cellsI, Nat.mul_one] at hc
   obtain ⟨b0, e0, _, wf⟩ := DataW.trod_int Tryz.underlying3 ht'
   subst e0
   obtain ⟨_, hcl, hat⟩ := World.cells?_some hc
   have := hat 0 (by omega)
   rw [show (x2.add j).add 0 = x2.add j from rfl] at this
   exact ⟨b0, this, wf_i64 wf⟩
  have hL : ∃ L : List Int, L.length = l2 ∧ ∀ j (h : j < L.length), W.cell? (x2.add j) = some (.int .i64 L[j]) ∧ -9223372036854775808 ≤ L[j] ∧ L[j] ≤ 9223372036854775807 := by
   refine ⟨(List.range l2).pmap (fun j hj => Classical.choose (hnums j hj)) (fun j hj => by simpa using hj), by simp, ?_⟩
   intro j hj
   have hj' : j < l2 := by simpa using hj
   have := Classical.choose_spec (hnums j hj')
   simpa using this
  obtain ⟨L, hLl, hLc⟩ := hL
  refine ⟨some x2, l2, c2, L, hcs, ⟨hLl, fun hpos => ?_⟩, fun y hy => ?_, by unfold maxLen at hm2; omega⟩
  ·have hc0 := (hLc 0 (by omega)).1
   obtain ⟨tb, tn, tp⟩ := x2
   have hspot : tp = none := by
    simpa [Addr.add] using World.cell?_spot hc0
   subst hspot
   refine ⟨tb, tn, rfl, ?_, fun j hj => ?_⟩
   ·rw [add_mk] at hc0
    exact block_lt_of_cell hc0
   ·have := (hLc j (by omega)).1
    rw [add_mk] at this
    rw [this, List.getD_eq_getElem?_getD, List.getElem?_eq_getElem (show j < L.length by omega)]
    rfl
  ·obtain ⟨j, hj, rfl⟩ := List.getElem_of_mem hy
   exact (hLc j hj).2
theorem open_jops {a0 : Option Addr} {len0 cap0 : Nat} {d0 : DataW H} {p0 : List MemPlace} (h0 : DataW.Trod enc Tryz.prog W 0 spare held 22 (.slice a0 len0 cap0) d0 p0) (hz : Thaw W p0) : ∃ L, JOps W a0 len0 L := by
 obtain ⟨fuel, hf⟩ := h0
 rcases open_slice_fields Tryz.underlying22 Tryz.underlying34 (by kernel_rfl) (by kernel_rfl) hf with ⟨hcs, _⟩ | ⟨x, l, c, m, D, Pl, hcs, _, hl, hm, hmm, hx, hi⟩
 ·simp [Value.cells] at hcs
  obtain ⟨rfl, rfl, rfl⟩ := hcs
  exact ⟨[], rfl, fun k x hk => by cases hk⟩
 ·simp [Value.cells] at hcs
  obtain ⟨rfl, rfl, rfl⟩ := hcs
  have hlm : len0 ≤ m := by rw [hmm]; split <;> omega
  have hp0 : p0 = MemPlace.row x (m * 7) ++ (List.range m).flatMap Pl := congrArg Prod.snd hx
  have hcells : ∀ k, k < len0 → ∃ (y : JOp) (PA : Option Addr) (pn pc : Nat) (CA : Option Addr) (cn cc : Nat), OpM W y PA pn pc CA cn ∧ ∀ j v, (opV y PA pn pc CA cn cc)[j]? = some v → W.cell? (x.add (k * 7 + j)) = some v := by
   intro k hk
   obtain ⟨ys, nn, hD, hP, hyl, hf4⟩ := hi k (by omega)
   have hzp : ∀ (j : Nat) y, ys[j]? = some y → Thaw W y.2 := fun j y hy b off hm => hz b off (by
    rw [hp0]
    refine List.mem_append.2 (.inr (List.mem_flatMap.2 ⟨k, List.mem_range.2 (by omega), ?_⟩))
    rw [hP]
    exact List.mem_flatMap.2 ⟨y, List.mem_of_getElem? hy, hm⟩)
   obtain ⟨v0, y0, c0, _, t0⟩ := hf4 0 _ rfl
   obtain ⟨v1, y1, c1, _, t1⟩ := hf4 1 _ rfl
   obtain ⟨v2, y2, c2, _, t2⟩ := hf4 2 _ rfl
   obtain ⟨v3, y3, c3, _, t3⟩ := hf4 3 _ rfl
   obtain ⟨v4, y4, c4, z4, t4⟩ := hf4 4 _ rfl
   obtain ⟨v5, y5, c5, _, t5⟩ := hf4 5 _ rfl
   obtain ⟨v6, y6, c6, _, t6⟩ := hf4 6 _ rfl
   obtain ⟨n0, e0, _, wf0⟩ := DataW.trod_int Tryz.underlying3 t0
   obtain ⟨n1, e1, _, wf1⟩ := DataW.trod_int Tryz.underlying3 t1
   obtain ⟨n2, e2, _, wf2⟩ := DataW.trod_int Tryz.underlying3 t2
   obtain ⟨n3, e3, _, wf3⟩ := DataW.trod_int Tryz.underlying3 t3
   obtain ⟨s6, e6, _, hs6⟩ := DataW.trod_string Tryz.underlying9 t6
   simp only [List.cons.injEq, and_true] at e0 e1 e2 e3 e6
   obtain ⟨PA, pn, pc, pgs, rfl, hpg, hpo, hpn⟩ := open_pgs t4 (hzp 4 _ z4)
   obtain ⟨CA, cn, cc, chs, rfl, hch, hcr, hcn⟩ := open_numsF t5
   subst e0 e1 e2 e3 e6
   refine ⟨⟨n0, n1, n2, n3, pgs, chs, s6⟩, PA, pn, pc, CA, cn, cc, ⟨hpg, hpo, hpn, hch, hcr, hcn, wf_i64 wf1, wf_i64 wf2, wf_i64 wf3⟩, fun j v hj => ?_⟩
   have hj7 : j < 7 := (Array.getElem?_eq_some_iff.1 hj).1
   rcases (by omega : j = 0 ∨ j = 1 ∨ j = 2 ∨ j = 3 ∨ j = 4 ∨ j = 5 ∨ j = 6) with rfl | rfl | rfl | rfl | rfl | rfl | rfl
   ·exact c0.trans hj
   ·exact c1.trans hj
   ·exact c2.trans hj
   ·exact c3.trans hj
   ·exact c4.trans hj
   ·exact c5.trans hj
   ·exact c6.trans hj
  have hL : ∃ L : List JOp, L.length = len0 ∧ ∀ k (h : k < L.length), ∃ (PA : Option Addr) (pn pc : Nat) (CA : Option Addr) (cn cc : Nat), OpM W L[k] PA pn pc CA cn ∧ ∀ j v, (opV L[k] PA pn pc CA cn cc)[j]? = some v → W.cell? (x.add (k * 7 + j)) = some v := by
   refine ⟨(List.range len0).pmap (fun k hk => Classical.choose (hcells k hk)) (fun k hk => by simpa using hk), by simp, ?_⟩
   intro k hk
   have hk' : k < len0 := by simpa using hk
   have := Classical.choose_spec (hcells k hk')
   simpa using this
  obtain ⟨L, hLl, hLc⟩ := hL
  refine ⟨L, hLl, fun k y hy => ?_⟩
  obtain ⟨hk, rfl⟩ := List.getElem?_eq_some_iff.1 hy
  obtain ⟨PA, pn, pc, CA, cn, cc, hO, hc⟩ := hLc k hk
  obtain ⟨sb, so, sp⟩ := x
  have hspot : sp = none := by
   obtain ⟨PA', pn', pc', CA', cn', cc', hO', hc'⟩ := hLc 0 (by omega)
   simpa [Addr.add] using World.cell?_spot (hc' 0 _ rfl)
  subst hspot
  have h00 := hc 0 _ rfl
  rw [add_mk] at h00
  exact ⟨sb, so, PA, pn, pc, CA, cn, cc, rfl, block_lt_of_cell h00, fun j v hj => by
   have := hc j v hj
   rw [add_mk, ← Nat.add_assoc] at this
   exact this, hO⟩
end
end
end Go.Proofs.YtegcbdfilkecpaaGreat
