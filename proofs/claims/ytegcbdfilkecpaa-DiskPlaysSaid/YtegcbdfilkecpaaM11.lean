/- Texts of this proof, one behind the other: lemmas and contracts; each says its own conditions. -/
import Derived.Test.YtegcbdfilkecpaaM4
import Derived.Test.YtegcbdfilkecpaaM9
import Derived.Test.YtegcbdfilkecpaaM10
import Derived.Laws.Externs
import Derived.MapKept
import Derived.Maps.OwnSet
/- The law of the disks' play: a step that starts a disk again, and one that is none; no condition but on the texts' lengths. -/
namespace Go.Proofs.Ytegcbdfilkecpaa
open Go.RowKit

theorem infoIntD : (Try.prog.info? 3).map (fun i => (i.zero, i.size, i.bytes)) = some (some (.int .i64 0), 1, 8) := by kernel_rfl
set_option maxRecDepth 100000 in
set_option maxHeartbeats 1600000 in
theorem dp_8 (S : Nat → Prop) (w : World) (db : Nat) (p : Pl) (d : Rd) (x : DOp) (CA : Option Addr) (cn cc : Nat) (hq : Dq S w w db p) (hr : Rf w d p) (hO : DOk S w x CA cn cc) (hdk : ∀ b, S b → DkB w b) (hsm : p.sm 600000000000) (hdo : x.do_ = 8) :
    Calls Try.prog 34 #[ptrV db, rdV d p, .agg (dopV x CA cn cc)] w (DpPost S w db (p.restart x.chs)) := by
  have hB := DpB.start hq hr hO hdk
  have HSM := Lib.hid hsm
  have HLT := Lib.hid hq.lt
  clear hq hr hO hdk hsm
  unfold rdC dopV rdZ at hB
  unfold rdV dopV
  rw [hdo]
  rw [hdo] at hB
  go_enter Try.func34, Try.ntmps34
  go_upto_region 1 with fail
  generalize (((w.alloc (.cells #[.bool true, .bool p.down, .slice d.fA d.fn d.fc, .slice d.pA d.pn d.pc, .int .i64 p.room, .int .i64 p.steps, .int .i64 p.crash, .int .i64 p.starts] 56)).alloc (.cells #[.int .i64 8, .int .i64 x.a, .int .i64 x.at_, .int .i64 x.n, .string x.name, .string x.data, .slice CA cn cc] 72)).alloc (.cells #[.bool false, .bool false, .slice none 0 0, .slice none 0 0, .int .i64 0, .int .i64 0, .int .i64 0, .int .i64 0] 56)) = w3 at hB ⊢
  generalize hs0 : w.heap.size = s0 at hB ⊢
  have HS0 := Lib.hid hs0
  have HB := Lib.hid hB
  clear hs0 hB
  have hl2 := HB.out.b2.lt
  have hl1 := HB.out.b1.lt
  have hl0 := HB.out.b0.lt
  obtain ⟨o0, o1, o2, o3, o4, o5, o6⟩ := dopC7 HB.out.b1
  rw [hdo] at o0
  obtain ⟨c0, c1, c2, c3, c4, c5, c6, c7⟩ := HB.out.b0.rdc
  obtain ⟨y0, y1, y2, y3, y4, y5, y6, y7⟩ := HB.out.b2.c8
  obtain ⟨z0, z1, z2, z3, z4, z5, z6, z7⟩ := HB.out.b2.z8
  obtain ⟨x0, x1, x2, x3, x4, x5, x6, x7⟩ := HB.out.b0.z8
  obtain ⟨j0, hj0, hy0, hy1, hy2⟩ := info_parts infoIntD
  have HJ0 := Lib.hid hj0
  have HY0 := Lib.hid hy0
  have HY1 := Lib.hid hy1
  have HY2 := Lib.hid hy2
  have HOWN : Hid ((w3.alloc (.cells #[] 3)).ownsRow w3.heap.size 3 1 (.slice (some ⟨w3.heap.size, 0, none⟩) 0 0) 0 []) := Lib.hid ⟨rfl, .inr ⟨w3.heap.size, 0, #[], rfl, Nat.le_refl _, heap_alloc_new _ _, Nat.le_refl _, by simp, rfl, rfl⟩⟩
  clear hj0 hy0 hy1 hy2
  go_upto_region 31 with (at_builtin; go_loud (refine wpList_append_srcN rfl _ _ 58 rfl w3.heap.size 3 j0 _ 1 8 Try.underlying58 HJ0.out HY0.out HY1.out HY2.out rfl (by omega) _ 0 [] rfl HOWN.out CA cn cc (x.chs.map (Value.int .i64)) rfl HB.out.o.cnil (by rw [List.length_map, HB.out.o.ch.1, Nat.mul_one]) (HB.out.o.ch.keepG ((Kp.refl NoB w3).alloc (.cells #[] 3)) (fun _ _ _ _ q => q)).src (by simp [Value.oneCell']) (by have := HB.out.o.cb; unfold maxLen; omega) (by have := HB.out.o.cb; omega) (by simp) ?_); intro v8 w4 hown1 hgrow1; rw [Nat.zero_add, List.nil_append] at hown1; have HO1 := Lib.hid hown1; have hk1 := (((Kp.refl NoB w3).alloc (.cells #[] 3)).own (v := .slice (some ⟨w3.heap.size, 0, none⟩) 0 0) hgrow1 rfl HOWN.out); have HK34 := Lib.hid hk1; clear hown1 hgrow1 hk1)
  have hk := HK34.out
  have hq4 := HB.out.q.keep hk
  clear HK34
  have HQ := Lib.hid hq4
  have HK34 := Lib.hid hk
  obtain ⟨_, b0, b1, b2, r, o⟩ := HB.out.to hq4.kp
  have HB0 := Lib.hid b0
  have HB1 := Lib.hid b1
  have HB2 := Lib.hid b2
  have HR := Lib.hid r
  have HO := Lib.hid o
  clear hk hq4 b0 b1 b2 r o c0 c1 c2 c3 c4 c5 c6 c7 y0 y1 y2 y3 y4 y5 y6 y7 z0 z1 z2 z3 z4 z5 z6 z7 x0 x1 x2 x3 x4 x5 x6 x7 o0 o1 o2 o3 o4 o5 o6 hl0 hl1 hl2
  have hl2 := HB2.out.lt
  have hl1 := HB1.out.lt
  have hl0 := HB0.out.lt
  obtain ⟨o0, o1, o2, o3, o4, o5, o6⟩ := dopC7 HB1.out
  obtain ⟨c0, c1, c2, c3, c4, c5, c6, c7⟩ := HB0.out.rdc
  obtain ⟨y0, y1, y2, y3, y4, y5, y6, y7⟩ := HB2.out.c8
  obtain ⟨z0, z1, z2, z3, z4, z5, z6, z7⟩ := HB2.out.z8
  obtain ⟨x0, x1, x2, x3, x4, x5, x6, x7⟩ := HB0.out.z8
  obtain ⟨A8, c8, rfl⟩ := own_slice HO1.out
  have HCH := Lib.hid (own_nums HO1.out)
  have HBK := Lib.hid (HB.out.q.base1 HK34.out)
  have HCL : Hid (∀ g o, A8 = some ⟨g, o, none⟩ → 0 < cn → g < w4.heap.size ∧ ¬ S g) := Lib.hid (fun g o e hn => ⟨Nums.ltG HCH.out e hn, fun q => by
    have h1 := own_ge HO1.out g (by rw [e]; rfl)
    have h2 := HB.out.q.lt g q
    omega⟩)
  clear HO1 HOWN
  go_wp2_with fail
  refine (restart_q HBK.out A8 cn c8 x.chs HCH.out HCL.out HB.out.o.chr (by have := HB.out.o.cb; omega) (sm_mono HSM.out (by omega))).mono ?_
  rintro e w5 ⟨rfl, hq5⟩
  have hqq := HBK.out.up HK34.out HB.out.q.lt hq5
  obtain ⟨_, b0, b1, b2, r, o⟩ := HB.out.to hqq.kp
  clear HQ HB0 HB1 HB2 HR HO HBK HCH HCL c0 c1 c2 c3 c4 c5 c6 c7 y0 y1 y2 y3 y4 y5 y6 y7 z0 z1 z2 z3 z4 z5 z6 z7 x0 x1 x2 x3 x4 x5 x6 x7 o0 o1 o2 o3 o4 o5 o6 hl0 hl1 hl2 hq5
  have HQ := Lib.hid hqq
  have HB0 := Lib.hid b0
  have HB1 := Lib.hid b1
  have HB2 := Lib.hid b2
  have HR := Lib.hid r
  have HO := Lib.hid o
  clear hqq b0 b1 b2 r o
  have hl2 := HB2.out.lt
  have hl1 := HB1.out.lt
  have hl0 := HB0.out.lt
  obtain ⟨o0, o1, o2, o3, o4, o5, o6⟩ := dopC7 HB1.out
  obtain ⟨c0, c1, c2, c3, c4, c5, c6, c7⟩ := HB0.out.rdc
  obtain ⟨y0, y1, y2, y3, y4, y5, y6, y7⟩ := HB2.out.c8
  obtain ⟨z0, z1, z2, z3, z4, z5, z6, z7⟩ := HB2.out.z8
  obtain ⟨x0, x1, x2, x3, x4, x5, x6, x7⟩ := HB0.out.z8
  go_wp2_with fail
  refine (show Calls _ _ #[rdV d p, .slice CA cn cc] _ _ from restart_okR w5 d p CA cn cc x.chs HR.out HO.out.ch HO.out.chr (by have := HO.out.cb; omega) (by have := HSM.out; unfold Pl.sm at this; omega) (by have := HSM.out; unfold Pl.sm at this; omega)).mono ?_
  rintro e w6 ⟨d5, rfl, h5, hk5⟩
  obtain ⟨q, hqE⟩ : ∃ q, p.restart x.chs = q := ⟨_, rfl⟩
  obtain ⟨E, hE⟩ : ∃ E, p.restartE = E := ⟨_, rfl⟩
  have HRUN := Lib.hid hqE
  rw [hqE] at h5 HQ ⊢
  rw [hE]
  clear hqE hE
  have HQ' := Lib.hid (HQ.out.keep hk5)
  have HB0' := Lib.hid (HB0.out.keep hk5 (fun q => q))
  have HB1' := Lib.hid (HB1.out.keep hk5 (fun q => q))
  have HB2' := Lib.hid (HB2.out.keep hk5 (fun q => q))
  have HR' := Lib.hid h5
  have HO' := Lib.hid (HO.out.keep (hk5.mono (fun _ _ q => q.elim)))
  clear hk5 h5 HQ HB0 HB1 HB2 HR HO c0 c1 c2 c3 c4 c5 c6 c7 y0 y1 y2 y3 y4 y5 y6 y7 z0 z1 z2 z3 z4 z5 z6 z7 x0 x1 x2 x3 x4 x5 x6 x7 o0 o1 o2 o3 o4 o5 o6 hl0 hl1 hl2
  have HQ := HQ'
  have HB0 := HB0'
  have HB1 := HB1'
  have HB2 := HB2'
  have HR := HR'
  have HO := HO'
  clear HQ' HB0' HB1' HB2' HR' HO'
  have hl2 := HB2.out.lt
  have hl1 := HB1.out.lt
  have hl0 := HB0.out.lt
  obtain ⟨o0, o1, o2, o3, o4, o5, o6⟩ := dopC7 HB1.out
  obtain ⟨c0, c1, c2, c3, c4, c5, c6, c7⟩ := HB0.out.rdc
  obtain ⟨y0, y1, y2, y3, y4, y5, y6, y7⟩ := HB2.out.c8
  obtain ⟨z0, z1, z2, z3, z4, z5, z6, z7⟩ := HB2.out.z8
  obtain ⟨x0, x1, x2, x3, x4, x5, x6, x7⟩ := HB0.out.z8
  unfold rdV
  go_upto_region 33 with fail
  have hg2 : Blk (w6.alloc (.cells (rdC d5 q) 56)) w6.heap.size 56 (rdC d5 q) := Blk.new _ _ _
  have hk5 : Kp NoB w6 (w6.alloc (.cells (rdC d5 q) 56)) := (Kp.refl NoB w6).alloc _
  have h5 : Rf (w6.alloc (.cells (rdC d5 q) 56)) d5 (q) := HR.out.keep hk5
  unfold rdC at hg2 hk5 h5
  generalize hg : w6.heap.size = g at hg2 ⊢
  have hgl : s0 + 1 + 1 < g := by have := HB2.out.lt; omega
  generalize (w6.alloc (.cells #[.bool true, .bool (q).down, .slice d5.fA d5.fn d5.fc, .slice d5.pA d5.pn d5.pc, .int .i64 (q).room, .int .i64 (q).steps, .int .i64 (q).crash, .int .i64 (q).starts] 56)) = w7 at hg2 hk5 h5 ⊢
  have HG2 := Lib.hid (show Blk w7 g 56 (rdC d5 q) from hg2)
  have HGL := Lib.hid hgl
  have HKB := Lib.hid hk5
  clear hg2 hg hgl
  have HQ' := Lib.hid (HQ.out.keep hk5)
  have HB0' := Lib.hid (HB0.out.keep hk5 (fun q => q))
  have HB1' := Lib.hid (HB1.out.keep hk5 (fun q => q))
  have HB2' := Lib.hid (HB2.out.keep hk5 (fun q => q))
  have HR' := Lib.hid h5
  have HO' := Lib.hid (HO.out.keep (hk5.mono (fun _ _ q => q.elim)))
  clear hk5 h5 HQ HB0 HB1 HB2 HR HO c0 c1 c2 c3 c4 c5 c6 c7 y0 y1 y2 y3 y4 y5 y6 y7 z0 z1 z2 z3 z4 z5 z6 z7 x0 x1 x2 x3 x4 x5 x6 x7 o0 o1 o2 o3 o4 o5 o6 hl0 hl1 hl2
  have HQ := HQ'
  have HB0 := HB0'
  have HB1 := HB1'
  have HB2 := HB2'
  have HR := HR'
  have HO := HO'
  clear HQ' HB0' HB1' HB2' HR' HO'
  have hl2 := HB2.out.lt
  have hl1 := HB1.out.lt
  have hl0 := HB0.out.lt
  obtain ⟨o0, o1, o2, o3, o4, o5, o6⟩ := dopC7 HB1.out
  obtain ⟨c0, c1, c2, c3, c4, c5, c6, c7⟩ := HB0.out.rdc
  obtain ⟨y0, y1, y2, y3, y4, y5, y6, y7⟩ := HB2.out.c8
  obtain ⟨z0, z1, z2, z3, z4, z5, z6, z7⟩ := HB2.out.z8
  obtain ⟨x0, x1, x2, x3, x4, x5, x6, x7⟩ := HB0.out.z8
  obtain ⟨g0, g1, g2, g3, g4, g5, g6, g7⟩ := HG2.out.rdc
  have hgs := HG2.out.lt
  have hgg : s0 < g ∧ s0 + 1 < g ∧ s0 + 1 + 1 < g := by have := HGL.out; omega
  go_wp2_with fail
  refine bodyPost_ret (ret_cell_tmp rfl _ _ _ _ _ _ rfl (blk8 HB2.out rfl) Try.underlying56 rfl (by exact infoRd) _ rfl) rfl ⟨d5, by rw [HRUN.out]; rfl, ?_, ?_⟩
  · rw [HRUN.out]
    exact (HR.out).keepB (kp8 (Kp.refl _ w7) (.inr rfl)) HB2.out rdZ_str
  · rw [HRUN.out]
    exact HB.out.fin HS0.out (HQ.out) (kp8 (Kp.refl _ w7) (.inr rfl))
set_option maxRecDepth 100000 in
set_option maxHeartbeats 1600000 in
theorem dp_11 (S : Nat → Prop) (w : World) (db : Nat) (p : Pl) (d : Rd) (x : DOp) (CA : Option Addr) (cn cc : Nat) (hq : Dq S w w db p) (hr : Rf w d p) (hO : DOk S w x CA cn cc) (hdk : ∀ b, S b → DkB w b) (hsm : p.sm 100000) (hdo' : ∀ k : Int, 1 ≤ k → k ≤ 10 → k ≠ 9 → x.do_ ≠ k) :
    Calls Try.prog 34 #[ptrV db, rdV d p, .agg (dopV x CA cn cc)] w (DpPost S w db p) := by
  obtain ⟨DO, hdo⟩ : ∃ DO, x.do_ = DO := ⟨_, rfl⟩
  have hn : ∀ k : Int, 1 ≤ k → k ≤ 10 → k ≠ 9 → (DO == k) = false := fun k h0 h1 h2 => by
    have := hdo' k h0 h1 h2
    rw [hdo] at this
    simpa using this
  have n1 := hn 1 (by omega) (by omega) (by omega)
  have n2 := hn 2 (by omega) (by omega) (by omega)
  have n3 := hn 3 (by omega) (by omega) (by omega)
  have n4 := hn 4 (by omega) (by omega) (by omega)
  have n5 := hn 5 (by omega) (by omega) (by omega)
  have n6 := hn 6 (by omega) (by omega) (by omega)
  have n7 := hn 7 (by omega) (by omega) (by omega)
  have n8 := hn 8 (by omega) (by omega) (by omega)
  have n10 := hn 10 (by omega) (by omega) (by omega)
  clear hn hdo'
  have hB := DpB.start hq hr hO hdk
  have HSM := Lib.hid hsm
  have HLT := Lib.hid hq.lt
  clear hq hr hO hdk hsm
  unfold rdC dopV rdZ at hB
  unfold rdV dopV
  rw [hdo]
  rw [hdo] at hB
  go_enter Try.func34, Try.ntmps34
  go_upto_region 1 with fail
  generalize (((w.alloc (.cells #[.bool true, .bool p.down, .slice d.fA d.fn d.fc, .slice d.pA d.pn d.pc, .int .i64 p.room, .int .i64 p.steps, .int .i64 p.crash, .int .i64 p.starts] 56)).alloc (.cells #[.int .i64 DO, .int .i64 x.a, .int .i64 x.at_, .int .i64 x.n, .string x.name, .string x.data, .slice CA cn cc] 72)).alloc (.cells #[.bool false, .bool false, .slice none 0 0, .slice none 0 0, .int .i64 0, .int .i64 0, .int .i64 0, .int .i64 0] 56)) = w3 at hB ⊢
  generalize hs0 : w.heap.size = s0 at hB ⊢
  have HS0 := Lib.hid hs0
  have HB := Lib.hid hB
  clear hs0 hB
  have hl2 := HB.out.b2.lt
  have hl1 := HB.out.b1.lt
  have hl0 := HB.out.b0.lt
  obtain ⟨o0, o1, o2, o3, o4, o5, o6⟩ := dopC7 HB.out.b1
  rw [hdo] at o0
  obtain ⟨c0, c1, c2, c3, c4, c5, c6, c7⟩ := HB.out.b0.rdc
  obtain ⟨y0, y1, y2, y3, y4, y5, y6, y7⟩ := HB.out.b2.c8
  obtain ⟨z0, z1, z2, z3, z4, z5, z6, z7⟩ := HB.out.b2.z8
  obtain ⟨x0, x1, x2, x3, x4, x5, x6, x7⟩ := HB.out.b0.z8
  have HB2 := Lib.hid HB.out.b2
  go_wp2_with fail
  refine bodyPost_ret (ret_cell_tmp rfl _ _ _ _ _ _ rfl (blk8 HB2.out rfl) Try.underlying56 rfl (by exact infoRd) _ rfl) rfl ⟨d, rfl, ?_, ?_⟩
  · exact (HB.out.r).keepB (kp8 (Kp.refl _ w3) (.inr rfl)) HB2.out rdZ_str
  · exact HB.out.fin HS0.out (HB.out.q) (kp8 (Kp.refl _ w3) (.inr rfl))
end Go.Proofs.Ytegcbdfilkecpaa
/- The law of the disks' play: the steps on no disk at all; no condition but on the texts' lengths. -/
namespace Go.Proofs.Ytegcbdfilkecpaa
open Go.RowKit

set_option maxRecDepth 100000 in
set_option maxHeartbeats 1600000 in
theorem dz_1 (w : World) (x : DOp) (CA : Option Addr) (cn cc : Nat) (hdo : x.do_ = 1) :
    Calls Try.prog 34 #[.pointer none, zV, .agg (dopV x CA cn cc)] w fun e w' => e = .returned (.tuple #[zV, .bool true]) ∧ Kp NoB w w' := by
  unfold zV rdZ dopV
  rw [hdo]
  go_enter Try.func34, Try.ntmps34
  go_upto_region 1 with fail
  have hb0 : Blk (((w.alloc (.cells rdZ 56)).alloc (.cells (dopV x CA cn cc) 72)).alloc (.cells rdZ 56)) w.heap.size 56 rdZ := ((Blk.new _ _ _).alloc _).alloc _
  have hb1 : Blk (((w.alloc (.cells rdZ 56)).alloc (.cells (dopV x CA cn cc) 72)).alloc (.cells rdZ 56)) (w.heap.size + 1) 72 (dopV x CA cn cc) := (Blk.top (by simp)).alloc _
  have hb2 : Blk (((w.alloc (.cells rdZ 56)).alloc (.cells (dopV x CA cn cc) 72)).alloc (.cells rdZ 56)) (w.heap.size + 1 + 1) 56 rdZ := Blk.top (by simp)
  have hk : Kp NoB w (((w.alloc (.cells rdZ 56)).alloc (.cells (dopV x CA cn cc) 72)).alloc (.cells rdZ 56)) := (((Kp.refl NoB w).alloc _).alloc _).alloc _
  unfold rdZ dopV at hb0 hb1 hb2 hk
  rw [hdo] at hb0 hb1 hb2 hk
  generalize (((w.alloc (.cells #[.bool false, .bool false, .slice none 0 0, .slice none 0 0, .int .i64 0, .int .i64 0, .int .i64 0, .int .i64 0] 56)).alloc (.cells #[.int .i64 1, .int .i64 x.a, .int .i64 x.at_, .int .i64 x.n, .string x.name, .string x.data, .slice CA cn cc] 72)).alloc (.cells #[.bool false, .bool false, .slice none 0 0, .slice none 0 0, .int .i64 0, .int .i64 0, .int .i64 0, .int .i64 0] 56)) = w3 at hb0 hb1 hb2 hk ⊢
  generalize hs0 : w.heap.size = s0 at hb0 hb1 hb2 ⊢
  have HS0 := Lib.hid hs0
  have HB0 := Lib.hid (show Blk w3 s0 56 rdZ from hb0)
  have HB1 : Hid (Blk w3 (s0 + 1) 72 (dopV x CA cn cc)) := Lib.hid (by unfold dopV; rw [hdo]; exact hb1)
  have HB2 := Lib.hid (show Blk w3 (s0 + 1 + 1) 56 rdZ from hb2)
  have HK := Lib.hid hk
  clear hb0 hb1 hb2 hk hs0
  obtain ⟨o0, o1, o2, o3, o4, o5, o6⟩ := dopC7 HB1.out
  rw [hdo] at o0
  obtain ⟨c0, c1, c2, c3, c4, c5, c6, c7⟩ := HB0.out.c8
  obtain ⟨x0, x1, x2, x3, x4, x5, x6, x7⟩ := HB0.out.z8
  obtain ⟨y0, y1, y2, y3, y4, y5, y6, y7⟩ := HB2.out.c8
  obtain ⟨z0, z1, z2, z3, z4, z5, z6, z7⟩ := HB2.out.z8
  have hl0 := HB0.out.lt
  have hl1 := HB1.out.lt
  have hl2 := HB2.out.lt
  go_wp2_with fail
  refine (read_nil w3 x.name x.at_ x.n).mono ?_
  rintro e w4 ⟨rfl, rfl⟩
  go_wp2_with fail
  refine (show Calls _ _ #[zV, .string x.name, .int .i64 x.at_, .int .i64 x.n] _ _ from zread w3 x.name x.at_ x.n).mono ?_
  rintro e w5 ⟨rfl, hk5⟩
  have HB0' := Lib.hid (HB0.out.keep hk5 (fun q => q))
  have HB1' := Lib.hid (HB1.out.keep hk5 (fun q => q))
  have HB2' := Lib.hid (HB2.out.keep hk5 (fun q => q))
  have HK' := Lib.hid (HK.out.trans hk5 (fun _ _ q => q))
  clear hk5 HB0 HB1 HB2 HK c0 c1 c2 c3 c4 c5 c6 c7 y0 y1 y2 y3 y4 y5 y6 y7 z0 z1 z2 z3 z4 z5 z6 z7 x0 x1 x2 x3 x4 x5 x6 x7 o0 o1 o2 o3 o4 o5 o6 hl0 hl1 hl2
  have HB0 := HB0'
  have HB1 := HB1'
  have HB2 := HB2'
  have HK := HK'
  clear HB0' HB1' HB2' HK'
  obtain ⟨o0, o1, o2, o3, o4, o5, o6⟩ := dopC7 HB1.out
  rw [hdo] at o0
  obtain ⟨c0, c1, c2, c3, c4, c5, c6, c7⟩ := HB0.out.c8
  obtain ⟨x0, x1, x2, x3, x4, x5, x6, x7⟩ := HB0.out.z8
  obtain ⟨y0, y1, y2, y3, y4, y5, y6, y7⟩ := HB2.out.c8
  obtain ⟨z0, z1, z2, z3, z4, z5, z6, z7⟩ := HB2.out.z8
  have hl0 := HB0.out.lt
  have hl1 := HB1.out.lt
  have hl2 := HB2.out.lt
  go_wp2_with fail
  refine bodyPost_ret (ret_cell_tmp rfl _ _ _ _ _ _ rfl (blk8 HB2.out rfl) Try.underlying56 rfl (by exact infoRd) _ rfl) rfl ⟨rfl, ?_⟩
  exact HK.out.trans (kp8 (Kp.refl (OnB (s0 + 1 + 1)) w5) (.inr rfl)) (fun i hi q => by have h1 := HS0.out; have q' : i = s0 + 1 + 1 := q; omega)
set_option maxRecDepth 100000 in
set_option maxHeartbeats 1600000 in
theorem dz_2 (w : World) (x : DOp) (CA : Option Addr) (cn cc : Nat) (hdo : x.do_ = 2) :
    Calls Try.prog 34 #[.pointer none, zV, .agg (dopV x CA cn cc)] w fun e w' => e = .returned (.tuple #[zV, .bool true]) ∧ Kp NoB w w' := by
  unfold zV rdZ dopV
  rw [hdo]
  go_enter Try.func34, Try.ntmps34
  go_upto_region 1 with fail
  have hb0 : Blk (((w.alloc (.cells rdZ 56)).alloc (.cells (dopV x CA cn cc) 72)).alloc (.cells rdZ 56)) w.heap.size 56 rdZ := ((Blk.new _ _ _).alloc _).alloc _
  have hb1 : Blk (((w.alloc (.cells rdZ 56)).alloc (.cells (dopV x CA cn cc) 72)).alloc (.cells rdZ 56)) (w.heap.size + 1) 72 (dopV x CA cn cc) := (Blk.top (by simp)).alloc _
  have hb2 : Blk (((w.alloc (.cells rdZ 56)).alloc (.cells (dopV x CA cn cc) 72)).alloc (.cells rdZ 56)) (w.heap.size + 1 + 1) 56 rdZ := Blk.top (by simp)
  have hk : Kp NoB w (((w.alloc (.cells rdZ 56)).alloc (.cells (dopV x CA cn cc) 72)).alloc (.cells rdZ 56)) := (((Kp.refl NoB w).alloc _).alloc _).alloc _
  unfold rdZ dopV at hb0 hb1 hb2 hk
  rw [hdo] at hb0 hb1 hb2 hk
  generalize (((w.alloc (.cells #[.bool false, .bool false, .slice none 0 0, .slice none 0 0, .int .i64 0, .int .i64 0, .int .i64 0, .int .i64 0] 56)).alloc (.cells #[.int .i64 2, .int .i64 x.a, .int .i64 x.at_, .int .i64 x.n, .string x.name, .string x.data, .slice CA cn cc] 72)).alloc (.cells #[.bool false, .bool false, .slice none 0 0, .slice none 0 0, .int .i64 0, .int .i64 0, .int .i64 0, .int .i64 0] 56)) = w3 at hb0 hb1 hb2 hk ⊢
  generalize hs0 : w.heap.size = s0 at hb0 hb1 hb2 ⊢
  have HS0 := Lib.hid hs0
  have HB0 := Lib.hid (show Blk w3 s0 56 rdZ from hb0)
  have HB1 : Hid (Blk w3 (s0 + 1) 72 (dopV x CA cn cc)) := Lib.hid (by unfold dopV; rw [hdo]; exact hb1)
  have HB2 := Lib.hid (show Blk w3 (s0 + 1 + 1) 56 rdZ from hb2)
  have HK := Lib.hid hk
  clear hb0 hb1 hb2 hk hs0
  obtain ⟨o0, o1, o2, o3, o4, o5, o6⟩ := dopC7 HB1.out
  rw [hdo] at o0
  obtain ⟨c0, c1, c2, c3, c4, c5, c6, c7⟩ := HB0.out.c8
  obtain ⟨x0, x1, x2, x3, x4, x5, x6, x7⟩ := HB0.out.z8
  obtain ⟨y0, y1, y2, y3, y4, y5, y6, y7⟩ := HB2.out.c8
  obtain ⟨z0, z1, z2, z3, z4, z5, z6, z7⟩ := HB2.out.z8
  have hl0 := HB0.out.lt
  have hl1 := HB1.out.lt
  have hl2 := HB2.out.lt
  go_wp2_with fail
  refine (write_nil w3 x.name x.at_ x.data).mono ?_
  rintro e w4 ⟨rfl, rfl⟩
  go_wp2_with fail
  refine (show Calls _ _ #[zV, .string x.name, .int .i64 x.at_, .string x.data] _ _ from zwrite w3 x.name x.at_ x.data).mono ?_
  rintro e w5 ⟨rfl, hk5⟩
  have HB0' := Lib.hid (HB0.out.keep hk5 (fun q => q))
  have HB1' := Lib.hid (HB1.out.keep hk5 (fun q => q))
  have HB2' := Lib.hid (HB2.out.keep hk5 (fun q => q))
  have HK' := Lib.hid (HK.out.trans hk5 (fun _ _ q => q))
  clear hk5 HB0 HB1 HB2 HK c0 c1 c2 c3 c4 c5 c6 c7 y0 y1 y2 y3 y4 y5 y6 y7 z0 z1 z2 z3 z4 z5 z6 z7 x0 x1 x2 x3 x4 x5 x6 x7 o0 o1 o2 o3 o4 o5 o6 hl0 hl1 hl2
  have HB0 := HB0'
  have HB1 := HB1'
  have HB2 := HB2'
  have HK := HK'
  clear HB0' HB1' HB2' HK'
  obtain ⟨o0, o1, o2, o3, o4, o5, o6⟩ := dopC7 HB1.out
  rw [hdo] at o0
  obtain ⟨c0, c1, c2, c3, c4, c5, c6, c7⟩ := HB0.out.c8
  obtain ⟨x0, x1, x2, x3, x4, x5, x6, x7⟩ := HB0.out.z8
  obtain ⟨y0, y1, y2, y3, y4, y5, y6, y7⟩ := HB2.out.c8
  obtain ⟨z0, z1, z2, z3, z4, z5, z6, z7⟩ := HB2.out.z8
  have hl0 := HB0.out.lt
  have hl1 := HB1.out.lt
  have hl2 := HB2.out.lt
  unfold zV rdZ
  go_upto_region 9 with fail
  have hg2 : Blk (w5.alloc (.cells rdZ 56)) w5.heap.size 56 rdZ := Blk.new _ _ _
  have hk5 : Kp NoB w5 (w5.alloc (.cells rdZ 56)) := (Kp.refl NoB w5).alloc _
  unfold rdZ at hg2 hk5
  generalize hg : w5.heap.size = g at hg2 ⊢
  have hgl : s0 + 1 + 1 < g := by have := HB2.out.lt; omega
  generalize (w5.alloc (.cells #[.bool false, .bool false, .slice none 0 0, .slice none 0 0, .int .i64 0, .int .i64 0, .int .i64 0, .int .i64 0] 56)) = w6 at hg2 hk5 ⊢
  have HG2 := Lib.hid (show Blk w6 g 56 rdZ from hg2)
  have HGL := Lib.hid hgl
  clear hg2 hg hgl
  have HB0' := Lib.hid (HB0.out.keep hk5 (fun q => q))
  have HB1' := Lib.hid (HB1.out.keep hk5 (fun q => q))
  have HB2' := Lib.hid (HB2.out.keep hk5 (fun q => q))
  have HK' := Lib.hid (HK.out.trans hk5 (fun _ _ q => q))
  clear hk5 HB0 HB1 HB2 HK c0 c1 c2 c3 c4 c5 c6 c7 y0 y1 y2 y3 y4 y5 y6 y7 z0 z1 z2 z3 z4 z5 z6 z7 x0 x1 x2 x3 x4 x5 x6 x7 o0 o1 o2 o3 o4 o5 o6 hl0 hl1 hl2
  have HB0 := HB0'
  have HB1 := HB1'
  have HB2 := HB2'
  have HK := HK'
  clear HB0' HB1' HB2' HK'
  obtain ⟨o0, o1, o2, o3, o4, o5, o6⟩ := dopC7 HB1.out
  rw [hdo] at o0
  obtain ⟨c0, c1, c2, c3, c4, c5, c6, c7⟩ := HB0.out.c8
  obtain ⟨x0, x1, x2, x3, x4, x5, x6, x7⟩ := HB0.out.z8
  obtain ⟨y0, y1, y2, y3, y4, y5, y6, y7⟩ := HB2.out.c8
  obtain ⟨z0, z1, z2, z3, z4, z5, z6, z7⟩ := HB2.out.z8
  have hl0 := HB0.out.lt
  have hl1 := HB1.out.lt
  have hl2 := HB2.out.lt
  obtain ⟨g0, g1, g2, g3, g4, g5, g6, g7⟩ := HG2.out.c8
  have hgs := HG2.out.lt
  have hgg : s0 < g ∧ s0 + 1 < g ∧ s0 + 1 + 1 < g := by have := HGL.out; omega
  go_wp2_with fail
  refine bodyPost_ret (ret_cell_tmp rfl _ _ _ _ _ _ rfl (blk8 HB2.out rfl) Try.underlying56 rfl (by exact infoRd) _ rfl) rfl ⟨rfl, ?_⟩
  exact HK.out.trans (kp8 (Kp.refl (OnB (s0 + 1 + 1)) w6) (.inr rfl)) (fun i hi q => by have h1 := HS0.out; have q' : i = s0 + 1 + 1 := q; omega)
set_option maxRecDepth 100000 in
set_option maxHeartbeats 1600000 in
theorem dz_3 (w : World) (x : DOp) (CA : Option Addr) (cn cc : Nat) (hdo : x.do_ = 3) :
    Calls Try.prog 34 #[.pointer none, zV, .agg (dopV x CA cn cc)] w fun e w' => e = .returned (.tuple #[zV, .bool true]) ∧ Kp NoB w w' := by
  unfold zV rdZ dopV
  rw [hdo]
  go_enter Try.func34, Try.ntmps34
  go_upto_region 1 with fail
  have hb0 : Blk (((w.alloc (.cells rdZ 56)).alloc (.cells (dopV x CA cn cc) 72)).alloc (.cells rdZ 56)) w.heap.size 56 rdZ := ((Blk.new _ _ _).alloc _).alloc _
  have hb1 : Blk (((w.alloc (.cells rdZ 56)).alloc (.cells (dopV x CA cn cc) 72)).alloc (.cells rdZ 56)) (w.heap.size + 1) 72 (dopV x CA cn cc) := (Blk.top (by simp)).alloc _
  have hb2 : Blk (((w.alloc (.cells rdZ 56)).alloc (.cells (dopV x CA cn cc) 72)).alloc (.cells rdZ 56)) (w.heap.size + 1 + 1) 56 rdZ := Blk.top (by simp)
  have hk : Kp NoB w (((w.alloc (.cells rdZ 56)).alloc (.cells (dopV x CA cn cc) 72)).alloc (.cells rdZ 56)) := (((Kp.refl NoB w).alloc _).alloc _).alloc _
  unfold rdZ dopV at hb0 hb1 hb2 hk
  rw [hdo] at hb0 hb1 hb2 hk
  generalize (((w.alloc (.cells #[.bool false, .bool false, .slice none 0 0, .slice none 0 0, .int .i64 0, .int .i64 0, .int .i64 0, .int .i64 0] 56)).alloc (.cells #[.int .i64 3, .int .i64 x.a, .int .i64 x.at_, .int .i64 x.n, .string x.name, .string x.data, .slice CA cn cc] 72)).alloc (.cells #[.bool false, .bool false, .slice none 0 0, .slice none 0 0, .int .i64 0, .int .i64 0, .int .i64 0, .int .i64 0] 56)) = w3 at hb0 hb1 hb2 hk ⊢
  generalize hs0 : w.heap.size = s0 at hb0 hb1 hb2 ⊢
  have HS0 := Lib.hid hs0
  have HB0 := Lib.hid (show Blk w3 s0 56 rdZ from hb0)
  have HB1 : Hid (Blk w3 (s0 + 1) 72 (dopV x CA cn cc)) := Lib.hid (by unfold dopV; rw [hdo]; exact hb1)
  have HB2 := Lib.hid (show Blk w3 (s0 + 1 + 1) 56 rdZ from hb2)
  have HK := Lib.hid hk
  clear hb0 hb1 hb2 hk hs0
  obtain ⟨o0, o1, o2, o3, o4, o5, o6⟩ := dopC7 HB1.out
  rw [hdo] at o0
  obtain ⟨c0, c1, c2, c3, c4, c5, c6, c7⟩ := HB0.out.c8
  obtain ⟨x0, x1, x2, x3, x4, x5, x6, x7⟩ := HB0.out.z8
  obtain ⟨y0, y1, y2, y3, y4, y5, y6, y7⟩ := HB2.out.c8
  obtain ⟨z0, z1, z2, z3, z4, z5, z6, z7⟩ := HB2.out.z8
  have hl0 := HB0.out.lt
  have hl1 := HB1.out.lt
  have hl2 := HB2.out.lt
  go_wp2_with fail
  refine (trunc_nil w3 x.name x.n).mono ?_
  rintro e w4 ⟨rfl, rfl⟩
  go_wp2_with fail
  refine (show Calls _ _ #[zV, .string x.name, .int .i64 x.n] _ _ from ztrunc w3 x.name x.n).mono ?_
  rintro e w5 ⟨rfl, hk5⟩
  have HB0' := Lib.hid (HB0.out.keep hk5 (fun q => q))
  have HB1' := Lib.hid (HB1.out.keep hk5 (fun q => q))
  have HB2' := Lib.hid (HB2.out.keep hk5 (fun q => q))
  have HK' := Lib.hid (HK.out.trans hk5 (fun _ _ q => q))
  clear hk5 HB0 HB1 HB2 HK c0 c1 c2 c3 c4 c5 c6 c7 y0 y1 y2 y3 y4 y5 y6 y7 z0 z1 z2 z3 z4 z5 z6 z7 x0 x1 x2 x3 x4 x5 x6 x7 o0 o1 o2 o3 o4 o5 o6 hl0 hl1 hl2
  have HB0 := HB0'
  have HB1 := HB1'
  have HB2 := HB2'
  have HK := HK'
  clear HB0' HB1' HB2' HK'
  obtain ⟨o0, o1, o2, o3, o4, o5, o6⟩ := dopC7 HB1.out
  rw [hdo] at o0
  obtain ⟨c0, c1, c2, c3, c4, c5, c6, c7⟩ := HB0.out.c8
  obtain ⟨x0, x1, x2, x3, x4, x5, x6, x7⟩ := HB0.out.z8
  obtain ⟨y0, y1, y2, y3, y4, y5, y6, y7⟩ := HB2.out.c8
  obtain ⟨z0, z1, z2, z3, z4, z5, z6, z7⟩ := HB2.out.z8
  have hl0 := HB0.out.lt
  have hl1 := HB1.out.lt
  have hl2 := HB2.out.lt
  unfold zV rdZ
  go_upto_region 13 with fail
  have hg2 : Blk (w5.alloc (.cells rdZ 56)) w5.heap.size 56 rdZ := Blk.new _ _ _
  have hk5 : Kp NoB w5 (w5.alloc (.cells rdZ 56)) := (Kp.refl NoB w5).alloc _
  unfold rdZ at hg2 hk5
  generalize hg : w5.heap.size = g at hg2 ⊢
  have hgl : s0 + 1 + 1 < g := by have := HB2.out.lt; omega
  generalize (w5.alloc (.cells #[.bool false, .bool false, .slice none 0 0, .slice none 0 0, .int .i64 0, .int .i64 0, .int .i64 0, .int .i64 0] 56)) = w6 at hg2 hk5 ⊢
  have HG2 := Lib.hid (show Blk w6 g 56 rdZ from hg2)
  have HGL := Lib.hid hgl
  clear hg2 hg hgl
  have HB0' := Lib.hid (HB0.out.keep hk5 (fun q => q))
  have HB1' := Lib.hid (HB1.out.keep hk5 (fun q => q))
  have HB2' := Lib.hid (HB2.out.keep hk5 (fun q => q))
  have HK' := Lib.hid (HK.out.trans hk5 (fun _ _ q => q))
  clear hk5 HB0 HB1 HB2 HK c0 c1 c2 c3 c4 c5 c6 c7 y0 y1 y2 y3 y4 y5 y6 y7 z0 z1 z2 z3 z4 z5 z6 z7 x0 x1 x2 x3 x4 x5 x6 x7 o0 o1 o2 o3 o4 o5 o6 hl0 hl1 hl2
  have HB0 := HB0'
  have HB1 := HB1'
  have HB2 := HB2'
  have HK := HK'
  clear HB0' HB1' HB2' HK'
  obtain ⟨o0, o1, o2, o3, o4, o5, o6⟩ := dopC7 HB1.out
  rw [hdo] at o0
  obtain ⟨c0, c1, c2, c3, c4, c5, c6, c7⟩ := HB0.out.c8
  obtain ⟨x0, x1, x2, x3, x4, x5, x6, x7⟩ := HB0.out.z8
  obtain ⟨y0, y1, y2, y3, y4, y5, y6, y7⟩ := HB2.out.c8
  obtain ⟨z0, z1, z2, z3, z4, z5, z6, z7⟩ := HB2.out.z8
  have hl0 := HB0.out.lt
  have hl1 := HB1.out.lt
  have hl2 := HB2.out.lt
  obtain ⟨g0, g1, g2, g3, g4, g5, g6, g7⟩ := HG2.out.c8
  have hgs := HG2.out.lt
  have hgg : s0 < g ∧ s0 + 1 < g ∧ s0 + 1 + 1 < g := by have := HGL.out; omega
  go_wp2_with fail
  refine bodyPost_ret (ret_cell_tmp rfl _ _ _ _ _ _ rfl (blk8 HB2.out rfl) Try.underlying56 rfl (by exact infoRd) _ rfl) rfl ⟨rfl, ?_⟩
  exact HK.out.trans (kp8 (Kp.refl (OnB (s0 + 1 + 1)) w6) (.inr rfl)) (fun i hi q => by have h1 := HS0.out; have q' : i = s0 + 1 + 1 := q; omega)
set_option maxRecDepth 100000 in
set_option maxHeartbeats 1600000 in
theorem dz_4 (w : World) (x : DOp) (CA : Option Addr) (cn cc : Nat) (hdo : x.do_ = 4) :
    Calls Try.prog 34 #[.pointer none, zV, .agg (dopV x CA cn cc)] w fun e w' => e = .returned (.tuple #[zV, .bool true]) ∧ Kp NoB w w' := by
  unfold zV rdZ dopV
  rw [hdo]
  go_enter Try.func34, Try.ntmps34
  go_upto_region 1 with fail
  have hb0 : Blk (((w.alloc (.cells rdZ 56)).alloc (.cells (dopV x CA cn cc) 72)).alloc (.cells rdZ 56)) w.heap.size 56 rdZ := ((Blk.new _ _ _).alloc _).alloc _
  have hb1 : Blk (((w.alloc (.cells rdZ 56)).alloc (.cells (dopV x CA cn cc) 72)).alloc (.cells rdZ 56)) (w.heap.size + 1) 72 (dopV x CA cn cc) := (Blk.top (by simp)).alloc _
  have hb2 : Blk (((w.alloc (.cells rdZ 56)).alloc (.cells (dopV x CA cn cc) 72)).alloc (.cells rdZ 56)) (w.heap.size + 1 + 1) 56 rdZ := Blk.top (by simp)
  have hk : Kp NoB w (((w.alloc (.cells rdZ 56)).alloc (.cells (dopV x CA cn cc) 72)).alloc (.cells rdZ 56)) := (((Kp.refl NoB w).alloc _).alloc _).alloc _
  unfold rdZ dopV at hb0 hb1 hb2 hk
  rw [hdo] at hb0 hb1 hb2 hk
  generalize (((w.alloc (.cells #[.bool false, .bool false, .slice none 0 0, .slice none 0 0, .int .i64 0, .int .i64 0, .int .i64 0, .int .i64 0] 56)).alloc (.cells #[.int .i64 4, .int .i64 x.a, .int .i64 x.at_, .int .i64 x.n, .string x.name, .string x.data, .slice CA cn cc] 72)).alloc (.cells #[.bool false, .bool false, .slice none 0 0, .slice none 0 0, .int .i64 0, .int .i64 0, .int .i64 0, .int .i64 0] 56)) = w3 at hb0 hb1 hb2 hk ⊢
  generalize hs0 : w.heap.size = s0 at hb0 hb1 hb2 ⊢
  have HS0 := Lib.hid hs0
  have HB0 := Lib.hid (show Blk w3 s0 56 rdZ from hb0)
  have HB1 : Hid (Blk w3 (s0 + 1) 72 (dopV x CA cn cc)) := Lib.hid (by unfold dopV; rw [hdo]; exact hb1)
  have HB2 := Lib.hid (show Blk w3 (s0 + 1 + 1) 56 rdZ from hb2)
  have HK := Lib.hid hk
  clear hb0 hb1 hb2 hk hs0
  obtain ⟨o0, o1, o2, o3, o4, o5, o6⟩ := dopC7 HB1.out
  rw [hdo] at o0
  obtain ⟨c0, c1, c2, c3, c4, c5, c6, c7⟩ := HB0.out.c8
  obtain ⟨x0, x1, x2, x3, x4, x5, x6, x7⟩ := HB0.out.z8
  obtain ⟨y0, y1, y2, y3, y4, y5, y6, y7⟩ := HB2.out.c8
  obtain ⟨z0, z1, z2, z3, z4, z5, z6, z7⟩ := HB2.out.z8
  have hl0 := HB0.out.lt
  have hl1 := HB1.out.lt
  have hl2 := HB2.out.lt
  go_wp2_with fail
  refine (sync_nil w3 x.name).mono ?_
  rintro e w4 ⟨rfl, hk5⟩
  have HB0' := Lib.hid (HB0.out.keep hk5 (fun q => q))
  have HB1' := Lib.hid (HB1.out.keep hk5 (fun q => q))
  have HB2' := Lib.hid (HB2.out.keep hk5 (fun q => q))
  have HK' := Lib.hid (HK.out.trans hk5 (fun _ _ q => q))
  clear hk5 HB0 HB1 HB2 HK c0 c1 c2 c3 c4 c5 c6 c7 y0 y1 y2 y3 y4 y5 y6 y7 z0 z1 z2 z3 z4 z5 z6 z7 x0 x1 x2 x3 x4 x5 x6 x7 o0 o1 o2 o3 o4 o5 o6 hl0 hl1 hl2
  have HB0 := HB0'
  have HB1 := HB1'
  have HB2 := HB2'
  have HK := HK'
  clear HB0' HB1' HB2' HK'
  obtain ⟨o0, o1, o2, o3, o4, o5, o6⟩ := dopC7 HB1.out
  rw [hdo] at o0
  obtain ⟨c0, c1, c2, c3, c4, c5, c6, c7⟩ := HB0.out.c8
  obtain ⟨x0, x1, x2, x3, x4, x5, x6, x7⟩ := HB0.out.z8
  obtain ⟨y0, y1, y2, y3, y4, y5, y6, y7⟩ := HB2.out.c8
  obtain ⟨z0, z1, z2, z3, z4, z5, z6, z7⟩ := HB2.out.z8
  have hl0 := HB0.out.lt
  have hl1 := HB1.out.lt
  have hl2 := HB2.out.lt
  go_wp2_with fail
  refine (show Calls _ _ #[zV, .string x.name] _ _ from zsync w4 x.name).mono ?_
  rintro e w5 ⟨rfl, hk5⟩
  have HB0' := Lib.hid (HB0.out.keep hk5 (fun q => q))
  have HB1' := Lib.hid (HB1.out.keep hk5 (fun q => q))
  have HB2' := Lib.hid (HB2.out.keep hk5 (fun q => q))
  have HK' := Lib.hid (HK.out.trans hk5 (fun _ _ q => q))
  clear hk5 HB0 HB1 HB2 HK c0 c1 c2 c3 c4 c5 c6 c7 y0 y1 y2 y3 y4 y5 y6 y7 z0 z1 z2 z3 z4 z5 z6 z7 x0 x1 x2 x3 x4 x5 x6 x7 o0 o1 o2 o3 o4 o5 o6 hl0 hl1 hl2
  have HB0 := HB0'
  have HB1 := HB1'
  have HB2 := HB2'
  have HK := HK'
  clear HB0' HB1' HB2' HK'
  obtain ⟨o0, o1, o2, o3, o4, o5, o6⟩ := dopC7 HB1.out
  rw [hdo] at o0
  obtain ⟨c0, c1, c2, c3, c4, c5, c6, c7⟩ := HB0.out.c8
  obtain ⟨x0, x1, x2, x3, x4, x5, x6, x7⟩ := HB0.out.z8
  obtain ⟨y0, y1, y2, y3, y4, y5, y6, y7⟩ := HB2.out.c8
  obtain ⟨z0, z1, z2, z3, z4, z5, z6, z7⟩ := HB2.out.z8
  have hl0 := HB0.out.lt
  have hl1 := HB1.out.lt
  have hl2 := HB2.out.lt
  unfold zV rdZ
  go_upto_region 17 with fail
  have hg2 : Blk (w5.alloc (.cells rdZ 56)) w5.heap.size 56 rdZ := Blk.new _ _ _
  have hk5 : Kp NoB w5 (w5.alloc (.cells rdZ 56)) := (Kp.refl NoB w5).alloc _
  unfold rdZ at hg2 hk5
  generalize hg : w5.heap.size = g at hg2 ⊢
  have hgl : s0 + 1 + 1 < g := by have := HB2.out.lt; omega
  generalize (w5.alloc (.cells #[.bool false, .bool false, .slice none 0 0, .slice none 0 0, .int .i64 0, .int .i64 0, .int .i64 0, .int .i64 0] 56)) = w6 at hg2 hk5 ⊢
  have HG2 := Lib.hid (show Blk w6 g 56 rdZ from hg2)
  have HGL := Lib.hid hgl
  clear hg2 hg hgl
  have HB0' := Lib.hid (HB0.out.keep hk5 (fun q => q))
  have HB1' := Lib.hid (HB1.out.keep hk5 (fun q => q))
  have HB2' := Lib.hid (HB2.out.keep hk5 (fun q => q))
  have HK' := Lib.hid (HK.out.trans hk5 (fun _ _ q => q))
  clear hk5 HB0 HB1 HB2 HK c0 c1 c2 c3 c4 c5 c6 c7 y0 y1 y2 y3 y4 y5 y6 y7 z0 z1 z2 z3 z4 z5 z6 z7 x0 x1 x2 x3 x4 x5 x6 x7 o0 o1 o2 o3 o4 o5 o6 hl0 hl1 hl2
  have HB0 := HB0'
  have HB1 := HB1'
  have HB2 := HB2'
  have HK := HK'
  clear HB0' HB1' HB2' HK'
  obtain ⟨o0, o1, o2, o3, o4, o5, o6⟩ := dopC7 HB1.out
  rw [hdo] at o0
  obtain ⟨c0, c1, c2, c3, c4, c5, c6, c7⟩ := HB0.out.c8
  obtain ⟨x0, x1, x2, x3, x4, x5, x6, x7⟩ := HB0.out.z8
  obtain ⟨y0, y1, y2, y3, y4, y5, y6, y7⟩ := HB2.out.c8
  obtain ⟨z0, z1, z2, z3, z4, z5, z6, z7⟩ := HB2.out.z8
  have hl0 := HB0.out.lt
  have hl1 := HB1.out.lt
  have hl2 := HB2.out.lt
  obtain ⟨g0, g1, g2, g3, g4, g5, g6, g7⟩ := HG2.out.c8
  have hgs := HG2.out.lt
  have hgg : s0 < g ∧ s0 + 1 < g ∧ s0 + 1 + 1 < g := by have := HGL.out; omega
  go_wp2_with fail
  refine bodyPost_ret (ret_cell_tmp rfl _ _ _ _ _ _ rfl (blk8 HB2.out rfl) Try.underlying56 rfl (by exact infoRd) _ rfl) rfl ⟨rfl, ?_⟩
  exact HK.out.trans (kp8 (Kp.refl (OnB (s0 + 1 + 1)) w6) (.inr rfl)) (fun i hi q => by have h1 := HS0.out; have q' : i = s0 + 1 + 1 := q; omega)
set_option maxRecDepth 100000 in
set_option maxHeartbeats 1600000 in
theorem dz_5 (w : World) (x : DOp) (CA : Option Addr) (cn cc : Nat) (hdo : x.do_ = 5) :
    Calls Try.prog 34 #[.pointer none, zV, .agg (dopV x CA cn cc)] w fun e w' => e = .returned (.tuple #[zV, .bool true]) ∧ Kp NoB w w' := by
  unfold zV rdZ dopV
  rw [hdo]
  go_enter Try.func34, Try.ntmps34
  go_upto_region 1 with fail
  have hb0 : Blk (((w.alloc (.cells rdZ 56)).alloc (.cells (dopV x CA cn cc) 72)).alloc (.cells rdZ 56)) w.heap.size 56 rdZ := ((Blk.new _ _ _).alloc _).alloc _
  have hb1 : Blk (((w.alloc (.cells rdZ 56)).alloc (.cells (dopV x CA cn cc) 72)).alloc (.cells rdZ 56)) (w.heap.size + 1) 72 (dopV x CA cn cc) := (Blk.top (by simp)).alloc _
  have hb2 : Blk (((w.alloc (.cells rdZ 56)).alloc (.cells (dopV x CA cn cc) 72)).alloc (.cells rdZ 56)) (w.heap.size + 1 + 1) 56 rdZ := Blk.top (by simp)
  have hk : Kp NoB w (((w.alloc (.cells rdZ 56)).alloc (.cells (dopV x CA cn cc) 72)).alloc (.cells rdZ 56)) := (((Kp.refl NoB w).alloc _).alloc _).alloc _
  unfold rdZ dopV at hb0 hb1 hb2 hk
  rw [hdo] at hb0 hb1 hb2 hk
  generalize (((w.alloc (.cells #[.bool false, .bool false, .slice none 0 0, .slice none 0 0, .int .i64 0, .int .i64 0, .int .i64 0, .int .i64 0] 56)).alloc (.cells #[.int .i64 5, .int .i64 x.a, .int .i64 x.at_, .int .i64 x.n, .string x.name, .string x.data, .slice CA cn cc] 72)).alloc (.cells #[.bool false, .bool false, .slice none 0 0, .slice none 0 0, .int .i64 0, .int .i64 0, .int .i64 0, .int .i64 0] 56)) = w3 at hb0 hb1 hb2 hk ⊢
  generalize hs0 : w.heap.size = s0 at hb0 hb1 hb2 ⊢
  have HS0 := Lib.hid hs0
  have HB0 := Lib.hid (show Blk w3 s0 56 rdZ from hb0)
  have HB1 : Hid (Blk w3 (s0 + 1) 72 (dopV x CA cn cc)) := Lib.hid (by unfold dopV; rw [hdo]; exact hb1)
  have HB2 := Lib.hid (show Blk w3 (s0 + 1 + 1) 56 rdZ from hb2)
  have HK := Lib.hid hk
  clear hb0 hb1 hb2 hk hs0
  obtain ⟨o0, o1, o2, o3, o4, o5, o6⟩ := dopC7 HB1.out
  rw [hdo] at o0
  obtain ⟨c0, c1, c2, c3, c4, c5, c6, c7⟩ := HB0.out.c8
  obtain ⟨x0, x1, x2, x3, x4, x5, x6, x7⟩ := HB0.out.z8
  obtain ⟨y0, y1, y2, y3, y4, y5, y6, y7⟩ := HB2.out.c8
  obtain ⟨z0, z1, z2, z3, z4, z5, z6, z7⟩ := HB2.out.z8
  have hl0 := HB0.out.lt
  have hl1 := HB1.out.lt
  have hl2 := HB2.out.lt
  go_wp2_with fail
  refine (setroom_nil w3 x.n).mono ?_
  rintro e w4 ⟨rfl, rfl⟩
  go_wp2_with fail
  refine bodyPost_ret (ret_cell_tmp rfl _ _ _ _ _ _ rfl (blk8 HB2.out rfl) Try.underlying56 rfl (by exact infoRd) _ rfl) rfl ⟨rfl, ?_⟩
  exact HK.out.trans (kp8 (Kp.refl (OnB (s0 + 1 + 1)) w3) (.inr rfl)) (fun i hi q => by have h1 := HS0.out; have q' : i = s0 + 1 + 1 := q; omega)
set_option maxRecDepth 100000 in
set_option maxHeartbeats 1600000 in
theorem dz_6 (w : World) (x : DOp) (CA : Option Addr) (cn cc : Nat) (hdo : x.do_ = 6) :
    Calls Try.prog 34 #[.pointer none, zV, .agg (dopV x CA cn cc)] w fun e w' => e = .returned (.tuple #[zV, .bool true]) ∧ Kp NoB w w' := by
  unfold zV rdZ dopV
  rw [hdo]
  go_enter Try.func34, Try.ntmps34
  go_upto_region 1 with fail
  have hb0 : Blk (((w.alloc (.cells rdZ 56)).alloc (.cells (dopV x CA cn cc) 72)).alloc (.cells rdZ 56)) w.heap.size 56 rdZ := ((Blk.new _ _ _).alloc _).alloc _
  have hb1 : Blk (((w.alloc (.cells rdZ 56)).alloc (.cells (dopV x CA cn cc) 72)).alloc (.cells rdZ 56)) (w.heap.size + 1) 72 (dopV x CA cn cc) := (Blk.top (by simp)).alloc _
  have hb2 : Blk (((w.alloc (.cells rdZ 56)).alloc (.cells (dopV x CA cn cc) 72)).alloc (.cells rdZ 56)) (w.heap.size + 1 + 1) 56 rdZ := Blk.top (by simp)
  have hk : Kp NoB w (((w.alloc (.cells rdZ 56)).alloc (.cells (dopV x CA cn cc) 72)).alloc (.cells rdZ 56)) := (((Kp.refl NoB w).alloc _).alloc _).alloc _
  unfold rdZ dopV at hb0 hb1 hb2 hk
  rw [hdo] at hb0 hb1 hb2 hk
  generalize (((w.alloc (.cells #[.bool false, .bool false, .slice none 0 0, .slice none 0 0, .int .i64 0, .int .i64 0, .int .i64 0, .int .i64 0] 56)).alloc (.cells #[.int .i64 6, .int .i64 x.a, .int .i64 x.at_, .int .i64 x.n, .string x.name, .string x.data, .slice CA cn cc] 72)).alloc (.cells #[.bool false, .bool false, .slice none 0 0, .slice none 0 0, .int .i64 0, .int .i64 0, .int .i64 0, .int .i64 0] 56)) = w3 at hb0 hb1 hb2 hk ⊢
  generalize hs0 : w.heap.size = s0 at hb0 hb1 hb2 ⊢
  have HS0 := Lib.hid hs0
  have HB0 := Lib.hid (show Blk w3 s0 56 rdZ from hb0)
  have HB1 : Hid (Blk w3 (s0 + 1) 72 (dopV x CA cn cc)) := Lib.hid (by unfold dopV; rw [hdo]; exact hb1)
  have HB2 := Lib.hid (show Blk w3 (s0 + 1 + 1) 56 rdZ from hb2)
  have HK := Lib.hid hk
  clear hb0 hb1 hb2 hk hs0
  obtain ⟨o0, o1, o2, o3, o4, o5, o6⟩ := dopC7 HB1.out
  rw [hdo] at o0
  obtain ⟨c0, c1, c2, c3, c4, c5, c6, c7⟩ := HB0.out.c8
  obtain ⟨x0, x1, x2, x3, x4, x5, x6, x7⟩ := HB0.out.z8
  obtain ⟨y0, y1, y2, y3, y4, y5, y6, y7⟩ := HB2.out.c8
  obtain ⟨z0, z1, z2, z3, z4, z5, z6, z7⟩ := HB2.out.z8
  have hl0 := HB0.out.lt
  have hl1 := HB1.out.lt
  have hl2 := HB2.out.lt
  go_wp2_with fail
  refine (crashin_nil w3 x.n).mono ?_
  rintro e w4 ⟨rfl, rfl⟩
  go_wp2_with fail
  refine bodyPost_ret (ret_cell_tmp rfl _ _ _ _ _ _ rfl (blk8 HB2.out rfl) Try.underlying56 rfl (by exact infoRd) _ rfl) rfl ⟨rfl, ?_⟩
  exact HK.out.trans (kp8 (Kp.refl (OnB (s0 + 1 + 1)) w3) (.inr rfl)) (fun i hi q => by have h1 := HS0.out; have q' : i = s0 + 1 + 1 := q; omega)
set_option maxRecDepth 100000 in
set_option maxHeartbeats 1600000 in
theorem dz_7 (w : World) (x : DOp) (CA : Option Addr) (cn cc : Nat) (hdo : x.do_ = 7) :
    Calls Try.prog 34 #[.pointer none, zV, .agg (dopV x CA cn cc)] w fun e w' => e = .returned (.tuple #[zV, .bool true]) ∧ Kp NoB w w' := by
  unfold zV rdZ dopV
  rw [hdo]
  go_enter Try.func34, Try.ntmps34
  go_upto_region 1 with fail
  have hb0 : Blk (((w.alloc (.cells rdZ 56)).alloc (.cells (dopV x CA cn cc) 72)).alloc (.cells rdZ 56)) w.heap.size 56 rdZ := ((Blk.new _ _ _).alloc _).alloc _
  have hb1 : Blk (((w.alloc (.cells rdZ 56)).alloc (.cells (dopV x CA cn cc) 72)).alloc (.cells rdZ 56)) (w.heap.size + 1) 72 (dopV x CA cn cc) := (Blk.top (by simp)).alloc _
  have hb2 : Blk (((w.alloc (.cells rdZ 56)).alloc (.cells (dopV x CA cn cc) 72)).alloc (.cells rdZ 56)) (w.heap.size + 1 + 1) 56 rdZ := Blk.top (by simp)
  have hk : Kp NoB w (((w.alloc (.cells rdZ 56)).alloc (.cells (dopV x CA cn cc) 72)).alloc (.cells rdZ 56)) := (((Kp.refl NoB w).alloc _).alloc _).alloc _
  unfold rdZ dopV at hb0 hb1 hb2 hk
  rw [hdo] at hb0 hb1 hb2 hk
  generalize (((w.alloc (.cells #[.bool false, .bool false, .slice none 0 0, .slice none 0 0, .int .i64 0, .int .i64 0, .int .i64 0, .int .i64 0] 56)).alloc (.cells #[.int .i64 7, .int .i64 x.a, .int .i64 x.at_, .int .i64 x.n, .string x.name, .string x.data, .slice CA cn cc] 72)).alloc (.cells #[.bool false, .bool false, .slice none 0 0, .slice none 0 0, .int .i64 0, .int .i64 0, .int .i64 0, .int .i64 0] 56)) = w3 at hb0 hb1 hb2 hk ⊢
  generalize hs0 : w.heap.size = s0 at hb0 hb1 hb2 ⊢
  have HS0 := Lib.hid hs0
  have HB0 := Lib.hid (show Blk w3 s0 56 rdZ from hb0)
  have HB1 : Hid (Blk w3 (s0 + 1) 72 (dopV x CA cn cc)) := Lib.hid (by unfold dopV; rw [hdo]; exact hb1)
  have HB2 := Lib.hid (show Blk w3 (s0 + 1 + 1) 56 rdZ from hb2)
  have HK := Lib.hid hk
  clear hb0 hb1 hb2 hk hs0
  obtain ⟨o0, o1, o2, o3, o4, o5, o6⟩ := dopC7 HB1.out
  rw [hdo] at o0
  obtain ⟨c0, c1, c2, c3, c4, c5, c6, c7⟩ := HB0.out.c8
  obtain ⟨x0, x1, x2, x3, x4, x5, x6, x7⟩ := HB0.out.z8
  obtain ⟨y0, y1, y2, y3, y4, y5, y6, y7⟩ := HB2.out.c8
  obtain ⟨z0, z1, z2, z3, z4, z5, z6, z7⟩ := HB2.out.z8
  have hl0 := HB0.out.lt
  have hl1 := HB1.out.lt
  have hl2 := HB2.out.lt
  go_wp2_with fail
  refine (crash_nil w3).mono ?_
  rintro e w4 ⟨rfl, rfl⟩
  go_wp2_with fail
  have hne : s0 + 1 + 1 ≠ s0 := by omega
  refine bodyPost_ret (ret_cell_tmp rfl _ _ _ _ _ _ rfl (blk9 HB2.out rfl hne) Try.underlying56 rfl (by exact infoRd) _ rfl) rfl ⟨rfl, ?_⟩
  exact HK.out.trans (kp9 (S := fun b => b = s0 ∨ b = s0 + 1 + 1) (Kp.refl _ w3) (.inr (.inl rfl)) (.inr (.inr rfl))) (fun i hi q => by have h1 := HS0.out; omega)
set_option maxRecDepth 100000 in
set_option maxHeartbeats 1600000 in
theorem dz_8 (w : World) (x : DOp) (CA : Option Addr) (cn cc : Nat) (hdo : x.do_ = 8) (hch : Nums w CA cn x.chs) (hcb : cn * 8 ≤ 140737488355328) (hcn : CA = none → cn = 0 ∧ cc = 0) :
    Calls Try.prog 34 #[.pointer none, zV, .agg (dopV x CA cn cc)] w fun e w' => e = .returned (.tuple #[zV, .bool true]) ∧ Kp NoB w w' := by
  have HCH := Lib.hid hch
  have HCB := Lib.hid hcb
  have HCN := Lib.hid hcn
  clear hch hcb hcn
  unfold zV rdZ dopV
  rw [hdo]
  go_enter Try.func34, Try.ntmps34
  go_upto_region 1 with fail
  have hb0 : Blk (((w.alloc (.cells rdZ 56)).alloc (.cells (dopV x CA cn cc) 72)).alloc (.cells rdZ 56)) w.heap.size 56 rdZ := ((Blk.new _ _ _).alloc _).alloc _
  have hb1 : Blk (((w.alloc (.cells rdZ 56)).alloc (.cells (dopV x CA cn cc) 72)).alloc (.cells rdZ 56)) (w.heap.size + 1) 72 (dopV x CA cn cc) := (Blk.top (by simp)).alloc _
  have hb2 : Blk (((w.alloc (.cells rdZ 56)).alloc (.cells (dopV x CA cn cc) 72)).alloc (.cells rdZ 56)) (w.heap.size + 1 + 1) 56 rdZ := Blk.top (by simp)
  have hk : Kp NoB w (((w.alloc (.cells rdZ 56)).alloc (.cells (dopV x CA cn cc) 72)).alloc (.cells rdZ 56)) := (((Kp.refl NoB w).alloc _).alloc _).alloc _
  unfold rdZ dopV at hb0 hb1 hb2 hk
  rw [hdo] at hb0 hb1 hb2 hk
  generalize (((w.alloc (.cells #[.bool false, .bool false, .slice none 0 0, .slice none 0 0, .int .i64 0, .int .i64 0, .int .i64 0, .int .i64 0] 56)).alloc (.cells #[.int .i64 8, .int .i64 x.a, .int .i64 x.at_, .int .i64 x.n, .string x.name, .string x.data, .slice CA cn cc] 72)).alloc (.cells #[.bool false, .bool false, .slice none 0 0, .slice none 0 0, .int .i64 0, .int .i64 0, .int .i64 0, .int .i64 0] 56)) = w3 at hb0 hb1 hb2 hk ⊢
  generalize hs0 : w.heap.size = s0 at hb0 hb1 hb2 ⊢
  have HS0 := Lib.hid hs0
  have HB0 := Lib.hid (show Blk w3 s0 56 rdZ from hb0)
  have HB1 : Hid (Blk w3 (s0 + 1) 72 (dopV x CA cn cc)) := Lib.hid (by unfold dopV; rw [hdo]; exact hb1)
  have HB2 := Lib.hid (show Blk w3 (s0 + 1 + 1) 56 rdZ from hb2)
  have HK := Lib.hid hk
  clear hb0 hb1 hb2 hk hs0
  obtain ⟨o0, o1, o2, o3, o4, o5, o6⟩ := dopC7 HB1.out
  rw [hdo] at o0
  obtain ⟨c0, c1, c2, c3, c4, c5, c6, c7⟩ := HB0.out.c8
  obtain ⟨x0, x1, x2, x3, x4, x5, x6, x7⟩ := HB0.out.z8
  obtain ⟨y0, y1, y2, y3, y4, y5, y6, y7⟩ := HB2.out.c8
  obtain ⟨z0, z1, z2, z3, z4, z5, z6, z7⟩ := HB2.out.z8
  have hl0 := HB0.out.lt
  have hl1 := HB1.out.lt
  have hl2 := HB2.out.lt
  obtain ⟨j0, hj0, hy0, hy1, hy2⟩ := info_parts infoIntD
  have HJ0 := Lib.hid hj0
  have HY0 := Lib.hid hy0
  have HY1 := Lib.hid hy1
  have HY2 := Lib.hid hy2
  have HOWN : Hid ((w3.alloc (.cells #[] 3)).ownsRow w3.heap.size 3 1 (.slice (some ⟨w3.heap.size, 0, none⟩) 0 0) 0 []) := Lib.hid ⟨rfl, .inr ⟨w3.heap.size, 0, #[], rfl, Nat.le_refl _, heap_alloc_new _ _, Nat.le_refl _, by simp, rfl, rfl⟩⟩
  clear hj0 hy0 hy1 hy2
  go_upto_region 31 with (at_builtin; go_loud (refine wpList_append_srcN rfl _ _ 58 rfl w3.heap.size 3 j0 _ 1 8 Try.underlying58 HJ0.out HY0.out HY1.out HY2.out rfl (by omega) _ 0 [] rfl HOWN.out CA cn cc (x.chs.map (Value.int .i64)) rfl HCN.out (by rw [List.length_map, HCH.out.1, Nat.mul_one]) (HCH.out.keepG (HK.out.trans ((Kp.refl NoB w3).alloc (.cells #[] 3)) (fun _ _ q => q)) (fun _ _ _ _ q => q)).src (by simp [Value.oneCell']) (by have := HCB.out; unfold maxLen; omega) (by have := HCB.out; omega) (by simp) ?_); intro v8 w4 hown1 hgrow1; rw [Nat.zero_add, List.nil_append] at hown1; have HO1 := Lib.hid hown1; have hk1 := (((Kp.refl NoB w3).alloc (.cells #[] 3)).own (v := .slice (some ⟨w3.heap.size, 0, none⟩) 0 0) hgrow1 rfl HOWN.out); have HK34 := Lib.hid hk1; clear hown1 hgrow1 hk1)
  have hk5 := HK34.out
  have HB0' := Lib.hid (HB0.out.keep hk5 (fun q => q))
  have HB1' := Lib.hid (HB1.out.keep hk5 (fun q => q))
  have HB2' := Lib.hid (HB2.out.keep hk5 (fun q => q))
  have HK' := Lib.hid (HK.out.trans hk5 (fun _ _ q => q))
  clear hk5 HB0 HB1 HB2 HK c0 c1 c2 c3 c4 c5 c6 c7 y0 y1 y2 y3 y4 y5 y6 y7 z0 z1 z2 z3 z4 z5 z6 z7 x0 x1 x2 x3 x4 x5 x6 x7 o0 o1 o2 o3 o4 o5 o6 hl0 hl1 hl2
  have HB0 := HB0'
  have HB1 := HB1'
  have HB2 := HB2'
  have HK := HK'
  clear HB0' HB1' HB2' HK'
  obtain ⟨o0, o1, o2, o3, o4, o5, o6⟩ := dopC7 HB1.out
  rw [hdo] at o0
  obtain ⟨c0, c1, c2, c3, c4, c5, c6, c7⟩ := HB0.out.c8
  obtain ⟨x0, x1, x2, x3, x4, x5, x6, x7⟩ := HB0.out.z8
  obtain ⟨y0, y1, y2, y3, y4, y5, y6, y7⟩ := HB2.out.c8
  obtain ⟨z0, z1, z2, z3, z4, z5, z6, z7⟩ := HB2.out.z8
  have hl0 := HB0.out.lt
  have hl1 := HB1.out.lt
  have hl2 := HB2.out.lt
  obtain ⟨A8, c8, rfl⟩ := own_slice HO1.out
  go_wp2_with fail
  refine (restart_nil w4 A8 cn c8).mono ?_
  rintro e w5 ⟨rfl, rfl⟩
  go_wp2_with fail
  refine (show Calls _ _ #[zV, .slice CA cn cc] _ _ from zrestart w4 CA cn cc).mono ?_
  rintro e w6 ⟨rfl, hk5⟩
  have HB0' := Lib.hid (HB0.out.keep hk5 (fun q => q))
  have HB1' := Lib.hid (HB1.out.keep hk5 (fun q => q))
  have HB2' := Lib.hid (HB2.out.keep hk5 (fun q => q))
  have HK' := Lib.hid (HK.out.trans hk5 (fun _ _ q => q))
  clear hk5 HB0 HB1 HB2 HK c0 c1 c2 c3 c4 c5 c6 c7 y0 y1 y2 y3 y4 y5 y6 y7 z0 z1 z2 z3 z4 z5 z6 z7 x0 x1 x2 x3 x4 x5 x6 x7 o0 o1 o2 o3 o4 o5 o6 hl0 hl1 hl2
  have HB0 := HB0'
  have HB1 := HB1'
  have HB2 := HB2'
  have HK := HK'
  clear HB0' HB1' HB2' HK'
  obtain ⟨o0, o1, o2, o3, o4, o5, o6⟩ := dopC7 HB1.out
  rw [hdo] at o0
  obtain ⟨c0, c1, c2, c3, c4, c5, c6, c7⟩ := HB0.out.c8
  obtain ⟨x0, x1, x2, x3, x4, x5, x6, x7⟩ := HB0.out.z8
  obtain ⟨y0, y1, y2, y3, y4, y5, y6, y7⟩ := HB2.out.c8
  obtain ⟨z0, z1, z2, z3, z4, z5, z6, z7⟩ := HB2.out.z8
  have hl0 := HB0.out.lt
  have hl1 := HB1.out.lt
  have hl2 := HB2.out.lt
  unfold zV rdZ
  go_upto_region 33 with fail
  have hg2 : Blk (w6.alloc (.cells rdZ 56)) w6.heap.size 56 rdZ := Blk.new _ _ _
  have hk5 : Kp NoB w6 (w6.alloc (.cells rdZ 56)) := (Kp.refl NoB w6).alloc _
  unfold rdZ at hg2 hk5
  generalize hg : w6.heap.size = g at hg2 ⊢
  have hgl : s0 + 1 + 1 < g := by have := HB2.out.lt; omega
  generalize (w6.alloc (.cells #[.bool false, .bool false, .slice none 0 0, .slice none 0 0, .int .i64 0, .int .i64 0, .int .i64 0, .int .i64 0] 56)) = w7 at hg2 hk5 ⊢
  have HG2 := Lib.hid (show Blk w7 g 56 rdZ from hg2)
  have HGL := Lib.hid hgl
  clear hg2 hg hgl
  have HB0' := Lib.hid (HB0.out.keep hk5 (fun q => q))
  have HB1' := Lib.hid (HB1.out.keep hk5 (fun q => q))
  have HB2' := Lib.hid (HB2.out.keep hk5 (fun q => q))
  have HK' := Lib.hid (HK.out.trans hk5 (fun _ _ q => q))
  clear hk5 HB0 HB1 HB2 HK c0 c1 c2 c3 c4 c5 c6 c7 y0 y1 y2 y3 y4 y5 y6 y7 z0 z1 z2 z3 z4 z5 z6 z7 x0 x1 x2 x3 x4 x5 x6 x7 o0 o1 o2 o3 o4 o5 o6 hl0 hl1 hl2
  have HB0 := HB0'
  have HB1 := HB1'
  have HB2 := HB2'
  have HK := HK'
  clear HB0' HB1' HB2' HK'
  obtain ⟨o0, o1, o2, o3, o4, o5, o6⟩ := dopC7 HB1.out
  rw [hdo] at o0
  obtain ⟨c0, c1, c2, c3, c4, c5, c6, c7⟩ := HB0.out.c8
  obtain ⟨x0, x1, x2, x3, x4, x5, x6, x7⟩ := HB0.out.z8
  obtain ⟨y0, y1, y2, y3, y4, y5, y6, y7⟩ := HB2.out.c8
  obtain ⟨z0, z1, z2, z3, z4, z5, z6, z7⟩ := HB2.out.z8
  have hl0 := HB0.out.lt
  have hl1 := HB1.out.lt
  have hl2 := HB2.out.lt
  obtain ⟨g0, g1, g2, g3, g4, g5, g6, g7⟩ := HG2.out.c8
  have hgs := HG2.out.lt
  have hgg : s0 < g ∧ s0 + 1 < g ∧ s0 + 1 + 1 < g := by have := HGL.out; omega
  go_wp2_with fail
  refine bodyPost_ret (ret_cell_tmp rfl _ _ _ _ _ _ rfl (blk8 HB2.out rfl) Try.underlying56 rfl (by exact infoRd) _ rfl) rfl ⟨rfl, ?_⟩
  exact HK.out.trans (kp8 (Kp.refl (OnB (s0 + 1 + 1)) w7) (.inr rfl)) (fun i hi q => by have h1 := HS0.out; have q' : i = s0 + 1 + 1 := q; omega)
set_option maxRecDepth 100000 in
set_option maxHeartbeats 1600000 in
theorem dz_11 (w : World) (x : DOp) (CA : Option Addr) (cn cc : Nat) (hdo' : ∀ k : Int, 1 ≤ k → k ≤ 10 → k ≠ 9 → x.do_ ≠ k) :
    Calls Try.prog 34 #[.pointer none, zV, .agg (dopV x CA cn cc)] w fun e w' => e = .returned (.tuple #[zV, .bool true]) ∧ Kp NoB w w' := by
  obtain ⟨DO, hdo⟩ : ∃ DO, x.do_ = DO := ⟨_, rfl⟩
  have hn : ∀ k : Int, 1 ≤ k → k ≤ 10 → k ≠ 9 → (DO == k) = false := fun k h0 h1 h2 => by
    have := hdo' k h0 h1 h2
    rw [hdo] at this
    simpa using this
  have n1 := hn 1 (by omega) (by omega) (by omega)
  have n2 := hn 2 (by omega) (by omega) (by omega)
  have n3 := hn 3 (by omega) (by omega) (by omega)
  have n4 := hn 4 (by omega) (by omega) (by omega)
  have n5 := hn 5 (by omega) (by omega) (by omega)
  have n6 := hn 6 (by omega) (by omega) (by omega)
  have n7 := hn 7 (by omega) (by omega) (by omega)
  have n8 := hn 8 (by omega) (by omega) (by omega)
  have n10 := hn 10 (by omega) (by omega) (by omega)
  clear hn hdo'
  unfold zV rdZ dopV
  rw [hdo]
  go_enter Try.func34, Try.ntmps34
  go_upto_region 1 with fail
  have hb0 : Blk (((w.alloc (.cells rdZ 56)).alloc (.cells (dopV x CA cn cc) 72)).alloc (.cells rdZ 56)) w.heap.size 56 rdZ := ((Blk.new _ _ _).alloc _).alloc _
  have hb1 : Blk (((w.alloc (.cells rdZ 56)).alloc (.cells (dopV x CA cn cc) 72)).alloc (.cells rdZ 56)) (w.heap.size + 1) 72 (dopV x CA cn cc) := (Blk.top (by simp)).alloc _
  have hb2 : Blk (((w.alloc (.cells rdZ 56)).alloc (.cells (dopV x CA cn cc) 72)).alloc (.cells rdZ 56)) (w.heap.size + 1 + 1) 56 rdZ := Blk.top (by simp)
  have hk : Kp NoB w (((w.alloc (.cells rdZ 56)).alloc (.cells (dopV x CA cn cc) 72)).alloc (.cells rdZ 56)) := (((Kp.refl NoB w).alloc _).alloc _).alloc _
  unfold rdZ dopV at hb0 hb1 hb2 hk
  rw [hdo] at hb0 hb1 hb2 hk
  generalize (((w.alloc (.cells #[.bool false, .bool false, .slice none 0 0, .slice none 0 0, .int .i64 0, .int .i64 0, .int .i64 0, .int .i64 0] 56)).alloc (.cells #[.int .i64 DO, .int .i64 x.a, .int .i64 x.at_, .int .i64 x.n, .string x.name, .string x.data, .slice CA cn cc] 72)).alloc (.cells #[.bool false, .bool false, .slice none 0 0, .slice none 0 0, .int .i64 0, .int .i64 0, .int .i64 0, .int .i64 0] 56)) = w3 at hb0 hb1 hb2 hk ⊢
  generalize hs0 : w.heap.size = s0 at hb0 hb1 hb2 ⊢
  have HS0 := Lib.hid hs0
  have HB0 := Lib.hid (show Blk w3 s0 56 rdZ from hb0)
  have HB1 : Hid (Blk w3 (s0 + 1) 72 (dopV x CA cn cc)) := Lib.hid (by unfold dopV; rw [hdo]; exact hb1)
  have HB2 := Lib.hid (show Blk w3 (s0 + 1 + 1) 56 rdZ from hb2)
  have HK := Lib.hid hk
  clear hb0 hb1 hb2 hk hs0
  obtain ⟨o0, o1, o2, o3, o4, o5, o6⟩ := dopC7 HB1.out
  rw [hdo] at o0
  obtain ⟨c0, c1, c2, c3, c4, c5, c6, c7⟩ := HB0.out.c8
  obtain ⟨x0, x1, x2, x3, x4, x5, x6, x7⟩ := HB0.out.z8
  obtain ⟨y0, y1, y2, y3, y4, y5, y6, y7⟩ := HB2.out.c8
  obtain ⟨z0, z1, z2, z3, z4, z5, z6, z7⟩ := HB2.out.z8
  have hl0 := HB0.out.lt
  have hl1 := HB1.out.lt
  have hl2 := HB2.out.lt
  go_wp2_with fail
  refine bodyPost_ret (ret_cell_tmp rfl _ _ _ _ _ _ rfl (blk8 HB2.out rfl) Try.underlying56 rfl (by exact infoRd) _ rfl) rfl ⟨rfl, ?_⟩
  exact HK.out.trans (kp8 (Kp.refl (OnB (s0 + 1 + 1)) w3) (.inr rfl)) (fun i hi q => by have h1 := HS0.out; have q' : i = s0 + 1 + 1 := q; omega)
end Go.Proofs.Ytegcbdfilkecpaa
/- The law of the disks' play: what no disk at all tells; a step that looks; no condition but on the counts. -/
namespace Go.Proofs.Ytegcbdfilkecpaa
open Go.RowKit

theorem rdC_onesD (d : Rd) (p : Pl) : (rdC d p).all (·.oneCell') = true := by unfold rdC; simp [Value.oneCell']
set_option maxRecDepth 100000 in
set_option maxHeartbeats 1600000 in
theorem zlook (w : World) : Calls Try.prog 35 #[.pointer none, zV] w fun e w' => e = .returned (.bool true) ∧ Kp NoB w w' := by
  unfold zV rdZ
  go_enter Try.func35, Try.ntmps35
  go_upto_region 1 with fail
  have hb1 : Blk (w.alloc (.cells rdZ 56)) w.heap.size 56 rdZ := Blk.new _ _ _
  have hk1 : Kp NoB w (w.alloc (.cells rdZ 56)) := (Kp.refl NoB w).alloc _
  unfold rdZ at hb1 hk1
  generalize hg1 : w.heap.size = g1 at hb1 ⊢
  generalize (w.alloc (.cells #[.bool false, .bool false, .slice none 0 0, .slice none 0 0, .int .i64 0, .int .i64 0, .int .i64 0, .int .i64 0] 56)) = w1 at hb1 hk1 ⊢
  have HB1 := Lib.hid (show Blk w1 g1 56 rdZ from hb1)
  have HK1 := Lib.hid hk1
  clear hb1 hk1 hg1
  obtain ⟨c0, c1, c2, c3, c4, c5, c6, c7⟩ := HB1.out.c8
  go_wp2_with fail
  refine (names_nil w1).mono ?_
  rintro e w2 ⟨rfl, rfl⟩
  go_wp2_with fail
  refine (show Calls _ _ #[zV] _ _ from znames w1).mono ?_
  rintro e w3 ⟨rfl, hk3⟩
  have HK3 := Lib.hid (HK1.out.trans hk3 (fun _ _ q => q))
  have HB3 := Lib.hid (HB1.out.keep hk3 (fun q => q))
  clear hk3 HB1 HK1 c0 c1 c2 c3 c4 c5 c6 c7
  go_upto_region 3 with fail
  refine wp_region_held_drew (S := fun V => Kp NoB w3 V) (by kernel_rfl) (Kp.refl NoB w3).drew (fun hHeld => ?_)
  have k0 : Kp NoB w3 w3.drew := (Kp.refl NoB w3).drew
  generalize w3.drew = V0 at k0 hHeld ⊢
  refine tkS (i := 0) (v := (.slice none 0 0)) rfl (Or.inl ⟨by rfl, fun w' hq => by go_simp⟩) k0 ?_
  simp only [Act.put, skA, skB, skC]
  refine tkS (i := 1) (v := (.int .i64 0)) rfl (Or.inl ⟨by rfl, fun w' hq => by go_simp⟩) k0 ?_
  simp only [Act.put, skA, skB, skC]
  refine tkS (i := 2) (v := (.slice none 0 0)) rfl (Or.inl ⟨by rfl, fun w' hq => by go_simp⟩) k0 ?_
  simp only [Act.put, skA, skB, skC]
  refine tkS (i := 3) (v := (.int .i64 0)) rfl (Or.inl ⟨by rfl, fun w' hq => by go_simp⟩) k0 ?_
  simp only [Act.put, skA, skB, skC]
  refine tkS (i := 4) (v := (.bool false)) rfl (Or.inl ⟨by rfl, fun w' hq => by go_simp⟩) k0 ?_
  simp only [Act.put, skA, skB, skC]
  refine tkS (i := 5) (v := (.bool false)) rfl (Or.inl ⟨by rfl, fun w' hq => by go_simp⟩) k0 ?_
  simp only [Act.put, skA, skB, skC]
  refine tkS (i := 6) (v := (.pointer none)) rfl (Or.inl ⟨by rfl, fun w' hq => by go_simp⟩) k0 ?_
  simp only [Act.put, skA, skB, skC]
  refine tkS (i := 8) (v := (.pointer (some ⟨g1, 1, none⟩))) rfl (Or.inl ⟨by rfl, fun w' hq => by go_simp⟩) k0 ?_
  simp only [Act.put, skA, skB, skC]
  refine tkS (i := 9) (v := (.bool false)) rfl (Or.inl ⟨by rfl, fun w' hq => by obtain ⟨e0, e1, e2, e3, e4, e5, e6, e7⟩ := (HB3.out.keep hq (fun q => q)).c8; go_simp⟩) k0 ?_
  simp only [Act.put, skA, skB, skC]
  refine wpAnyH_ready (rs := [7]) (by kernel_rfl) (by simp) ?_
  refine AllReadyH.callR (fun y W' => y = .bool false ∧ Kp NoB w3 W') rfl (by rfl) 23 #[.pointer none] (by first | (go_simp; done) | (go_simp; rfl)) (fun _ _ q => q.2) ((down_nil V0).mono (by rintro e w19 ⟨rfl, rfl⟩; exact ⟨_, rfl, rfl, k0⟩)) ?_ AllReadyH.nil
  rintro y V1 ⟨rfl, k1⟩
  simp only [Act.put, skA, skB, skC]
  refine tkS (i := 10) (v := (.bool false)) rfl (Or.inl ⟨by rfl, fun w' hq => by go_simp⟩) k1 ?_
  simp only [Act.put, skA, skB, skC]
  refine tkS (i := 11) (v := (.bool false)) rfl (Or.inl ⟨by rfl, fun w' hq => by go_simp⟩) k1 ?_
  simp only [Act.put, skA, skB, skC]
  refine tkS (i := 12) (v := (.bool false)) rfl (Or.inl ⟨by rfl, fun w' hq => by go_simp⟩) k1 ?_
  simp only [Act.put, skA, skB, skC]
  refine tkS (i := 13) (v := (.pointer none)) rfl (Or.inl ⟨by rfl, fun w' hq => by go_simp⟩) k1 ?_
  simp only [Act.put, skA, skB, skC]
  refine tkS (i := 15) (v := (.pointer (some ⟨g1, 5, none⟩))) rfl (Or.inl ⟨by rfl, fun w' hq => by go_simp⟩) k1 ?_
  simp only [Act.put, skA, skB, skC]
  refine tkS (i := 16) (v := (.int .i64 0)) rfl (Or.inl ⟨by rfl, fun w' hq => by obtain ⟨e0, e1, e2, e3, e4, e5, e6, e7⟩ := (HB3.out.keep hq (fun q => q)).c8; go_simp⟩) k1 ?_
  simp only [Act.put, skA, skB, skC]
  refine wpAnyH_ready (rs := [14]) (by kernel_rfl) (by simp) ?_
  refine AllReadyH.callR (fun y W' => y = .int .i64 0 ∧ Kp NoB w3 W') rfl (by rfl) 30 #[.pointer none] (by first | (go_simp; done) | (go_simp; rfl)) (fun _ _ q => q.2) ((steps_nil V1).mono (by rintro e w19 ⟨rfl, rfl⟩; exact ⟨_, rfl, rfl, k1⟩)) ?_ AllReadyH.nil
  rintro y V2 ⟨rfl, k2⟩
  simp only [Act.put, skA, skB, skC]
  refine tkS (i := 17) (v := (.bool false)) rfl (Or.inl ⟨by rfl, fun w' hq => by go_simp⟩) k2 ?_
  simp only [Act.put, skA, skB, skC]
  refine tkS (i := 18) (v := (.bool false)) rfl (Or.inl ⟨by rfl, fun w' hq => by go_simp⟩) k2 ?_
  simp only [Act.put, skA, skB, skC]
  refine tkS (i := 19) (v := (.bool false)) rfl (Or.inl ⟨by rfl, fun w' hq => by go_simp⟩) k2 ?_
  simp only [Act.put, skA, skB, skC]
  refine tkS (i := 20) (v := (.pointer none)) rfl (Or.inl ⟨by rfl, fun w' hq => by go_simp⟩) k2 ?_
  simp only [Act.put, skA, skB, skC]
  refine tkS (i := 22) (v := (.pointer (some ⟨g1, 3, none⟩))) rfl (Or.inl ⟨by rfl, fun w' hq => by go_simp⟩) k2 ?_
  simp only [Act.put, skA, skB, skC]
  refine tkS (i := 23) (v := (.slice none 0 0)) rfl (Or.inl ⟨by rfl, fun w' hq => by obtain ⟨e0, e1, e2, e3, e4, e5, e6, e7⟩ := (HB3.out.keep hq (fun q => q)).c8; go_simp⟩) k2 ?_
  simp only [Act.put, skA, skB, skC]
  refine tkS (i := 24) (v := (.int .i64 0)) rfl (Or.inl ⟨by rfl, fun w' hq => by go_simp⟩) k2 ?_
  simp only [Act.put, skA, skB, skC]
  refine wpAnyH_ready (rs := [21]) (by kernel_rfl) (by simp) ?_
  refine AllReadyH.callR (fun y W' => y = .int .i64 0 ∧ Kp NoB w3 W') rfl (by rfl) 31 #[.pointer none] (by first | (go_simp; done) | (go_simp; rfl)) (fun _ _ q => q.2) ((pending_nil V2).mono (by rintro e w19 ⟨rfl, rfl⟩; exact ⟨_, rfl, rfl, k2⟩)) ?_ AllReadyH.nil
  rintro y V3 ⟨rfl, k3⟩
  simp only [Act.put, skA, skB, skC]
  refine tkS (i := 25) (v := (.bool false)) rfl (Or.inl ⟨by rfl, fun w' hq => by go_simp⟩) k3 ?_
  simp only [Act.put, skA, skB, skC]
  refine tkS (i := 26) (v := (.bool false)) rfl (Or.inl ⟨by rfl, fun w' hq => by go_simp⟩) k3 ?_
  simp only [Act.put, skA, skB, skC]
  refine tkS (i := 27) (v := (.bool false)) rfl (Or.inl ⟨by rfl, fun w' hq => by go_simp⟩) k3 ?_
  simp only [Act.put, skA, skB, skC]
  refine tkS (i := 28) (v := (.pointer none)) rfl (Or.inl ⟨by rfl, fun w' hq => by go_simp⟩) k3 ?_
  simp only [Act.put, skA, skB, skC]
  refine tkS (i := 30) (v := (.pointer (some ⟨g1, 7, none⟩))) rfl (Or.inl ⟨by rfl, fun w' hq => by go_simp⟩) k3 ?_
  simp only [Act.put, skA, skB, skC]
  refine tkS (i := 31) (v := (.int .i64 0)) rfl (Or.inl ⟨by rfl, fun w' hq => by obtain ⟨e0, e1, e2, e3, e4, e5, e6, e7⟩ := (HB3.out.keep hq (fun q => q)).c8; go_simp⟩) k3 ?_
  simp only [Act.put, skA, skB, skC]
  refine wpAnyH_ready (rs := [29]) (by kernel_rfl) (by simp) ?_
  refine AllReadyH.callR (fun y W' => y = .int .i64 0 ∧ Kp NoB w3 W') rfl (by rfl) 92 #[.pointer none] (by first | (go_simp; done) | (go_simp; rfl)) (fun _ _ q => q.2) ((starts_nil V3).mono (by rintro e w19 ⟨rfl, rfl⟩; exact ⟨_, rfl, rfl, k3⟩)) ?_ AllReadyH.nil
  rintro y V4 ⟨rfl, k4⟩
  simp only [Act.put, skA, skB, skC]
  refine tkS (i := 32) (v := (.bool false)) rfl (Or.inl ⟨by rfl, fun w' hq => by go_simp⟩) k4 ?_
  simp only [Act.put, skA, skB, skC]
  refine tkS (i := 33) (v := (.bool false)) rfl (Or.inl ⟨by rfl, fun w' hq => by go_simp⟩) k4 ?_
  simp only [Act.put, skA, skB, skC]
  refine wpAnyH_done (by kernel_rfl) ?_ _
  have HK4 := Lib.hid (HK3.out.trans k4 (fun _ _ q => q))
  have HB4 := Lib.hid (HB3.out.keep k4 (fun q => q))
  clear hHeld k0 k1 k2 k3 k4 HB3
  obtain ⟨c0, c1, c2, c3, c4, c5, c6, c7⟩ := HB4.out.c8
  go_wp2_with fail
  refine wp_loop_rounds 1 ?_
  rw [rounds_succ]
  go_wp2_with fail
  refine (show Calls _ _ #[zV, .string ⟨#[110, 111, 32, 115, 117, 99, 104, 32, 102, 105, 108, 101]⟩] _ _ from zseen V4 nmNo).mono ?_
  rintro e w5 ⟨rfl, hk5⟩
  have HK5 := Lib.hid (HK4.out.trans hk5 (fun _ _ q => q))
  have HB5 := Lib.hid (HB4.out.keep hk5 (fun q => q))
  clear hk5 c0 c1 c2 c3 c4 c5 c6 c7
  obtain ⟨c0, c1, c2, c3, c4, c5, c6, c7⟩ := HB5.out.c8
  go_wp2_with fail
  refine (len_nil w5 nmNo).mono ?_
  rintro e w6 ⟨rfl, rfl⟩
  go_wp2_with fail
  go_ret
  exact ⟨rfl, HK5.out⟩
set_option maxRecDepth 100000 in
set_option maxHeartbeats 1600000 in
theorem dp_10 (S : Nat → Prop) (w : World) (db : Nat) (p : Pl) (d : Rd) (x : DOp) (CA : Option Addr) (cn cc : Nat) (hq : Dq S w w db p) (hr : Rf w d p) (hO : DOk S w x CA cn cc) (hdk : ∀ b, S b → DkB w b) (hsm : p.sm 100000) (hdo : x.do_ = 10) :
    Calls Try.prog 34 #[ptrV db, rdV d p, .agg (dopV x CA cn cc)] w (DpPost S w db p) := by
  have hB := DpB.start hq hr hO hdk
  have HSM := Lib.hid hsm
  have HLT := Lib.hid hq.lt
  clear hq hr hO hdk hsm
  unfold rdC dopV rdZ at hB
  unfold rdV dopV
  rw [hdo]
  rw [hdo] at hB
  go_enter Try.func34, Try.ntmps34
  go_upto_region 1 with fail
  generalize (((w.alloc (.cells #[.bool true, .bool p.down, .slice d.fA d.fn d.fc, .slice d.pA d.pn d.pc, .int .i64 p.room, .int .i64 p.steps, .int .i64 p.crash, .int .i64 p.starts] 56)).alloc (.cells #[.int .i64 10, .int .i64 x.a, .int .i64 x.at_, .int .i64 x.n, .string x.name, .string x.data, .slice CA cn cc] 72)).alloc (.cells #[.bool false, .bool false, .slice none 0 0, .slice none 0 0, .int .i64 0, .int .i64 0, .int .i64 0, .int .i64 0] 56)) = w3 at hB ⊢
  generalize hs0 : w.heap.size = s0 at hB ⊢
  have HS0 := Lib.hid hs0
  have HB := Lib.hid hB
  clear hs0 hB
  have hl2 := HB.out.b2.lt
  have hl1 := HB.out.b1.lt
  have hl0 := HB.out.b0.lt
  obtain ⟨o0, o1, o2, o3, o4, o5, o6⟩ := dopC7 HB.out.b1
  rw [hdo] at o0
  obtain ⟨c0, c1, c2, c3, c4, c5, c6, c7⟩ := HB.out.b0.rdc
  obtain ⟨y0, y1, y2, y3, y4, y5, y6, y7⟩ := HB.out.b2.c8
  obtain ⟨z0, z1, z2, z3, z4, z5, z6, z7⟩ := HB.out.b2.z8
  obtain ⟨x0, x1, x2, x3, x4, x5, x6, x7⟩ := HB.out.b0.z8
  have HB0 := Lib.hid HB.out.b0
  have HB2 := Lib.hid HB.out.b2
  have HR := Lib.hid HB.out.r
  have HQ := Lib.hid HB.out.q
  unfold ptrV
  go_upto_region 35 with fail
  refine wp_region_held_drew (S := fun V => Kp (OnB (s0 + 1 + 1)) w3 V) (by kernel_rfl) (Kp.refl _ w3).drew (fun hHeld => ?_)
  have k0 : Kp NoB w3 w3.drew := (Kp.refl NoB w3).drew
  have m0 : Kp (OnB (s0 + 1 + 1)) w3 w3.drew := (Kp.refl _ w3).drew
  have hne0 : s0 ≠ s0 + 1 + 1 := by omega
  generalize w3.drew = V0 at k0 m0 hHeld ⊢
  refine tkS (i := 0) (v := (rdV d p)) rfl (Or.inl ⟨by rfl, fun w' hq => by obtain ⟨e0, e1, e2, e3, e4, e5, e6, e7⟩ := (HB0.out.keep hq (fun q => hne0 q)).rdc; unfold rdV; go_simp⟩) m0 ?_
  simp only [Act.put, skA, skB, skC]
  refine tkS (i := 1) (v := (.pointer (some ⟨db, 0, none⟩))) rfl (Or.inl ⟨by rfl, fun w' hq => by go_simp⟩) m0 ?_
  simp only [Act.put, skA, skB, skC]
  refine tkS (i := 2) (v := (rdV d p)) rfl (Or.inl ⟨by rfl, fun w' hq => by obtain ⟨e0, e1, e2, e3, e4, e5, e6, e7⟩ := (HB0.out.keep hq (fun q => hne0 q)).rdc; unfold rdV; go_simp⟩) m0 ?_
  simp only [Act.put, skA, skB, skC]
  refine wpAnyH_ready (rs := [3]) (by kernel_rfl) (by simp) ?_
  refine AllReadyH.callR (fun y W' => y = .bool true ∧ Kp NoB w3 W') rfl (by rfl) 35 #[ptrV db, rdV d p] (by first | (go_simp; done) | (go_simp; rfl)) (fun _ _ q => (q.2.mono (fun _ _ z => z.elim))) ((dlook_ok S V0 db p d (HQ.out.base1 k0) (HR.out.keep k0) HSM.out).mono (by rintro e w19 ⟨rfl, hk⟩; exact ⟨_, rfl, rfl, k0.trans hk (fun _ _ z => z)⟩)) ?_ AllReadyH.nil
  rintro y V1 ⟨rfl, k1⟩
  have m1 : Kp (OnB (s0 + 1 + 1)) w3 V1 := k1.mono (fun _ _ z => z.elim)
  simp only [Act.put, skA, skB, skC]
  refine wpAnyH_ready (rs := [4]) (by kernel_rfl) (by simp) ?_
  have hb3 := HB2.out.keep k1 (fun q => q)
  have hbe := hb3.whole (rdC d p) rfl
  have hkc : Kp (OnB (s0 + 1 + 1)) V1 (V1.setCells (s0 + 1 + 1) 0 (rdC d p).toList) := Kp.setCells (S := OnB (s0 + 1 + 1)) (.inr rfl) _ _ _ (Kp.refl _ V1)
  refine AllReadyH.storeL rfl (by rfl) (s0 + 1 + 1) 0 (rdC d p) rfl rfl (hb3.thereAll 8 rfl) (by exact infoRd) (rdC_onesD d p) (m1.trans hkc (fun _ _ q => q)) ?_ AllReadyH.nil
  generalize V1.setCells (s0 + 1 + 1) 0 (rdC d p).toList = V2 at hbe hkc ⊢
  have m2 := m1.trans hkc (fun _ _ q => q)
  refine tkS (i := 5) (v := (.bool true)) rfl (Or.inl ⟨by rfl, fun w' hq => by go_simp⟩) m2 ?_
  simp only [Act.put, skA, skB, skC]
  refine wpAnyH_done (by kernel_rfl) ?_ _
  have HE0 := Lib.hid hbe
  have HE1 : Hid (Rf V2 d p) := Lib.hid ((HR.out.keep k1).keepB hkc hb3 rdZ_str)
  have HE2 : Hid (Dq S w V2 db p) := Lib.hid (HB.out.fin HS0.out (HQ.out.keep k1) hkc)
  clear hHeld k0 k1 m0 m1 m2 hkc hb3 hbe
  go_wp2_with fail
  refine bodyPost_ret (ret_cell_tmp rfl _ _ _ _ _ _ rfl HE0.out Try.underlying56 rfl (by exact infoRd) _ rfl) rfl ⟨d, rfl, HE1.out, HE2.out⟩
set_option maxRecDepth 100000 in
set_option maxHeartbeats 1600000 in
theorem dz_10 (w : World) (x : DOp) (CA : Option Addr) (cn cc : Nat) (hdo : x.do_ = 10) :
    Calls Try.prog 34 #[.pointer none, zV, .agg (dopV x CA cn cc)] w fun e w' => e = .returned (.tuple #[zV, .bool true]) ∧ Kp NoB w w' := by
  unfold zV rdZ dopV
  rw [hdo]
  go_enter Try.func34, Try.ntmps34
  go_upto_region 1 with fail
  have hb0 : Blk (((w.alloc (.cells rdZ 56)).alloc (.cells (dopV x CA cn cc) 72)).alloc (.cells rdZ 56)) w.heap.size 56 rdZ := ((Blk.new _ _ _).alloc _).alloc _
  have hb1 : Blk (((w.alloc (.cells rdZ 56)).alloc (.cells (dopV x CA cn cc) 72)).alloc (.cells rdZ 56)) (w.heap.size + 1) 72 (dopV x CA cn cc) := (Blk.top (by simp)).alloc _
  have hb2 : Blk (((w.alloc (.cells rdZ 56)).alloc (.cells (dopV x CA cn cc) 72)).alloc (.cells rdZ 56)) (w.heap.size + 1 + 1) 56 rdZ := Blk.top (by simp)
  have hk : Kp NoB w (((w.alloc (.cells rdZ 56)).alloc (.cells (dopV x CA cn cc) 72)).alloc (.cells rdZ 56)) := (((Kp.refl NoB w).alloc _).alloc _).alloc _
  unfold rdZ dopV at hb0 hb1 hb2 hk
  rw [hdo] at hb0 hb1 hb2 hk
  generalize (((w.alloc (.cells #[.bool false, .bool false, .slice none 0 0, .slice none 0 0, .int .i64 0, .int .i64 0, .int .i64 0, .int .i64 0] 56)).alloc (.cells #[.int .i64 10, .int .i64 x.a, .int .i64 x.at_, .int .i64 x.n, .string x.name, .string x.data, .slice CA cn cc] 72)).alloc (.cells #[.bool false, .bool false, .slice none 0 0, .slice none 0 0, .int .i64 0, .int .i64 0, .int .i64 0, .int .i64 0] 56)) = w3 at hb0 hb1 hb2 hk ⊢
  generalize hs0 : w.heap.size = s0 at hb0 hb1 hb2 ⊢
  have HS0 := Lib.hid hs0
  have HB0 := Lib.hid (show Blk w3 s0 56 rdZ from hb0)
  have HB1 : Hid (Blk w3 (s0 + 1) 72 (dopV x CA cn cc)) := Lib.hid (by unfold dopV; rw [hdo]; exact hb1)
  have HB2 := Lib.hid (show Blk w3 (s0 + 1 + 1) 56 rdZ from hb2)
  have HK := Lib.hid hk
  clear hb0 hb1 hb2 hk hs0
  obtain ⟨o0, o1, o2, o3, o4, o5, o6⟩ := dopC7 HB1.out
  rw [hdo] at o0
  obtain ⟨c0, c1, c2, c3, c4, c5, c6, c7⟩ := HB0.out.c8
  obtain ⟨x0, x1, x2, x3, x4, x5, x6, x7⟩ := HB0.out.z8
  obtain ⟨y0, y1, y2, y3, y4, y5, y6, y7⟩ := HB2.out.c8
  obtain ⟨z0, z1, z2, z3, z4, z5, z6, z7⟩ := HB2.out.z8
  have hl0 := HB0.out.lt
  have hl1 := HB1.out.lt
  have hl2 := HB2.out.lt
  go_upto_region 35 with fail
  refine wp_region_held_drew (S := fun V => Kp (OnB (s0 + 1 + 1)) w3 V) (by kernel_rfl) (Kp.refl _ w3).drew (fun hHeld => ?_)
  have k0 : Kp NoB w3 w3.drew := (Kp.refl NoB w3).drew
  have m0 : Kp (OnB (s0 + 1 + 1)) w3 w3.drew := (Kp.refl _ w3).drew
  have hne0 : s0 ≠ s0 + 1 + 1 := by omega
  generalize w3.drew = V0 at k0 m0 hHeld ⊢
  refine tkS (i := 0) (v := zV) rfl (Or.inl ⟨by rfl, fun w' hq => by obtain ⟨e0, e1, e2, e3, e4, e5, e6, e7⟩ := (HB0.out.keep hq (fun q => hne0 q)).c8; unfold zV rdZ; go_simp⟩) m0 ?_
  simp only [Act.put, skA, skB, skC]
  refine tkS (i := 1) (v := (.pointer none)) rfl (Or.inl ⟨by rfl, fun w' hq => by go_simp⟩) m0 ?_
  simp only [Act.put, skA, skB, skC]
  refine tkS (i := 2) (v := zV) rfl (Or.inl ⟨by rfl, fun w' hq => by obtain ⟨e0, e1, e2, e3, e4, e5, e6, e7⟩ := (HB0.out.keep hq (fun q => hne0 q)).c8; unfold zV rdZ; go_simp⟩) m0 ?_
  simp only [Act.put, skA, skB, skC]
  refine wpAnyH_ready (rs := [3]) (by kernel_rfl) (by simp) ?_
  refine AllReadyH.callR (fun y W' => y = .bool true ∧ Kp NoB w3 W') rfl (by rfl) 35 #[.pointer none, zV] (by first | (go_simp; done) | (go_simp; rfl)) (fun _ _ q => (q.2.mono (fun _ _ z => z.elim))) ((zlook V0).mono (by rintro e w19 ⟨rfl, hk⟩; exact ⟨_, rfl, rfl, k0.trans hk (fun _ _ z => z)⟩)) ?_ AllReadyH.nil
  rintro y V1 ⟨rfl, k1⟩
  have m1 : Kp (OnB (s0 + 1 + 1)) w3 V1 := k1.mono (fun _ _ z => z.elim)
  simp only [Act.put, skA, skB, skC]
  refine wpAnyH_ready (rs := [4]) (by kernel_rfl) (by simp) ?_
  have hb3 := HB2.out.keep k1 (fun q => q)
  have hbe := hb3.whole rdZ rfl
  have hkc : Kp (OnB (s0 + 1 + 1)) V1 (V1.setCells (s0 + 1 + 1) 0 rdZ.toList) := Kp.setCells (S := OnB (s0 + 1 + 1)) (.inr rfl) _ _ _ (Kp.refl _ V1)
  refine AllReadyH.storeL rfl (by rfl) (s0 + 1 + 1) 0 rdZ rfl rfl (hb3.thereAll 8 rfl) (by exact infoRd) (by unfold rdZ; simp [Value.oneCell']) (m1.trans hkc (fun _ _ q => q)) ?_ AllReadyH.nil
  generalize V1.setCells (s0 + 1 + 1) 0 rdZ.toList = V2 at hbe hkc ⊢
  have m2 := m1.trans hkc (fun _ _ q => q)
  refine tkS (i := 5) (v := (.bool true)) rfl (Or.inl ⟨by rfl, fun w' hq => by go_simp⟩) m2 ?_
  simp only [Act.put, skA, skB, skC]
  refine wpAnyH_done (by kernel_rfl) ?_ _
  have HE0 := Lib.hid hbe
  have HE2 : Hid (Kp NoB w V2) := Lib.hid (HK.out.trans m2 (fun i hi q => by have h1 := HS0.out; have q' : i = s0 + 1 + 1 := q; omega))
  clear hHeld k0 k1 m0 m1 m2 hkc hb3 hbe
  go_wp2_with fail
  refine bodyPost_ret (ret_cell_tmp rfl _ _ _ _ _ _ rfl HE0.out Try.underlying56 rfl (by exact infoRd) _ rfl) rfl ⟨rfl, HE2.out⟩
end Go.Proofs.Ytegcbdfilkecpaa
/- The stand-in disk: Copy; condition: fewer than 2^40 files and changes. -/
namespace Go.Proofs.Ytegcbdfilkecpaa
open Go.RowKit

theorem own_exact {P : Program} {k : TypeId} {R : Value → Option (DataW Value × List MemPlace)} {w : World} {b n : Nat} {D : DataW Value} (h : w.ownsMap P k R b n D) {m : Nat} (hm : Maps.size D ≤ m) : w.ownsMap P k R b m D := by
  obtain ⟨es, clock, hb, F, hs, hD⟩ := h
  refine ⟨es, clock, hb, F, ?_, hD⟩
  have : Maps.size D = es.size := by rw [hD]; simp [Maps.size, length_sorted]
  omega
theorem mapEqN (b : Nat) (w : World) : (binOp .eql 118 (.map (some b)) (.map none)).run Try.prog w = .ok (.bool false) w := by kernel_rfl
theorem run_mclone (w : World) {r : Nat} {es : Array MapEntry} {clock : Nat} (t : TypeId) (hb : w.heap[r]? = some (.map es clock)) :
    (Extern.MapsClone.clone #[.iface t (.map (some r))]).run Try.prog w = .ok (.iface t (.map (some w.heap.size))) (w.alloc (.map es clock)) := by
  have e : Extern.MapsClone.clone #[.iface t (.map (some r))] = (getObj r >>= fun o => match o with
      | .map entries clock => (newObj (.map entries clock) >>= fun n => pure (.iface t (.map (some n))))
      | _ => stuck "maps.clone: a map expected") := rfl
  rw [e]
  simp [MapKept.run_getObj_map hb, Result.andThen, go_sem]
theorem run_massert (w : World) (t xT : TypeId) (v : Value) (k e : TypeId) (h : Try.prog.underlying t = some (.map k e)) : (Instr.typeAssert (.iface t v) xT t false).run Try.prog w = .ok v w := by
  simp [Instr.typeAssert, run_underlying h, go_sem, Result.andThen]
set_option maxRecDepth 100000 in
set_option maxHeartbeats 800000 in
theorem mclone_ok (w : World) (b : Nat) (es : Array MapEntry) (clock : Nat) (hb : w.heap[b]? = some (.map es clock)) :
    Calls Try.prog 83 #[.map (some b)] w fun e w' => e = .returned (.map (some w.heap.size)) ∧ w' = w.alloc (.map es clock) := by
  have hq := mapEqN b
  have HB := Lib.hid hb
  clear hb
  go_enter Try.func83, Try.ntmps83
  go_wp2
  rw [run_callFunc_extern Try.func140 (by kernel_rfl) (by kernel_rfl) (by kernel_rfl) (e := Extern.MapsClone.clone) (by kernel_rfl), run_mclone w 118 HB.out]
  simp only [Result.andThen]
  rw [Oper.upon_value]
  go_wp2
  rw [run_massert _ 118 _ _ _ _ Try.underlying118]
  simp only [Result.andThen]
  rw [Oper.upon_value]
  go_wp2
  go_ret
  exact ⟨rfl, rfl⟩
theorem infoDk : (Try.prog.info? 121).map (·.size) = some 7 := by kernel_rfl
def zeroDk : Array Value := #[.map none, .slice none 0 0, .int .i64 0, .int .i64 0, .int .i64 0, .bool false, .int .i64 0]
theorem zeroVDk (w : World) : (zeroValue 121).run Try.prog w = .ok (.agg zeroDk) w := by kernel_rfl
theorem loadDk (w : World) (ev : Operand → Value) (ds : Option Tmp) (x : Operand) (ty : TypeId) (ps : String) (af : Array Edge) (g : Option (Nat × Bool)) (h : thereP w (ev x) 7) :
    (execOp ev ⟨ds, .load 121 x, ty, ps, af, g⟩).run Try.prog w = .ok (.value (.agg (readP w (ev x) 7))) w := execLoad_P Try.underlying121 rfl infoDk w ev ds x ty ps af g h
theorem storeDk (w : World) (ev : Operand → Value) (ds : Option Tmp) (x y : Operand) (ty : TypeId) (ps : String) (af : Array Edge) (g : Option (Nat × Bool)) (hv : aggOK (ev y) 7) (h : thereP w (ev x) 7) :
    (execOp ev ⟨ds, .store 121 x y, ty, ps, af, g⟩).run Try.prog w = .ok .skip (setP w (ev x) (ev y)) := execStore_P infoDk w ev ds x y ty ps af g hv h
theorem allocDk (w : World) (ev : Operand → Value) (ds : Option Tmp) (ty : TypeId) (ps : String) (af : Array Edge) (g : Option (Nat × Bool)) :
    (execOp ev ⟨ds, .alloc 121, ty, ps, af, g⟩).run Try.prog w = .ok (.value (.pointer (some ⟨w.heap.size, 0, none⟩))) (w.alloc (.cells zeroDk 121)) := by
  simp only [execOp, Instr.alloc, Sem.run_bind, zeroVDk, Result.andThen_ok]
  rfl
theorem infoFe : (Try.prog.info? 143).map (·.size) = some 2 := by kernel_rfl
def zeroFe : Array Value := #[.slice none 0 0, .slice none 0 0]
theorem zeroVFe (w : World) : (zeroValue 143).run Try.prog w = .ok (.agg zeroFe) w := by kernel_rfl
theorem loadFe (w : World) (ev : Operand → Value) (ds : Option Tmp) (x : Operand) (ty : TypeId) (ps : String) (af : Array Edge) (g : Option (Nat × Bool)) (h : thereP w (ev x) 2) :
    (execOp ev ⟨ds, .load 143 x, ty, ps, af, g⟩).run Try.prog w = .ok (.value (.agg (readP w (ev x) 2))) w := execLoad_P Try.underlying143 rfl infoFe w ev ds x ty ps af g h
theorem storeFe (w : World) (ev : Operand → Value) (ds : Option Tmp) (x y : Operand) (ty : TypeId) (ps : String) (af : Array Edge) (g : Option (Nat × Bool)) (hv : aggOK (ev y) 2) (h : thereP w (ev x) 2) :
    (execOp ev ⟨ds, .store 143 x y, ty, ps, af, g⟩).run Try.prog w = .ok .skip (setP w (ev x) (ev y)) := execStore_P infoFe w ev ds x y ty ps af g hv h
theorem allocFe (w : World) (ev : Operand → Value) (ds : Option Tmp) (ty : TypeId) (ps : String) (af : Array Edge) (g : Option (Nat × Bool)) :
    (execOp ev ⟨ds, .alloc 143, ty, ps, af, g⟩).run Try.prog w = .ok (.value (.pointer (some ⟨w.heap.size, 0, none⟩))) (w.alloc (.cells zeroFe 143)) := by
  simp only [execOp, Instr.alloc, Sem.run_bind, zeroVFe, Result.andThen_ok]
  rfl
/-- the files, those that were met at their new blocks -/
def cpF (left : List UInt8 → Bool) (nb : List UInt8 → Nat) (fs : List Fe) : List Fe := fs.map fun e => if left (kOf e.nm) then e else { e with fb := nb (kOf e.nm) }
theorem cpF_find (left : List UInt8 → Bool) (nb : List UInt8 → Nat) (fs : List Fe) (k : List UInt8) : findF (cpF left nb fs) k = (findF fs k).map fun e => if left (kOf e.nm) then e else { e with fb := nb (kOf e.nm) } := by
  induction fs with
  | nil => rfl
  | cons y r ih =>
    unfold findF cpF at *
    rw [List.map_cons, List.find?_cons, List.find?_cons]
    have hnm : kOf (if left (kOf y.nm) then y else { y with fb := nb (kOf y.nm) }).nm = kOf y.nm := by split <;> rfl
    rw [hnm]
    by_cases h : kOf y.nm = k
    · simp [h]
    · have : (kOf y.nm == k) = false := by simpa using h
      simp only [this]
      exact ih
end Go.Proofs.Ytegcbdfilkecpaa
