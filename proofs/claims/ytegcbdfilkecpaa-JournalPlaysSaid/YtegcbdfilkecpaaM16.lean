/- Texts of this proof, one behind the other: lemmas and contracts; each says its own conditions. -/
import Derived.Test.YtegcbdfilkecpaaM15
/- The law of the journal's play: a step that starts the disk again, or writes into it; condition: texts of at most 2000 bytes. -/
namespace Go.Proofs.Ytegcbdfilkecpaa
open Go.RowKit

set_option maxRecDepth 100000 in
set_option maxHeartbeats 1600000 in
theorem done_5 (S : Nat → Prop) (w : World) (db : Nat) (p : Pl) (d : Rd) (x : JOp) (PA : Option Addr) (pn pc : Nat) (CA : Option Addr) (cn cc : Nat) (hq : Dq S w w db p) (hr : Rf w d p) (hO : OpOk S w x PA pn pc CA cn) (hdk : ∀ b, S b → DkB w b) (hsm : p.sm 600000000000) (hdo : x.do_ = 5) :
    Calls Try.prog 27 #[ptrV db, rdV d p, .agg (opV x PA pn pc CA cn cc)] w (DnPost S w db (p.crashNow.restart x.chs)) := by
  have hB := DnB.start (pc := pc) (cc := cc) hq hr hO hdk
  have HSM := Lib.hid hsm
  have HLT := Lib.hid hq.lt
  clear hq hr hO hdk hsm
  unfold rdC opV rdZ at hB
  unfold rdV opV
  rw [hdo]
  rw [hdo] at hB
  go_enter Try.func27, Try.ntmps27
  go_upto_region 1 with fail
  generalize (((w.alloc (.cells #[.bool true, .bool p.down, .slice d.fA d.fn d.fc, .slice d.pA d.pn d.pc, .int .i64 p.room, .int .i64 p.steps, .int .i64 p.crash, .int .i64 p.starts] 56)).alloc (.cells #[.int .i64 5, .int .i64 x.n, .int .i64 x.at_, .int .i64 x.count, .slice PA pn pc, .slice CA cn cc, .string x.data] 60)).alloc (.cells #[.bool false, .bool false, .slice none 0 0, .slice none 0 0, .int .i64 0, .int .i64 0, .int .i64 0, .int .i64 0] 56)) = w3 at hB ⊢
  generalize hs0 : w.heap.size = s0 at hB ⊢
  have HS0 := Lib.hid hs0
  have HB := Lib.hid hB
  clear hs0 hB
  have hl2 := HB.out.b2.lt
  have hl1 := HB.out.b1.lt
  have hl0 := HB.out.b0.lt
  obtain ⟨o0, o1, o2, o3, o4, o5, o6⟩ := opC7 HB.out.b1
  rw [hdo] at o0
  obtain ⟨c0, c1, c2, c3, c4, c5, c6, c7⟩ := HB.out.b0.rdc
  obtain ⟨y0, y1, y2, y3, y4, y5, y6, y7⟩ := HB.out.b2.c8
  obtain ⟨z0, z1, z2, z3, z4, z5, z6, z7⟩ := HB.out.b2.z8
  obtain ⟨x0, x1, x2, x3, x4, x5, x6, x7⟩ := HB.out.b0.z8
  go_wp2_with fail
  refine (crash_q HB.out.q).mono ?_
  rintro e w4 ⟨rfl, hq⟩
  have HQ := Lib.hid hq
  obtain ⟨_, b0, b1, b2, r, o⟩ := HB.out.to hq.kp
  have HB0 := Lib.hid b0
  have HB1 := Lib.hid b1
  have HB2 := Lib.hid b2
  have HR := Lib.hid r
  have HO := Lib.hid o
  clear hq b0 b1 b2 r o c0 c1 c2 c3 c4 c5 c6 c7 y0 y1 y2 y3 y4 y5 y6 y7 z0 z1 z2 z3 z4 z5 z6 z7 x0 x1 x2 x3 x4 x5 x6 x7 o0 o1 o2 o3 o4 o5 o6 hl0 hl1 hl2
  have hl2 := HB2.out.lt
  have hl1 := HB1.out.lt
  have hl0 := HB0.out.lt
  obtain ⟨o0, o1, o2, o3, o4, o5, o6⟩ := opC7 HB1.out
  obtain ⟨c0, c1, c2, c3, c4, c5, c6, c7⟩ := HB0.out.rdc
  obtain ⟨y0, y1, y2, y3, y4, y5, y6, y7⟩ := HB2.out.c8
  obtain ⟨z0, z1, z2, z3, z4, z5, z6, z7⟩ := HB2.out.z8
  obtain ⟨x0, x1, x2, x3, x4, x5, x6, x7⟩ := HB0.out.z8
  go_upto_region 34 with fail
  obtain ⟨S', hB5⟩ := HB.out.crash HS0.out HQ.out
  generalize w4.setCell ⟨s0, 1, none⟩ (.bool true) = w5 at hB5 ⊢
  have HSM5 : Hid (p.crashNow.sm 600000000000) := Lib.hid HSM.out
  clear HB HQ HB0 HB1 HB2 HR HO HSM c0 c1 c2 c3 c4 c5 c6 c7 y0 y1 y2 y3 y4 y5 y6 y7 z0 z1 z2 z3 z4 z5 z6 z7 x0 x1 x2 x3 x4 x5 x6 x7 o0 o1 o2 o3 o4 o5 o6 hl0 hl1 hl2
  have HB := Lib.hid hB5
  have HB0 := Lib.hid hB5.b0
  have HB1 := Lib.hid hB5.b1
  have HB2 := Lib.hid hB5.b2
  clear hB5
  have hl2 := HB2.out.lt
  have hl1 := HB1.out.lt
  have hl0 := HB0.out.lt
  obtain ⟨o0, o1, o2, o3, o4, o5, o6⟩ := opC7 HB1.out
  obtain ⟨c0, c1, c2, c3, c4, c5, c6, c7⟩ := HB0.out.rdc
  obtain ⟨y0, y1, y2, y3, y4, y5, y6, y7⟩ := HB2.out.c8
  obtain ⟨z0, z1, z2, z3, z4, z5, z6, z7⟩ := HB2.out.z8
  obtain ⟨x0, x1, x2, x3, x4, x5, x6, x7⟩ := HB0.out.z8
  go_wp2_with fail
  refine (restart_q HB.out.q CA cn cc x.chs HB.out.o.ch (fun g o e hn => ⟨Nums.ltG HB.out.o.ch e hn, HB.out.o.ca g o e hn⟩) HB.out.o.chr HB.out.o.cn63 (sm_mono HSM5.out (by omega))).mono ?_
  clear HB0 HB1 HB2
  rintro e w6 ⟨rfl, hq⟩
  have HQ := Lib.hid hq
  obtain ⟨_, b0, b1, b2, r, o⟩ := HB.out.to hq.kp
  have HB0 := Lib.hid b0
  have HB1 := Lib.hid b1
  have HB2 := Lib.hid b2
  have HR := Lib.hid r
  have HO := Lib.hid o
  clear hq b0 b1 b2 r o c0 c1 c2 c3 c4 c5 c6 c7 y0 y1 y2 y3 y4 y5 y6 y7 z0 z1 z2 z3 z4 z5 z6 z7 x0 x1 x2 x3 x4 x5 x6 x7 o0 o1 o2 o3 o4 o5 o6 hl0 hl1 hl2
  have hl2 := HB2.out.lt
  have hl1 := HB1.out.lt
  have hl0 := HB0.out.lt
  obtain ⟨o0, o1, o2, o3, o4, o5, o6⟩ := opC7 HB1.out
  obtain ⟨c0, c1, c2, c3, c4, c5, c6, c7⟩ := HB0.out.rdc
  obtain ⟨y0, y1, y2, y3, y4, y5, y6, y7⟩ := HB2.out.c8
  obtain ⟨z0, z1, z2, z3, z4, z5, z6, z7⟩ := HB2.out.z8
  obtain ⟨x0, x1, x2, x3, x4, x5, x6, x7⟩ := HB0.out.z8
  go_wp2_with fail
  refine (show Calls _ _ #[rdV d p.crashNow, .slice CA cn cc] _ _ from restart_okR w6 d p.crashNow CA cn cc x.chs HR.out HO.out.ch HO.out.chr HO.out.cn63 (by have := HSM5.out; unfold Pl.sm at this; omega) (by have := HSM5.out; unfold Pl.sm at this; omega)).mono ?_
  rintro e w7 ⟨d5, rfl, h5, hk5⟩
  obtain ⟨q, hqE⟩ : ∃ q, p.crashNow.restart x.chs = q := ⟨_, rfl⟩
  obtain ⟨E, hE⟩ : ∃ E, p.crashNow.restartE = E := ⟨_, rfl⟩
  have HRUN := Lib.hid hqE
  rw [hqE] at h5 HQ ⊢
  rw [hE]
  clear hqE hE
  have HQ' := Lib.hid (HQ.out.keep hk5)
  have HB0' := Lib.hid (HB0.out.keep hk5 (fun q => q))
  have HB1' := Lib.hid (HB1.out.keep hk5 (fun q => q))
  have HB2' := Lib.hid (HB2.out.keep hk5 (fun q => q))
  have HR' := Lib.hid h5
  have HO' := Lib.hid (HO.out.keep (hk5.mono (fun _ _ q => q.elim)))
  clear hk5 h5 HQ HB0 HB1 HB2 HR HO c0 c1 c2 c3 c4 c5 c6 c7 y0 y1 y2 y3 y4 y5 y6 y7 z0 z1 z2 z3 z4 z5 z6 z7 x0 x1 x2 x3 x4 x5 x6 x7 o0 o1 o2 o3 o4 o5 o6 hl0 hl1 hl2
  have HQ := HQ'
  have HB0 := HB0'
  have HB1 := HB1'
  have HB2 := HB2'
  have HR := HR'
  have HO := HO'
  clear HQ' HB0' HB1' HB2' HR' HO'
  have hl2 := HB2.out.lt
  have hl1 := HB1.out.lt
  have hl0 := HB0.out.lt
  obtain ⟨o0, o1, o2, o3, o4, o5, o6⟩ := opC7 HB1.out
  obtain ⟨c0, c1, c2, c3, c4, c5, c6, c7⟩ := HB0.out.rdc
  obtain ⟨y0, y1, y2, y3, y4, y5, y6, y7⟩ := HB2.out.c8
  obtain ⟨z0, z1, z2, z3, z4, z5, z6, z7⟩ := HB2.out.z8
  obtain ⟨x0, x1, x2, x3, x4, x5, x6, x7⟩ := HB0.out.z8
  unfold rdV
  go_upto_region 36 with fail
  have hg2 : Blk (w7.alloc (.cells (rdC d5 q) 56)) w7.heap.size 56 (rdC d5 q) := Blk.new _ _ _
  have hk5 : Kp NoB w7 (w7.alloc (.cells (rdC d5 q) 56)) := (Kp.refl NoB w7).alloc _
  have h5 : Rf (w7.alloc (.cells (rdC d5 q) 56)) d5 (q) := HR.out.keep hk5
  unfold rdC at hg2 hk5 h5
  generalize hg : w7.heap.size = g at hg2 ⊢
  have hgl : s0 + 1 + 1 < g := by have := HB2.out.lt; omega
  generalize (w7.alloc (.cells #[.bool true, .bool (q).down, .slice d5.fA d5.fn d5.fc, .slice d5.pA d5.pn d5.pc, .int .i64 (q).room, .int .i64 (q).steps, .int .i64 (q).crash, .int .i64 (q).starts] 56)) = w8 at hg2 hk5 h5 ⊢
  have HG2 := Lib.hid (show Blk w8 g 56 (rdC d5 q) from hg2)
  have HGL := Lib.hid hgl
  have HKB := Lib.hid hk5
  clear hg2 hg hgl
  have HQ' := Lib.hid (HQ.out.keep hk5)
  have HB0' := Lib.hid (HB0.out.keep hk5 (fun q => q))
  have HB1' := Lib.hid (HB1.out.keep hk5 (fun q => q))
  have HB2' := Lib.hid (HB2.out.keep hk5 (fun q => q))
  have HR' := Lib.hid h5
  have HO' := Lib.hid (HO.out.keep (hk5.mono (fun _ _ q => q.elim)))
  clear hk5 h5 HQ HB0 HB1 HB2 HR HO c0 c1 c2 c3 c4 c5 c6 c7 y0 y1 y2 y3 y4 y5 y6 y7 z0 z1 z2 z3 z4 z5 z6 z7 x0 x1 x2 x3 x4 x5 x6 x7 o0 o1 o2 o3 o4 o5 o6 hl0 hl1 hl2
  have HQ := HQ'
  have HB0 := HB0'
  have HB1 := HB1'
  have HB2 := HB2'
  have HR := HR'
  have HO := HO'
  clear HQ' HB0' HB1' HB2' HR' HO'
  have hl2 := HB2.out.lt
  have hl1 := HB1.out.lt
  have hl0 := HB0.out.lt
  obtain ⟨o0, o1, o2, o3, o4, o5, o6⟩ := opC7 HB1.out
  obtain ⟨c0, c1, c2, c3, c4, c5, c6, c7⟩ := HB0.out.rdc
  obtain ⟨y0, y1, y2, y3, y4, y5, y6, y7⟩ := HB2.out.c8
  obtain ⟨z0, z1, z2, z3, z4, z5, z6, z7⟩ := HB2.out.z8
  obtain ⟨x0, x1, x2, x3, x4, x5, x6, x7⟩ := HB0.out.z8
  obtain ⟨g0, g1, g2, g3, g4, g5, g6, g7⟩ := HG2.out.rdc
  have hgs := HG2.out.lt
  have hgg : s0 < g ∧ s0 + 1 < g ∧ s0 + 1 + 1 < g := by have := HGL.out; omega
  go_wp2_with fail
  refine bodyPost_ret (ret_cell_tmp rfl _ _ _ _ _ _ rfl (blk8 HB2.out rfl) Try.underlying56 rfl (by exact infoRd) _ rfl) rfl ⟨d5, by rw [HRUN.out]; rfl, ?_, ?_⟩
  · rw [HRUN.out]
    exact (HR.out).keepB (kp8 (Kp.refl _ w8) (.inr rfl)) HB2.out rdZ_str
  · rw [HRUN.out]
    exact HB.out.fin HS0.out (HQ.out) (kp8 (Kp.refl _ w8) (.inr rfl))
set_option maxRecDepth 100000 in
set_option maxHeartbeats 1600000 in
theorem done_6 (S : Nat → Prop) (w : World) (db : Nat) (p : Pl) (d : Rd) (x : JOp) (PA : Option Addr) (pn pc : Nat) (CA : Option Addr) (cn cc : Nat) (hq : Dq S w w db p) (hr : Rf w d p) (hO : OpOk S w x PA pn pc CA cn) (hdk : ∀ b, S b → DkB w b) (hsm : p.sm 600000000000) (hdo : x.do_ = 6) (nm : ByteArray) (hnm : (x.n = 0 ∧ nm = nmDb) ∨ (x.n ≠ 0 ∧ nm = nmJn)) :
    Calls Try.prog 27 #[ptrV db, rdV d p, .agg (opV x PA pn pc CA cn cc)] w (DnPost S w db (p.write nm x.at_ (strI x.data))) := by
  have hB := DnB.start (pc := pc) (cc := cc) hq hr hO hdk
  have HSM := Lib.hid hsm
  have HLT := Lib.hid hq.lt
  clear hq hr hO hdk hsm
  unfold rdC opV rdZ at hB
  unfold rdV opV
  rw [hdo]
  rw [hdo] at hB
  go_enter Try.func27, Try.ntmps27
  go_upto_region 1 with fail
  generalize (((w.alloc (.cells #[.bool true, .bool p.down, .slice d.fA d.fn d.fc, .slice d.pA d.pn d.pc, .int .i64 p.room, .int .i64 p.steps, .int .i64 p.crash, .int .i64 p.starts] 56)).alloc (.cells #[.int .i64 6, .int .i64 x.n, .int .i64 x.at_, .int .i64 x.count, .slice PA pn pc, .slice CA cn cc, .string x.data] 60)).alloc (.cells #[.bool false, .bool false, .slice none 0 0, .slice none 0 0, .int .i64 0, .int .i64 0, .int .i64 0, .int .i64 0] 56)) = w3 at hB ⊢
  generalize hs0 : w.heap.size = s0 at hB ⊢
  have HS0 := Lib.hid hs0
  have HB := Lib.hid hB
  clear hs0 hB
  have hl2 := HB.out.b2.lt
  have hl1 := HB.out.b1.lt
  have hl0 := HB.out.b0.lt
  obtain ⟨o0, o1, o2, o3, o4, o5, o6⟩ := opC7 HB.out.b1
  rw [hdo] at o0
  obtain ⟨c0, c1, c2, c3, c4, c5, c6, c7⟩ := HB.out.b0.rdc
  obtain ⟨y0, y1, y2, y3, y4, y5, y6, y7⟩ := HB.out.b2.c8
  obtain ⟨z0, z1, z2, z3, z4, z5, z6, z7⟩ := HB.out.b2.z8
  obtain ⟨x0, x1, x2, x3, x4, x5, x6, x7⟩ := HB.out.b0.z8
  have HDL : Hid (x.data.size ≤ maxLen) := Lib.hid (by have := HB.out.o.dl; unfold maxLen; omega)
  rcases hnm with ⟨hn, rfl⟩ | ⟨hn, rfl⟩
  · rw [hn] at o1 ⊢
    clear hn
    go_wp2_with fail
    refine (show Calls _ _ #[ptrV db, .string nmDb, .int .i64 x.at_, .string x.data] _ _ from write_q HB.out.q nmDb x.at_ x.data nmD_le HDL.out (sm_mono HSM.out (by omega))).mono ?_
    rintro e w4 ⟨rfl, hq⟩
    have HQ := Lib.hid hq
    obtain ⟨_, b0, b1, b2, r, o⟩ := HB.out.to hq.kp
    have HB0 := Lib.hid b0
    have HB1 := Lib.hid b1
    have HB2 := Lib.hid b2
    have HR := Lib.hid r
    have HO := Lib.hid o
    clear hq b0 b1 b2 r o c0 c1 c2 c3 c4 c5 c6 c7 y0 y1 y2 y3 y4 y5 y6 y7 z0 z1 z2 z3 z4 z5 z6 z7 x0 x1 x2 x3 x4 x5 x6 x7 o0 o1 o2 o3 o4 o5 o6 hl0 hl1 hl2
    have hl2 := HB2.out.lt
    have hl1 := HB1.out.lt
    have hl0 := HB0.out.lt
    obtain ⟨o0, o1, o2, o3, o4, o5, o6⟩ := opC7 HB1.out
    obtain ⟨c0, c1, c2, c3, c4, c5, c6, c7⟩ := HB0.out.rdc
    obtain ⟨y0, y1, y2, y3, y4, y5, y6, y7⟩ := HB2.out.c8
    obtain ⟨z0, z1, z2, z3, z4, z5, z6, z7⟩ := HB2.out.z8
    obtain ⟨x0, x1, x2, x3, x4, x5, x6, x7⟩ := HB0.out.z8
    go_wp2_with fail
    refine (show Calls _ _ #[rdV d p, .string nmDb, .int .i64 x.at_, .string x.data] _ _ from write_okR w4 d p nmDb x.at_ x.data HR.out nmD_le HDL.out HB.out.o.ra (by have := HSM.out; unfold Pl.sm at this; omega) (by have := HSM.out; unfold Pl.sm at this; omega)).mono ?_
    rintro e w5 ⟨d5, rfl, h5, hk5⟩
    obtain ⟨q, hqE⟩ : ∃ q, p.write nmDb x.at_ (strI x.data) = q := ⟨_, rfl⟩
    obtain ⟨E, hE⟩ : ∃ E, p.writeE nmDb x.at_ (strI x.data) = E := ⟨_, rfl⟩
    have HRUN := Lib.hid hqE
    rw [hqE] at h5 HQ ⊢
    rw [hE]
    clear hqE hE
    have HQ' := Lib.hid (HQ.out.keep hk5)
    have HB0' := Lib.hid (HB0.out.keep hk5 (fun q => q))
    have HB1' := Lib.hid (HB1.out.keep hk5 (fun q => q))
    have HB2' := Lib.hid (HB2.out.keep hk5 (fun q => q))
    have HR' := Lib.hid h5
    have HO' := Lib.hid (HO.out.keep (hk5.mono (fun _ _ q => q.elim)))
    clear hk5 h5 HQ HB0 HB1 HB2 HR HO c0 c1 c2 c3 c4 c5 c6 c7 y0 y1 y2 y3 y4 y5 y6 y7 z0 z1 z2 z3 z4 z5 z6 z7 x0 x1 x2 x3 x4 x5 x6 x7 o0 o1 o2 o3 o4 o5 o6 hl0 hl1 hl2
    have HQ := HQ'
    have HB0 := HB0'
    have HB1 := HB1'
    have HB2 := HB2'
    have HR := HR'
    have HO := HO'
    clear HQ' HB0' HB1' HB2' HR' HO'
    have hl2 := HB2.out.lt
    have hl1 := HB1.out.lt
    have hl0 := HB0.out.lt
    obtain ⟨o0, o1, o2, o3, o4, o5, o6⟩ := opC7 HB1.out
    obtain ⟨c0, c1, c2, c3, c4, c5, c6, c7⟩ := HB0.out.rdc
    obtain ⟨y0, y1, y2, y3, y4, y5, y6, y7⟩ := HB2.out.c8
    obtain ⟨z0, z1, z2, z3, z4, z5, z6, z7⟩ := HB2.out.z8
    obtain ⟨x0, x1, x2, x3, x4, x5, x6, x7⟩ := HB0.out.z8
    unfold rdV
    go_upto_region 43 with fail
    have hg2 : Blk (w5.alloc (.cells (rdC d5 q) 56)) w5.heap.size 56 (rdC d5 q) := Blk.new _ _ _
    have hk5 : Kp NoB w5 (w5.alloc (.cells (rdC d5 q) 56)) := (Kp.refl NoB w5).alloc _
    have h5 : Rf (w5.alloc (.cells (rdC d5 q) 56)) d5 (q) := HR.out.keep hk5
    unfold rdC at hg2 hk5 h5
    generalize hg : w5.heap.size = g at hg2 ⊢
    have hgl : s0 + 1 + 1 < g := by have := HB2.out.lt; omega
    generalize (w5.alloc (.cells #[.bool true, .bool (q).down, .slice d5.fA d5.fn d5.fc, .slice d5.pA d5.pn d5.pc, .int .i64 (q).room, .int .i64 (q).steps, .int .i64 (q).crash, .int .i64 (q).starts] 56)) = w6 at hg2 hk5 h5 ⊢
    have HG2 := Lib.hid (show Blk w6 g 56 (rdC d5 q) from hg2)
    have HGL := Lib.hid hgl
    have HKB := Lib.hid hk5
    clear hg2 hg hgl
    have HQ' := Lib.hid (HQ.out.keep hk5)
    have HB0' := Lib.hid (HB0.out.keep hk5 (fun q => q))
    have HB1' := Lib.hid (HB1.out.keep hk5 (fun q => q))
    have HB2' := Lib.hid (HB2.out.keep hk5 (fun q => q))
    have HR' := Lib.hid h5
    have HO' := Lib.hid (HO.out.keep (hk5.mono (fun _ _ q => q.elim)))
    clear hk5 h5 HQ HB0 HB1 HB2 HR HO c0 c1 c2 c3 c4 c5 c6 c7 y0 y1 y2 y3 y4 y5 y6 y7 z0 z1 z2 z3 z4 z5 z6 z7 x0 x1 x2 x3 x4 x5 x6 x7 o0 o1 o2 o3 o4 o5 o6 hl0 hl1 hl2
    have HQ := HQ'
    have HB0 := HB0'
    have HB1 := HB1'
    have HB2 := HB2'
    have HR := HR'
    have HO := HO'
    clear HQ' HB0' HB1' HB2' HR' HO'
    have hl2 := HB2.out.lt
    have hl1 := HB1.out.lt
    have hl0 := HB0.out.lt
    obtain ⟨o0, o1, o2, o3, o4, o5, o6⟩ := opC7 HB1.out
    obtain ⟨c0, c1, c2, c3, c4, c5, c6, c7⟩ := HB0.out.rdc
    obtain ⟨y0, y1, y2, y3, y4, y5, y6, y7⟩ := HB2.out.c8
    obtain ⟨z0, z1, z2, z3, z4, z5, z6, z7⟩ := HB2.out.z8
    obtain ⟨x0, x1, x2, x3, x4, x5, x6, x7⟩ := HB0.out.z8
    obtain ⟨g0, g1, g2, g3, g4, g5, g6, g7⟩ := HG2.out.rdc
    have hgs := HG2.out.lt
    have hgg : s0 < g ∧ s0 + 1 < g ∧ s0 + 1 + 1 < g := by have := HGL.out; omega
    go_wp2_with fail
    refine bodyPost_ret (ret_cell_tmp rfl _ _ _ _ _ _ rfl (blk8 HB2.out rfl) Try.underlying56 rfl (by exact infoRd) _ rfl) rfl ⟨d5, by rw [HRUN.out]; rfl, ?_, ?_⟩
    · rw [HRUN.out]
      exact (HR.out).keepB (kp8 (Kp.refl _ w6) (.inr rfl)) HB2.out rdZ_str
    · rw [HRUN.out]
      exact HB.out.fin HS0.out (HQ.out) (kp8 (Kp.refl _ w6) (.inr rfl))
  · go_wp2_with fail
    clear hn
    refine (show Calls _ _ #[ptrV db, .string nmJn, .int .i64 x.at_, .string x.data] _ _ from write_q HB.out.q nmJn x.at_ x.data nmJ_le HDL.out (sm_mono HSM.out (by omega))).mono ?_
    rintro e w4 ⟨rfl, hq⟩
    have HQ := Lib.hid hq
    obtain ⟨_, b0, b1, b2, r, o⟩ := HB.out.to hq.kp
    have HB0 := Lib.hid b0
    have HB1 := Lib.hid b1
    have HB2 := Lib.hid b2
    have HR := Lib.hid r
    have HO := Lib.hid o
    clear hq b0 b1 b2 r o c0 c1 c2 c3 c4 c5 c6 c7 y0 y1 y2 y3 y4 y5 y6 y7 z0 z1 z2 z3 z4 z5 z6 z7 x0 x1 x2 x3 x4 x5 x6 x7 o0 o1 o2 o3 o4 o5 o6 hl0 hl1 hl2
    have hl2 := HB2.out.lt
    have hl1 := HB1.out.lt
    have hl0 := HB0.out.lt
    obtain ⟨o0, o1, o2, o3, o4, o5, o6⟩ := opC7 HB1.out
    obtain ⟨c0, c1, c2, c3, c4, c5, c6, c7⟩ := HB0.out.rdc
    obtain ⟨y0, y1, y2, y3, y4, y5, y6, y7⟩ := HB2.out.c8
    obtain ⟨z0, z1, z2, z3, z4, z5, z6, z7⟩ := HB2.out.z8
    obtain ⟨x0, x1, x2, x3, x4, x5, x6, x7⟩ := HB0.out.z8
    go_wp2_with fail
    refine (show Calls _ _ #[rdV d p, .string nmJn, .int .i64 x.at_, .string x.data] _ _ from write_okR w4 d p nmJn x.at_ x.data HR.out nmJ_le HDL.out HB.out.o.ra (by have := HSM.out; unfold Pl.sm at this; omega) (by have := HSM.out; unfold Pl.sm at this; omega)).mono ?_
    rintro e w5 ⟨d5, rfl, h5, hk5⟩
    obtain ⟨q, hqE⟩ : ∃ q, p.write nmJn x.at_ (strI x.data) = q := ⟨_, rfl⟩
    obtain ⟨E, hE⟩ : ∃ E, p.writeE nmJn x.at_ (strI x.data) = E := ⟨_, rfl⟩
    have HRUN := Lib.hid hqE
    rw [hqE] at h5 HQ ⊢
    rw [hE]
    clear hqE hE
    have HQ' := Lib.hid (HQ.out.keep hk5)
    have HB0' := Lib.hid (HB0.out.keep hk5 (fun q => q))
    have HB1' := Lib.hid (HB1.out.keep hk5 (fun q => q))
    have HB2' := Lib.hid (HB2.out.keep hk5 (fun q => q))
    have HR' := Lib.hid h5
    have HO' := Lib.hid (HO.out.keep (hk5.mono (fun _ _ q => q.elim)))
    clear hk5 h5 HQ HB0 HB1 HB2 HR HO c0 c1 c2 c3 c4 c5 c6 c7 y0 y1 y2 y3 y4 y5 y6 y7 z0 z1 z2 z3 z4 z5 z6 z7 x0 x1 x2 x3 x4 x5 x6 x7 o0 o1 o2 o3 o4 o5 o6 hl0 hl1 hl2
    have HQ := HQ'
    have HB0 := HB0'
    have HB1 := HB1'
    have HB2 := HB2'
    have HR := HR'
    have HO := HO'
    clear HQ' HB0' HB1' HB2' HR' HO'
    have hl2 := HB2.out.lt
    have hl1 := HB1.out.lt
    have hl0 := HB0.out.lt
    obtain ⟨o0, o1, o2, o3, o4, o5, o6⟩ := opC7 HB1.out
    obtain ⟨c0, c1, c2, c3, c4, c5, c6, c7⟩ := HB0.out.rdc
    obtain ⟨y0, y1, y2, y3, y4, y5, y6, y7⟩ := HB2.out.c8
    obtain ⟨z0, z1, z2, z3, z4, z5, z6, z7⟩ := HB2.out.z8
    obtain ⟨x0, x1, x2, x3, x4, x5, x6, x7⟩ := HB0.out.z8
    unfold rdV
    go_upto_region 43 with fail
    have hg2 : Blk (w5.alloc (.cells (rdC d5 q) 56)) w5.heap.size 56 (rdC d5 q) := Blk.new _ _ _
    have hk5 : Kp NoB w5 (w5.alloc (.cells (rdC d5 q) 56)) := (Kp.refl NoB w5).alloc _
    have h5 : Rf (w5.alloc (.cells (rdC d5 q) 56)) d5 (q) := HR.out.keep hk5
    unfold rdC at hg2 hk5 h5
    generalize hg : w5.heap.size = g at hg2 ⊢
    have hgl : s0 + 1 + 1 < g := by have := HB2.out.lt; omega
    generalize (w5.alloc (.cells #[.bool true, .bool (q).down, .slice d5.fA d5.fn d5.fc, .slice d5.pA d5.pn d5.pc, .int .i64 (q).room, .int .i64 (q).steps, .int .i64 (q).crash, .int .i64 (q).starts] 56)) = w6 at hg2 hk5 h5 ⊢
    have HG2 := Lib.hid (show Blk w6 g 56 (rdC d5 q) from hg2)
    have HGL := Lib.hid hgl
    have HKB := Lib.hid hk5
    clear hg2 hg hgl
    have HQ' := Lib.hid (HQ.out.keep hk5)
    have HB0' := Lib.hid (HB0.out.keep hk5 (fun q => q))
    have HB1' := Lib.hid (HB1.out.keep hk5 (fun q => q))
    have HB2' := Lib.hid (HB2.out.keep hk5 (fun q => q))
    have HR' := Lib.hid h5
    have HO' := Lib.hid (HO.out.keep (hk5.mono (fun _ _ q => q.elim)))
    clear hk5 h5 HQ HB0 HB1 HB2 HR HO c0 c1 c2 c3 c4 c5 c6 c7 y0 y1 y2 y3 y4 y5 y6 y7 z0 z1 z2 z3 z4 z5 z6 z7 x0 x1 x2 x3 x4 x5 x6 x7 o0 o1 o2 o3 o4 o5 o6 hl0 hl1 hl2
    have HQ := HQ'
    have HB0 := HB0'
    have HB1 := HB1'
    have HB2 := HB2'
    have HR := HR'
    have HO := HO'
    clear HQ' HB0' HB1' HB2' HR' HO'
    have hl2 := HB2.out.lt
    have hl1 := HB1.out.lt
    have hl0 := HB0.out.lt
    obtain ⟨o0, o1, o2, o3, o4, o5, o6⟩ := opC7 HB1.out
    obtain ⟨c0, c1, c2, c3, c4, c5, c6, c7⟩ := HB0.out.rdc
    obtain ⟨y0, y1, y2, y3, y4, y5, y6, y7⟩ := HB2.out.c8
    obtain ⟨z0, z1, z2, z3, z4, z5, z6, z7⟩ := HB2.out.z8
    obtain ⟨x0, x1, x2, x3, x4, x5, x6, x7⟩ := HB0.out.z8
    obtain ⟨g0, g1, g2, g3, g4, g5, g6, g7⟩ := HG2.out.rdc
    have hgs := HG2.out.lt
    have hgg : s0 < g ∧ s0 + 1 < g ∧ s0 + 1 + 1 < g := by have := HGL.out; omega
    go_wp2_with fail
    refine bodyPost_ret (ret_cell_tmp rfl _ _ _ _ _ _ rfl (blk8 HB2.out rfl) Try.underlying56 rfl (by exact infoRd) _ rfl) rfl ⟨d5, by rw [HRUN.out]; rfl, ?_, ?_⟩
    · rw [HRUN.out]
      exact (HR.out).keepB (kp8 (Kp.refl _ w6) (.inr rfl)) HB2.out rdZ_str
    · rw [HRUN.out]
      exact HB.out.fin HS0.out (HQ.out) (kp8 (Kp.refl _ w6) (.inr rfl))
end Go.Proofs.Ytegcbdfilkecpaa
/- The law of the journal's play: a step that asks for a page; condition: texts of at most 2000 bytes. -/
namespace Go.Proofs.Ytegcbdfilkecpaa
open Go.RowKit

attribute [local go_sem ↓] load26 store26 alloc26 build26 eql26
set_option maxRecDepth 100000 in
set_option maxHeartbeats 1600000 in
theorem done_2 (S : Nat → Prop) (w : World) (db : Nat) (p : Pl) (d : Rd) (x : JOp) (PA : Option Addr) (pn pc : Nat) (CA : Option Addr) (cn cc : Nat) (hq : Dq S w w db p) (hr : Rf w d p) (hO : OpOk S w x PA pn pc CA cn) (hdk : ∀ b, S b → DkB w b) (hsm : p.sm 600000000000) (hdo : x.do_ = 2) :
    Calls Try.prog 27 #[ptrV db, rdV d p, .agg (opV x PA pn pc CA cn cc)] w (DnPost S w db p) := by
  have hB := DnB.start (pc := pc) (cc := cc) hq hr hO hdk
  have HSM := Lib.hid hsm
  have HLT := Lib.hid hq.lt
  clear hq hr hO hdk hsm
  unfold rdC opV rdZ at hB
  unfold rdV opV
  rw [hdo]
  rw [hdo] at hB
  go_enter Try.func27, Try.ntmps27
  go_upto_region 1 with fail
  generalize (((w.alloc (.cells #[.bool true, .bool p.down, .slice d.fA d.fn d.fc, .slice d.pA d.pn d.pc, .int .i64 p.room, .int .i64 p.steps, .int .i64 p.crash, .int .i64 p.starts] 56)).alloc (.cells #[.int .i64 2, .int .i64 x.n, .int .i64 x.at_, .int .i64 x.count, .slice PA pn pc, .slice CA cn cc, .string x.data] 60)).alloc (.cells #[.bool false, .bool false, .slice none 0 0, .slice none 0 0, .int .i64 0, .int .i64 0, .int .i64 0, .int .i64 0] 56)) = w3 at hB ⊢
  generalize hs0 : w.heap.size = s0 at hB ⊢
  have HS0 := Lib.hid hs0
  have HB := Lib.hid hB
  clear hs0 hB
  have hl2 := HB.out.b2.lt
  have hl1 := HB.out.b1.lt
  have hl0 := HB.out.b0.lt
  obtain ⟨o0, o1, o2, o3, o4, o5, o6⟩ := opC7 HB.out.b1
  rw [hdo] at o0
  obtain ⟨c0, c1, c2, c3, c4, c5, c6, c7⟩ := HB.out.b0.rdc
  obtain ⟨y0, y1, y2, y3, y4, y5, y6, y7⟩ := HB.out.b2.c8
  obtain ⟨z0, z1, z2, z3, z4, z5, z6, z7⟩ := HB.out.b2.z8
  obtain ⟨x0, x1, x2, x3, x4, x5, x6, x7⟩ := HB.out.b0.z8
  have HNF : Hid (p.nf < 1099511627776) := Lib.hid (by have h := HSM.out; unfold Pl.sm at h; omega)
  obtain ⟨pg, hpg⟩ : ∃ pg, p.jpage x.n = pg := ⟨_, rfl⟩
  obtain ⟨PE, hPE⟩ : ∃ E, p.jpageE x.n = E := ⟨_, rfl⟩
  have hpl : pg.length = 256 := by
    rw [← hpg]
    unfold Pl.jpage
    split
    · exact sizedF_len _ _
    · exact List.length_replicate ..
  have HPG := Lib.hid hpg
  have HPE := Lib.hid hPE
  have HPL := Lib.hid hpl
  clear hpg hPE hpl
  have hpo := bytesV_one pg
  have hps : (bytesV pg).size = 256 := by rw [bytesV_size, HPL.out]
  go_wp2_with fail
  refine (page_q HB.out.q x.n HB.out.o.rn).mono ?_
  rintro e w4 ⟨rfl, hk⟩
  rw [HPG.out, HPE.out]
  have hq4 := HB.out.q.keep hk
  have HQ := Lib.hid hq4
  have HK34 := Lib.hid hk
  obtain ⟨_, b0, b1, b2, r, o⟩ := HB.out.to hq4.kp
  have HB0 := Lib.hid b0
  have HB1 := Lib.hid b1
  have HB2 := Lib.hid b2
  have HR := Lib.hid r
  have HO := Lib.hid o
  clear hk hq4 b0 b1 b2 r o c0 c1 c2 c3 c4 c5 c6 c7 y0 y1 y2 y3 y4 y5 y6 y7 z0 z1 z2 z3 z4 z5 z6 z7 x0 x1 x2 x3 x4 x5 x6 x7 o0 o1 o2 o3 o4 o5 o6 hl0 hl1 hl2
  have hl2 := HB2.out.lt
  have hl1 := HB1.out.lt
  have hl0 := HB0.out.lt
  obtain ⟨o0, o1, o2, o3, o4, o5, o6⟩ := opC7 HB1.out
  obtain ⟨c0, c1, c2, c3, c4, c5, c6, c7⟩ := HB0.out.rdc
  obtain ⟨y0, y1, y2, y3, y4, y5, y6, y7⟩ := HB2.out.c8
  obtain ⟨z0, z1, z2, z3, z4, z5, z6, z7⟩ := HB2.out.z8
  obtain ⟨x0, x1, x2, x3, x4, x5, x6, x7⟩ := HB0.out.z8
  have HKW := HK34
  clear HK34
  have hbz : Blk (w4.alloc (.cells zero256 24)) w4.heap.size 24 zero256 := Blk.new _ _ _
  have htz := hbz.thereAll 256 (by rw [zero256_eq, bytesV_size]; rfl)
  go_upto_region 18 with fail
  have hp1 : Blk ((w4.alloc (.cells zero256 24)).setCells w4.heap.size 0 (bytesV pg).toList) w4.heap.size 24 (bytesV pg) := hbz.whole _ (by rw [hps, zero256_eq, bytesV_size]; rfl)
  have hk5 : Kp NoB w4 ((w4.alloc (.cells zero256 24)).setCells w4.heap.size 0 (bytesV pg).toList) := Kp.setCells (.inl (Nat.le_refl _)) _ _ _ ((Kp.refl NoB w4).alloc _)
  have h5 := HR.out.keep hk5
  generalize ((w4.alloc (.cells zero256 24)).setCells w4.heap.size 0 (bytesV pg).toList) = w5 at hp1 hk5 h5 ⊢
  generalize hg1 : w4.heap.size = g1 at hp1 ⊢
  have HP1 := Lib.hid hp1
  have HG1 : Hid (s0 + 1 + 1 < g1) := Lib.hid (by omega)
  clear hbz htz hp1 hg1
  have HKX := Lib.hid (HKW.out.trans hk5 (fun _ _ q => q))
  clear HKW
  have HKW := HKX
  clear HKX
  have HQ' := Lib.hid (HQ.out.keep hk5)
  have HB0' := Lib.hid (HB0.out.keep hk5 (fun q => q))
  have HB1' := Lib.hid (HB1.out.keep hk5 (fun q => q))
  have HB2' := Lib.hid (HB2.out.keep hk5 (fun q => q))
  have HR' := Lib.hid h5
  have HO' := Lib.hid (HO.out.keep (hk5.mono (fun _ _ q => q.elim)))
  clear hk5 h5 HQ HB0 HB1 HB2 HR HO c0 c1 c2 c3 c4 c5 c6 c7 y0 y1 y2 y3 y4 y5 y6 y7 z0 z1 z2 z3 z4 z5 z6 z7 x0 x1 x2 x3 x4 x5 x6 x7 o0 o1 o2 o3 o4 o5 o6 hl0 hl1 hl2
  have HQ := HQ'
  have HB0 := HB0'
  have HB1 := HB1'
  have HB2 := HB2'
  have HR := HR'
  have HO := HO'
  clear HQ' HB0' HB1' HB2' HR' HO'
  have hl2 := HB2.out.lt
  have hl1 := HB1.out.lt
  have hl0 := HB0.out.lt
  obtain ⟨o0, o1, o2, o3, o4, o5, o6⟩ := opC7 HB1.out
  obtain ⟨c0, c1, c2, c3, c4, c5, c6, c7⟩ := HB0.out.rdc
  obtain ⟨y0, y1, y2, y3, y4, y5, y6, y7⟩ := HB2.out.c8
  obtain ⟨z0, z1, z2, z3, z4, z5, z6, z7⟩ := HB2.out.z8
  obtain ⟨x0, x1, x2, x3, x4, x5, x6, x7⟩ := HB0.out.z8
  go_wp2_with fail
  refine (show Calls _ _ #[rdV d p] _ _ from ready_rok w5 d p HR.out HNF.out).mono ?_
  rintro e w6 ⟨rfl, hk5⟩
  have h5 := HR.out.keep hk5
  have HP16 := Lib.hid (HP1.out.keep hk5 (fun q => q))
  have hl16 := Lib.hid HP16.out.lt
  clear HP1
  have HKX := Lib.hid (HKW.out.trans hk5 (fun _ _ q => q))
  clear HKW
  have HKW := HKX
  clear HKX
  have HQ' := Lib.hid (HQ.out.keep hk5)
  have HB0' := Lib.hid (HB0.out.keep hk5 (fun q => q))
  have HB1' := Lib.hid (HB1.out.keep hk5 (fun q => q))
  have HB2' := Lib.hid (HB2.out.keep hk5 (fun q => q))
  have HR' := Lib.hid h5
  have HO' := Lib.hid (HO.out.keep (hk5.mono (fun _ _ q => q.elim)))
  clear hk5 h5 HQ HB0 HB1 HB2 HR HO c0 c1 c2 c3 c4 c5 c6 c7 y0 y1 y2 y3 y4 y5 y6 y7 z0 z1 z2 z3 z4 z5 z6 z7 x0 x1 x2 x3 x4 x5 x6 x7 o0 o1 o2 o3 o4 o5 o6 hl0 hl1 hl2
  have HQ := HQ'
  have HB0 := HB0'
  have HB1 := HB1'
  have HB2 := HB2'
  have HR := HR'
  have HO := HO'
  clear HQ' HB0' HB1' HB2' HR' HO'
  have hl2 := HB2.out.lt
  have hl1 := HB1.out.lt
  have hl0 := HB0.out.lt
  obtain ⟨o0, o1, o2, o3, o4, o5, o6⟩ := opC7 HB1.out
  obtain ⟨c0, c1, c2, c3, c4, c5, c6, c7⟩ := HB0.out.rdc
  obtain ⟨y0, y1, y2, y3, y4, y5, y6, y7⟩ := HB2.out.c8
  obtain ⟨z0, z1, z2, z3, z4, z5, z6, z7⟩ := HB2.out.z8
  obtain ⟨x0, x1, x2, x3, x4, x5, x6, x7⟩ := HB0.out.z8
  obtain ⟨rd, hrd⟩ : ∃ r, jReady p = r := ⟨_, rfl⟩
  rw [hrd]
  have HRD := Lib.hid hrd
  clear hrd
  have hbz : Blk (w6.alloc (.cells zero256 24)) w6.heap.size 24 zero256 := Blk.new _ _ _
  have htz := hbz.thereAll 256 (by rw [zero256_eq, bytesV_size]; rfl)
  have hzo : ones zero256 := by rw [zero256_eq]; exact bytesV_one _
  have hzs : zero256.size = 256 := by rw [zero256_eq, bytesV_size]; rfl
  go_upto_region 20 with fail
  have hp2 : Blk ((w6.alloc (.cells zero256 24)).setCells w6.heap.size 0 zero256.toList) w6.heap.size 24 zero256 := hbz.whole _ rfl
  have hk5 : Kp NoB w6 ((w6.alloc (.cells zero256 24)).setCells w6.heap.size 0 zero256.toList) := Kp.setCells (.inl (Nat.le_refl _)) _ _ _ ((Kp.refl NoB w6).alloc _)
  have h5 := HR.out.keep hk5
  have hp1 := HP16.out.keep hk5 (fun q => q)
  generalize ((w6.alloc (.cells zero256 24)).setCells w6.heap.size 0 zero256.toList) = w7 at hp1 hp2 hk5 h5 ⊢
  generalize hg2 : w6.heap.size = g2 at hp2 ⊢
  have HP1 := Lib.hid hp1
  have HP2 := Lib.hid hp2
  have HG2 : Hid (s0 + 1 + 1 < g2) := Lib.hid (by omega)
  have HG3 : Hid (w3.heap.size ≤ g2) := Lib.hid (by have := HKW.out.size; omega)
  have HG4 : Hid (g1 ≠ g2) := Lib.hid (by have := hl16.out; omega)
  clear hbz htz hp1 hp2 hg2 HP16
  have HKX := Lib.hid (HKW.out.trans hk5 (fun _ _ q => q))
  clear HKW
  have HKW := HKX
  clear HKX
  have HQ' := Lib.hid (HQ.out.keep hk5)
  have HB0' := Lib.hid (HB0.out.keep hk5 (fun q => q))
  have HB1' := Lib.hid (HB1.out.keep hk5 (fun q => q))
  have HB2' := Lib.hid (HB2.out.keep hk5 (fun q => q))
  have HR' := Lib.hid h5
  have HO' := Lib.hid (HO.out.keep (hk5.mono (fun _ _ q => q.elim)))
  clear hk5 h5 HQ HB0 HB1 HB2 HR HO c0 c1 c2 c3 c4 c5 c6 c7 y0 y1 y2 y3 y4 y5 y6 y7 z0 z1 z2 z3 z4 z5 z6 z7 x0 x1 x2 x3 x4 x5 x6 x7 o0 o1 o2 o3 o4 o5 o6 hl0 hl1 hl2
  have HQ := HQ'
  have HB0 := HB0'
  have HB1 := HB1'
  have HB2 := HB2'
  have HR := HR'
  have HO := HO'
  clear HQ' HB0' HB1' HB2' HR' HO'
  have hl2 := HB2.out.lt
  have hl1 := HB1.out.lt
  have hl0 := HB0.out.lt
  obtain ⟨o0, o1, o2, o3, o4, o5, o6⟩ := opC7 HB1.out
  obtain ⟨c0, c1, c2, c3, c4, c5, c6, c7⟩ := HB0.out.rdc
  obtain ⟨y0, y1, y2, y3, y4, y5, y6, y7⟩ := HB2.out.c8
  obtain ⟨z0, z1, z2, z3, z4, z5, z6, z7⟩ := HB2.out.z8
  obtain ⟨x0, x1, x2, x3, x4, x5, x6, x7⟩ := HB0.out.z8
  by_cases hd : p.down = true
  · have HPE7 : Hid (PE = 7) := Lib.hid (by rw [← HPE.out]; unfold Pl.jpageE; rw [if_pos hd])
    have HPGZ : Hid (pg = zeros 256) := Lib.hid (by rw [← HPG.out]; unfold Pl.jpage; rw [if_neg (by unfold Pl.jpageE; rw [if_pos hd]; decide)])
    obtain rfl : rd = 7 := by rw [← HRD.out]; unfold jReady; rw [if_pos hd]
    clear hd
    refine wp_region_held_drew (S := fun V => Kp NoB w7 V) (by kernel_rfl) (Kp.refl NoB w7).drew (fun hHeld => ?_)
    have k0 : Kp NoB w7 w7.drew := (Kp.refl NoB w7).drew
    generalize w7.drew = V0 at k0 hHeld ⊢
    refine tkS (i := 0) (v := (.int .i64 7)) rfl (Or.inl ⟨by rfl, fun w' hq => by go_simp⟩) k0 ?_
    simp only [Act.put, skA, skB, skC]
    refine tkS (i := 1) (v := (.bool false)) rfl (Or.inl ⟨by rfl, fun w' hq => by go_simp⟩) k0 ?_
    simp only [Act.put, skA, skB, skC]
    refine tkS (i := 2) (v := (.bool false)) rfl (Or.inl ⟨by rfl, fun w' hq => by go_simp⟩) k0 ?_
    simp only [Act.put, skA, skB, skC]
    refine tkS (i := 3) (v := undef) rfl (Or.inr ⟨by rfl, rfl⟩) k0 ?_
    simp only [Act.put, skA, skB, skC]
    refine tkS (i := 4) (v := undef) rfl (Or.inr ⟨by rfl, rfl⟩) k0 ?_
    simp only [Act.put, skA, skB, skC]
    refine tkS (i := 5) (v := undef) rfl (Or.inr ⟨by rfl, rfl⟩) k0 ?_
    simp only [Act.put, skA, skB, skC]
    refine tkS (i := 6) (v := undef) rfl (Or.inr ⟨by rfl, rfl⟩) k0 ?_
    simp only [Act.put, skA, skB, skC]
    refine tkS (i := 7) (v := undef) rfl (Or.inr ⟨by rfl, rfl⟩) k0 ?_
    simp only [Act.put, skA, skB, skC]
    refine tkS (i := 8) (v := undef) rfl (Or.inr ⟨by rfl, rfl⟩) k0 ?_
    simp only [Act.put, skA, skB, skC]
    refine tkS (i := 9) (v := undef) rfl (Or.inr ⟨by rfl, rfl⟩) k0 ?_
    simp only [Act.put, skA, skB, skC]
    refine tkS (i := 10) (v := undef) rfl (Or.inr ⟨by rfl, rfl⟩) k0 ?_
    simp only [Act.put, skA, skB, skC]
    refine tkS (i := 11) (v := undef) rfl (Or.inr ⟨by rfl, rfl⟩) k0 ?_
    simp only [Act.put, skA, skB, skC]
    refine tkS (i := 12) (v := undef) rfl (Or.inr ⟨by rfl, rfl⟩) k0 ?_
    simp only [Act.put, skA, skB, skC]
    refine tkS (i := 13) (v := (.bool false)) rfl (Or.inl ⟨by rfl, fun w' hq => by go_simp⟩) k0 ?_
    simp only [Act.put, skA, skB, skC]
    refine wpAnyH_done (by kernel_rfl) ?_ _
    have hk5 := k0
    clear hHeld k0
    have HP1' := Lib.hid (HP1.out.keep hk5 (fun q => q))
    have HP2' := Lib.hid (HP2.out.keep hk5 (fun q => q))
    clear HP1 HP2
    have HP1 := HP1'
    have HP2 := HP2'
    clear HP1' HP2'
    have h5 := HR.out.keep hk5
    have HKX := Lib.hid (HKW.out.trans hk5 (fun _ _ q => q))
    clear HKW
    have HKW := HKX
    clear HKX
    have HQ' := Lib.hid (HQ.out.keep hk5)
    have HB0' := Lib.hid (HB0.out.keep hk5 (fun q => q))
    have HB1' := Lib.hid (HB1.out.keep hk5 (fun q => q))
    have HB2' := Lib.hid (HB2.out.keep hk5 (fun q => q))
    have HR' := Lib.hid h5
    have HO' := Lib.hid (HO.out.keep (hk5.mono (fun _ _ q => q.elim)))
    clear hk5 h5 HQ HB0 HB1 HB2 HR HO c0 c1 c2 c3 c4 c5 c6 c7 y0 y1 y2 y3 y4 y5 y6 y7 z0 z1 z2 z3 z4 z5 z6 z7 x0 x1 x2 x3 x4 x5 x6 x7 o0 o1 o2 o3 o4 o5 o6 hl0 hl1 hl2
    have HQ := HQ'
    have HB0 := HB0'
    have HB1 := HB1'
    have HB2 := HB2'
    have HR := HR'
    have HO := HO'
    clear HQ' HB0' HB1' HB2' HR' HO'
    have hl2 := HB2.out.lt
    have hl1 := HB1.out.lt
    have hl0 := HB0.out.lt
    obtain ⟨o0, o1, o2, o3, o4, o5, o6⟩ := opC7 HB1.out
    obtain ⟨c0, c1, c2, c3, c4, c5, c6, c7⟩ := HB0.out.rdc
    obtain ⟨y0, y1, y2, y3, y4, y5, y6, y7⟩ := HB2.out.c8
    obtain ⟨z0, z1, z2, z3, z4, z5, z6, z7⟩ := HB2.out.z8
    obtain ⟨x0, x1, x2, x3, x4, x5, x6, x7⟩ := HB0.out.z8
    go_upto_region 24 with fail
    rw [zero256_eq, ← HPGZ.out] at HP2
    rw [HPE7.out]
    refine wp_region_held_drew (S := fun V => Kp (OnB (s0 + 1 + 1)) V0 V) (by kernel_rfl) (Kp.refl _ V0).drew (fun hHeld => ?_)
    have k0 : Kp NoB V0 V0.drew := (Kp.refl NoB V0).drew
    have m0 : Kp (OnB (s0 + 1 + 1)) V0 V0.drew := (Kp.refl _ V0).drew
    have hix : (Try.prog.info? 24).map (·.size) = some (pg.map (Value.int .u8)).length := by rw [List.length_map, HPL.out]; exact info26
    have hu := Try.underlying24
    have hne0 : s0 ≠ s0 + 1 + 1 := by omega
    have hne1 : g1 ≠ s0 + 1 + 1 := by have := HG1.out; omega
    have hne2 : g2 ≠ s0 + 1 + 1 := by have := HG2.out; omega
    generalize V0.drew = T0 at k0 m0 hHeld ⊢
    refine tkS (i := 0) (v := (.agg #[.bool true, .bool p.down, .slice d.fA d.fn d.fc, .slice d.pA d.pn d.pc, .int .i64 p.room, .int .i64 p.steps, .int .i64 p.crash, .int .i64 p.starts])) rfl (Or.inl ⟨by rfl, fun w' hq => by obtain ⟨e0, e1, e2, e3, e4, e5, e6, e7⟩ := (HB0.out.keep hq (fun q => hne0 q)).rdc; go_simp⟩) m0 ?_
    simp only [Act.put, skA, skB, skC]
    refine tkS (i := 1) (v := .agg ((pg.map (Value.int .u8))).toArray) rfl (yieldsIf_load_mid (by rfl) _ _ rfl _ _ rfl (pg.map (Value.int .u8)) _ (fun _ q => blk_rg8 (HP1.out.keep q (fun q => hne1 q))) hu rfl hix) m0 ?_
    simp only [Act.put, skA, skB, skC]
    refine tkS (i := 2) (v := .agg ((pg.map (Value.int .u8))).toArray) rfl (yieldsIf_load_mid (by rfl) _ _ rfl _ _ rfl (pg.map (Value.int .u8)) _ (fun _ q => blk_rg8 (HP2.out.keep q (fun q => hne2 q))) hu rfl hix) m0 ?_
    simp only [Act.put, skA, skB, skC]
    refine tkS (i := 3) (v := .bool true) rfl (Or.inl ⟨by rfl, fun w' hq => eqTrue w' _ _ _ _ rfl rfl HPL.out⟩) m0 ?_
    simp only [Act.put, skA, skB, skC]
    refine tkS (i := 4) (v := (.bool true)) rfl (Or.inl ⟨by rfl, fun w' hq => by go_simp⟩) m0 ?_
    simp only [Act.put, skA, skB, skC]
    refine tkS (i := 5) (v := (.int .i64 7)) rfl (Or.inl ⟨by rfl, fun w' hq => by go_simp⟩) m0 ?_
    simp only [Act.put, skA, skB, skC]
    refine tkS (i := 6) (v := (.int .i64 7)) rfl (Or.inl ⟨by rfl, fun w' hq => by go_simp⟩) m0 ?_
    simp only [Act.put, skA, skB, skC]
    refine tkS (i := 7) (v := (.bool true)) rfl (Or.inl ⟨by rfl, fun w' hq => by go_simp⟩) m0 ?_
    simp only [Act.put, skA, skB, skC]
    refine tkS (i := 8) (v := (.bool true)) rfl (Or.inl ⟨by rfl, fun w' hq => by go_simp⟩) m0 ?_
    simp only [Act.put, skA, skB, skC]
    refine tkS (i := 9) (v := (.bool true)) rfl (Or.inl ⟨by rfl, fun w' hq => by go_simp⟩) m0 ?_
    simp only [Act.put, skA, skB, skC]
    refine tkS (i := 10) (v := (ptrV db)) rfl (Or.inl ⟨by rfl, fun w' hq => by go_simp⟩) m0 ?_
    simp only [Act.put, skA, skB, skC]
    refine tkS (i := 12) (v := (.agg #[.bool true, .bool p.down, .slice d.fA d.fn d.fc, .slice d.pA d.pn d.pc, .int .i64 p.room, .int .i64 p.steps, .int .i64 p.crash, .int .i64 p.starts])) rfl (Or.inl ⟨by rfl, fun w' hq => by obtain ⟨e0, e1, e2, e3, e4, e5, e6, e7⟩ := (HB0.out.keep hq (fun q => hne0 q)).rdc; go_simp⟩) m0 ?_
    simp only [Act.put, skA, skB, skC]
    refine wpAnyH_ready (rs := [11]) (by kernel_rfl) (by simp) ?_
    refine AllReadyH.callR (fun y W' => y = .int .i64 (p.jcount : Int) ∧ Kp NoB V0 W') rfl (by rfl) 14 #[ptrV db] (by first | (go_simp; done) | (go_simp; rfl)) (fun _ _ q => (q.2.mono (fun _ _ z => z.elim))) ((count_q (HQ.out.keep k0)).mono (by rintro e w19 ⟨rfl, rfl⟩; exact ⟨_, rfl, rfl, k0⟩)) ?_ AllReadyH.nil
    rintro y T1 ⟨rfl, k1⟩
    have m1 : Kp (OnB (s0 + 1 + 1)) V0 T1 := k1.mono (fun _ _ z => z.elim)
    simp only [Act.put, skA, skB, skC]
    refine wpAnyH_ready (rs := [13]) (by kernel_rfl) (by simp) ?_
    refine AllReadyH.callR (fun y W' => y = .int .i64 (p.jcount : Int) ∧ Kp NoB V0 W') rfl (by rfl) 73 #[rdV d p] (by first | (go_simp; done) | (go_simp; rfl)) (fun _ _ q => (q.2.mono (fun _ _ z => z.elim))) ((count_rok T1 d p (HR.out.keep k1) HNF.out).mono (by rintro e w19 ⟨rfl, hk⟩; exact ⟨_, rfl, rfl, k1.trans hk (fun _ _ z => z)⟩)) ?_ AllReadyH.nil
    rintro y T2 ⟨rfl, k2⟩
    have m2 : Kp (OnB (s0 + 1 + 1)) V0 T2 := k2.mono (fun _ _ z => z.elim)
    simp only [Act.put, skA, skB, skC]
    refine tkS (i := 14) (v := (.bool true)) rfl (Or.inl ⟨by rfl, fun w' hq => by go_simp⟩) m2 ?_
    simp only [Act.put, skA, skB, skC]
    refine tkS (i := 15) (v := (.bool true)) rfl (Or.inl ⟨by rfl, fun w' hq => by go_simp⟩) m2 ?_
    simp only [Act.put, skA, skB, skC]
    refine tkS (i := 16) (v := (.bool true)) rfl (Or.inl ⟨by rfl, fun w' hq => by go_simp⟩) m2 ?_
    simp only [Act.put, skA, skB, skC]
    refine tkS (i := 17) (v := (ptrV db)) rfl (Or.inl ⟨by rfl, fun w' hq => by go_simp⟩) m2 ?_
    simp only [Act.put, skA, skB, skC]
    refine tkS (i := 19) (v := (.agg #[.bool true, .bool p.down, .slice d.fA d.fn d.fc, .slice d.pA d.pn d.pc, .int .i64 p.room, .int .i64 p.steps, .int .i64 p.crash, .int .i64 p.starts])) rfl (Or.inl ⟨by rfl, fun w' hq => by obtain ⟨e0, e1, e2, e3, e4, e5, e6, e7⟩ := (HB0.out.keep hq (fun q => hne0 q)).rdc; go_simp⟩) m2 ?_
    simp only [Act.put, skA, skB, skC]
    refine wpAnyH_ready (rs := [18]) (by kernel_rfl) (by simp) ?_
    refine AllReadyH.callR (fun y W' => y = .bool p.jhot ∧ Kp NoB V0 W') rfl (by rfl) 15 #[ptrV db] (by first | (go_simp; done) | (go_simp; rfl)) (fun _ _ q => (q.2.mono (fun _ _ z => z.elim))) ((hot_q (HQ.out.keep k2)).mono (by rintro e w19 ⟨rfl, hk⟩; exact ⟨_, rfl, rfl, k2.trans hk (fun _ _ z => z)⟩)) ?_ AllReadyH.nil
    rintro y T3 ⟨rfl, k3⟩
    have m3 : Kp (OnB (s0 + 1 + 1)) V0 T3 := k3.mono (fun _ _ z => z.elim)
    simp only [Act.put, skA, skB, skC]
    refine wpAnyH_ready (rs := [20]) (by kernel_rfl) (by simp) ?_
    refine AllReadyH.callR (fun y W' => y = .bool p.jhot ∧ Kp NoB V0 W') rfl (by rfl) 75 #[rdV d p] (by first | (go_simp; done) | (go_simp; rfl)) (fun _ _ q => (q.2.mono (fun _ _ z => z.elim))) ((hot_rok T3 d p (HR.out.keep k3) HNF.out).mono (by rintro e w19 ⟨rfl, hk⟩; exact ⟨_, rfl, rfl, k3.trans hk (fun _ _ z => z)⟩)) ?_ AllReadyH.nil
    rintro y T4 ⟨rfl, k4⟩
    have m4 : Kp (OnB (s0 + 1 + 1)) V0 T4 := k4.mono (fun _ _ z => z.elim)
    simp only [Act.put, skA, skB, skC]
    refine tkS (i := 21) (v := (.bool true)) rfl (Or.inl ⟨by rfl, fun w' hq => by go_simp⟩) m4 ?_
    simp only [Act.put, skA, skB, skC]
    refine tkS (i := 22) (v := (.bool true)) rfl (Or.inl ⟨by rfl, fun w' hq => by go_simp⟩) m4 ?_
    simp only [Act.put, skA, skB, skC]
    refine wpAnyH_ready (rs := [23]) (by kernel_rfl) (by simp) ?_
    have hb3 := HB2.out.keep k4 (fun q => q)
    have hbe := hb3.whole (rdC d p) rfl
    have hkc : Kp (OnB (s0 + 1 + 1)) T4 (T4.setCells (s0 + 1 + 1) 0 (rdC d p).toList) := Kp.setCells (S := OnB (s0 + 1 + 1)) (.inr rfl) _ _ _ (Kp.refl _ T4)
    refine AllReadyH.storeL rfl (by rfl) (s0 + 1 + 1) 0 (rdC d p) rfl rfl (hb3.thereAll 8 rfl) (by exact infoRd) (rdC_ones d p) (m4.trans hkc (fun _ _ q => q)) ?_ AllReadyH.nil
    generalize T4.setCells (s0 + 1 + 1) 0 (rdC d p).toList = T5 at hbe hkc ⊢
    have m5 := m4.trans hkc (fun _ _ q => q)
    refine tkS (i := 24) (v := (.bool true)) rfl (Or.inl ⟨by rfl, fun w' hq => by go_simp⟩) m5 ?_
    simp only [Act.put, skA, skB, skC]
    refine wpAnyH_done (by kernel_rfl) ?_ _
    have HE0 := Lib.hid hbe
    have HE1 : Hid (Rf T5 d p) := Lib.hid ((HR.out.keep k4).keepB hkc hb3 rdZ_str)
    have HE2 : Hid (Dq S w T5 db p) := Lib.hid (HB.out.fin HS0.out (HQ.out.keep k4) hkc)
    clear hHeld k0 k1 k2 k3 k4 m0 m1 m2 m3 m4 m5 hkc hb3 hbe hix hu
    go_wp2_with fail
    refine bodyPost_ret (ret_cell_tmp rfl _ _ _ _ _ _ rfl HE0.out Try.underlying56 rfl (by exact infoRd) _ rfl) rfl ⟨d, rfl, HE1.out, HE2.out⟩
  obtain rfl : rd = 0 := by rw [← HRD.out]; unfold jReady; rw [if_neg hd]
  have HD := Lib.hid hd
  clear hd
  by_cases hn1 : x.n < 1
  · have hjp : p.jpageE x.n = 4 := by unfold Pl.jpageE; rw [if_neg HD.out, if_pos (.inl hn1)]
    have HPE4 : Hid (PE = 4) := Lib.hid (by rw [← HPE.out, hjp])
    have HPGZ : Hid (pg = zeros 256) := Lib.hid (by rw [← HPG.out]; unfold Pl.jpage; rw [if_neg (by rw [hjp]; decide)])
    clear hjp
    refine wp_region_held_drew (S := fun V => Kp NoB w7 V) (by kernel_rfl) (Kp.refl NoB w7).drew (fun hHeld => ?_)
    have k0 : Kp NoB w7 w7.drew := (Kp.refl NoB w7).drew
    generalize w7.drew = V0 at k0 hHeld ⊢
    refine tkS (i := 0) (v := (.int .i64 0)) rfl (Or.inl ⟨by rfl, fun w' hq => by go_simp⟩) k0 ?_
    simp only [Act.put, skA, skB, skC]
    refine tkS (i := 1) (v := (.bool true)) rfl (Or.inl ⟨by rfl, fun w' hq => by go_simp⟩) k0 ?_
    simp only [Act.put, skA, skB, skC]
    refine tkS (i := 2) (v := (.bool true)) rfl (Or.inl ⟨by rfl, fun w' hq => by go_simp⟩) k0 ?_
    simp only [Act.put, skA, skB, skC]
    refine tkS (i := 3) (v := (.pointer (some ⟨s0 + 1, 1, none⟩))) rfl (Or.inl ⟨by rfl, fun w' hq => by go_simp⟩) k0 ?_
    simp only [Act.put, skA, skB, skC]
    refine tkS (i := 4) (v := (.int .i64 x.n)) rfl (Or.inl ⟨by rfl, fun w' hq => by obtain ⟨_, e1, _⟩ := opC7 (HB1.out.keep hq (fun q => q)); go_simp⟩) k0 ?_
    simp only [Act.put, skA, skB, skC]
    refine tkS (i := 5) (v := (.bool true)) rfl (Or.inl ⟨by rfl, fun w' hq => by go_simp⟩) k0 ?_
    simp only [Act.put, skA, skB, skC]
    refine tkS (i := 6) (v := (.bool true)) rfl (Or.inl ⟨by rfl, fun w' hq => by go_simp⟩) k0 ?_
    simp only [Act.put, skA, skB, skC]
    refine tkS (i := 7) (v := undef) rfl (Or.inr ⟨by rfl, rfl⟩) k0 ?_
    simp only [Act.put, skA, skB, skC]
    refine tkS (i := 8) (v := undef) rfl (Or.inr ⟨by rfl, rfl⟩) k0 ?_
    simp only [Act.put, skA, skB, skC]
    refine tkS (i := 9) (v := undef) rfl (Or.inr ⟨by rfl, rfl⟩) k0 ?_
    simp only [Act.put, skA, skB, skC]
    refine tkS (i := 10) (v := undef) rfl (Or.inr ⟨by rfl, rfl⟩) k0 ?_
    simp only [Act.put, skA, skB, skC]
    refine tkS (i := 11) (v := undef) rfl (Or.inr ⟨by rfl, rfl⟩) k0 ?_
    simp only [Act.put, skA, skB, skC]
    refine tkS (i := 12) (v := (.bool true)) rfl (Or.inl ⟨by rfl, fun w' hq => by go_simp⟩) k0 ?_
    simp only [Act.put, skA, skB, skC]
    refine tkS (i := 13) (v := (.bool true)) rfl (Or.inl ⟨by rfl, fun w' hq => by go_simp⟩) k0 ?_
    simp only [Act.put, skA, skB, skC]
    refine wpAnyH_done (by kernel_rfl) ?_ _
    have hk5 := k0
    clear hHeld k0
    have HP1' := Lib.hid (HP1.out.keep hk5 (fun q => q))
    have HP2' := Lib.hid (HP2.out.keep hk5 (fun q => q))
    clear HP1 HP2
    have HP1 := HP1'
    have HP2 := HP2'
    clear HP1' HP2'
    have h5 := HR.out.keep hk5
    have HKX := Lib.hid (HKW.out.trans hk5 (fun _ _ q => q))
    clear HKW
    have HKW := HKX
    clear HKX
    have HQ' := Lib.hid (HQ.out.keep hk5)
    have HB0' := Lib.hid (HB0.out.keep hk5 (fun q => q))
    have HB1' := Lib.hid (HB1.out.keep hk5 (fun q => q))
    have HB2' := Lib.hid (HB2.out.keep hk5 (fun q => q))
    have HR' := Lib.hid h5
    have HO' := Lib.hid (HO.out.keep (hk5.mono (fun _ _ q => q.elim)))
    clear hk5 h5 HQ HB0 HB1 HB2 HR HO c0 c1 c2 c3 c4 c5 c6 c7 y0 y1 y2 y3 y4 y5 y6 y7 z0 z1 z2 z3 z4 z5 z6 z7 x0 x1 x2 x3 x4 x5 x6 x7 o0 o1 o2 o3 o4 o5 o6 hl0 hl1 hl2
    have HQ := HQ'
    have HB0 := HB0'
    have HB1 := HB1'
    have HB2 := HB2'
    have HR := HR'
    have HO := HO'
    clear HQ' HB0' HB1' HB2' HR' HO'
    have hl2 := HB2.out.lt
    have hl1 := HB1.out.lt
    have hl0 := HB0.out.lt
    obtain ⟨o0, o1, o2, o3, o4, o5, o6⟩ := opC7 HB1.out
    obtain ⟨c0, c1, c2, c3, c4, c5, c6, c7⟩ := HB0.out.rdc
    obtain ⟨y0, y1, y2, y3, y4, y5, y6, y7⟩ := HB2.out.c8
    obtain ⟨z0, z1, z2, z3, z4, z5, z6, z7⟩ := HB2.out.z8
    obtain ⟨x0, x1, x2, x3, x4, x5, x6, x7⟩ := HB0.out.z8
    go_upto_region 24 with fail
    rw [zero256_eq, ← HPGZ.out] at HP2
    rw [HPE4.out]
    refine wp_region_held_drew (S := fun V => Kp (OnB (s0 + 1 + 1)) V0 V) (by kernel_rfl) (Kp.refl _ V0).drew (fun hHeld => ?_)
    have k0 : Kp NoB V0 V0.drew := (Kp.refl NoB V0).drew
    have m0 : Kp (OnB (s0 + 1 + 1)) V0 V0.drew := (Kp.refl _ V0).drew
    have hix : (Try.prog.info? 24).map (·.size) = some (pg.map (Value.int .u8)).length := by rw [List.length_map, HPL.out]; exact info26
    have hu := Try.underlying24
    have hne0 : s0 ≠ s0 + 1 + 1 := by omega
    have hne1 : g1 ≠ s0 + 1 + 1 := by have := HG1.out; omega
    have hne2 : g2 ≠ s0 + 1 + 1 := by have := HG2.out; omega
    generalize V0.drew = T0 at k0 m0 hHeld ⊢
    refine tkS (i := 0) (v := (.agg #[.bool true, .bool p.down, .slice d.fA d.fn d.fc, .slice d.pA d.pn d.pc, .int .i64 p.room, .int .i64 p.steps, .int .i64 p.crash, .int .i64 p.starts])) rfl (Or.inl ⟨by rfl, fun w' hq => by obtain ⟨e0, e1, e2, e3, e4, e5, e6, e7⟩ := (HB0.out.keep hq (fun q => hne0 q)).rdc; go_simp⟩) m0 ?_
    simp only [Act.put, skA, skB, skC]
    refine tkS (i := 1) (v := .agg ((pg.map (Value.int .u8))).toArray) rfl (yieldsIf_load_mid (by rfl) _ _ rfl _ _ rfl (pg.map (Value.int .u8)) _ (fun _ q => blk_rg8 (HP1.out.keep q (fun q => hne1 q))) hu rfl hix) m0 ?_
    simp only [Act.put, skA, skB, skC]
    refine tkS (i := 2) (v := .agg ((pg.map (Value.int .u8))).toArray) rfl (yieldsIf_load_mid (by rfl) _ _ rfl _ _ rfl (pg.map (Value.int .u8)) _ (fun _ q => blk_rg8 (HP2.out.keep q (fun q => hne2 q))) hu rfl hix) m0 ?_
    simp only [Act.put, skA, skB, skC]
    refine tkS (i := 3) (v := .bool true) rfl (Or.inl ⟨by rfl, fun w' hq => eqTrue w' _ _ _ _ rfl rfl HPL.out⟩) m0 ?_
    simp only [Act.put, skA, skB, skC]
    refine tkS (i := 4) (v := (.bool true)) rfl (Or.inl ⟨by rfl, fun w' hq => by go_simp⟩) m0 ?_
    simp only [Act.put, skA, skB, skC]
    refine tkS (i := 5) (v := (.int .i64 4)) rfl (Or.inl ⟨by rfl, fun w' hq => by go_simp⟩) m0 ?_
    simp only [Act.put, skA, skB, skC]
    refine tkS (i := 6) (v := (.int .i64 4)) rfl (Or.inl ⟨by rfl, fun w' hq => by go_simp⟩) m0 ?_
    simp only [Act.put, skA, skB, skC]
    refine tkS (i := 7) (v := (.bool true)) rfl (Or.inl ⟨by rfl, fun w' hq => by go_simp⟩) m0 ?_
    simp only [Act.put, skA, skB, skC]
    refine tkS (i := 8) (v := (.bool true)) rfl (Or.inl ⟨by rfl, fun w' hq => by go_simp⟩) m0 ?_
    simp only [Act.put, skA, skB, skC]
    refine tkS (i := 9) (v := (.bool true)) rfl (Or.inl ⟨by rfl, fun w' hq => by go_simp⟩) m0 ?_
    simp only [Act.put, skA, skB, skC]
    refine tkS (i := 10) (v := (ptrV db)) rfl (Or.inl ⟨by rfl, fun w' hq => by go_simp⟩) m0 ?_
    simp only [Act.put, skA, skB, skC]
    refine tkS (i := 12) (v := (.agg #[.bool true, .bool p.down, .slice d.fA d.fn d.fc, .slice d.pA d.pn d.pc, .int .i64 p.room, .int .i64 p.steps, .int .i64 p.crash, .int .i64 p.starts])) rfl (Or.inl ⟨by rfl, fun w' hq => by obtain ⟨e0, e1, e2, e3, e4, e5, e6, e7⟩ := (HB0.out.keep hq (fun q => hne0 q)).rdc; go_simp⟩) m0 ?_
    simp only [Act.put, skA, skB, skC]
    refine wpAnyH_ready (rs := [11]) (by kernel_rfl) (by simp) ?_
    refine AllReadyH.callR (fun y W' => y = .int .i64 (p.jcount : Int) ∧ Kp NoB V0 W') rfl (by rfl) 14 #[ptrV db] (by first | (go_simp; done) | (go_simp; rfl)) (fun _ _ q => (q.2.mono (fun _ _ z => z.elim))) ((count_q (HQ.out.keep k0)).mono (by rintro e w19 ⟨rfl, rfl⟩; exact ⟨_, rfl, rfl, k0⟩)) ?_ AllReadyH.nil
    rintro y T1 ⟨rfl, k1⟩
    have m1 : Kp (OnB (s0 + 1 + 1)) V0 T1 := k1.mono (fun _ _ z => z.elim)
    simp only [Act.put, skA, skB, skC]
    refine wpAnyH_ready (rs := [13]) (by kernel_rfl) (by simp) ?_
    refine AllReadyH.callR (fun y W' => y = .int .i64 (p.jcount : Int) ∧ Kp NoB V0 W') rfl (by rfl) 73 #[rdV d p] (by first | (go_simp; done) | (go_simp; rfl)) (fun _ _ q => (q.2.mono (fun _ _ z => z.elim))) ((count_rok T1 d p (HR.out.keep k1) HNF.out).mono (by rintro e w19 ⟨rfl, hk⟩; exact ⟨_, rfl, rfl, k1.trans hk (fun _ _ z => z)⟩)) ?_ AllReadyH.nil
    rintro y T2 ⟨rfl, k2⟩
    have m2 : Kp (OnB (s0 + 1 + 1)) V0 T2 := k2.mono (fun _ _ z => z.elim)
    simp only [Act.put, skA, skB, skC]
    refine tkS (i := 14) (v := (.bool true)) rfl (Or.inl ⟨by rfl, fun w' hq => by go_simp⟩) m2 ?_
    simp only [Act.put, skA, skB, skC]
    refine tkS (i := 15) (v := (.bool true)) rfl (Or.inl ⟨by rfl, fun w' hq => by go_simp⟩) m2 ?_
    simp only [Act.put, skA, skB, skC]
    refine tkS (i := 16) (v := (.bool true)) rfl (Or.inl ⟨by rfl, fun w' hq => by go_simp⟩) m2 ?_
    simp only [Act.put, skA, skB, skC]
    refine tkS (i := 17) (v := (ptrV db)) rfl (Or.inl ⟨by rfl, fun w' hq => by go_simp⟩) m2 ?_
    simp only [Act.put, skA, skB, skC]
    refine tkS (i := 19) (v := (.agg #[.bool true, .bool p.down, .slice d.fA d.fn d.fc, .slice d.pA d.pn d.pc, .int .i64 p.room, .int .i64 p.steps, .int .i64 p.crash, .int .i64 p.starts])) rfl (Or.inl ⟨by rfl, fun w' hq => by obtain ⟨e0, e1, e2, e3, e4, e5, e6, e7⟩ := (HB0.out.keep hq (fun q => hne0 q)).rdc; go_simp⟩) m2 ?_
    simp only [Act.put, skA, skB, skC]
    refine wpAnyH_ready (rs := [18]) (by kernel_rfl) (by simp) ?_
    refine AllReadyH.callR (fun y W' => y = .bool p.jhot ∧ Kp NoB V0 W') rfl (by rfl) 15 #[ptrV db] (by first | (go_simp; done) | (go_simp; rfl)) (fun _ _ q => (q.2.mono (fun _ _ z => z.elim))) ((hot_q (HQ.out.keep k2)).mono (by rintro e w19 ⟨rfl, hk⟩; exact ⟨_, rfl, rfl, k2.trans hk (fun _ _ z => z)⟩)) ?_ AllReadyH.nil
    rintro y T3 ⟨rfl, k3⟩
    have m3 : Kp (OnB (s0 + 1 + 1)) V0 T3 := k3.mono (fun _ _ z => z.elim)
    simp only [Act.put, skA, skB, skC]
    refine wpAnyH_ready (rs := [20]) (by kernel_rfl) (by simp) ?_
    refine AllReadyH.callR (fun y W' => y = .bool p.jhot ∧ Kp NoB V0 W') rfl (by rfl) 75 #[rdV d p] (by first | (go_simp; done) | (go_simp; rfl)) (fun _ _ q => (q.2.mono (fun _ _ z => z.elim))) ((hot_rok T3 d p (HR.out.keep k3) HNF.out).mono (by rintro e w19 ⟨rfl, hk⟩; exact ⟨_, rfl, rfl, k3.trans hk (fun _ _ z => z)⟩)) ?_ AllReadyH.nil
    rintro y T4 ⟨rfl, k4⟩
    have m4 : Kp (OnB (s0 + 1 + 1)) V0 T4 := k4.mono (fun _ _ z => z.elim)
    simp only [Act.put, skA, skB, skC]
    refine tkS (i := 21) (v := (.bool true)) rfl (Or.inl ⟨by rfl, fun w' hq => by go_simp⟩) m4 ?_
    simp only [Act.put, skA, skB, skC]
    refine tkS (i := 22) (v := (.bool true)) rfl (Or.inl ⟨by rfl, fun w' hq => by go_simp⟩) m4 ?_
    simp only [Act.put, skA, skB, skC]
    refine wpAnyH_ready (rs := [23]) (by kernel_rfl) (by simp) ?_
    have hb3 := HB2.out.keep k4 (fun q => q)
    have hbe := hb3.whole (rdC d p) rfl
    have hkc : Kp (OnB (s0 + 1 + 1)) T4 (T4.setCells (s0 + 1 + 1) 0 (rdC d p).toList) := Kp.setCells (S := OnB (s0 + 1 + 1)) (.inr rfl) _ _ _ (Kp.refl _ T4)
    refine AllReadyH.storeL rfl (by rfl) (s0 + 1 + 1) 0 (rdC d p) rfl rfl (hb3.thereAll 8 rfl) (by exact infoRd) (rdC_ones d p) (m4.trans hkc (fun _ _ q => q)) ?_ AllReadyH.nil
    generalize T4.setCells (s0 + 1 + 1) 0 (rdC d p).toList = T5 at hbe hkc ⊢
    have m5 := m4.trans hkc (fun _ _ q => q)
    refine tkS (i := 24) (v := (.bool true)) rfl (Or.inl ⟨by rfl, fun w' hq => by go_simp⟩) m5 ?_
    simp only [Act.put, skA, skB, skC]
    refine wpAnyH_done (by kernel_rfl) ?_ _
    have HE0 := Lib.hid hbe
    have HE1 : Hid (Rf T5 d p) := Lib.hid ((HR.out.keep k4).keepB hkc hb3 rdZ_str)
    have HE2 : Hid (Dq S w T5 db p) := Lib.hid (HB.out.fin HS0.out (HQ.out.keep k4) hkc)
    clear hHeld k0 k1 k2 k3 k4 m0 m1 m2 m3 m4 m5 hkc hb3 hbe hix hu
    go_wp2_with fail
    refine bodyPost_ret (ret_cell_tmp rfl _ _ _ _ _ _ rfl HE0.out Try.underlying56 rfl (by exact infoRd) _ rfl) rfl ⟨d, rfl, HE1.out, HE2.out⟩
  by_cases hn2 : (p.jcount : Int) < x.n
  · have hjp : p.jpageE x.n = 4 := by unfold Pl.jpageE; rw [if_neg HD.out, if_pos (.inr hn2)]
    have HPE4 : Hid (PE = 4) := Lib.hid (by rw [← HPE.out, hjp])
    have HPGZ : Hid (pg = zeros 256) := Lib.hid (by rw [← HPG.out]; unfold Pl.jpage; rw [if_neg (by rw [hjp]; decide)])
    clear hjp
    refine wp_region_held_drew (S := fun V => Kp NoB w7 V) (by kernel_rfl) (Kp.refl NoB w7).drew (fun hHeld => ?_)
    have k0 : Kp NoB w7 w7.drew := (Kp.refl NoB w7).drew
    generalize w7.drew = V0 at k0 hHeld ⊢
    refine tkS (i := 0) (v := (.int .i64 0)) rfl (Or.inl ⟨by rfl, fun w' hq => by go_simp⟩) k0 ?_
    simp only [Act.put, skA, skB, skC]
    refine tkS (i := 1) (v := (.bool true)) rfl (Or.inl ⟨by rfl, fun w' hq => by go_simp⟩) k0 ?_
    simp only [Act.put, skA, skB, skC]
    refine tkS (i := 2) (v := (.bool true)) rfl (Or.inl ⟨by rfl, fun w' hq => by go_simp⟩) k0 ?_
    simp only [Act.put, skA, skB, skC]
    refine tkS (i := 3) (v := (.pointer (some ⟨s0 + 1, 1, none⟩))) rfl (Or.inl ⟨by rfl, fun w' hq => by go_simp⟩) k0 ?_
    simp only [Act.put, skA, skB, skC]
    refine tkS (i := 4) (v := (.int .i64 x.n)) rfl (Or.inl ⟨by rfl, fun w' hq => by obtain ⟨_, e1, _⟩ := opC7 (HB1.out.keep hq (fun q => q)); go_simp⟩) k0 ?_
    simp only [Act.put, skA, skB, skC]
    refine tkS (i := 5) (v := (.bool false)) rfl (Or.inl ⟨by rfl, fun w' hq => by go_simp⟩) k0 ?_
    simp only [Act.put, skA, skB, skC]
    refine tkS (i := 6) (v := (.bool false)) rfl (Or.inl ⟨by rfl, fun w' hq => by go_simp⟩) k0 ?_
    simp only [Act.put, skA, skB, skC]
    refine tkS (i := 7) (v := (.pointer (some ⟨s0 + 1, 1, none⟩))) rfl (Or.inl ⟨by rfl, fun w' hq => by go_simp⟩) k0 ?_
    simp only [Act.put, skA, skB, skC]
    refine tkS (i := 8) (v := (.int .i64 x.n)) rfl (Or.inl ⟨by rfl, fun w' hq => by obtain ⟨_, e1, _⟩ := opC7 (HB1.out.keep hq (fun q => q)); go_simp⟩) k0 ?_
    simp only [Act.put, skA, skB, skC]
    refine tkS (i := 9) (v := (.agg #[.bool true, .bool p.down, .slice d.fA d.fn d.fc, .slice d.pA d.pn d.pc, .int .i64 p.room, .int .i64 p.steps, .int .i64 p.crash, .int .i64 p.starts])) rfl (Or.inl ⟨by rfl, fun w' hq => by obtain ⟨e0, e1, e2, e3, e4, e5, e6, e7⟩ := (HB0.out.keep hq (fun q => q)).rdc; go_simp⟩) k0 ?_
    simp only [Act.put, skA, skB, skC]
    refine wpAnyH_ready (rs := [10]) (by kernel_rfl) (by simp) ?_
    refine AllReadyH.callR (fun y W' => y = .int .i64 (p.jcount : Int) ∧ Kp NoB w7 W') rfl (by rfl) 73 #[rdV d p] (by first | (go_simp; done) | (go_simp; rfl)) (fun _ _ q => q.2) ((count_rok V0 d p (HR.out.keep k0) HNF.out).mono (by rintro e w19 ⟨rfl, hk⟩; exact ⟨_, rfl, rfl, k0.trans hk (fun _ _ z => z)⟩)) ?_ AllReadyH.nil
    rintro y V1 ⟨rfl, k1⟩
    simp only [Act.put, skA, skB, skC]
    refine tkS (i := 11) (v := (.bool true)) rfl (Or.inl ⟨by rfl, fun w' hq => by go_simp⟩) k1 ?_
    simp only [Act.put, skA, skB, skC]
    refine tkS (i := 12) (v := (.bool true)) rfl (Or.inl ⟨by rfl, fun w' hq => by go_simp⟩) k1 ?_
    simp only [Act.put, skA, skB, skC]
    refine tkS (i := 13) (v := (.bool true)) rfl (Or.inl ⟨by rfl, fun w' hq => by go_simp⟩) k1 ?_
    simp only [Act.put, skA, skB, skC]
    refine wpAnyH_done (by kernel_rfl) ?_ _
    have hk5 := k1
    clear hHeld k0 k1
    have HP1' := Lib.hid (HP1.out.keep hk5 (fun q => q))
    have HP2' := Lib.hid (HP2.out.keep hk5 (fun q => q))
    clear HP1 HP2
    have HP1 := HP1'
    have HP2 := HP2'
    clear HP1' HP2'
    have h5 := HR.out.keep hk5
    have HKX := Lib.hid (HKW.out.trans hk5 (fun _ _ q => q))
    clear HKW
    have HKW := HKX
    clear HKX
    have HQ' := Lib.hid (HQ.out.keep hk5)
    have HB0' := Lib.hid (HB0.out.keep hk5 (fun q => q))
    have HB1' := Lib.hid (HB1.out.keep hk5 (fun q => q))
    have HB2' := Lib.hid (HB2.out.keep hk5 (fun q => q))
    have HR' := Lib.hid h5
    have HO' := Lib.hid (HO.out.keep (hk5.mono (fun _ _ q => q.elim)))
    clear hk5 h5 HQ HB0 HB1 HB2 HR HO c0 c1 c2 c3 c4 c5 c6 c7 y0 y1 y2 y3 y4 y5 y6 y7 z0 z1 z2 z3 z4 z5 z6 z7 x0 x1 x2 x3 x4 x5 x6 x7 o0 o1 o2 o3 o4 o5 o6 hl0 hl1 hl2
    have HQ := HQ'
    have HB0 := HB0'
    have HB1 := HB1'
    have HB2 := HB2'
    have HR := HR'
    have HO := HO'
    clear HQ' HB0' HB1' HB2' HR' HO'
    have hl2 := HB2.out.lt
    have hl1 := HB1.out.lt
    have hl0 := HB0.out.lt
    obtain ⟨o0, o1, o2, o3, o4, o5, o6⟩ := opC7 HB1.out
    obtain ⟨c0, c1, c2, c3, c4, c5, c6, c7⟩ := HB0.out.rdc
    obtain ⟨y0, y1, y2, y3, y4, y5, y6, y7⟩ := HB2.out.c8
    obtain ⟨z0, z1, z2, z3, z4, z5, z6, z7⟩ := HB2.out.z8
    obtain ⟨x0, x1, x2, x3, x4, x5, x6, x7⟩ := HB0.out.z8
    go_upto_region 24 with fail
    rw [zero256_eq, ← HPGZ.out] at HP2
    rw [HPE4.out]
    refine wp_region_held_drew (S := fun V => Kp (OnB (s0 + 1 + 1)) V1 V) (by kernel_rfl) (Kp.refl _ V1).drew (fun hHeld => ?_)
    have k0 : Kp NoB V1 V1.drew := (Kp.refl NoB V1).drew
    have m0 : Kp (OnB (s0 + 1 + 1)) V1 V1.drew := (Kp.refl _ V1).drew
    have hix : (Try.prog.info? 24).map (·.size) = some (pg.map (Value.int .u8)).length := by rw [List.length_map, HPL.out]; exact info26
    have hu := Try.underlying24
    have hne0 : s0 ≠ s0 + 1 + 1 := by omega
    have hne1 : g1 ≠ s0 + 1 + 1 := by have := HG1.out; omega
    have hne2 : g2 ≠ s0 + 1 + 1 := by have := HG2.out; omega
    generalize V1.drew = T0 at k0 m0 hHeld ⊢
    refine tkS (i := 0) (v := (.agg #[.bool true, .bool p.down, .slice d.fA d.fn d.fc, .slice d.pA d.pn d.pc, .int .i64 p.room, .int .i64 p.steps, .int .i64 p.crash, .int .i64 p.starts])) rfl (Or.inl ⟨by rfl, fun w' hq => by obtain ⟨e0, e1, e2, e3, e4, e5, e6, e7⟩ := (HB0.out.keep hq (fun q => hne0 q)).rdc; go_simp⟩) m0 ?_
    simp only [Act.put, skA, skB, skC]
    refine tkS (i := 1) (v := .agg ((pg.map (Value.int .u8))).toArray) rfl (yieldsIf_load_mid (by rfl) _ _ rfl _ _ rfl (pg.map (Value.int .u8)) _ (fun _ q => blk_rg8 (HP1.out.keep q (fun q => hne1 q))) hu rfl hix) m0 ?_
    simp only [Act.put, skA, skB, skC]
    refine tkS (i := 2) (v := .agg ((pg.map (Value.int .u8))).toArray) rfl (yieldsIf_load_mid (by rfl) _ _ rfl _ _ rfl (pg.map (Value.int .u8)) _ (fun _ q => blk_rg8 (HP2.out.keep q (fun q => hne2 q))) hu rfl hix) m0 ?_
    simp only [Act.put, skA, skB, skC]
    refine tkS (i := 3) (v := .bool true) rfl (Or.inl ⟨by rfl, fun w' hq => eqTrue w' _ _ _ _ rfl rfl HPL.out⟩) m0 ?_
    simp only [Act.put, skA, skB, skC]
    refine tkS (i := 4) (v := (.bool true)) rfl (Or.inl ⟨by rfl, fun w' hq => by go_simp⟩) m0 ?_
    simp only [Act.put, skA, skB, skC]
    refine tkS (i := 5) (v := (.int .i64 4)) rfl (Or.inl ⟨by rfl, fun w' hq => by go_simp⟩) m0 ?_
    simp only [Act.put, skA, skB, skC]
    refine tkS (i := 6) (v := (.int .i64 4)) rfl (Or.inl ⟨by rfl, fun w' hq => by go_simp⟩) m0 ?_
    simp only [Act.put, skA, skB, skC]
    refine tkS (i := 7) (v := (.bool true)) rfl (Or.inl ⟨by rfl, fun w' hq => by go_simp⟩) m0 ?_
    simp only [Act.put, skA, skB, skC]
    refine tkS (i := 8) (v := (.bool true)) rfl (Or.inl ⟨by rfl, fun w' hq => by go_simp⟩) m0 ?_
    simp only [Act.put, skA, skB, skC]
    refine tkS (i := 9) (v := (.bool true)) rfl (Or.inl ⟨by rfl, fun w' hq => by go_simp⟩) m0 ?_
    simp only [Act.put, skA, skB, skC]
    refine tkS (i := 10) (v := (ptrV db)) rfl (Or.inl ⟨by rfl, fun w' hq => by go_simp⟩) m0 ?_
    simp only [Act.put, skA, skB, skC]
    refine tkS (i := 12) (v := (.agg #[.bool true, .bool p.down, .slice d.fA d.fn d.fc, .slice d.pA d.pn d.pc, .int .i64 p.room, .int .i64 p.steps, .int .i64 p.crash, .int .i64 p.starts])) rfl (Or.inl ⟨by rfl, fun w' hq => by obtain ⟨e0, e1, e2, e3, e4, e5, e6, e7⟩ := (HB0.out.keep hq (fun q => hne0 q)).rdc; go_simp⟩) m0 ?_
    simp only [Act.put, skA, skB, skC]
    refine wpAnyH_ready (rs := [11]) (by kernel_rfl) (by simp) ?_
    refine AllReadyH.callR (fun y W' => y = .int .i64 (p.jcount : Int) ∧ Kp NoB V1 W') rfl (by rfl) 14 #[ptrV db] (by first | (go_simp; done) | (go_simp; rfl)) (fun _ _ q => (q.2.mono (fun _ _ z => z.elim))) ((count_q (HQ.out.keep k0)).mono (by rintro e w19 ⟨rfl, rfl⟩; exact ⟨_, rfl, rfl, k0⟩)) ?_ AllReadyH.nil
    rintro y T1 ⟨rfl, k1⟩
    have m1 : Kp (OnB (s0 + 1 + 1)) V1 T1 := k1.mono (fun _ _ z => z.elim)
    simp only [Act.put, skA, skB, skC]
    refine wpAnyH_ready (rs := [13]) (by kernel_rfl) (by simp) ?_
    refine AllReadyH.callR (fun y W' => y = .int .i64 (p.jcount : Int) ∧ Kp NoB V1 W') rfl (by rfl) 73 #[rdV d p] (by first | (go_simp; done) | (go_simp; rfl)) (fun _ _ q => (q.2.mono (fun _ _ z => z.elim))) ((count_rok T1 d p (HR.out.keep k1) HNF.out).mono (by rintro e w19 ⟨rfl, hk⟩; exact ⟨_, rfl, rfl, k1.trans hk (fun _ _ z => z)⟩)) ?_ AllReadyH.nil
    rintro y T2 ⟨rfl, k2⟩
    have m2 : Kp (OnB (s0 + 1 + 1)) V1 T2 := k2.mono (fun _ _ z => z.elim)
    simp only [Act.put, skA, skB, skC]
    refine tkS (i := 14) (v := (.bool true)) rfl (Or.inl ⟨by rfl, fun w' hq => by go_simp⟩) m2 ?_
    simp only [Act.put, skA, skB, skC]
    refine tkS (i := 15) (v := (.bool true)) rfl (Or.inl ⟨by rfl, fun w' hq => by go_simp⟩) m2 ?_
    simp only [Act.put, skA, skB, skC]
    refine tkS (i := 16) (v := (.bool true)) rfl (Or.inl ⟨by rfl, fun w' hq => by go_simp⟩) m2 ?_
    simp only [Act.put, skA, skB, skC]
    refine tkS (i := 17) (v := (ptrV db)) rfl (Or.inl ⟨by rfl, fun w' hq => by go_simp⟩) m2 ?_
    simp only [Act.put, skA, skB, skC]
    refine tkS (i := 19) (v := (.agg #[.bool true, .bool p.down, .slice d.fA d.fn d.fc, .slice d.pA d.pn d.pc, .int .i64 p.room, .int .i64 p.steps, .int .i64 p.crash, .int .i64 p.starts])) rfl (Or.inl ⟨by rfl, fun w' hq => by obtain ⟨e0, e1, e2, e3, e4, e5, e6, e7⟩ := (HB0.out.keep hq (fun q => hne0 q)).rdc; go_simp⟩) m2 ?_
    simp only [Act.put, skA, skB, skC]
    refine wpAnyH_ready (rs := [18]) (by kernel_rfl) (by simp) ?_
    refine AllReadyH.callR (fun y W' => y = .bool p.jhot ∧ Kp NoB V1 W') rfl (by rfl) 15 #[ptrV db] (by first | (go_simp; done) | (go_simp; rfl)) (fun _ _ q => (q.2.mono (fun _ _ z => z.elim))) ((hot_q (HQ.out.keep k2)).mono (by rintro e w19 ⟨rfl, hk⟩; exact ⟨_, rfl, rfl, k2.trans hk (fun _ _ z => z)⟩)) ?_ AllReadyH.nil
    rintro y T3 ⟨rfl, k3⟩
    have m3 : Kp (OnB (s0 + 1 + 1)) V1 T3 := k3.mono (fun _ _ z => z.elim)
    simp only [Act.put, skA, skB, skC]
    refine wpAnyH_ready (rs := [20]) (by kernel_rfl) (by simp) ?_
    refine AllReadyH.callR (fun y W' => y = .bool p.jhot ∧ Kp NoB V1 W') rfl (by rfl) 75 #[rdV d p] (by first | (go_simp; done) | (go_simp; rfl)) (fun _ _ q => (q.2.mono (fun _ _ z => z.elim))) ((hot_rok T3 d p (HR.out.keep k3) HNF.out).mono (by rintro e w19 ⟨rfl, hk⟩; exact ⟨_, rfl, rfl, k3.trans hk (fun _ _ z => z)⟩)) ?_ AllReadyH.nil
    rintro y T4 ⟨rfl, k4⟩
    have m4 : Kp (OnB (s0 + 1 + 1)) V1 T4 := k4.mono (fun _ _ z => z.elim)
    simp only [Act.put, skA, skB, skC]
    refine tkS (i := 21) (v := (.bool true)) rfl (Or.inl ⟨by rfl, fun w' hq => by go_simp⟩) m4 ?_
    simp only [Act.put, skA, skB, skC]
    refine tkS (i := 22) (v := (.bool true)) rfl (Or.inl ⟨by rfl, fun w' hq => by go_simp⟩) m4 ?_
    simp only [Act.put, skA, skB, skC]
    refine wpAnyH_ready (rs := [23]) (by kernel_rfl) (by simp) ?_
    have hb3 := HB2.out.keep k4 (fun q => q)
    have hbe := hb3.whole (rdC d p) rfl
    have hkc : Kp (OnB (s0 + 1 + 1)) T4 (T4.setCells (s0 + 1 + 1) 0 (rdC d p).toList) := Kp.setCells (S := OnB (s0 + 1 + 1)) (.inr rfl) _ _ _ (Kp.refl _ T4)
    refine AllReadyH.storeL rfl (by rfl) (s0 + 1 + 1) 0 (rdC d p) rfl rfl (hb3.thereAll 8 rfl) (by exact infoRd) (rdC_ones d p) (m4.trans hkc (fun _ _ q => q)) ?_ AllReadyH.nil
    generalize T4.setCells (s0 + 1 + 1) 0 (rdC d p).toList = T5 at hbe hkc ⊢
    have m5 := m4.trans hkc (fun _ _ q => q)
    refine tkS (i := 24) (v := (.bool true)) rfl (Or.inl ⟨by rfl, fun w' hq => by go_simp⟩) m5 ?_
    simp only [Act.put, skA, skB, skC]
    refine wpAnyH_done (by kernel_rfl) ?_ _
    have HE0 := Lib.hid hbe
    have HE1 : Hid (Rf T5 d p) := Lib.hid ((HR.out.keep k4).keepB hkc hb3 rdZ_str)
    have HE2 : Hid (Dq S w T5 db p) := Lib.hid (HB.out.fin HS0.out (HQ.out.keep k4) hkc)
    clear hHeld k0 k1 k2 k3 k4 m0 m1 m2 m3 m4 m5 hkc hb3 hbe hix hu
    go_wp2_with fail
    refine bodyPost_ret (ret_cell_tmp rfl _ _ _ _ _ _ rfl HE0.out Try.underlying56 rfl (by exact infoRd) _ rfl) rfl ⟨d, rfl, HE1.out, HE2.out⟩
  have hjp : p.jpageE x.n = 0 := by unfold Pl.jpageE; rw [if_neg HD.out, if_neg (by omega)]
  have HPE0 : Hid (PE = 0) := Lib.hid (by rw [← HPE.out, hjp])
  have HPGZ : Hid (pg = pageOf (p.seen nmDb) x.n.toNat) := Lib.hid (by rw [← HPG.out]; unfold Pl.jpage; rw [if_pos hjp])
  clear hjp
  refine wp_region_held_drew (S := fun V => Kp NoB w7 V) (by kernel_rfl) (Kp.refl NoB w7).drew (fun hHeld => ?_)
  have k0 : Kp NoB w7 w7.drew := (Kp.refl NoB w7).drew
  generalize w7.drew = V0 at k0 hHeld ⊢
  refine tkS (i := 0) (v := (.int .i64 0)) rfl (Or.inl ⟨by rfl, fun w' hq => by go_simp⟩) k0 ?_
  simp only [Act.put, skA, skB, skC]
  refine tkS (i := 1) (v := (.bool true)) rfl (Or.inl ⟨by rfl, fun w' hq => by go_simp⟩) k0 ?_
  simp only [Act.put, skA, skB, skC]
  refine tkS (i := 2) (v := (.bool true)) rfl (Or.inl ⟨by rfl, fun w' hq => by go_simp⟩) k0 ?_
  simp only [Act.put, skA, skB, skC]
  refine tkS (i := 3) (v := (.pointer (some ⟨s0 + 1, 1, none⟩))) rfl (Or.inl ⟨by rfl, fun w' hq => by go_simp⟩) k0 ?_
  simp only [Act.put, skA, skB, skC]
  refine tkS (i := 4) (v := (.int .i64 x.n)) rfl (Or.inl ⟨by rfl, fun w' hq => by obtain ⟨_, e1, _⟩ := opC7 (HB1.out.keep hq (fun q => q)); go_simp⟩) k0 ?_
  simp only [Act.put, skA, skB, skC]
  refine tkS (i := 5) (v := (.bool false)) rfl (Or.inl ⟨by rfl, fun w' hq => by go_simp⟩) k0 ?_
  simp only [Act.put, skA, skB, skC]
  refine tkS (i := 6) (v := (.bool false)) rfl (Or.inl ⟨by rfl, fun w' hq => by go_simp⟩) k0 ?_
  simp only [Act.put, skA, skB, skC]
  refine tkS (i := 7) (v := (.pointer (some ⟨s0 + 1, 1, none⟩))) rfl (Or.inl ⟨by rfl, fun w' hq => by go_simp⟩) k0 ?_
  simp only [Act.put, skA, skB, skC]
  refine tkS (i := 8) (v := (.int .i64 x.n)) rfl (Or.inl ⟨by rfl, fun w' hq => by obtain ⟨_, e1, _⟩ := opC7 (HB1.out.keep hq (fun q => q)); go_simp⟩) k0 ?_
  simp only [Act.put, skA, skB, skC]
  refine tkS (i := 9) (v := (.agg #[.bool true, .bool p.down, .slice d.fA d.fn d.fc, .slice d.pA d.pn d.pc, .int .i64 p.room, .int .i64 p.steps, .int .i64 p.crash, .int .i64 p.starts])) rfl (Or.inl ⟨by rfl, fun w' hq => by obtain ⟨e0, e1, e2, e3, e4, e5, e6, e7⟩ := (HB0.out.keep hq (fun q => q)).rdc; go_simp⟩) k0 ?_
  simp only [Act.put, skA, skB, skC]
  refine wpAnyH_ready (rs := [10]) (by kernel_rfl) (by simp) ?_
  refine AllReadyH.callR (fun y W' => y = .int .i64 (p.jcount : Int) ∧ Kp NoB w7 W') rfl (by rfl) 73 #[rdV d p] (by first | (go_simp; done) | (go_simp; rfl)) (fun _ _ q => q.2) ((count_rok V0 d p (HR.out.keep k0) HNF.out).mono (by rintro e w19 ⟨rfl, hk⟩; exact ⟨_, rfl, rfl, k0.trans hk (fun _ _ z => z)⟩)) ?_ AllReadyH.nil
  rintro y V1 ⟨rfl, k1⟩
  simp only [Act.put, skA, skB, skC]
  refine tkS (i := 11) (v := (.bool false)) rfl (Or.inl ⟨by rfl, fun w' hq => by go_simp⟩) k1 ?_
  simp only [Act.put, skA, skB, skC]
  refine tkS (i := 12) (v := (.bool false)) rfl (Or.inl ⟨by rfl, fun w' hq => by go_simp⟩) k1 ?_
  simp only [Act.put, skA, skB, skC]
  refine tkS (i := 13) (v := (.bool false)) rfl (Or.inl ⟨by rfl, fun w' hq => by go_simp⟩) k1 ?_
  simp only [Act.put, skA, skB, skC]
  refine wpAnyH_done (by kernel_rfl) ?_ _
  have hk5 := k1
  clear hHeld k0 k1
  have HP1' := Lib.hid (HP1.out.keep hk5 (fun q => q))
  have HP2' := Lib.hid (HP2.out.keep hk5 (fun q => q))
  clear HP1 HP2
  have HP1 := HP1'
  have HP2 := HP2'
  clear HP1' HP2'
  have h5 := HR.out.keep hk5
  have HKX := Lib.hid (HKW.out.trans hk5 (fun _ _ q => q))
  clear HKW
  have HKW := HKX
  clear HKX
  have HQ' := Lib.hid (HQ.out.keep hk5)
  have HB0' := Lib.hid (HB0.out.keep hk5 (fun q => q))
  have HB1' := Lib.hid (HB1.out.keep hk5 (fun q => q))
  have HB2' := Lib.hid (HB2.out.keep hk5 (fun q => q))
  have HR' := Lib.hid h5
  have HO' := Lib.hid (HO.out.keep (hk5.mono (fun _ _ q => q.elim)))
  clear hk5 h5 HQ HB0 HB1 HB2 HR HO c0 c1 c2 c3 c4 c5 c6 c7 y0 y1 y2 y3 y4 y5 y6 y7 z0 z1 z2 z3 z4 z5 z6 z7 x0 x1 x2 x3 x4 x5 x6 x7 o0 o1 o2 o3 o4 o5 o6 hl0 hl1 hl2
  have HQ := HQ'
  have HB0 := HB0'
  have HB1 := HB1'
  have HB2 := HB2'
  have HR := HR'
  have HO := HO'
  clear HQ' HB0' HB1' HB2' HR' HO'
  have hl2 := HB2.out.lt
  have hl1 := HB1.out.lt
  have hl0 := HB0.out.lt
  obtain ⟨o0, o1, o2, o3, o4, o5, o6⟩ := opC7 HB1.out
  obtain ⟨c0, c1, c2, c3, c4, c5, c6, c7⟩ := HB0.out.rdc
  obtain ⟨y0, y1, y2, y3, y4, y5, y6, y7⟩ := HB2.out.c8
  obtain ⟨z0, z1, z2, z3, z4, z5, z6, z7⟩ := HB2.out.z8
  obtain ⟨x0, x1, x2, x3, x4, x5, x6, x7⟩ := HB0.out.z8
  go_upto_region 23 with fail
  have hlk := (HR.out.look nmDb).1
  refine wp_region_held_drew (S := fun V => Kp (OnB g2) V1 V) (by kernel_rfl) (Kp.refl _ V1).drew (fun hHeld => ?_)
  have k0 : Kp NoB V1 V1.drew := (Kp.refl NoB V1).drew
  have m0 : Kp (OnB g2) V1 V1.drew := (Kp.refl _ V1).drew
  have hne0 : s0 ≠ g2 := by have := HG2.out; omega
  have hne1 : s0 + 1 ≠ g2 := by have := HG2.out; omega
  have HLK := Lib.hid hlk
  have HNB : Hid (1 ≤ x.n ∧ x.n ≤ 1099511627776) := Lib.hid (by have := jcount_le hlk.1; omega)
  clear hlk
  generalize V1.drew = U0 at k0 m0 hHeld ⊢
  refine tkS (i := 0) (v := (.agg #[.bool true, .bool p.down, .slice d.fA d.fn d.fc, .slice d.pA d.pn d.pc, .int .i64 p.room, .int .i64 p.steps, .int .i64 p.crash, .int .i64 p.starts])) rfl (Or.inl ⟨by rfl, fun w' hq => by obtain ⟨e0, e1, e2, e3, e4, e5, e6, e7⟩ := (HB0.out.keep hq (fun q => hne0 q)).rdc; go_simp⟩) m0 ?_
  simp only [Act.put, skA, skB, skC]
  refine tkS (i := 2) (v := (.pointer (some ⟨s0 + 1, 1, none⟩))) rfl (Or.inl ⟨by rfl, fun w' hq => by go_simp⟩) m0 ?_
  simp only [Act.put, skA, skB, skC]
  refine tkS (i := 3) (v := (.int .i64 x.n)) rfl (Or.inl ⟨by rfl, fun w' hq => by obtain ⟨_, e1, _⟩ := opC7 (HB1.out.keep hq (fun q => hne1 q)); go_simp⟩) m0 ?_
  simp only [Act.put, skA, skB, skC]
  refine wpAnyH_ready (rs := [1]) (by kernel_rfl) (by simp) ?_
  refine AllReadyH.callR (fun y W' => y = .string (strOf (p.seen nmDb)) ∧ Kp NoB V1 W') rfl (by rfl) 29 #[rdV d p, .string ⟨#[100, 98]⟩] (by first | (go_simp; done) | (go_simp; rfl)) (fun _ _ q => (q.2.mono (fun _ _ z => z.elim))) ((seen_ok U0 d p nmDb (HR.out.keep k0) HNF.out).mono (by rintro e w19 ⟨rfl, hk⟩; exact ⟨_, rfl, rfl, k0.trans hk (fun _ _ z => z)⟩)) ?_ AllReadyH.nil
  rintro y U1 ⟨rfl, k1⟩
  simp only [Act.put, skA, skB, skC]
  refine wpAnyH_ready (rs := [4]) (by kernel_rfl) (by simp) ?_
  refine AllReadyH.callR (fun y W' => y = .agg (bytesV pg) ∧ Kp NoB V1 W') rfl (by rfl) 74 #[.string (strOf (p.seen nmDb)), .int .i64 x.n] (by first | (go_simp; done) | (go_simp; rfl)) (fun _ _ q => (q.2.mono (fun _ _ z => z.elim))) ((pageof_rok U1 (p.seen nmDb) x.n HLK.out.2 (by have := HLK.out.1; omega) HNB.out).mono (by rintro e w19 ⟨rfl, hk⟩; exact ⟨_, rfl, by rw [HPGZ.out], k1.trans hk (fun _ _ z => z)⟩)) ?_ AllReadyH.nil
  rintro y U2 ⟨rfl, k2⟩
  simp only [Act.put, skA, skB, skC]
  refine wpAnyH_ready (rs := [5]) (by kernel_rfl) (by simp) ?_
  have hb3 := HP2.out.keep k2 (fun q => q)
  have hbe := hb3.whole (bytesV pg) (by rw [hps, hzs])
  have hkc : Kp (OnB g2) U2 (U2.setCells g2 0 (bytesV pg).toList) := Kp.setCells (S := OnB g2) (.inr rfl) _ _ _ (Kp.refl _ U2)
  have m3 : Kp (OnB g2) V1 (U2.setCells g2 0 (bytesV pg).toList) := (k2.mono (fun _ _ z => z.elim)).trans hkc (fun _ _ q => q)
  refine AllReadyH.storeL rfl (by rfl) g2 0 (bytesV pg) rfl rfl (hb3.thereAll _ (by rw [hps, hzs])) (by rw [hps]; exact info26) hpo m3 ?_ AllReadyH.nil
  generalize U2.setCells g2 0 (bytesV pg).toList = U3 at hbe hkc m3 ⊢
  refine wpAnyH_done (by kernel_rfl) ?_ _
  have hkx : Kp NoB w3 U3 := (HKW.out.mono (S' := OnB g2) (fun _ _ z => z.elim)).trans m3 (fun _ _ q => q) |>.mono (fun i hi q => by have q' : i = g2 := q; have := HG3.out; omega)
  have hp1 := HP1.out.keep m3 (fun q => HG4.out q)
  clear hHeld k0 k1 k2 m0 hkc hb3 HP1 HP2 HQ HB0 HB1 HB2 HR HO HKW
  have HP1 := Lib.hid hp1
  have HP2 := Lib.hid hbe
  have hk := hkx
  have hq4 := HB.out.q.keep hk
  clear hp1 hbe m3 hkx
  have HQ := Lib.hid hq4
  have HK34 := Lib.hid hk
  obtain ⟨_, b0, b1, b2, r, o⟩ := HB.out.to hq4.kp
  have HB0 := Lib.hid b0
  have HB1 := Lib.hid b1
  have HB2 := Lib.hid b2
  have HR := Lib.hid r
  have HO := Lib.hid o
  clear hk hq4 b0 b1 b2 r o c0 c1 c2 c3 c4 c5 c6 c7 y0 y1 y2 y3 y4 y5 y6 y7 z0 z1 z2 z3 z4 z5 z6 z7 x0 x1 x2 x3 x4 x5 x6 x7 o0 o1 o2 o3 o4 o5 o6 hl0 hl1 hl2
  have hl2 := HB2.out.lt
  have hl1 := HB1.out.lt
  have hl0 := HB0.out.lt
  obtain ⟨o0, o1, o2, o3, o4, o5, o6⟩ := opC7 HB1.out
  obtain ⟨c0, c1, c2, c3, c4, c5, c6, c7⟩ := HB0.out.rdc
  obtain ⟨y0, y1, y2, y3, y4, y5, y6, y7⟩ := HB2.out.c8
  obtain ⟨z0, z1, z2, z3, z4, z5, z6, z7⟩ := HB2.out.z8
  obtain ⟨x0, x1, x2, x3, x4, x5, x6, x7⟩ := HB0.out.z8
  go_upto_region 24 with fail
  rw [HPE0.out]
  refine wp_region_held_drew (S := fun V => Kp (OnB (s0 + 1 + 1)) U3 V) (by kernel_rfl) (Kp.refl _ U3).drew (fun hHeld => ?_)
  have k0 : Kp NoB U3 U3.drew := (Kp.refl NoB U3).drew
  have m0 : Kp (OnB (s0 + 1 + 1)) U3 U3.drew := (Kp.refl _ U3).drew
  have hix : (Try.prog.info? 24).map (·.size) = some (pg.map (Value.int .u8)).length := by rw [List.length_map, HPL.out]; exact info26
  have hu := Try.underlying24
  have hne0 : s0 ≠ s0 + 1 + 1 := by omega
  have hne1 : g1 ≠ s0 + 1 + 1 := by have := HG1.out; omega
  have hne2 : g2 ≠ s0 + 1 + 1 := by have := HG2.out; omega
  generalize U3.drew = T0 at k0 m0 hHeld ⊢
  refine tkS (i := 0) (v := (.agg #[.bool true, .bool p.down, .slice d.fA d.fn d.fc, .slice d.pA d.pn d.pc, .int .i64 p.room, .int .i64 p.steps, .int .i64 p.crash, .int .i64 p.starts])) rfl (Or.inl ⟨by rfl, fun w' hq => by obtain ⟨e0, e1, e2, e3, e4, e5, e6, e7⟩ := (HB0.out.keep hq (fun q => hne0 q)).rdc; go_simp⟩) m0 ?_
  simp only [Act.put, skA, skB, skC]
  refine tkS (i := 1) (v := .agg ((pg.map (Value.int .u8))).toArray) rfl (yieldsIf_load_mid (by rfl) _ _ rfl _ _ rfl (pg.map (Value.int .u8)) _ (fun _ q => blk_rg8 (HP1.out.keep q (fun q => hne1 q))) hu rfl hix) m0 ?_
  simp only [Act.put, skA, skB, skC]
  refine tkS (i := 2) (v := .agg ((pg.map (Value.int .u8))).toArray) rfl (yieldsIf_load_mid (by rfl) _ _ rfl _ _ rfl (pg.map (Value.int .u8)) _ (fun _ q => blk_rg8 (HP2.out.keep q (fun q => hne2 q))) hu rfl hix) m0 ?_
  simp only [Act.put, skA, skB, skC]
  refine tkS (i := 3) (v := .bool true) rfl (Or.inl ⟨by rfl, fun w' hq => eqTrue w' _ _ _ _ rfl rfl HPL.out⟩) m0 ?_
  simp only [Act.put, skA, skB, skC]
  refine tkS (i := 4) (v := (.bool true)) rfl (Or.inl ⟨by rfl, fun w' hq => by go_simp⟩) m0 ?_
  simp only [Act.put, skA, skB, skC]
  refine tkS (i := 5) (v := (.int .i64 0)) rfl (Or.inl ⟨by rfl, fun w' hq => by go_simp⟩) m0 ?_
  simp only [Act.put, skA, skB, skC]
  refine tkS (i := 6) (v := (.int .i64 0)) rfl (Or.inl ⟨by rfl, fun w' hq => by go_simp⟩) m0 ?_
  simp only [Act.put, skA, skB, skC]
  refine tkS (i := 7) (v := (.bool true)) rfl (Or.inl ⟨by rfl, fun w' hq => by go_simp⟩) m0 ?_
  simp only [Act.put, skA, skB, skC]
  refine tkS (i := 8) (v := (.bool true)) rfl (Or.inl ⟨by rfl, fun w' hq => by go_simp⟩) m0 ?_
  simp only [Act.put, skA, skB, skC]
  refine tkS (i := 9) (v := (.bool true)) rfl (Or.inl ⟨by rfl, fun w' hq => by go_simp⟩) m0 ?_
  simp only [Act.put, skA, skB, skC]
  refine tkS (i := 10) (v := (ptrV db)) rfl (Or.inl ⟨by rfl, fun w' hq => by go_simp⟩) m0 ?_
  simp only [Act.put, skA, skB, skC]
  refine tkS (i := 12) (v := (.agg #[.bool true, .bool p.down, .slice d.fA d.fn d.fc, .slice d.pA d.pn d.pc, .int .i64 p.room, .int .i64 p.steps, .int .i64 p.crash, .int .i64 p.starts])) rfl (Or.inl ⟨by rfl, fun w' hq => by obtain ⟨e0, e1, e2, e3, e4, e5, e6, e7⟩ := (HB0.out.keep hq (fun q => hne0 q)).rdc; go_simp⟩) m0 ?_
  simp only [Act.put, skA, skB, skC]
  refine wpAnyH_ready (rs := [11]) (by kernel_rfl) (by simp) ?_
  refine AllReadyH.callR (fun y W' => y = .int .i64 (p.jcount : Int) ∧ Kp NoB U3 W') rfl (by rfl) 14 #[ptrV db] (by first | (go_simp; done) | (go_simp; rfl)) (fun _ _ q => (q.2.mono (fun _ _ z => z.elim))) ((count_q (HQ.out.keep k0)).mono (by rintro e w19 ⟨rfl, rfl⟩; exact ⟨_, rfl, rfl, k0⟩)) ?_ AllReadyH.nil
  rintro y T1 ⟨rfl, k1⟩
  have m1 : Kp (OnB (s0 + 1 + 1)) U3 T1 := k1.mono (fun _ _ z => z.elim)
  simp only [Act.put, skA, skB, skC]
  refine wpAnyH_ready (rs := [13]) (by kernel_rfl) (by simp) ?_
  refine AllReadyH.callR (fun y W' => y = .int .i64 (p.jcount : Int) ∧ Kp NoB U3 W') rfl (by rfl) 73 #[rdV d p] (by first | (go_simp; done) | (go_simp; rfl)) (fun _ _ q => (q.2.mono (fun _ _ z => z.elim))) ((count_rok T1 d p (HR.out.keep k1) HNF.out).mono (by rintro e w19 ⟨rfl, hk⟩; exact ⟨_, rfl, rfl, k1.trans hk (fun _ _ z => z)⟩)) ?_ AllReadyH.nil
  rintro y T2 ⟨rfl, k2⟩
  have m2 : Kp (OnB (s0 + 1 + 1)) U3 T2 := k2.mono (fun _ _ z => z.elim)
  simp only [Act.put, skA, skB, skC]
  refine tkS (i := 14) (v := (.bool true)) rfl (Or.inl ⟨by rfl, fun w' hq => by go_simp⟩) m2 ?_
  simp only [Act.put, skA, skB, skC]
  refine tkS (i := 15) (v := (.bool true)) rfl (Or.inl ⟨by rfl, fun w' hq => by go_simp⟩) m2 ?_
  simp only [Act.put, skA, skB, skC]
  refine tkS (i := 16) (v := (.bool true)) rfl (Or.inl ⟨by rfl, fun w' hq => by go_simp⟩) m2 ?_
  simp only [Act.put, skA, skB, skC]
  refine tkS (i := 17) (v := (ptrV db)) rfl (Or.inl ⟨by rfl, fun w' hq => by go_simp⟩) m2 ?_
  simp only [Act.put, skA, skB, skC]
  refine tkS (i := 19) (v := (.agg #[.bool true, .bool p.down, .slice d.fA d.fn d.fc, .slice d.pA d.pn d.pc, .int .i64 p.room, .int .i64 p.steps, .int .i64 p.crash, .int .i64 p.starts])) rfl (Or.inl ⟨by rfl, fun w' hq => by obtain ⟨e0, e1, e2, e3, e4, e5, e6, e7⟩ := (HB0.out.keep hq (fun q => hne0 q)).rdc; go_simp⟩) m2 ?_
  simp only [Act.put, skA, skB, skC]
  refine wpAnyH_ready (rs := [18]) (by kernel_rfl) (by simp) ?_
  refine AllReadyH.callR (fun y W' => y = .bool p.jhot ∧ Kp NoB U3 W') rfl (by rfl) 15 #[ptrV db] (by first | (go_simp; done) | (go_simp; rfl)) (fun _ _ q => (q.2.mono (fun _ _ z => z.elim))) ((hot_q (HQ.out.keep k2)).mono (by rintro e w19 ⟨rfl, hk⟩; exact ⟨_, rfl, rfl, k2.trans hk (fun _ _ z => z)⟩)) ?_ AllReadyH.nil
  rintro y T3 ⟨rfl, k3⟩
  have m3 : Kp (OnB (s0 + 1 + 1)) U3 T3 := k3.mono (fun _ _ z => z.elim)
  simp only [Act.put, skA, skB, skC]
  refine wpAnyH_ready (rs := [20]) (by kernel_rfl) (by simp) ?_
  refine AllReadyH.callR (fun y W' => y = .bool p.jhot ∧ Kp NoB U3 W') rfl (by rfl) 75 #[rdV d p] (by first | (go_simp; done) | (go_simp; rfl)) (fun _ _ q => (q.2.mono (fun _ _ z => z.elim))) ((hot_rok T3 d p (HR.out.keep k3) HNF.out).mono (by rintro e w19 ⟨rfl, hk⟩; exact ⟨_, rfl, rfl, k3.trans hk (fun _ _ z => z)⟩)) ?_ AllReadyH.nil
  rintro y T4 ⟨rfl, k4⟩
  have m4 : Kp (OnB (s0 + 1 + 1)) U3 T4 := k4.mono (fun _ _ z => z.elim)
  simp only [Act.put, skA, skB, skC]
  refine tkS (i := 21) (v := (.bool true)) rfl (Or.inl ⟨by rfl, fun w' hq => by go_simp⟩) m4 ?_
  simp only [Act.put, skA, skB, skC]
  refine tkS (i := 22) (v := (.bool true)) rfl (Or.inl ⟨by rfl, fun w' hq => by go_simp⟩) m4 ?_
  simp only [Act.put, skA, skB, skC]
  refine wpAnyH_ready (rs := [23]) (by kernel_rfl) (by simp) ?_
  have hb3 := HB2.out.keep k4 (fun q => q)
  have hbe := hb3.whole (rdC d p) rfl
  have hkc : Kp (OnB (s0 + 1 + 1)) T4 (T4.setCells (s0 + 1 + 1) 0 (rdC d p).toList) := Kp.setCells (S := OnB (s0 + 1 + 1)) (.inr rfl) _ _ _ (Kp.refl _ T4)
  refine AllReadyH.storeL rfl (by rfl) (s0 + 1 + 1) 0 (rdC d p) rfl rfl (hb3.thereAll 8 rfl) (by exact infoRd) (rdC_ones d p) (m4.trans hkc (fun _ _ q => q)) ?_ AllReadyH.nil
  generalize T4.setCells (s0 + 1 + 1) 0 (rdC d p).toList = T5 at hbe hkc ⊢
  have m5 := m4.trans hkc (fun _ _ q => q)
  refine tkS (i := 24) (v := (.bool true)) rfl (Or.inl ⟨by rfl, fun w' hq => by go_simp⟩) m5 ?_
  simp only [Act.put, skA, skB, skC]
  refine wpAnyH_done (by kernel_rfl) ?_ _
  have HE0 := Lib.hid hbe
  have HE1 : Hid (Rf T5 d p) := Lib.hid ((HR.out.keep k4).keepB hkc hb3 rdZ_str)
  have HE2 : Hid (Dq S w T5 db p) := Lib.hid (HB.out.fin HS0.out (HQ.out.keep k4) hkc)
  clear hHeld k0 k1 k2 k3 k4 m0 m1 m2 m3 m4 m5 hkc hb3 hbe hix hu
  go_wp2_with fail
  refine bodyPost_ret (ret_cell_tmp rfl _ _ _ _ _ _ rfl HE0.out Try.underlying56 rfl (by exact infoRd) _ rfl) rfl ⟨d, rfl, HE1.out, HE2.out⟩
end Go.Proofs.Ytegcbdfilkecpaa
/- The law of the journal's play: a step that commits; condition: at most 60 pages. -/
namespace Go.Proofs.Ytegcbdfilkecpaa
open Go.RowKit

theorem pgsCells_lenG {l : List Pg} (h : ∀ x ∈ l, PgOk x) : (pgsCells l).length = l.length * 257 := by
  unfold pgsCells
  induction l with
  | nil => rfl
  | cons x r ih =>
    rw [List.flatMap_cons, List.length_append, ih fun y hy => h y (List.mem_cons_of_mem _ hy), pgL_len (h x (List.mem_cons_self ..)), List.length_cons]
    omega
theorem pgsCells_oneG (l : List Pg) : ∀ u ∈ pgsCells l, u.oneCell' = true := by
  intro u hu
  unfold pgsCells at hu
  obtain ⟨x, _, hx⟩ := List.mem_flatMap.1 hu
  exact pgL_one x u hx
theorem PgsAt.rgG {w : World} {A : Option Addr} {n : Nat} {l : List Pg} (h : PgsAt w A n l) {k : Nat} {x : Pg} (hx : l[k]? = some x) : ∃ g o, A = some ⟨g, o, none⟩ ∧ g < w.heap.size ∧ w.rangeAt g (o + k * 257) (pgL x) :=
  RowsC.cell h (k := k) (x := pgL x) (by rw [List.getElem?_map, hx]; rfl)
theorem Kp.rangeG {S : Nat → Prop} {w w' : World} {g o : Nat} {xs : List Value} (k : Kp S w w') (hg : g < w.heap.size) (hn : ¬ S g) (h : w.rangeAt g o xs) : w'.rangeAt g o xs := fun j v hj => (k.cell hg hn).trans (h j v hj)
def DnRel (w6 : World) (n : Nat) (v12 : Value) (wr : World) : Prop := ∃ k : Nat, v12 = .int .i64 (k : Int) ∧ k ≤ n ∧ Kp NoB w6 wr
attribute [local go_sem ↓] loadPg storePg allocPg
set_option maxRecDepth 100000 in
set_option maxHeartbeats 1600000 in
theorem done_0 (S : Nat → Prop) (w : World) (db : Nat) (p : Pl) (d : Rd) (x : JOp) (PA : Option Addr) (pn pc : Nat) (CA : Option Addr) (cn cc : Nat) (hq : Dq S w w db p) (hr : Rf w d p) (hO : OpOk S w x PA pn pc CA cn) (hdk : ∀ b, S b → DkB w b) (hsm : p.sm 600000000000) (hdo : x.do_ = 0) :
    Calls Try.prog 27 #[ptrV db, rdV d p, .agg (opV x PA pn pc CA cn cc)] w (DnPost S w db (p.jcommit x.count x.pages).1) := by
  have hlen : x.pages.length = pn := hO.pg.len
  have HLEN := Lib.hid hlen
  clear hlen
  have hB := DnB.start (pc := pc) (cc := cc) hq hr hO hdk
  have HSM := Lib.hid hsm
  have HLT := Lib.hid hq.lt
  clear hq hr hO hdk hsm
  unfold rdC opV rdZ at hB
  unfold rdV opV
  rw [hdo]
  rw [hdo] at hB
  go_enter Try.func27, Try.ntmps27
  go_upto_region 1 with fail
  generalize (((w.alloc (.cells #[.bool true, .bool p.down, .slice d.fA d.fn d.fc, .slice d.pA d.pn d.pc, .int .i64 p.room, .int .i64 p.steps, .int .i64 p.crash, .int .i64 p.starts] 56)).alloc (.cells #[.int .i64 0, .int .i64 x.n, .int .i64 x.at_, .int .i64 x.count, .slice PA pn pc, .slice CA cn cc, .string x.data] 60)).alloc (.cells #[.bool false, .bool false, .slice none 0 0, .slice none 0 0, .int .i64 0, .int .i64 0, .int .i64 0, .int .i64 0] 56)) = w3 at hB ⊢
  generalize hs0 : w.heap.size = s0 at hB ⊢
  have HS0 := Lib.hid hs0
  have HB := Lib.hid hB
  clear hs0 hB
  have hl2 := HB.out.b2.lt
  have hl1 := HB.out.b1.lt
  have hl0 := HB.out.b0.lt
  obtain ⟨o0, o1, o2, o3, o4, o5, o6⟩ := opC7 HB.out.b1
  rw [hdo] at o0
  obtain ⟨c0, c1, c2, c3, c4, c5, c6, c7⟩ := HB.out.b0.rdc
  obtain ⟨y0, y1, y2, y3, y4, y5, y6, y7⟩ := HB.out.b2.c8
  obtain ⟨z0, z1, z2, z3, z4, z5, z6, z7⟩ := HB.out.b2.z8
  obtain ⟨x0, x1, x2, x3, x4, x5, x6, x7⟩ := HB.out.b0.z8
  obtain ⟨j0, hj0, hy0, hy1, hy2⟩ := info_parts infoPgA
  have HJ0 := Lib.hid hj0
  have HY0 := Lib.hid hy0
  have HY1 := Lib.hid hy1
  have HY2 := Lib.hid hy2
  have HCZ : Hid ((Value.agg (#[Value.int .i64 0] ++ Array.replicate 256 (Value.int .u8 0))).cells.size = 257) := Lib.hid (by simp [Value.cells])
  have HOWN : Hid ((w3.alloc (.cells #[] 113)).ownsRow w3.heap.size 113 257 (.slice (some ⟨w3.heap.size, 0, none⟩) 0 0) 0 []) := Lib.hid ⟨rfl, .inr ⟨w3.heap.size, 0, #[], rfl, Nat.le_refl _, heap_alloc_new _ _, Nat.le_refl _, by simp, rfl, rfl⟩⟩
  have HFL : Hid ((x.pages.map pgL).flatten = pgsCells x.pages) := Lib.hid (by unfold pgsCells; rw [List.flatMap_def])
  have HP60 : Hid (pn ≤ 60) := Lib.hid HB.out.o.pn60
  have HCL : Hid ((pgsCells x.pages).length = pn * 257) := Lib.hid (by rw [pgsCells_lenG HB.out.o.pok, HLEN.out])
  clear hj0 hy0 hy1 hy2
  go_upto_region 4 with (at_builtin; go_loud (refine wpList_append_srcN rfl _ _ 22 rfl w3.heap.size 113 j0 _ 257 264 Try.underlying22 HJ0.out HY0.out HY1.out HY2.out HCZ.out (by omega) _ 0 [] rfl HOWN.out PA pn pc (pgsCells x.pages) rfl HB.out.o.pnil HCL.out (fun hn => by have := (RowsC.keep HB.out.o.pg ((Kp.refl NoB w3).alloc (.cells #[] 113))).src hn (by omega); rw [HFL.out] at this; exact this) (pgsCells_oneG x.pages) (by have := HP60.out; unfold maxLen; omega) (by have := HP60.out; omega) (by simp) ?_); intro v8 w4 hown1 hgrow1; rw [Nat.zero_add, List.nil_append] at hown1; have HO1 := Lib.hid hown1; have hk1 := (((Kp.refl NoB w3).alloc (.cells #[] 113)).own (v := .slice (some ⟨w3.heap.size, 0, none⟩) 0 0) hgrow1 rfl HOWN.out); have HK34 := Lib.hid hk1; clear hown1 hgrow1 hk1)
  have hk := HK34.out
  have hq4 := HB.out.q.keep hk
  clear HK34
  have HQ := Lib.hid hq4
  have HK34 := Lib.hid hk
  obtain ⟨_, b0, b1, b2, r, o⟩ := HB.out.to hq4.kp
  have HB0 := Lib.hid b0
  have HB1 := Lib.hid b1
  have HB2 := Lib.hid b2
  have HR := Lib.hid r
  have HO := Lib.hid o
  clear hk hq4 b0 b1 b2 r o c0 c1 c2 c3 c4 c5 c6 c7 y0 y1 y2 y3 y4 y5 y6 y7 z0 z1 z2 z3 z4 z5 z6 z7 x0 x1 x2 x3 x4 x5 x6 x7 o0 o1 o2 o3 o4 o5 o6 hl0 hl1 hl2
  have hl2 := HB2.out.lt
  have hl1 := HB1.out.lt
  have hl0 := HB0.out.lt
  obtain ⟨o0, o1, o2, o3, o4, o5, o6⟩ := opC7 HB1.out
  obtain ⟨c0, c1, c2, c3, c4, c5, c6, c7⟩ := HB0.out.rdc
  obtain ⟨y0, y1, y2, y3, y4, y5, y6, y7⟩ := HB2.out.c8
  obtain ⟨z0, z1, z2, z3, z4, z5, z6, z7⟩ := HB2.out.z8
  obtain ⟨x0, x1, x2, x3, x4, x5, x6, x7⟩ := HB0.out.z8
  obtain ⟨A8, c8, rfl⟩ := own_slice HO1.out
  have hpg8 : PgsAt w4 A8 pn x.pages := (ownPgs_rows (n0 := w3.heap.size) (c := c8) ⟨by rw [HLEN.out]; exact HO1.out, HB.out.o.pok⟩).2
  have hap8 : Apart S A8 pn := fun g o e hn q => by
    have h1 := own_ge HO1.out g (by rw [e]; rfl)
    have h2 := HB.out.q.lt g q
    omega
  have HPG8 := Lib.hid hpg8
  have HAP8 := Lib.hid hap8
  have HBK := Lib.hid (HB.out.q.base1 HK34.out)
  clear hpg8 hap8 HO1 HOWN
  go_wp2_with fail
  refine (commit_q HBK.out x.count HB.out.o.rc A8 pn c8 x.pages HPG8.out HAP8.out HB.out.o.pok (by have := HP60.out; omega) (sm_mono HSM.out (by omega))).mono ?_
  rintro e w5 ⟨rfl, hq5⟩
  have HPG5 := Lib.hid (RowsC.keepS HPG8.out hq5.kp HAP8.out)
  have hqq := HBK.out.up HK34.out HB.out.q.lt hq5
  obtain ⟨_, b0, b1, b2, r, o⟩ := HB.out.to hqq.kp
  clear HQ HB0 HB1 HB2 HR HO HBK HPG8 HAP8 c0 c1 c2 c3 c4 c5 c6 c7 y0 y1 y2 y3 y4 y5 y6 y7 z0 z1 z2 z3 z4 z5 z6 z7 x0 x1 x2 x3 x4 x5 x6 x7 o0 o1 o2 o3 o4 o5 o6 hl0 hl1 hl2 hq5
  have HQ := Lib.hid hqq
  have HB0 := Lib.hid b0
  have HB1 := Lib.hid b1
  have HB2 := Lib.hid b2
  have HR := Lib.hid r
  have HO := Lib.hid o
  clear hqq b0 b1 b2 r o
  have hl2 := HB2.out.lt
  have hl1 := HB1.out.lt
  have hl0 := HB0.out.lt
  obtain ⟨o0, o1, o2, o3, o4, o5, o6⟩ := opC7 HB1.out
  obtain ⟨c0, c1, c2, c3, c4, c5, c6, c7⟩ := HB0.out.rdc
  obtain ⟨y0, y1, y2, y3, y4, y5, y6, y7⟩ := HB2.out.c8
  obtain ⟨z0, z1, z2, z3, z4, z5, z6, z7⟩ := HB2.out.z8
  obtain ⟨x0, x1, x2, x3, x4, x5, x6, x7⟩ := HB0.out.z8
  go_wp2_with fail
  refine (show Calls _ _ #[rdV d p, .int .i64 x.count, .slice PA pn pc] _ _ from commit_rok w5 d p x.count PA pn pc x.pages HR.out HO.out.pg HO.out.pok (by have := HP60.out; omega) HO.out.rc (sm_mono HSM.out (by omega))).mono ?_
  rintro e w6 ⟨d5, rfl, h5, hk5⟩
  obtain ⟨q, E, hqE⟩ : ∃ q E, p.jcommit x.count x.pages = (q, E) := ⟨_, _, rfl⟩
  have HRUN := Lib.hid (show (p.jcommit x.count x.pages).1 = q by rw [hqE])
  have HPG6 := Lib.hid (HPG5.out.keep hk5)
  rw [hqE] at h5 HQ ⊢
  clear hqE HPG5
  have HQ' := Lib.hid (HQ.out.keep hk5)
  have HB0' := Lib.hid (HB0.out.keep hk5 (fun q => q))
  have HB1' := Lib.hid (HB1.out.keep hk5 (fun q => q))
  have HB2' := Lib.hid (HB2.out.keep hk5 (fun q => q))
  have HR' := Lib.hid h5
  have HO' := Lib.hid (HO.out.keep (hk5.mono (fun _ _ q => q.elim)))
  clear hk5 h5 HQ HB0 HB1 HB2 HR HO c0 c1 c2 c3 c4 c5 c6 c7 y0 y1 y2 y3 y4 y5 y6 y7 z0 z1 z2 z3 z4 z5 z6 z7 x0 x1 x2 x3 x4 x5 x6 x7 o0 o1 o2 o3 o4 o5 o6 hl0 hl1 hl2
  have HQ := HQ'
  have HB0 := HB0'
  have HB1 := HB1'
  have HB2 := HB2'
  have HR := HR'
  have HO := HO'
  clear HQ' HB0' HB1' HB2' HR' HO'
  have hl2 := HB2.out.lt
  have hl1 := HB1.out.lt
  have hl0 := HB0.out.lt
  obtain ⟨o0, o1, o2, o3, o4, o5, o6⟩ := opC7 HB1.out
  obtain ⟨c0, c1, c2, c3, c4, c5, c6, c7⟩ := HB0.out.rdc
  obtain ⟨y0, y1, y2, y3, y4, y5, y6, y7⟩ := HB2.out.c8
  obtain ⟨z0, z1, z2, z3, z4, z5, z6, z7⟩ := HB2.out.z8
  obtain ⟨x0, x1, x2, x3, x4, x5, x6, x7⟩ := HB0.out.z8
  unfold rdV
  go_upto_region 6 with fail
  have hg2 : Blk (w6.alloc (.cells (rdC d5 q) 56)) w6.heap.size 56 (rdC d5 q) := Blk.new _ _ _
  have hk5 : Kp NoB w6 (w6.alloc (.cells (rdC d5 q) 56)) := (Kp.refl NoB w6).alloc _
  have h5 : Rf (w6.alloc (.cells (rdC d5 q) 56)) d5 (q) := HR.out.keep hk5
  unfold rdC at hg2 hk5 h5
  generalize hg : w6.heap.size = g at hg2 ⊢
  have hgl : s0 + 1 + 1 < g := by have := HB2.out.lt; omega
  generalize (w6.alloc (.cells #[.bool true, .bool (q).down, .slice d5.fA d5.fn d5.fc, .slice d5.pA d5.pn d5.pc, .int .i64 (q).room, .int .i64 (q).steps, .int .i64 (q).crash, .int .i64 (q).starts] 56)) = w7 at hg2 hk5 h5 ⊢
  have HG2 := Lib.hid (show Blk w7 g 56 (rdC d5 q) from hg2)
  have HGL := Lib.hid hgl
  have HKB := Lib.hid hk5
  clear hg2 hg hgl
  have HQ' := Lib.hid (HQ.out.keep hk5)
  have HB0' := Lib.hid (HB0.out.keep hk5 (fun q => q))
  have HB1' := Lib.hid (HB1.out.keep hk5 (fun q => q))
  have HB2' := Lib.hid (HB2.out.keep hk5 (fun q => q))
  have HR' := Lib.hid h5
  have HO' := Lib.hid (HO.out.keep (hk5.mono (fun _ _ q => q.elim)))
  clear hk5 h5 HQ HB0 HB1 HB2 HR HO c0 c1 c2 c3 c4 c5 c6 c7 y0 y1 y2 y3 y4 y5 y6 y7 z0 z1 z2 z3 z4 z5 z6 z7 x0 x1 x2 x3 x4 x5 x6 x7 o0 o1 o2 o3 o4 o5 o6 hl0 hl1 hl2
  have HQ := HQ'
  have HB0 := HB0'
  have HB1 := HB1'
  have HB2 := HB2'
  have HR := HR'
  have HO := HO'
  clear HQ' HB0' HB1' HB2' HR' HO'
  have hl2 := HB2.out.lt
  have hl1 := HB1.out.lt
  have hl0 := HB0.out.lt
  obtain ⟨o0, o1, o2, o3, o4, o5, o6⟩ := opC7 HB1.out
  obtain ⟨c0, c1, c2, c3, c4, c5, c6, c7⟩ := HB0.out.rdc
  obtain ⟨y0, y1, y2, y3, y4, y5, y6, y7⟩ := HB2.out.c8
  obtain ⟨z0, z1, z2, z3, z4, z5, z6, z7⟩ := HB2.out.z8
  obtain ⟨x0, x1, x2, x3, x4, x5, x6, x7⟩ := HB0.out.z8
  obtain ⟨g0, g1, g2, g3, g4, g5, g6, g7⟩ := HG2.out.rdc
  have hgs := HG2.out.lt
  have hgg : s0 < g ∧ s0 + 1 < g ∧ s0 + 1 + 1 < g := by have := HGL.out; omega
  have HPG7 := Lib.hid (HPG6.out.keep HKB.out)
  have HX0 := Lib.hid HB0.out
  have HX1 := Lib.hid HB1.out
  have HX2 := Lib.hid HB2.out
  have HXQ := Lib.hid HQ.out
  have HXR := Lib.hid HR.out
  have HXO := Lib.hid HO.out
  clear HPG6 HKB HB0 HB1 HB2 HQ HR HO g0 g1 g2 g3 g4 g5 g6 g7 hgs c0 c1 c2 c3 c4 c5 c6 c7 y0 y1 y2 y3 y4 y5 y6 y7 z0 z1 z2 z3 z4 z5 z6 z7 x0 x1 x2 x3 x4 x5 x6 x7 o0 o1 o2 o3 o4 o5 o6 hl0 hl1 hl2
  clear j0 HJ0 HY0 HY1 HY2 HCZ HFL HCL
  go_wp2_with fail
  go_loopw [12] (fun v12 wr => DnRel w7 pn v12 wr) (fun v12 _ => pn - (intOf v12).toNat)
  case atStart => exact ⟨0, rfl, Nat.zero_le _, Kp.refl _ _⟩
  case round =>
    obtain ⟨wq, rfl⟩ : ∃ wq, wq = wr := ⟨_, rfl⟩
    obtain ⟨k, rfl, hk, hkp⟩ := hrel
    have HKP := Lib.hid hkp
    have hP60 := HP60.out
    clear hkp
    by_cases hlt : k < pn
    · have hkk : (k : Int) < (pn : Int) := by omega
      obtain ⟨y, hy⟩ : ∃ y, x.pages[k]? = some y := ⟨_, List.getElem?_eq_getElem (by rw [HLEN.out]; exact hlt)⟩
      have hyo : PgOk y := HB.out.o.pok y (List.mem_of_getElem? hy)
      obtain ⟨ga, oa, rfl, hga, hra⟩ := PgsAt.rgG HPG7.out hy
      obtain ⟨gb, ob, rfl, hgb, hrb⟩ := PgsAt.rgG HXO.out.pg hy
      have HRA := Lib.hid hra
      have HRB := Lib.hid hrb
      clear hra hrb
      go_upto_region 9 with fail
      refine wp_region_held_drew (S := fun V => Kp NoB w7 V) (by kernel_rfl) HKP.out.drew (fun hHeld => ?_)
      have k0 : Kp NoB w7 wq.drew := HKP.out.drew
      have hu := Try.underlying113
      have hix : (Try.prog.info? 113).map (·.size) = some (pgL y).length := by rw [pgL_len hyo]; exact infoPgS
      generalize wq.drew = V0 at k0 hHeld ⊢
      refine tkS (i := 0) (v := (.slice (some ⟨ga, oa, none⟩) pn c8)) rfl (Or.inl ⟨by rfl, fun w' hq => by go_simp⟩) k0 ?_
      simp only [Act.put, skA, skB, skC]
      refine tkS (i := 1) (v := (.int .i64 (k : Int))) rfl (Or.inl ⟨by rfl, fun w' hq => by go_simp⟩) k0 ?_
      simp only [Act.put, skA, skB, skC]
      refine tkS (i := 2) (v := (.pointer (some ⟨ga, oa + k * 257, none⟩))) rfl (Or.inl ⟨by rfl, fun w' hq => by go_simp⟩) k0 ?_
      simp only [Act.put, skA, skB, skC]
      refine tkS (i := 3) (v := .agg ((pgL y)).toArray) rfl (yieldsIf_load_mid (by rfl) _ _ rfl _ _ rfl (pgL y) _ (fun _ q => q.rangeG hga (fun z => z) HRA.out) hu rfl hix) k0 ?_
      simp only [Act.put, skA, skB, skC]
      refine tkS (i := 4) (v := (.pointer (some ⟨s0 + 1, 4, none⟩))) rfl (Or.inl ⟨by rfl, fun w' hq => by go_simp⟩) k0 ?_
      simp only [Act.put, skA, skB, skC]
      refine tkS (i := 5) (v := (.slice (some ⟨gb, ob, none⟩) pn pc)) rfl (Or.inl ⟨by rfl, fun w' hq => by obtain ⟨_, _, _, _, e4, _, _⟩ := opC7 (HX1.out.keep hq (fun q => q)); go_simp⟩) k0 ?_
      simp only [Act.put, skA, skB, skC]
      refine tkS (i := 6) (v := (.int .i64 (k : Int))) rfl (Or.inl ⟨by rfl, fun w' hq => by go_simp⟩) k0 ?_
      simp only [Act.put, skA, skB, skC]
      refine tkS (i := 7) (v := (.pointer (some ⟨gb, ob + k * 257, none⟩))) rfl (Or.inl ⟨by rfl, fun w' hq => by go_simp⟩) k0 ?_
      simp only [Act.put, skA, skB, skC]
      refine tkS (i := 8) (v := .agg ((pgL y)).toArray) rfl (yieldsIf_load_mid (by rfl) _ _ rfl _ _ rfl (pgL y) _ (fun _ q => q.rangeG hgb (fun z => z) HRB.out) hu rfl hix) k0 ?_
      simp only [Act.put, skA, skB, skC]
      refine tkS (i := 9) (v := .bool false) rfl (Or.inl ⟨by rfl, fun w' hq => neqPgA w' _ _ _ _ hyo rfl rfl⟩) k0 ?_
      simp only [Act.put, skA, skB, skC]
      refine wpAnyH_done (by kernel_rfl) ?_ _
      have HK0 := Lib.hid k0
      clear hHeld k0 hu hix
      go_wp2_with fail
      go_roundw
      case rel => exact ⟨k + 1, by congr 1, by omega, HK0.out⟩
      case measure => simp [intOf]; omega
    · have hkk : ¬ (k : Int) < (pn : Int) := by omega
      have HQ := Lib.hid (HXQ.out.keep HKP.out)
      have HB0 := Lib.hid (HX0.out.keep HKP.out (fun q => q))
      have HB1 := Lib.hid (HX1.out.keep HKP.out (fun q => q))
      have HB2 := Lib.hid (HX2.out.keep HKP.out (fun q => q))
      have HR := Lib.hid (HXR.out.keep HKP.out)
      have HG := Lib.hid (HG2.out.keep HKP.out (fun q => q))
      have hl2 := HB2.out.lt
      have hl1 := HB1.out.lt
      have hl0 := HB0.out.lt
      obtain ⟨o0, o1, o2, o3, o4, o5, o6⟩ := opC7 HB1.out
      obtain ⟨c0, c1, c2, c3, c4, c5, c6, c7⟩ := HB0.out.rdc
      obtain ⟨y0, y1, y2, y3, y4, y5, y6, y7⟩ := HB2.out.c8
      obtain ⟨z0, z1, z2, z3, z4, z5, z6, z7⟩ := HB2.out.z8
      obtain ⟨x0, x1, x2, x3, x4, x5, x6, x7⟩ := HB0.out.z8
      obtain ⟨g0, g1, g2, g3, g4, g5, g6, g7⟩ := HG.out.rdc
      have hgs := HG.out.lt
      clear HPG7 HX0 HX1 HX2 HXQ HXR HXO hk hlt HP60 hP60
      go_wp2_with fail
      refine bodyPost_ret (ret_cell_tmp rfl _ _ _ _ _ _ rfl (blk8 HB2.out rfl) Try.underlying56 rfl (by exact infoRd) _ rfl) rfl ⟨d5, by rw [HRUN.out]; rfl, ?_, ?_⟩
      · rw [HRUN.out]
        exact (HR.out).keepB (kp8 (Kp.refl _ wq) (.inr rfl)) HB2.out rdZ_str
      · rw [HRUN.out]
        exact HB.out.fin HS0.out (HQ.out) (kp8 (Kp.refl _ wq) (.inr rfl))
end Go.Proofs.Ytegcbdfilkecpaa
/- The law of the journal's play: every step, whatever it does; condition: at most 60 pages and texts of at most 2000 bytes. -/
namespace Go.Proofs.Ytegcbdfilkecpaa
open Go.RowKit

theorem done_ok (S : Nat → Prop) (w : World) (db : Nat) (p : Pl) (d : Rd) (x : JOp) (PA : Option Addr) (pn pc : Nat) (CA : Option Addr) (cn cc : Nat) (hq : Dq S w w db p) (hr : Rf w d p) (hO : OpOk S w x PA pn pc CA cn) (hdk : ∀ b, S b → DkB w b) (hsm : p.sm 600000000000) :
    Calls Try.prog 27 #[ptrV db, rdV d p, .agg (opV x PA pn pc CA cn cc)] w (DnPost S w db (jop p x)) := by
  unfold jop
  by_cases h0 : x.do_ = 0
  · rw [if_pos h0]; exact done_0 S w db p d x PA pn pc CA cn cc hq hr hO hdk hsm h0
  rw [if_neg h0]
  by_cases h1 : x.do_ = 1
  · rw [if_pos h1]; exact done_1 S w db p d x PA pn pc CA cn cc hq hr hO hdk hsm h1
  rw [if_neg h1]
  by_cases h2 : x.do_ = 2
  · rw [if_pos h2]; exact done_2 S w db p d x PA pn pc CA cn cc hq hr hO hdk hsm h2
  rw [if_neg h2]
  by_cases h3 : x.do_ = 3
  · rw [if_pos h3]; exact done_3 S w db p d x PA pn pc CA cn cc hq hr hO hdk hsm h3
  rw [if_neg h3]
  by_cases h4 : x.do_ = 4
  · rw [if_pos h4]; exact done_4 S w db p d x PA pn pc CA cn cc hq hr hO hdk hsm h4
  rw [if_neg h4]
  by_cases h5 : x.do_ = 5
  · rw [if_pos h5]; exact done_5 S w db p d x PA pn pc CA cn cc hq hr hO hdk hsm h5
  rw [if_neg h5]
  by_cases h6 : x.do_ = 6
  · rw [if_pos h6]
    refine done_6 S w db p d x PA pn pc CA cn cc hq hr hO hdk hsm h6 _ ?_
    by_cases hn : x.n = 0
    · rw [if_pos hn]; exact .inl ⟨hn, rfl⟩
    · rw [if_neg hn]; exact .inr ⟨hn, rfl⟩
  rw [if_neg h6]
  exact done_7 S w db p d x PA pn pc CA cn cc hq hr hO hdk hsm (fun k a b e => by omega)
end Go.Proofs.Ytegcbdfilkecpaa
