/- Texts of this proof, one behind the other: lemmas and contracts; each says its own conditions. -/
import Derived.Test.YtegcbdfilkecpaaGreatQ10
import Derived.Test.YtegcbdfilkecpaaGreatQ11
import Derived.Test.YtegcbdfilkecpaaGreatQ12
namespace Go.Proofs.YtegcbdfilkecpaaGreat
section
open Go.RowKit
theorem infoLog : (Tryz.prog.info? 94).map (·.size) = some 5 := by kernel_rfl
theorem buildLog0 (w : World) : (Instr.build 94 #[]).run Tryz.prog w = .ok (.agg #[.int .i64 0, .int .i64 0, .int .i64 0, .int .i64 0, .slice none 0 0]) w := by kernel_rfl
theorem buildLog1 (w : World) (a b c d : Int) : (Instr.build 94 #[(0, .agg #[.int .i64 a, .int .i64 b, .int .i64 c, .int .i64 d])]).run Tryz.prog w = .ok (.agg #[.int .i64 a, .int .i64 b, .int .i64 c, .int .i64 d, .slice none 0 0]) w := by kernel_rfl
theorem Blk.z5 {w : World} {g : Nat} {t : TypeId} {cs : Array Value} (h : Blk w g t cs) :
  w.frozen? ⟨g, 0, none⟩ = false ∧ w.frozen? ⟨g, 1, none⟩ = false ∧ w.frozen? ⟨g, 2, none⟩ = false ∧ w.frozen? ⟨g, 3, none⟩ = false ∧ w.frozen? ⟨g, 4, none⟩ = false :=
 ⟨h.frozen 0, h.frozen 1, h.frozen 2, h.frozen 3, h.frozen 4⟩
theorem blk5 {w : World} {s2 : Nat} {t : TypeId} {a0 a1 a2 a3 a4 : Value} {cs : Array Value} (h : Blk w s2 t cs) (hs : cs.size = 5) : Blk (((((w.setCell ⟨s2, 0, none⟩ a0).setCell ⟨s2, 1, none⟩ a1).setCell ⟨s2, 2, none⟩ a2).setCell ⟨s2, 3, none⟩ a3).setCell ⟨s2, 4, none⟩ a4) s2 t #[a0, a1, a2, a3, a4] := by
 have := h.whole #[a0, a1, a2, a3, a4] (by rw [hs]; rfl)
 exact this
theorem kp5 {S : Nat → Prop} {a w : World} {s2 : Nat} {a0 a1 a2 a3 a4 : Value} (h : Kp S a w) (h2 : a.heap.size ≤ s2 ∨ S s2) : Kp S a (((((w.setCell ⟨s2, 0, none⟩ a0).setCell ⟨s2, 1, none⟩ a1).setCell ⟨s2, 2, none⟩ a2).setCell ⟨s2, 3, none⟩ a3).setCell ⟨s2, 4, none⟩ a4) :=
 ((((h.setCell (p := ⟨s2, 0, none⟩) h2 a0).setCell (p := ⟨s2, 1, none⟩) h2 a1).setCell (p := ⟨s2, 2, none⟩) h2 a2).setCell (p := ⟨s2, 3, none⟩) h2 a3).setCell (p := ⟨s2, 4, none⟩) h2 a4
def RwoPost (p : Pl) (w : World) (e : Ending) (w' : World) : Prop :=
 Kp NoB w w' ∧ ((p.wopen.1 ≠ 0 ∧ e = .returned (.tuple #[lgV ⟨0, 0, 0, 0⟩ none 0 0, .int .i64 p.wopen.1])) ∨
  (p.wopen.1 = 0 ∧ ∃ (A : Option Addr) (c : Nat), e = .returned (.tuple #[lgV p.whead A p.wopen.2.length c, .int .i64 0]) ∧ w'.ownsRow w.heap.size 99 258 (.slice A p.wopen.2.length c) p.wopen.2.length (p.wopen.2.map rfL).flatten))
def RoRel (w1 : World) (lb : Nat) (l : List Int) (v : W4) (N : Nat) (v7 : Value) (wr : World) : Prop :=
 ∃ (k : Nat) (acc : List Fr) (A6 : Option Addr) (cq : Nat), v7 = .int .i64 (k : Int) ∧ k ≤ N ∧ frsAt l k = some acc ∧ Blk wr lb 94 (lgA v A6 k cq) ∧ wr.ownsRow w1.heap.size 99 258 (.slice A6 k cq) k (acc.map rfL).flatten ∧ Kp (OnB lb) w1 wr
def fillO (T : Array Value) (u : Nat → Value) (r : Bool) : Array Value := (((((((((((((((((((((((((((T.setIfInBounds 74 (u 74)).setIfInBounds 75 (u 75)).setIfInBounds 76 (u 76)).setIfInBounds 77 (u 77)).setIfInBounds 78 (u 78)).setIfInBounds 79 (u 79)).setIfInBounds 80 (u 80)).setIfInBounds 81 (u 81)).setIfInBounds 82 (u 82)).setIfInBounds 83 (u 83)).setIfInBounds 84 (u 84)).setIfInBounds 85 (u 85)).setIfInBounds 86 (u 86)).setIfInBounds 87 (u 87)).setIfInBounds 88 (u 88)).setIfInBounds 89 (u 89)).setIfInBounds 90 (u 90)).setIfInBounds 91 (u 91)).setIfInBounds 92 (u 92)).setIfInBounds 93 (u 93)).setIfInBounds 94 (u 94)).setIfInBounds 95 (u 95)).setIfInBounds 96 (u 96)).setIfInBounds 97 (u 97)).setIfInBounds 98 (u 98)).setIfInBounds 99 (u 99)).setIfInBounds 100 (u 100)).setIfInBounds 101 (.bool r)
def IntoO (a : Act) (w : World) (r : Bool) : Exit → Act → World → Prop
 | .normal, a', w' => Kp NoB w w' ∧ ∃ u, a' = ⟨fillO a.tmps u r, a.defers⟩
 | _, _, _ => False
theorem intoO_of {a a' : Act} {w w' : World} {r : Bool} (k : Kp NoB w w') (h : a' = ⟨fillO a.tmps (fun i => a'.tmps.getD i undef) r, a.defers⟩) : IntoO a w r .normal a' w' := ⟨k, _, h⟩
theorem wp_intoO {P : Program} {c : Code} {Q : Exit → Act → World → Prop} {a : Act} {w : World} (r : Bool) (h : c.wp P (IntoO a w r) a w) (k : ∀ u w', Kp NoB w w' → Q .normal ⟨fillO a.tmps u r, a.defers⟩ w') : c.wp P Q a w :=
 Code.wp_mono (fun e a' w' q => by cases e <;> first | exact q.elim | (obtain ⟨hk, u, rfl⟩ := q; exact k u _ hk)) h
theorem frp_cases {b : List Int} (hb : 320 ≤ b.length) : frP b = if (b.drop 8).take 56 = zeros 56 ∧ num b 0 ≤ 4096 ∧ num b 4 ≤ 4097 ∧ (0 < num b 0 ∨ 0 < num b 4) then some ⟨num b 0, num b 4, (b.drop 64).take 256⟩ else none := by
 unfold frP
 rw [if_neg (by omega)]
theorem num_dropR (l : List Int) (a i : Nat) : num (l.drop a) i = num l (a + i) := by
 unfold num
 simp only [List.getD_eq_getElem?_getD, List.getElem?_drop, Nat.add_assoc]
attribute [local go_sem ↓] loadRfr storeRfr allocRfr exSliceRfr
set_option maxRecDepth 100000 in
set_option maxHeartbeats 3200000 in
theorem wopen_rok (w : World) (d : Rd) (p : Pl) (h : Rf w d p) (hnf : p.nf < 1099511627776) :
  Calls Tryz.prog 42 #[rdV d p] w (RwoPost p w) := by
 have H := zh h
 have HNF := zh hnf
 have hlk := (h.look nmWal).1
 have HLK := zh hlk
 have hb0 : Blk ((w.alloc (.cells (rdC d p) 29)).alloc (.cells #[.int .i64 0, .int .i64 0, .int .i64 0, .int .i64 0, .slice none 0 0] 94)) w.heap.size 29 (rdC d p) := (Blk.new w _ _).alloc _
 have hbz : Blk ((w.alloc (.cells (rdC d p) 29)).alloc (.cells #[.int .i64 0, .int .i64 0, .int .i64 0, .int .i64 0, .slice none 0 0] 94)) (w.heap.size + 1) 94 #[.int .i64 0, .int .i64 0, .int .i64 0, .int .i64 0, .slice none 0 0] := Blk.top (by simp)
 have hk : Kp NoB w ((w.alloc (.cells (rdC d p) 29)).alloc (.cells #[.int .i64 0, .int .i64 0, .int .i64 0, .int .i64 0, .slice none 0 0] 94)) := ((Kp.refl NoB w).alloc _).alloc _
 have hbu := buildLog0
 clear h hnf hlk
 unfold rdC at hb0 hbz hk
 unfold rdV
 go_enter Tryz.func42, Tryz.ntmps42
 go_upto_region 1 with fail
 generalize ((w.alloc (.cells #[.bool true, .bool p.down, .slice d.fA d.fn d.fc, .slice d.pA d.pn d.pc, .int .i64 p.room, .int .i64 p.steps, .int .i64 p.crash, .int .i64 p.starts] 29)).alloc (.cells #[.int .i64 0, .int .i64 0, .int .i64 0, .int .i64 0, .slice none 0 0] 94)) = w1 at hb0 hbz hk ⊢
 generalize hs0 : w.heap.size = s0 at hb0 hbz ⊢
 have HS0 := zh hs0
 have HB0 := zh (show Blk w1 s0 29 (rdC d p) from hb0)
 have HZ := zh hbz
 have HK := zh hk
 clear hs0 hb0 hbz hk
 have hl0 := HB0.out.lt
 have hl2 := HZ.out.lt
 obtain ⟨c0, c1, c2, c3, c4, c5, c6, c7⟩ := HB0.out.rdc
 obtain ⟨y0, y1, y2, y3, y4⟩ := HZ.out.c5
 obtain ⟨z0, z1, z2, z3, z4⟩ := HZ.out.z5
 go_wp2_with fail
 refine (show Calls _ _ #[rdV d p] _ _ from ready_rok w1 d p (H.out.keep HK.out) HNF.out).mono ?_
 rintro e w2 ⟨rfl, hk2⟩
 have HB0' := zh (HB0.out.keep hk2 (fun q => q))
 have HZ' := zh (HZ.out.keep hk2 (fun q => q))
 have HK' := zh (HK.out.trans hk2 (fun _ _ q => q))
 clear hk2 HB0 HZ HK c0 c1 c2 c3 c4 c5 c6 c7 y0 y1 y2 y3 y4 z0 z1 z2 z3 z4 hl0 hl2
 have HB0 := HB0'
 have HZ := HZ'
 have HK := HK'
 clear HB0' HZ' HK'
 have hl0 := HB0.out.lt
 have hl2 := HZ.out.lt
 obtain ⟨c0, c1, c2, c3, c4, c5, c6, c7⟩ := HB0.out.rdc
 obtain ⟨y0, y1, y2, y3, y4⟩ := HZ.out.c5
 obtain ⟨z0, z1, z2, z3, z4⟩ := HZ.out.z5
 unfold jReady
 by_cases hd : p.down = true
 ·have HWO : Hid (p.wopen = (7, [])) := zh (by unfold Pl.wopen; rw [if_pos hd])
  rw [if_pos hd]
  clear hd
  go_wp2_with fail
  refine bodyPost_ret (ret_cell_tmp rfl _ _ _ _ _ _ rfl (blk5 HZ.out rfl) Tryz.underlying94 rfl (by exact infoLog) _ rfl) rfl ⟨kp5 HK.out (.inl (by have := HS0.out; omega)), .inl ⟨by rw [HWO.out]; decide, by rw [HWO.out]; rfl⟩⟩
 have HD := zh (show p.down = false by simpa using hd)
 rw [if_neg hd]
 clear hd
 go_wp2_with fail
 refine (show Calls _ _ #[rdV d p, .string nmWal] _ _ from seen_ok w2 d p nmWal (H.out.keep HK.out) HNF.out).mono ?_
 rintro e w3 ⟨rfl, hk3⟩
 have HB0' := zh (HB0.out.keep hk3 (fun q => q))
 have HZ' := zh (HZ.out.keep hk3 (fun q => q))
 have HK' := zh (HK.out.trans hk3 (fun _ _ q => q))
 clear hk3 HB0 HZ HK c0 c1 c2 c3 c4 c5 c6 c7 y0 y1 y2 y3 y4 z0 z1 z2 z3 z4 hl0 hl2
 have HB0 := HB0'
 have HZ := HZ'
 have HK := HK'
 clear HB0' HZ' HK'
 have hl0 := HB0.out.lt
 have hl2 := HZ.out.lt
 obtain ⟨c0, c1, c2, c3, c4, c5, c6, c7⟩ := HB0.out.rdc
 obtain ⟨y0, y1, y2, y3, y4⟩ := HZ.out.c5
 obtain ⟨z0, z1, z2, z3, z4⟩ := HZ.out.z5
 obtain ⟨l, hl⟩ : ∃ l, p.seen nmWal = l := ⟨_, rfl⟩
 rw [hl] at HLK ⊢
 have HR := zh HLK.out.2
 have HL := zh HLK.out.1
 have HSEEN := zh hl
 have hsz := strOf_size l
 obtain ⟨s, hs⟩ : ∃ s, strOf l = s := ⟨_, rfl⟩
 rw [hs] at hsz ⊢
 have HS := zh hs
 clear hl hs
 have HSZ := zh hsz
 clear hsz
 go_wp2_with fail
 refine (show Calls _ _ #[.string s] _ _ by rw [← HS.out]; exact says_rok w3 l HR.out (by have := HL.out; omega)).mono ?_
 rintro e w4 ⟨rfl, hk4⟩
 have HB0' := zh (HB0.out.keep hk4 (fun q => q))
 have HZ' := zh (HZ.out.keep hk4 (fun q => q))
 have HK' := zh (HK.out.trans hk4 (fun _ _ q => q))
 clear hk4 HB0 HZ HK c0 c1 c2 c3 c4 c5 c6 c7 y0 y1 y2 y3 y4 z0 z1 z2 z3 z4 hl0 hl2
 have HB0 := HB0'
 have HZ := HZ'
 have HK := HK'
 clear HB0' HZ' HK'
 have hl0 := HB0.out.lt
 have hl2 := HZ.out.lt
 obtain ⟨c0, c1, c2, c3, c4, c5, c6, c7⟩ := HB0.out.rdc
 obtain ⟨y0, y1, y2, y3, y4⟩ := HZ.out.c5
 obtain ⟨z0, z1, z2, z3, z4⟩ := HZ.out.z5
 obtain ⟨v, hv⟩ : ∃ v, says l = v := ⟨_, rfl⟩
 have hvo : W4Ok v := by rw [← hv]; exact says_ok HR.out
 have HV : Hid (p.whead = v) := zh (by unfold Pl.whead; rw [HSEEN.out, hv])
 rw [hv]
 have HWOP : Hid (p.wopen = if 1048576 < v.a ∨ v.b ≠ 0 ∨ v.c ≠ 0 ∨ v.d ≠ 0 then ((8, []) : Int × List Fr) else match frsAt l v.a.toNat with | none => (8, []) | some fs => if lastEn fs = 0 then (8, []) else (0, fs)) := zh (by unfold Pl.wopen; rw [HD.out, if_neg (by decide), HV.out, HSEEN.out]; rfl)
 obtain ⟨va, vb, vc, vd⟩ := v
 have hva : 0 ≤ va := hvo.a.1
 have HVO := zh hvo
 clear hv hvo
 have hbu1 := fun W => buildLog1 W va vb vc vd
 unfold w4V
 go_upto_region 6 with fail
 have hlg : Blk (w4.alloc (.cells #[.int .i64 va, .int .i64 vb, .int .i64 vc, .int .i64 vd, .slice none 0 0] 94)) w4.heap.size 94 #[.int .i64 va, .int .i64 vb, .int .i64 vc, .int .i64 vd, .slice none 0 0] := Blk.new _ _ _
 have hk5 : Kp NoB w4 (w4.alloc (.cells #[.int .i64 va, .int .i64 vb, .int .i64 vc, .int .i64 vd, .slice none 0 0] 94)) := (Kp.refl NoB w4).alloc _
 generalize w4.alloc (.cells #[.int .i64 va, .int .i64 vb, .int .i64 vc, .int .i64 vd, .slice none 0 0] 94) = w5 at hlg hk5 ⊢
 generalize hlb : w4.heap.size = lb at hlg ⊢
 have hzl : s0 + 1 < lb := by omega
 have HZL := zh hzl
 have HLG := zh hlg
 clear hlb hzl hlg hbu1
 have HB0' := zh (HB0.out.keep hk5 (fun q => q))
 have HZ' := zh (HZ.out.keep hk5 (fun q => q))
 have HK' := zh (HK.out.trans hk5 (fun _ _ q => q))
 clear hk5 HB0 HZ HK c0 c1 c2 c3 c4 c5 c6 c7 y0 y1 y2 y3 y4 z0 z1 z2 z3 z4 hl0 hl2
 have HB0 := HB0'
 have HZ := HZ'
 have HK := HK'
 clear HB0' HZ' HK'
 have hl0 := HB0.out.lt
 have hl2 := HZ.out.lt
 obtain ⟨c0, c1, c2, c3, c4, c5, c6, c7⟩ := HB0.out.rdc
 obtain ⟨y0, y1, y2, y3, y4⟩ := HZ.out.c5
 obtain ⟨z0, z1, z2, z3, z4⟩ := HZ.out.z5
 obtain ⟨e0, e1, e2, e3, e4⟩ := HLG.out.c5
 have hll := HLG.out.lt
 have HLB5 := zh hll
 by_cases hA : 1048576 < va
 ·have HWO : Hid (p.wopen = (8, [])) := zh (by rw [HWOP.out, if_pos (.inl hA)])
  go_wp2_with fail
  refine bodyPost_ret (ret_cell_tmp rfl _ _ _ _ _ _ rfl (blk5 HZ.out rfl) Tryz.underlying94 rfl (by exact infoLog) _ rfl) rfl ⟨kp5 HK.out (.inl (by have := HS0.out; omega)), .inl ⟨by rw [HWO.out]; decide, by rw [HWO.out]; rfl⟩⟩
 by_cases hB : vb = 0
 rotate_left
 ·have HWO : Hid (p.wopen = (8, [])) := zh (by rw [HWOP.out, if_pos (.inr (.inl hB))])
  have hd1 : (vb != 0) = true := by simpa using hB
  have hd2 : (vb == 0) = false := by simpa using hB
  clear hB
  go_wp2_with fail
  refine bodyPost_ret (ret_cell_tmp rfl _ _ _ _ _ _ rfl (blk5 HZ.out rfl) Tryz.underlying94 rfl (by exact infoLog) _ rfl) rfl ⟨kp5 HK.out (.inl (by have := HS0.out; omega)), .inl ⟨by rw [HWO.out]; decide, by rw [HWO.out]; rfl⟩⟩
 by_cases hC : vc = 0
 rotate_left
 ·have HWO : Hid (p.wopen = (8, [])) := zh (by rw [HWOP.out, if_pos (.inr (.inr (.inl hC)))])
  have hd1 : (vc != 0) = true := by simpa using hC
  have hd2 : (vc == 0) = false := by simpa using hC
  subst hB
  clear hC
  go_wp2_with fail
  refine bodyPost_ret (ret_cell_tmp rfl _ _ _ _ _ _ rfl (blk5 HZ.out rfl) Tryz.underlying94 rfl (by exact infoLog) _ rfl) rfl ⟨kp5 HK.out (.inl (by have := HS0.out; omega)), .inl ⟨by rw [HWO.out]; decide, by rw [HWO.out]; rfl⟩⟩
 by_cases hD : vd = 0
 rotate_left
 ·have HWO : Hid (p.wopen = (8, [])) := zh (by rw [HWOP.out, if_pos (.inr (.inr (.inr hD)))])
  have hd1 : (vd != 0) = true := by simpa using hD
  have hd2 : (vd == 0) = false := by simpa using hD
  subst hB hC
  clear hD
  go_wp2_with fail
  refine bodyPost_ret (ret_cell_tmp rfl _ _ _ _ _ _ rfl (blk5 HZ.out rfl) Tryz.underlying94 rfl (by exact infoLog) _ rfl) rfl ⟨kp5 HK.out (.inl (by have := HS0.out; omega)), .inl ⟨by rw [HWO.out]; decide, by rw [HWO.out]; rfl⟩⟩
 subst hB hC hD
 obtain ⟨N, hN⟩ : ∃ N : Nat, va = (N : Int) := ⟨va.toNat, by omega⟩
 subst hN
 have hN20 : N ≤ 1048576 := by omega
 have HN20 := zh hN20
 have HW2 : Hid (p.wopen = match frsAt l N with | none => ((8, []) : Int × List Fr) | some fs => if lastEn fs = 0 then (8, []) else (0, fs)) := zh (by rw [HWOP.out, if_neg (by show ¬ (1048576 < (N : Int) ∨ (0 : Int) ≠ 0 ∨ (0 : Int) ≠ 0 ∨ (0 : Int) ≠ 0); omega), Int.toNat_natCast])
 have HBZ := HZ
 have HKZ := HK
 obtain ⟨j0, hj0, hq0, hq1, hq2⟩ := info_parts infoRfr
 have HJ0 := zh hj0
 have HY0 := zh hq0
 have HY1 := zh hq1
 have HY2 := zh hq2
 clear hva hj0 hq0 hq1 hq2 HWOP HZ HK HB0 hbu
 have hbu := buildLog0
 have hsmall : ¬ 1048576 < (N : Int) := by omega
 go_wp2_with fail
 clear hsmall hA
 go_loopw [7, 8, 9] (fun v7 v8 v9 wr => RoRel w5 lb l ⟨(N : Int), 0, 0, 0⟩ N v7 wr) (fun v _ _ _ => N - (intOf v).toNat)
 case atStart => exact ⟨0, [], none, 0, rfl, Nat.zero_le _, rfl, HLG.out, World.ownsRow_nil _ _ _ _, Kp.refl _ _⟩
 case round =>
  obtain ⟨wq, rfl⟩ : ∃ wq, wq = wr := ⟨_, rfl⟩
  obtain ⟨k, acc, A6, cq, rfl, hk, hfs, hlg, how, hkp⟩ := hrel
  have HFS := zh hfs
  have HAL := zh (frsAt_len hfs)
  have HAO := zh (frsAt_ok HR.out hfs)
  have HOW := zh how
  have HKP := zh hkp
  have HLG9 := zh (show Blk wq lb 94 #[.int .i64 (N : Int), .int .i64 0, .int .i64 0, .int .i64 0, .slice A6 k cq] from hlg)
  have HZ := zh (HBZ.out.keep hkp (fun q => by have := HZL.out; have q' : s0 + 1 = lb := q; omega))
  have HK : Hid (Kp NoB w wq) := zh (HKZ.out.trans hkp (fun i hi q => by have h1 := HZL.out; have h2 := HS0.out; have q' : i = lb := q; exact (show False by omega)))
  clear e0 e1 e2 e3 e4 hll c0 c1 c2 c3 c4 c5 c6 c7 y0 y1 y2 y3 y4 z0 z1 z2 z3 z4 hl0 hl2 hfs hlg how hkp
  obtain ⟨e0, e1, e2, e3, e4⟩ := HLG9.out.c5
  have hll := HLG9.out.lt
  have hl2 := HZ.out.lt
  obtain ⟨y0, y1, y2, y3, y4⟩ := HZ.out.c5
  obtain ⟨z0, z1, z2, z3, z4⟩ := HZ.out.z5
  by_cases hlt : k < N
  ·have hkk : (k : Int) < (N : Int) := by omega
   obtain ⟨a, ha⟩ : ∃ a : Nat, 64 + 320 * k = a := ⟨_, rfl⟩
   have ha29 : a ≤ 536870912 := by omega
   have hw1 : IntKind.i64.wrap (320 * (k : Int)) = 320 * (k : Int) := by rw [IntKind.wrap_i64]; omega
   have hw2 : IntKind.i64.wrap (64 + 320 * (k : Int)) = (a : Int) := by rw [IntKind.wrap_i64]; omega
   have hw3 : IntKind.i64.wrap ((a : Int) + 320) = (a : Int) + 320 := by rw [IntKind.wrap_i64]; omega
   have HFA : Hid (frAt l k = frP (l.drop a)) := zh (by rw [frAt_P, ha])
   clear ha
   by_cases hlong : l.length < a + 320
   ·have hcc : (s.size : Int) < (a : Int) + 320 := by have := HSZ.out; omega
    have HWO : Hid (p.wopen = (8, [])) := zh (by
     rw [HW2.out, frsAt_none (k := k) (by rw [HFA.out]; unfold frP; rw [if_pos (by rw [List.length_drop]; omega)]) hlt])
    go_wp2_with fail
    refine bodyPost_ret (ret_cell_tmp rfl _ _ _ _ _ _ rfl (blk5 HZ.out rfl) Tryz.underlying94 rfl (by exact infoLog) _ rfl) rfl ⟨kp5 HK.out (.inl (by have := HS0.out; omega)), .inl ⟨by rw [HWO.out]; decide, by rw [HWO.out]; rfl⟩⟩
   ·have hcc : ¬ (s.size : Int) < (a : Int) + 320 := by have := HSZ.out; omega
    have HAL3 : Hid (a + 320 ≤ l.length) := zh (by omega)
    obtain ⟨a4, ha4⟩ : ∃ a4 : Nat, a + 4 = a4 := ⟨_, rfl⟩
    obtain ⟨a8, ha8⟩ : ∃ a8 : Nat, a + 8 = a8 := ⟨_, rfl⟩
    obtain ⟨a64, ha64⟩ : ∃ a64 : Nat, a + 64 = a64 := ⟨_, rfl⟩
    have hw4 : IntKind.i64.wrap ((a : Int) + 4) = (a4 : Int) := by rw [IntKind.wrap_i64]; omega
    have hw5 : IntKind.i64.wrap ((a : Int) + 64) = (a64 : Int) := by rw [IntKind.wrap_i64]; omega
    have hw6 : IntKind.i64.wrap ((a : Int) + 8) = (a8 : Int) := by rw [IntKind.wrap_i64]; omega
    have h86 : a8 ≤ a64 := by omega
    have h64s : a64 ≤ s.size := by have := HSZ.out; omega
    have h64i : (a64 : Int) ≤ (s.size : Int) := by omega
    have h86i : (a8 : Int) ≤ (a64 : Int) := by omega
    have e64 : s.extract a64 s.size = strOf (l.drop a64) := by rw [← HS.out, strOf_sub, strOf_size, List.take_of_length_le (by rw [List.length_drop]; exact Nat.le_refl _)]
    have e8 : s.extract a8 a64 = strOf ((l.drop a8).take 56) := by rw [← HS.out, strOf_sub, show a64 - a8 = 56 by omega]
    obtain ⟨s64, hs64⟩ : ∃ s64, strOf (l.drop a64) = s64 := ⟨_, rfl⟩
    obtain ⟨s8, hs8⟩ : ∃ s8, strOf ((l.drop a8).take 56) = s8 := ⟨_, rfl⟩
    rw [hs64] at e64
    rw [hs8] at e8
    have HS64 := zh hs64
    have HS8 := zh hs8
    obtain ⟨x, hx⟩ : ∃ x, num l a = x := ⟨_, rfl⟩
    obtain ⟨y, hy⟩ : ∃ y, num l a4 = y := ⟨_, rfl⟩
    obtain ⟨pb, hpb⟩ : ∃ pb, (l.drop a64).take 256 = pb := ⟨_, rfl⟩
    have hpl : pb.length = 256 := by rw [← hpb, List.length_take, List.length_drop]; omega
    have HPL := zh hpl
    have HPE : Hid (pageOf (l.drop a64) 1 = pb) := zh (by
     unfold pageOf sizedF
     rw [show (1 - 1) * 256 = 0 from rfl, List.drop_zero, if_pos (by rw [List.length_drop]; omega)]
     exact hpb)
    have hfr : frP (l.drop a) = if (l.drop a8).take 56 = zeros 56 ∧ x ≤ 4096 ∧ y ≤ 4097 ∧ (0 < x ∨ 0 < y) then some ⟨x, y, pb⟩ else none := by
     rw [frp_cases (by rw [List.length_drop]; omega), num_dropR, num_dropR, List.drop_drop, List.drop_drop, ha8, ha64, ha4, hy, hpb, Nat.add_zero, hx]
    have HFR := zh (HFA.out.trans hfr)
    have hxr : 0 ≤ x := by rw [← hx]; exact num_ge HR.out a
    have hyr : 0 ≤ y := by rw [← hy]; exact num_ge HR.out a4
    have HX := zh hx
    have HY := zh hy
    have HA4 := zh ha4
    have hbq := str_eqB s8 (strOf (zeros 56))
    have HZZ : Hid (s8 = strOf (zeros 56) ↔ (l.drop a8).take 56 = zeros 56) := zh (by
     rw [← hs8]
     exact ⟨fun q => strOf_inj (fun y hy => HR.out y (List.mem_of_mem_drop (List.mem_of_mem_take hy))) (zeros_rng 56) q, fun q => congrArg strOf q⟩)
    clear ha4 ha8 ha64 hs64 hs8 hx hy hpb hpl hfr HFA
    go_upto_region 14 with fail
    have HAL := HAL3
    apply wp_intoG (G := fun V g9 => Blk V g9 99 (rfA ⟨x, y, pb⟩) ∧ wq.heap.size ≤ g9 ∧ Kp NoB wq V)
    ·refine wp_region_held_drew (S := fun V => Kp NoB wq V) (by kernel_rfl) (Kp.refl NoB wq).drew (fun hHeld => ?_)
     have k0 : Kp NoB wq wq.drew := (Kp.refl NoB wq).drew
     generalize wq.drew = V0 at k0 hHeld ⊢
     refine tkJ (i := 0) (v := (.string s)) rfl k0 ?_
     simp only [Act.put, sA, sB, sC]
     refine tkJ (i := 1) (v := (.int .i64 (a : Int))) rfl k0 ?_
     simp only [Act.put, sA, sB, sC]
     refine tkJ (i := 3) (v := (.string s)) rfl k0 ?_
     simp only [Act.put, sA, sB, sC]
     refine tkJ (i := 4) (v := (.int .i64 (a : Int))) rfl k0 ?_
     simp only [Act.put, sA, sB, sC]
     refine tkJ (i := 5) (v := (.int .i64 (a4 : Int))) rfl k0 ?_
     simp only [Act.put, sA, sB, sC]
     refine tkJ (i := 7) (v := (.string s)) rfl k0 ?_
     simp only [Act.put, sA, sB, sC]
     refine tkJ (i := 8) (v := (.int .i64 (a : Int))) rfl k0 ?_
     simp only [Act.put, sA, sB, sC]
     refine tkJ (i := 9) (v := (.int .i64 (a64 : Int))) rfl k0 ?_
     simp only [Act.put, sA, sB, sC]
     refine tkS (i := 10) (v := (.string s64)) rfl (Or.inl ⟨by rfl, fun w' hq => by have ee := e64; go_simp⟩) k0 ?_
     simp only [Act.put, sA, sB, sC]
     refine tkR [2, 13] ?_
     refine AllReadyH.callR (fun z W' => z = .int .i64 x ∧ Kp NoB V0 W') rfl (by rfl) 90 #[.string s, .int .i64 (a : Int)] (by first | (go_simp; done) | (go_simp; rfl)) (fun _ _ q => (k0).trans q.2 (fun _ _ z => z)) ((show Calls _ _ #[.string s, .int .i64 (a : Int)] _ _ by rw [← HS.out]; exact number_rok V0 l a HR.out (by have := HAL.out; omega) (by have := HL.out; omega)).mono (by rintro e w19 ⟨rfl, hk⟩; exact ⟨_, rfl, by rw [HX.out], hk⟩)) ?_ ?_
     ·rintro z V1 ⟨rfl, kk1⟩
      have k1 := k0.trans kk1 (fun _ _ z => z)
      simp only [Act.put, sA, sB, sC]
      refine tkR [6, 13] ?_
      refine AllReadyH.callR (fun z W' => z = .int .i64 y ∧ Kp NoB V1 W') rfl (by rfl) 90 #[.string s, .int .i64 (a4 : Int)] (by first | (go_simp; done) | (go_simp; rfl)) (fun _ _ q => (k1).trans q.2 (fun _ _ z => z)) ((show Calls _ _ #[.string s, .int .i64 (a4 : Int)] _ _ by rw [← HS.out]; exact number_rok V1 l a4 HR.out (by have := HAL.out; have := HA4.out; omega) (by have := HL.out; omega)).mono (by rintro e w19 ⟨rfl, hk⟩; exact ⟨_, rfl, by rw [HY.out], hk⟩)) ?_ ?_
      ·rintro z V2 ⟨rfl, kk2⟩
       have k2 := k1.trans kk2 (fun _ _ z => z)
       simp only [Act.put, sA, sB, sC]
       refine tkR [11, 13] ?_
       refine AllReadyH.callR (fun z W' => z = .agg (bytesV pb) ∧ Kp NoB V2 W') rfl (by rfl) 91 #[.string s64, .int .i64 1] (by first | (go_simp; done) | (go_simp; rfl)) (fun _ _ q => (k2).trans q.2 (fun _ _ z => z)) ((show Calls _ _ #[.string s64, .int .i64 1] _ _ by rw [← HS64.out]; exact pageof_rok V2 (l.drop a64) 1 (fun y hy => HR.out y (List.mem_of_mem_drop hy)) (by rw [List.length_drop]; have := HL.out; omega) (by omega)).mono (by rintro e w19 ⟨rfl, hk⟩; exact ⟨_, rfl, by rw [show (1 : Int).toNat = 1 from rfl, HPE.out], hk⟩)) ?_ ?_
       ·rintro z V3 ⟨rfl, kk3⟩
        have k3 := k2.trans kk3 (fun _ _ z => z)
        simp only [Act.put, sA, sB, sC]
        refine tkS (i := 12) (v := .agg (rfA ⟨x, y, pb⟩)) rfl (Or.inl ⟨by rfl, fun w' hq => exBuildRf3 w' _ _ _ _ x y pb HPL.out _ _ _ _ _ rfl rfl rfl⟩) k3 ?_
        simp only [Act.put, sA, sB, sC]
        refine tkR [13] ?_
        refine AllReadyH.valR (fun W' => W' = V3.alloc (.cells rf0 99)) rfl (by rfl) _ _ (allocRfr V3 _ _ _ _ _ _) (fun W' e => by rw [e]; exact (k3).alloc _) rfl ?_ AllReadyH.nil
        rintro _ rfl
        have hb9 : Blk (V3.alloc (.cells rf0 99)) V3.heap.size 99 rf0 := Blk.new _ _ _
        have k4 : Kp NoB wq (V3.alloc (.cells rf0 99)) := (k3).alloc _
        have hg9 : wq.heap.size ≤ V3.heap.size := (k3).size
        generalize V3.alloc (.cells rf0 99) = V4 at hb9 k4 ⊢
        generalize V3.heap.size = g9 at hb9 hg9 ⊢
        simp only [Act.put, sA, sB, sC]
        refine tkR [14] ?_
        have hbe := hb9.whole (rfA ⟨x, y, pb⟩) (by rw [rfA_size HPL.out]; exact rfA_size zeros256)
        have hkc : Kp NoB wq (V4.setCells g9 0 (rfA ⟨x, y, pb⟩).toList) := Kp.setCells (S := NoB) (.inl hg9) _ _ _ k4
        refine AllReadyH.storeL rfl (by rfl) g9 0 (rfA ⟨x, y, pb⟩) rfl rfl (hb9.thereAll _ (by rw [rfA_size HPL.out]; exact rfA_size zeros256)) (by rw [rfA_size HPL.out]; exact infoRfrS) (ones_of (fun u hu => rfL_one _ u hu)) hkc ?_ AllReadyH.nil
        generalize V4.setCells g9 0 (rfA ⟨x, y, pb⟩).toList = W9 at hbe hkc ⊢
        refine wpAnyH_done (by kernel_rfl) ?_ _
        exact intoG_of g9 ⟨hbe, hg9, hkc⟩ rfl
       ·refine AllReadyH.valR (fun W' => W' = V2.alloc (.cells rf0 99)) rfl (by rfl) _ _ (allocRfr V2 _ _ _ _ _ _) (fun W' e => by rw [e]; exact (k2).alloc _) rfl ?_ AllReadyH.nil
        rintro _ rfl
        have hb9 : Blk (V2.alloc (.cells rf0 99)) V2.heap.size 99 rf0 := Blk.new _ _ _
        have k3 : Kp NoB wq (V2.alloc (.cells rf0 99)) := (k2).alloc _
        have hg9 : wq.heap.size ≤ V2.heap.size := (k2).size
        generalize V2.alloc (.cells rf0 99) = V3 at hb9 k3 ⊢
        generalize V2.heap.size = g9 at hb9 hg9 ⊢
        simp only [Act.put, sA, sB, sC]
        refine tkR [11] ?_
        refine AllReadyH.callR (fun z W' => z = .agg (bytesV pb) ∧ Kp NoB V3 W') rfl (by rfl) 91 #[.string s64, .int .i64 1] (by first | (go_simp; done) | (go_simp; rfl)) (fun _ _ q => (k3).trans q.2 (fun _ _ z => z)) ((show Calls _ _ #[.string s64, .int .i64 1] _ _ by rw [← HS64.out]; exact pageof_rok V3 (l.drop a64) 1 (fun y hy => HR.out y (List.mem_of_mem_drop hy)) (by rw [List.length_drop]; have := HL.out; omega) (by omega)).mono (by rintro e w19 ⟨rfl, hk⟩; exact ⟨_, rfl, by rw [show (1 : Int).toNat = 1 from rfl, HPE.out], hk⟩)) ?_ AllReadyH.nil
        rintro z V4 ⟨rfl, kk4⟩
        have k4 := k3.trans kk4 (fun _ _ z => z)
        have hb9 := hb9.keep kk4 (fun q => q)
        simp only [Act.put, sA, sB, sC]
        refine tkS (i := 12) (v := .agg (rfA ⟨x, y, pb⟩)) rfl (Or.inl ⟨by rfl, fun w' hq => exBuildRf3 w' _ _ _ _ x y pb HPL.out _ _ _ _ _ rfl rfl rfl⟩) k4 ?_
        simp only [Act.put, sA, sB, sC]
        refine tkR [14] ?_
        have hbe := hb9.whole (rfA ⟨x, y, pb⟩) (by rw [rfA_size HPL.out]; exact rfA_size zeros256)
        have hkc : Kp NoB wq (V4.setCells g9 0 (rfA ⟨x, y, pb⟩).toList) := Kp.setCells (S := NoB) (.inl hg9) _ _ _ k4
        refine AllReadyH.storeL rfl (by rfl) g9 0 (rfA ⟨x, y, pb⟩) rfl rfl (hb9.thereAll _ (by rw [rfA_size HPL.out]; exact rfA_size zeros256)) (by rw [rfA_size HPL.out]; exact infoRfrS) (ones_of (fun u hu => rfL_one _ u hu)) hkc ?_ AllReadyH.nil
        generalize V4.setCells g9 0 (rfA ⟨x, y, pb⟩).toList = W9 at hbe hkc ⊢
        refine wpAnyH_done (by kernel_rfl) ?_ _
        exact intoG_of g9 ⟨hbe, hg9, hkc⟩ rfl
      ·refine AllReadyH.valR (fun W' => W' = V1.alloc (.cells rf0 99)) rfl (by rfl) _ _ (allocRfr V1 _ _ _ _ _ _) (fun W' e => by rw [e]; exact (k1).alloc _) rfl ?_ AllReadyH.nil
       rintro _ rfl
       have hb9 : Blk (V1.alloc (.cells rf0 99)) V1.heap.size 99 rf0 := Blk.new _ _ _
       have k2 : Kp NoB wq (V1.alloc (.cells rf0 99)) := (k1).alloc _
       have hg9 : wq.heap.size ≤ V1.heap.size := (k1).size
       generalize V1.alloc (.cells rf0 99) = V2 at hb9 k2 ⊢
       generalize V1.heap.size = g9 at hb9 hg9 ⊢
       simp only [Act.put, sA, sB, sC]
       refine tkR [6] ?_
       refine AllReadyH.callR (fun z W' => z = .int .i64 y ∧ Kp NoB V2 W') rfl (by rfl) 90 #[.string s, .int .i64 (a4 : Int)] (by first | (go_simp; done) | (go_simp; rfl)) (fun _ _ q => (k2).trans q.2 (fun _ _ z => z)) ((show Calls _ _ #[.string s, .int .i64 (a4 : Int)] _ _ by rw [← HS.out]; exact number_rok V2 l a4 HR.out (by have := HAL.out; have := HA4.out; omega) (by have := HL.out; omega)).mono (by rintro e w19 ⟨rfl, hk⟩; exact ⟨_, rfl, by rw [HY.out], hk⟩)) ?_ AllReadyH.nil
       rintro z V3 ⟨rfl, kk3⟩
       have k3 := k2.trans kk3 (fun _ _ z => z)
       have hb9 := hb9.keep kk3 (fun q => q)
       simp only [Act.put, sA, sB, sC]
       refine tkR [11] ?_
       refine AllReadyH.callR (fun z W' => z = .agg (bytesV pb) ∧ Kp NoB V3 W') rfl (by rfl) 91 #[.string s64, .int .i64 1] (by first | (go_simp; done) | (go_simp; rfl)) (fun _ _ q => (k3).trans q.2 (fun _ _ z => z)) ((show Calls _ _ #[.string s64, .int .i64 1] _ _ by rw [← HS64.out]; exact pageof_rok V3 (l.drop a64) 1 (fun y hy => HR.out y (List.mem_of_mem_drop hy)) (by rw [List.length_drop]; have := HL.out; omega) (by omega)).mono (by rintro e w19 ⟨rfl, hk⟩; exact ⟨_, rfl, by rw [show (1 : Int).toNat = 1 from rfl, HPE.out], hk⟩)) ?_ AllReadyH.nil
       rintro z V4 ⟨rfl, kk4⟩
       have k4 := k3.trans kk4 (fun _ _ z => z)
       have hb9 := hb9.keep kk4 (fun q => q)
       simp only [Act.put, sA, sB, sC]
       refine tkS (i := 12) (v := .agg (rfA ⟨x, y, pb⟩)) rfl (Or.inl ⟨by rfl, fun w' hq => exBuildRf3 w' _ _ _ _ x y pb HPL.out _ _ _ _ _ rfl rfl rfl⟩) k4 ?_
       simp only [Act.put, sA, sB, sC]
       refine tkR [14] ?_
       have hbe := hb9.whole (rfA ⟨x, y, pb⟩) (by rw [rfA_size HPL.out]; exact rfA_size zeros256)
       have hkc : Kp NoB wq (V4.setCells g9 0 (rfA ⟨x, y, pb⟩).toList) := Kp.setCells (S := NoB) (.inl hg9) _ _ _ k4
       refine AllReadyH.storeL rfl (by rfl) g9 0 (rfA ⟨x, y, pb⟩) rfl rfl (hb9.thereAll _ (by rw [rfA_size HPL.out]; exact rfA_size zeros256)) (by rw [rfA_size HPL.out]; exact infoRfrS) (ones_of (fun u hu => rfL_one _ u hu)) hkc ?_ AllReadyH.nil
       generalize V4.setCells g9 0 (rfA ⟨x, y, pb⟩).toList = W9 at hbe hkc ⊢
       refine wpAnyH_done (by kernel_rfl) ?_ _
       exact intoG_of g9 ⟨hbe, hg9, hkc⟩ rfl
     ·refine AllReadyH.valR (fun W' => W' = V0.alloc (.cells rf0 99)) rfl (by rfl) _ _ (allocRfr V0 _ _ _ _ _ _) (fun W' e => by rw [e]; exact (k0).alloc _) rfl ?_ AllReadyH.nil
      rintro _ rfl
      have hb9 : Blk (V0.alloc (.cells rf0 99)) V0.heap.size 99 rf0 := Blk.new _ _ _
      have k1 : Kp NoB wq (V0.alloc (.cells rf0 99)) := (k0).alloc _
      have hg9 : wq.heap.size ≤ V0.heap.size := (k0).size
      generalize V0.alloc (.cells rf0 99) = V1 at hb9 k1 ⊢
      generalize V0.heap.size = g9 at hb9 hg9 ⊢
      simp only [Act.put, sA, sB, sC]
      refine tkR [2] ?_
      refine AllReadyH.callR (fun z W' => z = .int .i64 x ∧ Kp NoB V1 W') rfl (by rfl) 90 #[.string s, .int .i64 (a : Int)] (by first | (go_simp; done) | (go_simp; rfl)) (fun _ _ q => (k1).trans q.2 (fun _ _ z => z)) ((show Calls _ _ #[.string s, .int .i64 (a : Int)] _ _ by rw [← HS.out]; exact number_rok V1 l a HR.out (by have := HAL.out; omega) (by have := HL.out; omega)).mono (by rintro e w19 ⟨rfl, hk⟩; exact ⟨_, rfl, by rw [HX.out], hk⟩)) ?_ AllReadyH.nil
      rintro z V2 ⟨rfl, kk2⟩
      have k2 := k1.trans kk2 (fun _ _ z => z)
      have hb9 := hb9.keep kk2 (fun q => q)
      simp only [Act.put, sA, sB, sC]
      refine tkR [6] ?_
      refine AllReadyH.callR (fun z W' => z = .int .i64 y ∧ Kp NoB V2 W') rfl (by rfl) 90 #[.string s, .int .i64 (a4 : Int)] (by first | (go_simp; done) | (go_simp; rfl)) (fun _ _ q => (k2).trans q.2 (fun _ _ z => z)) ((show Calls _ _ #[.string s, .int .i64 (a4 : Int)] _ _ by rw [← HS.out]; exact number_rok V2 l a4 HR.out (by have := HAL.out; have := HA4.out; omega) (by have := HL.out; omega)).mono (by rintro e w19 ⟨rfl, hk⟩; exact ⟨_, rfl, by rw [HY.out], hk⟩)) ?_ AllReadyH.nil
      rintro z V3 ⟨rfl, kk3⟩
      have k3 := k2.trans kk3 (fun _ _ z => z)
      have hb9 := hb9.keep kk3 (fun q => q)
      simp only [Act.put, sA, sB, sC]
      refine tkR [11] ?_
      refine AllReadyH.callR (fun z W' => z = .agg (bytesV pb) ∧ Kp NoB V3 W') rfl (by rfl) 91 #[.string s64, .int .i64 1] (by first | (go_simp; done) | (go_simp; rfl)) (fun _ _ q => (k3).trans q.2 (fun _ _ z => z)) ((show Calls _ _ #[.string s64, .int .i64 1] _ _ by rw [← HS64.out]; exact pageof_rok V3 (l.drop a64) 1 (fun y hy => HR.out y (List.mem_of_mem_drop hy)) (by rw [List.length_drop]; have := HL.out; omega) (by omega)).mono (by rintro e w19 ⟨rfl, hk⟩; exact ⟨_, rfl, by rw [show (1 : Int).toNat = 1 from rfl, HPE.out], hk⟩)) ?_ AllReadyH.nil
      rintro z V4 ⟨rfl, kk4⟩
      have k4 := k3.trans kk4 (fun _ _ z => z)
      have hb9 := hb9.keep kk4 (fun q => q)
      simp only [Act.put, sA, sB, sC]
      refine tkS (i := 12) (v := .agg (rfA ⟨x, y, pb⟩)) rfl (Or.inl ⟨by rfl, fun w' hq => exBuildRf3 w' _ _ _ _ x y pb HPL.out _ _ _ _ _ rfl rfl rfl⟩) k4 ?_
      simp only [Act.put, sA, sB, sC]
      refine tkR [14] ?_
      have hbe := hb9.whole (rfA ⟨x, y, pb⟩) (by rw [rfA_size HPL.out]; exact rfA_size zeros256)
      have hkc : Kp NoB wq (V4.setCells g9 0 (rfA ⟨x, y, pb⟩).toList) := Kp.setCells (S := NoB) (.inl hg9) _ _ _ k4
      refine AllReadyH.storeL rfl (by rfl) g9 0 (rfA ⟨x, y, pb⟩) rfl rfl (hb9.thereAll _ (by rw [rfA_size HPL.out]; exact rfA_size zeros256)) (by rw [rfA_size HPL.out]; exact infoRfrS) (ones_of (fun u hu => rfL_one _ u hu)) hkc ?_ AllReadyH.nil
      generalize V4.setCells g9 0 (rfA ⟨x, y, pb⟩).toList = W9 at hbe hkc ⊢
      refine wpAnyH_done (by kernel_rfl) ?_ _
      exact intoG_of g9 ⟨hbe, hg9, hkc⟩ rfl
    intro g9 W6 hz6
    obtain ⟨hb9, hg9, hk6⟩ := hz6
    have HB9 := zh hb9
    have HG9 := zh hg9
    have HK6 := zh hk6
    have h9l := hb9.lt
    clear hb9 hg9 hk6 e64 hw4 e0 e1 e2 e3 e4 hll y0 y1 y2 y3 y4 z0 z1 z2 z3 z4 hl2
    by_cases hbad : (l.drop a8).take 56 = zeros 56 ∧ x ≤ 4096 ∧ y ≤ 4097 ∧ (0 < x ∨ 0 < y)
    rotate_left
    ·have HWO : Hid (p.wopen = (8, [])) := zh (by
      rw [HW2.out, frsAt_none (k := k) (by rw [HFR.out, if_neg hbad]) hlt])
     have HBAD := zh hbad
     clear hbad
     go_upto_region 15 with fail
     apply wp_intoO true
     ·by_cases hx4 : 4096 < x
      ·skip
       refine wp_region_held_drew (S := fun V => Kp NoB W6 V) (by kernel_rfl) (Kp.refl NoB W6).drew (fun hHeld => ?_)
       have k0 : Kp NoB W6 W6.drew := (Kp.refl NoB W6).drew
       generalize W6.drew = V0 at k0 hHeld ⊢
       refine tkJ (i := 0) (v := (.pointer (some ⟨g9, 0, none⟩))) rfl k0 ?_
       simp only [Act.put, sA, sB, sC]
       refine tkS (i := 1) (v := (.int .i64 x)) rfl (Or.inl ⟨by rfl, fun w' hq => by have := (HB9.out.keep hq (fun q => q)).cell 0; have cc : w'.cell? ⟨g9, 0, none⟩ = some (.int .i64 x) := this; clear this; go_simp⟩) k0 ?_
       simp only [Act.put, sA, sB, sC]
       refine tkJ (i := 2) (v := (.bool true)) rfl k0 ?_
       simp only [Act.put, sA, sB, sC]
       refine tkJ (i := 3) (v := (.bool true)) rfl k0 ?_
       simp only [Act.put, sA, sB, sC]
       refine tkU (i := 4) rfl k0 ?_
       simp only [Act.put, sA, sB, sC]
       refine tkU (i := 5) rfl k0 ?_
       simp only [Act.put, sA, sB, sC]
       refine tkU (i := 6) rfl k0 ?_
       simp only [Act.put, sA, sB, sC]
       refine tkJ (i := 7) (v := (.bool true)) rfl k0 ?_
       simp only [Act.put, sA, sB, sC]
       refine tkJ (i := 8) (v := (.bool true)) rfl k0 ?_
       simp only [Act.put, sA, sB, sC]
       refine tkU (i := 9) rfl k0 ?_
       simp only [Act.put, sA, sB, sC]
       refine tkU (i := 10) rfl k0 ?_
       simp only [Act.put, sA, sB, sC]
       refine tkU (i := 11) rfl k0 ?_
       simp only [Act.put, sA, sB, sC]
       refine tkU (i := 12) rfl k0 ?_
       simp only [Act.put, sA, sB, sC]
       refine tkU (i := 13) rfl k0 ?_
       simp only [Act.put, sA, sB, sC]
       refine tkU (i := 14) rfl k0 ?_
       simp only [Act.put, sA, sB, sC]
       refine tkU (i := 15) rfl k0 ?_
       simp only [Act.put, sA, sB, sC]
       refine tkU (i := 16) rfl k0 ?_
       simp only [Act.put, sA, sB, sC]
       refine tkJ (i := 17) (v := (.bool true)) rfl k0 ?_
       simp only [Act.put, sA, sB, sC]
       refine tkJ (i := 18) (v := (.bool true)) rfl k0 ?_
       simp only [Act.put, sA, sB, sC]
       refine tkU (i := 19) rfl k0 ?_
       simp only [Act.put, sA, sB, sC]
       refine tkU (i := 20) rfl k0 ?_
       simp only [Act.put, sA, sB, sC]
       refine tkU (i := 21) rfl k0 ?_
       simp only [Act.put, sA, sB, sC]
       refine tkU (i := 22) rfl k0 ?_
       simp only [Act.put, sA, sB, sC]
       refine tkU (i := 23) rfl k0 ?_
       simp only [Act.put, sA, sB, sC]
       refine tkU (i := 24) rfl k0 ?_
       simp only [Act.put, sA, sB, sC]
       refine tkU (i := 25) rfl k0 ?_
       simp only [Act.put, sA, sB, sC]
       refine tkU (i := 26) rfl k0 ?_
       simp only [Act.put, sA, sB, sC]
       refine tkJ (i := 27) (v := (.bool true)) rfl k0 ?_
       simp only [Act.put, sA, sB, sC]
       refine wpAnyH_done (by kernel_rfl) ?_ _
       exact intoO_of k0 (by kernel_rfl)
      have hx4' : ¬ 4096 < x := hx4
      by_cases hy4 : 4097 < y
      ·skip
       refine wp_region_held_drew (S := fun V => Kp NoB W6 V) (by kernel_rfl) (Kp.refl NoB W6).drew (fun hHeld => ?_)
       have k0 : Kp NoB W6 W6.drew := (Kp.refl NoB W6).drew
       generalize W6.drew = V0 at k0 hHeld ⊢
       refine tkJ (i := 0) (v := (.pointer (some ⟨g9, 0, none⟩))) rfl k0 ?_
       simp only [Act.put, sA, sB, sC]
       refine tkS (i := 1) (v := (.int .i64 x)) rfl (Or.inl ⟨by rfl, fun w' hq => by have := (HB9.out.keep hq (fun q => q)).cell 0; have cc : w'.cell? ⟨g9, 0, none⟩ = some (.int .i64 x) := this; clear this; go_simp⟩) k0 ?_
       simp only [Act.put, sA, sB, sC]
       refine tkJ (i := 2) (v := (.bool false)) rfl k0 ?_
       simp only [Act.put, sA, sB, sC]
       refine tkJ (i := 3) (v := (.bool false)) rfl k0 ?_
       simp only [Act.put, sA, sB, sC]
       refine tkJ (i := 4) (v := (.pointer (some ⟨g9, 1, none⟩))) rfl k0 ?_
       simp only [Act.put, sA, sB, sC]
       refine tkS (i := 5) (v := (.int .i64 y)) rfl (Or.inl ⟨by rfl, fun w' hq => by have := (HB9.out.keep hq (fun q => q)).cell 1; have cc : w'.cell? ⟨g9, 1, none⟩ = some (.int .i64 y) := this; clear this; go_simp⟩) k0 ?_
       simp only [Act.put, sA, sB, sC]
       refine tkJ (i := 6) (v := (.bool true)) rfl k0 ?_
       simp only [Act.put, sA, sB, sC]
       refine tkJ (i := 7) (v := (.bool true)) rfl k0 ?_
       simp only [Act.put, sA, sB, sC]
       refine tkJ (i := 8) (v := (.bool true)) rfl k0 ?_
       simp only [Act.put, sA, sB, sC]
       refine tkU (i := 9) rfl k0 ?_
       simp only [Act.put, sA, sB, sC]
       refine tkU (i := 10) rfl k0 ?_
       simp only [Act.put, sA, sB, sC]
       refine tkU (i := 11) rfl k0 ?_
       simp only [Act.put, sA, sB, sC]
       refine tkU (i := 12) rfl k0 ?_
       simp only [Act.put, sA, sB, sC]
       refine tkU (i := 13) rfl k0 ?_
       simp only [Act.put, sA, sB, sC]
       refine tkU (i := 14) rfl k0 ?_
       simp only [Act.put, sA, sB, sC]
       refine tkU (i := 15) rfl k0 ?_
       simp only [Act.put, sA, sB, sC]
       refine tkU (i := 16) rfl k0 ?_
       simp only [Act.put, sA, sB, sC]
       refine tkJ (i := 17) (v := (.bool true)) rfl k0 ?_
       simp only [Act.put, sA, sB, sC]
       refine tkJ (i := 18) (v := (.bool true)) rfl k0 ?_
       simp only [Act.put, sA, sB, sC]
       refine tkU (i := 19) rfl k0 ?_
       simp only [Act.put, sA, sB, sC]
       refine tkU (i := 20) rfl k0 ?_
       simp only [Act.put, sA, sB, sC]
       refine tkU (i := 21) rfl k0 ?_
       simp only [Act.put, sA, sB, sC]
       refine tkU (i := 22) rfl k0 ?_
       simp only [Act.put, sA, sB, sC]
       refine tkU (i := 23) rfl k0 ?_
       simp only [Act.put, sA, sB, sC]
       refine tkU (i := 24) rfl k0 ?_
       simp only [Act.put, sA, sB, sC]
       refine tkU (i := 25) rfl k0 ?_
       simp only [Act.put, sA, sB, sC]
       refine tkU (i := 26) rfl k0 ?_
       simp only [Act.put, sA, sB, sC]
       refine tkJ (i := 27) (v := (.bool true)) rfl k0 ?_
       simp only [Act.put, sA, sB, sC]
       refine wpAnyH_done (by kernel_rfl) ?_ _
       exact intoO_of k0 (by kernel_rfl)
      by_cases hx0 : x = 0
      ·by_cases hy0 : y = 0
       ·have hx0b : (x == 0) = true := by simpa using hx0
        have hy0b : (y == 0) = true := by simpa using hy0
        clear hx0 hy0
        refine wp_region_held_drew (S := fun V => Kp NoB W6 V) (by kernel_rfl) (Kp.refl NoB W6).drew (fun hHeld => ?_)
        have k0 : Kp NoB W6 W6.drew := (Kp.refl NoB W6).drew
        generalize W6.drew = V0 at k0 hHeld ⊢
        refine tkJ (i := 0) (v := (.pointer (some ⟨g9, 0, none⟩))) rfl k0 ?_
        simp only [Act.put, sA, sB, sC]
        refine tkS (i := 1) (v := (.int .i64 x)) rfl (Or.inl ⟨by rfl, fun w' hq => by have := (HB9.out.keep hq (fun q => q)).cell 0; have cc : w'.cell? ⟨g9, 0, none⟩ = some (.int .i64 x) := this; clear this; go_simp⟩) k0 ?_
        simp only [Act.put, sA, sB, sC]
        refine tkJ (i := 2) (v := (.bool false)) rfl k0 ?_
        simp only [Act.put, sA, sB, sC]
        refine tkJ (i := 3) (v := (.bool false)) rfl k0 ?_
        simp only [Act.put, sA, sB, sC]
        refine tkJ (i := 4) (v := (.pointer (some ⟨g9, 1, none⟩))) rfl k0 ?_
        simp only [Act.put, sA, sB, sC]
        refine tkS (i := 5) (v := (.int .i64 y)) rfl (Or.inl ⟨by rfl, fun w' hq => by have := (HB9.out.keep hq (fun q => q)).cell 1; have cc : w'.cell? ⟨g9, 1, none⟩ = some (.int .i64 y) := this; clear this; go_simp⟩) k0 ?_
        simp only [Act.put, sA, sB, sC]
        refine tkJ (i := 6) (v := (.bool false)) rfl k0 ?_
        simp only [Act.put, sA, sB, sC]
        refine tkJ (i := 7) (v := (.bool false)) rfl k0 ?_
        simp only [Act.put, sA, sB, sC]
        refine tkJ (i := 8) (v := (.bool false)) rfl k0 ?_
        simp only [Act.put, sA, sB, sC]
        refine tkJ (i := 9) (v := (.pointer (some ⟨g9, 0, none⟩))) rfl k0 ?_
        simp only [Act.put, sA, sB, sC]
        refine tkS (i := 10) (v := (.int .i64 x)) rfl (Or.inl ⟨by rfl, fun w' hq => by have := (HB9.out.keep hq (fun q => q)).cell 0; have cc : w'.cell? ⟨g9, 0, none⟩ = some (.int .i64 x) := this; clear this; go_simp⟩) k0 ?_
        simp only [Act.put, sA, sB, sC]
        refine tkJ (i := 11) (v := (.bool true)) rfl k0 ?_
        simp only [Act.put, sA, sB, sC]
        refine tkJ (i := 12) (v := (.bool true)) rfl k0 ?_
        simp only [Act.put, sA, sB, sC]
        refine tkJ (i := 13) (v := (.pointer (some ⟨g9, 1, none⟩))) rfl k0 ?_
        simp only [Act.put, sA, sB, sC]
        refine tkS (i := 14) (v := (.int .i64 y)) rfl (Or.inl ⟨by rfl, fun w' hq => by have := (HB9.out.keep hq (fun q => q)).cell 1; have cc : w'.cell? ⟨g9, 1, none⟩ = some (.int .i64 y) := this; clear this; go_simp⟩) k0 ?_
        simp only [Act.put, sA, sB, sC]
        refine tkJ (i := 15) (v := (.bool true)) rfl k0 ?_
        simp only [Act.put, sA, sB, sC]
        refine tkJ (i := 16) (v := (.bool true)) rfl k0 ?_
        simp only [Act.put, sA, sB, sC]
        refine tkJ (i := 17) (v := (.bool true)) rfl k0 ?_
        simp only [Act.put, sA, sB, sC]
        refine tkJ (i := 18) (v := (.bool true)) rfl k0 ?_
        simp only [Act.put, sA, sB, sC]
        refine tkU (i := 19) rfl k0 ?_
        simp only [Act.put, sA, sB, sC]
        refine tkU (i := 20) rfl k0 ?_
        simp only [Act.put, sA, sB, sC]
        refine tkU (i := 21) rfl k0 ?_
        simp only [Act.put, sA, sB, sC]
        refine tkU (i := 22) rfl k0 ?_
        simp only [Act.put, sA, sB, sC]
        refine tkU (i := 23) rfl k0 ?_
        simp only [Act.put, sA, sB, sC]
        refine tkU (i := 24) rfl k0 ?_
        simp only [Act.put, sA, sB, sC]
        refine tkU (i := 25) rfl k0 ?_
        simp only [Act.put, sA, sB, sC]
        refine tkU (i := 26) rfl k0 ?_
        simp only [Act.put, sA, sB, sC]
        refine tkJ (i := 27) (v := (.bool true)) rfl k0 ?_
        simp only [Act.put, sA, sB, sC]
        refine wpAnyH_done (by kernel_rfl) ?_ _
        exact intoO_of k0 (by kernel_rfl)
       ·have hzz : ¬ s8 = strOf (zeros 56) := fun q => HBAD.out ⟨HZZ.out.1 q, by omega, by omega, .inr (by omega)⟩
        rw [decide_eq_false hzz] at hbq
        have hy0' : (y == 0) = false := by simpa using hy0
        have hx0b : (x == 0) = true := by simpa using hx0
        clear hx0 hy0
        refine wp_region_held_drew (S := fun V => Kp NoB W6 V) (by kernel_rfl) (Kp.refl NoB W6).drew (fun hHeld => ?_)
        have k0 : Kp NoB W6 W6.drew := (Kp.refl NoB W6).drew
        generalize W6.drew = V0 at k0 hHeld ⊢
        refine tkJ (i := 0) (v := (.pointer (some ⟨g9, 0, none⟩))) rfl k0 ?_
        simp only [Act.put, sA, sB, sC]
        refine tkS (i := 1) (v := (.int .i64 x)) rfl (Or.inl ⟨by rfl, fun w' hq => by have := (HB9.out.keep hq (fun q => q)).cell 0; have cc : w'.cell? ⟨g9, 0, none⟩ = some (.int .i64 x) := this; clear this; go_simp⟩) k0 ?_
        simp only [Act.put, sA, sB, sC]
        refine tkJ (i := 2) (v := (.bool false)) rfl k0 ?_
        simp only [Act.put, sA, sB, sC]
        refine tkJ (i := 3) (v := (.bool false)) rfl k0 ?_
        simp only [Act.put, sA, sB, sC]
        refine tkJ (i := 4) (v := (.pointer (some ⟨g9, 1, none⟩))) rfl k0 ?_
        simp only [Act.put, sA, sB, sC]
        refine tkS (i := 5) (v := (.int .i64 y)) rfl (Or.inl ⟨by rfl, fun w' hq => by have := (HB9.out.keep hq (fun q => q)).cell 1; have cc : w'.cell? ⟨g9, 1, none⟩ = some (.int .i64 y) := this; clear this; go_simp⟩) k0 ?_
        simp only [Act.put, sA, sB, sC]
        refine tkJ (i := 6) (v := (.bool false)) rfl k0 ?_
        simp only [Act.put, sA, sB, sC]
        refine tkJ (i := 7) (v := (.bool false)) rfl k0 ?_
        simp only [Act.put, sA, sB, sC]
        refine tkJ (i := 8) (v := (.bool false)) rfl k0 ?_
        simp only [Act.put, sA, sB, sC]
        refine tkJ (i := 9) (v := (.pointer (some ⟨g9, 0, none⟩))) rfl k0 ?_
        simp only [Act.put, sA, sB, sC]
        refine tkS (i := 10) (v := (.int .i64 x)) rfl (Or.inl ⟨by rfl, fun w' hq => by have := (HB9.out.keep hq (fun q => q)).cell 0; have cc : w'.cell? ⟨g9, 0, none⟩ = some (.int .i64 x) := this; clear this; go_simp⟩) k0 ?_
        simp only [Act.put, sA, sB, sC]
        refine tkJ (i := 11) (v := (.bool true)) rfl k0 ?_
        simp only [Act.put, sA, sB, sC]
        refine tkJ (i := 12) (v := (.bool true)) rfl k0 ?_
        simp only [Act.put, sA, sB, sC]
        refine tkJ (i := 13) (v := (.pointer (some ⟨g9, 1, none⟩))) rfl k0 ?_
        simp only [Act.put, sA, sB, sC]
        refine tkS (i := 14) (v := (.int .i64 y)) rfl (Or.inl ⟨by rfl, fun w' hq => by have := (HB9.out.keep hq (fun q => q)).cell 1; have cc : w'.cell? ⟨g9, 1, none⟩ = some (.int .i64 y) := this; clear this; go_simp⟩) k0 ?_
        simp only [Act.put, sA, sB, sC]
        refine tkJ (i := 15) (v := (.bool false)) rfl k0 ?_
        simp only [Act.put, sA, sB, sC]
        refine tkJ (i := 16) (v := (.bool false)) rfl k0 ?_
        simp only [Act.put, sA, sB, sC]
        refine tkJ (i := 17) (v := (.bool false)) rfl k0 ?_
        simp only [Act.put, sA, sB, sC]
        refine tkJ (i := 18) (v := (.bool false)) rfl k0 ?_
        simp only [Act.put, sA, sB, sC]
        refine tkJ (i := 19) (v := (.string s)) rfl k0 ?_
        simp only [Act.put, sA, sB, sC]
        refine tkJ (i := 20) (v := (.int .i64 (a : Int))) rfl k0 ?_
        simp only [Act.put, sA, sB, sC]
        refine tkJ (i := 21) (v := (.int .i64 (a8 : Int))) rfl k0 ?_
        simp only [Act.put, sA, sB, sC]
        refine tkJ (i := 22) (v := (.int .i64 (a : Int))) rfl k0 ?_
        simp only [Act.put, sA, sB, sC]
        refine tkJ (i := 23) (v := (.int .i64 (a64 : Int))) rfl k0 ?_
        simp only [Act.put, sA, sB, sC]
        refine tkS (i := 24) (v := (.string s8)) rfl (Or.inl ⟨by rfl, fun w' hq => by have ee := e8; go_simp⟩) k0 ?_
        simp only [Act.put, sA, sB, sC]
        refine tkR [25] ?_
        refine AllReadyH.callR (fun y W' => y = .string (strOf (zeros 56)) ∧ Kp NoB W6 W') rfl (by rfl) 92 #[.int .i64 56] (by first | (go_simp; done) | (go_simp; rfl)) (fun _ _ q => q.2) ((zeros_rok V0 56 (by omega)).mono (by rintro e w' ⟨rfl, hk⟩; exact ⟨_, rfl, rfl, k0.trans hk (fun _ _ q => q)⟩)) ?_ AllReadyH.nil
        rintro _ V1 ⟨rfl, k1⟩
        simp only [Act.put, sA, sB, sC]
        refine tkS (i := 26) (v := (.bool true)) rfl (Or.inl ⟨by rfl, fun w' hq => by have ee := hbq; go_simp⟩) k1 ?_
        simp only [Act.put, sA, sB, sC]
        refine tkJ (i := 27) (v := (.bool true)) rfl k1 ?_
        simp only [Act.put, sA, sB, sC]
        refine wpAnyH_done (by kernel_rfl) ?_ _
        exact intoO_of k1 (by kernel_rfl)
      ·have hzz : ¬ s8 = strOf (zeros 56) := fun q => HBAD.out ⟨HZZ.out.1 q, by omega, by omega, .inl (by omega)⟩
       rw [decide_eq_false hzz] at hbq
       have hx0' : (x == 0) = false := by simpa using hx0
       clear hx0
       refine wp_region_held_drew (S := fun V => Kp NoB W6 V) (by kernel_rfl) (Kp.refl NoB W6).drew (fun hHeld => ?_)
       have k0 : Kp NoB W6 W6.drew := (Kp.refl NoB W6).drew
       generalize W6.drew = V0 at k0 hHeld ⊢
       refine tkJ (i := 0) (v := (.pointer (some ⟨g9, 0, none⟩))) rfl k0 ?_
       simp only [Act.put, sA, sB, sC]
       refine tkS (i := 1) (v := (.int .i64 x)) rfl (Or.inl ⟨by rfl, fun w' hq => by have := (HB9.out.keep hq (fun q => q)).cell 0; have cc : w'.cell? ⟨g9, 0, none⟩ = some (.int .i64 x) := this; clear this; go_simp⟩) k0 ?_
       simp only [Act.put, sA, sB, sC]
       refine tkJ (i := 2) (v := (.bool false)) rfl k0 ?_
       simp only [Act.put, sA, sB, sC]
       refine tkJ (i := 3) (v := (.bool false)) rfl k0 ?_
       simp only [Act.put, sA, sB, sC]
       refine tkJ (i := 4) (v := (.pointer (some ⟨g9, 1, none⟩))) rfl k0 ?_
       simp only [Act.put, sA, sB, sC]
       refine tkS (i := 5) (v := (.int .i64 y)) rfl (Or.inl ⟨by rfl, fun w' hq => by have := (HB9.out.keep hq (fun q => q)).cell 1; have cc : w'.cell? ⟨g9, 1, none⟩ = some (.int .i64 y) := this; clear this; go_simp⟩) k0 ?_
       simp only [Act.put, sA, sB, sC]
       refine tkJ (i := 6) (v := (.bool false)) rfl k0 ?_
       simp only [Act.put, sA, sB, sC]
       refine tkJ (i := 7) (v := (.bool false)) rfl k0 ?_
       simp only [Act.put, sA, sB, sC]
       refine tkJ (i := 8) (v := (.bool false)) rfl k0 ?_
       simp only [Act.put, sA, sB, sC]
       refine tkJ (i := 9) (v := (.pointer (some ⟨g9, 0, none⟩))) rfl k0 ?_
       simp only [Act.put, sA, sB, sC]
       refine tkS (i := 10) (v := (.int .i64 x)) rfl (Or.inl ⟨by rfl, fun w' hq => by have := (HB9.out.keep hq (fun q => q)).cell 0; have cc : w'.cell? ⟨g9, 0, none⟩ = some (.int .i64 x) := this; clear this; go_simp⟩) k0 ?_
       simp only [Act.put, sA, sB, sC]
       refine tkJ (i := 11) (v := (.bool false)) rfl k0 ?_
       simp only [Act.put, sA, sB, sC]
       refine tkJ (i := 12) (v := (.bool false)) rfl k0 ?_
       simp only [Act.put, sA, sB, sC]
       refine tkU (i := 13) rfl k0 ?_
       simp only [Act.put, sA, sB, sC]
       refine tkU (i := 14) rfl k0 ?_
       simp only [Act.put, sA, sB, sC]
       refine tkU (i := 15) rfl k0 ?_
       simp only [Act.put, sA, sB, sC]
       refine tkJ (i := 16) (v := (.bool false)) rfl k0 ?_
       simp only [Act.put, sA, sB, sC]
       refine tkJ (i := 17) (v := (.bool false)) rfl k0 ?_
       simp only [Act.put, sA, sB, sC]
       refine tkJ (i := 18) (v := (.bool false)) rfl k0 ?_
       simp only [Act.put, sA, sB, sC]
       refine tkJ (i := 19) (v := (.string s)) rfl k0 ?_
       simp only [Act.put, sA, sB, sC]
       refine tkJ (i := 20) (v := (.int .i64 (a : Int))) rfl k0 ?_
       simp only [Act.put, sA, sB, sC]
       refine tkJ (i := 21) (v := (.int .i64 (a8 : Int))) rfl k0 ?_
       simp only [Act.put, sA, sB, sC]
       refine tkJ (i := 22) (v := (.int .i64 (a : Int))) rfl k0 ?_
       simp only [Act.put, sA, sB, sC]
       refine tkJ (i := 23) (v := (.int .i64 (a64 : Int))) rfl k0 ?_
       simp only [Act.put, sA, sB, sC]
       refine tkS (i := 24) (v := (.string s8)) rfl (Or.inl ⟨by rfl, fun w' hq => by have ee := e8; go_simp⟩) k0 ?_
       simp only [Act.put, sA, sB, sC]
       refine tkR [25] ?_
       refine AllReadyH.callR (fun y W' => y = .string (strOf (zeros 56)) ∧ Kp NoB W6 W') rfl (by rfl) 92 #[.int .i64 56] (by first | (go_simp; done) | (go_simp; rfl)) (fun _ _ q => q.2) ((zeros_rok V0 56 (by omega)).mono (by rintro e w' ⟨rfl, hk⟩; exact ⟨_, rfl, rfl, k0.trans hk (fun _ _ q => q)⟩)) ?_ AllReadyH.nil
       rintro _ V1 ⟨rfl, k1⟩
       simp only [Act.put, sA, sB, sC]
       refine tkS (i := 26) (v := (.bool true)) rfl (Or.inl ⟨by rfl, fun w' hq => by have ee := hbq; go_simp⟩) k1 ?_
       simp only [Act.put, sA, sB, sC]
       refine tkJ (i := 27) (v := (.bool true)) rfl k1 ?_
       simp only [Act.put, sA, sB, sC]
       refine wpAnyH_done (by kernel_rfl) ?_ _
       exact intoO_of k1 (by kernel_rfl)
     ·intro u W8 hk8
      have hk68 := HK6.out.trans hk8 (fun _ _ q => q)
      have HZ8 := zh (HZ.out.keep hk68 (fun q => q))
      have HK8 := zh (HK.out.trans hk68 (fun _ _ q => q))
      clear hk8 hk68 HZ HK
      have HZ := HZ8
      have HK := HK8
      have hl2 := HZ.out.lt
      obtain ⟨y0, y1, y2, y3, y4⟩ := HZ.out.c5
      obtain ⟨z0, z1, z2, z3, z4⟩ := HZ.out.z5
      simp only [fillO, List.setIfInBounds_toArray, List.set_cons_zero, List.set_cons_succ]
      go_wp2_with fail
      refine bodyPost_ret (ret_cell_tmp rfl _ _ _ _ _ _ rfl (blk5 HZ.out rfl) Tryz.underlying94 rfl (by exact infoLog) _ rfl) rfl ⟨kp5 HK.out (.inl (by have := HS0.out; omega)), .inl ⟨by rw [HWO.out]; decide, by rw [HWO.out]; rfl⟩⟩
    ·have HOK : Hid (frAt l k = some ⟨x, y, pb⟩) := zh (by rw [HFR.out, if_pos hbad])
     obtain ⟨hzz, hx4, hy4, hxy⟩ := hbad
     have hx4' : ¬ 4096 < x := by omega
     have hy4' : ¬ 4097 < y := by omega
     rw [decide_eq_true (HZZ.out.2 hzz)] at hbq
     clear hzz
     go_upto_region 15 with fail
     apply wp_intoO false
     ·by_cases hx0 : x = 0
      ·have hy0' : (y == 0) = false := by simp; omega
       have hx0b : (x == 0) = true := by simpa using hx0
       clear hx0
       refine wp_region_held_drew (S := fun V => Kp NoB W6 V) (by kernel_rfl) (Kp.refl NoB W6).drew (fun hHeld => ?_)
       have k0 : Kp NoB W6 W6.drew := (Kp.refl NoB W6).drew
       generalize W6.drew = V0 at k0 hHeld ⊢
       refine tkJ (i := 0) (v := (.pointer (some ⟨g9, 0, none⟩))) rfl k0 ?_
       simp only [Act.put, sA, sB, sC]
       refine tkS (i := 1) (v := (.int .i64 x)) rfl (Or.inl ⟨by rfl, fun w' hq => by have := (HB9.out.keep hq (fun q => q)).cell 0; have cc : w'.cell? ⟨g9, 0, none⟩ = some (.int .i64 x) := this; clear this; go_simp⟩) k0 ?_
       simp only [Act.put, sA, sB, sC]
       refine tkJ (i := 2) (v := (.bool false)) rfl k0 ?_
       simp only [Act.put, sA, sB, sC]
       refine tkJ (i := 3) (v := (.bool false)) rfl k0 ?_
       simp only [Act.put, sA, sB, sC]
       refine tkJ (i := 4) (v := (.pointer (some ⟨g9, 1, none⟩))) rfl k0 ?_
       simp only [Act.put, sA, sB, sC]
       refine tkS (i := 5) (v := (.int .i64 y)) rfl (Or.inl ⟨by rfl, fun w' hq => by have := (HB9.out.keep hq (fun q => q)).cell 1; have cc : w'.cell? ⟨g9, 1, none⟩ = some (.int .i64 y) := this; clear this; go_simp⟩) k0 ?_
       simp only [Act.put, sA, sB, sC]
       refine tkJ (i := 6) (v := (.bool false)) rfl k0 ?_
       simp only [Act.put, sA, sB, sC]
       refine tkJ (i := 7) (v := (.bool false)) rfl k0 ?_
       simp only [Act.put, sA, sB, sC]
       refine tkJ (i := 8) (v := (.bool false)) rfl k0 ?_
       simp only [Act.put, sA, sB, sC]
       refine tkJ (i := 9) (v := (.pointer (some ⟨g9, 0, none⟩))) rfl k0 ?_
       simp only [Act.put, sA, sB, sC]
       refine tkS (i := 10) (v := (.int .i64 x)) rfl (Or.inl ⟨by rfl, fun w' hq => by have := (HB9.out.keep hq (fun q => q)).cell 0; have cc : w'.cell? ⟨g9, 0, none⟩ = some (.int .i64 x) := this; clear this; go_simp⟩) k0 ?_
       simp only [Act.put, sA, sB, sC]
       refine tkJ (i := 11) (v := (.bool true)) rfl k0 ?_
       simp only [Act.put, sA, sB, sC]
       refine tkJ (i := 12) (v := (.bool true)) rfl k0 ?_
       simp only [Act.put, sA, sB, sC]
       refine tkJ (i := 13) (v := (.pointer (some ⟨g9, 1, none⟩))) rfl k0 ?_
       simp only [Act.put, sA, sB, sC]
       refine tkS (i := 14) (v := (.int .i64 y)) rfl (Or.inl ⟨by rfl, fun w' hq => by have := (HB9.out.keep hq (fun q => q)).cell 1; have cc : w'.cell? ⟨g9, 1, none⟩ = some (.int .i64 y) := this; clear this; go_simp⟩) k0 ?_
       simp only [Act.put, sA, sB, sC]
       refine tkJ (i := 15) (v := (.bool false)) rfl k0 ?_
       simp only [Act.put, sA, sB, sC]
       refine tkJ (i := 16) (v := (.bool false)) rfl k0 ?_
       simp only [Act.put, sA, sB, sC]
       refine tkJ (i := 17) (v := (.bool false)) rfl k0 ?_
       simp only [Act.put, sA, sB, sC]
       refine tkJ (i := 18) (v := (.bool false)) rfl k0 ?_
       simp only [Act.put, sA, sB, sC]
       refine tkJ (i := 19) (v := (.string s)) rfl k0 ?_
       simp only [Act.put, sA, sB, sC]
       refine tkJ (i := 20) (v := (.int .i64 (a : Int))) rfl k0 ?_
       simp only [Act.put, sA, sB, sC]
       refine tkJ (i := 21) (v := (.int .i64 (a8 : Int))) rfl k0 ?_
       simp only [Act.put, sA, sB, sC]
       refine tkJ (i := 22) (v := (.int .i64 (a : Int))) rfl k0 ?_
       simp only [Act.put, sA, sB, sC]
       refine tkJ (i := 23) (v := (.int .i64 (a64 : Int))) rfl k0 ?_
       simp only [Act.put, sA, sB, sC]
       refine tkS (i := 24) (v := (.string s8)) rfl (Or.inl ⟨by rfl, fun w' hq => by have ee := e8; go_simp⟩) k0 ?_
       simp only [Act.put, sA, sB, sC]
       refine tkR [25] ?_
       refine AllReadyH.callR (fun y W' => y = .string (strOf (zeros 56)) ∧ Kp NoB W6 W') rfl (by rfl) 92 #[.int .i64 56] (by first | (go_simp; done) | (go_simp; rfl)) (fun _ _ q => q.2) ((zeros_rok V0 56 (by omega)).mono (by rintro e w' ⟨rfl, hk⟩; exact ⟨_, rfl, rfl, k0.trans hk (fun _ _ q => q)⟩)) ?_ AllReadyH.nil
       rintro _ V1 ⟨rfl, k1⟩
       simp only [Act.put, sA, sB, sC]
       refine tkS (i := 26) (v := (.bool false)) rfl (Or.inl ⟨by rfl, fun w' hq => by have ee := hbq; go_simp⟩) k1 ?_
       simp only [Act.put, sA, sB, sC]
       refine tkJ (i := 27) (v := (.bool false)) rfl k1 ?_
       simp only [Act.put, sA, sB, sC]
       refine wpAnyH_done (by kernel_rfl) ?_ _
       exact intoO_of k1 (by kernel_rfl)
      ·have hx0' : (x == 0) = false := by simpa using hx0
       clear hx0
       refine wp_region_held_drew (S := fun V => Kp NoB W6 V) (by kernel_rfl) (Kp.refl NoB W6).drew (fun hHeld => ?_)
       have k0 : Kp NoB W6 W6.drew := (Kp.refl NoB W6).drew
       generalize W6.drew = V0 at k0 hHeld ⊢
       refine tkJ (i := 0) (v := (.pointer (some ⟨g9, 0, none⟩))) rfl k0 ?_
       simp only [Act.put, sA, sB, sC]
       refine tkS (i := 1) (v := (.int .i64 x)) rfl (Or.inl ⟨by rfl, fun w' hq => by have := (HB9.out.keep hq (fun q => q)).cell 0; have cc : w'.cell? ⟨g9, 0, none⟩ = some (.int .i64 x) := this; clear this; go_simp⟩) k0 ?_
       simp only [Act.put, sA, sB, sC]
       refine tkJ (i := 2) (v := (.bool false)) rfl k0 ?_
       simp only [Act.put, sA, sB, sC]
       refine tkJ (i := 3) (v := (.bool false)) rfl k0 ?_
       simp only [Act.put, sA, sB, sC]
       refine tkJ (i := 4) (v := (.pointer (some ⟨g9, 1, none⟩))) rfl k0 ?_
       simp only [Act.put, sA, sB, sC]
       refine tkS (i := 5) (v := (.int .i64 y)) rfl (Or.inl ⟨by rfl, fun w' hq => by have := (HB9.out.keep hq (fun q => q)).cell 1; have cc : w'.cell? ⟨g9, 1, none⟩ = some (.int .i64 y) := this; clear this; go_simp⟩) k0 ?_
       simp only [Act.put, sA, sB, sC]
       refine tkJ (i := 6) (v := (.bool false)) rfl k0 ?_
       simp only [Act.put, sA, sB, sC]
       refine tkJ (i := 7) (v := (.bool false)) rfl k0 ?_
       simp only [Act.put, sA, sB, sC]
       refine tkJ (i := 8) (v := (.bool false)) rfl k0 ?_
       simp only [Act.put, sA, sB, sC]
       refine tkJ (i := 9) (v := (.pointer (some ⟨g9, 0, none⟩))) rfl k0 ?_
       simp only [Act.put, sA, sB, sC]
       refine tkS (i := 10) (v := (.int .i64 x)) rfl (Or.inl ⟨by rfl, fun w' hq => by have := (HB9.out.keep hq (fun q => q)).cell 0; have cc : w'.cell? ⟨g9, 0, none⟩ = some (.int .i64 x) := this; clear this; go_simp⟩) k0 ?_
       simp only [Act.put, sA, sB, sC]
       refine tkJ (i := 11) (v := (.bool false)) rfl k0 ?_
       simp only [Act.put, sA, sB, sC]
       refine tkJ (i := 12) (v := (.bool false)) rfl k0 ?_
       simp only [Act.put, sA, sB, sC]
       refine tkU (i := 13) rfl k0 ?_
       simp only [Act.put, sA, sB, sC]
       refine tkU (i := 14) rfl k0 ?_
       simp only [Act.put, sA, sB, sC]
       refine tkU (i := 15) rfl k0 ?_
       simp only [Act.put, sA, sB, sC]
       refine tkJ (i := 16) (v := (.bool false)) rfl k0 ?_
       simp only [Act.put, sA, sB, sC]
       refine tkJ (i := 17) (v := (.bool false)) rfl k0 ?_
       simp only [Act.put, sA, sB, sC]
       refine tkJ (i := 18) (v := (.bool false)) rfl k0 ?_
       simp only [Act.put, sA, sB, sC]
       refine tkJ (i := 19) (v := (.string s)) rfl k0 ?_
       simp only [Act.put, sA, sB, sC]
       refine tkJ (i := 20) (v := (.int .i64 (a : Int))) rfl k0 ?_
       simp only [Act.put, sA, sB, sC]
       refine tkJ (i := 21) (v := (.int .i64 (a8 : Int))) rfl k0 ?_
       simp only [Act.put, sA, sB, sC]
       refine tkJ (i := 22) (v := (.int .i64 (a : Int))) rfl k0 ?_
       simp only [Act.put, sA, sB, sC]
       refine tkJ (i := 23) (v := (.int .i64 (a64 : Int))) rfl k0 ?_
       simp only [Act.put, sA, sB, sC]
       refine tkS (i := 24) (v := (.string s8)) rfl (Or.inl ⟨by rfl, fun w' hq => by have ee := e8; go_simp⟩) k0 ?_
       simp only [Act.put, sA, sB, sC]
       refine tkR [25] ?_
       refine AllReadyH.callR (fun y W' => y = .string (strOf (zeros 56)) ∧ Kp NoB W6 W') rfl (by rfl) 92 #[.int .i64 56] (by first | (go_simp; done) | (go_simp; rfl)) (fun _ _ q => q.2) ((zeros_rok V0 56 (by omega)).mono (by rintro e w' ⟨rfl, hk⟩; exact ⟨_, rfl, rfl, k0.trans hk (fun _ _ q => q)⟩)) ?_ AllReadyH.nil
       rintro _ V1 ⟨rfl, k1⟩
       simp only [Act.put, sA, sB, sC]
       refine tkS (i := 26) (v := (.bool false)) rfl (Or.inl ⟨by rfl, fun w' hq => by have ee := hbq; go_simp⟩) k1 ?_
       simp only [Act.put, sA, sB, sC]
       refine tkJ (i := 27) (v := (.bool false)) rfl k1 ?_
       simp only [Act.put, sA, sB, sC]
       refine wpAnyH_done (by kernel_rfl) ?_ _
       exact intoO_of k1 (by kernel_rfl)
     ·intro u W8 hk8
      have hk68 := HK6.out.trans hk8 (fun _ _ q => q)
      have HK68 := zh hk68
      have HB98 := zh (HB9.out.keep hk8 (fun q => q))
      have HLG8 := zh (HLG9.out.keep hk68 (fun q => q))
      have HOW8 := zh (own_keepB HOW.out hk68 (fun _ _ q => q))
      obtain ⟨e0, e1, e2, e3, e4⟩ := HLG8.out.c5
      have e9 : W8.frozen? ⟨lb, 4, none⟩ = false := HLG8.out.frozen 4
      have hll := HLG8.out.lt
      have h98 := HB98.out.lt
      have hrs : (rfA ⟨x, y, pb⟩).size = 258 := rfA_size HPL.out
      have t9 : W8.there g9 0 258 := HB98.out.thereAll 258 hrs
      have r9 : readRow W8 g9 0 258 = rfA ⟨x, y, pb⟩ := HB98.out.readAll 258 hrs
      have hlb9 : lb ≠ W8.heap.size := by omega
      clear hk8 hk68
      simp only [fillO, List.setIfInBounds_toArray, List.set_cons_zero, List.set_cons_succ]
      obtain ⟨RA, hRA⟩ : ∃ RA, rfA ⟨x, y, pb⟩ = RA := ⟨_, rfl⟩
      rw [hRA] at hrs r9
      have HRA := zh hRA
      have hcn : ∀ j u, (rfL ⟨x, y, pb⟩)[j]? = some u → (W8.alloc (.cells RA 99)).cell? ((⟨W8.heap.size, 0, none⟩ : Addr).add j) = some u := fun j u hj => by
       rw [add_mk, Nat.zero_add, (Blk.new W8 99 RA).cell, ← HRA.out]
       unfold rfA
       rw [List.getElem?_toArray]
       exact hj
      have HCN := zh hcn
      clear hRA hcn
      go_wp2_with (at_builtin; refine wpList_append_ownB rfl _ _ 92 rfl w5.heap.size 99 j0 _ 258 272 Tryz.underlying92 HJ0.out HY0.out HY1.out HY2.out rfl (by omega) (.slice A6 k cq) k (acc.map rfL).flatten rfl (own_keepB HOW8.out ((Kp.refl NoB W8).alloc _) (fun _ _ q => q)) ⟨W8.heap.size, 0, none⟩ 1 1 (rfL ⟨x, y, pb⟩) rfl (rfL_len HPL.out) HCN.out (rfL_one _) (by have := HN20.out; unfold maxLen; omega) (by have := HN20.out; omega) (by have h1 := HKP.out.size; have h2 := HK68.out.size; simp; omega) ?_; intro v7 w7 hown7 hgrow7 _; obtain ⟨A7, c7, rfl⟩ := own_slice hown7; have HO7 := zh hown7; have HK7 := zh (((HKP.out.trans HK68.out (fun _ _ q => q.elim)).alloc (.cells RA 99)).own hgrow7 rfl HOW8.out); have HL7 := zh ((HLG8.out.alloc (.cells RA 99)).keep ((Kp.refl (fun b => (Value.slice A6 k cq).ownBlock = some b) _).grown hgrow7 (fun k hk => .inr hk)) (fun q => by have h1 := own_ge HOW.out _ q; have h2 := HLB5.out; omega)); have f4 : w7.cell? ⟨lb, 4, none⟩ = some (.slice A6 k cq) := HL7.out.cell 4; have f9 := HL7.out.frozen 4; clear hown7 hgrow7)
      go_roundw
      case rel =>
       refine ⟨k + 1, acc ++ [⟨x, y, pb⟩], A7, c7, by go_num, by omega, frsAt_next HFS.out HOK.out, HL7.out.set_ 4 _, ?_, HK7.out.setAt (g := lb) rfl 4 _⟩
       have h9 := own_keepB HO7.out ((Kp.refl (OnB lb) w7).setAt (g := lb) rfl 4 (.slice A7 (k + 1) c7)) (fun g hg e => by have h1 := own_ge HO7.out g hg; have h2 := HLB5.out; have h3 : g = lb := e; omega)
       rw [List.map_append, List.flatten_append]
       simpa using h9
      case measure => simp [intOf]; omega
  ·have hke : k = N := by omega
   subst hke
   have hkk : ¬ (k : Int) < (k : Int) := by omega
   have HWN : Hid (p.wopen = if lastEn acc = 0 then ((8, []) : Int × List Fr) else (0, acc)) := zh (by rw [HW2.out, HFS.out])
   have hN20 := HN20.out
   clear hlt
   rcases k with _ | k
   ·have ha : acc = [] := List.eq_nil_of_length_eq_zero HAL.out
    have HWO : Hid (p.wopen = (0, acc)) := zh (by rw [HWN.out, if_neg (by rw [ha]; decide)])
    go_wp2_with fail
    refine bodyPost_ret (ret_cell_tmp rfl _ _ _ _ _ _ rfl (blk5 HZ.out rfl) Tryz.underlying94 rfl (by exact infoLog) _ rfl) rfl ⟨kp5 HK.out (.inl (by have := HS0.out; omega)), .inr ⟨by rw [HWO.out], A6, cq, ?_, ?_⟩⟩
    rotate_left
    ·rw [HWO.out]
     show World.ownsRow _ _ _ _ _ acc.length _
     rw [HAL.out]
     exact (own_keepB HOW.out (kp5 (Kp.refl (OnB (s0 + 1)) wq) (.inr rfl)) (fun g hg e => by have h1 := own_ge HOW.out g hg; have h2 := HLB5.out; have h3 := HZL.out; have h4 : g = s0 + 1 := e; omega)).mono HKZ.out.size
    ·rw [HWO.out, HV.out]
     show Ending.returned _ = Ending.returned (.tuple #[lgV _ _ acc.length _, _])
     rw [HAL.out]
     rfl
   ·have hrow : RfsAt wq A6 (k + 1) acc := RowsC.own (base := w5.heap.size) (cap := cq) (e := 99) HOW.out (by rw [List.length_map, HAL.out]) (fun z hz => by
     obtain ⟨f, hf, rfl⟩ := List.mem_map.1 hz
     exact rfL_len (HAO.out f hf).len)
    have hkl : k < acc.length := by rw [HAL.out]; omega
    obtain ⟨f, hf⟩ : ∃ f, acc[k]? = some f := ⟨_, List.getElem?_eq_getElem hkl⟩
    obtain ⟨g6, o6, rfl, hg6, -, d1, -⟩ := hrow.full hf (HAO.out f (List.mem_of_getElem? hf)).len
    have hle : lastEn acc = f.en := by
     unfold lastEn
     rw [List.getLast?_eq_getElem?, HAL.out, Nat.add_sub_cancel, hf]
    obtain ⟨en, hen⟩ : ∃ en, f.en = en := ⟨_, rfl⟩
    rw [hen] at hle d1
    have HLE := zh hle
    have hwk : IntKind.i64.wrap (((k + 1 : Nat) : Int) - 1) = (k : Int) := by rw [IntKind.wrap_i64]; omega
    have hwk2 : IntKind.i64.wrap (k : Int) = (k : Int) := by rw [IntKind.wrap_i64]; omega
    have hkp1 : (0 : Int) < ((k + 1 : Nat) : Int) := by omega
    have hkb : (k : Int) < ((k + 1 : Nat) : Int) := by omega
    have hkb2 : k + 1 ≤ 9223372036854775807 := by omega
    have hkb3 : ¬ (k : Int) + 1 ≤ (k : Int) := by omega
    clear hrow hkl hf hle hen
    by_cases he : en = 0
    ·have HWO : Hid (p.wopen = (8, [])) := zh (by rw [HWN.out, if_pos (by rw [HLE.out, he])])
     subst he
     go_wp2_with fail
     refine bodyPost_ret (ret_cell_tmp rfl _ _ _ _ _ _ rfl (blk5 HZ.out rfl) Tryz.underlying94 rfl (by exact infoLog) _ rfl) rfl ⟨kp5 HK.out (.inl (by have := HS0.out; omega)), .inl ⟨by rw [HWO.out]; decide, by rw [HWO.out]; rfl⟩⟩
    ·have HWO : Hid (p.wopen = (0, acc)) := zh (by rw [HWN.out, if_neg (by rw [HLE.out]; exact he)])
     have he2 : (en == 0) = false := by simpa using he
     clear he
     go_wp2_with fail
     refine bodyPost_ret (ret_cell_tmp rfl _ _ _ _ _ _ rfl (blk5 HZ.out rfl) Tryz.underlying94 rfl (by exact infoLog) _ rfl) rfl ⟨kp5 HK.out (.inl (by have := HS0.out; omega)), .inr ⟨by rw [HWO.out], (some ⟨g6, o6, none⟩), cq, ?_, ?_⟩⟩
     rotate_left
     ·rw [HWO.out]
      show World.ownsRow _ _ _ _ _ acc.length _
      rw [HAL.out]
      exact (own_keepB HOW.out (kp5 (Kp.refl (OnB (s0 + 1)) wq) (.inr rfl)) (fun g hg e => by have h1 := own_ge HOW.out g hg; have h2 := HLB5.out; have h3 := HZL.out; have h4 : g = s0 + 1 := e; omega)).mono HKZ.out.size
     ·rw [HWO.out, HV.out]
      show Ending.returned _ = Ending.returned (.tuple #[lgV _ _ acc.length _, _])
      rw [HAL.out]
      rfl
end
section
open Go.RowKit
def stC (s : Stp) : List Value := [.int .i64 (s.k : Int), .string s.nm, .int .i64 s.at_, .string (strOf s.d)]
theorem st_len (l : List Stp) : ∀ x ∈ l.map stC, x.length = 4 := by
 intro x hx
 obtain ⟨c, _, rfl⟩ := List.mem_map.1 hx
 rfl
theorem st_one (l : List Stp) : ∀ u ∈ (l.map stC).flatten, u.oneCell' = true := by
 intro u hu
 obtain ⟨x, hx, h2⟩ := List.mem_flatten.1 hu
 obtain ⟨c, _, rfl⟩ := List.mem_map.1 hx
 unfold stC at h2
 simp at h2
 rcases h2 with rfl | rfl | rfl | rfl <;> rfl
def OwnSt (w : World) (n0 : Nat) (v : Value) (l : List Stp) : Prop := w.ownsRow n0 104 4 v l.length (l.map stC).flatten
theorem OwnSt.rows {w : World} {n0 : Nat} {A : Option Addr} {n c : Nat} {l : List Stp} (h : OwnSt w n0 (.slice A n c) l) : n = l.length ∧ RowsC w A n 4 (l.map stC) := by
 have hn : n = l.length := by
  rcases h.2 with ⟨e, hl⟩ | ⟨g, cap, cur, e, _⟩
  ·injection e with _ e2 _; omega
  ·injection e with _ e2 _
 subst hn
 exact ⟨rfl, RowsC.own (base := n0) (e := 104) (cap := c) h (by rw [List.length_map]) (st_len l)⟩
theorem infoSt : (Tryz.prog.info? 104).map (fun i => (i.zero, i.size, i.bytes)) = some (some (.agg #[.int .i64 0, .string ⟨#[]⟩, .int .i64 0, .string ⟨#[]⟩]), 4, 48) := by kernel_rfl
set_option maxRecDepth 100000 in
set_option maxHeartbeats 800000 in
theorem head_rok (w : World) (nm : ByteArray) (v : W4) (hv : W4R v) :
  Calls Tryz.prog 45 #[.string nm, w4V v] w fun e w' => ∃ v', e = .returned v' ∧ OwnSt w' w.heap.size v' (headS nm v) ∧ Kp NoB w w' := by
 have HV := zh hv
 clear hv
 unfold w4V
 go_enter Tryz.func45, Tryz.ntmps45
 go_wp2_with fail
 refine (seal_rok _ v HV.out).mono ?_
 rintro e w2 ⟨rfl, hk⟩
 have HK := zh (((Kp.refl NoB w).alloc _).trans hk (fun _ _ q => q))
 clear hk
 go_wp2_with fail
 go_ret
 exact ⟨_, rfl, ⟨rfl, .inr ⟨w2.heap.size, 2, _, rfl, HK.out.size, heap_alloc_new _ _, Nat.le_refl _, by unfold maxLen; omega, rfl, rfl⟩⟩, HK.out.alloc _⟩
set_option maxRecDepth 100000 in
set_option maxHeartbeats 800000 in
theorem has_rok (w : World) (A : Option Addr) (m c : Nat) (l : List Pg) (n : Int) (hl : PgsAt w A m l) (hm : m ≤ 9223372036854775807) :
  Calls Tryz.prog 93 #[.slice A m c, .int .i64 n] w fun e w' => e = .returned (.bool (hasPg l n)) ∧ Kp NoB w w' := by
 have HL := zh hl
 have hlen : l.length = m := hl.len
 have HLEN := zh hlen
 clear hl hlen
 go_enter Tryz.func93, Tryz.ntmps93
 go_wp2_with fail
 go_loop [5] (fun v => ∃ k : Nat, v = .int .i64 (k : Int) ∧ k ≤ m ∧ ∀ x ∈ l.take k, x.n ≠ n) (fun v => m - (intOf v).toNat)
 case atStart => exact ⟨0, rfl, Nat.zero_le _, by simp⟩
 case round =>
  obtain ⟨k, rfl, hk, hlk⟩ := hrel
  have HLK := zh hlk
  clear hlk
  by_cases hlt : k < m
  ·have hkl : k < l.length := by have := HLEN.out; omega
   obtain ⟨x, hx⟩ : ∃ x, l[k] = x := ⟨_, rfl⟩
   have hxk : l[k]? = some x := by rw [List.getElem?_eq_getElem hkl, hx]
   have HXK := zh hxk
   obtain ⟨g, o, rfl, hg, hc⟩ := (show RowsC w A m 257 (l.map pgL) from HL.out).cell (k := k) (x := pgL x) (by rw [List.getElem?_map, hxk]; rfl)
   have c0 := hc 0 _ rfl
   rw [Nat.add_zero] at c0
   have hkk : (k : Int) < (m : Int) := by omega
   obtain ⟨xn, hxn⟩ : ∃ y, x.n = y := ⟨_, rfl⟩
   rw [hxn] at c0
   have HXN := zh hxn
   clear hc hx hxk hkl hxn
   by_cases he : xn = n
   ·have HE : Hid (hasPg l n = true) := zh ((hasPg_iff l n).2 ⟨x, List.mem_of_getElem? HXK.out, by rw [HXN.out, he]⟩)
    subst he
    go_wp2_with fail
    go_ret
    exact ⟨by rw [HE.out]; rfl, Kp.refl NoB w⟩
   ·have he2 : (xn == n) = false := by simpa using he
    have HN : Hid (∀ y ∈ l.take (k + 1), y.n ≠ n) := zh (fun y hy => by
     rw [List.take_add_one, HXK.out] at hy
     rcases List.mem_append.1 hy with q | q
     ·exact HLK.out y q
     ·simp only [Option.toList_some, List.mem_singleton] at q
      rw [q, HXN.out]
      exact he)
    clear he
    go_wp2_with fail
    go_round
    case rel => exact ⟨k + 1, by go_num, by omega, HN.out⟩
    case measure => simp [intOf]; omega
  ·have hlt' : ¬ (k : Int) < (m : Int) := by omega
   have HE : Hid (hasPg l n = false) := zh (by
    have h1 := HLK.out
    rw [List.take_of_length_le (by have := HLEN.out; omega)] at h1
    rcases hq : hasPg l n with _ | _
    ·rfl
    ·obtain ⟨y, hy, e⟩ := (hasPg_iff l n).1 hq
     exact absurd e (h1 y hy))
   go_wp2_with fail
   go_ret
   exact ⟨by rw [HE.out]; rfl, Kp.refl NoB w⟩
end
end Go.Proofs.YtegcbdfilkecpaaGreat
