/- Texts of this proof, one behind the other: lemmas and contracts; each says its own conditions. -/
import Derived.Test.YtegcbdfilkecpaaGreatQ1
import Derived.Test.YtegcbdfilkecpaaGreatQ4
import Derived.Test.YtegcbdfilkecpaaGreatQ6
import Derived.Test.YtegcbdfilkecpaaGreatQ7
import Derived.Test.YtegcbdfilkecpaaGreatQ10
import Derived.Test.YtegcbdfilkecpaaGreatQ11
import Derived.Test.YtegcbdfilkecpaaGreatQ13
import Derived.Test.YtegcbdfilkecpaaGreatQ15
import Derived.Shelf.SlSortCmp.NoneTotal
import Derived.Shelf.SlSortCmp.WholeK
import Derived.Test.YtegcbdfilkecpaaGreatProg
import Derived.Lib.SortBridge
namespace Go.Proofs.YtegcbdfilkecpaaGreat
section
open Go.RowKit
attribute [local go_sem ↓] load26 store26 alloc26 build26
def fullL (b : Int) : List Int := List.replicate 256 b
def upF (b : Int) (n : Nat) : List Int := List.replicate n b ++ zeros (256 - n)
theorem upF_set (b : Int) (n : Nat) (hn : n < 256) : (upF b n).set n b = upF b (n + 1) := by
 unfold upF zeros
 rw [List.set_append_right _ _ (by rw [List.length_replicate]; omega), List.length_replicate, Nat.sub_self, show 256 - n = (256 - (n + 1)) + 1 by omega, List.replicate_succ, List.set_cons_zero, List.replicate_succ', List.append_assoc]
 rfl
theorem upF_at (b : Int) (n : Nat) (hn : n < 256) : (upF b n)[n]? = some 0 := by
 unfold upF zeros
 rw [List.getElem?_append_right (by rw [List.length_replicate]; omega), List.length_replicate, Nat.sub_self, show 256 - n = (256 - (n + 1)) + 1 by omega, List.replicate_succ]
 rfl
theorem upF_all (b : Int) : upF b 256 = fullL b := by
 unfold upF zeros fullL
 rw [Nat.sub_self, List.replicate_zero, List.append_nil]
structure FuS (w : World) (b : Int) (n : Nat) (W : World) : Prop where
 kp : Kp NoB w W
 b1 : Blk W w.heap.size 46 zero256
 b2 : Blk W (w.heap.size + 1) 46 (bytesV (upF b n))
def aw2L : List Pg := [⟨1, fullL 1⟩, ⟨2, fullL 2⟩]
theorem slicePg2 (w : World) (a b : Array Value) (ha : a.size = 257) (hb : b.size = 257) : (Instr.buildSlice 31 2 #[(0, .agg a), (1, .agg b)]).run Tryz.prog w = .ok (.slice (some ⟨w.heap.size, 0, none⟩) 2 2) (w.alloc (.cells (a ++ b) 49)) := by
 obtain ⟨i, hi, h0, h1, h2⟩ := info_parts infoPgA
 have hu := Tryz.underlying31
 have ca : (Value.agg a).cells = a := rfl
 have cb : (Value.agg b).cells = b := rfl
 have hf : ∀ Z : Array Value, Z.size = 514 → Instr.fill (fun i => some (i * 257, 257)) Z [(0, .agg a), (1, .agg b)] = some (a ++ b) := fun Z hZ => by
  have := Go.Great.fill_whole (s := 257) (by omega) [.agg a, .agg b] Z (by simp [ca, cb, ha, hb]) (by simp [hZ])
  have h := this
  simp only [List.zipIdx_cons, List.zipIdx_nil, List.map_cons, List.map_nil, List.flatMap_cons, List.flatMap_nil, ca, cb, List.append_nil] at h
  rw [show a ++ b = (a.toList ++ b.toList).toArray by simp]
  exact h
 simp [Instr.buildSlice, run_underlying hu, sizeOf, typeInfo, hi, h1, zeroPg, newRow, newObj]
 rw [hf _ (by simp)]
 rfl
theorem exSlicePg2 (w : World) (ev : Operand → Value) (x y : Operand) (a b : Array Value) (ds : Option Tmp) (ty : TypeId) (ps : String) (af : Array Edge) (g : Option (Nat × Bool)) (hx : ev x = .agg a) (hy : ev y = .agg b) (ha : a.size = 257) (hb : b.size = 257) :
  (execOp ev ⟨ds, .buildSlice 31 2 #[(0, x), (1, y)], ty, ps, af, g⟩).run Tryz.prog w = .ok (.value (.slice (some ⟨w.heap.size, 0, none⟩) 2 2)) (w.alloc (.cells (a ++ b) 49)) := by
 simp only [execOp, List.map_toArray, List.map_cons, List.map_nil, hx, hy, Sem.run_bind, slicePg2 w a b ha hb, Result.andThen_ok]
 rfl
theorem full_rng (b : Int) (hb : 0 ≤ b ∧ b < 256) : ∀ y ∈ fullL b, 0 ≤ y ∧ y < 256 := fun y hy => by
 have := List.eq_of_mem_replicate hy
 omega
theorem pgs_blk {w : World} {g n : Nat} {t : TypeId} {l : List Pg} (h : Blk w g t (pgsCells l).toArray) (hn : l.length = n) (hok : ∀ x ∈ l, PgOk x) : PgsAt w (some ⟨g, 0, none⟩) n l := by
 subst hn
 have hfl : pgsCells l = (l.map pgL).flatten := by unfold pgsCells; rw [List.flatMap_def]
 have hx : ∀ x ∈ l.map pgL, x.length = 257 := fun x hx => by
  obtain ⟨y, hy, rfl⟩ := List.mem_map.1 hx
  exact pgL_len (hok y hy)
 have hlen := flat_len 257 (l.map pgL) hx
 refine ⟨by simp, hx, fun hn => ⟨g, 0, rfl, h.lt, fun k hk j hj => ⟨?_, h.frozen _⟩⟩⟩
 rw [h.cell, List.getElem?_toArray, hfl, Nat.zero_add]
 exact flat_at 257 (l.map pgL) hx k j hj hk
theorem blk_rg8 {w : World} {g : Nat} {t : TypeId} {l : List Int} (h : Blk w g t (bytesV l)) : w.rangeAt g 0 (l.map (Value.int .u8)) :=
 Blk.range (xa := []) (xb := l.map (Value.int .u8)) (xd := []) (by unfold bytesV at h; simpa using h) 0 rfl
theorem eqTrue (w : World) (ev : Operand → Value) (ds : Option Tmp) {x y : Operand} {l : List Int} {yt : TypeId} (ty : TypeId) (ps : String) {af : Array Edge} {g : Option (Nat × Bool)} (hx : ev x = .agg (l.map (Value.int .u8)).toArray) (hy : ev y = .agg (bytesV l)) (hl : l.length = 256) :
  (execOp ev ⟨ds, .binOp .eql 46 x y yt, ty, ps, af, g⟩).run Tryz.prog w = .ok (.value (.bool true)) w := by
 have := eql26 w ev ds x y yt ty ps af g (by rw [hx]; exact pgOK_bytes l hl) (by rw [hy]; exact pgOK_bytes l hl)
 rw [this, hx, hy]
 have e : (l.map (Value.int .u8)).toArray = bytesV l := rfl
 rw [e, valEq_self]
theorem wpList_val {P : Program} {ops : Array Oper} {rest : List Oper} {ds : Option Tmp} {op : Op} {ty : TypeId} {ps : String} {af : Array Edge} {a : Act} {w w' : World} {Q : Exit → Act → World → Prop} (v : Value) (hr : (execOp a.eval ⟨ds, op, ty, ps, af, none⟩).run P w = .ok (.value v) w')
  (h : wpList P ops Q rest (a.put ds v) w') : wpList P ops Q (⟨ds, op, ty, ps, af, none⟩ :: rest) a w := wpList_plain rfl fun K hK => by
 unfold Oper.wp
 rw [hr, Oper.upon_value]
 exact hK _ _ h
attribute [local go_sem ↓] eql26
end
section
open Go.RowKit
attribute [local go_sem ↓] load26 store26 alloc26 build26
set_option maxRecDepth 100000 in
set_option maxHeartbeats 800000 in
theorem wfull_ok (w : World) (b : Int) : Calls Tryz.prog 14 #[.int .u8 b] w fun e w' => e = .returned (.agg (bytesV (fullL b))) ∧ Kp NoB w w' := by
 have HST : Hid (FuS w b 0 ((w.alloc (.cells zero256 46)).alloc (.cells zero256 46))) := zh ⟨((Kp.refl _ _).alloc _).alloc _, (Blk.new _ _ _).alloc _, Blk.newAt _ _ _ _ (by simp)⟩
 go_enter Tryz.func14, Tryz.ntmps14
 go_wp2_with fail
 refine forget (p := fun wx => Code.wp _ _ _ _ wx) (FuS w b 0) HST.out ?_
 intro W hW
 have HW := zh hW
 clear hW HST
 go_loopw [4] (fun v wr => ∃ i : Nat, i ≤ 256 ∧ v = .int .i64 i ∧ FuS w b i wr) (fun v _ => 256 - (intOf v).toNat)
 case atStart => exact ⟨0, by omega, rfl, HW.out⟩
 case round =>
  obtain ⟨i, hi, rfl, hs⟩ := hrel
  have HS := zh hs
  by_cases hlt : i < 256
  ·have hii : (i : Int) < 256 := by omega
   have c2 : wr.cell? ⟨w.heap.size + 1, i, none⟩ = some (.int .u8 0) := by
    rw [hs.b2.cell]
    unfold bytesV
    rw [List.getElem?_toArray, List.getElem?_map, upF_at _ _ hlt]
    rfl
   have z2 : wr.frozen? ⟨w.heap.size + 1, i, none⟩ = false := hs.b2.frozen i
   clear hs
   go_wp2_with fail
   refine ⟨⟨i + 1, by omega, by congr 1, ?_⟩, by simp [intOf]; omega⟩
   have h := HS.out
   refine ⟨h.kp.setCell (p := ⟨w.heap.size + 1, i, none⟩) (.inl (by show _ ≤ w.heap.size + 1; omega)) _, h.b1.far (p := ⟨w.heap.size + 1, i, none⟩) (by simp) _, ?_⟩
   have := h.b2.set_ i (.int .u8 b)
   rwa [bytesV_setJ, upF_set _ _ hlt] at this
  ·have hii : ¬ (i : Int) < 256 := by omega
   obtain rfl : i = 256 := by omega
   have b2 := hs.b2
   rw [upF_all] at b2
   have sl : (fullL b).length = 256 := List.length_replicate ..
   have t1 : wr.there (w.heap.size + 1) 0 256 := b2.thereAll 256 (by rw [bytesV_size, sl])
   have r1 : readRow wr (w.heap.size + 1) 0 256 = bytesV (fullL b) := b2.readAll 256 (by rw [bytesV_size, sl])
   have t2 : wr.there w.heap.size 0 256 := hs.b1.thereAll 256 (by rw [zero256_eq, bytesV_size]; rfl)
   have o1 := bytesV_one (fullL b)
   have s1 : (bytesV (fullL b)).size = 256 := by rw [bytesV_size, sl]
   obtain ⟨RR, hRR⟩ : ∃ RR, bytesV (fullL b) = RR := ⟨_, rfl⟩
   rw [hRR] at r1 o1 s1
   have HRR := zh hRR
   have S1 := zh s1
   clear hs b2 sl hRR
   go_wp2_with fail
   refine bodyPost_ret (ret_cell1 rfl _ _ _ _ _ _ rfl (HS.out.b1.whole RR (by rw [S1.out, zero256_eq, bytesV_size]; rfl)) Tryz.underlying46 rfl (by rw [S1.out]; exact info26)) rfl ⟨by rw [HRR.out], ?_⟩
   exact Kp.setCells (.inl (by omega)) _ _ _ HS.out.kp
def aw3L : List Pg := [⟨1, fullL 3⟩]
def awQ1 : Pl × Int × Int := (Pl.new 5000).wcommit 2 aw2L
def awQ2 : Pl × Int × Int := awQ1.1.wcommit 2 aw3L
set_option maxRecDepth 100000 in
theorem wawE : awQ1.2.1 = 2 ∧ awQ1.2.2 = 0 ∧ awQ2.2.1 = 3 ∧ awQ2.2.2 = 0 ∧ awQ2.1.wpg 2 1 = (fullL 1, 0) ∧ awQ2.1.wpg 1 1 = (zeros 256, 4) ∧ (Pl.new 5000).nf = 0 ∧ (Pl.new 5000).pd.length = 0 ∧ decide (awQ1.1.nf ≤ 1000) = true ∧ decide (awQ1.1.pd.length ≤ 1000) = true := by
 refine ⟨?_, ?_, ?_, ?_, ?_, ?_, ?_, ?_, ?_, ?_⟩ <;> kernel_rfl
attribute [local go_sem ↓] eql26
set_option maxRecDepth 100000 in
set_option maxHeartbeats 1600000 in
theorem wawake_ok (w : World) : Calls Tryz.prog 4 #[] w fun e w' => e = .returned (.bool true) ∧ Kp NoB w w' := by
 have E := zh wawE
 have l1 : (fullL 1).length = 256 := List.length_replicate ..
 have l2 : (fullL 2).length = 256 := List.length_replicate ..
 have l3 : (fullL 3).length = 256 := List.length_replicate ..
 have s1 : (pgA ⟨1, fullL 1⟩).size = 257 := by unfold pgA pgL; rw [List.size_toArray, List.length_cons, List.length_map, l1]
 have s2 : (pgA ⟨2, fullL 2⟩).size = 257 := by unfold pgA pgL; rw [List.size_toArray, List.length_cons, List.length_map, l2]
 have s3 : (pgA ⟨1, fullL 3⟩).size = 257 := by unfold pgA pgL; rw [List.size_toArray, List.length_cons, List.length_map, l3]
 go_enter Tryz.func4, Tryz.ntmps4
 go_wp2_with fail
 refine (new_q w 5000 (by omega)).mono ?_
 rintro e w1 ⟨db, rfl, h1⟩
 have H1 := zh h1
 clear h1
 go_wp2_with fail
 refine (wfull_ok w1 1).mono ?_
 rintro e w2 ⟨rfl, hk2⟩
 have HK2 := zh hk2
 clear hk2
 go_wp2_with (show wpList _ _ _ (⟨some 14, _, _, _, _, _⟩ :: _) _ _; refine wpList_val _ (exBuildPg2 _ _ _ _ 1 (fullL 1) l1 _ _ _ _ _ rfl rfl) ?_)
 refine (wfull_ok w2 2).mono ?_
 rintro e w3 ⟨rfl, hk3⟩
 have HK3 := zh (HK2.out.trans hk3 (fun _ _ q => q))
 clear hk3
 go_wp2_with (first
  | (show wpList _ _ _ (⟨some 16, _, _, _, _, _⟩ :: _) _ _; refine wpList_val _ (exBuildPg2 _ _ _ _ 2 (fullL 2) l2 _ _ _ _ _ rfl rfl) ?_)
  | (show wpList _ _ _ (⟨some 17, _, _, _, _, _⟩ :: _) _ _; refine wpList_val _ (exSlicePg2 _ _ _ _ (pgA ⟨1, fullL 1⟩) (pgA ⟨2, fullL 2⟩) _ _ _ _ _ rfl rfl s1 s2) ?_))
 have hsm : (Pl.new 5000).sm 100000000 := by unfold Pl.sm; rw [E.out.2.2.2.2.2.2.1, E.out.2.2.2.2.2.2.2.1]; omega
 have hsm1 : awQ1.1.sm 100000000 := by
  have h1 := of_decide_eq_true E.out.2.2.2.2.2.2.2.2.1
  have h2 := of_decide_eq_true E.out.2.2.2.2.2.2.2.2.2
  unfold Pl.sm
  omega
 have HSM1 := zh hsm1
 have hok2 : ∀ x ∈ aw2L, PgOk x := by
  intro x hx
  unfold aw2L at hx
  simp only [List.mem_cons, List.not_mem_nil, or_false] at hx
  rcases hx with rfl | rfl
  ·exact ⟨l1, full_rng 1 (by omega), by show _ ≤ (1 : Int) ∧ (1 : Int) ≤ _; omega⟩
  ·exact ⟨l2, full_rng 2 (by omega), by show _ ≤ (2 : Int) ∧ (2 : Int) ≤ _; omega⟩
 obtain ⟨S2, hq2, hS2⟩ := (H1.out.keep HK3.out).base
 have hka : Kp NoB w3 (w3.alloc (.cells (pgA ⟨1, fullL 1⟩ ++ pgA ⟨2, fullL 2⟩) 49)) := (Kp.refl _ _).alloc _
 have hpg : PgsAt (w3.alloc (.cells (pgA ⟨1, fullL 1⟩ ++ pgA ⟨2, fullL 2⟩) 49)) (some ⟨w3.heap.size, 0, none⟩) 2 aw2L := pgs_blk (t := 49) (by
  have := Blk.new w3 49 (pgA ⟨1, fullL 1⟩ ++ pgA ⟨2, fullL 2⟩)
  have e : pgA ⟨1, fullL 1⟩ ++ pgA ⟨2, fullL 2⟩ = (pgsCells aw2L).toArray := by
   unfold pgsCells aw2L pgA
   simp
  rwa [e] at this ⊢) rfl hok2
 have hlt2 := hq2.lt
 have hcm := wcommit_q (hq2.base1 hka) 2 (by omega) (some ⟨w3.heap.size, 0, none⟩) 2 2 aw2L hpg (fun g o e hn q => by injection e with e; injection e with e1 e2; have := hlt2 g q; omega) hok2 (by omega) hsm
 clear hpg
 refine hcm.mono ?_
 clear hcm
 rintro e w5 ⟨rfl, h5⟩
 have h5' : Dq S2 (w3.alloc (.cells (pgA ⟨1, fullL 1⟩ ++ pgA ⟨2, fullL 2⟩) 49)) w5 db awQ1.1 := h5
 rw [show ((Pl.new 5000).wcommit 2 aw2L).2.1 = 2 from E.out.1, show ((Pl.new 5000).wcommit 2 aw2L).2.2 = 0 from E.out.2.1]
 have h6 := Dq.tr (w0 := w) h5' ((H1.out.keep HK3.out).kp.trans hka (fun _ _ q => q.elim)) hS2 (fun b q => q.elim)
 have H6 := zh h6
 clear h5 h5' h6 hka hq2 hS2 hlt2 hsm hsm1 hok2
 go_wp2_with fail
 refine (wfull_ok w5 3).mono ?_
 rintro e w6 ⟨rfl, hk6⟩
 have H7 := zh (H6.out.keep hk6)
 clear hk6
 go_wp2_with (first
  | (show wpList _ _ _ (⟨some 24, _, _, _, _, _⟩ :: _) _ _; refine wpList_val _ (exBuildPg2 _ _ _ _ 1 (fullL 3) l3 _ _ _ _ _ rfl rfl) ?_)
  | (show wpList _ _ _ (⟨some 25, _, _, _, _, _⟩ :: _) _ _; refine wpList_val _ (exSlicePg _ _ _ (pgA ⟨1, fullL 3⟩) _ _ _ _ _ rfl s3) ?_))
 have hok3 : ∀ x ∈ aw3L, PgOk x := by
  intro x hx
  unfold aw3L at hx
  simp only [List.mem_cons, List.not_mem_nil, or_false] at hx
  subst hx
  exact ⟨l3, full_rng 3 (by omega), by show _ ≤ (1 : Int) ∧ (1 : Int) ≤ _; omega⟩
 obtain ⟨S3, hq3, hS3⟩ := H7.out.base
 have hka : Kp NoB w6 (w6.alloc (.cells (pgA ⟨1, fullL 3⟩) 49)) := (Kp.refl _ _).alloc _
 have hpg : PgsAt (w6.alloc (.cells (pgA ⟨1, fullL 3⟩) 49)) (some ⟨w6.heap.size, 0, none⟩) 1 aw3L := pgs_blk (t := 49) (by
  have := Blk.new w6 49 (pgA ⟨1, fullL 3⟩)
  have e : pgA ⟨1, fullL 3⟩ = (pgsCells aw3L).toArray := by
   unfold pgsCells aw3L pgA
   simp
  rwa [e] at this ⊢) rfl hok3
 have hlt3 := hq3.lt
 have hcm := wcommit_q (hq3.base1 hka) 2 (by omega) (some ⟨w6.heap.size, 0, none⟩) 1 1 aw3L hpg (fun g o e hn q => by injection e with e; injection e with e1 e2; have := hlt3 g q; omega) hok3 (by omega) HSM1.out
 clear hpg
 refine hcm.mono ?_
 clear hcm
 rintro e w8 ⟨rfl, h8⟩
 have h8' : Dq S3 (w6.alloc (.cells (pgA ⟨1, fullL 3⟩) 49)) w8 db awQ2.1 := h8
 rw [show (awQ1.1.wcommit 2 aw3L).2.1 = 3 from E.out.2.2.1, show (awQ1.1.wcommit 2 aw3L).2.2 = 0 from E.out.2.2.2.1]
 have h9 := Dq.tr (w0 := w) h8' (H7.out.kp.trans hka (fun _ _ q => q.elim)) hS3 (fun b q => q.elim)
 have H9 := zh h9
 clear h8 h8' h9 hka hq3 hS3 hlt3 hok3
 go_wp2_with fail
 refine (wpg_q H9.out 2 1 (by omega)).mono ?_
 rintro e w9 ⟨rfl, hk9⟩
 rw [E.out.2.2.2.2.1]
 have H10 := zh (H9.out.keep hk9)
 have hbz := Blk.new w9 46 zero256
 have hbf := hbz.whole (bytesV (fullL 1)) (by rw [zero256_eq, bytesV_size, bytesV_size, l1]; rfl)
 have tz := hbz.thereAll 256 (by rw [zero256_eq, bytesV_size]; rfl)
 have of2 := bytesV_one (fullL 1)
 have sf2 : (bytesV (fullL 1)).size = 256 := by rw [bytesV_size, l1]
 have hk7 : Kp NoB w9 ((w9.alloc (.cells zero256 46)).setCells w9.heap.size 0 (bytesV (fullL 1)).toList) := Kp.setCells (.inl (Nat.le_refl _)) _ _ _ ((Kp.refl _ _).alloc _)
 have HBF := zh hbf
 have HK7 := zh hk7
 clear hk9 hbz hbf hk7
 go_upto_region 5 with fail
 obtain ⟨Bg, hBg⟩ : ∃ Bg, w9.heap.size = Bg := ⟨_, rfl⟩
 generalize (w9.alloc (.cells zero256 46)).setCells w9.heap.size 0 (bytesV (fullL 1)).toList = w10 at HBF HK7 ⊢
 rw [hBg] at HBF ⊢
 clear hBg tz
 go_wp2_with fail
 refine (wpg_q (H10.out.keep HK7.out) 1 1 (by omega)).mono ?_
 rintro e w11 ⟨rfl, hk11⟩
 rw [E.out.2.2.2.2.2.1]
 have HZ2 : Hid (bytesV (zeros 256) = zero256) := zh zero256_eq.symm
 rw [show bytesV ((zeros 256, (4 : Int)).1) = zero256 from HZ2.out]
 have hbz := Blk.new w11 46 zero256
 have tz := hbz.thereAll 256 (by rw [zero256_eq, bytesV_size]; rfl)
 have oz : ones zero256 := by rw [zero256_eq]; exact bytesV_one _
 have sz : zero256.size = 256 := by rw [zero256_eq, bytesV_size]; rfl
 have hk12 : Kp NoB w11 ((w11.alloc (.cells zero256 46)).setCells w11.heap.size 0 zero256.toList) := Kp.setCells (.inl (Nat.le_refl _)) _ _ _ ((Kp.refl _ _).alloc _)
 have HB12 := zh ((HBF.out.keep hk11 (fun q => q)).keep hk12 (fun q => q))
 have HPX : Hid (Kp NoB w ((w11.alloc (.cells zero256 46)).setCells w11.heap.size 0 zero256.toList)) := zh (((H10.out.keep HK7.out).keep (hk11.trans hk12 (fun _ _ q => q))).kp)
 clear hk11 hbz hk12
 go_upto_region 6 with fail
 generalize (w11.alloc (.cells zero256 46)).setCells w11.heap.size 0 zero256.toList = w12 at HB12 HPX ⊢
 refine wp_region_held_drew (S := fun W' => W'.rangeAt Bg 0 ((fullL 1).map (Value.int .u8))) (by kernel_rfl) (blk_rg8 HB12.out) (fun hHeld => ?_)
 have h0 : Blk w12.drew Bg 46 (bytesV (fullL 1)) := HB12.out
 have hk0 : Kp NoB w12 w12.drew := (Kp.refl NoB w12).drew
 have hi1 : (Tryz.prog.info? 46).map (·.size) = some ((fullL 1).map (Value.int .u8)).length := by rw [List.length_map, l1]; exact info26
 have hu := Tryz.underlying46
 generalize w12.drew = W0 at h0 hk0 hHeld ⊢
 refine tkJ (i := 0) (v := (.int .i64 2)) rfl (blk_rg8 h0) ?_
 simp only [Act.put, sA, sB, sC]
 refine tkJ (i := 1) (v := (.bool true)) rfl (blk_rg8 h0) ?_
 simp only [Act.put, sA, sB, sC]
 refine tkJ (i := 2) (v := (.bool true)) rfl (blk_rg8 h0) ?_
 simp only [Act.put, sA, sB, sC]
 refine tkJ (i := 3) (v := (.int .i64 3)) rfl (blk_rg8 h0) ?_
 simp only [Act.put, sA, sB, sC]
 refine tkJ (i := 4) (v := (.bool true)) rfl (blk_rg8 h0) ?_
 simp only [Act.put, sA, sB, sC]
 refine tkJ (i := 5) (v := (.bool true)) rfl (blk_rg8 h0) ?_
 simp only [Act.put, sA, sB, sC]
 refine tkJ (i := 6) (v := (.bool true)) rfl (blk_rg8 h0) ?_
 simp only [Act.put, sA, sB, sC]
 refine tkJ (i := 7) (v := (.int .i64 0)) rfl (blk_rg8 h0) ?_
 simp only [Act.put, sA, sB, sC]
 refine tkJ (i := 8) (v := (.bool true)) rfl (blk_rg8 h0) ?_
 simp only [Act.put, sA, sB, sC]
 refine tkJ (i := 9) (v := (.bool true)) rfl (blk_rg8 h0) ?_
 simp only [Act.put, sA, sB, sC]
 refine tkJ (i := 10) (v := (.bool true)) rfl (blk_rg8 h0) ?_
 simp only [Act.put, sA, sB, sC]
 refine tkJ (i := 11) (v := (.int .i64 0)) rfl (blk_rg8 h0) ?_
 simp only [Act.put, sA, sB, sC]
 refine tkJ (i := 12) (v := (.bool true)) rfl (blk_rg8 h0) ?_
 simp only [Act.put, sA, sB, sC]
 refine tkJ (i := 13) (v := (.bool true)) rfl (blk_rg8 h0) ?_
 simp only [Act.put, sA, sB, sC]
 refine tkJ (i := 14) (v := (.bool true)) rfl (blk_rg8 h0) ?_
 simp only [Act.put, sA, sB, sC]
 refine tkJ (i := 15) (v := (.int .i64 0)) rfl (blk_rg8 h0) ?_
 simp only [Act.put, sA, sB, sC]
 refine tkJ (i := 16) (v := (.bool true)) rfl (blk_rg8 h0) ?_
 simp only [Act.put, sA, sB, sC]
 refine tkJ (i := 17) (v := (.bool true)) rfl (blk_rg8 h0) ?_
 simp only [Act.put, sA, sB, sC]
 refine tkJ (i := 18) (v := (.bool true)) rfl (blk_rg8 h0) ?_
 simp only [Act.put, sA, sB, sC]
 refine tkS (i := 19) (v := .agg (((fullL 1).map (Value.int .u8))).toArray) rfl (yieldsIf_load_mid (by rfl) _ _ rfl _ _ rfl ((fullL 1).map (Value.int .u8)) _ (fun _ q => q) hu rfl hi1) (blk_rg8 h0) ?_
 simp only [Act.put, sA, sB, sC]
 refine tkR [20] ?_
 refine AllReadyH.callR (fun x W' => x = .agg (bytesV (fullL 1)) ∧ Blk W' Bg 46 (bytesV (fullL 1)) ∧ Kp NoB w12 W') rfl (by rfl) 14 #[.int .u8 1] (by first | (go_simp; done) | (go_simp; rfl)) (fun _ _ q => (blk_rg8 q.2.1)) ((wfull_ok W0 1).mono (by rintro e w19 ⟨rfl, hk⟩; exact ⟨_, rfl, rfl, h0.keep hk (fun q => q), hk0.trans hk (fun _ _ q => q)⟩)) ?_ AllReadyH.nil
 rintro _ W1 ⟨rfl, h1, hk1⟩
 simp only [Act.put, sA, sB, sC]
 refine tkS (i := 21) (v := .bool true) rfl (Or.inl ⟨by rfl, fun w' hq => eqTrue w' _ _ _ _ rfl rfl l1⟩) (blk_rg8 h1) ?_
 simp only [Act.put, sA, sB, sC]
 refine tkJ (i := 22) (v := (.bool true)) rfl (blk_rg8 h1) ?_
 simp only [Act.put, sA, sB, sC]
 refine tkJ (i := 23) (v := (.bool true)) rfl (blk_rg8 h1) ?_
 simp only [Act.put, sA, sB, sC]
 refine tkJ (i := 24) (v := (.int .i64 4)) rfl (blk_rg8 h1) ?_
 simp only [Act.put, sA, sB, sC]
 refine tkJ (i := 25) (v := (.bool true)) rfl (blk_rg8 h1) ?_
 simp only [Act.put, sA, sB, sC]
 refine tkJ (i := 26) (v := (.bool true)) rfl (blk_rg8 h1) ?_
 simp only [Act.put, sA, sB, sC]
 refine tkJ (i := 27) (v := (.bool true)) rfl (blk_rg8 h1) ?_
 simp only [Act.put, sA, sB, sC]
 refine wpAnyH_done (by kernel_rfl) ?_ _
 have HK9 := zh (HPX.out.trans hk1 (fun _ _ q => q))
 clear hHeld h0 h1 hk0 hk1 hi1 hu
 go_wp2_with fail
 go_ret
 exact ⟨rfl, HK9.out⟩
end
section
open Go.RowKit
theorem wpg_len {p : Pl} (hr : ∀ y ∈ p.seen nmWal, 0 ≤ y ∧ y < 256) (m n : Int) : (p.wpg m n).1.length = 256 := by
 unfold Pl.wpg
 split
 ·exact zeros256
 ·rename_i he
  split
  ·exact zeros256
  ·split
   ·exact zeros256
   ·exact wpage_len (frs_ok hr (by simpa using he) rfl) p m n
attribute [local go_sem ↓] load26 store26 alloc26 build26 eql26
set_option maxRecDepth 100000 in
set_option maxHeartbeats 3200000 in
theorem look_bad {S : Nat → Prop} {W0 : World} (w : World) (db : Nat) (p : Pl) (d : Rd) (mark n : Int) (hq : Dq S W0 w db p) (hr : Rf w d p) (hsm : p.sm 600000000000) (hn : -9223372036854775808 ≤ n ∧ n ≤ 9223372036854775807) (he : p.wopen.1 ≠ 0) :
  Calls Tryz.prog 19 #[ptrV db, rdV d p, .int .i64 mark, .int .i64 n] w fun e w' => e = .returned (.bool true) ∧ Kp NoB w w' := by
 have H := zh hq
 have HR := zh hr
 have HNF : Hid (p.nf < 1099511627776) := zh (by unfold Pl.sm at hsm; omega)
 have HN := zh hn
 obtain ⟨E, hE⟩ : ∃ E, p.wopen.1 = E := ⟨_, rfl⟩
 have HMKV : Hid (p.wmark = (0, E)) := zh (by unfold Pl.wmark; rw [if_pos he, hE])
 have HCNT : Hid (p.wcnt mark = (0, E)) := zh (by unfold Pl.wcnt; rw [if_pos he, hE])
 have HWPG : Hid (p.wpg mark n = (zeros 256, E)) := zh (by unfold Pl.wpg; rw [if_pos he, hE])
 have hz1 : (E != 0) = true := by rw [← hE]; simpa using he
 have hz2 : (E == 0) = false := by rw [← hE]; simpa using he
 have HE := zh hE
 have HEN := zh he
 have hb0 : Blk (w.alloc (.cells (rdC d p) 29)) w.heap.size 29 (rdC d p) := Blk.new _ _ _
 have hk : Kp NoB w (w.alloc (.cells (rdC d p) 29)) := (Kp.refl NoB w).alloc _
 clear hq hr hsm hn he hE
 unfold rdC at hb0 hk
 unfold rdV ptrV
 go_enter Tryz.func19, Tryz.ntmps19
 go_upto_region 1 with fail
 generalize w.alloc (.cells #[.bool true, .bool p.down, .slice d.fA d.fn d.fc, .slice d.pA d.pn d.pc, .int .i64 p.room, .int .i64 p.steps, .int .i64 p.crash, .int .i64 p.starts] 29) = w1 at hb0 hk ⊢
 generalize w.heap.size = s0 at hb0 ⊢
 have HB0 := zh (show Blk w1 s0 29 (rdC d p) from hb0)
 have HK := zh hk
 obtain ⟨c0, c1, c2, c3, c4, c5, c6, c7⟩ := HB0.out.rdc
 have hl0 := HB0.out.lt
 clear hb0 hk
 go_wp2_with fail
 refine (show Calls _ _ #[rdV d p] _ _ from wopen_rok w1 d p (HR.out.keep HK.out) HNF.out).mono ?_
 rintro e w2 ⟨hk2, ⟨-, rfl⟩ | ⟨h0, -⟩⟩
 rotate_left
 ·exact absurd h0 HEN.out
 rw [HE.out]
 have HK2 := zh (HK.out.trans hk2 (fun _ _ q => q))
 clear hk2 c0 c1 c2 c3 c4 c5 c6 c7 hl0
 unfold lgV lgA
 go_upto_region 2 with fail
 have hk3 : Kp NoB w2 (w2.alloc (.cells #[.int .i64 0, .int .i64 0, .int .i64 0, .int .i64 0, .slice none 0 0] 94)) := (Kp.refl NoB w2).alloc _
 generalize w2.alloc (.cells #[.int .i64 0, .int .i64 0, .int .i64 0, .int .i64 0, .slice none 0 0] 94) = w3 at hk3 ⊢
 have HK3 := zh (HK2.out.trans hk3 (fun _ _ q => q))
 clear hk3
 go_wp2_with fail
 refine (show Calls _ _ #[ptrV db] _ _ from wmark_q (H.out.keep HK3.out)).mono ?_
 rintro e w4 ⟨rfl, hk4⟩
 rw [HMKV.out]
 have HK4 := zh (HK3.out.trans hk4 (fun _ _ q => q))
 clear hk4
 go_wp2_with fail
 refine (show Calls _ _ #[ptrV db] _ _ from wmarks_q (H.out.keep HK4.out)).mono ?_
 rintro e w5 (⟨-, rfl, hk5⟩ | ⟨h0, -⟩)
 rotate_left
 ·exact absurd h0 HEN.out
 rw [HE.out]
 have HK5 := zh (HK4.out.trans hk5 (fun _ _ q => q))
 clear hk5
 go_wp2_with fail
 refine (show Calls _ _ #[ptrV db, .int .i64 mark] _ _ from wcnt_q (H.out.keep HK5.out) mark).mono ?_
 rintro e w6 ⟨rfl, hk6⟩
 rw [HCNT.out]
 have HK6 := zh (HK5.out.trans hk6 (fun _ _ q => q))
 clear hk6
 go_wp2_with fail
 refine (show Calls _ _ #[ptrV db, .int .i64 mark, .int .i64 n] _ _ from wpg_q (H.out.keep HK6.out) mark n HN.out).mono ?_
 rintro e w7 ⟨rfl, hk7⟩
 rw [HWPG.out]
 have HK7 := zh (HK6.out.trans hk7 (fun _ _ q => q))
 clear hk7
 have hzz : (bytesV (zeros 256)) = zero256 := zero256_eq.symm
 dsimp only
 rw [hzz]
 clear hzz
 have hbz : Blk (w7.alloc (.cells zero256 46)) w7.heap.size 46 zero256 := Blk.new _ _ _
 have htz := hbz.thereAll 256 (by rw [zero256_eq, bytesV_size]; rfl)
 have hzo : ones zero256 := by rw [zero256_eq]; exact bytesV_one _
 have hzs : zero256.size = 256 := by rw [zero256_eq, bytesV_size]; rfl
 have hzp : pgOK (.agg zero256) := pgOK_zero
 go_upto_region 6 with fail
 have hp1 : Blk ((w7.alloc (.cells zero256 46)).setCells w7.heap.size 0 zero256.toList) w7.heap.size 46 zero256 := hbz.whole _ rfl
 have hk8 : Kp NoB w7 ((w7.alloc (.cells zero256 46)).setCells w7.heap.size 0 zero256.toList) := Kp.setCells (.inl (Nat.le_refl _)) _ _ _ ((Kp.refl NoB w7).alloc _)
 generalize ((w7.alloc (.cells zero256 46)).setCells w7.heap.size 0 zero256.toList) = w8 at hp1 hk8 ⊢
 generalize w7.heap.size = gp at hp1 ⊢
 have HP1 := zh hp1
 have HK8 := zh (HK7.out.trans hk8 (fun _ _ q => q))
 clear hbz htz hk8 hp1
 go_wp2_with fail
 refine (show Calls _ _ #[ptrV db] _ _ from wcheckq_q (H.out.keep HK8.out)).mono ?_
 rintro e w9 ⟨rfl, hk9⟩
 rw [HE.out]
 have HP9 := zh (HP1.out.keep hk9 (fun q => q))
 have HK9 := zh (HK8.out.trans hk9 (fun _ _ q => q))
 have t9 : w9.there gp 0 256 := HP9.out.thereAll 256 hzs
 have r9 : readRow w9 gp 0 256 = zero256 := HP9.out.readAll 256 hzs
 clear hk9
 go_wp2_with fail
 go_ret
 exact ⟨rfl, HK9.out⟩
def LgRel (w9 : World) (nx : Nat) (v20 : Value) (wr : World) : Prop := ∃ k : Nat, v20 = .int .i64 (k : Int) ∧ k ≤ nx ∧ Kp NoB w9 wr
set_option maxRecDepth 100000 in
set_option maxHeartbeats 3200000 in
theorem look_good {S : Nat → Prop} {W0 : World} (w : World) (db : Nat) (p : Pl) (d : Rd) (mark n : Int) (hq : Dq S W0 w db p) (hr : Rf w d p) (hsm : p.sm 600000000000) (hn : -9223372036854775808 ≤ n ∧ n ≤ 9223372036854775807) (he : p.wopen.1 = 0) :
  Calls Tryz.prog 19 #[ptrV db, rdV d p, .int .i64 mark, .int .i64 n] w fun e w' => e = .returned (.bool true) ∧ Kp NoB w w' := by
 have H := zh hq
 have HR := zh hr
 have HNF : Hid (p.nf < 1099511627776) := zh (by unfold Pl.sm at hsm; omega)
 have HN := zh hn
 have HJC : Hid (p.jcount ≤ 4096) := zh (by unfold Pl.jcount Pl.len; have := (hr.look nmDb).1.1; split <;> omega)
 have HDN : Hid (p.down = false) := zh (by
  cases hd : p.down with
  | false => rfl
  | true => unfold Pl.wopen at he; rw [hd] at he; cases he)
 obtain ⟨pg, hpg⟩ : ∃ pg, (p.wpg mark n).1 = pg := ⟨_, rfl⟩
 obtain ⟨PE, hPE⟩ : ∃ E, (p.wpg mark n).2 = E := ⟨_, rfl⟩
 obtain ⟨CN, hCN⟩ : ∃ E, (p.wcnt mark).1 = E := ⟨_, rfl⟩
 obtain ⟨CE, hCE⟩ : ∃ E, (p.wcnt mark).2 = E := ⟨_, rfl⟩
 have hpl : pg.length = 256 := by rw [← hpg]; exact wpg_len (hq.seen_rng nmWal) mark n
 have hfo := frs_ok (hq.seen_rng nmWal) he rfl
 have hn20 := wopen_len he
 have hwp : p.wpg mark n = if isMark p.wopen.2 mark = false then (zeros 256, 4) else if n < 1 ∨ wcount p p.wopen.2 mark < n then (zeros 256, 4) else (wpage p p.wopen.2 mark n, 0) := by unfold Pl.wpg; rw [if_neg (by rw [he]; decide)]
 have hwc : p.wcnt mark = if isMark p.wopen.2 mark = true then (wcount p p.wopen.2 mark, 0) else (0, 4) := by unfold Pl.wcnt; rw [if_neg (by rw [he]; decide)]
 have hmv : p.wmark = ((p.wopen.2.length : Int), 0) := by unfold Pl.wmark; rw [if_neg (by rw [he]; decide)]
 have HE := zh he
 have HPG := zh hpg
 have HPE := zh hPE
 have HCN := zh hCN
 have HCE := zh hCE
 have HPL := zh hpl
 have hb0 : Blk (w.alloc (.cells (rdC d p) 29)) w.heap.size 29 (rdC d p) := Blk.new _ _ _
 have hk : Kp NoB w (w.alloc (.cells (rdC d p) 29)) := (Kp.refl NoB w).alloc _
 unfold rdC at hb0 hk
 obtain ⟨fs, hfs⟩ : ∃ fs, p.wopen.2 = fs := ⟨_, rfl⟩
 obtain ⟨v, hv⟩ : ∃ v, p.whead = v := ⟨_, rfl⟩
 have HFS := zh hfs
 have HV := zh hv
 rw [hfs] at hfo hn20 hwp hwc hmv
 obtain ⟨L, hL⟩ : ∃ L, fs.length = L := ⟨_, rfl⟩
 rw [hL] at hn20 hmv
 have HL := zh hL
 have HFO := zh hfo
 have HN20 := zh hn20
 have HWP := zh hwp
 have HWC := zh hwc
 have HMV := zh hmv
 clear hq hr hsm hn he hpg hPE hCN hCE hpl hfo hwp hwc hmv hfs hv hL
 unfold rdV ptrV
 go_enter Tryz.func19, Tryz.ntmps19
 go_upto_region 1 with fail
 generalize w.alloc (.cells #[.bool true, .bool p.down, .slice d.fA d.fn d.fc, .slice d.pA d.pn d.pc, .int .i64 p.room, .int .i64 p.steps, .int .i64 p.crash, .int .i64 p.starts] 29) = w1 at hb0 hk ⊢
 generalize w.heap.size = s0 at hb0 ⊢
 have HB1 := zh (show Blk w1 s0 29 (rdC d p) from hb0)
 have HK1 := zh hk
 obtain ⟨c0, c1, c2, c3, c4, c5, c6, c7⟩ := HB1.out.rdc
 have hl0 := HB1.out.lt
 clear hb0 hk
 go_wp2_with fail
 refine (show Calls _ _ #[rdV d p] _ _ from wopen_rok w1 d p (HR.out.keep HK1.out) HNF.out).mono ?_
 rintro e w2 ⟨hk2, ⟨h0, -⟩ | ⟨-, A9, c9, rfl, how⟩⟩
 ·exact absurd HE.out h0
 rw [HFS.out, HL.out] at how
 rw [HFS.out, HL.out, HV.out]
 have hfr : RfsAt w2 A9 L fs := RowsC.own (base := w1.heap.size) (cap := c9) (e := 99) how (by rw [List.length_map, HL.out]) (fun z hz => by
  obtain ⟨f, hf, rfl⟩ := List.mem_map.1 hz
  exact rfL_len (HFO.out f hf).len)
 have HFR2 := zh hfr
 have HK2 := zh (HK1.out.trans hk2 (fun _ _ q => q))
 have HB2 := zh (HB1.out.keep hk2 (fun q => q))
 clear hk2 c0 c1 c2 c3 c4 c5 c6 c7 hl0 how hfr
 unfold lgV lgA
 go_upto_region 2 with fail
 have hk3 : Kp NoB w2 (w2.alloc (.cells #[.int .i64 v.a, .int .i64 v.b, .int .i64 v.c, .int .i64 v.d, .slice A9 L c9] 94)) := (Kp.refl NoB w2).alloc _
 have hb3 : Blk (w2.alloc (.cells #[.int .i64 v.a, .int .i64 v.b, .int .i64 v.c, .int .i64 v.d, .slice A9 L c9] 94)) w2.heap.size 94 #[.int .i64 v.a, .int .i64 v.b, .int .i64 v.c, .int .i64 v.d, .slice A9 L c9] := Blk.new _ _ _
 generalize w2.alloc (.cells #[.int .i64 v.a, .int .i64 v.b, .int .i64 v.c, .int .i64 v.d, .slice A9 L c9] 94) = w3 at hk3 hb3 ⊢
 generalize w2.heap.size = lb at hb3 ⊢
 have HK3 := zh (HK2.out.trans hk3 (fun _ _ q => q))
 have HB3 := zh (HB2.out.keep hk3 (fun q => q))
 have HLG3 := zh hb3
 have HFR3 := zh (HFR2.out.keep hk3)
 clear hk3 hb3
 go_wp2_with fail
 refine (show Calls _ _ #[ptrV db] _ _ from wmark_q (H.out.keep HK3.out)).mono ?_
 rintro e w4 ⟨rfl, hk4⟩
 rw [HMV.out]
 have HK4 := zh (HK3.out.trans hk4 (fun _ _ q => q))
 have HK34 := zh hk4
 clear hk4
 go_wp2_with fail
 refine (show Calls _ _ #[ptrV db] _ _ from wmarks_q (H.out.keep HK4.out)).mono ?_
 rintro e w5 (⟨h0, -⟩ | ⟨-, v13, rfl, how5, hk5⟩)
 ·exact absurd HE.out h0
 rw [HFS.out, HL.out] at how5
 obtain ⟨xs, hxs⟩ : ∃ xs, marksTo fs (L + 1) = xs := ⟨_, rfl⟩
 rw [hxs] at how5
 obtain ⟨nx, hnx⟩ : ∃ nx, xs.length = nx := ⟨_, rfl⟩
 rw [hnx] at how5
 have HXS := zh hxs
 have HNX := zh hnx
 have HNXL : Hid (nx ≤ 1048577) := zh (by rw [← hnx, ← hxs]; have := marksTo_len fs (L + 1); have := HN20.out; omega)
 obtain ⟨A13, c13, rfl⟩ := own_slice how5
 have HO5 := zh how5
 have HK5 := zh (HK4.out.trans hk5 (fun _ _ q => q))
 have HK35 := zh (HK34.out.trans hk5 (fun _ _ q => q))
 clear hk5 how5 hxs hnx
 go_wp2_with fail
 refine (show Calls _ _ #[ptrV db, .int .i64 mark] _ _ from wcnt_q (H.out.keep HK5.out) mark).mono ?_
 rintro e w6 ⟨rfl, hk6⟩
 rw [HCN.out, HCE.out]
 have HK6 := zh (HK5.out.trans hk6 (fun _ _ q => q))
 have HK36 := zh (HK35.out.trans hk6 (fun _ _ q => q))
 have HO6 := zh (own_keepB HO5.out hk6 (fun _ _ q => q))
 clear hk6
 go_wp2_with fail
 refine (show Calls _ _ #[ptrV db, .int .i64 mark, .int .i64 n] _ _ from wpg_q (H.out.keep HK6.out) mark n HN.out).mono ?_
 rintro e w7 ⟨rfl, hk7⟩
 rw [HPG.out, HPE.out]
 have HK7 := zh (HK6.out.trans hk7 (fun _ _ q => q))
 have HK37 := zh (HK36.out.trans hk7 (fun _ _ q => q))
 have HO7 := zh (own_keepB HO6.out hk7 (fun _ _ q => q))
 clear hk7
 have hpo := bytesV_one pg
 have hps : (bytesV pg).size = 256 := by rw [bytesV_size, HPL.out]
 have HPS := zh hps
 have hbz : Blk (w7.alloc (.cells zero256 46)) w7.heap.size 46 zero256 := Blk.new _ _ _
 have htz := hbz.thereAll 256 (by rw [zero256_eq, bytesV_size]; rfl)
 go_upto_region 6 with fail
 have hp1 : Blk ((w7.alloc (.cells zero256 46)).setCells w7.heap.size 0 (bytesV pg).toList) w7.heap.size 46 (bytesV pg) := hbz.whole _ (by rw [hps, zero256_eq, bytesV_size]; rfl)
 have hk8 : Kp NoB w7 ((w7.alloc (.cells zero256 46)).setCells w7.heap.size 0 (bytesV pg).toList) := Kp.setCells (.inl (Nat.le_refl _)) _ _ _ ((Kp.refl NoB w7).alloc _)
 generalize ((w7.alloc (.cells zero256 46)).setCells w7.heap.size 0 (bytesV pg).toList) = w8 at hp1 hk8 ⊢
 generalize w7.heap.size = gp at hp1 ⊢
 have HP8 := zh hp1
 have HK8 := zh (HK7.out.trans hk8 (fun _ _ q => q))
 have hk38 := HK37.out.trans hk8 (fun _ _ q => q)
 have HO8 := zh (own_keepB HO7.out hk8 (fun _ _ q => q))
 have HB8 := zh (HB3.out.keep hk38 (fun q => q))
 have HLG8 := zh (HLG3.out.keep hk38 (fun q => q))
 have HFR8 := zh (HFR3.out.keep hk38)
 obtain ⟨e0, e1, e2, e3, e4⟩ := HLG8.out.c5
 have hll := HLG8.out.lt
 clear hbz htz hk8 hp1 hk38 HB3 HLG3 HFR3 HB2 HFR2 HB1 HK1 HK2 HK3 HK4 HK5 HK6 HK7 HK34 HK35 HK36 HK37 HO5 HO6 HO7 hps hpo
 go_wp2_with fail
 refine (show Calls _ _ #[lgV v A9 L c9] _ _ from marks_rok w8 v A9 L c9 fs HFR8.out HFO.out HN20.out).mono ?_
 rintro e w9 ⟨v19, rfl, how9, hk9⟩
 rw [HL.out, HXS.out, HNX.out] at how9
 obtain ⟨A19, c19, rfl⟩ := own_slice how9
 have HO9 := zh how9
 have HK9 := zh (HK8.out.trans hk9 (fun _ _ q => q))
 have HK89 := zh hk9
 obtain ⟨e0, e1, e2, e3, e4⟩ := (HLG8.out.keep hk9 (fun q => q)).c5
 have hll := (HLG8.out.keep hk9 (fun q => q)).lt
 clear how9 hk9
 go_wp2_with fail
 refine (show Calls _ _ #[ptrV db] _ _ from wcheckq_q (H.out.keep HK9.out)).mono ?_
 rintro e w10 ⟨rfl, hk10⟩
 rw [HE.out]
 have HK10 := zh (HK9.out.trans hk10 (fun _ _ q => q))
 have HK810 := zh (HK89.out.trans hk10 (fun _ _ q => q))
 have HO19 := zh (own_keepB HO9.out hk10 (fun _ _ q => q))
 have HO13 := zh (own_keepB HO8.out HK810.out (fun _ _ q => q))
 obtain ⟨e0, e1, e2, e3, e4⟩ := (HLG8.out.keep HK810.out (fun q => q)).c5
 have hll := (HLG8.out.keep HK810.out (fun q => q)).lt
 clear hk10 HO8 HO9 HK89
 have hL63 : L ≤ 9223372036854775807 := by have := HN20.out; omega
 have hnx63 : nx ≤ 9223372036854775807 := by have := HNXL.out; omega
 go_wp2_with fail
 clear e0 e1 e2 e3 e4 hll
 go_loopw [20] (fun v20 wr => LgRel w10 nx v20 wr) (fun v _ => nx - (intOf v).toNat)
 case atStart => exact ⟨0, rfl, Nat.zero_le _, Kp.refl _ _⟩
 case round =>
  obtain ⟨wq, rfl⟩ : ∃ wq, wq = wr := ⟨_, rfl⟩
  obtain ⟨k, rfl, hk, hkp⟩ := hrel
  have HKP := zh hkp
  clear hkp
  by_cases hlt : k < nx
  ·have hkk : (k : Int) < (nx : Int) := by omega
   have hkx : k < xs.length := by rw [HNX.out]; exact hlt
   obtain ⟨ga, hga, -, hgl⟩ := own_at HO13.out (by omega)
   obtain ⟨gb, hgb, -, hgm⟩ := own_at HO19.out (by omega)
   have HO13' := HO13.out
   have HO19' := HO19.out
   rw [hga] at HO13'
   rw [hgb] at HO19'
   have HA : Hid (w10.cell? ⟨ga, k, none⟩ = some (.int .i64 (xs[k]'hkx))) := zh (by rw [HO13'.cellAt k (by omega), List.getElem?_map, List.getElem?_eq_getElem hkx]; rfl)
   have HB : Hid (w10.cell? ⟨gb, k, none⟩ = some (.int .i64 (xs[k]'hkx))) := zh (by rw [HO19'.cellAt k (by omega), List.getElem?_map, List.getElem?_eq_getElem hkx]; rfl)
   obtain ⟨X, hX⟩ : ∃ X, xs[k]'hkx = X := ⟨_, rfl⟩
   rw [hX] at HA HB
   subst hga hgb
   clear HO13' HO19' hX hkx
   go_upto_region 14 with fail
   refine wp_region_held_drew (S := fun V => Kp NoB w10 V) (by kernel_rfl) HKP.out.drew (fun hHeld => ?_)
   have k0 : Kp NoB w10 wq.drew := HKP.out.drew
   generalize wq.drew = V0 at k0 hHeld ⊢
   refine tkJ (i := 0) (v := (.slice (some ⟨ga, 0, none⟩) nx c13)) rfl k0 ?_
   simp only [Act.put, sA, sB, sC]
   refine tkJ (i := 1) (v := (.int .i64 (k : Int))) rfl k0 ?_
   simp only [Act.put, sA, sB, sC]
   refine tkJ (i := 2) (v := (.pointer (some ⟨ga, k, none⟩))) rfl k0 ?_
   simp only [Act.put, sA, sB, sC]
   refine tkS (i := 3) (v := (.int .i64 X)) rfl (Or.inl ⟨by rfl, fun w' hq => by have := (hq.cell hgl (fun z => z)).trans HA.out; go_simp⟩) k0 ?_
   simp only [Act.put, sA, sB, sC]
   refine tkJ (i := 4) (v := (.slice (some ⟨gb, 0, none⟩) nx c19)) rfl k0 ?_
   simp only [Act.put, sA, sB, sC]
   refine tkJ (i := 5) (v := (.int .i64 (k : Int))) rfl k0 ?_
   simp only [Act.put, sA, sB, sC]
   refine tkJ (i := 6) (v := (.pointer (some ⟨gb, k, none⟩))) rfl k0 ?_
   simp only [Act.put, sA, sB, sC]
   refine tkS (i := 7) (v := (.int .i64 X)) rfl (Or.inl ⟨by rfl, fun w' hq => by have := (hq.cell hgm (fun z => z)).trans HB.out; go_simp⟩) k0 ?_
   simp only [Act.put, sA, sB, sC]
   refine tkJ (i := 8) (v := (.bool false)) rfl k0 ?_
   simp only [Act.put, sA, sB, sC]
   refine wpAnyH_done (by kernel_rfl) ?_ _
   have HK0 := zh k0
   clear hHeld k0
   go_wp2_with fail
   go_roundw
   case rel => exact ⟨k + 1, by congr 1, by omega, HK0.out⟩
   case measure => simp [intOf]; omega
  ·have hkk : ¬ (k : Int) < (nx : Int) := by omega
   have HKW := zh (HK10.out.trans HKP.out (fun _ _ q => q))
   have HK8Q := zh (HK810.out.trans HKP.out (fun _ _ q => q))
   have HFRQ := zh (HFR8.out.keep HK8Q.out)
   obtain ⟨e0, e1, e2, e3, e4⟩ := (HLG8.out.keep HK8Q.out (fun q => q)).c5
   have hll := (HLG8.out.keep HK8Q.out (fun q => q)).lt
   clear HO13 HO19
   go_wp2_with fail
   refine (show Calls _ _ #[lgV v A9 L c9, .int .i64 mark] _ _ from is_rok wq v A9 L c9 fs HFRQ.out HFO.out (by have := HN20.out; omega) mark).mono ?_
   rintro e w11 ⟨rfl, hk11⟩
   have HK11 := zh (HKW.out.trans hk11 (fun _ _ q => q))
   have HK811 := zh (HK8Q.out.trans hk11 (fun _ _ q => q))
   have hps := HPS.out
   have hzo : ones zero256 := by rw [zero256_eq]; exact bytesV_one _
   have hzs : zero256.size = 256 := by rw [zero256_eq, bytesV_size]; rfl
   have hzp : pgOK (.agg zero256) := pgOK_zero
   clear hk11 e0 e1 e2 e3 e4 hll
   cases hmk : isMark fs mark with
   | false =>
    have hP : p.wpg mark n = (zeros 256, 4) := by rw [HWP.out, if_pos hmk]
    have hC : p.wcnt mark = (0, 4) := by rw [HWC.out, if_neg (by rw [hmk]; decide)]
    have hpz : pg = zeros 256 := by rw [← HPG.out, hP]
    obtain rfl : PE = 4 := by rw [← HPE.out, hP]
    obtain rfl : CN = 0 := by rw [← HCN.out, hC]
    obtain rfl : CE = 4 := by rw [← HCE.out, hC]
    have HPQ := zh (HP8.out.keep HK811.out (fun q => q))
    have t9 : w11.there gp 0 256 := HPQ.out.thereAll 256 hps
    have r9 : readRow w11 gp 0 256 = zero256 := by rw [HPQ.out.readAll 256 hps, hpz, zero256_eq]
    clear hP hC hpz hmk
    go_wp2_with fail
    go_ret
    exact ⟨rfl, HK11.out⟩
   | true =>
    have HMK := zh hmk
    obtain ⟨mk, hmkn, hmn⟩ := mark_nat hmk
    subst hmkn
    have hcr := wcount_rng HFO.out HJC.out hmk
    obtain ⟨K, hK⟩ : ∃ K, wcount p fs (mk : Int) = K := ⟨_, rfl⟩
    have HKK := zh hK
    rw [hK] at hcr
    have HCR := zh hcr
    have hC : p.wcnt (mk : Int) = (K, 0) := by rw [HWC.out, if_pos hmk, hK]
    obtain rfl : CN = K := by rw [← HCN.out, hC]
    obtain rfl : CE = 0 := by rw [← HCE.out, hC]
    have HMN : Hid (mk ≤ L) := zh (by rw [← HL.out]; exact hmn)
    obtain ⟨e0, e1, e2, e3, e4⟩ := (HLG8.out.keep HK811.out (fun q => q)).c5
    have hll := (HLG8.out.keep HK811.out (fun q => q)).lt
    obtain ⟨c0, c1, c2, c3, c4, c5, c6, c7⟩ := (HB8.out.keep HK811.out (fun q => q)).rdc
    have hl0 := (HB8.out.keep HK811.out (fun q => q)).lt
    have HFR11 := zh (HFR8.out.keep HK811.out)
    clear hmk hmn hcr hK hC
    go_wp2_with fail
    refine (show Calls _ _ #[rdV d p, lgV v A9 L c9, .int .i64 (mk : Int)] _ _ from wcount_rok w11 d p (HR.out.keep HK11.out) HNF.out v A9 L c9 fs HFR11.out HFO.out (by have := HN20.out; omega) (mk : Int) HMK.out).mono ?_
    rintro e w12 ⟨rfl, hk12⟩
    rw [HKK.out]
    have HK12 := zh (HK11.out.trans hk12 (fun _ _ q => q))
    have HK812 := zh (HK811.out.trans hk12 (fun _ _ q => q))
    have HPQ := zh (HP8.out.keep HK812.out (fun q => q))
    have t9 : w12.there gp 0 256 := HPQ.out.thereAll 256 hps
    clear hk12 e0 e1 e2 e3 e4 hll c0 c1 c2 c3 c4 c5 c6 c7 hl0
    by_cases hout : n < 1 ∨ CN < n
    ·have hP : p.wpg (mk : Int) n = (zeros 256, 4) := by rw [HWP.out, if_neg (by rw [HMK.out]; decide), HKK.out, if_pos hout]
     have hpz : pg = zeros 256 := by rw [← HPG.out, hP]
     obtain rfl : PE = 4 := by rw [← HPE.out, hP]
     have r9 : readRow w12 gp 0 256 = zero256 := by rw [HPQ.out.readAll 256 hps, hpz, zero256_eq]
     clear hP hpz
     by_cases h1 : n < 1
     ·clear hout
      go_wp2_with fail
      go_ret
      exact ⟨rfl, HK12.out⟩
     ·have h2 : CN < n := hout.resolve_left h1
      clear hout
      go_wp2_with fail
      go_ret
      exact ⟨rfl, HK12.out⟩
    ·have hP : p.wpg (mk : Int) n = (wpage p fs (mk : Int) n, 0) := by rw [HWP.out, if_neg (by rw [HMK.out]; decide), HKK.out, if_neg hout]
     have HPW : Hid (wpage p fs (mk : Int) n = pg) := zh (by rw [← HPG.out, hP])
     obtain rfl : PE = 0 := by rw [← HPE.out, hP]
     have h1 : ¬ n < 1 := fun q => hout (.inl q)
     have h2 : ¬ CN < n := fun q => hout (.inr q)
     have HN1 : Hid (1 ≤ n ∧ n ≤ 1099511627776) := zh (by have := HCR.out; omega)
     clear hP hout
     go_upto_region 23 with fail
     clear t9
     refine wp_region_held_drew (S := fun V => Kp NoB w12 V) (by kernel_rfl) (Kp.refl NoB w12).drew (fun hHeld => ?_)
     have k0 : Kp NoB w12 w12.drew := (Kp.refl NoB w12).drew
     have hix : (Tryz.prog.info? 46).map (·.size) = some (pg.map (Value.int .u8)).length := by rw [List.length_map, HPL.out]; exact info26
     have hu := Tryz.underlying46
     generalize w12.drew = V0 at k0 hHeld ⊢
     have HB12 := zh (HB8.out.keep HK812.out (fun q => q))
     have HLG12 := zh (HLG8.out.keep HK812.out (fun q => q))
     have HFR12 := zh (HFR8.out.keep HK812.out)
     refine tkJ (i := 0) (v := (.int .i64 0)) rfl k0 ?_
     simp only [Act.put, sA, sB, sC]
     refine tkJ (i := 1) (v := (.bool true)) rfl k0 ?_
     simp only [Act.put, sA, sB, sC]
     refine tkJ (i := 2) (v := (.bool true)) rfl k0 ?_
     simp only [Act.put, sA, sB, sC]
     refine tkS (i := 3) (v := .agg ((pg.map (Value.int .u8))).toArray) rfl (yieldsIf_load_mid (by rfl) _ _ rfl _ _ rfl (pg.map (Value.int .u8)) _ (fun _ q => blk_rg8 (HPQ.out.keep q (fun z => z))) hu rfl hix) k0 ?_
     simp only [Act.put, sA, sB, sC]
     refine tkS (i := 4) (v := (.agg #[.bool true, .bool p.down, .slice d.fA d.fn d.fc, .slice d.pA d.pn d.pc, .int .i64 p.room, .int .i64 p.steps, .int .i64 p.crash, .int .i64 p.starts])) rfl (Or.inl ⟨by rfl, fun w' hq => by obtain ⟨e0, e1, e2, e3, e4, e5, e6, e7⟩ := (HB12.out.keep hq (fun q => q)).rdc; go_simp⟩) k0 ?_
     simp only [Act.put, sA, sB, sC]
     refine tkS (i := 5) (v := (.agg #[.int .i64 v.a, .int .i64 v.b, .int .i64 v.c, .int .i64 v.d, .slice A9 L c9])) rfl (Or.inl ⟨by rfl, fun w' hq => by obtain ⟨e0, e1, e2, e3, e4⟩ := (HLG12.out.keep hq (fun q => q)).c5; go_simp⟩) k0 ?_
     simp only [Act.put, sA, sB, sC]
     refine tkJ (i := 6) (v := (.int .i64 (mk : Int))) rfl k0 ?_
     simp only [Act.put, sA, sB, sC]
     refine tkJ (i := 7) (v := (.int .i64 n)) rfl k0 ?_
     simp only [Act.put, sA, sB, sC]
     refine tkR [8] ?_
     refine AllReadyH.callR (fun y W' => y = .agg (bytesV pg) ∧ Kp NoB w12 W') rfl (by rfl) 54 #[.agg #[.bool true, .bool p.down, .slice d.fA d.fn d.fc, .slice d.pA d.pn d.pc, .int .i64 p.room, .int .i64 p.steps, .int .i64 p.crash, .int .i64 p.starts], .agg #[.int .i64 v.a, .int .i64 v.b, .int .i64 v.c, .int .i64 v.d, .slice A9 L c9], .int .i64 (mk : Int), .int .i64 n] (by first | (go_simp; done) | (go_simp; rfl)) (fun _ _ q => q.2) ((wpage_rok V0 d p (HR.out.keep (HK12.out.trans k0 (fun _ _ z => z))) HNF.out HDN.out v A9 L c9 fs (HFR12.out.keep k0) HFO.out (by have := HN20.out; omega) mk HMN.out n HN1.out).mono (by rintro e w19 ⟨rfl, hk⟩; exact ⟨_, rfl, by rw [HPW.out], k0.trans hk (fun _ _ z => z)⟩)) ?_ AllReadyH.nil
     rintro y V1 ⟨rfl, k1⟩
     simp only [Act.put, sA, sB, sC]
     refine tkS (i := 9) (v := .bool true) rfl (Or.inl ⟨by rfl, fun w' hq => eqTrue w' _ _ _ _ rfl rfl HPL.out⟩) k1 ?_
     simp only [Act.put, sA, sB, sC]
     refine tkJ (i := 10) (v := (.bool true)) rfl k1 ?_
     simp only [Act.put, sA, sB, sC]
     refine tkJ (i := 11) (v := (.bool true)) rfl k1 ?_
     simp only [Act.put, sA, sB, sC]
     refine wpAnyH_done (by kernel_rfl) ?_ _
     have HK13 := zh (HK12.out.trans k1 (fun _ _ q => q))
     clear hHeld k0 k1 hix hu
     go_wp2_with fail
     go_ret
     exact ⟨rfl, HK13.out⟩
theorem look_ok {S : Nat → Prop} {W0 : World} (w : World) (db : Nat) (p : Pl) (d : Rd) (mark n : Int) (hq : Dq S W0 w db p) (hr : Rf w d p) (hsm : p.sm 600000000000) (hn : -9223372036854775808 ≤ n ∧ n ≤ 9223372036854775807) :
  Calls Tryz.prog 19 #[ptrV db, rdV d p, .int .i64 mark, .int .i64 n] w fun e w' => e = .returned (.bool true) ∧ Kp NoB w w' := by
 by_cases he : p.wopen.1 = 0
 ·exact look_good w db p d mark n hq hr hsm hn he
 ·exact look_bad w db p d mark n hq hr hsm hn he
end
section
open Go.RowKit
section
variable {S : Nat → Prop} {W0 w w' : World} {db : Nat} {p p' : Pl}
theorem down_q (h : Dq S W0 w db p) : Calls Tryz.prog 8 #[ptrV db] w fun e w' => e = .returned (.bool p.down) ∧ w = w' := by
 obtain ⟨x, rfl, hd, hp, hk, ho, hz⟩ := h
 exact down_ok w _ x p hd hp
theorem crashin_q (h : Dq S W0 w db p) (n : Int) (hn : -9223372036854775808 ≤ n ∧ n ≤ 9223372036854775807) : Calls Tryz.prog 21 #[ptrV db, .int .i64 n] w fun e w' => e = .returned (.tuple #[]) ∧ Dq S W0 w' db (p.crashIn n) := by
 obtain ⟨x, rfl, hd, hp, hk, ho, hz⟩ := h
 exact (crashin_ok w 0 x p n hn hd hp).mono fun e w' ⟨he, ht⟩ => ⟨he, dq_of (n0 := 0) rfl hk ho hz ht⟩
theorem crash_q (h : Dq S W0 w db p) : Calls Tryz.prog 22 #[ptrV db] w fun e w' => e = .returned (.tuple #[]) ∧ Dq S W0 w' db p.crashNow := by
 obtain ⟨x, rfl, hd, hp, hk, ho, hz⟩ := h
 exact (crash_ok w 0 x p hd hp).mono fun e w' ⟨he, ht⟩ => ⟨he, dq_of (n0 := 0) rfl hk ho hz ht⟩
theorem restart_q (h : Dq S W0 w db p) (A : Option Addr) (n cap : Nat) (chs : List Int) (hc : Nums w A n chs) (hA : ∀ g o, A = some ⟨g, o, none⟩ → 0 < n → g < W0.heap.size ∧ ¬ S g) (hch : ∀ y ∈ chs, -9223372036854775808 ≤ y ∧ y ≤ 9223372036854775807)
  (hn63 : n ≤ 9223372036854775807) (hm : p.sm 20) :
  Calls Tryz.prog 23 #[ptrV db, .slice A n cap] w fun e w' => e = .returned (.int .i64 p.restartE) ∧ Dq S W0 w' db (p.restart chs) := by
 obtain ⟨x, rfl, hd, hp, hk, ho, hz⟩ := h
 unfold Pl.sm at hm
 exact (restart_ok w 0 x p A n cap chs hd hp hc (fun g o e hpos q => by have h1 := hA g o e hpos; rcases ho g q with z | z; exact h1.2 z; omega) hch hn63 (by omega) (Nat.zero_le _)).mono fun e w' ⟨he, ht⟩ => ⟨he, dq_of (n0 := 0) rfl hk ho hz ht⟩
theorem steps_q (h : Dq S W0 w db p) : Calls Tryz.prog 11 #[ptrV db] w fun e w' => e = .returned (.int .i64 p.steps) ∧ w = w' := by
 obtain ⟨x, rfl, hd, hp, hk, ho, hz⟩ := h
 exact steps_ok w _ x p hd hp
theorem pending_q (h : Dq S W0 w db p) : Calls Tryz.prog 12 #[ptrV db] w fun e w' => e = .returned (.int .i64 (p.pd.length : Nat)) ∧ w = w' := by
 obtain ⟨x, rfl, hd, hp, hk, ho, hz⟩ := h
 exact pending_ok w _ x p hd hp
end
end
section
open Go.RowKit
def DkB (w : World) (b : Nat) : Prop := ∀ (cs : Array Value) (t : TypeId), w.heap[b]? = some (.cells cs t (0, 0)) → ¬ NotDk t
theorem Rows.keepT {S : Nat → Prop} {w w' : World} {A : Option Addr} {n sz : Nat} {xs : List (List Value)} (h : Rows w A n sz xs) (k : Kp S w w') (hS : ∀ b, S b → DkB w b) : Rows w' A n sz xs :=
 ⟨h.1, h.2.1, fun hn => by
  obtain ⟨g, o, t, cs, e, hb, hs, hc⟩ := h.2.2 hn
  exact ⟨g, o, t, cs, e, hb.keep k (fun q => hS g q _ _ hb t.2), hs, hc⟩⟩
theorem Rf.keepT {S : Nat → Prop} {w w' : World} {d : Rd} {p : Pl} (h : Rf w d p) (k : Kp S w w') (hS : ∀ b, S b → DkB w b) : Rf w' d p := { h with files := h.files.keepT k hS, pend := h.pend.keepT k hS }
theorem DkB.keep {S : Nat → Prop} {w w' : World} {b : Nat} (h : DkB w b) (k : Kp NoB w w') (hb : b < w.heap.size) : DkB w' b := fun cs t q => h cs t (by rw [← k.block b hb (fun q => q)]; exact q)
theorem not_dk (t : TypeId) (h : t = 55 ∨ t = 128 ∨ t = 121) : ¬ NotDk t := by
 rintro ⟨h1, h2, h3⟩
 rcases h with q | q | q
 ·exact h1 q
 ·exact h2 q
 ·exact h3 q
theorem Dq.baseT {S : Nat → Prop} {W0 w : World} {db : Nat} {p : Pl} (h : Dq S W0 w db p) : ∃ S', Dq S' w w db p ∧ (∀ b, S' b → S b ∨ W0.heap.size ≤ b) ∧ ∀ b, S' b → DkB w b := by
 obtain ⟨x, e, hd, hp, hk, ho, hs⟩ := h
 refine ⟨x.O, ⟨x, e, hd, hp, Kp.refl _ _, fun b q => .inl q, hd.lt⟩, ho, ?_⟩
 rintro b (rfl | rfl | q | ⟨f, hf, rfl⟩) cs t hc
 ·have h1 : some (Obj.cells cs t (0, 0)) = some (Obj.cells _ 55 (0, 0)) := hc.symm.trans hd.blk
  injection h1 with h1
  injection h1 with h1 h2
  exact not_dk t (.inl h2)
 ·obtain ⟨D, ⟨es, ck, hm, _⟩, _⟩ := hd.mp
  have h1 := hc.symm.trans hm
  injection h1 with h1
  cases h1
 ·obtain ⟨cs', h2⟩ := own_type hd.pend q
  have h1 := hc.symm.trans h2
  injection h1 with h1
  injection h1 with h1 h2
  exact not_dk t (.inr (.inr h2))
 ·obtain ⟨u, v, hb, _⟩ := (hd.fls f hf).blk
  have h1 : some (Obj.cells cs t (0, 0)) = some (Obj.cells _ 128 (0, 0)) := hc.symm.trans hb
  injection h1 with h1
  injection h1 with h1 h2
  exact not_dk t (.inr (.inl h2))
theorem Dq.loc {S0 S S2 : Nat → Prop} {w w3 w5 w' : World} {db : Nat} {p : Pl} (hq : Dq S w3 w5 db p) (k0 : Kp S0 w w3) (hS : ∀ b, S b → S0 b ∨ w.heap.size ≤ b) (hs : ∀ b, S0 b → b < w.heap.size) (k : Kp S2 w5 w') (h2 : ∀ b, S2 b → ¬ S b ∧ w.heap.size ≤ b ∧ b < w3.heap.size ∧ ∃ t cs, Blk w5 b t cs ∧ t ≠ 5) : Dq S0 w w' db p := by
 obtain ⟨x, e, hd, hp, hk, ho, hz⟩ := hq
 refine ⟨x, e, hd.keep k (fun b hbo q => ?_) (fun g' cs' hh q => ?_), hp, ?_, fun b hbo => ?_, hs⟩
 ·have q' := h2 b q
  rcases ho b hbo with z | z
  ·exact q'.1 z
  ·omega
 ·obtain ⟨_, _, _, t, cs, hb, ht⟩ := h2 g' q
  have h1 : some (Obj.cells cs' 5 (0, 0)) = some (Obj.cells cs t (0, 0)) := hh.symm.trans hb
  injection h1 with h1
  injection h1 with h1 h2
  exact ht h2.symm
 ·refine (k0.trans hk (fun i hi q => ?_)).trans k (fun i hi q => ?_)
  ·rcases hS i q with z | z
   ·exact z
   ·omega
  ·have q' := h2 i q
   omega
 ·rcases ho b hbo with z | z
  ·exact hS b z
  ·exact .inr (Nat.le_trans k0.size z)
theorem Dq.re {S S2 : Nat → Prop} {w w' : World} {db : Nat} {p : Pl} (hq : Dq S w w db p) (k : Kp S2 w w') (h2 : ∀ b, S2 b → ¬ S b ∧ b < w.heap.size ∧ ∃ t cs, Blk w b t cs ∧ t ≠ 5) : Dq S w' w' db p := by
 obtain ⟨x, e, hd, hp, hk, ho, hz⟩ := hq
 refine ⟨x, e, hd.keep k (fun b hbo q => ?_) (fun g' cs' hh q => ?_), hp, Kp.refl _ _, fun b hbo => ?_, fun b q => Nat.lt_of_lt_of_le (hz b q) k.size⟩
 ·have q' := h2 b q
  rcases ho b hbo with z | z
  ·exact q'.1 z
  ·omega
 ·obtain ⟨_, _, t, cs, hb, ht⟩ := h2 g' q
  have h1 : some (Obj.cells cs' 5 (0, 0)) = some (Obj.cells cs t (0, 0)) := hh.symm.trans hb
  injection h1 with h1
  injection h1 with h1 h2
  exact ht h2.symm
 ·rcases ho b hbo with z | z
  ·exact .inl z
  ·have := hd.lt b hbo
   omega
theorem DkB.keepS {S2 : Nat → Prop} {w w' : World} {b : Nat} (h : DkB w b) (k : Kp S2 w w') (hb : b < w.heap.size) (hn : ¬ S2 b) : DkB w' b := fun cs t q => h cs t (by rw [← k.block b hb hn]; exact q)
theorem setroom_q {S : Nat → Prop} {W0 w : World} {db : Nat} {p : Pl} (h : Dq S W0 w db p) (n : Int) (hn : -9223372036854775808 ≤ n ∧ n ≤ 9223372036854775807) : Calls Tryz.prog 20 #[ptrV db, .int .i64 n] w fun e w' => e = .returned (.tuple #[]) ∧ Dq S W0 w' db (p.setRoom n) := by
 obtain ⟨x, rfl, hd, hp, hk, ho, hz⟩ := h
 exact (setroom_ok w _ x p n hn hd hp).mono fun e w' ⟨he, ht⟩ => ⟨he, dq_of (n0 := 0) rfl hk ho hz ht⟩
theorem Rf.setRoom {w : World} {d : Rd} {p : Pl} (h : Rf w d p) (n : Int) (hn : n ≤ 9223372036854775807) : Rf w d (p.setRoom n) :=
 {h with room := by show 0 ≤ max 0 n ∧ max 0 n ≤ 9223372036854775807; omega }
theorem Rf.crashIn {w : World} {d : Rd} {p : Pl} (h : Rf w d p) (n : Int) (hn : n ≤ 9223372036854775807) : Rf w d (p.crashIn n) :=
 {h with crash := by show 0 ≤ max 0 n ∧ max 0 n ≤ 9223372036854775807; omega }
theorem Rf.crashNow {w : World} {d : Rd} {p : Pl} (h : Rf w d p) : Rf w d p.crashNow := { h with }
theorem Nums.keepG {S : Nat → Prop} {w w' : World} {A : Option Addr} {n : Nat} {xs : List Int} (h : Nums w A n xs) (k : Kp S w w') (hS : ∀ g o, A = some ⟨g, o, none⟩ → 0 < n → ¬ S g) : Nums w' A n xs :=
 ⟨h.1, fun hn => by
  obtain ⟨g, o, e, hg, hc⟩ := h.2 hn
  exact ⟨g, o, e, Nat.lt_of_lt_of_le hg k.size, fun j hj => (k.cell hg (hS g o e hn)).trans (hc j hj)⟩⟩
theorem Nums.ltG {w : World} {A : Option Addr} {n : Nat} {xs : List Int} (h : Nums w A n xs) {g o : Nat} (e : A = some ⟨g, o, none⟩) (hn : 0 < n) : g < w.heap.size := by
 obtain ⟨g', o', e', hg, _⟩ := h.2 hn
 rw [e] at e'
 injection e' with e'
 injection e' with e1 e2
 omega
theorem survive_nfD : ∀ (cs : List Cg) (chs : List Int) (p : Pl), (p.survive cs chs).nf ≤ p.nf + cs.length
 | [], chs, p => by unfold Pl.survive; exact Nat.le_refl _
 | c :: cs, [], p => by unfold Pl.survive; exact Nat.le_add_right _ _
 | c :: cs, ch :: r, p => by
  unfold Pl.survive
  have h := survive_nfD cs r (p.at_.setKept c.nm (Pl.made (p.kept c.nm) c ch))
  have e : (p.at_.setKept c.nm (Pl.made (p.kept c.nm) c ch)).nf = p.nf + 1 := rfl
  rw [e] at h
  rw [List.length_cons]
  omega
theorem sm_restartD {p : Pl} {k : Nat} (chs : List Int) (h : p.sm k) : (p.restart chs).sm k := by
 unfold Pl.restart
 split
 ·have h1 := survive_nfD p.pd chs p
  unfold Pl.sm at h ⊢
  show (p.survive p.pd chs).nf + ([] : List Cg).length + k < _
  rw [List.length_nil]
  omega
 ·exact h
end
section
open Go.RowKit Go.Shelf
attribute [local go_sem ↓] loadFrI
attribute [local go_sem] Oper.semAt_some
def KX (X : Nat → Prop) (n₀ : Nat) (W W' : World) : Prop := W.heap.size ≤ W'.heap.size ∧ ∀ i, i < n₀ → ¬ X i → W'.heap[i]? = W.heap[i]?
theorem KX.refl (X : Nat → Prop) (n₀ : Nat) (W : World) : KX X n₀ W W := ⟨Nat.le_refl _, fun _ _ _ => rfl⟩
theorem KX.trans {X : Nat → Prop} {n₀ : Nat} {A B C : World} (h : KX X n₀ A B) (k : KX X n₀ B C) : KX X n₀ A C := ⟨Nat.le_trans h.1 k.1, fun i hi hx => (k.2 i hi hx).trans (h.2 i hi hx)⟩
theorem kX_b {X : Nat → Prop} {n₀ : Nat} {w : World} (hn : n₀ ≤ w.heap.size) (W : World) (l : Nat) (o o' : Obj) (hl : w.heap.size ≤ l) (_ : W.heap[l]? = some o) (_ : o.isCells = false) (_ : o.isWalk = false) : KX X n₀ W (W.putObj l o') :=
 ⟨by simp, fun i hi _ => World.putObj_heap_other (by omega)⟩
theorem Kp.toX {S X : Nat → Prop} {n₀ : Nat} {W W' : World} (k : Kp S W W') (hn : n₀ ≤ W.heap.size) (hS : ∀ i, S i → i < n₀ → X i) : KX X n₀ W W' := ⟨k.size, fun i hi hx => k.block i (by omega) (fun q => hx (hS i q hi))⟩
theorem Blk.keepX {X : Nat → Prop} {w w' : World} {g : Nat} {t : TypeId} {cs : Array Value} (h : Blk w g t cs) (k : KX X w.heap.size w w') (hx : ¬ X g) : Blk w' g t cs := (k.2 g h.lt hx).trans h
theorem LgS.keepX {X : Nat → Prop} {w w' : World} {db lb : Nat} {H : W4} {A : Option Addr} {c : Nat} {fs : List Fr} (h : LgS w db lb H A c fs) (k : KX X w.heap.size w w') (hl : ¬ X lb) (hf : ∀ g, A = some ⟨g, 0, none⟩ → ¬ X g) : LgS w' db lb H A c fs :=
 ⟨h.b.keepX k hl, ⟨h.o.1, h.o.2.elim .inl (fun ⟨g, cap, cur, e, hb, hg, r⟩ => .inr ⟨g, cap, cur, e, hb, (k.2 g (lt_of_heap hg) (hf g (by injection e with e1 _ _))).trans hg, r⟩)⟩, h.ok⟩
set_option maxRecDepth 100000 in
set_option maxHeartbeats 2000000 in
theorem up1_inX (X : Nat → Prop) (F : Fence) (n : Nat) (h7 : F.fn 110) (hro : F.round = none) (hn : 1 ≤ n) (l B C n₀ db lb : Nat) (H : W4) (A : Option Addr) (c : Nat) (fs : List Fr) (m : Nat) (hm : m ≤ fs.length)
  (J Jx : List Nat → World → Prop)
  (hY : ∀ pre (x : Nat) W, J pre W → pre.length < m → YieldAt F (n - 1) Tryz.prog l (encF fs m x) W fun e W' =>
   (e = .returned (.bool true) ∧ J (pre ++ [x]) W' ∧ KX X n₀ W W') ∨ (e = .returned (.bool false) ∧ Jx (pre ++ [x]) W'))
  (hXl : ¬ X lb) (hXB : ¬ X B) (hXC : ¬ X C) (hXf : ∀ g, A = some ⟨g, 0, none⟩ → ¬ X g) (w W : World) (hw : w.heap.size = n₀) (hL : LgS w db lb H A c fs) (hB : Blk w B 3 #[.int .i64 (m : Int)]) (hC : Blk w C 73 #[.pointer (some ⟨lb, 0, none⟩)]) (hBel : KX X n₀ w W) (h0 : J [] W) :
  CallsIn F n Tryz.prog 110 #[.func (.yield l) #[] #[], .pointer (some ⟨B, 0, none⟩), .pointer (some ⟨C, 0, none⟩)] W fun e W' => (∃ v, e = .returned v) ∧
   ((∃ ys, ys = List.range m ∧ J ys W') ∨ (∃ pre, (∃ k, k ≤ m ∧ pre = List.range k) ∧ Jx pre W')) := by
 subst hw
 have HL := zh hL
 have HB := zh hB
 have HC := zh hC
 have hlen := hL.len
 have c1 : W.cell? ⟨B, 0, none⟩ = some (.int .i64 (m : Int)) := (hB.keepX hBel hXB).cell 0
 have hw1 : IntKind.i64.wrap ((m : Int) - 1) = (m : Int) - 1 := by rw [IntKind.wrap_i64]; omega
 clear hL hB hC
 refine callsIn_of_wp Tryz.func110 rfl h7 ?_ hro
 simp only [Tryz.ntmps110, List.size_toArray, List.length_cons, List.length_nil, Nat.reduceAdd, Nat.reduceSub, Array.replicate_succ, Array.replicate_zero, List.push_toArray, List.append_toArray, List.nil_append, List.cons_append]
 gi_wp2
 gi_loopw [4] (fun i wr => ∃ k : Nat, k ≤ m ∧ i = .int .i64 ((m : Int) - 1 - (k : Int)) ∧ J (List.range k) wr ∧ KX X w.heap.size w wr)
  (fun i _ => (intOf i + 1).toNat)
 case atStart => exact ⟨0, Nat.zero_le _, by simp, h0, hBel⟩
 case round =>
  obtain ⟨k, hk, rfl, hJs, hnx⟩ := hrel
  by_cases hlt : k < m
  ·have hl2 := HL.out.keepX hnx hXl hXf
   have c0 : wr.cell? ⟨C, 0, none⟩ = some (.pointer (some ⟨lb, 0, none⟩)) := (HC.out.keepX hnx hXC).cell 0
   have c5 := hl2.cl.2
   obtain ⟨q, hq⟩ : ∃ q : Nat, m - 1 - k = q := ⟨_, rfl⟩
   have hqi : (m : Int) - 1 - (k : Int) = (q : Int) := by omega
   rw [hqi]
   have hql : q < fs.length := by omega
   obtain ⟨g, hA, hth, hrd⟩ := hl2.row q hql
   subst hA
   obtain ⟨fn, tmps, assign, body, hy, hR⟩ := hY _ k wr hJs (by rw [List.length_range]; exact hlt)
   unfold encF at hy
   rw [hq] at hy
   obtain ⟨fv, hfv⟩ : ∃ fv, (frL (fs.getD q ⟨0, 0, []⟩)).toArray = fv := ⟨_, rfl⟩
   rw [hfv] at hrd hy
   clear hl2 hql
   gi_wp2
   refine hR.mono ?_
   rintro e W3 (⟨rfl, hJ3, hk3⟩ | ⟨rfl, hJx3⟩)
   ·have hw2 : IntKind.i64.wrap ((q : Int) - 1) = (q : Int) - 1 := by rw [IntKind.wrap_i64]; omega
    gi_wp2
    go_roundw
    case rel => exact ⟨k + 1, by omega, by first | (congr 1; done) | (congr 1; omega), by rw [List.range_succ]; exact hJ3, hnx.trans hk3⟩
    case measure => first | (simp [intOf]; done) | (simp [intOf]; omega)
   ·gi_wp2
    refine bodyPost_ret (results_none rfl _ _ _) rfl ?_
    exact ⟨⟨_, rfl⟩, .inr ⟨_, ⟨k + 1, by omega, by rw [List.range_succ]⟩, hJx3⟩⟩
  ·obtain rfl : k = m := by omega
   have hqi : (k : Int) - 1 - (k : Int) = -1 := by omega
   rw [hqi]
   gi_wp2
   go_end0
   exact ⟨⟨_, rfl⟩, .inl ⟨_, rfl, hJs⟩⟩
theorem up_stopsX (X : Nat → Prop) (F : Fence) (n : Nat) (h7 : F.fn 110) (hro : F.round = none) (hn : 1 ≤ n) (B C db lb : Nat) (H : W4) (A : Option Addr) (c : Nat) (fs : List Fr) (m : Nat) (hm : m ≤ fs.length) (hXl : ¬ X lb) (hXB : ¬ X B) (hXC : ¬ X C) (hXf : ∀ g, A = some ⟨g, 0, none⟩ → ¬ X g) (w : World) (hL : LgS w db lb H A c fs) (hB : Blk w B 3 #[.int .i64 (m : Int)]) (hC : Blk w C 73 #[.pointer (some ⟨lb, 0, none⟩)]) :
  SeqStopsK F n Tryz.prog 110 #[.pointer (some ⟨B, 0, none⟩), .pointer (some ⟨C, 0, none⟩)] (encF fs m) (KX X w.heap.size) (fun ys => ys = List.range m)
   (fun pre => ∃ k, k ≤ m ∧ pre = List.range k) m w := fun l J Jx W hW _ _ hY h0 =>
 up1_inX X F n h7 hro hn l B C w.heap.size db lb H A c fs m hm J Jx hY hXl hXB hXC hXf w W rfl hL hB hC ⟨hW.size, fun i hi _ => hW.block i hi⟩ h0
end
section
open Go.Shelf
def laySortP_ren : Go.Shelf.Ren := ⟨fun | 6 => 100 | 15 => 115 | 14 => 114 | 28 => 125 | 29 => 126 | 20 => 117 | 21 => 118 | 22 => 119 | 23 => 120 | 24 => 121 | 25 => 122 | 26 => 123 | 27 => 124 | 46 => 127 | 47 => 128 | 48 => 129 | 49 => 130 | 50 => 131 | 57 => 132 | n => n, fun | 22 => 31 | 24 => 49 | 25 => 167 | 3 => 3 | 39 => 177 | 0 => 0 | 53 => 78 | 55 => 192 | 4 => 4 | 46 => 184 | 45 => 183 | 50 => 188 | 5 => 5 | 9 => 9 | 66 => 193 | 70 => 197 | 76 => 199 | 77 => 200 | n => n, fun | n => n⟩
theorem laySortP : Go.Proofs.SlLaysF0.n6 Tryz.prog laySortP_ren := {
 mixed := by kernel_rfl
 f6 := ⟨Tryz.f100.name, by decide, Tryz.func100.trans (congrArg some (by kernel_rfl))⟩
 f14 := ⟨Tryz.f114.name, by decide, Tryz.func114.trans (congrArg some (by kernel_rfl))⟩
 f15 := Tryz.func115.trans (congrArg some (by kernel_rfl))
 f20 := ⟨Tryz.f117.name, by decide, Tryz.func117.trans (congrArg some (by kernel_rfl))⟩
 f21 := ⟨Tryz.f118.name, by decide, Tryz.func118.trans (congrArg some (by kernel_rfl))⟩
 f22 := ⟨Tryz.f119.name, by decide, Tryz.func119.trans (congrArg some (by kernel_rfl))⟩
 f23 := ⟨Tryz.f120.name, by decide, Tryz.func120.trans (congrArg some (by kernel_rfl))⟩
 f24 := ⟨Tryz.f121.name, by decide, Tryz.func121.trans (congrArg some (by kernel_rfl))⟩
 f25 := ⟨Tryz.f122.name, by decide, Tryz.func122.trans (congrArg some (by kernel_rfl))⟩
 f26 := ⟨Tryz.f123.name, by decide, Tryz.func123.trans (congrArg some (by kernel_rfl))⟩
 f27 := ⟨Tryz.f124.name, by decide, Tryz.func124.trans (congrArg some (by kernel_rfl))⟩
 f28 := Tryz.func125.trans (congrArg some (by kernel_rfl))
 f29 := Tryz.func126.trans (congrArg some (by kernel_rfl))
 f46 := ⟨Tryz.f127.name, by decide, Tryz.func127.trans (congrArg some (by kernel_rfl))⟩
 f47 := Tryz.func128.trans (congrArg some (by kernel_rfl))
 f48 := Tryz.func129.trans (congrArg some (by kernel_rfl))
 f49 := ⟨Tryz.f130.name, by decide, Tryz.func130.trans (congrArg some (by kernel_rfl))⟩
 f50 := ⟨Tryz.f131.name, by decide, Tryz.func131.trans (congrArg some (by kernel_rfl))⟩
 f57 := ⟨Tryz.f132.name, by decide, Tryz.func132.trans (congrArg some (by kernel_rfl))⟩
 t0 := Tryz.underlying0
 a0 := Tryz.isAgg0
 z0 := Tryz.sizeOf0
 v0 := Tryz.zeroValue0
 t3 := Tryz.underlying3
 a3 := Tryz.isAgg3
 z3 := Tryz.sizeOf3
 v3 := Tryz.zeroValue3
 t4 := Tryz.underlying4
 a4 := Tryz.isAgg4
 z4 := Tryz.sizeOf4
 v4 := Tryz.zeroValue4
 t5 := Tryz.underlying5
 a5 := Tryz.isAgg5
 z5 := Tryz.sizeOf5
 v5 := Tryz.zeroValue5
 t9 := Tryz.underlying9
 a9 := Tryz.isAgg9
 z9 := Tryz.sizeOf9
 v9 := Tryz.zeroValue9
 t22 := Tryz.underlying31
 a22 := Tryz.isAgg31
 z22 := Tryz.sizeOf31
 v22 := Tryz.zeroValue31
 t25 := Tryz.underlying167
 a25 := Tryz.isAgg167
 z25 := Tryz.sizeOf167
 v25 := Tryz.zeroValue167
 t39 := Tryz.underlying177
 a39 := Tryz.isAgg177
 z39 := Tryz.sizeOf177
 v39 := Tryz.zeroValue177
 t45 := Tryz.underlying183
 a45 := Tryz.isAgg183
 z45 := Tryz.sizeOf183
 v45 := Tryz.zeroValue183
 t46 := Tryz.underlying184
 a46 := Tryz.isAgg184
 z46 := Tryz.sizeOf184
 v46 := Tryz.zeroValue184
 t50 := Tryz.underlying188
 a50 := Tryz.isAgg188
 z50 := Tryz.sizeOf188
 v50 := Tryz.zeroValue188
 t53 := Tryz.underlying78
 a53 := Tryz.isAgg78
 z53 := Tryz.sizeOf78
 v53 := Tryz.zeroValue78
 t55 := Tryz.underlying192
 a55 := Tryz.isAgg192
 z55 := Tryz.sizeOf192
 v55 := Tryz.zeroValue192
 t66 := Tryz.underlying193
 a66 := Tryz.isAgg193
 z66 := Tryz.sizeOf193
 v66 := Tryz.zeroValue193
 t70 := Tryz.underlying197
 a70 := Tryz.isAgg197
 z70 := Tryz.sizeOf197
 v70 := Tryz.zeroValue197
 t76 := Tryz.underlying199
 a76 := Tryz.isAgg199
 z76 := Tryz.sizeOf199
 v76 := Tryz.zeroValue199
 t77 := Tryz.underlying200
 a77 := Tryz.isAgg200
 z77 := Tryz.sizeOf200
 v77 := Tryz.zeroValue200 }
end
section
open Go.RowKit Go.Lib Go.Sort
abbrev PgE := {x : Pg // x.b.length = 256 ∧ 0 ≤ x.n ∧ x.n ≤ 4096}
instance : Inhabited PgE := ⟨⟨⟨0, zeros 256⟩, List.length_replicate .., by decide, by decide⟩⟩
def encPg (x : PgE) : List Value := pgL x.1
def cfPg (x y : PgE) : Int := x.1.n - y.1.n
theorem encPg_len (x : PgE) : (encPg x).length = 257 := by
 unfold encPg pgL
 rw [List.length_cons, List.length_map, x.2.1]
theorem encPg_one (x : PgE) : ∀ v ∈ encPg x, v.oneCell' = true := by
 intro v hv
 rcases List.mem_cons.1 hv with rfl | hv
 ·rfl
 ·exact u8_one _ v hv
theorem swoPg : Sort.SWO (ltOf cfPg) where
 irrefl x := by unfold ltOf cfPg; exact decide_eq_false (by omega)
 trans x y z h1 h2 := by
  unfold ltOf cfPg at *
  have := of_decide_eq_true h1
  have := of_decide_eq_true h2
  exact decide_eq_true (by omega)
 ntrans x y z h1 h2 := by
  unfold ltOf cfPg at *
  have := of_decide_eq_false h1
  have := of_decide_eq_false h2
  exact decide_eq_false (by omega)
theorem flatMap_get {α : Type} [Inhabited α] (enc : α → List Value) (k : Nat) (hk : ∀ x, (enc x).length = k) (k0 : 0 < k) : ∀ (l : List α) (t : Nat), t < l.length * k → (l.flatMap enc)[t]? = (enc l[t / k]!)[t % k]?
 | [], t, h => by simp at h
 | x :: r, t, h => by
  rw [List.flatMap_cons]
  by_cases ht : t < k
  ·rw [List.getElem?_append_left (by rw [hk]; exact ht), Nat.div_eq_of_lt ht, Nat.mod_eq_of_lt ht]
   rfl
  ·rw [List.length_cons, Nat.succ_mul] at h
   rw [List.getElem?_append_right (by rw [hk]; omega), hk, flatMap_get enc k hk k0 r (t - k) (by omega)]
   have e1 : t / k = (t - k) / k + 1 := by
    have := Nat.div_eq_sub_div k0 (show k ≤ t by omega)
    omega
   have e2 : t % k = (t - k) % k := Nat.mod_eq_sub_mod (by omega)
   rw [e1, e2]
   rfl
theorem flatK_list {α : Type} [Inhabited α] (enc : α → List Value) (k : Nat) (hk : ∀ x, (enc x).length = k) (k0 : 0 < k) (d : Array α) : (flatK enc k d).toList = d.toList.flatMap enc := by
 have hl : (d.toList.flatMap enc).length = d.size * k := by
  rw [List.length_flatMap]
  have : d.toList.map (fun a => (enc a).length) = List.replicate d.size k := by
   rw [List.eq_replicate_iff]
   exact ⟨by simp, fun b hb => by obtain ⟨x, _, rfl⟩ := List.mem_map.1 hb; exact hk x⟩
  rw [this, List.sum_replicate_nat]
 apply List.ext_getElem?
 intro t
 by_cases h : t < d.size * k
 ·rw [flatMap_get enc k hk k0 _ t (by simpa using h), Array.getElem?_toList, Array.getElem?_eq_getElem (by simpa using h)]
  have h1 := get_flatK enc k d t h
  rw [getElem!_pos (flatK enc k d) t (by simpa using h)] at h1
  have hq : t / k < d.size := Nat.div_lt_of_lt_mul (by rw [Nat.mul_comm]; exact h)
  have h3 : d.toList[t / k]! = d[t / k]! := by rw [getElem!_pos d.toList (t / k) (by simpa using hq), getElem!_pos d (t / k) hq, Array.getElem_toList]
  rw [h1, h3]
  have h4 : t % k < (enc d[t / k]!).length := by rw [hk]; exact Nat.mod_lt _ k0
  rw [getElem!_pos (enc d[t / k]!) (t % k) h4, List.getElem?_eq_getElem h4]
 ·rw [List.getElem?_eq_none (by simpa using h), List.getElem?_eq_none (by rw [hl]; omega)]
set_option maxRecDepth 100000 in
theorem cmp_q (W : World) (x y : PgE) : Calls Tryz.prog 101 #[.agg (encPg x).toArray, .agg (encPg y).toArray] W fun e w' => e = .returned (.int .i64 (cfPg x y)) ∧ w' = (W.alloc (.cells (encPg x).toArray 49)).alloc (.cells (encPg y).toArray 49) := by
 have hx := x.2.2
 have hy := y.2.2
 have c0 : ((W.alloc (.cells (encPg x).toArray 49)).alloc (.cells (encPg y).toArray 49)).cell? ⟨W.heap.size, 0, none⟩ = some (.int .i64 x.1.n) := by
  rw [((Blk.new W 49 (encPg x).toArray).alloc _).cell]; rfl
 have c1 : ((W.alloc (.cells (encPg x).toArray 49)).alloc (.cells (encPg y).toArray 49)).cell? ⟨W.heap.size + 1, 0, none⟩ = some (.int .i64 y.1.n) := by
  rw [(Blk.newAt (W.alloc (.cells (encPg x).toArray 49)) 49 (encPg y).toArray (W.heap.size + 1) (by simp)).cell]; rfl
 obtain ⟨CX, hCX⟩ : ∃ CX, (encPg x).toArray = CX := ⟨_, rfl⟩
 obtain ⟨CY, hCY⟩ : ∃ CY, (encPg y).toArray = CY := ⟨_, rfl⟩
 rw [hCX, hCY] at c0 c1 ⊢
 have hcf : cfPg x y = x.1.n - y.1.n := rfl
 rw [hcf]
 generalize x.1.n = a at *
 generalize y.1.n = b at *
 have hw : IntKind.i64.wrap (a - b) = a - b := by rw [IntKind.wrap_i64]; omega
 clear hCX hCY hcf
 go_enter Tryz.func101, Tryz.ntmps101
 go_wp2_with fail
 go_ret
 exact ⟨rfl, rfl⟩
theorem grow_kp {S : Nat → Prop} {a w : World} (h : Kp S a w) (os : Array Obj) : Kp S a (Sort.grow w os) :=
 ⟨h.os, h.tape, h.output, by have := h.size; unfold Sort.grow; simp; omega, fun i hi hn => by
  have h1 := h.block i hi hn
  have h2 := h.size
  rw [← h1]
  show (w.heap ++ os)[i]? = _
  rw [Array.getElem?_append_left (by omega)]⟩
theorem sort_pgs (w : World) (base : Nat) (A : Option Addr) (n cap : Nat) (l : List Pg) (hn : l.length = n) (hown : w.ownsRow base 49 257 (.slice A n cap) n (pgsCells l)) (hl : n < 4611686018427387904) (hok : ∀ x ∈ l, x.b.length = 256 ∧ 0 ≤ x.n ∧ x.n ≤ 4096) :
  Calls Tryz.prog 100 #[.slice A n cap, .func (.func 101) #[] #[]] w fun e w' => e = .returned (.tuple #[]) ∧ ∃ l', l'.Perm l ∧ (l'.Pairwise fun a b => ¬ b.n < a.n) ∧ w'.ownsRow base 49 257 (.slice A n cap) n (pgsCells l') ∧ Kp (fun b => (Value.slice A n cap).ownBlock = some b) w w' := by
 subst hn
 by_cases h0 : l = []
 ·subst h0
  have h := AnyF.slices_SortFunc_none laySortP A cap (.func (.func 101) #[] #[]) w
  refine (show Calls Tryz.prog 100 _ w _ from h).mono ?_
  rintro e w' ⟨rfl, rfl⟩
  exact ⟨rfl, [], List.Perm.nil, List.Pairwise.nil, hown, Kp.refl _ _⟩
 ·have hpos : 0 < l.length := List.length_pos_iff.2 h0
  obtain ⟨hlen, hor⟩ := hown
  rcases hor with ⟨_, q⟩ | ⟨g, cap', cur, hv, hb, hg, h1, h2, h3, h4⟩
  ·omega
  ·injection hv with e1 e2 e3
   subst e1 e3
   obtain ⟨d, hd⟩ : ∃ d : List PgE, d.map (·.1) = l := ⟨l.pmap Subtype.mk hok, by rw [List.map_pmap]; simp⟩
   have hdl : d.length = l.length := by rw [← hd, List.length_map]
   have hfm : ∀ e : List PgE, e.flatMap encPg = pgsCells (e.map (·.1)) := fun e => by
    unfold pgsCells encPg
    rw [List.flatMap_map]
   have hcells : (flatK encPg 257 d.toArray).toList = pgsCells l := by
    rw [flatK_list encPg 257 encPg_len (by omega), ← hd, ← hfm]
   have hsz : (flatK encPg 257 d.toArray).size = l.length * 257 := by rw [size_flatK]; simp [hdl]
   have hblk : Blk w g 49 cur := hg
   have hH : Sort.HoldsK encPg 257 w g 0 d.toArray := fun j hj => by
    refine ⟨?_, hblk.frozen _⟩
    have hj' : j < l.length * 257 := by rw [← hsz]; exact hj
    have h5 : (cur.toList.take (l.length * 257))[j]? = (pgsCells l)[j]? := by rw [h4]
    rw [List.getElem?_take, if_pos hj', Array.getElem?_toList] at h5
    rw [Nat.zero_add, hblk.cell, h5, ← hcells, Array.getElem?_toList, getElem!_pos _ j hj, Array.getElem?_eq_getElem hj]
    rfl
   have eg : ∀ args w, (callFunc 101 args).run Tryz.prog w = .ok (.enter 101 args) w := enters_of Tryz.func101 (by kernel_rfl) rfl
   have hcr : CmpLays Tryz.prog 101 #[] encPg 257 cfPg g 0 d.toArray.size w := fun m os dk hs x y => by
    refine (cmp_q (sortWorldK encPg 257 w g 0 m dk os) x y).mono ?_
    rintro e w' ⟨rfl, rfl⟩
    refine ⟨rfl, 0, #[.cells (encPg x).toArray 49, .cells (encPg y).toArray 49], ?_⟩
    rw [alloc_eq_grow, alloc_eq_grow, grow_grow]
    rfl
   have h := AnyQ.slices_SortFunc laySortP 257 Tryz.isAgg49 Tryz.sizeOf49 encPg encPg_len encPg_one cfPg swoPg 101 #[] g 0 cap d.toArray w eg hcr hH hblk.lt (by simpa [hdl] using hl)
   rw [show d.toArray.size = l.length by simp [hdl]] at h
   refine (show Calls Tryz.prog 100 #[.slice (some ⟨g, 0, none⟩) l.length cap, .func (.func 101) #[] #[]] w _ from h).mono ?_
   rintro e w' ⟨rfl, d', m, os, hp, hso, rfl⟩
   have hs' : d'.size = l.length := by rw [hp.1]; simp [hdl]
   have hperm : d'.toList.Perm d := by
    have h5 := hp.2.2
    rw [Array.toList_extract, Array.toList_extract] at h5
    simpa [hs', hdl, List.extract, List.take_of_length_le] using h5
   refine ⟨rfl, d'.toList.map (·.1), by rw [← hd]; exact hperm.map _, ?_, ?_, ?_⟩
   ·rw [List.pairwise_map, List.pairwise_iff_getElem]
    intro i j hi hj hij
    have h5 := hso i j (Nat.zero_le _) hij (by rw [← hs']; simpa using hj)
    rw [getElem!_pos d' i (by simpa using hi), getElem!_pos d' j (by simpa using hj)] at h5
    unfold ltOf cfPg at h5
    have h6 := of_decide_eq_false h5
    simp only [Array.getElem_toList]
    omega
   ·have hfl : (flatK encPg 257 d').toList = pgsCells (d'.toList.map (·.1)) := by rw [flatK_list encPg 257 encPg_len (by omega), hfm]
    have hsl : (pgsCells (d'.toList.map (·.1))).length = l.length * 257 := by rw [← hfl, Array.length_toList, size_flatK, hs']
    have hw : sortWorldK encPg 257 w g 0 m d' os = Sort.grow ((w.drewN m).setCells g 0 ((flatK encPg 257 d').toList.map id)) os := Lib.sorted_world id w g 0 m (flatK encPg 257 d.toArray) (flatK encPg 257 d').toList os hH (by rw [Array.length_toList, size_flatK, hs', hsz])
    rw [hw, List.map_id, hfl]
    have hc0 : cur = (pgsCells l ++ cur.toList.drop (l.length * 257)).toArray := by rw [← h4, List.take_append_drop]
    have hpl : (pgsCells l).length = l.length * 257 := by rw [← hcells, Array.length_toList, hsz]
    have hb2 : Blk (w.drewN m) g 49 ([] ++ pgsCells l ++ cur.toList.drop (l.length * 257)).toArray := by rw [List.nil_append, ← hc0]; exact hblk
    have hb3 := Blk.cellsL (xs := pgsCells (d'.toList.map (·.1))) hb2 0 rfl (by rw [hsl, hpl])
    refine ⟨hsl, .inr ⟨g, cap, _, rfl, hb, hb3.keep (grow_kp (Kp.refl NoB _) os) (fun q => q), h1, h2, ?_, ?_⟩⟩
    ·simp only [List.size_toArray, List.length_append, hsl, List.nil_append, List.length_drop, Array.length_toList]
     omega
    ·simp only [List.nil_append]
     rw [List.take_append_of_le_length (by rw [hsl]; exact Nat.le_refl _), List.take_of_length_le (by rw [hsl]; exact Nat.le_refl _)]
   ·have hfl : (flatK encPg 257 d').toList = pgsCells (d'.toList.map (·.1)) := by rw [flatK_list encPg 257 encPg_len (by omega), hfm]
    have hw : sortWorldK encPg 257 w g 0 m d' os = Sort.grow ((w.drewN m).setCells g 0 ((flatK encPg 257 d').toList.map id)) os := Lib.sorted_world id w g 0 m (flatK encPg 257 d.toArray) (flatK encPg 257 d').toList os hH (by rw [Array.length_toList, size_flatK, hs', hsz])
    rw [hw]
    exact grow_kp (Kp.setCells (S := fun b => (Value.slice (some ⟨g, 0, none⟩) l.length cap).ownBlock = some b) (g := g) (.inr rfl) _ _ _ ((Kp.refl _ w).drewN m)) os
end
end Go.Proofs.YtegcbdfilkecpaaGreat
