/- Texts of this proof, one behind the other: lemmas and contracts; each says its own conditions. -/
import Derived.Test.YtegcbdfilkecpaaM1
import Derived.Test.YtegcbdfilkecpaaM4
import Derived.Test.YtegcbdfilkecpaaM6
import Derived.Test.YtegcbdfilkecpaaM7
import Derived.ProofKit
import Derived.OpenShut
import Derived.ShutString
import Derived.ChangeOld
import Derived.Deep.Slices
import Derived.Deep.Fields
import Derived.ChangeSame
import Derived.Test.YtegcbdfilkecpaaRows
import Derived.SliceStrings
import Derived.DataShut
/- The journal: the answers that every law asks at its end; no condition. -/
namespace Go.Proofs.Ytegcbdfilkecpaa
open Go.RowKit

attribute [local go_sem ↓] load26 store26 alloc26 build26
def fullL (b : Int) : List Int := List.replicate 256 b
def upF (b : Int) (n : Nat) : List Int := List.replicate n b ++ zeros (256 - n)
theorem upF_set (b : Int) (n : Nat) (hn : n < 256) : (upF b n).set n b = upF b (n + 1) := by
  unfold upF zeros
  rw [List.set_append_right _ _ (by rw [List.length_replicate]; omega), List.length_replicate, Nat.sub_self, show 256 - n = (256 - (n + 1)) + 1 by omega, List.replicate_succ, List.set_cons_zero, List.replicate_succ', List.append_assoc]
  rfl
theorem upF_at (b : Int) (n : Nat) (hn : n < 256) : (upF b n)[n]? = some 0 := by
  unfold upF zeros
  rw [List.getElem?_append_right (by rw [List.length_replicate]; omega), List.length_replicate, Nat.sub_self, show 256 - n = (256 - (n + 1)) + 1 by omega, List.replicate_succ]
  rfl
theorem upF_all (b : Int) : upF b 256 = fullL b := by
  unfold upF zeros fullL
  rw [Nat.sub_self, List.replicate_zero, List.append_nil]
structure FuS (w : World) (b : Int) (n : Nat) (W : World) : Prop where
  kp : Kp NoB w W
  b1 : Blk W w.heap.size 24 zero256
  b2 : Blk W (w.heap.size + 1) 24 (bytesV (upF b n))
def aw2L : List Pg := [⟨1, fullL 1⟩, ⟨2, fullL 2⟩]
theorem slicePg2 (w : World) (a b : Array Value) (ha : a.size = 257) (hb : b.size = 257) : (Instr.buildSlice 22 2 #[(0, .agg a), (1, .agg b)]).run Try.prog w = .ok (.slice (some ⟨w.heap.size, 0, none⟩) 2 2) (w.alloc (.cells (a ++ b) 113)) := by
  obtain ⟨i, hi, h0, h1, h2⟩ := info_parts infoPgA
  have hu := Try.underlying22
  have ca : (Value.agg a).cells = a := rfl
  have cb : (Value.agg b).cells = b := rfl
  have hf : ∀ Z : Array Value, Z.size = 514 → Instr.fill (fun i => some (i * 257, 257)) Z [(0, .agg a), (1, .agg b)] = some (a ++ b) := fun Z hZ => by
    have := Go.Great.fill_whole (s := 257) (by omega) [.agg a, .agg b] Z (by simp [ca, cb, ha, hb]) (by simp [hZ])
    have h := this
    simp only [List.zipIdx_cons, List.zipIdx_nil, List.map_cons, List.map_nil, List.flatMap_cons, List.flatMap_nil, ca, cb, List.append_nil] at h
    rw [show a ++ b = (a.toList ++ b.toList).toArray by simp]
    exact h
  simp [Instr.buildSlice, run_underlying hu, sizeOf, typeInfo, hi, h1, zeroPg, newRow, newObj]
  rw [hf _ (by simp)]
  rfl
theorem exSlicePg2 (w : World) (ev : Operand → Value) (x y : Operand) (a b : Array Value) (ds : Option Tmp) (ty : TypeId) (ps : String) (af : Array Edge) (g : Option (Nat × Bool)) (hx : ev x = .agg a) (hy : ev y = .agg b) (ha : a.size = 257) (hb : b.size = 257) :
    (execOp ev ⟨ds, .buildSlice 22 2 #[(0, x), (1, y)], ty, ps, af, g⟩).run Try.prog w = .ok (.value (.slice (some ⟨w.heap.size, 0, none⟩) 2 2)) (w.alloc (.cells (a ++ b) 113)) := by
  simp only [execOp, List.map_toArray, List.map_cons, List.map_nil, hx, hy, Sem.run_bind, slicePg2 w a b ha hb, Result.andThen_ok]
  rfl
theorem full_rng (b : Int) (hb : 0 ≤ b ∧ b < 256) : ∀ y ∈ fullL b, 0 ≤ y ∧ y < 256 := fun y hy => by
  have := List.eq_of_mem_replicate hy
  omega
theorem pgs_blk {w : World} {g n : Nat} {t : TypeId} {l : List Pg} (h : Blk w g t (pgsCells l).toArray) (hn : l.length = n) (hok : ∀ x ∈ l, PgOk x) : PgsAt w (some ⟨g, 0, none⟩) n l := by
  subst hn
  have hfl : pgsCells l = (l.map pgL).flatten := by unfold pgsCells; rw [List.flatMap_def]
  have hx : ∀ x ∈ l.map pgL, x.length = 257 := fun x hx => by
    obtain ⟨y, hy, rfl⟩ := List.mem_map.1 hx
    exact pgL_len (hok y hy)
  have hlen := flat_len 257 (l.map pgL) hx
  refine ⟨by simp, hx, fun hn => ⟨g, 0, rfl, h.lt, fun k hk j hj => ⟨?_, h.frozen _⟩⟩⟩
  rw [h.cell, List.getElem?_toArray, hfl, Nat.zero_add]
  exact flat_at 257 (l.map pgL) hx k j hj hk
theorem blk_rg8 {w : World} {g : Nat} {t : TypeId} {l : List Int} (h : Blk w g t (bytesV l)) : w.rangeAt g 0 (l.map (Value.int .u8)) :=
  Blk.range (xa := []) (xb := l.map (Value.int .u8)) (xd := []) (by unfold bytesV at h; simpa using h) 0 rfl
theorem eqTrue (w : World) (ev : Operand → Value) (ds : Option Tmp) {x y : Operand} {l : List Int} {yt : TypeId} (ty : TypeId) (ps : String) {af : Array Edge} {g : Option (Nat × Bool)} (hx : ev x = .agg (l.map (Value.int .u8)).toArray) (hy : ev y = .agg (bytesV l)) (hl : l.length = 256) :
    (execOp ev ⟨ds, .binOp .eql 24 x y yt, ty, ps, af, g⟩).run Try.prog w = .ok (.value (.bool true)) w := by
  have := eql26 w ev ds x y yt ty ps af g (by rw [hx]; exact pgOK_bytes l hl) (by rw [hy]; exact pgOK_bytes l hl)
  rw [this, hx, hy]
  have e : (l.map (Value.int .u8)).toArray = bytesV l := rfl
  rw [e, valEq_self]
theorem wpList_val {P : Program} {ops : Array Oper} {rest : List Oper} {ds : Option Tmp} {op : Op} {ty : TypeId} {ps : String} {af : Array Edge} {a : Act} {w w' : World} {Q : Exit → Act → World → Prop} (v : Value) (hr : (execOp a.eval ⟨ds, op, ty, ps, af, none⟩).run P w = .ok (.value v) w')
    (h : wpList P ops Q rest (a.put ds v) w') : wpList P ops Q (⟨ds, op, ty, ps, af, none⟩ :: rest) a w := wpList_plain rfl fun K hK => by
  unfold Oper.wp
  rw [hr, Oper.upon_value]
  exact hK _ _ h
attribute [local go_sem ↓] eql26
end Go.Proofs.Ytegcbdfilkecpaa
/- The log: the answers that every law asks at its end; no condition. -/
namespace Go.Proofs.Ytegcbdfilkecpaa
open Go.RowKit

attribute [local go_sem ↓] load26 store26 alloc26 build26
set_option maxRecDepth 100000 in
set_option maxHeartbeats 800000 in
theorem wfull_ok (w : World) (b : Int) : Calls Try.prog 93 #[.int .u8 b] w fun e w' => e = .returned (.agg (bytesV (fullL b))) ∧ Kp NoB w w' := by
  have HST : Hid (FuS w b 0 ((w.alloc (.cells zero256 24)).alloc (.cells zero256 24))) := Lib.hid ⟨((Kp.refl _ _).alloc _).alloc _, (Blk.new _ _ _).alloc _, Blk.newAt _ _ _ _ (by simp)⟩
  go_enter Try.func93, Try.ntmps93
  go_wp2_with fail
  refine forget (p := fun wx => Code.wp _ _ _ _ wx) (FuS w b 0) HST.out ?_
  intro W hW
  have HW := Lib.hid hW
  clear hW HST
  go_loopw [4] (fun v wr => ∃ i : Nat, i ≤ 256 ∧ v = .int .i64 i ∧ FuS w b i wr) (fun v _ => 256 - (intOf v).toNat)
  case atStart => exact ⟨0, by omega, rfl, HW.out⟩
  case round =>
    obtain ⟨i, hi, rfl, hs⟩ := hrel
    have HS := Lib.hid hs
    by_cases hlt : i < 256
    · have hii : (i : Int) < 256 := by omega
      have c2 : wr.cell? ⟨w.heap.size + 1, i, none⟩ = some (.int .u8 0) := by
        rw [hs.b2.cell]
        unfold bytesV
        rw [List.getElem?_toArray, List.getElem?_map, upF_at _ _ hlt]
        rfl
      have z2 : wr.frozen? ⟨w.heap.size + 1, i, none⟩ = false := hs.b2.frozen i
      clear hs
      go_wp2_with fail
      refine ⟨⟨i + 1, by omega, by congr 1, ?_⟩, by simp [intOf]; omega⟩
      have h := HS.out
      refine ⟨h.kp.setCell (p := ⟨w.heap.size + 1, i, none⟩) (.inl (by show _ ≤ w.heap.size + 1; omega)) _, h.b1.far (p := ⟨w.heap.size + 1, i, none⟩) (by simp) _, ?_⟩
      have := h.b2.set_ i (.int .u8 b)
      rwa [bytesV_setJ, upF_set _ _ hlt] at this
    · have hii : ¬ (i : Int) < 256 := by omega
      obtain rfl : i = 256 := by omega
      have b2 := hs.b2
      rw [upF_all] at b2
      have sl : (fullL b).length = 256 := List.length_replicate ..
      have t1 : wr.there (w.heap.size + 1) 0 256 := b2.thereAll 256 (by rw [bytesV_size, sl])
      have r1 : readRow wr (w.heap.size + 1) 0 256 = bytesV (fullL b) := b2.readAll 256 (by rw [bytesV_size, sl])
      have t2 : wr.there w.heap.size 0 256 := hs.b1.thereAll 256 (by rw [zero256_eq, bytesV_size]; rfl)
      have o1 := bytesV_one (fullL b)
      have s1 : (bytesV (fullL b)).size = 256 := by rw [bytesV_size, sl]
      obtain ⟨RR, hRR⟩ : ∃ RR, bytesV (fullL b) = RR := ⟨_, rfl⟩
      rw [hRR] at r1 o1 s1
      have HRR := Lib.hid hRR
      have S1 := Lib.hid s1
      clear hs b2 sl hRR
      go_wp2_with fail
      refine bodyPost_ret (ret_cell1 rfl _ _ _ _ _ _ rfl (HS.out.b1.whole RR (by rw [S1.out, zero256_eq, bytesV_size]; rfl)) Try.underlying24 rfl (by rw [S1.out]; exact info26)) rfl ⟨by rw [HRR.out], ?_⟩
      exact Kp.setCells (.inl (by omega)) _ _ _ HS.out.kp
def aw3L : List Pg := [⟨1, fullL 3⟩]
def awQ1 : Pl × Int × Int := (Pl.new 5000).wcommit 2 aw2L
def awQ2 : Pl × Int × Int := awQ1.1.wcommit 2 aw3L
set_option maxRecDepth 100000 in
theorem wawE : awQ1.2.1 = 2 ∧ awQ1.2.2 = 0 ∧ awQ2.2.1 = 3 ∧ awQ2.2.2 = 0 ∧ awQ2.1.wpg 2 1 = (fullL 1, 0) ∧ awQ2.1.wpg 1 1 = (zeros 256, 4) ∧ (Pl.new 5000).nf = 0 ∧ (Pl.new 5000).pd.length = 0 ∧ decide (awQ1.1.nf ≤ 1000) = true ∧ decide (awQ1.1.pd.length ≤ 1000) = true := by
  refine ⟨?_, ?_, ?_, ?_, ?_, ?_, ?_, ?_, ?_, ?_⟩ <;> kernel_rfl
attribute [local go_sem ↓] eql26
set_option maxRecDepth 100000 in
set_option maxHeartbeats 1600000 in
theorem wawake_ok (w : World) : Calls Try.prog 36 #[] w fun e w' => e = .returned (.bool true) ∧ Kp NoB w w' := by
  have E := Lib.hid wawE
  have l1 : (fullL 1).length = 256 := List.length_replicate ..
  have l2 : (fullL 2).length = 256 := List.length_replicate ..
  have l3 : (fullL 3).length = 256 := List.length_replicate ..
  have s1 : (pgA ⟨1, fullL 1⟩).size = 257 := by unfold pgA pgL; rw [List.size_toArray, List.length_cons, List.length_map, l1]
  have s2 : (pgA ⟨2, fullL 2⟩).size = 257 := by unfold pgA pgL; rw [List.size_toArray, List.length_cons, List.length_map, l2]
  have s3 : (pgA ⟨1, fullL 3⟩).size = 257 := by unfold pgA pgL; rw [List.size_toArray, List.length_cons, List.length_map, l3]
  go_enter Try.func36, Try.ntmps36
  go_wp2_with fail
  refine (new_q w 5000 (by omega)).mono ?_
  rintro e w1 ⟨db, rfl, h1⟩
  have H1 := Lib.hid h1
  clear h1
  go_wp2_with fail
  refine (wfull_ok w1 1).mono ?_
  rintro e w2 ⟨rfl, hk2⟩
  have HK2 := Lib.hid hk2
  clear hk2
  go_wp2_with (show wpList _ _ _ (⟨some 14, _, _, _, _, _⟩ :: _) _ _; refine wpList_val _ (exBuildPg2 _ _ _ _ 1 (fullL 1) l1 _ _ _ _ _ rfl rfl) ?_)
  refine (wfull_ok w2 2).mono ?_
  rintro e w3 ⟨rfl, hk3⟩
  have HK3 := Lib.hid (HK2.out.trans hk3 (fun _ _ q => q))
  clear hk3
  go_wp2_with (first
    | (show wpList _ _ _ (⟨some 16, _, _, _, _, _⟩ :: _) _ _; refine wpList_val _ (exBuildPg2 _ _ _ _ 2 (fullL 2) l2 _ _ _ _ _ rfl rfl) ?_)
    | (show wpList _ _ _ (⟨some 17, _, _, _, _, _⟩ :: _) _ _; refine wpList_val _ (exSlicePg2 _ _ _ _ (pgA ⟨1, fullL 1⟩) (pgA ⟨2, fullL 2⟩) _ _ _ _ _ rfl rfl s1 s2) ?_))
  have hsm : (Pl.new 5000).sm 100000000 := by unfold Pl.sm; rw [E.out.2.2.2.2.2.2.1, E.out.2.2.2.2.2.2.2.1]; omega
  have hsm1 : awQ1.1.sm 100000000 := by
    have h1 := of_decide_eq_true E.out.2.2.2.2.2.2.2.2.1
    have h2 := of_decide_eq_true E.out.2.2.2.2.2.2.2.2.2
    unfold Pl.sm
    omega
  have HSM1 := Lib.hid hsm1
  have hok2 : ∀ x ∈ aw2L, PgOk x := by
    intro x hx
    unfold aw2L at hx
    simp only [List.mem_cons, List.not_mem_nil, or_false] at hx
    rcases hx with rfl | rfl
    · exact ⟨l1, full_rng 1 (by omega), by show _ ≤ (1 : Int) ∧ (1 : Int) ≤ _; omega⟩
    · exact ⟨l2, full_rng 2 (by omega), by show _ ≤ (2 : Int) ∧ (2 : Int) ≤ _; omega⟩
  obtain ⟨S2, hq2, hS2⟩ := (H1.out.keep HK3.out).base
  have hka : Kp NoB w3 (w3.alloc (.cells (pgA ⟨1, fullL 1⟩ ++ pgA ⟨2, fullL 2⟩) 113)) := (Kp.refl _ _).alloc _
  have hpg : PgsAt (w3.alloc (.cells (pgA ⟨1, fullL 1⟩ ++ pgA ⟨2, fullL 2⟩) 113)) (some ⟨w3.heap.size, 0, none⟩) 2 aw2L := pgs_blk (t := 113) (by
    have := Blk.new w3 113 (pgA ⟨1, fullL 1⟩ ++ pgA ⟨2, fullL 2⟩)
    have e : pgA ⟨1, fullL 1⟩ ++ pgA ⟨2, fullL 2⟩ = (pgsCells aw2L).toArray := by
      unfold pgsCells aw2L pgA
      simp
    rwa [e] at this ⊢) rfl hok2
  have hlt2 := hq2.lt
  have hcm := wcommit_q (hq2.base1 hka) 2 (by omega) (some ⟨w3.heap.size, 0, none⟩) 2 2 aw2L hpg (fun g o e hn q => by injection e with e; injection e with e1 e2; have := hlt2 g q; omega) hok2 (by omega) hsm
  clear hpg
  refine hcm.mono ?_
  clear hcm
  rintro e w5 ⟨rfl, h5⟩
  have h5' : Dq S2 (w3.alloc (.cells (pgA ⟨1, fullL 1⟩ ++ pgA ⟨2, fullL 2⟩) 113)) w5 db awQ1.1 := h5
  rw [show ((Pl.new 5000).wcommit 2 aw2L).2.1 = 2 from E.out.1, show ((Pl.new 5000).wcommit 2 aw2L).2.2 = 0 from E.out.2.1]
  have h6 := Dq.tr (w0 := w) h5' ((H1.out.keep HK3.out).kp.trans hka (fun _ _ q => q.elim)) hS2 (fun b q => q.elim)
  have H6 := Lib.hid h6
  clear h5 h5' h6 hka hq2 hS2 hlt2 hsm hsm1 hok2
  go_wp2_with fail
  refine (wfull_ok w5 3).mono ?_
  rintro e w6 ⟨rfl, hk6⟩
  have H7 := Lib.hid (H6.out.keep hk6)
  clear hk6
  go_wp2_with (first
    | (show wpList _ _ _ (⟨some 24, _, _, _, _, _⟩ :: _) _ _; refine wpList_val _ (exBuildPg2 _ _ _ _ 1 (fullL 3) l3 _ _ _ _ _ rfl rfl) ?_)
    | (show wpList _ _ _ (⟨some 25, _, _, _, _, _⟩ :: _) _ _; refine wpList_val _ (exSlicePg _ _ _ (pgA ⟨1, fullL 3⟩) _ _ _ _ _ rfl s3) ?_))
  have hok3 : ∀ x ∈ aw3L, PgOk x := by
    intro x hx
    unfold aw3L at hx
    simp only [List.mem_cons, List.not_mem_nil, or_false] at hx
    subst hx
    exact ⟨l3, full_rng 3 (by omega), by show _ ≤ (1 : Int) ∧ (1 : Int) ≤ _; omega⟩
  obtain ⟨S3, hq3, hS3⟩ := H7.out.base
  have hka : Kp NoB w6 (w6.alloc (.cells (pgA ⟨1, fullL 3⟩) 113)) := (Kp.refl _ _).alloc _
  have hpg : PgsAt (w6.alloc (.cells (pgA ⟨1, fullL 3⟩) 113)) (some ⟨w6.heap.size, 0, none⟩) 1 aw3L := pgs_blk (t := 113) (by
    have := Blk.new w6 113 (pgA ⟨1, fullL 3⟩)
    have e : pgA ⟨1, fullL 3⟩ = (pgsCells aw3L).toArray := by
      unfold pgsCells aw3L pgA
      simp
    rwa [e] at this ⊢) rfl hok3
  have hlt3 := hq3.lt
  have hcm := wcommit_q (hq3.base1 hka) 2 (by omega) (some ⟨w6.heap.size, 0, none⟩) 1 1 aw3L hpg (fun g o e hn q => by injection e with e; injection e with e1 e2; have := hlt3 g q; omega) hok3 (by omega) HSM1.out
  clear hpg
  refine hcm.mono ?_
  clear hcm
  rintro e w8 ⟨rfl, h8⟩
  have h8' : Dq S3 (w6.alloc (.cells (pgA ⟨1, fullL 3⟩) 113)) w8 db awQ2.1 := h8
  rw [show (awQ1.1.wcommit 2 aw3L).2.1 = 3 from E.out.2.2.1, show (awQ1.1.wcommit 2 aw3L).2.2 = 0 from E.out.2.2.2.1]
  have h9 := Dq.tr (w0 := w) h8' (H7.out.kp.trans hka (fun _ _ q => q.elim)) hS3 (fun b q => q.elim)
  have H9 := Lib.hid h9
  clear h8 h8' h9 hka hq3 hS3 hlt3 hok3
  go_wp2_with fail
  refine (wpg_q H9.out 2 1 (by omega)).mono ?_
  rintro e w9 ⟨rfl, hk9⟩
  rw [E.out.2.2.2.2.1]
  have H10 := Lib.hid (H9.out.keep hk9)
  have hbz := Blk.new w9 24 zero256
  have hbf := hbz.whole (bytesV (fullL 1)) (by rw [zero256_eq, bytesV_size, bytesV_size, l1]; rfl)
  have tz := hbz.thereAll 256 (by rw [zero256_eq, bytesV_size]; rfl)
  have of2 := bytesV_one (fullL 1)
  have sf2 : (bytesV (fullL 1)).size = 256 := by rw [bytesV_size, l1]
  have hk7 : Kp NoB w9 ((w9.alloc (.cells zero256 24)).setCells w9.heap.size 0 (bytesV (fullL 1)).toList) := Kp.setCells (.inl (Nat.le_refl _)) _ _ _ ((Kp.refl _ _).alloc _)
  have HBF := Lib.hid hbf
  have HK7 := Lib.hid hk7
  clear hk9 hbz hbf hk7
  go_upto_region 5 with fail
  obtain ⟨Bg, hBg⟩ : ∃ Bg, w9.heap.size = Bg := ⟨_, rfl⟩
  generalize (w9.alloc (.cells zero256 24)).setCells w9.heap.size 0 (bytesV (fullL 1)).toList = w10 at HBF HK7 ⊢
  rw [hBg] at HBF ⊢
  clear hBg tz
  go_wp2_with fail
  refine (wpg_q (H10.out.keep HK7.out) 1 1 (by omega)).mono ?_
  rintro e w11 ⟨rfl, hk11⟩
  rw [E.out.2.2.2.2.2.1]
  have HZ2 : Hid (bytesV (zeros 256) = zero256) := Lib.hid zero256_eq.symm
  rw [show bytesV ((zeros 256, (4 : Int)).1) = zero256 from HZ2.out]
  have hbz := Blk.new w11 24 zero256
  have tz := hbz.thereAll 256 (by rw [zero256_eq, bytesV_size]; rfl)
  have oz : ones zero256 := by rw [zero256_eq]; exact bytesV_one _
  have sz : zero256.size = 256 := by rw [zero256_eq, bytesV_size]; rfl
  have hk12 : Kp NoB w11 ((w11.alloc (.cells zero256 24)).setCells w11.heap.size 0 zero256.toList) := Kp.setCells (.inl (Nat.le_refl _)) _ _ _ ((Kp.refl _ _).alloc _)
  have HB12 := Lib.hid ((HBF.out.keep hk11 (fun q => q)).keep hk12 (fun q => q))
  have HPX : Hid (Kp NoB w ((w11.alloc (.cells zero256 24)).setCells w11.heap.size 0 zero256.toList)) := Lib.hid (((H10.out.keep HK7.out).keep (hk11.trans hk12 (fun _ _ q => q))).kp)
  clear hk11 hbz hk12
  go_upto_region 6 with fail
  generalize (w11.alloc (.cells zero256 24)).setCells w11.heap.size 0 zero256.toList = w12 at HB12 HPX ⊢
  refine wp_region_held_drew (S := fun W' => W'.rangeAt Bg 0 ((fullL 1).map (Value.int .u8))) (by kernel_rfl) (blk_rg8 HB12.out) (fun hHeld => ?_)
  have h0 : Blk w12.drew Bg 24 (bytesV (fullL 1)) := HB12.out
  have hk0 : Kp NoB w12 w12.drew := (Kp.refl NoB w12).drew
  have hi1 : (Try.prog.info? 24).map (·.size) = some ((fullL 1).map (Value.int .u8)).length := by rw [List.length_map, l1]; exact info26
  have hu := Try.underlying24
  generalize w12.drew = W0 at h0 hk0 hHeld ⊢
  refine tkS (i := 0) (v := (.int .i64 2)) rfl (Or.inl ⟨by rfl, fun w' hq => by go_simp⟩) (blk_rg8 h0) ?_
  simp only [Act.put, skA, skB, skC]
  refine tkS (i := 1) (v := (.bool true)) rfl (Or.inl ⟨by rfl, fun w' hq => by go_simp⟩) (blk_rg8 h0) ?_
  simp only [Act.put, skA, skB, skC]
  refine tkS (i := 2) (v := (.bool true)) rfl (Or.inl ⟨by rfl, fun w' hq => by go_simp⟩) (blk_rg8 h0) ?_
  simp only [Act.put, skA, skB, skC]
  refine tkS (i := 3) (v := (.int .i64 3)) rfl (Or.inl ⟨by rfl, fun w' hq => by go_simp⟩) (blk_rg8 h0) ?_
  simp only [Act.put, skA, skB, skC]
  refine tkS (i := 4) (v := (.bool true)) rfl (Or.inl ⟨by rfl, fun w' hq => by go_simp⟩) (blk_rg8 h0) ?_
  simp only [Act.put, skA, skB, skC]
  refine tkS (i := 5) (v := (.bool true)) rfl (Or.inl ⟨by rfl, fun w' hq => by go_simp⟩) (blk_rg8 h0) ?_
  simp only [Act.put, skA, skB, skC]
  refine tkS (i := 6) (v := (.bool true)) rfl (Or.inl ⟨by rfl, fun w' hq => by go_simp⟩) (blk_rg8 h0) ?_
  simp only [Act.put, skA, skB, skC]
  refine tkS (i := 7) (v := (.int .i64 0)) rfl (Or.inl ⟨by rfl, fun w' hq => by go_simp⟩) (blk_rg8 h0) ?_
  simp only [Act.put, skA, skB, skC]
  refine tkS (i := 8) (v := (.bool true)) rfl (Or.inl ⟨by rfl, fun w' hq => by go_simp⟩) (blk_rg8 h0) ?_
  simp only [Act.put, skA, skB, skC]
  refine tkS (i := 9) (v := (.bool true)) rfl (Or.inl ⟨by rfl, fun w' hq => by go_simp⟩) (blk_rg8 h0) ?_
  simp only [Act.put, skA, skB, skC]
  refine tkS (i := 10) (v := (.bool true)) rfl (Or.inl ⟨by rfl, fun w' hq => by go_simp⟩) (blk_rg8 h0) ?_
  simp only [Act.put, skA, skB, skC]
  refine tkS (i := 11) (v := (.int .i64 0)) rfl (Or.inl ⟨by rfl, fun w' hq => by go_simp⟩) (blk_rg8 h0) ?_
  simp only [Act.put, skA, skB, skC]
  refine tkS (i := 12) (v := (.bool true)) rfl (Or.inl ⟨by rfl, fun w' hq => by go_simp⟩) (blk_rg8 h0) ?_
  simp only [Act.put, skA, skB, skC]
  refine tkS (i := 13) (v := (.bool true)) rfl (Or.inl ⟨by rfl, fun w' hq => by go_simp⟩) (blk_rg8 h0) ?_
  simp only [Act.put, skA, skB, skC]
  refine tkS (i := 14) (v := (.bool true)) rfl (Or.inl ⟨by rfl, fun w' hq => by go_simp⟩) (blk_rg8 h0) ?_
  simp only [Act.put, skA, skB, skC]
  refine tkS (i := 15) (v := (.int .i64 0)) rfl (Or.inl ⟨by rfl, fun w' hq => by go_simp⟩) (blk_rg8 h0) ?_
  simp only [Act.put, skA, skB, skC]
  refine tkS (i := 16) (v := (.bool true)) rfl (Or.inl ⟨by rfl, fun w' hq => by go_simp⟩) (blk_rg8 h0) ?_
  simp only [Act.put, skA, skB, skC]
  refine tkS (i := 17) (v := (.bool true)) rfl (Or.inl ⟨by rfl, fun w' hq => by go_simp⟩) (blk_rg8 h0) ?_
  simp only [Act.put, skA, skB, skC]
  refine tkS (i := 18) (v := (.bool true)) rfl (Or.inl ⟨by rfl, fun w' hq => by go_simp⟩) (blk_rg8 h0) ?_
  simp only [Act.put, skA, skB, skC]
  refine tkS (i := 19) (v := .agg (((fullL 1).map (Value.int .u8))).toArray) rfl (yieldsIf_load_mid (by rfl) _ _ rfl _ _ rfl ((fullL 1).map (Value.int .u8)) _ (fun _ q => q) hu rfl hi1) (blk_rg8 h0) ?_
  simp only [Act.put, skA, skB, skC]
  refine wpAnyH_ready (rs := [20]) (by kernel_rfl) (by simp) ?_
  refine AllReadyH.callR (fun x W' => x = .agg (bytesV (fullL 1)) ∧ Blk W' Bg 24 (bytesV (fullL 1)) ∧ Kp NoB w12 W') rfl (by rfl) 93 #[.int .u8 1] (by first | (go_simp; done) | (go_simp; rfl)) (fun _ _ q => (blk_rg8 q.2.1)) ((wfull_ok W0 1).mono (by rintro e w19 ⟨rfl, hk⟩; exact ⟨_, rfl, rfl, h0.keep hk (fun q => q), hk0.trans hk (fun _ _ q => q)⟩)) ?_ AllReadyH.nil
  rintro _ W1 ⟨rfl, h1, hk1⟩
  simp only [Act.put, skA, skB, skC]
  refine tkS (i := 21) (v := .bool true) rfl (Or.inl ⟨by rfl, fun w' hq => eqTrue w' _ _ _ _ rfl rfl l1⟩) (blk_rg8 h1) ?_
  simp only [Act.put, skA, skB, skC]
  refine tkS (i := 22) (v := (.bool true)) rfl (Or.inl ⟨by rfl, fun w' hq => by go_simp⟩) (blk_rg8 h1) ?_
  simp only [Act.put, skA, skB, skC]
  refine tkS (i := 23) (v := (.bool true)) rfl (Or.inl ⟨by rfl, fun w' hq => by go_simp⟩) (blk_rg8 h1) ?_
  simp only [Act.put, skA, skB, skC]
  refine tkS (i := 24) (v := (.int .i64 4)) rfl (Or.inl ⟨by rfl, fun w' hq => by go_simp⟩) (blk_rg8 h1) ?_
  simp only [Act.put, skA, skB, skC]
  refine tkS (i := 25) (v := (.bool true)) rfl (Or.inl ⟨by rfl, fun w' hq => by go_simp⟩) (blk_rg8 h1) ?_
  simp only [Act.put, skA, skB, skC]
  refine tkS (i := 26) (v := (.bool true)) rfl (Or.inl ⟨by rfl, fun w' hq => by go_simp⟩) (blk_rg8 h1) ?_
  simp only [Act.put, skA, skB, skC]
  refine tkS (i := 27) (v := (.bool true)) rfl (Or.inl ⟨by rfl, fun w' hq => by go_simp⟩) (blk_rg8 h1) ?_
  simp only [Act.put, skA, skB, skC]
  refine wpAnyH_done (by kernel_rfl) ?_ _
  have HK9 := Lib.hid (HPX.out.trans hk1 (fun _ _ q => q))
  clear hHeld h0 h1 hk0 hk1 hi1 hu
  go_wp2_with fail
  go_ret
  exact ⟨rfl, HK9.out⟩
end Go.Proofs.Ytegcbdfilkecpaa
/- Without a disk every call reports that; no condition. -/
namespace Go.Proofs.Ytegcbdfilkecpaa
open Go.RowKit

set_option maxRecDepth 100000 in
theorem is_nil (w : World) : Calls Try.prog 69 #[.pointer none] w fun e w' => e = .returned (.bool false) ∧ w = w' := by
  go_enter Try.func69, Try.ntmps69
  go_wp2_with (fail)
  go_ret
  exact ⟨rfl, rfl⟩
set_option maxRecDepth 100000 in
theorem wrong_nil (w : World) : Calls Try.prog 80 #[.pointer none] w fun e w' => e = .returned (.int .i64 1) ∧ w = w' := by
  go_enter Try.func80, Try.ntmps80
  go_wp2_with (go_at_call 69; go_must (refine (is_nil _).mono ?_); rintro e w2 ⟨rfl, rfl⟩)
  go_ret
  exact ⟨rfl, rfl⟩
set_option maxRecDepth 100000 in
theorem read_nil (w : World) (s : ByteArray) (a n : Int) : Calls Try.prog 28 #[.pointer none, .string s, .int .i64 a, .int .i64 n] w fun e w' => e = .returned (.tuple #[.string ⟨#[]⟩, .int .i64 1]) ∧ w = w' := by
  go_enter Try.func28, Try.ntmps28
  go_wp2_with (go_at_call 80; go_must (refine (wrong_nil _).mono ?_); rintro e w2 ⟨rfl, rfl⟩)
  go_ret2
  exact ⟨rfl, rfl⟩
end Go.Proofs.Ytegcbdfilkecpaa
/- The log without a disk; no condition. -/
namespace Go.Proofs.Ytegcbdfilkecpaa
open Go.RowKit

set_option maxRecDepth 100000 in
theorem wopen_nil (w : World) : Calls Try.prog 96 #[.pointer none] w fun e w' => e = .returned (.tuple #[.pointer none, .int .i64 1]) ∧ w = w' := by
  go_enter Try.func96, Try.ntmps96
  go_wp2_with (go_at_call 28; go_must (refine (read_nil _ _ _ _).mono ?_); rintro e w2 ⟨rfl, rfl⟩)
  go_ret2
  exact ⟨rfl, rfl⟩
set_option maxRecDepth 100000 in
theorem wasked_nil (w : World) (m : Int) : Calls Try.prog 98 #[.pointer none, .int .i64 m] w fun e w' => e = .returned (.tuple #[.pointer none, .int .i64 1]) ∧ w = w' := by
  go_enter Try.func98, Try.ntmps98
  go_wp2_with (go_at_call 96; go_must (refine (wopen_nil _).mono ?_); rintro e w2 ⟨rfl, rfl⟩)
  go_ret2
  exact ⟨rfl, rfl⟩
set_option maxRecDepth 100000 in
theorem wcheckq_nil (w : World) : Calls Try.prog 46 #[.pointer none] w fun e w' => e = .returned (.int .i64 1) ∧ w = w' := by
  go_enter Try.func46, Try.ntmps46
  go_wp2_with (go_at_call 96; go_must (refine (wopen_nil _).mono ?_); rintro e w2 ⟨rfl, rfl⟩)
  go_ret
  exact ⟨rfl, rfl⟩
set_option maxRecDepth 100000 in
theorem wmark_nil (w : World) : Calls Try.prog 42 #[.pointer none] w fun e w' => e = .returned (.tuple #[.int .i64 0, .int .i64 1]) ∧ w = w' := by
  go_enter Try.func42, Try.ntmps42
  go_wp2_with (go_at_call 96; go_must (refine (wopen_nil _).mono ?_); rintro e w2 ⟨rfl, rfl⟩)
  go_ret2
  exact ⟨rfl, rfl⟩
set_option maxRecDepth 100000 in
theorem wmarks_nil (w : World) : Calls Try.prog 38 #[.pointer none] w fun e w' => e = .returned (.tuple #[.slice none 0 0, .int .i64 1]) ∧ w = w' := by
  go_enter Try.func38, Try.ntmps38
  go_wp2_with (go_at_call 96; go_must (refine (wopen_nil _).mono ?_); rintro e w2 ⟨rfl, rfl⟩)
  go_ret2
  exact ⟨rfl, rfl⟩
set_option maxRecDepth 100000 in
theorem wcnt_nil (w : World) (m : Int) : Calls Try.prog 43 #[.pointer none, .int .i64 m] w fun e w' => e = .returned (.tuple #[.int .i64 0, .int .i64 1]) ∧ w = w' := by
  go_enter Try.func43, Try.ntmps43
  go_wp2_with (go_at_call 98; go_must (refine (wasked_nil _ _).mono ?_); rintro e w2 ⟨rfl, rfl⟩)
  go_ret2
  exact ⟨rfl, rfl⟩
set_option maxRecDepth 100000 in
theorem wck_nil (w : World) (m : Int) : Calls Try.prog 41 #[.pointer none, .int .i64 m] w fun e w' => e = .returned (.int .i64 1) ∧ Kp NoB w w' := by
  go_enter Try.func41, Try.ntmps41
  go_wp2_with (go_at_call 98; go_must (refine (wasked_nil _ _).mono ?_); rintro e w2 ⟨rfl, rfl⟩)
  go_ret
  exact ⟨rfl, (Kp.refl NoB w).alloc _⟩
set_option maxRecDepth 100000 in
set_option maxHeartbeats 800000 in
theorem wcommit_nil (w : World) (count : Int) (A : Option Addr) (n cap : Nat) : Calls Try.prog 45 #[.pointer none, .int .i64 count, .slice A n cap] w fun e w' => e = .returned (.tuple #[.int .i64 0, .int .i64 1]) ∧ Kp NoB w w' := by
  obtain ⟨PP, hPP⟩ : ∃ PP : Ending → World → Prop, (fun e w' => e = .returned (.tuple #[.int .i64 0, .int .i64 1]) ∧ Kp NoB w w') = PP := ⟨_, rfl⟩
  have HP : Hid (∀ w', Kp NoB w w' → PP (.returned (.tuple #[.int .i64 0, .int .i64 1])) w') := Lib.hid (fun w' k => by rw [← hPP]; exact ⟨rfl, k⟩)
  rw [hPP]
  clear hPP
  go_enter Try.func45, Try.ntmps45
  go_wp2_with fail
  refine (wopen_nil _).mono ?_
  rintro e w2 ⟨rfl, rfl⟩
  dsimp only
  go_upto_region 2 with fail
  go_quiet (fail)
  go_wp2_with fail
  exact HP.out _ (((Kp.refl NoB w).alloc _).drewN _)
attribute [local go_sem ↓] load26 store26 alloc26 build26
set_option maxRecDepth 100000 in
theorem wpg_nil (w : World) (m n : Int) : Calls Try.prog 44 #[.pointer none, .int .i64 m, .int .i64 n] w fun e w' => e = .returned (.tuple #[.agg zero256, .int .i64 1]) ∧ Kp NoB w w' := by
  have hb0 : Blk (w.alloc (.cells zero256 24)) w.heap.size 24 zero256 := Blk.new _ _ _
  have HB0 := Lib.hid hb0
  have t2 := hb0.thereAll 256 (by rw [zero256_eq, bytesV_size]; rfl)
  have oz : ones zero256 := by rw [zero256_eq]; exact bytesV_one _
  have sz : zero256.size = 256 := by rw [zero256_eq, bytesV_size]; rfl
  have HSZ := Lib.hid sz
  clear hb0
  go_enter Try.func44, Try.ntmps44
  go_wp2_with (go_at_call 98; go_must (refine (wasked_nil _ _).mono ?_); rintro e w2 ⟨rfl, rfl⟩)
  refine bodyPost_ret (ret_cell_tmp rfl _ _ _ _ _ _ rfl (HB0.out.whole zero256 rfl) Try.underlying24 rfl (by rw [HSZ.out]; exact info26) _ rfl) rfl ⟨rfl, ?_⟩
  exact Kp.setCells (.inl (Nat.le_refl _)) _ _ _ ((Kp.refl _ _).alloc _)
end Go.Proofs.Ytegcbdfilkecpaa
/- Without a disk every call of the log reports exactly that; no condition. -/
namespace Go.Proofs.Ytegcbdfilkecpaa
open Go.RowKit

attribute [local go_sem ↓] load26 store26 alloc26 build26 eql26
set_option maxRecDepth 100000 in
set_option maxHeartbeats 3200000 in
theorem wnone_ok (w : World) (mk n : Int) (A : Option Addr) (m cap : Nat) : Calls Try.prog 9 #[.int .i64 mk, .int .i64 n, .slice A m cap] w fun e w' => e = .returned (.bool true) ∧ Kp NoB w w' := by
  go_enter Try.func9, Try.ntmps9
  go_wp2_with (first
    | (go_at_call 42; go_must (refine (wmark_nil _).mono ?_); rintro e w4 ⟨rfl, rfl⟩)
    | (go_at_call 38; go_must (refine (wmarks_nil _).mono ?_); rintro e w5 ⟨rfl, rfl⟩)
    | (go_at_call 43; go_must (refine (wcnt_nil _ _).mono ?_); rintro e w6 ⟨rfl, rfl⟩))
  refine (wpg_nil w mk n).mono ?_
  rintro e w2 ⟨rfl, hk2⟩
  have hbz := Blk.new w2 24 zero256
  have hbf := hbz.whole zero256 rfl
  have tz := hbz.thereAll 256 (by rw [zero256_eq, bytesV_size]; rfl)
  have of2 : ones zero256 := by rw [zero256_eq]; exact bytesV_one _
  have sf2 : zero256.size = 256 := by rw [zero256_eq, bytesV_size]; rfl
  have hk3 : Kp NoB w ((w2.alloc (.cells zero256 24)).setCells w2.heap.size 0 zero256.toList) := Kp.setCells (.inl hk2.size) _ _ _ (hk2.alloc _)
  have HBF := Lib.hid hbf
  have HK3 := Lib.hid hk3
  clear hk2 hbz hbf hk3
  go_upto_region 5 with fail
  obtain ⟨Bg, hBg⟩ : ∃ Bg, w2.heap.size = Bg := ⟨_, rfl⟩
  generalize (w2.alloc (.cells zero256 24)).setCells w2.heap.size 0 zero256.toList = w3 at HBF HK3 ⊢
  rw [hBg] at HBF ⊢
  clear hBg tz
  go_wp2_with fail
  refine (wcommit_nil w3 n A m cap).mono ?_
  rintro e w5 ⟨rfl, hk5⟩
  have HK5 := Lib.hid (HK3.out.trans hk5 (fun _ _ q => q))
  have HBF5 := Lib.hid (HBF.out.keep hk5 (fun q => q))
  clear hk5
  go_wp2_with (go_at_call 46; go_must (refine (wcheckq_nil _).mono ?_); rintro e w4 ⟨rfl, rfl⟩)
  refine (wck_nil w5 mk).mono ?_
  rintro e w6 ⟨rfl, hk6⟩
  have HK6 := Lib.hid (HK5.out.trans hk6 (fun _ _ q => q))
  have HBF6 := Lib.hid (HBF5.out.keep hk6 (fun q => q))
  have t3 := HBF6.out.thereAll 256 (by rw [zero256_eq, bytesV_size]; rfl)
  have r3 := HBF6.out.readAll 256 (by rw [zero256_eq, bytesV_size]; rfl)
  have pz := pgOK_zero
  clear hk6
  go_wp2_with fail
  refine (wawake_ok w6).mono ?_
  rintro e w8 ⟨rfl, hk8⟩
  have HK8 := Lib.hid (HK6.out.trans hk8 (fun _ _ q => q))
  clear hk8
  go_wp2_with fail
  go_ret
  exact ⟨rfl, HK8.out⟩
end Go.Proofs.Ytegcbdfilkecpaa
/- How an argument that is a slice of structs is read; no condition. -/
namespace Go.Proofs.Ytegcbdfilkecpaa
open Go.ChangeShapes Go.WideShapes Go.Deep
section
variable {H : Type} {enc : TypeId × Value → H} {P : Program} {w : World} {base : Nat} {spare : Nat → Bool} {held : Bool}
end
end Go.Proofs.Ytegcbdfilkecpaa
/- How arguments that come in are read: numbers, texts, lists of texts, arrays of bytes; no condition. -/
namespace Go.Proofs.Ytegcbdfilkecpaa
open Go.ChangeShapes Go.WideShapes Go.ChangeAt Go.RowKit

section
variable {H : Type} {enc : TypeId × Value → H} {P : Program} {W : World} {spare : Nat → Bool} {held : Bool} {t e : TypeId} {d : DataW H} {p : List MemPlace}
theorem open_wf {k : IntKind} {n : Int} (hu : P.underlying t = some (.int k)) (h : DataW.Trod enc P W 0 spare held t (.int k n) d p) : (Lit.int k n).wf = true := by
  obtain ⟨fuel, hf⟩ := h
  obtain ⟨m, e1, _, wf⟩ := DataW.trod_int hu hf
  simp [Value.cells] at e1
  subst e1
  exact wf
theorem wf_i64 {n : Int} (h : (Lit.int .i64 n).wf = true) : -9223372036854775808 ≤ n ∧ n ≤ 9223372036854775807 := (Lit.wf_int_iff .i64 n).1 h
theorem trod_lt' {v : Value} (h : DataW.Trod enc P W 0 spare held t v d p) : ∀ x ∈ p, x.block < W.heap.size := by obtain ⟨m, hm⟩ := h; exact DataW.trod_lt m _ _ _ hm
end
end Go.Proofs.Ytegcbdfilkecpaa
