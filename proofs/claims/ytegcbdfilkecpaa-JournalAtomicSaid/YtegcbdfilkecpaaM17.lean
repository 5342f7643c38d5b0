/- Texts of this proof, one behind the other: lemmas and contracts; each says its own conditions. -/
import Derived.Test.YtegcbdfilkecpaaM8
import Derived.Test.YtegcbdfilkecpaaM15
import Derived.Test.YtegcbdfilkecpaaM16
/- The journal: the answers that every law asks at its end; no condition. -/
namespace Go.Proofs.Ytegcbdfilkecpaa
open Go.RowKit

attribute [local go_sem ↓] load26 store26 alloc26 build26
def fullL (b : Int) : List Int := List.replicate 256 b
def upF (b : Int) (n : Nat) : List Int := List.replicate n b ++ zeros (256 - n)
theorem upF_len (b : Int) (n : Nat) (hn : n ≤ 256) : (upF b n).length = 256 := by
  unfold upF zeros
  rw [List.length_append, List.length_replicate, List.length_replicate]
  omega
theorem upF_set (b : Int) (n : Nat) (hn : n < 256) : (upF b n).set n b = upF b (n + 1) := by
  unfold upF zeros
  rw [List.set_append_right _ _ (by rw [List.length_replicate]; omega), List.length_replicate, Nat.sub_self, show 256 - n = (256 - (n + 1)) + 1 by omega, List.replicate_succ, List.set_cons_zero, List.replicate_succ', List.append_assoc]
  rfl
theorem upF_at (b : Int) (n : Nat) (hn : n < 256) : (upF b n)[n]? = some 0 := by
  unfold upF zeros
  rw [List.getElem?_append_right (by rw [List.length_replicate]; omega), List.length_replicate, Nat.sub_self, show 256 - n = (256 - (n + 1)) + 1 by omega, List.replicate_succ]
  rfl
theorem upF_all (b : Int) : upF b 256 = fullL b := by
  unfold upF zeros fullL
  rw [Nat.sub_self, List.replicate_zero, List.append_nil]
structure FuS (w : World) (b : Int) (n : Nat) (W : World) : Prop where
  kp : Kp NoB w W
  b1 : Blk W w.heap.size 24 zero256
  b2 : Blk W (w.heap.size + 1) 24 (bytesV (upF b n))
set_option maxRecDepth 100000 in
set_option maxHeartbeats 800000 in
theorem full_ok (w : World) (b : Int) : Calls Try.prog 68 #[.int .u8 b] w fun e w' => e = .returned (.agg (bytesV (fullL b))) ∧ Kp NoB w w' := by
  have HST : Hid (FuS w b 0 ((w.alloc (.cells zero256 24)).alloc (.cells zero256 24))) := Lib.hid ⟨((Kp.refl _ _).alloc _).alloc _, (Blk.new _ _ _).alloc _, Blk.newAt _ _ _ _ (by simp)⟩
  go_enter Try.func68, Try.ntmps68
  go_wp2_with fail
  refine forget (p := fun wx => Code.wp _ _ _ _ wx) (FuS w b 0) HST.out ?_
  intro W hW
  have HW := Lib.hid hW
  clear hW HST
  go_loopw [4] (fun v wr => ∃ i : Nat, i ≤ 256 ∧ v = .int .i64 i ∧ FuS w b i wr) (fun v _ => 256 - (intOf v).toNat)
  case atStart => exact ⟨0, by omega, rfl, HW.out⟩
  case round =>
    obtain ⟨i, hi, rfl, hs⟩ := hrel
    have HS := Lib.hid hs
    by_cases hlt : i < 256
    · have hii : (i : Int) < 256 := by omega
      have c2 : wr.cell? ⟨w.heap.size + 1, i, none⟩ = some (.int .u8 0) := by
        rw [hs.b2.cell]
        unfold bytesV
        rw [List.getElem?_toArray, List.getElem?_map, upF_at _ _ hlt]
        rfl
      have z2 : wr.frozen? ⟨w.heap.size + 1, i, none⟩ = false := hs.b2.frozen i
      clear hs
      go_wp2_with fail
      refine ⟨⟨i + 1, by omega, by congr 1, ?_⟩, by simp [intOf]; omega⟩
      have h := HS.out
      refine ⟨h.kp.setCell (p := ⟨w.heap.size + 1, i, none⟩) (.inl (by show _ ≤ w.heap.size + 1; omega)) _, h.b1.far (p := ⟨w.heap.size + 1, i, none⟩) (by simp) _, ?_⟩
      have := h.b2.set_ i (.int .u8 b)
      rwa [bytesV_setJ, upF_set _ _ hlt] at this
    · have hii : ¬ (i : Int) < 256 := by omega
      obtain rfl : i = 256 := by omega
      have b2 := hs.b2
      rw [upF_all] at b2
      have sl : (fullL b).length = 256 := List.length_replicate ..
      have t1 : wr.there (w.heap.size + 1) 0 256 := b2.thereAll 256 (by rw [bytesV_size, sl])
      have r1 : readRow wr (w.heap.size + 1) 0 256 = bytesV (fullL b) := b2.readAll 256 (by rw [bytesV_size, sl])
      have t2 : wr.there w.heap.size 0 256 := hs.b1.thereAll 256 (by rw [zero256_eq, bytesV_size]; rfl)
      have o1 := bytesV_one (fullL b)
      have s1 : (bytesV (fullL b)).size = 256 := by rw [bytesV_size, sl]
      obtain ⟨RR, hRR⟩ : ∃ RR, bytesV (fullL b) = RR := ⟨_, rfl⟩
      rw [hRR] at r1 o1 s1
      have HRR := Lib.hid hRR
      have S1 := Lib.hid s1
      clear hs b2 sl hRR
      go_wp2_with fail
      refine bodyPost_ret (ret_cell1 rfl _ _ _ _ _ _ rfl (HS.out.b1.whole RR (by rw [S1.out, zero256_eq, bytesV_size]; rfl)) Try.underlying24 rfl (by rw [S1.out]; exact info26)) rfl ⟨by rw [HRR.out], ?_⟩
      exact Kp.setCells (.inl (by omega)) _ _ _ HS.out.kp
def aw2L : List Pg := [⟨1, fullL 1⟩, ⟨2, fullL 2⟩]
def aw1L : List Pg := [⟨4, zeros 256⟩]
def awP1 : Pl × Int := (Pl.new 5000).jcommit 2 aw2L
def awP2 : Pl × Int := awP1.1.jcommit 4 aw1L
set_option maxRecDepth 100000 in
theorem jawE : awP1.2 = 0 ∧ awP1.1.jpageE 2 = 0 ∧ awP1.1.jpage 2 = fullL 2 ∧ awP2.2 = 2 ∧ awP2.1.jcount = 2 ∧ awP2.1.jhot = false ∧ (Pl.new 5000).nf = 0 ∧ (Pl.new 5000).pd.length = 0 ∧ decide (awP1.1.nf ≤ 1000) = true ∧ decide (awP1.1.pd.length ≤ 1000) = true := by
  refine ⟨?_, ?_, ?_, ?_, ?_, ?_, ?_, ?_, ?_, ?_⟩ <;> kernel_rfl
theorem slicePg2 (w : World) (a b : Array Value) (ha : a.size = 257) (hb : b.size = 257) : (Instr.buildSlice 22 2 #[(0, .agg a), (1, .agg b)]).run Try.prog w = .ok (.slice (some ⟨w.heap.size, 0, none⟩) 2 2) (w.alloc (.cells (a ++ b) 113)) := by
  obtain ⟨i, hi, h0, h1, h2⟩ := info_parts infoPgA
  have hu := Try.underlying22
  have ca : (Value.agg a).cells = a := rfl
  have cb : (Value.agg b).cells = b := rfl
  have hf : ∀ Z : Array Value, Z.size = 514 → Instr.fill (fun i => some (i * 257, 257)) Z [(0, .agg a), (1, .agg b)] = some (a ++ b) := fun Z hZ => by
    have := Go.Great.fill_whole (s := 257) (by omega) [.agg a, .agg b] Z (by simp [ca, cb, ha, hb]) (by simp [hZ])
    have h := this
    simp only [List.zipIdx_cons, List.zipIdx_nil, List.map_cons, List.map_nil, List.flatMap_cons, List.flatMap_nil, ca, cb, List.append_nil] at h
    rw [show a ++ b = (a.toList ++ b.toList).toArray by simp]
    exact h
  simp [Instr.buildSlice, run_underlying hu, sizeOf, typeInfo, hi, h1, zeroPg, newRow, newObj]
  rw [hf _ (by simp)]
  rfl
theorem exSlicePg2 (w : World) (ev : Operand → Value) (x y : Operand) (a b : Array Value) (ds : Option Tmp) (ty : TypeId) (ps : String) (af : Array Edge) (g : Option (Nat × Bool)) (hx : ev x = .agg a) (hy : ev y = .agg b) (ha : a.size = 257) (hb : b.size = 257) :
    (execOp ev ⟨ds, .buildSlice 22 2 #[(0, x), (1, y)], ty, ps, af, g⟩).run Try.prog w = .ok (.value (.slice (some ⟨w.heap.size, 0, none⟩) 2 2)) (w.alloc (.cells (a ++ b) 113)) := by
  simp only [execOp, List.map_toArray, List.map_cons, List.map_nil, hx, hy, Sem.run_bind, slicePg2 w a b ha hb, Result.andThen_ok]
  rfl
theorem full_rng (b : Int) (hb : 0 ≤ b ∧ b < 256) : ∀ y ∈ fullL b, 0 ≤ y ∧ y < 256 := fun y hy => by
  have := List.eq_of_mem_replicate hy
  omega
theorem pgs_blk {w : World} {g n : Nat} {t : TypeId} {l : List Pg} (h : Blk w g t (pgsCells l).toArray) (hn : l.length = n) (hok : ∀ x ∈ l, PgOk x) : PgsAt w (some ⟨g, 0, none⟩) n l := by
  subst hn
  have hfl : pgsCells l = (l.map pgL).flatten := by unfold pgsCells; rw [List.flatMap_def]
  have hx : ∀ x ∈ l.map pgL, x.length = 257 := fun x hx => by
    obtain ⟨y, hy, rfl⟩ := List.mem_map.1 hx
    exact pgL_len (hok y hy)
  have hlen := flat_len 257 (l.map pgL) hx
  refine ⟨by simp, hx, fun hn => ⟨g, 0, t, _, rfl, h, ?_, fun k hk j hj => ?_⟩⟩
  · rw [List.size_toArray, hfl, hlen, List.length_map]; omega
  · rw [List.getElem?_toArray, hfl, Nat.zero_add]
    exact flat_at 257 (l.map pgL) hx k j hj hk
theorem blk_rg8 {w : World} {g : Nat} {t : TypeId} {l : List Int} (h : Blk w g t (bytesV l)) : w.rangeAt g 0 (l.map (Value.int .u8)) :=
  Blk.range (xa := []) (xb := l.map (Value.int .u8)) (xd := []) (by unfold bytesV at h; simpa using h) 0 rfl
theorem eqTrue (w : World) (ev : Operand → Value) (ds : Option Tmp) {x y : Operand} {l : List Int} {yt : TypeId} (ty : TypeId) (ps : String) {af : Array Edge} {g : Option (Nat × Bool)} (hx : ev x = .agg (l.map (Value.int .u8)).toArray) (hy : ev y = .agg (bytesV l)) (hl : l.length = 256) :
    (execOp ev ⟨ds, .binOp .eql 24 x y yt, ty, ps, af, g⟩).run Try.prog w = .ok (.value (.bool true)) w := by
  have := eql26 w ev ds x y yt ty ps af g (by rw [hx]; exact pgOK_bytes l hl) (by rw [hy]; exact pgOK_bytes l hl)
  rw [this, hx, hy]
  have e : (l.map (Value.int .u8)).toArray = bytesV l := rfl
  rw [e, valEq_self]
theorem wpList_val {P : Program} {ops : Array Oper} {rest : List Oper} {ds : Option Tmp} {op : Op} {ty : TypeId} {ps : String} {af : Array Edge} {a : Act} {w w' : World} {Q : Exit → Act → World → Prop} (v : Value) (hr : (execOp a.eval ⟨ds, op, ty, ps, af, none⟩).run P w = .ok (.value v) w')
    (h : wpList P ops Q rest (a.put ds v) w') : wpList P ops Q (⟨ds, op, ty, ps, af, none⟩ :: rest) a w := wpList_plain rfl fun K hK => by
  unfold Oper.wp
  rw [hr, Oper.upon_value]
  exact hK _ _ h
attribute [local go_sem ↓] eql26
set_option maxRecDepth 100000 in
set_option maxHeartbeats 1600000 in
theorem jawake_ok (w : World) : Calls Try.prog 16 #[] w fun e w' => e = .returned (.bool true) ∧ Kp NoB w w' := by
  have E := Lib.hid jawE
  have l1 : (fullL 1).length = 256 := List.length_replicate ..
  have l2 : (fullL 2).length = 256 := List.length_replicate ..
  have s1 : (pgA ⟨1, fullL 1⟩).size = 257 := by unfold pgA pgL; rw [List.size_toArray, List.length_cons, List.length_map, l1]
  have s2 : (pgA ⟨2, fullL 2⟩).size = 257 := by unfold pgA pgL; rw [List.size_toArray, List.length_cons, List.length_map, l2]
  have s4 : (pgA ⟨4, zeros 256⟩).size = 257 := by unfold pgA pgL zeros; rw [List.size_toArray, List.length_cons, List.length_map, List.length_replicate]
  go_enter Try.func16, Try.ntmps16
  go_wp2_with fail
  refine (new_q w 5000 (by omega)).mono ?_
  rintro e w1 ⟨db, rfl, h1⟩
  have H1 := Lib.hid h1
  clear h1
  go_wp2_with fail
  refine (full_ok w1 1).mono ?_
  rintro e w2 ⟨rfl, hk2⟩
  have HK2 := Lib.hid hk2
  clear hk2
  go_wp2_with (show wpList _ _ _ (⟨some 9, _, _, _, _, _⟩ :: _) _ _; refine wpList_val _ (exBuildPg2 _ _ _ _ 1 (fullL 1) l1 _ _ _ _ _ rfl rfl) ?_)
  refine (full_ok w2 2).mono ?_
  rintro e w3 ⟨rfl, hk3⟩
  have HK3 := Lib.hid (HK2.out.trans hk3 (fun _ _ q => q))
  clear hk3
  go_wp2_with (first
    | (show wpList _ _ _ (⟨some 11, _, _, _, _, _⟩ :: _) _ _; refine wpList_val _ (exBuildPg2 _ _ _ _ 2 (fullL 2) l2 _ _ _ _ _ rfl rfl) ?_)
    | (show wpList _ _ _ (⟨some 12, _, _, _, _, _⟩ :: _) _ _; refine wpList_val _ (exSlicePg2 _ _ _ _ (pgA ⟨1, fullL 1⟩) (pgA ⟨2, fullL 2⟩) _ _ _ _ _ rfl rfl s1 s2) ?_))
  have hsm : (Pl.new 5000).sm 400000000 := by unfold Pl.sm; rw [E.out.2.2.2.2.2.2.1, E.out.2.2.2.2.2.2.2.1]; omega
  have hsm1 : awP1.1.sm 400000000 := by
    have h1 := of_decide_eq_true E.out.2.2.2.2.2.2.2.2.1
    have h2 := of_decide_eq_true E.out.2.2.2.2.2.2.2.2.2
    unfold Pl.sm
    omega
  have HSM1 := Lib.hid hsm1
  have hok2 : ∀ x ∈ aw2L, PgOk x := by
    intro x hx
    unfold aw2L at hx
    simp only [List.mem_cons, List.not_mem_nil, or_false] at hx
    rcases hx with rfl | rfl
    · exact ⟨l1, full_rng 1 (by omega), by show _ ≤ (1 : Int) ∧ (1 : Int) ≤ _; omega⟩
    · exact ⟨l2, full_rng 2 (by omega), by show _ ≤ (2 : Int) ∧ (2 : Int) ≤ _; omega⟩
  obtain ⟨S2, hq2, hS2⟩ := (H1.out.keep HK3.out).base
  have hka : Kp NoB w3 (w3.alloc (.cells (pgA ⟨1, fullL 1⟩ ++ pgA ⟨2, fullL 2⟩) 113)) := (Kp.refl _ _).alloc _
  have hpg : PgsAt (w3.alloc (.cells (pgA ⟨1, fullL 1⟩ ++ pgA ⟨2, fullL 2⟩) 113)) (some ⟨w3.heap.size, 0, none⟩) 2 aw2L := pgs_blk (t := 113) (by
    have := Blk.new w3 113 (pgA ⟨1, fullL 1⟩ ++ pgA ⟨2, fullL 2⟩)
    have e : pgA ⟨1, fullL 1⟩ ++ pgA ⟨2, fullL 2⟩ = (pgsCells aw2L).toArray := by
      unfold pgsCells aw2L pgA
      simp
    rwa [e] at this ⊢) rfl hok2
  have hlt2 := hq2.lt
  have hcm := commit_q (hq2.base1 hka) 2 (by omega) (some ⟨w3.heap.size, 0, none⟩) 2 2 aw2L hpg (fun g o e hn q => by injection e with e; injection e with e1 e2; have := hlt2 g q; omega) hok2 (by omega) hsm
  clear hpg
  refine hcm.mono ?_
  clear hcm
  rintro e w5 ⟨rfl, h5⟩
  have h5' : Dq S2 (w3.alloc (.cells (pgA ⟨1, fullL 1⟩ ++ pgA ⟨2, fullL 2⟩) 113)) w5 db awP1.1 := h5
  rw [show ((Pl.new 5000).jcommit 2 aw2L).2 = 0 from E.out.1]
  have h6 := Dq.tr (w0 := w) h5' ((H1.out.keep HK3.out).kp.trans hka (fun _ _ q => q.elim)) hS2 (fun b q => q.elim)
  have H6 := Lib.hid h6
  clear h5 h5' h6 hka hq2 hS2 hlt2 hsm hsm1 hok2
  go_wp2_with fail
  refine (page_q H6.out 2 (by omega)).mono ?_
  rintro e w6 ⟨rfl, hk6⟩
  rw [E.out.2.1, E.out.2.2.1]
  have H7 := Lib.hid (H6.out.keep hk6)
  have hbz := Blk.new w6 24 zero256
  have hbf := hbz.whole (bytesV (fullL 2)) (by rw [zero256_eq, bytesV_size, bytesV_size, l2]; rfl)
  have tz := hbz.thereAll 256 (by rw [zero256_eq, bytesV_size]; rfl)
  have of2 := bytesV_one (fullL 2)
  have sf2 : (bytesV (fullL 2)).size = 256 := by rw [bytesV_size, l2]
  have hk7 : Kp NoB w6 ((w6.alloc (.cells zero256 24)).setCells w6.heap.size 0 (bytesV (fullL 2)).toList) := Kp.setCells (.inl (Nat.le_refl _)) _ _ _ ((Kp.refl _ _).alloc _)
  have HBF := Lib.hid hbf
  have HK7 := Lib.hid hk7
  clear hk6 hbz hbf hk7
  go_upto_region 4 with fail
  obtain ⟨Bg, hBg⟩ : ∃ Bg, w6.heap.size = Bg := ⟨_, rfl⟩
  generalize (w6.alloc (.cells zero256 24)).setCells w6.heap.size 0 (bytesV (fullL 2)).toList = w7 at HBF HK7 ⊢
  rw [hBg] at HBF ⊢
  have hBg7 : Hid (w6.heap.size = Bg) := Lib.hid hBg
  clear hBg tz
  go_wp2_with (first
    | (show wpList _ _ _ (⟨some 20, _, _, _, _, _⟩ :: _) _ _; refine wpList_val _ (exBuildPg1 _ _ _ 4 _ _ _ _ _ rfl) ?_)
    | (show wpList _ _ _ (⟨some 21, _, _, _, _, _⟩ :: _) _ _; refine wpList_val _ (exSlicePg _ _ _ (pgA ⟨4, zeros 256⟩) _ _ _ _ _ rfl s4) ?_))
  have hok1 : ∀ x ∈ aw1L, PgOk x := by
    intro x hx
    unfold aw1L at hx
    simp only [List.mem_cons, List.not_mem_nil, or_false] at hx
    subst hx
    exact ⟨List.length_replicate .., zeros_rng 256, by show _ ≤ (4 : Int) ∧ (4 : Int) ≤ _; omega⟩
  obtain ⟨S3, hq3, hS3⟩ := H7.out.base
  have hka : Kp NoB w7 (w7.alloc (.cells (pgA ⟨4, zeros 256⟩) 113)) := (Kp.refl _ _).alloc _
  have hpg : PgsAt (w7.alloc (.cells (pgA ⟨4, zeros 256⟩) 113)) (some ⟨w7.heap.size, 0, none⟩) 1 aw1L := pgs_blk (t := 113) (by
    have := Blk.new w7 113 (pgA ⟨4, zeros 256⟩)
    have e : pgA ⟨4, zeros 256⟩ = (pgsCells aw1L).toArray := by
      unfold pgsCells aw1L pgA
      simp
    rwa [e] at this ⊢) rfl hok1
  have hlt3 := hq3.lt
  have hnBg : Hid (Bg < w7.heap.size ∧ ¬ S3 Bg) := Lib.hid ⟨HBF.out.lt, fun q => by
    have h1 := hlt3 Bg q
    have h2 := hBg7.out
    omega⟩
  have hcm := commit_q (hq3.base1 (HK7.out.trans hka (fun _ _ q => q))) 4 (by omega) (some ⟨w7.heap.size, 0, none⟩) 1 1 aw1L hpg (fun g o e hn q => by injection e with e; injection e with e1 e2; have h1 := hlt3 g q; have h2 := HK7.out.size; omega) hok1 (by omega) HSM1.out
  clear hpg
  refine hcm.mono ?_
  clear hcm
  rintro e w8 ⟨rfl, h8⟩
  have h8' : Dq S3 (w7.alloc (.cells (pgA ⟨4, zeros 256⟩) 113)) w8 db awP2.1 := h8
  rw [show (awP1.1.jcommit 4 aw1L).2 = 2 from E.out.2.2.2.1]
  have hbf8 := (HBF.out.keep hka (fun q => q)).keep h8'.kp hnBg.out.2
  have h9 := Dq.tr (w0 := w) h8' ((H7.out.keep HK7.out).kp.trans hka (fun _ _ q => q.elim)) hS3 (fun b q => q.elim)
  have H9 := Lib.hid h9
  have HB8 := Lib.hid hbf8
  clear h8 h8' h9 hka hq3 hS3 hlt3 hok1 hbf8
  go_wp2_with fail
  have HPX : Hid (Kp NoB w w8) := Lib.hid H9.out.kp
  refine wp_region_held_drew (S := fun W' => W'.rangeAt Bg 0 ((fullL 2).map (Value.int .u8))) (by kernel_rfl) (blk_rg8 HB8.out) (fun hHeld => ?_)
  have h0 : Blk w8.drew Bg 24 (bytesV (fullL 2)) := HB8.out
  have hk0 : Kp NoB w8 w8.drew := (Kp.refl NoB w8).drew
  have hi1 : (Try.prog.info? 24).map (·.size) = some ((fullL 2).map (Value.int .u8)).length := by rw [List.length_map, l2]; exact info26
  have hu := Try.underlying24
  generalize w8.drew = W0 at h0 hk0 hHeld ⊢
  refine wpAnyH_takeL (i := 0) (v := (.int .i64 0)) rfl (by kernel_rfl) (by kernel_rfl) (by kernel_rfl) (fun _ _ _ h => h) (Or.inl ⟨by rfl, fun w' hq => by go_simp⟩) (blk_rg8 h0) ?_
  simp only [Act.put, List.setIfInBounds_toArray, List.set_cons_zero, List.set_cons_succ]
  refine wpAnyH_takeL (i := 1) (v := (.bool true)) rfl (by kernel_rfl) (by kernel_rfl) (by kernel_rfl) (fun _ _ _ h => h) (Or.inl ⟨by rfl, fun w' hq => by go_simp⟩) (blk_rg8 h0) ?_
  simp only [Act.put, List.setIfInBounds_toArray, List.set_cons_zero, List.set_cons_succ]
  refine wpAnyH_takeL (i := 2) (v := (.bool true)) rfl (by kernel_rfl) (by kernel_rfl) (by kernel_rfl) (fun _ _ _ h => h) (Or.inl ⟨by rfl, fun w' hq => by go_simp⟩) (blk_rg8 h0) ?_
  simp only [Act.put, List.setIfInBounds_toArray, List.set_cons_zero, List.set_cons_succ]
  refine wpAnyH_takeL (i := 3) (v := (.int .i64 0)) rfl (by kernel_rfl) (by kernel_rfl) (by kernel_rfl) (fun _ _ _ h => h) (Or.inl ⟨by rfl, fun w' hq => by go_simp⟩) (blk_rg8 h0) ?_
  simp only [Act.put, List.setIfInBounds_toArray, List.set_cons_zero, List.set_cons_succ]
  refine wpAnyH_takeL (i := 4) (v := (.bool true)) rfl (by kernel_rfl) (by kernel_rfl) (by kernel_rfl) (fun _ _ _ h => h) (Or.inl ⟨by rfl, fun w' hq => by go_simp⟩) (blk_rg8 h0) ?_
  simp only [Act.put, List.setIfInBounds_toArray, List.set_cons_zero, List.set_cons_succ]
  refine wpAnyH_takeL (i := 5) (v := (.bool true)) rfl (by kernel_rfl) (by kernel_rfl) (by kernel_rfl) (fun _ _ _ h => h) (Or.inl ⟨by rfl, fun w' hq => by go_simp⟩) (blk_rg8 h0) ?_
  simp only [Act.put, List.setIfInBounds_toArray, List.set_cons_zero, List.set_cons_succ]
  refine wpAnyH_takeL (i := 6) (v := (.bool true)) rfl (by kernel_rfl) (by kernel_rfl) (by kernel_rfl) (fun _ _ _ h => h) (Or.inl ⟨by rfl, fun w' hq => by go_simp⟩) (blk_rg8 h0) ?_
  simp only [Act.put, List.setIfInBounds_toArray, List.set_cons_zero, List.set_cons_succ]
  refine wpAnyH_takeL (i := 7) (v := .agg (((fullL 2).map (Value.int .u8))).toArray) rfl (by kernel_rfl) (by kernel_rfl) (by kernel_rfl) (fun _ _ _ h => h) (yieldsIf_load_mid (by rfl) _ _ rfl _ _ rfl ((fullL 2).map (Value.int .u8)) _ (fun _ q => q) hu rfl hi1) (blk_rg8 h0) ?_
  simp only [Act.put, List.setIfInBounds_toArray, List.set_cons_zero, List.set_cons_succ]
  refine wpAnyH_ready (rs := [8]) (by kernel_rfl) (by simp) ?_
  refine AllReadyH.callR (fun x W' => x = .agg (bytesV (fullL 2)) ∧ Blk W' Bg 24 (bytesV (fullL 2)) ∧ Kp NoB w8 W') rfl (by rfl) 68 #[.int .u8 2] (by first | (go_simp; done) | (go_simp; rfl)) (fun _ _ q => (blk_rg8 q.2.1)) ((full_ok W0 2).mono (by rintro e w19 ⟨rfl, hk⟩; exact ⟨_, rfl, rfl, h0.keep hk (fun q => q), hk0.trans hk (fun _ _ q => q)⟩)) ?_ AllReadyH.nil
  rintro _ W1 ⟨rfl, h1, hk1⟩
  simp only [Act.put, List.setIfInBounds_toArray, List.set_cons_zero, List.set_cons_succ]
  refine wpAnyH_takeL (i := 9) (v := .bool true) rfl (by kernel_rfl) (by kernel_rfl) (by kernel_rfl) (fun _ _ _ h => h) (Or.inl ⟨by rfl, fun w' hq => eqTrue w' _ _ _ _ rfl rfl l2⟩) (blk_rg8 h1) ?_
  simp only [Act.put, List.setIfInBounds_toArray, List.set_cons_zero, List.set_cons_succ]
  refine wpAnyH_takeL (i := 10) (v := (.bool true)) rfl (by kernel_rfl) (by kernel_rfl) (by kernel_rfl) (fun _ _ _ h => h) (Or.inl ⟨by rfl, fun w' hq => by go_simp⟩) (blk_rg8 h1) ?_
  simp only [Act.put, List.setIfInBounds_toArray, List.set_cons_zero, List.set_cons_succ]
  refine wpAnyH_takeL (i := 11) (v := (.bool true)) rfl (by kernel_rfl) (by kernel_rfl) (by kernel_rfl) (fun _ _ _ h => h) (Or.inl ⟨by rfl, fun w' hq => by go_simp⟩) (blk_rg8 h1) ?_
  simp only [Act.put, List.setIfInBounds_toArray, List.set_cons_zero, List.set_cons_succ]
  refine wpAnyH_takeL (i := 12) (v := (.int .i64 2)) rfl (by kernel_rfl) (by kernel_rfl) (by kernel_rfl) (fun _ _ _ h => h) (Or.inl ⟨by rfl, fun w' hq => by go_simp⟩) (blk_rg8 h1) ?_
  simp only [Act.put, List.setIfInBounds_toArray, List.set_cons_zero, List.set_cons_succ]
  refine wpAnyH_takeL (i := 13) (v := (.bool true)) rfl (by kernel_rfl) (by kernel_rfl) (by kernel_rfl) (fun _ _ _ h => h) (Or.inl ⟨by rfl, fun w' hq => by go_simp⟩) (blk_rg8 h1) ?_
  simp only [Act.put, List.setIfInBounds_toArray, List.set_cons_zero, List.set_cons_succ]
  refine wpAnyH_takeL (i := 14) (v := (.bool true)) rfl (by kernel_rfl) (by kernel_rfl) (by kernel_rfl) (fun _ _ _ h => h) (Or.inl ⟨by rfl, fun w' hq => by go_simp⟩) (blk_rg8 h1) ?_
  simp only [Act.put, List.setIfInBounds_toArray, List.set_cons_zero, List.set_cons_succ]
  refine wpAnyH_takeL (i := 15) (v := (.bool true)) rfl (by kernel_rfl) (by kernel_rfl) (by kernel_rfl) (fun _ _ _ h => h) (Or.inl ⟨by rfl, fun w' hq => by go_simp⟩) (blk_rg8 h1) ?_
  simp only [Act.put, List.setIfInBounds_toArray, List.set_cons_zero, List.set_cons_succ]
  refine wpAnyH_takeL (i := 16) (v := (ptrV db)) rfl (by kernel_rfl) (by kernel_rfl) (by kernel_rfl) (fun _ _ _ h => h) (Or.inl ⟨by rfl, fun w' hq => by go_simp⟩) (blk_rg8 h1) ?_
  simp only [Act.put, List.setIfInBounds_toArray, List.set_cons_zero, List.set_cons_succ]
  refine wpAnyH_ready (rs := [17]) (by kernel_rfl) (by simp) ?_
  refine AllReadyH.callR (fun x W' => x = .int .i64 2 ∧ Blk W' Bg 24 (bytesV (fullL 2)) ∧ Kp NoB w8 W') rfl (by rfl) 14 #[ptrV db] (by first | (go_simp; done) | (go_simp; rfl)) (fun _ _ q => (blk_rg8 q.2.1)) ((count_q (H9.out.keep hk1)).mono (by rintro e w19 ⟨rfl, rfl⟩; exact ⟨_, rfl, by rw [E.out.2.2.2.2.1]; rfl, h1, hk1⟩)) ?_ AllReadyH.nil
  rintro _ W2 ⟨rfl, h2, hk2⟩
  simp only [Act.put, List.setIfInBounds_toArray, List.set_cons_zero, List.set_cons_succ]
  refine wpAnyH_takeL (i := 18) (v := (.bool true)) rfl (by kernel_rfl) (by kernel_rfl) (by kernel_rfl) (fun _ _ _ h => h) (Or.inl ⟨by rfl, fun w' hq => by go_simp⟩) (blk_rg8 h2) ?_
  simp only [Act.put, List.setIfInBounds_toArray, List.set_cons_zero, List.set_cons_succ]
  refine wpAnyH_takeL (i := 19) (v := (.bool true)) rfl (by kernel_rfl) (by kernel_rfl) (by kernel_rfl) (fun _ _ _ h => h) (Or.inl ⟨by rfl, fun w' hq => by go_simp⟩) (blk_rg8 h2) ?_
  simp only [Act.put, List.setIfInBounds_toArray, List.set_cons_zero, List.set_cons_succ]
  refine wpAnyH_takeL (i := 20) (v := (.bool true)) rfl (by kernel_rfl) (by kernel_rfl) (by kernel_rfl) (fun _ _ _ h => h) (Or.inl ⟨by rfl, fun w' hq => by go_simp⟩) (blk_rg8 h2) ?_
  simp only [Act.put, List.setIfInBounds_toArray, List.set_cons_zero, List.set_cons_succ]
  refine wpAnyH_takeL (i := 21) (v := (ptrV db)) rfl (by kernel_rfl) (by kernel_rfl) (by kernel_rfl) (fun _ _ _ h => h) (Or.inl ⟨by rfl, fun w' hq => by go_simp⟩) (blk_rg8 h2) ?_
  simp only [Act.put, List.setIfInBounds_toArray, List.set_cons_zero, List.set_cons_succ]
  refine wpAnyH_ready (rs := [22]) (by kernel_rfl) (by simp) ?_
  refine AllReadyH.callR (fun x W' => x = .bool false ∧ Blk W' Bg 24 (bytesV (fullL 2)) ∧ Kp NoB w8 W') rfl (by rfl) 15 #[ptrV db] (by first | (go_simp; done) | (go_simp; rfl)) (fun _ _ q => (blk_rg8 q.2.1)) ((hot_q (H9.out.keep hk2)).mono (by rintro e w19 ⟨rfl, hk⟩; exact ⟨_, rfl, by rw [E.out.2.2.2.2.2.1], h2.keep hk (fun q => q), hk2.trans hk (fun _ _ q => q)⟩)) ?_ AllReadyH.nil
  rintro _ W3 ⟨rfl, h3, hk3⟩
  simp only [Act.put, List.setIfInBounds_toArray, List.set_cons_zero, List.set_cons_succ]
  refine wpAnyH_takeL (i := 23) (v := (.bool true)) rfl (by kernel_rfl) (by kernel_rfl) (by kernel_rfl) (fun _ _ _ h => h) (Or.inl ⟨by rfl, fun w' hq => by go_simp⟩) (blk_rg8 h3) ?_
  simp only [Act.put, List.setIfInBounds_toArray, List.set_cons_zero, List.set_cons_succ]
  refine wpAnyH_takeL (i := 24) (v := (.bool true)) rfl (by kernel_rfl) (by kernel_rfl) (by kernel_rfl) (fun _ _ _ h => h) (Or.inl ⟨by rfl, fun w' hq => by go_simp⟩) (blk_rg8 h3) ?_
  simp only [Act.put, List.setIfInBounds_toArray, List.set_cons_zero, List.set_cons_succ]
  refine wpAnyH_takeL (i := 25) (v := (.bool true)) rfl (by kernel_rfl) (by kernel_rfl) (by kernel_rfl) (fun _ _ _ h => h) (Or.inl ⟨by rfl, fun w' hq => by go_simp⟩) (blk_rg8 h3) ?_
  simp only [Act.put, List.setIfInBounds_toArray, List.set_cons_zero, List.set_cons_succ]
  refine wpAnyH_done (by kernel_rfl) ?_ _
  have HK9 := Lib.hid (HPX.out.trans hk3 (fun _ _ q => q))
  clear hHeld h0 h1 h2 h3 hk0 hk1 hk2 hk3 hi1 hu
  go_wp2_with fail
  go_ret
  exact ⟨rfl, HK9.out⟩
end Go.Proofs.Ytegcbdfilkecpaa
/- The journal: all pages told, as a list; no condition but on the counts. -/
namespace Go.Proofs.Ytegcbdfilkecpaa
open Go.RowKit

/-- pages without numbers, their cells one behind the other -/
def rawCells (l : List (List Int)) : List Value := l.flatMap fun b => b.map (Value.int .u8)
def rawOk (l : List (List Int)) : Prop := ∀ b ∈ l, b.length = 256 ∧ ∀ y ∈ b, 0 ≤ y ∧ y < 256
def OwnRaw (w : World) (n0 : Nat) (v : Value) (l : List (List Int)) : Prop := w.ownsRow n0 24 256 v l.length (rawCells l) ∧ rawOk l
theorem infoPg26 : (Try.prog.info? 24).map (fun i => (i.zero, i.size, i.bytes)) = some (some (.agg zero256), 256, 256) := by kernel_rfl
theorem sliceP1 (w : World) (cs : Array Value) (hs : cs.size = 256) : (Instr.buildSlice 38 1 #[(0, .agg cs)]).run Try.prog w = .ok (.slice (some ⟨w.heap.size, 0, none⟩) 1 1) (w.alloc (.cells cs 24)) := by
  obtain ⟨i, hi, h0, h1, h2⟩ := info_parts infoPg26
  have hu := Try.underlying38
  have hc : (Value.agg cs).cells = cs := rfl
  have hf : ∀ Z : Array Value, Z.size = 256 → Instr.fill (fun i => some (i * 256, 256)) Z [(0, .agg cs)] = some cs := fun Z hZ => by
    have := Go.Great.fill_whole (s := 256) (by omega) [.agg cs] Z (by simp [hc, hs]) (by simp [hZ])
    simpa [hc] using this
  simp [Instr.buildSlice, run_underlying hu, sizeOf, typeInfo, hi, h1, zeroValue26, newRow, newObj]
  rw [hf _ (by simp)]
  rfl
theorem exSliceP1 (w : World) (ev : Operand → Value) (x : Operand) (cs : Array Value) (ds : Option Tmp) (ty : TypeId) (ps : String) (af : Array Edge) (g : Option (Nat × Bool)) (hx : ev x = .agg cs) (hs : cs.size = 256) :
    (execOp ev ⟨ds, .buildSlice 38 1 #[(0, x)], ty, ps, af, g⟩).run Try.prog w = .ok (.value (.slice (some ⟨w.heap.size, 0, none⟩) 1 1)) (w.alloc (.cells cs 24)) := by
  simp only [execOp, List.map_toArray, List.map_cons, List.map_nil, hx, Sem.run_bind, sliceP1 w cs hs, Result.andThen_ok]
  rfl
theorem raw_new (w : World) (b : List Int) : ∀ j u, (b.map (Value.int .u8))[j]? = some u → (w.alloc (.cells (bytesV b) 24)).cell? ((⟨w.heap.size, 0, none⟩ : Addr).add j) = some u := by
  intro j u hj
  rw [add_mk, Nat.zero_add, (Blk.new w 24 (bytesV b)).cell]
  unfold bytesV
  rw [List.getElem?_toArray]
  exact hj
/-- all pages of a database of s -/
def allPg (db : List Int) (s : Nat) : List (List Int) := (List.range' 1 s).map (pageOf db)
theorem allPg_next (db : List Int) (k : Nat) : allPg db (k + 1) = allPg db k ++ [pageOf db (k + 1)] := by
  unfold allPg
  rw [List.range'_concat, List.map_append]
  simp [Nat.add_comm]
theorem allPg_len (db : List Int) (k : Nat) : (allPg db k).length = k := by simp [allPg]
theorem allPg_ok {db : List Int} (h : ∀ y ∈ db, 0 ≤ y ∧ y < 256) (k : Nat) : rawOk (allPg db k) := fun b hb => by
  unfold allPg at hb
  obtain ⟨n, _, rfl⟩ := List.mem_map.1 hb
  exact ⟨sizedF_len _ _, sizedF_rng (fun y hy => h y (List.mem_of_mem_drop hy)) _⟩
section
variable {S : Nat → Prop} {W0 w : World} {db : Nat} {p : Pl}
attribute [local go_sem ↓] load26 store26 alloc26 build26 exSliceP1
def TeRel (w : World) (sn : List Int) (s : Nat) (v3 v4 : Value) (wr : World) : Prop := ∃ k : Nat, v4 = .int .i64 ((k : Int) + 1) ∧ k ≤ s ∧ OwnRaw wr w.heap.size v3 (allPg sn k) ∧ Kp NoB w wr
set_option maxRecDepth 100000 in
set_option maxHeartbeats 1600000 in
theorem tell_q (h : Dq S W0 w db p) (hs : p.jcount ≤ 4096) : Calls Try.prog 18 #[ptrV db] w fun e w' => ∃ v, e = .returned v ∧ OwnRaw w' w.heap.size v (allPg (p.seen nmDb) p.jcount) ∧ Kp NoB w w' := by
  have H := Lib.hid h
  obtain ⟨s, hss⟩ : ∃ s, p.jcount = s := ⟨_, rfl⟩
  have HSS := Lib.hid hss
  rw [hss] at hs ⊢
  obtain ⟨sn, hsn⟩ : ∃ sn, p.seen nmDb = sn := ⟨_, rfl⟩
  have HSN := Lib.hid hsn
  have HRG : Hid (∀ y ∈ sn, 0 ≤ y ∧ y < 256) := Lib.hid (by rw [← hsn]; exact h.seen_rng nmDb)
  rw [hsn]
  obtain ⟨j0, hj0, hy0, hy1, hy2⟩ := info_parts infoPg26
  have HJ0 := Lib.hid hj0
  have HY0 := Lib.hid hy0
  have HY1 := Lib.hid hy1
  have HY2 := Lib.hid hy2
  clear h hss hsn hj0 hy0 hy1 hy2
  unfold ptrV
  go_enter Try.func18, Try.ntmps18
  go_wp2_with fail
  go_loopw [3, 4] (fun v3 v4 wr => TeRel w sn s v3 v4 wr) (fun _ v _ => s + 1 - (intOf v).toNat)
  case atStart => exact ⟨0, rfl, Nat.zero_le _, ⟨World.ownsRow_nil _ _ _ _, by intro b hb; simp [allPg] at hb⟩, Kp.refl _ _⟩
  case round =>
    obtain ⟨k, rfl, hk, how, hkp⟩ := hrel
    have HOW := Lib.hid how
    have HKP := Lib.hid hkp
    obtain ⟨A3, c3, rfl⟩ := own_slice how.1
    rw [allPg_len] at how
    have HOW1 := Lib.hid how.1
    clear how hkp
    rw [allPg_len]
    go_wp2_with fail
    refine (show Calls _ _ #[ptrV db] _ _ from count_q (H.out.keep HKP.out)).mono ?_
    rintro e w2 ⟨rfl, rfl⟩
    rw [HSS.out]
    by_cases hlt : k < s
    · have hkk : (k : Int) + 1 ≤ (s : Int) := by omega
      have hkk2 : ¬ (s : Int) < (k : Int) + 1 := by omega
      go_wp2_with fail
      refine (show Calls _ _ #[ptrV db, .int .i64 ((k : Int) + 1)] _ _ from page_q (H.out.keep HKP.out) ((k : Int) + 1) (by omega)).mono ?_
      rintro e w3 ⟨rfl, hk3⟩
      have hup : p.down = false := by
        rcases hd : p.down with _ | _
        · rfl
        · have h1 : p.jcount = 0 := by unfold Pl.jcount Pl.len; rw [hd]; simp
          have := HSS.out
          omega
      have eE : p.jpageE ((k : Int) + 1) = 0 := by unfold Pl.jpageE; rw [hup, HSS.out, if_neg (by simp), if_neg (by omega)]
      have eP : p.jpage ((k : Int) + 1) = pageOf sn (k + 1) := by
        unfold Pl.jpage
        rw [eE, if_pos rfl, HSN.out]
        rfl
      rw [eE, eP]
      obtain ⟨pg, hpg⟩ : ∃ pg, pageOf sn (k + 1) = pg := ⟨_, rfl⟩
      have hpl : pg.length = 256 := by rw [← hpg]; exact sizedF_len _ _
      rw [hpg]
      have HPG := Lib.hid hpg
      have HPL := Lib.hid hpl
      have hb := Blk.new w3 24 zero256
      have hb2 := hb.whole (bytesV pg) (by rw [zero256_eq, bytesV_size, bytesV_size, hpl]; rfl)
      have t1 := hb.thereAll 256 (by rw [zero256_eq, bytesV_size]; rfl)
      have o1 := bytesV_one pg
      have s1 : (bytesV pg).size = 256 := by rw [bytesV_size, hpl]
      have t2 := hb2.thereAll 256 s1
      have r2 := hb2.readAll 256 s1
      have hk4 : Kp NoB wr ((w3.alloc (.cells zero256 24)).setCells w3.heap.size 0 (bytesV pg).toList) := Kp.setCells (.inl hk3.size) _ _ _ (hk3.alloc _)
      have HK4 := Lib.hid hk4
      obtain ⟨RR, hRR⟩ : ∃ RR, bytesV pg = RR := ⟨_, rfl⟩
      rw [hRR] at t2 r2 o1 s1 HK4 ⊢
      have HRR := Lib.hid hRR
      clear eE eP hpg hpl hb hb2 hk4 hRR hk3 hup
      go_upto_region 6 with fail
      generalize (w3.alloc (.cells zero256 24)).setCells w3.heap.size 0 RR.toList = w4 at t2 r2 HK4 ⊢
      obtain ⟨G, hG⟩ : ∃ G, w3.heap.size = G := ⟨_, rfl⟩
      rw [hG] at t2 r2 ⊢
      clear hG t1
      go_wp2_with fail
      have hcn := raw_new w4 pg
      rw [HRR.out] at hcn
      have hown4 := own_keepB HOW1.out (HK4.out.alloc (.cells RR 24)) (fun _ _ q => q)
      rw [allPg_len] at hown4
      refine wp_append_ownB (.tmp 19) (.tmp 21) 38 rfl w.heap.size 24 j0 _ 256 256 Try.underlying38 HJ0.out HY0.out HY1.out HY2.out (by rw [show (Value.agg zero256).cells = zero256 from rfl, zero256_eq, bytesV_size]; rfl) (by omega) (.slice A3 k c3) k (rawCells (allPg sn k)) rfl
        hown4 ⟨w4.heap.size, 0, none⟩ 1 1 (pg.map (Value.int .u8)) rfl (by rw [List.length_map, HPL.out]) hcn (u8_one pg) (by unfold maxLen; omega) (by omega) (by have h1 := HKP.out.size; have h2 := HK4.out.size; simp; omega) ?_
      intro v7 w7 hown7 hgrow7 hb7
      obtain ⟨A7, c7, rfl⟩ := own_slice hown7
      have hk7 := ((HKP.out.trans HK4.out (fun _ _ q => q)).alloc (.cells RR 24)).own hgrow7 rfl HOW1.out
      have HK7 := Lib.hid hk7
      have HO7 := Lib.hid hown7
      clear hown7 hgrow7 hb7 hk7 hcn hown4 t2 r2
      go_wp2_with fail
      refine ⟨⟨k + 1, rfl, by omega, ⟨?_, allPg_ok HRG.out _⟩, HK7.out⟩, by simp [intOf]; omega⟩
      have h := HO7.out
      have e : rawCells (allPg sn (k + 1)) = rawCells (allPg sn k) ++ pg.map (Value.int .u8) := by
        unfold rawCells
        rw [allPg_next, List.flatMap_append, HPG.out]
        simp
      rw [e, allPg_len]
      exact h
    · have hkk : ¬ (k : Int) + 1 ≤ (s : Int) := by omega
      obtain rfl : k = s := by omega
      go_wp2_with fail
      go_ret
      have h := HOW.out
      rw [allPg_len] at h
      exact ⟨_, rfl, h, HKP.out⟩
end
end Go.Proofs.Ytegcbdfilkecpaa
/- The journal: two lists of pages held against each other; no condition but on the counts. -/
namespace Go.Proofs.Ytegcbdfilkecpaa
open Go.RowKit

def RawsAt (w : World) (A : Option Addr) (n : Nat) (l : List (List Int)) : Prop := Rows w A n 256 (l.map fun b => b.map (Value.int .u8))
theorem RawsAt.len {w : World} {A : Option Addr} {n : Nat} {l : List (List Int)} (h : RawsAt w A n l) : l.length = n := by have := h.1; simpa using this
theorem RawsAt.keep {w w' : World} {A : Option Addr} {n : Nat} {l : List (List Int)} (h : RawsAt w A n l) (k : Kp NoB w w') : RawsAt w' A n l := Rows.keep h k
theorem raws_own {w : World} {n0 n cap : Nat} {A : Option Addr} {l : List (List Int)} (h : OwnRaw w n0 (.slice A n cap) l) (hn : l.length = n) : RawsAt w A n l := by
  subst hn
  refine Rows.own (base := n0) (cap := cap) (e := 24) ?_ (by simp) ?_
  · have h1 := h.1
    unfold rawCells at h1
    rw [List.flatMap_def] at h1
    exact h1
  · intro x hx
    obtain ⟨y, hy, rfl⟩ := List.mem_map.1 hx
    rw [List.length_map]
    exact (h.2 y hy).1
theorem RawsAt.at_ {w : World} {A : Option Addr} {n : Nat} {l : List (List Int)} (h : RawsAt w A n l) (k : Nat) (hk : k < n) : ∃ g o, A = some ⟨g, o, none⟩ ∧ g < w.heap.size ∧ w.rangeAt g (o + k * 256) ((l[k]'(by rw [h.len]; exact hk)).map (Value.int .u8)) := by
  have hkl : k < (l.map fun (b : List Int) => b.map (Value.int .u8)).length := by have := h.1; omega
  obtain ⟨g, o, t, cs, e, hb, hs, hc⟩ := h.2.2 (by omega)
  refine ⟨g, o, e, hb.lt, fun j v hj => ?_⟩
  have hl : ((l.map fun (b : List Int) => b.map (Value.int .u8))[k]).length = 256 := h.2.1 _ (List.getElem_mem hkl)
  have hjl : j < 256 := by
    have h1 := (List.getElem?_eq_some_iff.1 hj).1
    simp only [List.getElem_map] at hl
    omega
  rw [hb.cell, hc k hkl j hjl]
  simp only [List.getElem_map]
  exact hj
theorem neqPg (w : World) (ev : Operand → Value) (ds : Option Tmp) {x y : Operand} {a b : List Int} {yt : TypeId} (ty : TypeId) (ps : String) {af : Array Edge} {g : Option (Nat × Bool)} (d : Bool) (hx : ev x = .agg (a.map (Value.int .u8)).toArray) (hy : ev y = .agg (b.map (Value.int .u8)).toArray) (ha : a.length = 256) (hb : b.length = 256) (hd : d = decide (a ≠ b)) :
    (execOp ev ⟨ds, .binOp .neq 24 x y yt, ty, ps, af, g⟩).run Try.prog w = .ok (.value (.bool d)) w := by
  have := neq26 w ev ds x y yt ty ps af g (by rw [hx]; exact pgOK_bytes a ha) (by rw [hy]; exact pgOK_bytes b hb)
  rw [this, hx, hy, hd]
  congr 3
  rw [Bool.eq_iff_iff, decide_eq_true_iff]
  constructor
  · intro h e
    subst e
    rw [valEq_self] at h
    cases h
  · intro h
    rcases hv : valEq (.agg (a.map (Value.int .u8)).toArray) (.agg (b.map (Value.int .u8)).toArray) with _ | _
    · rfl
    · exact absurd (bytesV_inj (by have := (valEq_iff _ _).1 hv; injection this)) h
section
attribute [local go_sem ↓] load26 store26 alloc26 build26
def SaRel (w : World) (la lb : List (List Int)) (v : Value) (wr : World) : Prop := ∃ k : Nat, v = .int .i64 (k : Int) ∧ k ≤ la.length ∧ la.take k = lb.take k ∧ Kp NoB w wr
set_option maxRecDepth 100000 in
set_option maxHeartbeats 1600000 in
theorem same_q (w : World) (A B : Option Addr) (m n ca cb : Nat) (la lb : List (List Int)) (ha : RawsAt w A m la) (hb : RawsAt w B n lb) (oka : rawOk la) (okb : rawOk lb) (hm : m < 1099511627776) (hn : n < 1099511627776) :
    Calls Try.prog 21 #[.slice A m ca, .slice B n cb] w fun e w' => e = .returned (.bool (decide (la = lb))) ∧ Kp NoB w w' := by
  have HA := Lib.hid ha
  have HB := Lib.hid hb
  have OA := Lib.hid oka
  have OB := Lib.hid okb
  have LA := Lib.hid ha.len
  have LB := Lib.hid hb.len
  clear ha hb oka okb
  by_cases hmn : m = n
  · subst hmn
    obtain ⟨D, hD⟩ : ∃ D, decide (la = lb) = D := ⟨_, rfl⟩
    have HD := Lib.hid hD
    rw [hD]
    clear hD
    have hmm : ((m : Int) != (m : Int)) = false := by simp
    go_enter Try.func21, Try.ntmps21
    go_wp2_with fail
    go_loopw [5] (fun v wr => SaRel w la lb v wr) (fun v _ => m - (intOf v).toNat)
    case atStart => exact ⟨0, rfl, Nat.zero_le _, by simp, Kp.refl _ _⟩
    case round =>
      obtain ⟨k, rfl, hk, htk, hkp⟩ := hrel
      have HT := Lib.hid htk
      have HK := Lib.hid hkp
      have hra := HA.out.keep hkp
      have hrb := HB.out.keep hkp
      clear htk hkp
      by_cases hlt : k < m
      · have hkk : (k : Int) < (m : Int) := by omega
        obtain ⟨ga, oa, rfl, hga, hca⟩ := hra.at_ k hlt
        obtain ⟨gb, ob, rfl, hgb, hcb⟩ := hrb.at_ k hlt
        obtain ⟨x, hx⟩ : ∃ x, la[k]'(by rw [LA.out]; exact hlt) = x := ⟨_, rfl⟩
        obtain ⟨y, hy⟩ : ∃ y, lb[k]'(by rw [LB.out]; exact hlt) = y := ⟨_, rfl⟩
        have hxo := (OA.out x (by rw [← hx]; exact List.getElem_mem _)).1
        have hyo := (OB.out y (by rw [← hy]; exact List.getElem_mem _)).1
        rw [hx] at hca
        rw [hy] at hcb
        have HX := Lib.hid (show la[k]? = some x by rw [List.getElem?_eq_getElem (by rw [LA.out]; exact hlt), hx])
        have HY := Lib.hid (show lb[k]? = some y by rw [List.getElem?_eq_getElem (by rw [LB.out]; exact hlt), hy])
        clear hra hrb hx hy
        go_upto_region 6 with fail
        refine wp_region_held_drew (S := fun W' => W'.rangeAt ga (oa + k * 256) (x.map (Value.int .u8)) ∧ W'.rangeAt gb (ob + k * 256) (y.map (Value.int .u8))) (by kernel_rfl) ⟨hca, hcb⟩ (fun hHeld => ?_)
        have hs0 : wr.drew.rangeAt ga (oa + k * 256) (x.map (Value.int .u8)) ∧ wr.drew.rangeAt gb (ob + k * 256) (y.map (Value.int .u8)) := ⟨hca, hcb⟩
        have HK0 := Lib.hid (HK.out.drew)
        have hix : (Try.prog.info? 24).map (·.size) = some (x.map (Value.int .u8)).length := by rw [List.length_map, hxo]; exact info26
        have hiy : (Try.prog.info? 24).map (·.size) = some (y.map (Value.int .u8)).length := by rw [List.length_map, hyo]; exact info26
        have hu := Try.underlying24
        generalize wr.drew = W0 at hs0 hHeld HK0 ⊢
        refine wpAnyH_takeL (i := 0) (v := (.slice (some ⟨ga, oa, none⟩) m ca)) rfl (by kernel_rfl) (by kernel_rfl) (by kernel_rfl) (fun _ _ _ h => h) (Or.inl ⟨by rfl, fun w' hq => by go_simp⟩) hs0 ?_
        simp only [Act.put, List.setIfInBounds_toArray, List.set_cons_zero, List.set_cons_succ]
        refine wpAnyH_takeL (i := 1) (v := (.int .i64 (k : Int))) rfl (by kernel_rfl) (by kernel_rfl) (by kernel_rfl) (fun _ _ _ h => h) (Or.inl ⟨by rfl, fun w' hq => by go_simp⟩) hs0 ?_
        simp only [Act.put, List.setIfInBounds_toArray, List.set_cons_zero, List.set_cons_succ]
        refine wpAnyH_takeL (i := 2) (v := (.pointer (some ⟨ga, oa + k * 256, none⟩))) rfl (by kernel_rfl) (by kernel_rfl) (by kernel_rfl) (fun _ _ _ h => h) (Or.inl ⟨by rfl, fun w' hq => by go_simp⟩) hs0 ?_
        simp only [Act.put, List.setIfInBounds_toArray, List.set_cons_zero, List.set_cons_succ]
        refine wpAnyH_takeL (i := 3) (v := .agg ((x.map (Value.int .u8))).toArray) rfl (by kernel_rfl) (by kernel_rfl) (by kernel_rfl) (fun _ _ _ h => h) (yieldsIf_load_mid (by rfl) _ _ rfl _ _ rfl (x.map (Value.int .u8)) _ (fun _ q => q.1) hu rfl hix) hs0 ?_
        simp only [Act.put, List.setIfInBounds_toArray, List.set_cons_zero, List.set_cons_succ]
        refine wpAnyH_takeL (i := 4) (v := (.slice (some ⟨gb, ob, none⟩) m cb)) rfl (by kernel_rfl) (by kernel_rfl) (by kernel_rfl) (fun _ _ _ h => h) (Or.inl ⟨by rfl, fun w' hq => by go_simp⟩) hs0 ?_
        simp only [Act.put, List.setIfInBounds_toArray, List.set_cons_zero, List.set_cons_succ]
        refine wpAnyH_takeL (i := 5) (v := (.int .i64 (k : Int))) rfl (by kernel_rfl) (by kernel_rfl) (by kernel_rfl) (fun _ _ _ h => h) (Or.inl ⟨by rfl, fun w' hq => by go_simp⟩) hs0 ?_
        simp only [Act.put, List.setIfInBounds_toArray, List.set_cons_zero, List.set_cons_succ]
        refine wpAnyH_takeL (i := 6) (v := (.pointer (some ⟨gb, ob + k * 256, none⟩))) rfl (by kernel_rfl) (by kernel_rfl) (by kernel_rfl) (fun _ _ _ h => h) (Or.inl ⟨by rfl, fun w' hq => by go_simp⟩) hs0 ?_
        simp only [Act.put, List.setIfInBounds_toArray, List.set_cons_zero, List.set_cons_succ]
        refine wpAnyH_takeL (i := 7) (v := .agg ((y.map (Value.int .u8))).toArray) rfl (by kernel_rfl) (by kernel_rfl) (by kernel_rfl) (fun _ _ _ h => h) (yieldsIf_load_mid (by rfl) _ _ rfl _ _ rfl (y.map (Value.int .u8)) _ (fun _ q => q.2) hu rfl hiy) hs0 ?_
        simp only [Act.put, List.setIfInBounds_toArray, List.set_cons_zero, List.set_cons_succ]
        obtain ⟨dd, hdd⟩ : ∃ dd, decide (x ≠ y) = dd := ⟨_, rfl⟩
        refine wpAnyH_takeL (i := 8) (v := .bool dd) rfl (by kernel_rfl) (by kernel_rfl) (by kernel_rfl) (fun _ _ _ h => h) (Or.inl ⟨by rfl, fun w' hq => neqPg w' _ _ _ _ dd rfl rfl hxo hyo hdd.symm⟩) hs0 ?_
        simp only [Act.put, List.setIfInBounds_toArray, List.set_cons_zero, List.set_cons_succ]
        refine wpAnyH_done (by kernel_rfl) ?_ _
        have HDD := Lib.hid hdd
        clear hHeld hs0 hix hiy hu hca hcb hdd
        rcases dd with _ | _
        · have HEQ : Hid (x = y) := Lib.hid (by have := of_decide_eq_false HDD.out; simpa using this)
          go_wp2_with fail
          refine ⟨⟨k + 1, by congr 1, by have := LA.out; omega, ?_, HK0.out⟩, by simp [intOf]; omega⟩
          rw [List.take_add_one, List.take_add_one, HT.out, HX.out, HY.out, HEQ.out]
        · have HNE : Hid (x ≠ y) := Lib.hid (of_decide_eq_true HDD.out)
          have HF : Hid (D = false) := Lib.hid (by
            rw [← HD.out, decide_eq_false_iff_not]
            intro e
            have h1 := HX.out
            rw [e, HY.out] at h1
            injection h1 with h1
            exact HNE.out h1.symm)
          go_wp2_with fail
          go_ret
          exact ⟨by rw [HF.out]; rfl, HK0.out⟩
      · have hkk : ¬ (k : Int) < (m : Int) := by omega
        obtain rfl : k = m := by have := LA.out; omega
        have HF : Hid (D = true) := Lib.hid (by
          rw [← HD.out, decide_eq_true_iff]
          have h1 := HT.out
          rw [List.take_of_length_le (by rw [LA.out]; omega), List.take_of_length_le (by rw [LB.out]; omega)] at h1
          exact h1)
        clear hra hrb
        go_wp2_with fail
        go_ret
        exact ⟨by rw [HF.out]; rfl, HK.out⟩
  · have hd : decide (la = lb) = false := decide_eq_false (fun e => hmn (by rw [← LA.out, ← LB.out, e]))
    rw [hd]
    have h1 : ((m : Int) != (n : Int)) = true := by simp; omega
    have h2 : ((m : Int) == (n : Int)) = false := by simp; omega
    clear hd
    go_enter Try.func21, Try.ntmps21
    go_wp2_with fail
    go_ret
    exact ⟨rfl, Kp.refl _ _⟩
end
end Go.Proofs.Ytegcbdfilkecpaa
