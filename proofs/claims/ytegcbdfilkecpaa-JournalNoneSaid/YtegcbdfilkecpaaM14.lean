/- Texts of this proof, one behind the other: lemmas and contracts; each says its own conditions. -/
import Derived.Test.YtegcbdfilkecpaaM1
import Derived.Test.YtegcbdfilkecpaaM2
import Derived.Test.YtegcbdfilkecpaaM7
import Derived.Test.YtegcbdfilkecpaaM8
import Derived.Test.YtegcbdfilkecpaaM9
import Derived.Test.YtegcbdfilkecpaaM13
import Derived.ProofKit
import Derived.OpenShut
import Derived.ShutString
import Derived.ChangeOld
import Derived.Deep.Slices
import Derived.Deep.Fields
import Derived.ChangeSame
import Derived.Test.YtegcbdfilkecpaaRows
import Derived.SliceStrings
import Derived.DataShut
/- The journal: a page told; no condition but on the texts' lengths. -/
namespace Go.Proofs.Ytegcbdfilkecpaa
open Go.RowKit

section
variable {S : Nat → Prop} {W0 w : World} {db : Nat} {p : Pl}
attribute [local go_sem ↓] load26 store26 alloc26 build26
set_option maxRecDepth 100000 in
set_option maxHeartbeats 800000 in
theorem page_q (h : Dq S W0 w db p) (n : Int) (hn : -9223372036854775808 ≤ n ∧ n ≤ 9223372036854775807) :
    Calls Try.prog 11 #[ptrV db, .int .i64 n] w fun e w' => e = .returned (.tuple #[.agg (bytesV (p.jpage n)), .int .i64 (p.jpageE n)]) ∧ Kp NoB w w' := by
  have H := Lib.hid h
  have hb0 : Blk (w.alloc (.cells zero256 24)) w.heap.size 24 zero256 := Blk.new _ _ _
  have hk0 : Kp NoB w (w.alloc (.cells zero256 24)) := (Kp.refl _ _).alloc _
  have HB0 := Lib.hid hb0
  have HK0 := Lib.hid hk0
  clear h hb0 hk0
  unfold ptrV
  rcases hdn : p.down with _ | _
  · have HW0 : Hid (p.wrong = 0) := Lib.hid (by unfold Pl.wrong; rw [hdn]; rfl)
    have HE0 : Hid (p.jpageE n = if n < 1 ∨ (p.jcount : Int) < n then 4 else 0) := Lib.hid (by unfold Pl.jpageE; rw [hdn]; rfl)
    clear hdn
    by_cases h1 : n < 1
    · have HE1 : Hid (p.jpageE n = 4) := Lib.hid (by rw [HE0.out, if_pos (.inl h1)])
      have HP1 : Hid (bytesV (p.jpage n) = zero256) := Lib.hid (by unfold Pl.jpage; rw [HE1.out]; rfl)
      go_enter Try.func11, Try.ntmps11
      go_wp2_with fail
      refine (show Calls _ _ #[ptrV db] _ _ from ready_q (H.out.keep HK0.out)).mono ?_
      rintro e w2 ⟨rfl, hk⟩
      rw [HW0.out]
      have HK := Lib.hid hk
      have hb2 := HB0.out.keep hk (fun q => q)
      have HB2 := Lib.hid hb2
      have t2 : w2.there w.heap.size 0 256 := hb2.thereAll 256 (by rw [zero256_eq, bytesV_size]; rfl)
      have oz : ones zero256 := by rw [zero256_eq]; exact bytesV_one _
      have sz : zero256.size = 256 := by rw [zero256_eq, bytesV_size]; rfl
      have HSZ := Lib.hid sz
      clear hk hb2
      go_wp2_with fail
      refine bodyPost_ret (ret_cell_tmp rfl _ _ _ _ _ _ rfl (HB2.out.whole zero256 rfl) Try.underlying24 rfl (by rw [HSZ.out]; exact info26) _ rfl) rfl ⟨by rw [HE1.out, HP1.out]; rfl, ?_⟩
      exact Kp.setCells (.inl (Nat.le_refl _)) _ _ _ (HK0.out.trans HK.out (fun _ _ q => q))
    · by_cases h2 : (p.jcount : Int) < n
      · have HE1 : Hid (p.jpageE n = 4) := Lib.hid (by rw [HE0.out, if_pos (.inr h2)])
        have HP1 : Hid (bytesV (p.jpage n) = zero256) := Lib.hid (by unfold Pl.jpage; rw [HE1.out]; rfl)
        go_enter Try.func11, Try.ntmps11
        go_wp2_with fail
        refine (show Calls _ _ #[ptrV db] _ _ from ready_q (H.out.keep HK0.out)).mono ?_
        rintro e w2 ⟨rfl, hk⟩
        rw [HW0.out]
        have HK := Lib.hid hk
        have hb2 := HB0.out.keep hk (fun q => q)
        have HB2 := Lib.hid hb2
        have t2 : w2.there w.heap.size 0 256 := hb2.thereAll 256 (by rw [zero256_eq, bytesV_size]; rfl)
        have oz : ones zero256 := by rw [zero256_eq]; exact bytesV_one _
        have sz : zero256.size = 256 := by rw [zero256_eq, bytesV_size]; rfl
        have HSZ := Lib.hid sz
        clear hk hb2
        go_wp2_with fail
        refine (show Calls _ _ #[ptrV db] _ _ from count_q ((H.out.keep HK0.out).keep HK.out)).mono ?_
        rintro e w3 ⟨rfl, rfl⟩
        generalize (p.jcount : Int) = J at h2 ⊢
        go_wp2_with fail
        refine bodyPost_ret (ret_cell_tmp rfl _ _ _ _ _ _ rfl (HB2.out.whole zero256 rfl) Try.underlying24 rfl (by rw [HSZ.out]; exact info26) _ rfl) rfl ⟨by rw [HE1.out, HP1.out]; rfl, ?_⟩
        exact Kp.setCells (.inl (Nat.le_refl _)) _ _ _ (HK0.out.trans HK.out (fun _ _ q => q))
      · have HE1 : Hid (p.jpageE n = 0) := Lib.hid (by rw [HE0.out, if_neg (by omega)])
        obtain ⟨m, hm⟩ : ∃ m : Nat, n = m := ⟨n.toNat, by omega⟩
        have HP1 : Hid (p.jpage n = pageOf (p.seen nmDb) m) := Lib.hid (by unfold Pl.jpage; rw [HE1.out, hm]; rfl)
        have hm1 : 1 ≤ m := by omega
        have hm2 : m ≤ p.jcount := by omega
        have HM1 := Lib.hid hm1
        have HM2 := Lib.hid hm2
        have HMM := Lib.hid hm
        have HPL : Hid ((pageOf (p.seen nmDb) m).length = 256) := Lib.hid (sizedF_len _ _)
        clear hm hm1 hm2
        go_enter Try.func11, Try.ntmps11
        go_wp2_with fail
        refine (show Calls _ _ #[ptrV db] _ _ from ready_q (H.out.keep HK0.out)).mono ?_
        rintro e w2 ⟨rfl, hk⟩
        rw [HW0.out]
        have HK := Lib.hid hk
        clear hk
        go_wp2_with fail
        refine (show Calls _ _ #[ptrV db] _ _ from count_q ((H.out.keep HK0.out).keep HK.out)).mono ?_
        rintro e w3 ⟨rfl, rfl⟩
        obtain ⟨J, hJ⟩ : ∃ J : Int, (p.jcount : Int) = J := ⟨_, rfl⟩
        rw [hJ] at h2 ⊢
        clear hJ
        go_wp2_with fail
        have HPQ := wpage_q ((H.out.keep HK0.out).keep HK.out) m HM1.out HM2.out
        rw [← HMM.out] at HPQ
        refine (show Calls _ _ #[.agg #[ptrV db], .int .i64 n] _ _ from HPQ).mono ?_
        clear HPQ
        rintro e w4 ⟨rfl, hk4⟩
        have hk5 := HK.out.trans hk4 (fun _ _ q => q)
        have HK5 := Lib.hid hk5
        have hb2 := HB0.out.keep hk5 (fun q => q)
        have HB2 := Lib.hid hb2
        have t2 : w4.there w.heap.size 0 256 := hb2.thereAll 256 (by rw [zero256_eq, bytesV_size]; rfl)
        obtain ⟨RR, hRR⟩ : ∃ RR, bytesV (pageOf (p.seen nmDb) m) = RR := ⟨_, rfl⟩
        have o1 := bytesV_one (pageOf (p.seen nmDb) m)
        have s1 : (bytesV (pageOf (p.seen nmDb) m)).size = 256 := by rw [bytesV_size, HPL.out]
        rw [hRR] at o1 s1 ⊢
        have HRR := Lib.hid hRR
        have HS1 := Lib.hid s1
        clear hk4 hk5 hb2 hRR
        go_wp2_with fail
        refine bodyPost_ret (ret_cell_tmp rfl _ _ _ _ _ _ rfl (HB2.out.whole RR (by rw [HS1.out, zero256_eq, bytesV_size]; rfl)) Try.underlying24 rfl (by rw [HS1.out]; exact info26) _ rfl) rfl ⟨by rw [HE1.out, HP1.out, HRR.out]; rfl, ?_⟩
        exact Kp.setCells (.inl (Nat.le_refl _)) _ _ _ (HK0.out.trans HK5.out (fun _ _ q => q))
  · have HW0 : Hid (p.wrong = 7) := Lib.hid (by unfold Pl.wrong; rw [hdn]; rfl)
    have HE1 : Hid (p.jpageE n = 7) := Lib.hid (by unfold Pl.jpageE; rw [hdn]; rfl)
    have HP1 : Hid (bytesV (p.jpage n) = zero256) := Lib.hid (by unfold Pl.jpage; rw [HE1.out]; rfl)
    clear hdn
    go_enter Try.func11, Try.ntmps11
    go_wp2_with fail
    refine (show Calls _ _ #[ptrV db] _ _ from ready_q (H.out.keep HK0.out)).mono ?_
    rintro e w2 ⟨rfl, hk⟩
    rw [HW0.out]
    have HK := Lib.hid hk
    have hb2 := HB0.out.keep hk (fun q => q)
    have HB2 := Lib.hid hb2
    have t2 : w2.there w.heap.size 0 256 := hb2.thereAll 256 (by rw [zero256_eq, bytesV_size]; rfl)
    have oz : ones zero256 := by rw [zero256_eq]; exact bytesV_one _
    have sz : zero256.size = 256 := by rw [zero256_eq, bytesV_size]; rfl
    have HSZ := Lib.hid sz
    clear hk hb2
    go_wp2_with fail
    refine bodyPost_ret (ret_cell_tmp rfl _ _ _ _ _ _ rfl (HB2.out.whole zero256 rfl) Try.underlying24 rfl (by rw [HSZ.out]; exact info26) _ rfl) rfl ⟨by rw [HE1.out, HP1.out]; rfl, ?_⟩
    exact Kp.setCells (.inl (Nat.le_refl _)) _ _ _ (HK0.out.trans HK.out (fun _ _ q => q))
end
end Go.Proofs.Ytegcbdfilkecpaa
/- The journal: the answers that every law asks at its end; no condition. -/
namespace Go.Proofs.Ytegcbdfilkecpaa
open Go.RowKit

attribute [local go_sem ↓] load26 store26 alloc26 build26
def fullL (b : Int) : List Int := List.replicate 256 b
def upF (b : Int) (n : Nat) : List Int := List.replicate n b ++ zeros (256 - n)
theorem upF_len (b : Int) (n : Nat) (hn : n ≤ 256) : (upF b n).length = 256 := by
  unfold upF zeros
  rw [List.length_append, List.length_replicate, List.length_replicate]
  omega
theorem upF_set (b : Int) (n : Nat) (hn : n < 256) : (upF b n).set n b = upF b (n + 1) := by
  unfold upF zeros
  rw [List.set_append_right _ _ (by rw [List.length_replicate]; omega), List.length_replicate, Nat.sub_self, show 256 - n = (256 - (n + 1)) + 1 by omega, List.replicate_succ, List.set_cons_zero, List.replicate_succ', List.append_assoc]
  rfl
theorem upF_at (b : Int) (n : Nat) (hn : n < 256) : (upF b n)[n]? = some 0 := by
  unfold upF zeros
  rw [List.getElem?_append_right (by rw [List.length_replicate]; omega), List.length_replicate, Nat.sub_self, show 256 - n = (256 - (n + 1)) + 1 by omega, List.replicate_succ]
  rfl
theorem upF_all (b : Int) : upF b 256 = fullL b := by
  unfold upF zeros fullL
  rw [Nat.sub_self, List.replicate_zero, List.append_nil]
structure FuS (w : World) (b : Int) (n : Nat) (W : World) : Prop where
  kp : Kp NoB w W
  b1 : Blk W w.heap.size 24 zero256
  b2 : Blk W (w.heap.size + 1) 24 (bytesV (upF b n))
set_option maxRecDepth 100000 in
set_option maxHeartbeats 800000 in
theorem full_ok (w : World) (b : Int) : Calls Try.prog 68 #[.int .u8 b] w fun e w' => e = .returned (.agg (bytesV (fullL b))) ∧ Kp NoB w w' := by
  have HST : Hid (FuS w b 0 ((w.alloc (.cells zero256 24)).alloc (.cells zero256 24))) := Lib.hid ⟨((Kp.refl _ _).alloc _).alloc _, (Blk.new _ _ _).alloc _, Blk.newAt _ _ _ _ (by simp)⟩
  go_enter Try.func68, Try.ntmps68
  go_wp2_with fail
  refine forget (p := fun wx => Code.wp _ _ _ _ wx) (FuS w b 0) HST.out ?_
  intro W hW
  have HW := Lib.hid hW
  clear hW HST
  go_loopw [4] (fun v wr => ∃ i : Nat, i ≤ 256 ∧ v = .int .i64 i ∧ FuS w b i wr) (fun v _ => 256 - (intOf v).toNat)
  case atStart => exact ⟨0, by omega, rfl, HW.out⟩
  case round =>
    obtain ⟨i, hi, rfl, hs⟩ := hrel
    have HS := Lib.hid hs
    by_cases hlt : i < 256
    · have hii : (i : Int) < 256 := by omega
      have c2 : wr.cell? ⟨w.heap.size + 1, i, none⟩ = some (.int .u8 0) := by
        rw [hs.b2.cell]
        unfold bytesV
        rw [List.getElem?_toArray, List.getElem?_map, upF_at _ _ hlt]
        rfl
      have z2 : wr.frozen? ⟨w.heap.size + 1, i, none⟩ = false := hs.b2.frozen i
      clear hs
      go_wp2_with fail
      refine ⟨⟨i + 1, by omega, by congr 1, ?_⟩, by simp [intOf]; omega⟩
      have h := HS.out
      refine ⟨h.kp.setCell (p := ⟨w.heap.size + 1, i, none⟩) (.inl (by show _ ≤ w.heap.size + 1; omega)) _, h.b1.far (p := ⟨w.heap.size + 1, i, none⟩) (by simp) _, ?_⟩
      have := h.b2.set_ i (.int .u8 b)
      rwa [bytesV_setJ, upF_set _ _ hlt] at this
    · have hii : ¬ (i : Int) < 256 := by omega
      obtain rfl : i = 256 := by omega
      have b2 := hs.b2
      rw [upF_all] at b2
      have sl : (fullL b).length = 256 := List.length_replicate ..
      have t1 : wr.there (w.heap.size + 1) 0 256 := b2.thereAll 256 (by rw [bytesV_size, sl])
      have r1 : readRow wr (w.heap.size + 1) 0 256 = bytesV (fullL b) := b2.readAll 256 (by rw [bytesV_size, sl])
      have t2 : wr.there w.heap.size 0 256 := hs.b1.thereAll 256 (by rw [zero256_eq, bytesV_size]; rfl)
      have o1 := bytesV_one (fullL b)
      have s1 : (bytesV (fullL b)).size = 256 := by rw [bytesV_size, sl]
      obtain ⟨RR, hRR⟩ : ∃ RR, bytesV (fullL b) = RR := ⟨_, rfl⟩
      rw [hRR] at r1 o1 s1
      have HRR := Lib.hid hRR
      have S1 := Lib.hid s1
      clear hs b2 sl hRR
      go_wp2_with fail
      refine bodyPost_ret (ret_cell1 rfl _ _ _ _ _ _ rfl (HS.out.b1.whole RR (by rw [S1.out, zero256_eq, bytesV_size]; rfl)) Try.underlying24 rfl (by rw [S1.out]; exact info26)) rfl ⟨by rw [HRR.out], ?_⟩
      exact Kp.setCells (.inl (by omega)) _ _ _ HS.out.kp
def aw2L : List Pg := [⟨1, fullL 1⟩, ⟨2, fullL 2⟩]
def aw1L : List Pg := [⟨4, zeros 256⟩]
def awP1 : Pl × Int := (Pl.new 5000).jcommit 2 aw2L
def awP2 : Pl × Int := awP1.1.jcommit 4 aw1L
set_option maxRecDepth 100000 in
theorem jawE : awP1.2 = 0 ∧ awP1.1.jpageE 2 = 0 ∧ awP1.1.jpage 2 = fullL 2 ∧ awP2.2 = 2 ∧ awP2.1.jcount = 2 ∧ awP2.1.jhot = false ∧ (Pl.new 5000).nf = 0 ∧ (Pl.new 5000).pd.length = 0 ∧ decide (awP1.1.nf ≤ 1000) = true ∧ decide (awP1.1.pd.length ≤ 1000) = true := by
  refine ⟨?_, ?_, ?_, ?_, ?_, ?_, ?_, ?_, ?_, ?_⟩ <;> kernel_rfl
theorem slicePg2 (w : World) (a b : Array Value) (ha : a.size = 257) (hb : b.size = 257) : (Instr.buildSlice 22 2 #[(0, .agg a), (1, .agg b)]).run Try.prog w = .ok (.slice (some ⟨w.heap.size, 0, none⟩) 2 2) (w.alloc (.cells (a ++ b) 113)) := by
  obtain ⟨i, hi, h0, h1, h2⟩ := info_parts infoPgA
  have hu := Try.underlying22
  have ca : (Value.agg a).cells = a := rfl
  have cb : (Value.agg b).cells = b := rfl
  have hf : ∀ Z : Array Value, Z.size = 514 → Instr.fill (fun i => some (i * 257, 257)) Z [(0, .agg a), (1, .agg b)] = some (a ++ b) := fun Z hZ => by
    have := Go.Great.fill_whole (s := 257) (by omega) [.agg a, .agg b] Z (by simp [ca, cb, ha, hb]) (by simp [hZ])
    have h := this
    simp only [List.zipIdx_cons, List.zipIdx_nil, List.map_cons, List.map_nil, List.flatMap_cons, List.flatMap_nil, ca, cb, List.append_nil] at h
    rw [show a ++ b = (a.toList ++ b.toList).toArray by simp]
    exact h
  simp [Instr.buildSlice, run_underlying hu, sizeOf, typeInfo, hi, h1, zeroPg, newRow, newObj]
  rw [hf _ (by simp)]
  rfl
theorem exSlicePg2 (w : World) (ev : Operand → Value) (x y : Operand) (a b : Array Value) (ds : Option Tmp) (ty : TypeId) (ps : String) (af : Array Edge) (g : Option (Nat × Bool)) (hx : ev x = .agg a) (hy : ev y = .agg b) (ha : a.size = 257) (hb : b.size = 257) :
    (execOp ev ⟨ds, .buildSlice 22 2 #[(0, x), (1, y)], ty, ps, af, g⟩).run Try.prog w = .ok (.value (.slice (some ⟨w.heap.size, 0, none⟩) 2 2)) (w.alloc (.cells (a ++ b) 113)) := by
  simp only [execOp, List.map_toArray, List.map_cons, List.map_nil, hx, hy, Sem.run_bind, slicePg2 w a b ha hb, Result.andThen_ok]
  rfl
theorem full_rng (b : Int) (hb : 0 ≤ b ∧ b < 256) : ∀ y ∈ fullL b, 0 ≤ y ∧ y < 256 := fun y hy => by
  have := List.eq_of_mem_replicate hy
  omega
theorem pgs_blk {w : World} {g n : Nat} {t : TypeId} {l : List Pg} (h : Blk w g t (pgsCells l).toArray) (hn : l.length = n) (hok : ∀ x ∈ l, PgOk x) : PgsAt w (some ⟨g, 0, none⟩) n l := by
  subst hn
  have hfl : pgsCells l = (l.map pgL).flatten := by unfold pgsCells; rw [List.flatMap_def]
  have hx : ∀ x ∈ l.map pgL, x.length = 257 := fun x hx => by
    obtain ⟨y, hy, rfl⟩ := List.mem_map.1 hx
    exact pgL_len (hok y hy)
  have hlen := flat_len 257 (l.map pgL) hx
  refine ⟨by simp, hx, fun hn => ⟨g, 0, t, _, rfl, h, ?_, fun k hk j hj => ?_⟩⟩
  · rw [List.size_toArray, hfl, hlen, List.length_map]; omega
  · rw [List.getElem?_toArray, hfl, Nat.zero_add]
    exact flat_at 257 (l.map pgL) hx k j hj hk
theorem blk_rg8 {w : World} {g : Nat} {t : TypeId} {l : List Int} (h : Blk w g t (bytesV l)) : w.rangeAt g 0 (l.map (Value.int .u8)) :=
  Blk.range (xa := []) (xb := l.map (Value.int .u8)) (xd := []) (by unfold bytesV at h; simpa using h) 0 rfl
theorem eqTrue (w : World) (ev : Operand → Value) (ds : Option Tmp) {x y : Operand} {l : List Int} {yt : TypeId} (ty : TypeId) (ps : String) {af : Array Edge} {g : Option (Nat × Bool)} (hx : ev x = .agg (l.map (Value.int .u8)).toArray) (hy : ev y = .agg (bytesV l)) (hl : l.length = 256) :
    (execOp ev ⟨ds, .binOp .eql 24 x y yt, ty, ps, af, g⟩).run Try.prog w = .ok (.value (.bool true)) w := by
  have := eql26 w ev ds x y yt ty ps af g (by rw [hx]; exact pgOK_bytes l hl) (by rw [hy]; exact pgOK_bytes l hl)
  rw [this, hx, hy]
  have e : (l.map (Value.int .u8)).toArray = bytesV l := rfl
  rw [e, valEq_self]
theorem wpList_val {P : Program} {ops : Array Oper} {rest : List Oper} {ds : Option Tmp} {op : Op} {ty : TypeId} {ps : String} {af : Array Edge} {a : Act} {w w' : World} {Q : Exit → Act → World → Prop} (v : Value) (hr : (execOp a.eval ⟨ds, op, ty, ps, af, none⟩).run P w = .ok (.value v) w')
    (h : wpList P ops Q rest (a.put ds v) w') : wpList P ops Q (⟨ds, op, ty, ps, af, none⟩ :: rest) a w := wpList_plain rfl fun K hK => by
  unfold Oper.wp
  rw [hr, Oper.upon_value]
  exact hK _ _ h
attribute [local go_sem ↓] eql26
set_option maxRecDepth 100000 in
set_option maxHeartbeats 1600000 in
theorem jawake_ok (w : World) : Calls Try.prog 16 #[] w fun e w' => e = .returned (.bool true) ∧ Kp NoB w w' := by
  have E := Lib.hid jawE
  have l1 : (fullL 1).length = 256 := List.length_replicate ..
  have l2 : (fullL 2).length = 256 := List.length_replicate ..
  have s1 : (pgA ⟨1, fullL 1⟩).size = 257 := by unfold pgA pgL; rw [List.size_toArray, List.length_cons, List.length_map, l1]
  have s2 : (pgA ⟨2, fullL 2⟩).size = 257 := by unfold pgA pgL; rw [List.size_toArray, List.length_cons, List.length_map, l2]
  have s4 : (pgA ⟨4, zeros 256⟩).size = 257 := by unfold pgA pgL zeros; rw [List.size_toArray, List.length_cons, List.length_map, List.length_replicate]
  go_enter Try.func16, Try.ntmps16
  go_wp2_with fail
  refine (new_q w 5000 (by omega)).mono ?_
  rintro e w1 ⟨db, rfl, h1⟩
  have H1 := Lib.hid h1
  clear h1
  go_wp2_with fail
  refine (full_ok w1 1).mono ?_
  rintro e w2 ⟨rfl, hk2⟩
  have HK2 := Lib.hid hk2
  clear hk2
  go_wp2_with (show wpList _ _ _ (⟨some 9, _, _, _, _, _⟩ :: _) _ _; refine wpList_val _ (exBuildPg2 _ _ _ _ 1 (fullL 1) l1 _ _ _ _ _ rfl rfl) ?_)
  refine (full_ok w2 2).mono ?_
  rintro e w3 ⟨rfl, hk3⟩
  have HK3 := Lib.hid (HK2.out.trans hk3 (fun _ _ q => q))
  clear hk3
  go_wp2_with (first
    | (show wpList _ _ _ (⟨some 11, _, _, _, _, _⟩ :: _) _ _; refine wpList_val _ (exBuildPg2 _ _ _ _ 2 (fullL 2) l2 _ _ _ _ _ rfl rfl) ?_)
    | (show wpList _ _ _ (⟨some 12, _, _, _, _, _⟩ :: _) _ _; refine wpList_val _ (exSlicePg2 _ _ _ _ (pgA ⟨1, fullL 1⟩) (pgA ⟨2, fullL 2⟩) _ _ _ _ _ rfl rfl s1 s2) ?_))
  have hsm : (Pl.new 5000).sm 400000000 := by unfold Pl.sm; rw [E.out.2.2.2.2.2.2.1, E.out.2.2.2.2.2.2.2.1]; omega
  have hsm1 : awP1.1.sm 400000000 := by
    have h1 := of_decide_eq_true E.out.2.2.2.2.2.2.2.2.1
    have h2 := of_decide_eq_true E.out.2.2.2.2.2.2.2.2.2
    unfold Pl.sm
    omega
  have HSM1 := Lib.hid hsm1
  have hok2 : ∀ x ∈ aw2L, PgOk x := by
    intro x hx
    unfold aw2L at hx
    simp only [List.mem_cons, List.not_mem_nil, or_false] at hx
    rcases hx with rfl | rfl
    · exact ⟨l1, full_rng 1 (by omega), by show _ ≤ (1 : Int) ∧ (1 : Int) ≤ _; omega⟩
    · exact ⟨l2, full_rng 2 (by omega), by show _ ≤ (2 : Int) ∧ (2 : Int) ≤ _; omega⟩
  obtain ⟨S2, hq2, hS2⟩ := (H1.out.keep HK3.out).base
  have hka : Kp NoB w3 (w3.alloc (.cells (pgA ⟨1, fullL 1⟩ ++ pgA ⟨2, fullL 2⟩) 113)) := (Kp.refl _ _).alloc _
  have hpg : PgsAt (w3.alloc (.cells (pgA ⟨1, fullL 1⟩ ++ pgA ⟨2, fullL 2⟩) 113)) (some ⟨w3.heap.size, 0, none⟩) 2 aw2L := pgs_blk (t := 113) (by
    have := Blk.new w3 113 (pgA ⟨1, fullL 1⟩ ++ pgA ⟨2, fullL 2⟩)
    have e : pgA ⟨1, fullL 1⟩ ++ pgA ⟨2, fullL 2⟩ = (pgsCells aw2L).toArray := by
      unfold pgsCells aw2L pgA
      simp
    rwa [e] at this ⊢) rfl hok2
  have hlt2 := hq2.lt
  have hcm := commit_q (hq2.base1 hka) 2 (by omega) (some ⟨w3.heap.size, 0, none⟩) 2 2 aw2L hpg (fun g o e hn q => by injection e with e; injection e with e1 e2; have := hlt2 g q; omega) hok2 (by omega) hsm
  clear hpg
  refine hcm.mono ?_
  clear hcm
  rintro e w5 ⟨rfl, h5⟩
  have h5' : Dq S2 (w3.alloc (.cells (pgA ⟨1, fullL 1⟩ ++ pgA ⟨2, fullL 2⟩) 113)) w5 db awP1.1 := h5
  rw [show ((Pl.new 5000).jcommit 2 aw2L).2 = 0 from E.out.1]
  have h6 := Dq.tr (w0 := w) h5' ((H1.out.keep HK3.out).kp.trans hka (fun _ _ q => q.elim)) hS2 (fun b q => q.elim)
  have H6 := Lib.hid h6
  clear h5 h5' h6 hka hq2 hS2 hlt2 hsm hsm1 hok2
  go_wp2_with fail
  refine (page_q H6.out 2 (by omega)).mono ?_
  rintro e w6 ⟨rfl, hk6⟩
  rw [E.out.2.1, E.out.2.2.1]
  have H7 := Lib.hid (H6.out.keep hk6)
  have hbz := Blk.new w6 24 zero256
  have hbf := hbz.whole (bytesV (fullL 2)) (by rw [zero256_eq, bytesV_size, bytesV_size, l2]; rfl)
  have tz := hbz.thereAll 256 (by rw [zero256_eq, bytesV_size]; rfl)
  have of2 := bytesV_one (fullL 2)
  have sf2 : (bytesV (fullL 2)).size = 256 := by rw [bytesV_size, l2]
  have hk7 : Kp NoB w6 ((w6.alloc (.cells zero256 24)).setCells w6.heap.size 0 (bytesV (fullL 2)).toList) := Kp.setCells (.inl (Nat.le_refl _)) _ _ _ ((Kp.refl _ _).alloc _)
  have HBF := Lib.hid hbf
  have HK7 := Lib.hid hk7
  clear hk6 hbz hbf hk7
  go_upto_region 4 with fail
  obtain ⟨Bg, hBg⟩ : ∃ Bg, w6.heap.size = Bg := ⟨_, rfl⟩
  generalize (w6.alloc (.cells zero256 24)).setCells w6.heap.size 0 (bytesV (fullL 2)).toList = w7 at HBF HK7 ⊢
  rw [hBg] at HBF ⊢
  have hBg7 : Hid (w6.heap.size = Bg) := Lib.hid hBg
  clear hBg tz
  go_wp2_with (first
    | (show wpList _ _ _ (⟨some 20, _, _, _, _, _⟩ :: _) _ _; refine wpList_val _ (exBuildPg1 _ _ _ 4 _ _ _ _ _ rfl) ?_)
    | (show wpList _ _ _ (⟨some 21, _, _, _, _, _⟩ :: _) _ _; refine wpList_val _ (exSlicePg _ _ _ (pgA ⟨4, zeros 256⟩) _ _ _ _ _ rfl s4) ?_))
  have hok1 : ∀ x ∈ aw1L, PgOk x := by
    intro x hx
    unfold aw1L at hx
    simp only [List.mem_cons, List.not_mem_nil, or_false] at hx
    subst hx
    exact ⟨List.length_replicate .., zeros_rng 256, by show _ ≤ (4 : Int) ∧ (4 : Int) ≤ _; omega⟩
  obtain ⟨S3, hq3, hS3⟩ := H7.out.base
  have hka : Kp NoB w7 (w7.alloc (.cells (pgA ⟨4, zeros 256⟩) 113)) := (Kp.refl _ _).alloc _
  have hpg : PgsAt (w7.alloc (.cells (pgA ⟨4, zeros 256⟩) 113)) (some ⟨w7.heap.size, 0, none⟩) 1 aw1L := pgs_blk (t := 113) (by
    have := Blk.new w7 113 (pgA ⟨4, zeros 256⟩)
    have e : pgA ⟨4, zeros 256⟩ = (pgsCells aw1L).toArray := by
      unfold pgsCells aw1L pgA
      simp
    rwa [e] at this ⊢) rfl hok1
  have hlt3 := hq3.lt
  have hnBg : Hid (Bg < w7.heap.size ∧ ¬ S3 Bg) := Lib.hid ⟨HBF.out.lt, fun q => by
    have h1 := hlt3 Bg q
    have h2 := hBg7.out
    omega⟩
  have hcm := commit_q (hq3.base1 (HK7.out.trans hka (fun _ _ q => q))) 4 (by omega) (some ⟨w7.heap.size, 0, none⟩) 1 1 aw1L hpg (fun g o e hn q => by injection e with e; injection e with e1 e2; have h1 := hlt3 g q; have h2 := HK7.out.size; omega) hok1 (by omega) HSM1.out
  clear hpg
  refine hcm.mono ?_
  clear hcm
  rintro e w8 ⟨rfl, h8⟩
  have h8' : Dq S3 (w7.alloc (.cells (pgA ⟨4, zeros 256⟩) 113)) w8 db awP2.1 := h8
  rw [show (awP1.1.jcommit 4 aw1L).2 = 2 from E.out.2.2.2.1]
  have hbf8 := (HBF.out.keep hka (fun q => q)).keep h8'.kp hnBg.out.2
  have h9 := Dq.tr (w0 := w) h8' ((H7.out.keep HK7.out).kp.trans hka (fun _ _ q => q.elim)) hS3 (fun b q => q.elim)
  have H9 := Lib.hid h9
  have HB8 := Lib.hid hbf8
  clear h8 h8' h9 hka hq3 hS3 hlt3 hok1 hbf8
  go_wp2_with fail
  have HPX : Hid (Kp NoB w w8) := Lib.hid H9.out.kp
  refine wp_region_held_drew (S := fun W' => W'.rangeAt Bg 0 ((fullL 2).map (Value.int .u8))) (by kernel_rfl) (blk_rg8 HB8.out) (fun hHeld => ?_)
  have h0 : Blk w8.drew Bg 24 (bytesV (fullL 2)) := HB8.out
  have hk0 : Kp NoB w8 w8.drew := (Kp.refl NoB w8).drew
  have hi1 : (Try.prog.info? 24).map (·.size) = some ((fullL 2).map (Value.int .u8)).length := by rw [List.length_map, l2]; exact info26
  have hu := Try.underlying24
  generalize w8.drew = W0 at h0 hk0 hHeld ⊢
  refine wpAnyH_takeL (i := 0) (v := (.int .i64 0)) rfl (by kernel_rfl) (by kernel_rfl) (by kernel_rfl) (fun _ _ _ h => h) (Or.inl ⟨by rfl, fun w' hq => by go_simp⟩) (blk_rg8 h0) ?_
  simp only [Act.put, List.setIfInBounds_toArray, List.set_cons_zero, List.set_cons_succ]
  refine wpAnyH_takeL (i := 1) (v := (.bool true)) rfl (by kernel_rfl) (by kernel_rfl) (by kernel_rfl) (fun _ _ _ h => h) (Or.inl ⟨by rfl, fun w' hq => by go_simp⟩) (blk_rg8 h0) ?_
  simp only [Act.put, List.setIfInBounds_toArray, List.set_cons_zero, List.set_cons_succ]
  refine wpAnyH_takeL (i := 2) (v := (.bool true)) rfl (by kernel_rfl) (by kernel_rfl) (by kernel_rfl) (fun _ _ _ h => h) (Or.inl ⟨by rfl, fun w' hq => by go_simp⟩) (blk_rg8 h0) ?_
  simp only [Act.put, List.setIfInBounds_toArray, List.set_cons_zero, List.set_cons_succ]
  refine wpAnyH_takeL (i := 3) (v := (.int .i64 0)) rfl (by kernel_rfl) (by kernel_rfl) (by kernel_rfl) (fun _ _ _ h => h) (Or.inl ⟨by rfl, fun w' hq => by go_simp⟩) (blk_rg8 h0) ?_
  simp only [Act.put, List.setIfInBounds_toArray, List.set_cons_zero, List.set_cons_succ]
  refine wpAnyH_takeL (i := 4) (v := (.bool true)) rfl (by kernel_rfl) (by kernel_rfl) (by kernel_rfl) (fun _ _ _ h => h) (Or.inl ⟨by rfl, fun w' hq => by go_simp⟩) (blk_rg8 h0) ?_
  simp only [Act.put, List.setIfInBounds_toArray, List.set_cons_zero, List.set_cons_succ]
  refine wpAnyH_takeL (i := 5) (v := (.bool true)) rfl (by kernel_rfl) (by kernel_rfl) (by kernel_rfl) (fun _ _ _ h => h) (Or.inl ⟨by rfl, fun w' hq => by go_simp⟩) (blk_rg8 h0) ?_
  simp only [Act.put, List.setIfInBounds_toArray, List.set_cons_zero, List.set_cons_succ]
  refine wpAnyH_takeL (i := 6) (v := (.bool true)) rfl (by kernel_rfl) (by kernel_rfl) (by kernel_rfl) (fun _ _ _ h => h) (Or.inl ⟨by rfl, fun w' hq => by go_simp⟩) (blk_rg8 h0) ?_
  simp only [Act.put, List.setIfInBounds_toArray, List.set_cons_zero, List.set_cons_succ]
  refine wpAnyH_takeL (i := 7) (v := .agg (((fullL 2).map (Value.int .u8))).toArray) rfl (by kernel_rfl) (by kernel_rfl) (by kernel_rfl) (fun _ _ _ h => h) (yieldsIf_load_mid (by rfl) _ _ rfl _ _ rfl ((fullL 2).map (Value.int .u8)) _ (fun _ q => q) hu rfl hi1) (blk_rg8 h0) ?_
  simp only [Act.put, List.setIfInBounds_toArray, List.set_cons_zero, List.set_cons_succ]
  refine wpAnyH_ready (rs := [8]) (by kernel_rfl) (by simp) ?_
  refine AllReadyH.callR (fun x W' => x = .agg (bytesV (fullL 2)) ∧ Blk W' Bg 24 (bytesV (fullL 2)) ∧ Kp NoB w8 W') rfl (by rfl) 68 #[.int .u8 2] (by first | (go_simp; done) | (go_simp; rfl)) (fun _ _ q => (blk_rg8 q.2.1)) ((full_ok W0 2).mono (by rintro e w19 ⟨rfl, hk⟩; exact ⟨_, rfl, rfl, h0.keep hk (fun q => q), hk0.trans hk (fun _ _ q => q)⟩)) ?_ AllReadyH.nil
  rintro _ W1 ⟨rfl, h1, hk1⟩
  simp only [Act.put, List.setIfInBounds_toArray, List.set_cons_zero, List.set_cons_succ]
  refine wpAnyH_takeL (i := 9) (v := .bool true) rfl (by kernel_rfl) (by kernel_rfl) (by kernel_rfl) (fun _ _ _ h => h) (Or.inl ⟨by rfl, fun w' hq => eqTrue w' _ _ _ _ rfl rfl l2⟩) (blk_rg8 h1) ?_
  simp only [Act.put, List.setIfInBounds_toArray, List.set_cons_zero, List.set_cons_succ]
  refine wpAnyH_takeL (i := 10) (v := (.bool true)) rfl (by kernel_rfl) (by kernel_rfl) (by kernel_rfl) (fun _ _ _ h => h) (Or.inl ⟨by rfl, fun w' hq => by go_simp⟩) (blk_rg8 h1) ?_
  simp only [Act.put, List.setIfInBounds_toArray, List.set_cons_zero, List.set_cons_succ]
  refine wpAnyH_takeL (i := 11) (v := (.bool true)) rfl (by kernel_rfl) (by kernel_rfl) (by kernel_rfl) (fun _ _ _ h => h) (Or.inl ⟨by rfl, fun w' hq => by go_simp⟩) (blk_rg8 h1) ?_
  simp only [Act.put, List.setIfInBounds_toArray, List.set_cons_zero, List.set_cons_succ]
  refine wpAnyH_takeL (i := 12) (v := (.int .i64 2)) rfl (by kernel_rfl) (by kernel_rfl) (by kernel_rfl) (fun _ _ _ h => h) (Or.inl ⟨by rfl, fun w' hq => by go_simp⟩) (blk_rg8 h1) ?_
  simp only [Act.put, List.setIfInBounds_toArray, List.set_cons_zero, List.set_cons_succ]
  refine wpAnyH_takeL (i := 13) (v := (.bool true)) rfl (by kernel_rfl) (by kernel_rfl) (by kernel_rfl) (fun _ _ _ h => h) (Or.inl ⟨by rfl, fun w' hq => by go_simp⟩) (blk_rg8 h1) ?_
  simp only [Act.put, List.setIfInBounds_toArray, List.set_cons_zero, List.set_cons_succ]
  refine wpAnyH_takeL (i := 14) (v := (.bool true)) rfl (by kernel_rfl) (by kernel_rfl) (by kernel_rfl) (fun _ _ _ h => h) (Or.inl ⟨by rfl, fun w' hq => by go_simp⟩) (blk_rg8 h1) ?_
  simp only [Act.put, List.setIfInBounds_toArray, List.set_cons_zero, List.set_cons_succ]
  refine wpAnyH_takeL (i := 15) (v := (.bool true)) rfl (by kernel_rfl) (by kernel_rfl) (by kernel_rfl) (fun _ _ _ h => h) (Or.inl ⟨by rfl, fun w' hq => by go_simp⟩) (blk_rg8 h1) ?_
  simp only [Act.put, List.setIfInBounds_toArray, List.set_cons_zero, List.set_cons_succ]
  refine wpAnyH_takeL (i := 16) (v := (ptrV db)) rfl (by kernel_rfl) (by kernel_rfl) (by kernel_rfl) (fun _ _ _ h => h) (Or.inl ⟨by rfl, fun w' hq => by go_simp⟩) (blk_rg8 h1) ?_
  simp only [Act.put, List.setIfInBounds_toArray, List.set_cons_zero, List.set_cons_succ]
  refine wpAnyH_ready (rs := [17]) (by kernel_rfl) (by simp) ?_
  refine AllReadyH.callR (fun x W' => x = .int .i64 2 ∧ Blk W' Bg 24 (bytesV (fullL 2)) ∧ Kp NoB w8 W') rfl (by rfl) 14 #[ptrV db] (by first | (go_simp; done) | (go_simp; rfl)) (fun _ _ q => (blk_rg8 q.2.1)) ((count_q (H9.out.keep hk1)).mono (by rintro e w19 ⟨rfl, rfl⟩; exact ⟨_, rfl, by rw [E.out.2.2.2.2.1]; rfl, h1, hk1⟩)) ?_ AllReadyH.nil
  rintro _ W2 ⟨rfl, h2, hk2⟩
  simp only [Act.put, List.setIfInBounds_toArray, List.set_cons_zero, List.set_cons_succ]
  refine wpAnyH_takeL (i := 18) (v := (.bool true)) rfl (by kernel_rfl) (by kernel_rfl) (by kernel_rfl) (fun _ _ _ h => h) (Or.inl ⟨by rfl, fun w' hq => by go_simp⟩) (blk_rg8 h2) ?_
  simp only [Act.put, List.setIfInBounds_toArray, List.set_cons_zero, List.set_cons_succ]
  refine wpAnyH_takeL (i := 19) (v := (.bool true)) rfl (by kernel_rfl) (by kernel_rfl) (by kernel_rfl) (fun _ _ _ h => h) (Or.inl ⟨by rfl, fun w' hq => by go_simp⟩) (blk_rg8 h2) ?_
  simp only [Act.put, List.setIfInBounds_toArray, List.set_cons_zero, List.set_cons_succ]
  refine wpAnyH_takeL (i := 20) (v := (.bool true)) rfl (by kernel_rfl) (by kernel_rfl) (by kernel_rfl) (fun _ _ _ h => h) (Or.inl ⟨by rfl, fun w' hq => by go_simp⟩) (blk_rg8 h2) ?_
  simp only [Act.put, List.setIfInBounds_toArray, List.set_cons_zero, List.set_cons_succ]
  refine wpAnyH_takeL (i := 21) (v := (ptrV db)) rfl (by kernel_rfl) (by kernel_rfl) (by kernel_rfl) (fun _ _ _ h => h) (Or.inl ⟨by rfl, fun w' hq => by go_simp⟩) (blk_rg8 h2) ?_
  simp only [Act.put, List.setIfInBounds_toArray, List.set_cons_zero, List.set_cons_succ]
  refine wpAnyH_ready (rs := [22]) (by kernel_rfl) (by simp) ?_
  refine AllReadyH.callR (fun x W' => x = .bool false ∧ Blk W' Bg 24 (bytesV (fullL 2)) ∧ Kp NoB w8 W') rfl (by rfl) 15 #[ptrV db] (by first | (go_simp; done) | (go_simp; rfl)) (fun _ _ q => (blk_rg8 q.2.1)) ((hot_q (H9.out.keep hk2)).mono (by rintro e w19 ⟨rfl, hk⟩; exact ⟨_, rfl, by rw [E.out.2.2.2.2.2.1], h2.keep hk (fun q => q), hk2.trans hk (fun _ _ q => q)⟩)) ?_ AllReadyH.nil
  rintro _ W3 ⟨rfl, h3, hk3⟩
  simp only [Act.put, List.setIfInBounds_toArray, List.set_cons_zero, List.set_cons_succ]
  refine wpAnyH_takeL (i := 23) (v := (.bool true)) rfl (by kernel_rfl) (by kernel_rfl) (by kernel_rfl) (fun _ _ _ h => h) (Or.inl ⟨by rfl, fun w' hq => by go_simp⟩) (blk_rg8 h3) ?_
  simp only [Act.put, List.setIfInBounds_toArray, List.set_cons_zero, List.set_cons_succ]
  refine wpAnyH_takeL (i := 24) (v := (.bool true)) rfl (by kernel_rfl) (by kernel_rfl) (by kernel_rfl) (fun _ _ _ h => h) (Or.inl ⟨by rfl, fun w' hq => by go_simp⟩) (blk_rg8 h3) ?_
  simp only [Act.put, List.setIfInBounds_toArray, List.set_cons_zero, List.set_cons_succ]
  refine wpAnyH_takeL (i := 25) (v := (.bool true)) rfl (by kernel_rfl) (by kernel_rfl) (by kernel_rfl) (fun _ _ _ h => h) (Or.inl ⟨by rfl, fun w' hq => by go_simp⟩) (blk_rg8 h3) ?_
  simp only [Act.put, List.setIfInBounds_toArray, List.set_cons_zero, List.set_cons_succ]
  refine wpAnyH_done (by kernel_rfl) ?_ _
  have HK9 := Lib.hid (HPX.out.trans hk3 (fun _ _ q => q))
  clear hHeld h0 h1 h2 h3 hk0 hk1 hk2 hk3 hi1 hu
  go_wp2_with fail
  go_ret
  exact ⟨rfl, HK9.out⟩
end Go.Proofs.Ytegcbdfilkecpaa
/- Without a disk every call reports that; no condition. -/
namespace Go.Proofs.Ytegcbdfilkecpaa
open Go.RowKit

set_option maxRecDepth 100000 in
theorem is_nil (w : World) : Calls Try.prog 69 #[.pointer none] w fun e w' => e = .returned (.bool false) ∧ w = w' := by
  go_enter Try.func69, Try.ntmps69
  go_wp2_with (fail)
  go_ret
  exact ⟨rfl, rfl⟩
set_option maxRecDepth 100000 in
theorem wrong_nil (w : World) : Calls Try.prog 80 #[.pointer none] w fun e w' => e = .returned (.int .i64 1) ∧ w = w' := by
  go_enter Try.func80, Try.ntmps80
  go_wp2_with (go_at_call 69; go_must (refine (is_nil _).mono ?_); rintro e w2 ⟨rfl, rfl⟩)
  go_ret
  exact ⟨rfl, rfl⟩
set_option maxRecDepth 100000 in
theorem read_nil (w : World) (s : ByteArray) (a n : Int) : Calls Try.prog 28 #[.pointer none, .string s, .int .i64 a, .int .i64 n] w fun e w' => e = .returned (.tuple #[.string ⟨#[]⟩, .int .i64 1]) ∧ w = w' := by
  go_enter Try.func28, Try.ntmps28
  go_wp2_with (go_at_call 80; go_must (refine (wrong_nil _).mono ?_); rintro e w2 ⟨rfl, rfl⟩)
  go_ret2
  exact ⟨rfl, rfl⟩
set_option maxRecDepth 100000 in
theorem write_nil (w : World) (s : ByteArray) (a : Int) (d : ByteArray) : Calls Try.prog 78 #[.pointer none, .string s, .int .i64 a, .string d] w fun e w' => e = .returned (.int .i64 1) ∧ w = w' := by
  go_enter Try.func78, Try.ntmps78
  go_wp2_with (go_at_call 80; go_must (refine (wrong_nil _).mono ?_); rintro e w2 ⟨rfl, rfl⟩)
  go_ret
  exact ⟨rfl, rfl⟩
set_option maxRecDepth 100000 in
theorem trunc_nil (w : World) (s : ByteArray) (n : Int) : Calls Try.prog 86 #[.pointer none, .string s, .int .i64 n] w fun e w' => e = .returned (.int .i64 1) ∧ w = w' := by
  go_enter Try.func86, Try.ntmps86
  go_wp2_with (go_at_call 80; go_must (refine (wrong_nil _).mono ?_); rintro e w2 ⟨rfl, rfl⟩)
  go_ret
  exact ⟨rfl, rfl⟩
set_option maxRecDepth 100000 in
theorem len_nil (w : World) (s : ByteArray) : Calls Try.prog 67 #[.pointer none, .string s] w fun e w' => e = .returned (.int .i64 0) ∧ w = w' := by
  go_enter Try.func67, Try.ntmps67
  go_wp2_with (go_at_call 69; go_must (refine (is_nil _).mono ?_); rintro e w2 ⟨rfl, rfl⟩)
  go_ret
  exact ⟨rfl, rfl⟩
set_option maxRecDepth 100000 in
theorem names_nil (w : World) : Calls Try.prog 90 #[.pointer none] w fun e w' => e = .returned (.slice none 0 0) ∧ w = w' := by
  go_enter Try.func90, Try.ntmps90
  go_wp2_with (go_at_call 69; go_must (refine (is_nil _).mono ?_); rintro e w2 ⟨rfl, rfl⟩)
  go_ret
  exact ⟨rfl, rfl⟩
set_option maxRecDepth 100000 in
theorem setroom_nil (w : World) (n : Int) : Calls Try.prog 76 #[.pointer none, .int .i64 n] w fun e w' => e = .returned (.tuple #[]) ∧ w = w' := by
  go_enter Try.func76, Try.ntmps76
  go_wp2_with (go_at_call 69; go_must (refine (is_nil _).mono ?_); rintro e w2 ⟨rfl, rfl⟩)
  exact bodyPost_end (results_none rfl _ _ _) rfl ⟨rfl, rfl⟩
set_option maxRecDepth 100000 in
theorem crashin_nil (w : World) (n : Int) : Calls Try.prog 22 #[.pointer none, .int .i64 n] w fun e w' => e = .returned (.tuple #[]) ∧ w = w' := by
  go_enter Try.func22, Try.ntmps22
  go_wp2_with (go_at_call 69; go_must (refine (is_nil _).mono ?_); rintro e w2 ⟨rfl, rfl⟩)
  exact bodyPost_end (results_none rfl _ _ _) rfl ⟨rfl, rfl⟩
set_option maxRecDepth 100000 in
theorem crash_nil (w : World) : Calls Try.prog 24 #[.pointer none] w fun e w' => e = .returned (.tuple #[]) ∧ w = w' := by
  go_enter Try.func24, Try.ntmps24
  go_wp2_with (go_at_call 69; go_must (refine (is_nil _).mono ?_); rintro e w2 ⟨rfl, rfl⟩)
  exact bodyPost_end (results_none rfl _ _ _) rfl ⟨rfl, rfl⟩
set_option maxRecDepth 100000 in
theorem down_nil (w : World) : Calls Try.prog 23 #[.pointer none] w fun e w' => e = .returned (.bool false) ∧ w = w' := by
  go_enter Try.func23, Try.ntmps23
  go_wp2_with (go_at_call 69; go_must (refine (is_nil _).mono ?_); rintro e w2 ⟨rfl, rfl⟩)
  go_ret
  exact ⟨rfl, rfl⟩
set_option maxRecDepth 100000 in
theorem steps_nil (w : World) : Calls Try.prog 30 #[.pointer none] w fun e w' => e = .returned (.int .i64 0) ∧ w = w' := by
  go_enter Try.func30, Try.ntmps30
  go_wp2_with (go_at_call 69; go_must (refine (is_nil _).mono ?_); rintro e w2 ⟨rfl, rfl⟩)
  go_ret
  exact ⟨rfl, rfl⟩
set_option maxRecDepth 100000 in
theorem pending_nil (w : World) : Calls Try.prog 31 #[.pointer none] w fun e w' => e = .returned (.int .i64 0) ∧ w = w' := by
  go_enter Try.func31, Try.ntmps31
  go_wp2_with (go_at_call 69; go_must (refine (is_nil _).mono ?_); rintro e w2 ⟨rfl, rfl⟩)
  go_ret
  exact ⟨rfl, rfl⟩
set_option maxRecDepth 100000 in
theorem starts_nil (w : World) : Calls Try.prog 92 #[.pointer none] w fun e w' => e = .returned (.int .i64 0) ∧ w = w' := by
  go_enter Try.func92, Try.ntmps92
  go_wp2_with (go_at_call 69; go_must (refine (is_nil _).mono ?_); rintro e w2 ⟨rfl, rfl⟩)
  go_ret
  exact ⟨rfl, rfl⟩
set_option maxRecDepth 100000 in
theorem copy_nil (w : World) : Calls Try.prog 33 #[.pointer none] w fun e w' => e = .returned (.pointer none) ∧ w = w' := by
  go_enter Try.func33, Try.ntmps33
  go_wp2_with (go_at_call 69; go_must (refine (is_nil _).mono ?_); rintro e w2 ⟨rfl, rfl⟩)
  go_ret
  exact ⟨rfl, rfl⟩
set_option maxRecDepth 100000 in
theorem sync_nil (w : World) (s : ByteArray) : Calls Try.prog 88 #[.pointer none, .string s] w fun e w' => e = .returned (.int .i64 1) ∧ Kp NoB w w' := by
  go_enter Try.func88, Try.ntmps88
  go_wp2_with (go_at_call 80; go_must (refine (wrong_nil _).mono ?_); rintro e w2 ⟨rfl, rfl⟩)
  go_ret
  exact ⟨rfl, (Kp.refl NoB w).alloc _⟩
set_option maxRecDepth 100000 in
theorem restart_nil (w : World) (A : Option Addr) (n c : Nat) : Calls Try.prog 47 #[.pointer none, .slice A n c] w fun e w' => e = .returned (.int .i64 1) ∧ w = w' := by
  go_enter Try.func47, Try.ntmps47
  go_wp2_with (go_at_call 69; go_must (refine (is_nil _).mono ?_); rintro e w2 ⟨rfl, rfl⟩)
  go_ret
  exact ⟨rfl, rfl⟩
end Go.Proofs.Ytegcbdfilkecpaa
/- The journal without a disk; no condition. -/
namespace Go.Proofs.Ytegcbdfilkecpaa
open Go.RowKit

theorem jready_nil (w : World) : Calls Try.prog 48 #[.pointer none] w fun e w' => e = .returned (.int .i64 1) ∧ w = w' := by
  go_enter Try.func48, Try.ntmps48
  go_wp2_with (go_at_call 28; go_must (refine (read_nil _ _ _ _).mono ?_); rintro e w2 ⟨rfl, rfl⟩)
  go_ret
  exact ⟨rfl, rfl⟩
theorem jcount_nil (w : World) : Calls Try.prog 14 #[.pointer none] w fun e w' => e = .returned (.int .i64 0) ∧ w = w' := by
  go_enter Try.func14, Try.ntmps14
  go_wp2_with (go_at_call 67; go_must (refine (len_nil _ _).mono ?_); rintro e w2 ⟨rfl, rfl⟩)
  go_ret
  exact ⟨rfl, rfl⟩
set_option maxRecDepth 100000 in
theorem jhot_nil (w : World) : Calls Try.prog 15 #[.pointer none] w fun e w' => e = .returned (.bool false) ∧ w = w' := by
  go_enter Try.func15, Try.ntmps15
  go_wp2_with (go_at_call 48; go_must (refine (jready_nil _).mono ?_); rintro e w2 ⟨rfl, rfl⟩)
  go_ret
  exact ⟨rfl, rfl⟩
set_option maxRecDepth 100000 in
theorem jrecover_nil (w : World) : Calls Try.prog 12 #[.pointer none] w fun e w' => e = .returned (.tuple #[.bool false, .int .i64 1]) ∧ w = w' := by
  go_enter Try.func12, Try.ntmps12
  go_wp2_with (go_at_call 48; go_must (refine (jready_nil _).mono ?_); rintro e w2 ⟨rfl, rfl⟩)
  go_ret2
  exact ⟨rfl, rfl⟩
set_option maxRecDepth 100000 in
theorem jcommit_nil (w : World) (count : Int) (A : Option Addr) (n cap : Nat) : Calls Try.prog 13 #[.pointer none, .int .i64 count, .slice A n cap] w fun e w' => e = .returned (.int .i64 1) ∧ Kp NoB w w' := by
  go_enter Try.func13, Try.ntmps13
  go_wp2_with (first
    | (go_at_call 48; go_must (refine (jready_nil _).mono ?_); rintro e w2 ⟨rfl, rfl⟩)
    | (go_at_call 14; go_must (refine (jcount_nil _).mono ?_); rintro e w3 ⟨rfl, rfl⟩))
  go_ret
  exact ⟨rfl, (((Kp.refl NoB w).alloc _).alloc _).alloc _⟩
attribute [local go_sem ↓] load26 store26 alloc26 build26
set_option maxRecDepth 100000 in
theorem jpage_nil (w : World) (n : Int) : Calls Try.prog 11 #[.pointer none, .int .i64 n] w fun e w' => e = .returned (.tuple #[.agg zero256, .int .i64 1]) ∧ Kp NoB w w' := by
  have hb0 : Blk (w.alloc (.cells zero256 24)) w.heap.size 24 zero256 := Blk.new _ _ _
  have HB0 := Lib.hid hb0
  have t2 := hb0.thereAll 256 (by rw [zero256_eq, bytesV_size]; rfl)
  have oz : ones zero256 := by rw [zero256_eq]; exact bytesV_one _
  have sz : zero256.size = 256 := by rw [zero256_eq, bytesV_size]; rfl
  have HSZ := Lib.hid sz
  clear hb0
  go_enter Try.func11, Try.ntmps11
  go_wp2_with (go_at_call 48; go_must (refine (jready_nil _).mono ?_); rintro e w2 ⟨rfl, rfl⟩)
  refine bodyPost_ret (ret_cell_tmp rfl _ _ _ _ _ _ rfl (HB0.out.whole zero256 rfl) Try.underlying24 rfl (by rw [HSZ.out]; exact info26) _ rfl) rfl ⟨rfl, ?_⟩
  exact Kp.setCells (.inl (Nat.le_refl _)) _ _ _ ((Kp.refl _ _).alloc _)
end Go.Proofs.Ytegcbdfilkecpaa
/- Without a disk every call of the journal reports exactly that; no condition. -/
namespace Go.Proofs.Ytegcbdfilkecpaa
open Go.RowKit

attribute [local go_sem ↓] load26 store26 alloc26 build26 eql26
set_option maxRecDepth 100000 in
set_option maxHeartbeats 1600000 in
theorem jnone_ok (w : World) (n : Int) (A : Option Addr) (m cap : Nat) : Calls Try.prog 3 #[.int .i64 n, .slice A m cap] w fun e w' => e = .returned (.bool true) ∧ Kp NoB w w' := by
  go_enter Try.func3, Try.ntmps3
  go_wp2_with fail
  refine (jpage_nil w n).mono ?_
  rintro e w2 ⟨rfl, hk2⟩
  have hbz := Blk.new w2 24 zero256
  have hbf := hbz.whole zero256 rfl
  have tz := hbz.thereAll 256 (by rw [zero256_eq, bytesV_size]; rfl)
  have of2 : ones zero256 := by rw [zero256_eq]; exact bytesV_one _
  have sf2 : zero256.size = 256 := by rw [zero256_eq, bytesV_size]; rfl
  have hk3 : Kp NoB w ((w2.alloc (.cells zero256 24)).setCells w2.heap.size 0 zero256.toList) := Kp.setCells (.inl hk2.size) _ _ _ (hk2.alloc _)
  have HBF := Lib.hid hbf
  have HK3 := Lib.hid hk3
  clear hk2 hbz hbf hk3
  go_upto_region 2 with fail
  obtain ⟨Bg, hBg⟩ : ∃ Bg, w2.heap.size = Bg := ⟨_, rfl⟩
  generalize (w2.alloc (.cells zero256 24)).setCells w2.heap.size 0 zero256.toList = w3 at HBF HK3 ⊢
  rw [hBg] at HBF ⊢
  clear hBg tz
  have t3 := HBF.out.thereAll 256 (by rw [zero256_eq, bytesV_size]; rfl)
  have r3 := HBF.out.readAll 256 (by rw [zero256_eq, bytesV_size]; rfl)
  have pz := pgOK_zero
  go_wp2_with (first
    | (go_at_call 12; go_must (refine (jrecover_nil _).mono ?_); rintro e w4 ⟨rfl, rfl⟩)
    | (go_at_call 13; go_must (refine (jcommit_nil _ _ _ _ _).mono ?_); rintro e w5 ⟨rfl, hk5⟩; have HK5 := Lib.hid hk5; clear hk5)
    | (go_at_call 14; go_must (refine (jcount_nil _).mono ?_); rintro e w6 ⟨rfl, rfl⟩)
    | (go_at_call 15; go_must (refine (jhot_nil _).mono ?_); rintro e w7 ⟨rfl, rfl⟩)
    | (go_at_call 16; go_must (refine (jawake_ok _).mono ?_); rintro e w8 ⟨rfl, hk8⟩; have HK8 := Lib.hid hk8; clear hk8))
  go_ret
  exact ⟨rfl, (HK3.out.trans HK5.out (fun _ _ q => q)).trans HK8.out (fun _ _ q => q)⟩
end Go.Proofs.Ytegcbdfilkecpaa
/- How an argument that is a slice of structs is read; no condition. -/
namespace Go.Proofs.Ytegcbdfilkecpaa
open Go.ChangeShapes Go.WideShapes Go.Deep
section
variable {H : Type} {enc : TypeId × Value → H} {P : Program} {w : World} {base : Nat} {spare : Nat → Bool} {held : Bool}
theorem open_slice_fields {t e : TypeId} {fs : Array Field} {fuel : Nat} {cs : List Value} {x : DataW H × List MemPlace} (ht : P.underlying t = some (.slice e)) (he : P.underlying e = some (.struct fs))
    (hone : oneCellFields P fs = true) (hC : P.cellsOf e = fs.size) (h : DataW.trod enc P w base spare held fuel t cs = some x) :
    (cs = [.slice none 0 0] ∧ x = (.nil, [])) ∨
    ∃ (a : Addr) (len cap m : Nat) (D : Nat → DataW H) (Pl : Nat → List MemPlace), cs = [.slice (some a) len cap] ∧ base ≤ a.block ∧ len ≤ cap ∧ cap ≤ maxLen ∧ m = (if spare a.block then cap else len) ∧
      x = (.slice ((List.range len).map D) ((List.range (m - len)).map fun j => D (len + j)), MemPlace.row a (m * fs.size) ++ (List.range m).flatMap Pl) ∧
      ∀ i, i < m → ∃ (ys : List (DataW H × List MemPlace)) (n : Nat), D i = .agg (ys.map (·.1)) ∧ Pl i = ys.flatMap (·.2) ∧ ys.length = fs.size ∧
        ∀ (j : Nat) (f : Field), fs[j]? = some f → ∃ (v : Value) (y : DataW H × List MemPlace), w.cell? (a.add (i * fs.size + j)) = some v ∧ ys[j]? = some y ∧ DataW.trod enc P w base spare held n f.type [v] = some y := by
  rcases open_slice ht h with h0 | ⟨a, len, cap, m, n, D, Pl, hcs, hb, hl, hm, hmm, hx, hi⟩
  · exact .inl h0
  · refine .inr ⟨a, len, cap, m, D, Pl, hcs, hb, hl, hm, hmm, by rw [hC] at hx; exact hx, fun i him => ?_⟩
    obtain ⟨cs', hc, ht'⟩ := hi i him
    rw [hC] at hc
    obtain ⟨ys, n', hn', hy, hlen, hyl, hf⟩ := DataW.trod_struct he ht'
    obtain ⟨_, hcl, hat⟩ := World.cells?_some hc
    simp only [Prod.mk.injEq] at hy
    refine ⟨ys, n', hy.1, hy.2, hyl, fun j f hj => ?_⟩
    obtain ⟨ho, hk⟩ := hone_of hone j f hj
    have hjl : j < fs.size := (Array.getElem?_eq_some_iff.1 hj).1
    have hcell := hat j hjl
    have hv : cs'[j]? = some (cs'[j]'(by omega)) := List.getElem?_eq_getElem (by omega)
    have h1 := hf j f hj
    rw [ho, hk] at h1
    have hone' : (cs'.drop j).take 1 = [cs'[j]'(by omega)] := by
      rw [List.drop_eq_getElem_cons (by omega)]
      rfl
    rw [hone'] at h1
    have hys : ys[j]? = some (ys[j]'(by omega)) := List.getElem?_eq_getElem (by omega)
    refine ⟨_, _, ?_, hys, h1.trans hys⟩
    rw [← Go.Deep.add_add, hcell, hv]
end
end Go.Proofs.Ytegcbdfilkecpaa
/- How arguments that come in are read: numbers, texts, lists of texts, arrays of bytes; no condition. -/
namespace Go.Proofs.Ytegcbdfilkecpaa
open Go.ChangeShapes Go.WideShapes Go.ChangeAt Go.RowKit

section
variable {H : Type} {enc : TypeId × Value → H} {P : Program} {W : World} {spare : Nat → Bool} {held : Bool} {t e : TypeId} {d : DataW H} {p : List MemPlace}
theorem open_wf {k : IntKind} {n : Int} (hu : P.underlying t = some (.int k)) (h : DataW.Trod enc P W 0 spare held t (.int k n) d p) : (Lit.int k n).wf = true := by
  obtain ⟨fuel, hf⟩ := h
  obtain ⟨m, e1, _, wf⟩ := DataW.trod_int hu hf
  simp [Value.cells] at e1
  subst e1
  exact wf
theorem wf_u8 {n : Int} (h : (Lit.int .u8 n).wf = true) : 0 ≤ n ∧ n ≤ 255 := (Lit.wf_int_iff .u8 n).1 h
theorem wf_u32 {n : Int} (h : (Lit.int .u32 n).wf = true) : 0 ≤ n ∧ n ≤ 4294967295 := (Lit.wf_int_iff .u32 n).1 h
theorem wf_u64 {n : Int} (h : (Lit.int .u64 n).wf = true) : 0 ≤ n ∧ n ≤ 18446744073709551615 := (Lit.wf_int_iff .u64 n).1 h
theorem wf_i64 {n : Int} (h : (Lit.int .i64 n).wf = true) : -9223372036854775808 ≤ n ∧ n ≤ 9223372036854775807 := (Lit.wf_int_iff .i64 n).1 h
theorem open_str {s : ByteArray} (hu : P.underlying t = some .string) (h : DataW.Trod enc P W 0 spare held t (.string s) d p) : s.size ≤ 9223372036854775807 := by
  obtain ⟨fuel, hf⟩ := h
  obtain ⟨s', e1, _, hs⟩ := DataW.trod_string hu hf
  simp [Value.cells] at e1
  subst e1
  exact hs
theorem trod_lt' {v : Value} (h : DataW.Trod enc P W 0 spare held t v d p) : ∀ x ∈ p, x.block < W.heap.size := by obtain ⟨m, hm⟩ := h; exact DataW.trod_lt m _ _ _ hm
theorem open_strs {a0 : Option Addr} {len cap : Nat} (hu : P.underlying t = some (.slice e)) (he : P.underlying e = some .string) (hc : P.cellsOf e = 1) (h : DataW.Trod enc P W 0 spare held t (.slice a0 len cap) d p) :
    ∃ xs : List ByteArray, Sl W a0 len xs ∧ len ≤ 9223372036854775807 ∧ (a0 = none → len = 0 ∧ cap = 0) ∧ ∀ c ∈ xs, c.size ≤ 9223372036854775807 := by
  obtain ⟨fuel, hf⟩ := h
  rcases open_strings hu he hc hf with ⟨hcs, hx⟩ | ⟨a, len', cap', ss, hcs, _, hl, hm, hz, hx, hcell, hsz⟩
  · simp [Value.cells] at hcs
    obtain ⟨rfl, rfl, rfl⟩ := hcs
    exact ⟨[], ⟨rfl, fun h => absurd h (by omega)⟩, by omega, fun _ => ⟨rfl, rfl⟩, fun c hc => by simp at hc⟩
  · simp [Value.cells] at hcs
    obtain ⟨rfl, rfl, rfl⟩ := hcs
    have hlm : len ≤ ss.length := by rw [hz]; split <;> omega
    refine ⟨ss.take len, ⟨by simp; omega, fun h0 => ?_⟩, by unfold maxLen at hm; omega, (fun q => by cases q), fun c hc => hsz c (List.mem_of_mem_take hc)⟩
    obtain ⟨b, off, spot⟩ := a
    have hspot : spot = none := by simpa [Addr.add] using World.cell?_spot (hcell 0 (by omega))
    subst hspot
    refine ⟨b, off, rfl, ?_, fun k hk => ?_⟩
    · have := hcell 0 (by omega)
      rw [add_mk] at this
      exact block_lt_of_cell this
    · have := hcell k (by omega)
      rw [add_mk] at this
      rw [this]
      simp [List.getElem?_take_of_lt hk]
theorem DataW.trod_array {n fuel : Nat} {cs : List Value} {x : DataW H × List MemPlace} {base : Nat} (ht : P.underlying t = some (.array n e)) (h : DataW.trod enc P W base spare held fuel t cs = some x) :
    ∃ m, fuel = m + 1 ∧ cs.length = P.cellsOf t ∧ ∀ i, i < n → ∃ y, DataW.trod enc P W base spare held m e ((cs.drop (i * P.cellsOf e)).take (P.cellsOf e)) = some y := by
  cases fuel with
  | zero => simp [DataW.trod] at h
  | succ m =>
    unfold DataW.trod at h
    rw [ht] at h
    split at h <;> simp_all
    obtain ⟨hl, xs, hp, hd⟩ := h
    intro i hi
    have h1 := mapM_some_get hp i i (by simp [hi])
    have h2 := mapM_some_length hp
    simp at h2
    exact ⟨_, _, h1.trans (List.getElem?_eq_getElem (by omega))⟩
theorem open_row {n : Nat} {k : IntKind} {v : Value} (ht : P.underlying t = some (.array n e)) (he : P.underlying e = some (.int k)) (hc : P.cellsOf t = n) (hce : P.cellsOf e = 1) (hn : n ≠ 1) (h : DataW.Trod enc P W 0 spare held t v d p) :
    ∃ l : List Int, l.length = n ∧ v = .agg (l.map (Value.int k)).toArray ∧ ∀ x ∈ l, (Lit.int k x).wf = true := by
  obtain ⟨fuel, hf⟩ := h
  obtain ⟨m, _, hl, hi⟩ := DataW.trod_array ht hf
  rw [hc] at hl
  have hv : ∃ cs, v = .agg cs := by
    cases v <;> first | exact ⟨_, rfl⟩ | (simp [Value.cells] at hl; omega)
  obtain ⟨cs, rfl⟩ := hv
  simp only [Value.cells] at hl hi
  have hsz : cs.size = n := by simpa using hl
  have each : ∀ i, i < n → ∃ x : Int, cs[i]? = some (.int k x) ∧ (Lit.int k x).wf = true := by
    intro i hin
    obtain ⟨y, hy⟩ := hi i hin
    rw [hce, Nat.mul_one] at hy
    obtain ⟨x, e1, _, wf⟩ := DataW.trod_int he hy
    refine ⟨x, ?_, wf⟩
    have : (cs.toList.drop i)[0]? = some (.int k x) := by
      have := congrArg (fun l => l[0]?) e1
      simpa [List.getElem?_take] using this
    simpa using this
  refine ⟨cs.toList.map (fun v => match v with | .int _ x => x | _ => 0), by simp [hsz], ?_, ?_⟩
  · congr 1
    apply Array.ext_getElem?
    intro i
    simp only [List.map_map, List.getElem?_toArray, List.getElem?_map, Array.getElem?_toList]
    rcases Nat.lt_or_ge i n with q | q
    · obtain ⟨x, hx, _⟩ := each i q
      rw [hx]; rfl
    · rw [Array.getElem?_eq_none (by omega)]; rfl
  · intro x hx
    obtain ⟨i, hi', rfl⟩ := List.getElem_of_mem hx
    have hi2 : i < n := by simpa [hsz] using hi'
    obtain ⟨x, hx, wf⟩ := each i hi2
    have h3 : (cs.toList.map (fun v => match v with | .int _ x => x | _ => (0 : Int)))[i]? = some x := by
      rw [List.getElem?_map, Array.getElem?_toList, hx]; rfl
    rw [List.getElem?_eq_getElem (by simpa using hi')] at h3
    simp only [Option.some.injEq] at h3
    rw [h3]
    exact wf
end
end Go.Proofs.Ytegcbdfilkecpaa
