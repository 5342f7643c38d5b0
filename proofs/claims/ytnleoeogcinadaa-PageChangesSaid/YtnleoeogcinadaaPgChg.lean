/- PageChanges: the walk of the law; no condition. -/
import Derived.Test.YtnleoeogcinadaaPgSet
import Derived.Test.YtnleoeogcinadaaPgInsP
import Derived.Test.YtnleoeogcinadaaPgPut
import Derived.Test.YtnleoeogcinadaaPgRefG
namespace Go.Proofs.Ytnleoeogcinadaa
open Go.RowKit
attribute [local go_sem ↓] load26 store26 alloc26 build26 slice26lo load34 store34 eql26 neq26
attribute [local go_sem] size_setCells

theorem set_page (l : List Int) (link : Int) : ∃ Z e, setF l link = (Z, e) ∧ PgA Z := by
  refine ⟨(setF l link).1, (setF l link).2, rfl, ?_⟩
  unfold setF
  split
  · exact PgA.zero
  · exact PgA.told _ _ _
theorem del_page (l : List Int) (i : Int) : ∃ Z e, delF l i = (Z, e) ∧ PgA Z := by
  refine ⟨(delF l i).1, (delF l i).2, rfl, ?_⟩
  unfold delF
  split
  · exact PgA.zero
  · split
    · exact PgA.zero
    · exact PgA.told _ _ _
theorem ins_page (l : List Int) (i : Int) (c : ByteArray) : ∃ Z e, insF l i c = (Z, e) ∧ PgA Z := by
  refine ⟨(insF l i c).1, (insF l i c).2, rfl, ?_⟩
  unfold insF
  split
  · exact PgA.zero
  · split
    · exact PgA.zero
    · split
      · exact PgA.zero
      · exact PgA.told _ _ _
structure QA (w : World) (l : List Int) (g9 : Nat) (c9 : Array Value) (W : World) : Prop where
  kp : Kp NoB w W
  b4 : Blk W w.heap.size 26 (bytesV l)
  b9 : Blk W g9 34 c9
  f : RRf (readF l) (.agg c9) W
theorem QA.keep {w : World} {l : List Int} {g9 : Nat} {c9 : Array Value} {W W' : World} (h : QA w l g9 c9 W) (k : Kp NoB W W') : QA w l g9 c9 W' :=
  ⟨h.kp.trans k (fun _ _ q => q), h.b4.keep k (fun q => q), h.b9.keep k (fun q => q), h.f.keep k⟩
structure QB (w : World) (l : List Int) (g9 : Nat) (c9 : Array Value) (g10 : Nat) (X : Array Value) (W : World) : Prop where
  qa : QA w l g9 c9 W
  b10 : Blk W g10 26 X
theorem QB.keep {w : World} {l : List Int} {g9 : Nat} {c9 : Array Value} {g10 : Nat} {X : Array Value} {W W' : World} (h : QB w l g9 c9 g10 X W) (k : Kp NoB W W') : QB w l g9 c9 g10 X W' :=
  ⟨h.qa.keep k, h.b10.keep k (fun q => q)⟩
structure QC (w : World) (l : List Int) (g9 : Nat) (c9 : Array Value) (g10 : Nat) (X : Array Value) (g12 : Nat) (Y : Array Value) (W : World) : Prop where
  qb : QB w l g9 c9 g10 X W
  b12 : Blk W g12 26 Y
theorem QC.keep {w : World} {l : List Int} {g9 : Nat} {c9 : Array Value} {g10 : Nat} {X : Array Value} {g12 : Nat} {Y : Array Value} {W W' : World} (h : QC w l g9 c9 g10 X g12 Y W) (k : Kp NoB W W') : QC w l g9 c9 g10 X g12 Y W' :=
  ⟨h.qb.keep k, h.b12.keep k (fun q => q)⟩
structure QD (w : World) (l : List Int) (g9 : Nat) (c9 : Array Value) (g10 : Nat) (X : Array Value) (g12 : Nat) (Y : Array Value) (g14 : Nat) (Z : Array Value) (W : World) : Prop where
  qc : QC w l g9 c9 g10 X g12 Y W
  b14 : Blk W g14 26 Z
theorem QD.keep {w : World} {l : List Int} {g9 : Nat} {c9 : Array Value} {g10 : Nat} {X : Array Value} {g12 : Nat} {Y : Array Value} {g14 : Nat} {Z : Array Value} {W W' : World} (h : QD w l g9 c9 g10 X g12 Y g14 Z W) (k : Kp NoB W W') : QD w l g9 c9 g10 X g12 Y g14 Z W' :=
  ⟨h.qc.keep k, h.b14.keep k (fun q => q)⟩

/-- a page's block and a body's block made behind V -/
structure TD (V : World) (ga gb : Nat) (P cb : Array Value) (W : World) : Prop where
  k : Kp NoB V W
  ba : Blk W ga 26 P
  bb : Blk W gb 34 cb
  na : V.heap.size ≤ ga
  nb : ga < gb
theorem TD.keep {V : World} {ga gb : Nat} {P cb : Array Value} {W W' : World} (h : TD V ga gb P cb W) (k : Kp NoB W W') : TD V ga gb P cb W' :=
  ⟨h.k.trans k (fun _ _ q => q), h.ba.keep k (fun q => q), h.bb.keep k (fun q => q), h.na, h.nb⟩
theorem TD.setb {V : World} {ga gb : Nat} {P cb : Array Value} {W : World} (h : TD V ga gb P cb W) (v : Value) : TD V ga gb P (cb.setIfInBounds 3 v) (W.setCell ⟨gb, 3, none⟩ v) :=
  ⟨h.k.setCell (p := ⟨gb, 3, none⟩) (.inl (by have := h.na; have := h.nb; show _ ≤ gb; omega)) v, h.ba.far (p := ⟨gb, 3, none⟩) (by have := h.nb; show ga ≠ gb; omega) v, h.bb.set_ 3 v, h.na, h.nb⟩
theorem TD.seta {V : World} {ga gb : Nat} {P cb : Array Value} {W : World} (h : TD V ga gb P cb W) (Q : Array Value) (hP : P.size = 256) (hQ : Q.size = 256) : TD V ga gb Q cb (W.setCells ga 0 Q.toList) :=
  ⟨Kp.setCells (.inl h.na) _ _ _ h.k, h.ba.whole Q (by rw [hP, hQ]), h.bb.farCells (by have := h.nb; omega) _ _ _, h.na, h.nb⟩
theorem body4_noStr (is : Bool) (k l : Int) (A : Option Addr) (n cap : Nat) {i : Nat} {s : ByteArray} (h : (rBody4 is k l A n cap)[i]? = some (.string s)) : False := by
  unfold rBody4 at h
  match i, h with
  | 0, h => simp at h
  | 1, h => simp at h
  | 2, h => simp at h
  | 3, h => simp at h
  | n + 4, h => simp at h
theorem Sl.setBody4 {w : World} {A : Option Addr} {n : Nat} {xs : List ByteArray} {gb o : Nat} {is : Bool} {k l : Int} {B : Option Addr} {m cap : Nat} (h : Sl w A n xs) (hb : Blk w gb 34 (rBody4 is k l B m cap)) (v : Value) : Sl (w.setCell ⟨gb, o, none⟩ v) A n xs := by
  refine ⟨h.1, fun hn => ?_⟩
  obtain ⟨g', o', e, hg, hc⟩ := h.2 hn
  have hne : ¬ OnB gb g' := by
    intro q
    unfold OnB at q
    subst q
    have h0 := hc 0 hn
    rw [hb.cell] at h0
    exact body4_noStr _ _ _ _ _ _ h0
  have kk := Kp.setCell (S := OnB gb) (p := ⟨gb, o, none⟩) (Kp.refl _ w) (.inr rfl) v
  exact ⟨g', o', e, Nat.lt_of_lt_of_le hg kk.size, fun j hj => (kk.cell hg hne).trans (hc j hj)⟩
theorem roomI_del (cs : List ByteArray) (i : Nat) (h : i < cs.length) : roomI cs ≤ roomI (cs.take i ++ cs.drop (i + 1)) := by
  have e : cs.take i ++ [cs[i]] ++ cs.drop (i + 1) = cs := by
    rw [List.append_assoc, List.singleton_append, ← List.drop_eq_getElem_cons h, List.take_append_drop]
  have e2 : roomI cs = roomI (cs.take i ++ [cs[i]] ++ cs.drop (i + 1)) := by rw [e]
  rw [e2]
  unfold roomI
  rw [List.map_append, List.map_append, List.map_append, List.sum_append, List.sum_append, List.sum_append]
  have : (0 : Int) ≤ cs[i].size := Int.natCast_nonneg _
  simp
  omega

set_option maxRecDepth 100000 in
set_option maxHeartbeats 8000000 in
theorem changes_ok (w : World) (l : List Int) (hB : Bytes l) (i : Int) (c : ByteArray) (hcz : c.size ≤ 9223372036854775807) (link : Int) :
    Calls Try.prog 6 #[.agg (bytesV l), .int .i64 i, .string c, .int .u32 link] w fun e w' => e = .returned (.bool true) ∧ Kp NoB w w' := by
  have HB := Lib.hid hB
  have HCZ := Lib.hid hcz
  have l256 := hB.len
  have hb0 := Blk.new w 26 (bytesV l)
  have HB0 := Lib.hid hb0
  have t1 := hb0.thereAll 256 (by rw [bytesV_size]; exact l256)
  have r1 := hb0.readAll 256 (by rw [bytesV_size]; exact l256)
  obtain ⟨X, ex, hX, pgX⟩ := ins_page l i c
  obtain ⟨Y, ey, hY, pgY⟩ := del_page l i
  obtain ⟨Z, ez, hZ, pgZ⟩ := set_page l link
  have HX := Lib.hid hX
  have HY := Lib.hid hY
  have HZ := Lib.hid hZ
  obtain ⟨sX, oX, pX⟩ := pgX
  obtain ⟨sY, oY, pY⟩ := pgY
  obtain ⟨sZ, oZ, pZ⟩ := pgZ
  have zsz := zero256_size
  have zon := zero256_one
  have zok := pgOK_zero
  clear hB hcz hb0 hX hY hZ
  go_enter Try.func6, Try.ntmps6
  go_wp2_with (have hG := HB0; clear hG; go_at_call 11; go_must (refine (rread4 _ l HB.out).mono ?_); rintro e w2 ⟨v, rfl, hf, hk⟩; obtain ⟨is, k, lk, A, n, cap, rfl⟩ := hf.agg; obtain ⟨th9, kk, hb9, hs9⟩ := after19 w2 w2.heap.size (rBody4 is k lk A n cap) rfl rfl; have s9 : (rBody4 is k lk A n cap).size = 4 := rfl; have o9 : ones (rBody4 is k lk A n cap) := body4_one _ _ _ _ _ _; have hkk := hk.trans kk (fun _ _ q => q); have HQA := Lib.hid (show QA w l w2.heap.size (rBody4 is k lk A n cap) _ from ⟨((Kp.refl NoB w).alloc _).trans hkk (fun _ _ q => q), HB0.out.keep hkk (fun q => q), hb9, hf.keep kk⟩); have t4 := HQA.out.b4.thereAll 256 (by rw [bytesV_size]; exact l256); have r4 := HQA.out.b4.readAll 256 (by rw [bytesV_size]; exact l256); clear hf hk kk hb9 hs9 hkk HB0)
  refine forget (p := fun wx => Calls _ _ _ wx _) (QA w l w2.heap.size (rBody4 is k lk A n cap)) HQA.out ?_
  clear th9 t4 r4 t1 r1 HQA
  generalize w2.heap.size = g9
  intro V1 h1
  have HQ1 := Lib.hid h1
  clear h1
  refine (Insert_ok _ l HB.out i c HCZ.out).mono ?_
  rintro e w3 hq
  rw [HX.out] at hq
  obtain ⟨rfl, hk⟩ := hq
  obtain ⟨th, hb, kk⟩ := one_page w3 X sX
  have hkk := hk.trans kk (fun _ _ q => q)
  have HN := Lib.hid (show QB w l g9 (rBody4 is k lk A n cap) w3.heap.size X _ from ⟨HQ1.out.keep hkk, hb⟩)
  have t4 := HN.out.qa.b4.thereAll 256 (by rw [bytesV_size]; exact l256)
  have r4 := HN.out.qa.b4.readAll 256 (by rw [bytesV_size]; exact l256)
  clear hk hb kk hkk
  go_wp2_with fail
  refine forget (p := fun wx => Calls _ _ _ wx _) (QB w l g9 (rBody4 is k lk A n cap) w3.heap.size X) HN.out ?_
  clear th t4 r4 HN
  generalize w3.heap.size = g10
  intro V h
  have HQ2 := Lib.hid h
  clear h
  refine (Delete_ok _ l HB.out i).mono ?_
  rintro e w3 hq
  rw [HY.out] at hq
  obtain ⟨rfl, hk⟩ := hq
  obtain ⟨th, hb, kk⟩ := one_page w3 Y sY
  have hkk := hk.trans kk (fun _ _ q => q)
  have HN := Lib.hid (show QC w l g9 (rBody4 is k lk A n cap) g10 X w3.heap.size Y _ from ⟨HQ2.out.keep hkk, hb⟩)
  have t4 := HN.out.qb.qa.b4.thereAll 256 (by rw [bytesV_size]; exact l256)
  have r4 := HN.out.qb.qa.b4.readAll 256 (by rw [bytesV_size]; exact l256)
  clear hk hb kk hkk
  go_wp2_with fail
  refine forget (p := fun wx => Calls _ _ _ wx _) (QC w l g9 (rBody4 is k lk A n cap) g10 X w3.heap.size Y) HN.out ?_
  clear th t4 r4 HN
  generalize w3.heap.size = g12
  intro V h
  have HQ3 := Lib.hid h
  clear h
  rcases hr : readF l with _ | ⟨k0, l0, cs⟩
  · have h1 := HQ3.out.qb.qa.f
    rw [hr] at h1
    have h2 := Value.agg.inj h1
    have HC9 := Lib.hid h2
    have hx := HX.out
    rw [show insF l i c = (zero256, 8) by unfold insF; rw [hr]] at hx
    have hy := HY.out
    rw [show delF l i = (zero256, 8) by unfold delF; rw [hr]] at hy
    have hz := HZ.out
    rw [show setF l link = (zero256, 8) by unfold setF; rw [hr]] at hz
    simp only [Prod.mk.injEq] at hx hy hz
    obtain ⟨rfl, rfl⟩ := hx
    obtain ⟨rfl, rfl⟩ := hy
    obtain ⟨rfl, rfl⟩ := hz
    have HR := Lib.hid hr
    clear h1 h2 hr
    refine (SetLink_ok _ l HB.out link).mono ?_
    rintro e w3 hq
    rw [HZ.out] at hq
    obtain ⟨rfl, hk⟩ := hq
    obtain ⟨th, hb, kk⟩ := one_page w3 zero256 sZ
    have hkk := hk.trans kk (fun _ _ q => q)
    have HN := Lib.hid (show QD w l g9 (rBody4 is k lk A n cap) g10 zero256 g12 zero256 w3.heap.size zero256 _ from ⟨HQ3.out.keep hkk, hb⟩)
    have c90 := cellAt (v := .bool false) (HC9.out ▸ HN.out.qc.qb.qa.b9) 0 rfl
    have t10 := HN.out.qc.qb.b10.thereAll 256 zsz
    have r10 := HN.out.qc.qb.b10.readAll 256 zsz
    have t12 := HN.out.qc.b12.thereAll 256 zsz
    have r12 := HN.out.qc.b12.readAll 256 zsz
    have t14 := HN.out.b14.thereAll 256 zsz
    have r14 := HN.out.b14.readAll 256 zsz
    clear hk hb kk hkk
    go_wp2_with (go_at_call 8; go_must (refine (awake_ok _).mono ?_); rintro e w99 ⟨rfl, hk9⟩; have HK9 := Lib.hid hk9; clear hk9)
    go_ret
    exact ⟨rfl, HN.out.qc.qb.qa.kp.trans HK9.out (fun _ _ q => q)⟩
  · obtain ⟨A', cap', h1, hsl, hnA, hform, hcap⟩ := (show RRf (some (k0, l0, cs)) (.agg (rBody4 is k lk A n cap)) _ from hr ▸ HQ3.out.qb.qa.f).form
    have h2 := Value.agg.inj h1
    unfold rBody4 at h2
    simp only [Array.mk.injEq, List.cons.injEq, Value.bool.injEq, Value.int.injEq, Value.slice.injEq, true_and, and_true] at h2
    obtain ⟨rfl, rfl, rfl, rfl, rfl, rfl⟩ := h2
    have hfa := readF_facts HB.out hr
    have hroom := readF_room HB.out hr
    have HR := Lib.hid hr
    have HSL := Lib.hid hsl
    have HFM := Lib.hid hform
    have HFA := Lib.hid hfa
    have HRM := Lib.hid hroom
    have hc250 := hfa.1
    have hz := HZ.out
    rw [show setF l link = toldR k link cs by unfold setF; rw [hr]] at hz
    have HT1 := Lib.hid hz
    have HSZ : Hid (∀ d ∈ cs, d.size ≤ 9223372036854775807) := Lib.hid (fun d hd => by have := (hfa.2.1 d hd).2; omega)
    have HLO : Hid (-9223372036854775808 ≤ roomI cs) := Lib.hid (by omega)
    have HKK : Hid (0 ≤ k ∧ k ≤ 255) := Lib.hid ⟨hfa.2.2.1, by have := hfa.2.2.2.1; omega⟩
    have sC : (rBody4 true k lk A cs.length cap).size = 4 := rfl
    have oC : ones (rBody4 true k lk A cs.length cap) := body4_one _ _ _ _ _ _
    clear h1 hsl hnA hform hfa hroom hz hr
    refine (SetLink_ok _ l HB.out link).mono ?_
    rintro e w3 hq
    rw [HZ.out] at hq
    obtain ⟨rfl, hk⟩ := hq
    obtain ⟨th, hb, kk⟩ := one_page w3 Z sZ
    have hkk := hk.trans kk (fun _ _ q => q)
    have HN := Lib.hid (show QD w l g9 (rBody4 true k lk A cs.length cap) g10 X g12 Y w3.heap.size Z _ from ⟨HQ3.out.keep hkk, hb⟩)
    have hkw := HSL.out.keep hkk
    have c90 := cellAt (v := .bool true) HN.out.qc.qb.qa.b9 0 rfl
    have t9 := HN.out.qc.qb.qa.b9.thereAll 4 rfl
    have r9 := HN.out.qc.qb.qa.b9.readAll 4 rfl
    obtain ⟨th16, k16, hb16, hs16⟩ := after19 ((w3.alloc (.cells zero256 26)).setCells w3.heap.size 0 Z.toList) (w3.heap.size + 1) (rBody4 true k lk A cs.length cap) (by simp [size_setCells]) rfl
    have c162 := cellAt (v := .int .u32 lk) hb16 2 rfl
    have f162 := hb16.frozen 2
    have hb16' := hb16.set_ 2 (.int .u32 link)
    have t16 := hb16'.thereAll 4 rfl
    have r16 : readRow _ (w3.heap.size + 1) 0 4 = rBody4 true k link A cs.length cap := hb16'.readAll 4 rfl
    have k16' := k16.setCell (p := ⟨w3.heap.size + 1, 2, none⟩) (.inl (by show _ ≤ w3.heap.size + 1; simp [size_setCells])) (.int .u32 link)
    have HN7 := Lib.hid (HN.out.keep k16')
    have HS7 := Lib.hid (hkw.keep k16')
    clear hk hb kk hkk hkw k16 hb16 hs16 hb16' k16'
    go_wp2_with fail
    refine forget (p := fun wx => Calls _ _ _ wx _) (fun W' => QD w l g9 (rBody4 true k lk A cs.length cap) g10 X g12 Y w3.heap.size Z W' ∧ Sl W' A cs.length cs) ⟨HN7.out, HS7.out⟩ ?_
    clear th c90 t9 r9 th16 c162 f162 t16 r16 HN HN7 HS7
    generalize w3.heap.size = g14
    rintro V5 ⟨h5, hs5⟩
    have HQ := Lib.hid h5
    have HS := Lib.hid hs5
    clear h5 hs5 HSL
    refine (rtold_gen _ true k link A cs.length cap cs HKK.out.1 HKK.out.2 (by omega) HSZ.out HLO.out HS.out).mono ?_
    rintro e w6 hq
    rw [HT1.out] at hq
    obtain ⟨rfl, hk6⟩ := hq
    obtain ⟨th17, hb17, kk⟩ := one_page w6 Z sZ
    have hkk := hk6.trans kk (fun _ _ q => q)
    have hq9 := HQ.out.keep hkk
    have t14 := hq9.b14.thereAll 256 sZ
    have r14 := hq9.b14.readAll 256 sZ
    have t17 := hb17.thereAll 256 sZ
    have r17 := hb17.readAll 256 sZ
    obtain ⟨th19, k19, hb19, hs19⟩ := after15 ((w6.alloc (.cells zero256 26)).setCells w6.heap.size 0 Z.toList) (w6.heap.size + 1) (by simp [size_setCells])
    have hq10 := hq9.keep k19
    have c93 := cellAt (v := .slice A cs.length cap) hq10.qc.qb.qa.b9 3 rfl
    have HQ9 := Lib.hid hq9
    have HQ10 := Lib.hid hq10
    have HS9 := Lib.hid (HS.out.keep hkk)
    have HK10 := Lib.hid k19
    have HB19 := Lib.hid hb19
    have HS19 := Lib.hid hs19
    have HV9 : Hid (((w6.alloc (.cells zero256 26)).setCells w6.heap.size 0 Z.toList).heap.size = w6.heap.size + 1) := Lib.hid (by simp [size_setCells])
    clear hk6 hb17 kk hkk hq9 k19 hb19 hs19 hq10 HQ HS
    by_cases hin : 0 ≤ i ∧ i < (cs.length : Int)
    · obtain ⟨j, rfl⟩ := Int.eq_ofNat_of_zero_le hin.1
      have hj : j < cs.length := by omega
      have hj0 : (0 : Int) ≤ (j : Int) := by omega
      have hj1 : (j : Int) < (cs.length : Int) := hin.2
      have hj2 : (j : Int) ≤ (cs.length : Int) := by omega
      have t9 := HQ10.out.qc.qb.qa.b9.thereAll 4 rfl
      have r9 := HQ10.out.qc.qb.qa.b9.readAll 4 rfl
      obtain ⟨th20, k20, hb20, hs20⟩ := after19 ((((w6.alloc (.cells zero256 26)).setCells w6.heap.size 0 Z.toList).alloc (.cells zero256 26)).setCells (w6.heap.size + 1) 0 zero256.toList) (w6.heap.size + 1 + 1) (rBody4 true k lk A cs.length cap) HS19.out rfl
      have hq11 := HQ10.out.keep k20
      have c93b := cellAt (v := .slice A cs.length cap) hq11.qc.qb.qa.b9 3 rfl
      have HTD := Lib.hid (show TD ((w6.alloc (.cells zero256 26)).setCells w6.heap.size 0 Z.toList) (w6.heap.size + 1) (w6.heap.size + 1 + 1) zero256 (rBody4 true k lk A cs.length cap) _ from ⟨HK10.out.trans k20 (fun _ _ q => q), HB19.out.keep k20 (fun q => q), hb20, by rw [HV9.out]; exact Nat.le_refl _, by omega⟩)
      clear k20 hb20 hs20 hq11 hin
      go_wp2_with fail
      refine forget (p := fun wx => Calls _ _ _ wx _) (TD ((w6.alloc (.cells zero256 26)).setCells w6.heap.size 0 Z.toList) (w6.heap.size + 1) (w6.heap.size + 1 + 1) zero256 (rBody4 true k lk A cs.length cap)) HTD.out ?_
      clear th17 t14 r14 t17 r17 th19 c93 t9 r9 th20 c93b HTD HQ10 HK10 HB19 HS19 HV9
      generalize ((w6.alloc (.cells zero256 26)).setCells w6.heap.size 0 Z.toList) = V9 at HQ9 HS9 ⊢
      generalize w6.heap.size = h6
      intro V11 h11
      have HTD := Lib.hid h11
      clear h11
      refine (out_ok _ A cs.length cap j cs hj (by omega) hcap (HFM.out.imp id id) (HS9.out.keep HTD.out.k)).mono ?_
      rintro e w7 ⟨C, m, cc, rfl, hm, hsC, hk7⟩
      have htd := HTD.out.keep hk7
      have c203 := cellAt (v := .slice A cs.length cap) htd.bb 3 rfl
      have f203 := htd.bb.frozen 3
      have htd2 : TD V9 (h6 + 1) (h6 + 1 + 1) zero256 (rBody4 true k lk C m cc) (w7.setCell ⟨h6 + 1 + 1, 3, none⟩ (.slice C m cc)) := htd.setb (.slice C m cc)
      have c203w := cellAt (v := .slice C m cc) htd2.bb 3 rfl
      have t20 := htd2.bb.thereAll 4 rfl
      have r20 := htd2.bb.readAll 4 rfl
      have HSC := Lib.hid (hsC.setBody4 (o := 3) htd.bb (.slice C m cc))
      have HTD2 := Lib.hid htd2
      have HM := Lib.hid hm
      clear hk7 htd htd2 hsC hm HTD
      go_wp2_with fail
      refine forget (p := fun wx => Calls _ _ _ wx _) (fun W' => TD V9 (h6 + 1) (h6 + 1 + 1) zero256 (rBody4 true k lk C m cc) W' ∧ Sl W' C m (cs.take j ++ cs.drop (j + 1))) ⟨HTD2.out, HSC.out⟩ ?_
      clear c203 f203 c203w t20 r20 HTD2 HSC
      rintro V12 ⟨h12, hs12⟩
      have HTD := Lib.hid h12
      have HSC := Lib.hid hs12
      clear h12 hs12
      have hy := HY.out
      rw [show delF l (j : Int) = toldR k lk (cs.take j ++ cs.drop (j + 1)) by unfold delF; rw [HR.out]; rw [show ((j : Int)).toNat = j by omega]; exact if_neg (by omega)] at hy
      have HT2 := Lib.hid hy
      clear hy
      refine (rtold_gen _ true k lk C m cc _ HKK.out.1 HKK.out.2 (by have := HM.out; omega) (fun d hd => (List.mem_append.1 hd).elim (fun q => HSZ.out d (List.mem_of_mem_take q)) (fun q => HSZ.out d (List.mem_of_mem_drop q))) (by have := roomI_del cs j hj; have := HRM.out; omega) HSC.out).mono ?_
      rintro e w8 hq
      rw [HT2.out] at hq
      obtain ⟨rfl, hk8⟩ := hq
      have htd := HTD.out.keep hk8
      have th19 := htd.ba.thereAll 256 zsz
      have htd2 := htd.seta Y zsz sY
      have t19 := htd2.ba.thereAll 256 sY
      have r19 := htd2.ba.readAll 256 sY
      have hq13 := HQ9.out.keep htd2.k
      have t12 := hq13.qc.b12.thereAll 256 sY
      have r12 := hq13.qc.b12.readAll 256 sY
      have hqV := hq13
      have hsV := HS9.out.keep htd2.k
      obtain ⟨th21, k21, hb21, hs21⟩ := after15 (w8.setCells (h6 + 1) 0 Y.toList) (w8.heap.size) (by rw [size_setCells])
      have hq14 := hqV.keep k21
      have c93 := cellAt (v := .slice A cs.length cap) hq14.qc.qb.qa.b9 3 rfl
      have HQV := Lib.hid hqV
      have HSV := Lib.hid hsV
      have t9 := hq14.qc.qb.qa.b9.thereAll 4 rfl
      have r9 := hq14.qc.qb.qa.b9.readAll 4 rfl
      obtain ⟨th22, k22, hb22, hs22⟩ := after19 (((w8.setCells (h6 + 1) 0 Y.toList).alloc (.cells zero256 26)).setCells (w8.heap.size) 0 zero256.toList) (w8.heap.size + 1) (rBody4 true k lk A cs.length cap) hs21 rfl
      have hq15 := hq14.keep k22
      have c93b := cellAt (v := .slice A cs.length cap) hq15.qc.qb.qa.b9 3 rfl
      have HTD := Lib.hid (show TD (w8.setCells (h6 + 1) 0 Y.toList) (w8.heap.size) (w8.heap.size + 1) zero256 (rBody4 true k lk A cs.length cap) _ from ⟨k21.trans k22 (fun _ _ q => q), hb21.keep k22 (fun q => q), hb22, Nat.le_of_eq (by rw [size_setCells]), by omega⟩)
      clear hqV hsV hq13 htd htd2 hk8 k21 hb21 hs21 hq14 k22 hb22 hs22 hq15 HQ9 HS9
      go_wp2_with fail
      refine forget (p := fun wx => Calls _ _ _ wx _) (TD (w8.setCells (h6 + 1) 0 Y.toList) w8.heap.size (w8.heap.size + 1) zero256 (rBody4 true k lk A cs.length cap)) HTD.out ?_
      clear th19 t19 r19 t12 r12 th21 c93 t9 r9 th22 c93b HTD
      generalize (w8.setCells (h6 + 1) 0 Y.toList) = VP at HQV HSV ⊢
      generalize w8.heap.size = hp
      intro V15 h15
      have HTD := Lib.hid h15
      clear h15
      refine (put_ok _ A cs.length cap j cs c (Nat.le_of_lt hj) (by omega) hcap HFM.out (HSV.out.keep HTD.out.k)).mono ?_
      rintro e w7 ⟨C, m, cc, rfl, hm, hsC, hk7⟩
      have htd := HTD.out.keep hk7
      have c203 := cellAt (v := .slice A cs.length cap) htd.bb 3 rfl
      have f203 := htd.bb.frozen 3
      have htd2 : TD VP (hp) (hp + 1) zero256 (rBody4 true k lk C m cc) (w7.setCell ⟨hp + 1, 3, none⟩ (.slice C m cc)) := htd.setb (.slice C m cc)
      have c203w := cellAt (v := .slice C m cc) htd2.bb 3 rfl
      have t20 := htd2.bb.thereAll 4 rfl
      have r20 := htd2.bb.readAll 4 rfl
      have HSC := Lib.hid (hsC.setBody4 (o := 3) htd.bb (.slice C m cc))
      have HTD2 := Lib.hid htd2
      have HM := Lib.hid hm
      clear hk7 htd htd2 hsC hm HTD
      go_wp2_with fail
      refine forget (p := fun wx => Calls _ _ _ wx _) (fun W' => TD VP (hp) (hp + 1) zero256 (rBody4 true k lk C m cc) W' ∧ Sl W' C m (cs.take j ++ [c] ++ cs.drop j)) ⟨HTD2.out, HSC.out⟩ ?_
      clear c203 f203 c203w t20 r20 HTD2 HSC
      rintro V12 ⟨h12, hs12⟩
      have HTD := Lib.hid h12
      have HSC := Lib.hid hs12
      clear h12 hs12
      have HSZ3 : Hid (∀ d ∈ cs.take j ++ [c] ++ cs.drop j, d.size ≤ 9223372036854775807) := Lib.hid (fun d hd => by
        rcases List.mem_append.1 hd with q | q
        · rcases List.mem_append.1 q with q | q
          · exact HSZ.out d (List.mem_of_mem_take q)
          · obtain rfl : d = c := by simpa using q
            exact HCZ.out
        · exact HSZ.out d (List.mem_of_mem_drop q))
      have hpgP := PgA.told k lk (cs.take j ++ [c] ++ cs.drop j)
      obtain ⟨P, pe, hP⟩ : ∃ P pe, toldR k lk (cs.take j ++ [c] ++ cs.drop j) = (P, pe) := ⟨_, _, rfl⟩
      rw [hP] at hpgP
      obtain ⟨sP, oP, pP⟩ := hpgP
      have HP := Lib.hid hP
      clear hP
      rcases (show c.size = 0 ∨ (1 ≤ c.size ∧ 60 < c.size) ∨ (1 ≤ c.size ∧ c.size ≤ 60) by omega) with hc0 | ⟨hc1, hc60⟩ | ⟨hc1, hc60⟩
      · have hce : cellE c = 2 := if_pos hc0
        have he : c.toList.isEmpty = true := by rw [isEmpty_size]; simp [hc0]
        have hx := HX.out
        rw [show insF l (j : Int) c = (zero256, 2) by unfold insF; rw [HR.out]; rw [hce]; rfl] at hx
        simp only [Prod.mk.injEq] at hx
        obtain ⟨rfl, rfl⟩ := hx
        refine (rtold_gen _ true k lk C m cc _ HKK.out.1 HKK.out.2 (by have := HM.out; omega) HSZ3.out (by rw [roomI_ins]; have := HRM.out; have := HCZ.out; omega) HSC.out).mono ?_
        rintro e w10 hq
        rw [HP.out] at hq
        obtain ⟨rfl, hk10⟩ := hq
        have htd := HTD.out.keep hk10
        have th21 := htd.ba.thereAll 256 zsz
        have htd2 := htd.seta P zsz sP
        have hbP := htd2.ba
        have hPs := sP
        have hV := htd2.na
        have kV := htd2.k
        clear hk10 htd htd2
        have th21b := hbP.thereAll 256 hPs
        have hb3 := hbP.whole zero256 (hPs.trans zsz.symm)
        have kV3 := Kp.setCells (S := NoB) (g := hp) (.inl hV) zero256.toList 0 _ kV
        have q3 := HQV.out.keep kV3
        have t10 := q3.qc.qb.b10.thereAll 256 zsz
        have r10 := q3.qc.qb.b10.readAll 256 zsz
        have t21 := hb3.thereAll 256 zsz
        have r21 := hb3.readAll 256 zsz
        have HQ3 := Lib.hid q3
        clear hbP hV kV hb3 kV3 q3
        go_wp2_with (go_at_call 8; go_must (refine (awake_ok _).mono ?_); rintro e w99 ⟨rfl, hk9⟩; have HK9 := Lib.hid hk9; clear hk9)
        go_ret
        exact ⟨rfl, HQ3.out.qc.qb.qa.kp.trans HK9.out (fun _ _ q => q)⟩
      · have hce : cellE c = 3 := by unfold cellE; rw [if_neg (by omega), if_pos hc60]
        have he : c.toList.isEmpty = false := by rw [isEmpty_size]; exact decide_eq_false (by omega)
        have h60i : (60 : Int) < (c.size : Int) := by omega
        have hx := HX.out
        rw [show insF l (j : Int) c = (zero256, 3) by unfold insF; rw [HR.out]; rw [hce]; rfl] at hx
        simp only [Prod.mk.injEq] at hx
        obtain ⟨rfl, rfl⟩ := hx
        refine (rtold_gen _ true k lk C m cc _ HKK.out.1 HKK.out.2 (by have := HM.out; omega) HSZ3.out (by rw [roomI_ins]; have := HRM.out; have := HCZ.out; omega) HSC.out).mono ?_
        rintro e w10 hq
        rw [HP.out] at hq
        obtain ⟨rfl, hk10⟩ := hq
        have htd := HTD.out.keep hk10
        have th21 := htd.ba.thereAll 256 zsz
        have htd2 := htd.seta P zsz sP
        have hbP := htd2.ba
        have hPs := sP
        have hV := htd2.na
        have kV := htd2.k
        clear hk10 htd htd2
        have th21b := hbP.thereAll 256 hPs
        have hb3 := hbP.whole zero256 (hPs.trans zsz.symm)
        have kV3 := Kp.setCells (S := NoB) (g := hp) (.inl hV) zero256.toList 0 _ kV
        have q3 := HQV.out.keep kV3
        have t10 := q3.qc.qb.b10.thereAll 256 zsz
        have r10 := q3.qc.qb.b10.readAll 256 zsz
        have t21 := hb3.thereAll 256 zsz
        have r21 := hb3.readAll 256 zsz
        have HQ3 := Lib.hid q3
        clear hbP hV kV hb3 kV3 q3
        go_wp2_with (go_at_call 8; go_must (refine (awake_ok _).mono ?_); rintro e w99 ⟨rfl, hk9⟩; have HK9 := Lib.hid hk9; clear hk9)
        go_ret
        exact ⟨rfl, HQ3.out.qc.qb.qa.kp.trans HK9.out (fun _ _ q => q)⟩
      · have hce : cellE c = 0 := by unfold cellE; rw [if_neg (by omega), if_neg (by omega)]
        have he : c.toList.isEmpty = false := by rw [isEmpty_size]; exact decide_eq_false (by omega)
        have h60i : ¬ ((60 : Int) < (c.size : Int)) := by omega
        have h60j : (c.size : Int) ≤ 60 := by omega
        have h60d : decide ((60 : Int) < (c.size : Int)) = false := decide_eq_false h60i
        have hx := HX.out
        rw [show insF l (j : Int) c = toldR k lk (cs.take j ++ [c] ++ cs.drop j) by unfold insF; rw [HR.out]; rw [show ((j : Int)).toNat = j by omega]; simp only [hce, ne_eq, not_true_eq_false, if_false]; exact if_neg (by omega), HP.out] at hx
        simp only [Prod.mk.injEq] at hx
        obtain ⟨rfl, rfl⟩ := hx
        refine (rtold_gen _ true k lk C m cc _ HKK.out.1 HKK.out.2 (by have := HM.out; omega) HSZ3.out (by rw [roomI_ins]; have := HRM.out; have := HCZ.out; omega) HSC.out).mono ?_
        rintro e w10 hq
        rw [HP.out] at hq
        obtain ⟨rfl, hk10⟩ := hq
        have htd := HTD.out.keep hk10
        have th21 := htd.ba.thereAll 256 zsz
        have htd2 := htd.seta P zsz sP
        have hbP := htd2.ba
        have hPs := sP
        have hV := htd2.na
        have kV := htd2.k
        clear hk10 htd htd2
        have q3 := HQV.out.keep kV
        have t10 := q3.qc.qb.b10.thereAll 256 sX
        have r10 := q3.qc.qb.b10.readAll 256 sX
        have t21 := hbP.thereAll 256 hPs
        have r21 := hbP.readAll 256 hPs
        have HQ3 := Lib.hid q3
        clear hbP hV kV q3
        go_wp2_with (go_at_call 8; go_must (refine (awake_ok _).mono ?_); rintro e w99 ⟨rfl, hk9⟩; have HK9 := Lib.hid hk9; clear hk9)
        go_ret
        exact ⟨rfl, HQ3.out.qc.qb.qa.kp.trans HK9.out (fun _ _ q => q)⟩
    · have hy := HY.out
      rw [show delF l i = (zero256, 4) by unfold delF; rw [HR.out]; exact if_pos (by omega)] at hy
      simp only [Prod.mk.injEq] at hy
      obtain ⟨rfl, rfl⟩ := hy
      have t12 := HQ10.out.qc.b12.thereAll 256 zsz
      have r12 := HQ10.out.qc.b12.readAll 256 zsz
      have t19 := HB19.out.thereAll 256 zsz
      have r19 := HB19.out.readAll 256 zsz
      have hqV := HQ10.out
      have hsV := HS9.out.keep HK10.out
      rcases (show i < 0 ∨ (0 ≤ i ∧ i = (cs.length : Int)) ∨ (0 ≤ i ∧ (cs.length : Int) < i) by omega) with q0 | ⟨q0, q1⟩ | ⟨q0, q1⟩
      · have hnb : ¬ (0 ≤ i) := by omega
        have hnd : decide (0 ≤ i) = false := decide_eq_false hnb
        obtain ⟨th21, k21, hb21, hs21⟩ := after15 ((((w6.alloc (.cells zero256 26)).setCells w6.heap.size 0 Z.toList).alloc (.cells zero256 26)).setCells (w6.heap.size + 1) 0 zero256.toList) (w6.heap.size + 1 + 1) (HS19.out)
        have hq14 := hqV.keep k21
        have c93 := cellAt (v := .slice A cs.length cap) hq14.qc.qb.qa.b9 3 rfl
        have HQV := Lib.hid hqV
        have hbP := hb21
        have hPs := zsz
        have hV : ((((w6.alloc (.cells zero256 26)).setCells w6.heap.size 0 Z.toList).alloc (.cells zero256 26)).setCells (w6.heap.size + 1) 0 zero256.toList).heap.size ≤ w6.heap.size + 1 + 1 := Nat.le_of_eq HS19.out
        have kV := k21
        clear hqV hsV k21 hb21 hs21 hq14 hin
        rcases (show c.size = 0 ∨ (1 ≤ c.size ∧ 60 < c.size) ∨ (1 ≤ c.size ∧ c.size ≤ 60) by omega) with hc0 | ⟨hc1, hc60⟩ | ⟨hc1, hc60⟩
        · have hce : cellE c = 2 := if_pos hc0
          have he : c.toList.isEmpty = true := by rw [isEmpty_size]; simp [hc0]
          have hx := HX.out
          rw [show insF l i c = (zero256, 2) by unfold insF; rw [HR.out]; rw [hce]; rfl] at hx
          simp only [Prod.mk.injEq] at hx
          obtain ⟨rfl, rfl⟩ := hx
          have th21b := hbP.thereAll 256 hPs
          have hb3 := hbP.whole zero256 (hPs.trans zsz.symm)
          have kV3 := Kp.setCells (S := NoB) (g := w6.heap.size + 1 + 1) (.inl hV) zero256.toList 0 _ kV
          have q3 := HQV.out.keep kV3
          have t10 := q3.qc.qb.b10.thereAll 256 zsz
          have r10 := q3.qc.qb.b10.readAll 256 zsz
          have t21 := hb3.thereAll 256 zsz
          have r21 := hb3.readAll 256 zsz
          have HQ3 := Lib.hid q3
          clear hbP hV kV hb3 kV3 q3
          go_wp2_with (go_at_call 8; go_must (refine (awake_ok _).mono ?_); rintro e w99 ⟨rfl, hk9⟩; have HK9 := Lib.hid hk9; clear hk9)
          go_ret
          exact ⟨rfl, HQ3.out.qc.qb.qa.kp.trans HK9.out (fun _ _ q => q)⟩
        · have hce : cellE c = 3 := by unfold cellE; rw [if_neg (by omega), if_pos hc60]
          have he : c.toList.isEmpty = false := by rw [isEmpty_size]; exact decide_eq_false (by omega)
          have h60i : (60 : Int) < (c.size : Int) := by omega
          have hx := HX.out
          rw [show insF l i c = (zero256, 3) by unfold insF; rw [HR.out]; rw [hce]; rfl] at hx
          simp only [Prod.mk.injEq] at hx
          obtain ⟨rfl, rfl⟩ := hx
          have th21b := hbP.thereAll 256 hPs
          have hb3 := hbP.whole zero256 (hPs.trans zsz.symm)
          have kV3 := Kp.setCells (S := NoB) (g := w6.heap.size + 1 + 1) (.inl hV) zero256.toList 0 _ kV
          have q3 := HQV.out.keep kV3
          have t10 := q3.qc.qb.b10.thereAll 256 zsz
          have r10 := q3.qc.qb.b10.readAll 256 zsz
          have t21 := hb3.thereAll 256 zsz
          have r21 := hb3.readAll 256 zsz
          have HQ3 := Lib.hid q3
          clear hbP hV kV hb3 kV3 q3
          go_wp2_with (go_at_call 8; go_must (refine (awake_ok _).mono ?_); rintro e w99 ⟨rfl, hk9⟩; have HK9 := Lib.hid hk9; clear hk9)
          go_ret
          exact ⟨rfl, HQ3.out.qc.qb.qa.kp.trans HK9.out (fun _ _ q => q)⟩
        · have hce : cellE c = 0 := by unfold cellE; rw [if_neg (by omega), if_neg (by omega)]
          have he : c.toList.isEmpty = false := by rw [isEmpty_size]; exact decide_eq_false (by omega)
          have h60i : ¬ ((60 : Int) < (c.size : Int)) := by omega
          have h60j : (c.size : Int) ≤ 60 := by omega
          have h60d : decide ((60 : Int) < (c.size : Int)) = false := decide_eq_false h60i
          have hx := HX.out
          rw [show insF l i c = (zero256, 4) by unfold insF; rw [HR.out]; simp only [hce, ne_eq, not_true_eq_false, if_false]; exact if_pos (by omega)] at hx
          simp only [Prod.mk.injEq] at hx
          obtain ⟨hx1, rfl⟩ := hx
          have HX3 := Lib.hid hx1
          clear hx1
          have q3 := HQV.out.keep kV
          have t10 := q3.qc.qb.b10.thereAll 256 sX
          have r10 := q3.qc.qb.b10.readAll 256 sX
          have t21 := hbP.thereAll 256 hPs
          have r21 := (hbP.readAll 256 hPs).trans HX3.out
          have HQ3 := Lib.hid q3
          clear hbP hV kV q3 hPs hc1 hc60 hce
          go_wp2_with (go_at_call 8; go_must (refine (awake_ok _).mono ?_); rintro e w99 ⟨rfl, hk9⟩; have HK9 := Lib.hid hk9; clear hk9)
          go_ret
          exact ⟨rfl, HQ3.out.qc.qb.qa.kp.trans HK9.out (fun _ _ q => q)⟩
      · have g0 : decide (0 ≤ i) = true := decide_eq_true q0
        have g1 : decide (i < (cs.length : Int)) = false := decide_eq_false (by omega)
        have g2 : decide (i ≤ (cs.length : Int)) = true := decide_eq_true (by omega)
        have g3 : (cs.length : Int) ≤ i := by omega
        have g4 : i ≤ (cs.length : Int) := by omega
        have hQ1 := Lib.hid q1
        clear hin q1
        obtain ⟨th21, k21, hb21, hs21⟩ := after15 ((((w6.alloc (.cells zero256 26)).setCells w6.heap.size 0 Z.toList).alloc (.cells zero256 26)).setCells (w6.heap.size + 1) 0 zero256.toList) (w6.heap.size + 1 + 1) (HS19.out)
        have hq14 := hqV.keep k21
        have c93 := cellAt (v := .slice A cs.length cap) hq14.qc.qb.qa.b9 3 rfl
        have HQV := Lib.hid hqV
        have HSV := Lib.hid hsV
        have t9 := hq14.qc.qb.qa.b9.thereAll 4 rfl
        have r9 := hq14.qc.qb.qa.b9.readAll 4 rfl
        obtain ⟨th22, k22, hb22, hs22⟩ := after19 ((((((w6.alloc (.cells zero256 26)).setCells w6.heap.size 0 Z.toList).alloc (.cells zero256 26)).setCells (w6.heap.size + 1) 0 zero256.toList).alloc (.cells zero256 26)).setCells (w6.heap.size + 1 + 1) 0 zero256.toList) (w6.heap.size + 1 + 1 + 1) (rBody4 true k lk A cs.length cap) hs21 rfl
        have hq15 := hq14.keep k22
        have c93b := cellAt (v := .slice A cs.length cap) hq15.qc.qb.qa.b9 3 rfl
        have HTD := Lib.hid (show TD ((((w6.alloc (.cells zero256 26)).setCells w6.heap.size 0 Z.toList).alloc (.cells zero256 26)).setCells (w6.heap.size + 1) 0 zero256.toList) (w6.heap.size + 1 + 1) (w6.heap.size + 1 + 1 + 1) zero256 (rBody4 true k lk A cs.length cap) _ from ⟨k21.trans k22 (fun _ _ q => q), hb21.keep k22 (fun q => q), hb22, Nat.le_of_eq (HS19.out), by omega⟩)
        clear hqV hsV k21 hb21 hs21 hq14 k22 hb22 hs22 hq15 HQ9 HS9
        go_wp2_with fail
        refine forget (p := fun wx => Calls _ _ _ wx _) (TD ((((w6.alloc (.cells zero256 26)).setCells w6.heap.size 0 Z.toList).alloc (.cells zero256 26)).setCells (w6.heap.size + 1) 0 zero256.toList) (w6.heap.size + 1 + 1) (w6.heap.size + 1 + 1 + 1) zero256 (rBody4 true k lk A cs.length cap)) HTD.out ?_
        clear th17 t14 r14 t17 r17 th19 t19 r19 t12 r12 th21 c93 t9 r9 th22 c93b HTD HQ10 HK10 HB19 HS19 HV9
        generalize ((((w6.alloc (.cells zero256 26)).setCells w6.heap.size 0 Z.toList).alloc (.cells zero256 26)).setCells (w6.heap.size + 1) 0 zero256.toList) = VP at HQV HSV ⊢
        generalize w6.heap.size + 1 + 1 = hp
        clear g0 g1 g2 g3 g4
        obtain ⟨j, rfl⟩ := Int.eq_ofNat_of_zero_le q0
        have hj : j ≤ cs.length := by have := hQ1.out; omega
        have hj0 : (0 : Int) ≤ (j : Int) := q0
        have hj2 : (j : Int) ≤ (cs.length : Int) := by omega
        clear q0
        intro V15 h15
        have HTD := Lib.hid h15
        clear h15
        refine (put_ok _ A cs.length cap j cs c hj (by omega) hcap HFM.out (HSV.out.keep HTD.out.k)).mono ?_
        rintro e w7 ⟨C, m, cc, rfl, hm, hsC, hk7⟩
        have htd := HTD.out.keep hk7
        have c203 := cellAt (v := .slice A cs.length cap) htd.bb 3 rfl
        have f203 := htd.bb.frozen 3
        have htd2 : TD VP (hp) (hp + 1) zero256 (rBody4 true k lk C m cc) (w7.setCell ⟨hp + 1, 3, none⟩ (.slice C m cc)) := htd.setb (.slice C m cc)
        have c203w := cellAt (v := .slice C m cc) htd2.bb 3 rfl
        have t20 := htd2.bb.thereAll 4 rfl
        have r20 := htd2.bb.readAll 4 rfl
        have HSC := Lib.hid (hsC.setBody4 (o := 3) htd.bb (.slice C m cc))
        have HTD2 := Lib.hid htd2
        have HM := Lib.hid hm
        clear hk7 htd htd2 hsC hm HTD
        go_wp2_with fail
        refine forget (p := fun wx => Calls _ _ _ wx _) (fun W' => TD VP (hp) (hp + 1) zero256 (rBody4 true k lk C m cc) W' ∧ Sl W' C m (cs.take j ++ [c] ++ cs.drop j)) ⟨HTD2.out, HSC.out⟩ ?_
        clear c203 f203 c203w t20 r20 HTD2 HSC
        rintro V12 ⟨h12, hs12⟩
        have HTD := Lib.hid h12
        have HSC := Lib.hid hs12
        clear h12 hs12
        have HSZ3 : Hid (∀ d ∈ cs.take j ++ [c] ++ cs.drop j, d.size ≤ 9223372036854775807) := Lib.hid (fun d hd => by
          rcases List.mem_append.1 hd with q | q
          · rcases List.mem_append.1 q with q | q
            · exact HSZ.out d (List.mem_of_mem_take q)
            · obtain rfl : d = c := by simpa using q
              exact HCZ.out
          · exact HSZ.out d (List.mem_of_mem_drop q))
        have hpgP := PgA.told k lk (cs.take j ++ [c] ++ cs.drop j)
        obtain ⟨P, pe, hP⟩ : ∃ P pe, toldR k lk (cs.take j ++ [c] ++ cs.drop j) = (P, pe) := ⟨_, _, rfl⟩
        rw [hP] at hpgP
        obtain ⟨sP, oP, pP⟩ := hpgP
        have HP := Lib.hid hP
        clear hP
        rcases (show c.size = 0 ∨ (1 ≤ c.size ∧ 60 < c.size) ∨ (1 ≤ c.size ∧ c.size ≤ 60) by omega) with hc0 | ⟨hc1, hc60⟩ | ⟨hc1, hc60⟩
        · have hce : cellE c = 2 := if_pos hc0
          have he : c.toList.isEmpty = true := by rw [isEmpty_size]; simp [hc0]
          have hx := HX.out
          rw [show insF l (j : Int) c = (zero256, 2) by unfold insF; rw [HR.out]; rw [hce]; rfl] at hx
          simp only [Prod.mk.injEq] at hx
          obtain ⟨rfl, rfl⟩ := hx
          refine (rtold_gen _ true k lk C m cc _ HKK.out.1 HKK.out.2 (by have := HM.out; omega) HSZ3.out (by rw [roomI_ins]; have := HRM.out; have := HCZ.out; omega) HSC.out).mono ?_
          rintro e w10 hq
          rw [HP.out] at hq
          obtain ⟨rfl, hk10⟩ := hq
          have htd := HTD.out.keep hk10
          have th21 := htd.ba.thereAll 256 zsz
          have htd2 := htd.seta P zsz sP
          have hbP := htd2.ba
          have hPs := sP
          have hV := htd2.na
          have kV := htd2.k
          clear hk10 htd htd2
          have th21b := hbP.thereAll 256 hPs
          have hb3 := hbP.whole zero256 (hPs.trans zsz.symm)
          have kV3 := Kp.setCells (S := NoB) (g := hp) (.inl hV) zero256.toList 0 _ kV
          have q3 := HQV.out.keep kV3
          have t10 := q3.qc.qb.b10.thereAll 256 zsz
          have r10 := q3.qc.qb.b10.readAll 256 zsz
          have t21 := hb3.thereAll 256 zsz
          have r21 := hb3.readAll 256 zsz
          have HQ3 := Lib.hid q3
          clear hbP hV kV hb3 kV3 q3
          go_wp2_with (go_at_call 8; go_must (refine (awake_ok _).mono ?_); rintro e w99 ⟨rfl, hk9⟩; have HK9 := Lib.hid hk9; clear hk9)
          go_ret
          exact ⟨rfl, HQ3.out.qc.qb.qa.kp.trans HK9.out (fun _ _ q => q)⟩
        · have hce : cellE c = 3 := by unfold cellE; rw [if_neg (by omega), if_pos hc60]
          have he : c.toList.isEmpty = false := by rw [isEmpty_size]; exact decide_eq_false (by omega)
          have h60i : (60 : Int) < (c.size : Int) := by omega
          have hx := HX.out
          rw [show insF l (j : Int) c = (zero256, 3) by unfold insF; rw [HR.out]; rw [hce]; rfl] at hx
          simp only [Prod.mk.injEq] at hx
          obtain ⟨rfl, rfl⟩ := hx
          refine (rtold_gen _ true k lk C m cc _ HKK.out.1 HKK.out.2 (by have := HM.out; omega) HSZ3.out (by rw [roomI_ins]; have := HRM.out; have := HCZ.out; omega) HSC.out).mono ?_
          rintro e w10 hq
          rw [HP.out] at hq
          obtain ⟨rfl, hk10⟩ := hq
          have htd := HTD.out.keep hk10
          have th21 := htd.ba.thereAll 256 zsz
          have htd2 := htd.seta P zsz sP
          have hbP := htd2.ba
          have hPs := sP
          have hV := htd2.na
          have kV := htd2.k
          clear hk10 htd htd2
          have th21b := hbP.thereAll 256 hPs
          have hb3 := hbP.whole zero256 (hPs.trans zsz.symm)
          have kV3 := Kp.setCells (S := NoB) (g := hp) (.inl hV) zero256.toList 0 _ kV
          have q3 := HQV.out.keep kV3
          have t10 := q3.qc.qb.b10.thereAll 256 zsz
          have r10 := q3.qc.qb.b10.readAll 256 zsz
          have t21 := hb3.thereAll 256 zsz
          have r21 := hb3.readAll 256 zsz
          have HQ3 := Lib.hid q3
          clear hbP hV kV hb3 kV3 q3
          go_wp2_with (go_at_call 8; go_must (refine (awake_ok _).mono ?_); rintro e w99 ⟨rfl, hk9⟩; have HK9 := Lib.hid hk9; clear hk9)
          go_ret
          exact ⟨rfl, HQ3.out.qc.qb.qa.kp.trans HK9.out (fun _ _ q => q)⟩
        · have hce : cellE c = 0 := by unfold cellE; rw [if_neg (by omega), if_neg (by omega)]
          have he : c.toList.isEmpty = false := by rw [isEmpty_size]; exact decide_eq_false (by omega)
          have h60i : ¬ ((60 : Int) < (c.size : Int)) := by omega
          have h60j : (c.size : Int) ≤ 60 := by omega
          have h60d : decide ((60 : Int) < (c.size : Int)) = false := decide_eq_false h60i
          have hx := HX.out
          rw [show insF l (j : Int) c = toldR k lk (cs.take j ++ [c] ++ cs.drop j) by unfold insF; rw [HR.out]; rw [show ((j : Int)).toNat = j by omega]; simp only [hce, ne_eq, not_true_eq_false, if_false]; exact if_neg (by omega), HP.out] at hx
          simp only [Prod.mk.injEq] at hx
          obtain ⟨rfl, rfl⟩ := hx
          refine (rtold_gen _ true k lk C m cc _ HKK.out.1 HKK.out.2 (by have := HM.out; omega) HSZ3.out (by rw [roomI_ins]; have := HRM.out; have := HCZ.out; omega) HSC.out).mono ?_
          rintro e w10 hq
          rw [HP.out] at hq
          obtain ⟨rfl, hk10⟩ := hq
          have htd := HTD.out.keep hk10
          have th21 := htd.ba.thereAll 256 zsz
          have htd2 := htd.seta P zsz sP
          have hbP := htd2.ba
          have hPs := sP
          have hV := htd2.na
          have kV := htd2.k
          clear hk10 htd htd2
          have q3 := HQV.out.keep kV
          have t10 := q3.qc.qb.b10.thereAll 256 sX
          have r10 := q3.qc.qb.b10.readAll 256 sX
          have t21 := hbP.thereAll 256 hPs
          have r21 := hbP.readAll 256 hPs
          have HQ3 := Lib.hid q3
          clear hbP hV kV q3
          go_wp2_with (go_at_call 8; go_must (refine (awake_ok _).mono ?_); rintro e w99 ⟨rfl, hk9⟩; have HK9 := Lib.hid hk9; clear hk9)
          go_ret
          exact ⟨rfl, HQ3.out.qc.qb.qa.kp.trans HK9.out (fun _ _ q => q)⟩
      · have hnl : ¬ (i < (cs.length : Int)) := by omega
        have hnl2 : ¬ (i ≤ (cs.length : Int)) := by omega
        have hnl3 : decide (i < (cs.length : Int)) = false := decide_eq_false hnl
        have hnl4 : decide (i ≤ (cs.length : Int)) = false := decide_eq_false hnl2
        have hnl5 : (cs.length : Int) ≤ i := by omega
        obtain ⟨th21, k21, hb21, hs21⟩ := after15 ((((w6.alloc (.cells zero256 26)).setCells w6.heap.size 0 Z.toList).alloc (.cells zero256 26)).setCells (w6.heap.size + 1) 0 zero256.toList) (w6.heap.size + 1 + 1) (HS19.out)
        have hq14 := hqV.keep k21
        have c93 := cellAt (v := .slice A cs.length cap) hq14.qc.qb.qa.b9 3 rfl
        have HQV := Lib.hid hqV
        have hbP := hb21
        have hPs := zsz
        have hV : ((((w6.alloc (.cells zero256 26)).setCells w6.heap.size 0 Z.toList).alloc (.cells zero256 26)).setCells (w6.heap.size + 1) 0 zero256.toList).heap.size ≤ w6.heap.size + 1 + 1 := Nat.le_of_eq HS19.out
        have kV := k21
        clear hqV hsV k21 hb21 hs21 hq14 hin
        rcases (show c.size = 0 ∨ (1 ≤ c.size ∧ 60 < c.size) ∨ (1 ≤ c.size ∧ c.size ≤ 60) by omega) with hc0 | ⟨hc1, hc60⟩ | ⟨hc1, hc60⟩
        · have hce : cellE c = 2 := if_pos hc0
          have he : c.toList.isEmpty = true := by rw [isEmpty_size]; simp [hc0]
          have hx := HX.out
          rw [show insF l i c = (zero256, 2) by unfold insF; rw [HR.out]; rw [hce]; rfl] at hx
          simp only [Prod.mk.injEq] at hx
          obtain ⟨rfl, rfl⟩ := hx
          have th21b := hbP.thereAll 256 hPs
          have hb3 := hbP.whole zero256 (hPs.trans zsz.symm)
          have kV3 := Kp.setCells (S := NoB) (g := w6.heap.size + 1 + 1) (.inl hV) zero256.toList 0 _ kV
          have q3 := HQV.out.keep kV3
          have t10 := q3.qc.qb.b10.thereAll 256 zsz
          have r10 := q3.qc.qb.b10.readAll 256 zsz
          have t21 := hb3.thereAll 256 zsz
          have r21 := hb3.readAll 256 zsz
          have HQ3 := Lib.hid q3
          clear hbP hV kV hb3 kV3 q3
          go_wp2_with (go_at_call 8; go_must (refine (awake_ok _).mono ?_); rintro e w99 ⟨rfl, hk9⟩; have HK9 := Lib.hid hk9; clear hk9)
          go_ret
          exact ⟨rfl, HQ3.out.qc.qb.qa.kp.trans HK9.out (fun _ _ q => q)⟩
        · have hce : cellE c = 3 := by unfold cellE; rw [if_neg (by omega), if_pos hc60]
          have he : c.toList.isEmpty = false := by rw [isEmpty_size]; exact decide_eq_false (by omega)
          have h60i : (60 : Int) < (c.size : Int) := by omega
          have hx := HX.out
          rw [show insF l i c = (zero256, 3) by unfold insF; rw [HR.out]; rw [hce]; rfl] at hx
          simp only [Prod.mk.injEq] at hx
          obtain ⟨rfl, rfl⟩ := hx
          have th21b := hbP.thereAll 256 hPs
          have hb3 := hbP.whole zero256 (hPs.trans zsz.symm)
          have kV3 := Kp.setCells (S := NoB) (g := w6.heap.size + 1 + 1) (.inl hV) zero256.toList 0 _ kV
          have q3 := HQV.out.keep kV3
          have t10 := q3.qc.qb.b10.thereAll 256 zsz
          have r10 := q3.qc.qb.b10.readAll 256 zsz
          have t21 := hb3.thereAll 256 zsz
          have r21 := hb3.readAll 256 zsz
          have HQ3 := Lib.hid q3
          clear hbP hV kV hb3 kV3 q3
          go_wp2_with (go_at_call 8; go_must (refine (awake_ok _).mono ?_); rintro e w99 ⟨rfl, hk9⟩; have HK9 := Lib.hid hk9; clear hk9)
          go_ret
          exact ⟨rfl, HQ3.out.qc.qb.qa.kp.trans HK9.out (fun _ _ q => q)⟩
        · have hce : cellE c = 0 := by unfold cellE; rw [if_neg (by omega), if_neg (by omega)]
          have he : c.toList.isEmpty = false := by rw [isEmpty_size]; exact decide_eq_false (by omega)
          have h60i : ¬ ((60 : Int) < (c.size : Int)) := by omega
          have h60j : (c.size : Int) ≤ 60 := by omega
          have h60d : decide ((60 : Int) < (c.size : Int)) = false := decide_eq_false h60i
          have hx := HX.out
          rw [show insF l i c = (zero256, 4) by unfold insF; rw [HR.out]; simp only [hce, ne_eq, not_true_eq_false, if_false]; exact if_pos (by omega)] at hx
          simp only [Prod.mk.injEq] at hx
          obtain ⟨hx1, rfl⟩ := hx
          have HX3 := Lib.hid hx1
          clear hx1
          have q3 := HQV.out.keep kV
          have t10 := q3.qc.qb.b10.thereAll 256 sX
          have r10 := q3.qc.qb.b10.readAll 256 sX
          have t21 := hbP.thereAll 256 hPs
          have r21 := (hbP.readAll 256 hPs).trans HX3.out
          have HQ3 := Lib.hid q3
          clear hbP hV kV q3 hPs hc1 hc60 hce
          go_wp2_with (go_at_call 8; go_must (refine (awake_ok _).mono ?_); rintro e w99 ⟨rfl, hk9⟩; have HK9 := Lib.hid hk9; clear hk9)
          go_ret
          exact ⟨rfl, HQ3.out.qc.qb.qa.kp.trans HK9.out (fun _ _ q => q)⟩
end Go.Proofs.Ytnleoeogcinadaa
