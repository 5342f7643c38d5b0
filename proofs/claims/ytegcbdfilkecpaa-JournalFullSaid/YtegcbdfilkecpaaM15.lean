/- Texts of this proof, one behind the other: lemmas and contracts; each says its own conditions. -/
import Derived.Test.YtegcbdfilkecpaaM2
import Derived.Test.YtegcbdfilkecpaaM12
import Derived.Test.YtegcbdfilkecpaaM14
/- The journal: what pages are behind a change, as a list; condition: at most 5000 pages, their numbers in order. -/
namespace Go.Proofs.Ytegcbdfilkecpaa
open Go.RowKit

def zPg : List Int := zeros 256
/-- one page put into a list -/
def setPg (o : List (List Int)) (x : Pg) : List (List Int) := o.set (x.n.toNat - 1) x.b
def padPg (was : List (List Int)) (c : Nat) : List (List Int) := (was ++ List.replicate (c - was.length) zPg).take c
def afterL (was : List (List Int)) (c : Nat) (l : List Pg) : List (List Int) := l.foldl setPg (padPg was c)
theorem setPg_len (o : List (List Int)) (x : Pg) : (setPg o x).length = o.length := by simp [setPg]
theorem fold_len : ∀ (l : List Pg) (o : List (List Int)), (l.foldl setPg o).length = o.length
  | [], _ => rfl
  | x :: r, o => by rw [List.foldl_cons, fold_len r, setPg_len]
theorem padPg_len (was : List (List Int)) (c : Nat) : (padPg was c).length = c := by
  unfold padPg
  simp
  omega
theorem rawCells_app (a b : List (List Int)) : rawCells (a ++ b) = rawCells a ++ rawCells b := by unfold rawCells; rw [List.flatMap_append]
theorem rawCells_len : ∀ {l : List (List Int)}, rawOk l → (rawCells l).length = l.length * 256
  | [], _ => rfl
  | b :: r, h => by
    have h1 := (h b (List.mem_cons_self ..)).1
    have := rawCells_len (l := r) (fun y hy => h y (List.mem_cons_of_mem _ hy))
    unfold rawCells at this ⊢
    rw [List.flatMap_cons, List.length_append, List.length_map, h1, this, List.length_cons]
    omega
theorem rawCells_one (l : List (List Int)) : ∀ u ∈ rawCells l, u.oneCell' = true := by
  intro u hu
  unfold rawCells at hu
  obtain ⟨b, _, hb⟩ := List.mem_flatMap.1 hu
  exact u8_one b u hb
theorem zPg_ok : zPg.length = 256 ∧ ∀ y ∈ zPg, 0 ≤ y ∧ y < 256 := ⟨List.length_replicate .., zeros_rng 256⟩
theorem rawOk_rep {was : List (List Int)} (h : rawOk was) (j : Nat) : rawOk (was ++ List.replicate j zPg) := fun b hb => by
  rcases List.mem_append.1 hb with q | q
  · exact h b q
  · rw [List.eq_of_mem_replicate q]; exact zPg_ok
theorem own_cut {w : World} {base e size n c cap : Nat} {A : Option Addr} {xs : List Value} (h : w.ownsRow base e size (.slice A n cap) n xs) (hc : c ≤ n) : w.ownsRow base e size (.slice A c cap) c (xs.take (c * size)) := by
  have hl := h.1
  have hcs : c * size ≤ n * size := Nat.mul_le_mul_right _ hc
  refine ⟨by rw [List.length_take, hl]; omega, ?_⟩
  rcases h.2 with ⟨h0, h1⟩ | ⟨g, cap', cur, hv, hb, hh, h1, h2, h3, h4⟩
  · injection h0 with a b d
    subst a; subst b; subst d
    obtain rfl : c = 0 := by omega
    exact .inl ⟨rfl, rfl⟩
  · injection hv with a b d
    subst a; subst d
    refine .inr ⟨g, cap, cur, rfl, hb, hh, by omega, h2, h3, ?_⟩
    rw [← h4, List.take_take, Nat.min_eq_left hcs]
theorem rawCells_set {o : List (List Int)} (ho : rawOk o) {k : Nat} (hk : k < o.length) (b : List Int) : rawCells (o.set k b) = rawCells (o.take k) ++ b.map (Value.int .u8) ++ rawCells (o.drop (k + 1)) := by
  rw [List.set_eq_take_append_cons_drop, if_pos hk, rawCells_app]
  unfold rawCells
  rw [List.flatMap_cons, List.append_assoc]
theorem own_setPg {w : World} {base g c cap : Nat} {o : List (List Int)} (h : w.ownsRow base 24 256 (.slice (some ⟨g, 0, none⟩) c cap) c (rawCells o)) (ho : rawOk o) (hoc : o.length = c) {k : Nat} (hk : k < c) (b : List Int) (hb : b.length = 256) :
    (w.setCells g (k * 256) (b.map (Value.int .u8))).ownsRow base 24 256 (.slice (some ⟨g, 0, none⟩) c cap) c (rawCells (o.set k b)) ∧ w.there g (k * 256) 256 := by
  obtain ⟨g', ds, e, hg, hB, hfl, hcm⟩ := own_full h (by omega)
  injection e with e
  injection e with e
  subst e
  have hrl := rawCells_len ho
  have hsp : rawCells o = rawCells (o.take k) ++ (o[k]'(by omega)).map (Value.int .u8) ++ rawCells (o.drop (k + 1)) := by
    have := rawCells_set ho (by omega : k < o.length) (o[k]'(by omega))
    rwa [List.set_getElem_self] at this
  have hkk := (ho (o[k]'(by omega)) (List.getElem_mem _)).1
  have hot : rawOk (o.take k) := fun x hx => ho x (List.mem_of_mem_take hx)
  have htl : (rawCells (o.take k)).length = k * 256 := by rw [rawCells_len hot, List.length_take, Nat.min_eq_left (by omega)]
  have hB2 : Blk w g 24 (rawCells (o.take k) ++ (o[k]'(by omega)).map (Value.int .u8) ++ (rawCells (o.drop (k + 1)) ++ ds)).toArray := by
    rw [← List.append_assoc, ← hsp]
    exact hB
  have hB3 := hB2.cellsL (xs := b.map (Value.int .u8)) (k * 256) htl (by rw [List.length_map, List.length_map, hkk, hb])
  refine ⟨?_, hB2.there (by rw [List.size_toArray, List.length_append, List.length_append, htl, List.length_map, hkk]; omega)⟩
  have hos : rawOk (o.set k b) → True := fun _ => trivial
  have hl2 : (rawCells (o.set k b)).length = (rawCells o).length := by
    rw [rawCells_set ho (by omega) b, hsp]
    simp only [List.length_append, List.length_map, hkk, hb]
  refine own_of hg (ds := ds) ?_ (by rw [hl2, h.1]) (by rw [List.length_append, hl2, ← List.length_append]; exact hfl) (own_cap h) hcm
  rw [rawCells_set ho (by omega) b, List.append_assoc]
  exact hB3
theorem padPg_of {was : List (List Int)} {c j : Nat} (h1 : was.length + j ≤ max was.length c) (h2 : c ≤ was.length + j) : (was ++ List.replicate j zPg).take c = padPg was c := by
  unfold padPg
  have : j = c - was.length := by omega
  rw [this]
theorem rawCells_take {o : List (List Int)} (ho : rawOk o) (c : Nat) (hc : c ≤ o.length) : (rawCells o).take (c * 256) = rawCells (o.take c) := by
  have h1 : rawCells o = rawCells (o.take c) ++ rawCells (o.drop c) := by rw [← rawCells_app, List.take_append_drop]
  rw [h1]
  refine List.take_left' ?_
  rw [rawCells_len (fun x hx => ho x (List.mem_of_mem_take hx)), List.length_take, Nat.min_eq_left hc]
theorem padPg_ok {was : List (List Int)} (h : rawOk was) (c : Nat) : rawOk (padPg was c) := fun b hb => rawOk_rep h _ b (List.mem_of_mem_take hb)
theorem fold_ok : ∀ (l : List Pg) {o : List (List Int)}, rawOk o → (∀ x ∈ l, PgOk x) → rawOk (l.foldl setPg o)
  | [], _, h, _ => h
  | x :: r, o, h, hl => fold_ok r (fun b hb => by
    rcases List.mem_or_eq_of_mem_set hb with q | q
    · exact h b q
    · rw [q]; exact ⟨(hl x (List.mem_cons_self ..)).len, (hl x (List.mem_cons_self ..)).rng⟩) (fun y hy => hl y (List.mem_cons_of_mem _ hy))
/-- one of the pages, by its cells -/
theorem PgsAt.rg {w : World} {A : Option Addr} {n : Nat} {l : List Pg} (h : PgsAt w A n l) (k : Nat) (hk : k < n) {x : Pg} (hx : l[k]? = some x) : ∃ g o, A = some ⟨g, o, none⟩ ∧ g < w.heap.size ∧ w.cell? ⟨g, o + k * 257, none⟩ = some (.int .i64 x.n) ∧ w.rangeAt g (o + k * 257 + 1) (x.b.map (Value.int .u8)) := by
  obtain ⟨g, o, e, hg, hc⟩ := Rows.cell h (k := k) (x := pgL x) (by rw [List.getElem?_map, hx]; rfl)
  refine ⟨g, o, e, hg, hc 0 _ rfl, fun j v hj => ?_⟩
  have := hc (j + 1) v (by unfold pgL; rw [List.getElem?_cons_succ]; exact hj)
  rw [show o + k * 257 + 1 + j = o + k * 257 + (j + 1) by omega]
  exact this
section
attribute [local go_sem ↓] load26 store26 alloc26 build26 exSliceP1
def AfRel (w : World) (was : List (List Int)) (c : Nat) (v7 : Value) (wr : World) : Prop := ∃ j : Nat, was.length + j ≤ max was.length c ∧ OwnRaw wr w.heap.size v7 (was ++ List.replicate j zPg) ∧ Kp NoB w wr
def Af2Rel (w : World) (was : List (List Int)) (c : Nat) (l : List Pg) (v7 v8 : Value) (wr : World) : Prop := ∃ i : Nat, v8 = .int .i64 (i : Int) ∧ i ≤ l.length ∧ OwnRaw wr w.heap.size v7 ((l.take i).foldl setPg (padPg was c)) ∧ Kp NoB w wr
def lenOf : Value → Nat
  | .slice _ n _ => n
  | _ => 0
set_option maxRecDepth 100000 in
set_option maxHeartbeats 1600000 in
theorem after_q (w : World) (A B : Option Addr) (m n ca cb : Nat) (was : List (List Int)) (l : List Pg) (c : Nat) (ha : RawsAt w A m was) (hA : A = none → m = 0 ∧ ca = 0) (oka : rawOk was) (hb : PgsAt w B n l) (okb : ∀ x ∈ l, PgOk x ∧ 1 ≤ x.n ∧ x.n ≤ (c : Int)) (hm : m ≤ 5000) (hn : n ≤ 5000) (hc : c ≤ 5000) :
    Calls Try.prog 20 #[.slice A m ca, .int .i64 (c : Int), .slice B n cb] w fun e w' => ∃ v, e = .returned v ∧ OwnRaw w' w.heap.size v (afterL was c l) ∧ Kp NoB w w' := by
  have HA := Lib.hid ha
  have HAN := Lib.hid hA
  have OA := Lib.hid oka
  have HB := Lib.hid hb
  have OB := Lib.hid okb
  have LA := Lib.hid ha.len
  have LB := Lib.hid hb.len
  obtain ⟨j0, hj0, hy0, hy1, hy2⟩ := info_parts infoPg26
  have HJ0 := Lib.hid hj0
  have HY0 := Lib.hid hy0
  have HY1 := Lib.hid hy1
  have HY2 := Lib.hid hy2
  have HCZ : Hid ((Value.agg zero256).cells.size = 256) := Lib.hid (by rw [show (Value.agg zero256).cells = zero256 from rfl, zero256_eq, bytesV_size]; rfl)
  have HOWN : Hid ((w.alloc (.cells #[] 24)).ownsRow w.heap.size 24 256 (.slice (some ⟨w.heap.size, 0, none⟩) 0 0) 0 []) := Lib.hid ⟨rfl, .inr ⟨w.heap.size, 0, #[], rfl, Nat.le_refl _, heap_alloc_new _ _, Nat.le_refl _, by simp, rfl, rfl⟩⟩
  have HFL : Hid ((was.map fun (b : List Int) => b.map (Value.int .u8)).flatten = rawCells was) := Lib.hid (by unfold rawCells; rw [List.flatMap_def])
  clear ha hA oka hb okb hj0 hy0 hy1 hy2
  go_enter Try.func20, Try.ntmps20
  go_wp2_with (at_builtin; refine wpList_append_srcN rfl _ _ 38 rfl w.heap.size 24 j0 _ 256 256 Try.underlying38 HJ0.out HY0.out HY1.out HY2.out HCZ.out (by omega) _ 0 [] rfl HOWN.out A m ca (rawCells was) rfl HAN.out (by rw [rawCells_len OA.out, LA.out]) (fun hn => by have := (HA.out.keep ((Kp.refl NoB w).alloc (.cells #[] 24))).src hn (by omega); rw [HFL.out] at this; exact this) (rawCells_one was) (by unfold maxLen; omega) (by omega) (by simp) ?_; intro v1 w1 hown1 hgrow1; rw [Nat.zero_add, List.nil_append] at hown1; have HO1 := Lib.hid hown1; have hk1 := (((Kp.refl NoB w).alloc (.cells #[] 24)).own (v := .slice (some ⟨w.heap.size, 0, none⟩) 0 0) hgrow1 rfl HOWN.out); have HK1 := Lib.hid hk1; clear hown1 hgrow1 hk1)
  go_loopw [7] (fun v7 wr => AfRel w was c v7 wr) (fun v7 _ => c - lenOf v7)
  case atStart => exact ⟨0, by omega, ⟨by rw [List.replicate_zero, List.append_nil, LA.out]; exact HO1.out, by rw [List.replicate_zero, List.append_nil]; exact OA.out⟩, HK1.out⟩
  case round =>
    obtain ⟨j, hj, how, hkp⟩ := hrel
    have HOW := Lib.hid how
    have HKP := Lib.hid hkp
    obtain ⟨A7, c7, rfl⟩ := own_slice how.1
    have hll : (was ++ List.replicate j zPg).length = m + j := by rw [List.length_append, List.length_replicate, LA.out]
    rw [hll] at how ⊢
    have how1 := how.1
    rw [hll] at HOW
    have HOW1 := Lib.hid how1
    have HJ := Lib.hid hj
    have hj2 : m + j ≤ max m c := by have := LA.out; omega
    clear how how1 hkp hj
    by_cases hlt : m + j < c
    · have hii : ((m + j : Nat) : Int) < (c : Int) := by omega
      have o1 : ones zero256 := by rw [zero256_eq]; exact bytesV_one _
      have sz : zero256.size = 256 := by rw [zero256_eq, bytesV_size]; rfl
      obtain ⟨N, hN⟩ : ∃ N, m + j = N := ⟨_, rfl⟩
      rw [hN] at hii HOW HOW1 ⊢
      have HN := Lib.hid hN
      clear hN
      go_wp2_with fail
      have hcn := raw_new wr zPg
      refine wp_append_ownB (.tmp 16) (.tmp 18) 38 rfl w.heap.size 24 j0 _ 256 256 Try.underlying38 HJ0.out HY0.out HY1.out HY2.out HCZ.out (by omega) (.slice A7 N c7) N (rawCells (was ++ List.replicate j zPg)) rfl
        (own_keepB (by have := HOW1.out; rw [hll, HN.out] at this; exact this) ((Kp.refl NoB wr).alloc _) (fun _ _ q => q)) ⟨wr.heap.size, 0, none⟩ 1 1 (zPg.map (Value.int .u8)) rfl (by rw [List.length_map, zPg_ok.1]) hcn (u8_one zPg) (by have := HN.out; unfold maxLen; omega) (by have := HN.out; omega) (by have h1 := HKP.out.size; simp; omega) ?_
      intro v7 w7 hown7 hgrow7 hb7
      obtain ⟨A8, c8, rfl⟩ := own_slice hown7
      have hk7 := (HKP.out.alloc (.cells zero256 24)).own hgrow7 rfl HOW1.out
      have HK7 := Lib.hid hk7
      have HO7 := Lib.hid hown7
      clear hown7 hgrow7 hb7 hk7 hcn
      go_wp2_with fail
      refine ⟨⟨j + 1, by have := LA.out; have := HN.out; omega, ⟨?_, rawOk_rep OA.out _⟩, HK7.out⟩, by simp [lenOf]; omega⟩
      have h := HO7.out
      have e1 : was ++ List.replicate (j + 1) zPg = (was ++ List.replicate j zPg) ++ [zPg] := by rw [List.replicate_succ', List.append_assoc]
      have e2 : ((was ++ List.replicate j zPg) ++ [zPg]).length = N + 1 := by rw [List.length_append, hll, HN.out]; rfl
      rw [e1, e2, rawCells_app]
      unfold rawCells at h ⊢
      simpa using h
    · have hii : ¬ ((m + j : Nat) : Int) < (c : Int) := by omega
      have how2 := HOW1.out
      rw [hll] at how2
      have hcut := own_cut how2 (show c ≤ m + j by omega)
      rw [rawCells_take (rawOk_rep OA.out j) c (by rw [hll]; omega), padPg_of (by rw [LA.out]; exact hj2) (by rw [LA.out]; omega)] at hcut
      have HCUT := Lib.hid hcut
      have HC7 := Lib.hid (own_cap how2)
      have hle : (c : Int) ≤ (c7 : Int) := by have := own_cap how2; omega
      have hle2 : c ≤ c7 := by have := own_cap how2; omega
      clear hcut how2 HOW1
      obtain ⟨wq, rfl⟩ : ∃ wq, wq = wr := ⟨_, rfl⟩
      clear HOW HJ hj2 hlt hll HO1 HK1
      go_wp2_with fail
      go_loopw [8] (fun v8 wr => Af2Rel w was c l (.slice A7 c c7) v8 wr) (fun v8 _ => n - (intOf v8).toNat)
      case atStart => exact ⟨0, rfl, by omega, ⟨by rw [List.take_zero, List.foldl_nil, padPg_len]; exact HCUT.out, by rw [List.take_zero, List.foldl_nil]; exact padPg_ok OA.out c⟩, HKP.out⟩
      case round =>
        obtain ⟨k, rfl, hk, how, hkp⟩ := hrel
        have HOW := Lib.hid how
        have HKQ := Lib.hid hkp
        have hLB := LB.out
        obtain ⟨O, hO⟩ : ∃ O, (l.take k).foldl setPg (padPg was c) = O := ⟨_, rfl⟩
        have hOl : O.length = c := by rw [← hO, fold_len, padPg_len]
        rw [hO] at HOW
        have HOO := Lib.hid hO
        have HOL := Lib.hid hOl
        clear how hkp hO
        by_cases hlt : k < n
        · have hkk : (k : Int) < (n : Int) := by omega
          obtain ⟨x, hx⟩ : ∃ x, l[k]? = some x := ⟨_, List.getElem?_eq_getElem (by omega)⟩
          have hxo := OB.out x (List.mem_of_getElem? hx)
          obtain ⟨gb, ob, rfl, hgb, hcn, hcr⟩ := (HB.out.keep HKQ.out).rg k hlt hx
          obtain ⟨d, hd⟩ : ∃ d : Nat, x.n = (d : Int) + 1 := ⟨(x.n - 1).toNat, by omega⟩
          have hdc : d < c := by omega
          have hown := HOW.out.1
          rw [hOl] at hown
          obtain ⟨g, ds, e, hg, -, -, -⟩ := own_full hown (by omega)
          subst e
          obtain ⟨hown2, hth⟩ := own_setPg (w := wr.drew) hown HOW.out.2 hOl hdc x.b hxo.1.len
          have HOWN2 := Lib.hid hown2
          have HTH := Lib.hid hth
          have HG := Lib.hid hg
          have HX := Lib.hid hx
          have HXO := Lib.hid hxo
          have HD := Lib.hid hd
          rw [hd] at hcn
          clear hown hown2 hth hg hx hxo hd
          go_upto_region 8 with fail
          refine wp_region_held_drew (S := fun W' => W'.cell? ⟨gb, ob + k * 257, none⟩ = some (.int .i64 ((d : Int) + 1)) ∧ W'.rangeAt gb (ob + k * 257 + 1) (x.b.map (Value.int .u8))) (by kernel_rfl) ⟨hcn, hcr⟩ (fun hHeld => ?_)
          have hs0 : wr.drew.cell? ⟨gb, ob + k * 257, none⟩ = some (.int .i64 ((d : Int) + 1)) ∧ wr.drew.rangeAt gb (ob + k * 257 + 1) (x.b.map (Value.int .u8)) := ⟨hcn, hcr⟩
          have HK0 := Lib.hid (HKQ.out.drew)
          have HOWN3 : Hid ((wr.drew.setCells g (d * 256) (x.b.map (Value.int .u8))).ownsRow w.heap.size 24 256 (.slice (some ⟨g, 0, none⟩) c c7) c (rawCells (O.set d x.b))) := HOWN2
          have HTH3 : Hid (wr.drew.there g (d * 256) 256) := HTH
          have hne : gb ≠ g := fun e => by
            have h1 := HB.out.lt (g := gb) (o := ob) rfl (by omega)
            have h2 := HG.out
            omega
          have HNE := Lib.hid hne
          have hw1 : IntKind.i64.wrap (d : Int) = (d : Int) := by rw [IntKind.wrap_i64]; omega
          have hi8 : (Try.prog.info? 24).map (·.size) = some (x.b.map (Value.int .u8)).length := by rw [List.length_map, HXO.out.1.len]; exact info26
          have hu := Try.underlying24
          clear HOWN2 HTH hne
          generalize wr.drew = W0 at hs0 hHeld HK0 HOWN3 HTH3 ⊢
          refine wpAnyH_takeL (i := 0) (v := (.slice (some ⟨g, 0, none⟩) c c7)) rfl (by kernel_rfl) (by kernel_rfl) (by kernel_rfl) (fun _ _ _ h => h) (Or.inl ⟨by rfl, fun w' hq => by go_simp⟩) hs0 ?_
          simp only [Act.put, List.setIfInBounds_toArray, List.set_cons_zero, List.set_cons_succ]
          refine wpAnyH_takeL (i := 1) (v := (.slice (some ⟨gb, ob, none⟩) n cb)) rfl (by kernel_rfl) (by kernel_rfl) (by kernel_rfl) (fun _ _ _ h => h) (Or.inl ⟨by rfl, fun w' hq => by go_simp⟩) hs0 ?_
          simp only [Act.put, List.setIfInBounds_toArray, List.set_cons_zero, List.set_cons_succ]
          refine wpAnyH_takeL (i := 2) (v := (.int .i64 (k : Int))) rfl (by kernel_rfl) (by kernel_rfl) (by kernel_rfl) (fun _ _ _ h => h) (Or.inl ⟨by rfl, fun w' hq => by go_simp⟩) hs0 ?_
          simp only [Act.put, List.setIfInBounds_toArray, List.set_cons_zero, List.set_cons_succ]
          refine wpAnyH_takeL (i := 3) (v := (.pointer (some ⟨gb, ob + k * 257, none⟩))) rfl (by kernel_rfl) (by kernel_rfl) (by kernel_rfl) (fun _ _ _ h => h) (Or.inl ⟨by rfl, fun w' hq => by go_simp⟩) hs0 ?_
          simp only [Act.put, List.setIfInBounds_toArray, List.set_cons_zero, List.set_cons_succ]
          refine wpAnyH_takeL (i := 4) (v := (.pointer (some ⟨gb, ob + k * 257, none⟩))) rfl (by kernel_rfl) (by kernel_rfl) (by kernel_rfl) (fun _ _ _ h => h) (Or.inl ⟨by rfl, fun w' hq => by go_simp⟩) hs0 ?_
          simp only [Act.put, List.setIfInBounds_toArray, List.set_cons_zero, List.set_cons_succ]
          refine wpAnyH_takeL (i := 5) (v := .int .i64 ((d : Int) + 1)) rfl (by kernel_rfl) (by kernel_rfl) (by kernel_rfl) (fun _ _ _ h => h) (Or.inl ⟨by rfl, fun w' hq => by have hq1 := hq.1; clear hq; go_simp⟩) hs0 ?_
          simp only [Act.put, List.setIfInBounds_toArray, List.set_cons_zero, List.set_cons_succ]
          refine wpAnyH_takeL (i := 6) (v := (.int .i64 (d : Int))) rfl (by kernel_rfl) (by kernel_rfl) (by kernel_rfl) (fun _ _ _ h => h) (Or.inl ⟨by rfl, fun w' hq => by go_simp⟩) hs0 ?_
          simp only [Act.put, List.setIfInBounds_toArray, List.set_cons_zero, List.set_cons_succ]
          refine wpAnyH_takeL (i := 7) (v := (.slice (some ⟨gb, ob, none⟩) n cb)) rfl (by kernel_rfl) (by kernel_rfl) (by kernel_rfl) (fun _ _ _ h => h) (Or.inl ⟨by rfl, fun w' hq => by go_simp⟩) hs0 ?_
          simp only [Act.put, List.setIfInBounds_toArray, List.set_cons_zero, List.set_cons_succ]
          refine wpAnyH_takeL (i := 8) (v := (.int .i64 (k : Int))) rfl (by kernel_rfl) (by kernel_rfl) (by kernel_rfl) (fun _ _ _ h => h) (Or.inl ⟨by rfl, fun w' hq => by go_simp⟩) hs0 ?_
          simp only [Act.put, List.setIfInBounds_toArray, List.set_cons_zero, List.set_cons_succ]
          refine wpAnyH_takeL (i := 9) (v := (.pointer (some ⟨gb, ob + k * 257, none⟩))) rfl (by kernel_rfl) (by kernel_rfl) (by kernel_rfl) (fun _ _ _ h => h) (Or.inl ⟨by rfl, fun w' hq => by go_simp⟩) hs0 ?_
          simp only [Act.put, List.setIfInBounds_toArray, List.set_cons_zero, List.set_cons_succ]
          refine wpAnyH_takeL (i := 10) (v := (.pointer (some ⟨gb, ob + k * 257 + 1, none⟩))) rfl (by kernel_rfl) (by kernel_rfl) (by kernel_rfl) (fun _ _ _ h => h) (Or.inl ⟨by rfl, fun w' hq => by go_simp⟩) hs0 ?_
          simp only [Act.put, List.setIfInBounds_toArray, List.set_cons_zero, List.set_cons_succ]
          refine wpAnyH_takeL (i := 11) (v := .agg ((x.b.map (Value.int .u8))).toArray) rfl (by kernel_rfl) (by kernel_rfl) (by kernel_rfl) (fun _ _ _ h => h) (yieldsIf_load_mid (by rfl) _ _ rfl _ _ rfl (x.b.map (Value.int .u8)) _ (fun _ q => q.2) hu rfl hi8) hs0 ?_
          simp only [Act.put, List.setIfInBounds_toArray, List.set_cons_zero, List.set_cons_succ]
          refine wpAnyH_takeL (i := 12) (v := (.pointer (some ⟨g, d * 256, none⟩))) rfl (by kernel_rfl) (by kernel_rfl) (by kernel_rfl) (fun _ _ _ h => h) (Or.inl ⟨by rfl, fun w' hq => by go_simp⟩) hs0 ?_
          simp only [Act.put, List.setIfInBounds_toArray, List.set_cons_zero, List.set_cons_succ]
          refine wpAnyH_ready (rs := [13]) (by kernel_rfl) (by simp) ?_
          refine AllReadyH.storeL rfl (by rfl) g (d * 256) (x.b.map (Value.int .u8)).toArray (by rfl) (by rfl) (by rw [List.size_toArray, List.length_map, HXO.out.1.len]; exact HTH3.out) (by rw [List.size_toArray]; exact hi8) (bytesV_one x.b) ?_ ?_ AllReadyH.nil
          · have hne := HNE.out
            exact ⟨(cell_setCells_far g hne _ _ W0).trans hs0.1, fun j v hj => (cell_setCells_far g hne _ _ W0).trans (hs0.2 j v hj)⟩
          refine wpAnyH_done (by kernel_rfl) ?_ _
          have HKN := Lib.hid (Kp.setCells (.inl HG.out) (x.b.map (Value.int .u8)) (d * 256) _ HK0.out)
          clear hHeld hs0 hi8 hu HTH3
          generalize W0.setCells g (d * 256) (x.b.map (Value.int .u8)) = W1 at HOWN3 HKN ⊢
          go_wp2_with fail
          have hst : (l.take (k + 1)).foldl setPg (padPg was c) = O.set d x.b := by
            rw [List.take_add_one, HX.out, List.foldl_append, HOO.out]
            show setPg O x = _
            unfold setPg
            rw [show x.n.toNat - 1 = d by have := HD.out; omega]
          have hok2 : rawOk (O.set d x.b) := fun b hb => by
            rcases List.mem_or_eq_of_mem_set hb with q | q
            · exact HOW.out.2 b q
            · rw [q]; exact ⟨HXO.out.1.len, HXO.out.1.rng⟩
          refine ⟨⟨k + 1, by congr 1, by omega, ⟨?_, by rw [hst]; exact hok2⟩, HKN.out⟩, by simp [intOf]; omega⟩
          rw [hst, List.length_set, hOl]
          exact HOWN3.out
        · have hkk : ¬ (k : Int) < (n : Int) := by omega
          obtain rfl : k = n := by omega
          go_wp2_with fail
          go_ret
          have h1 := HOO.out
          rw [List.take_of_length_le (by rw [LB.out]; exact Nat.le_refl _)] at h1
          unfold afterL
          rw [h1]
          refine ⟨_, rfl, ⟨?_, HOW.out.2⟩, HKQ.out⟩
          exact HOW.out.1
end
end Go.Proofs.Ytegcbdfilkecpaa
/- The journal: the pages of a change; no condition but on the bytes' length and the old count. -/
namespace Go.Proofs.Ytegcbdfilkecpaa
open Go.RowKit

/-- a row of bytes of the caller -/
def Bs (w : World) (A : Option Addr) (n : Nat) (bs : List Int) : Prop := bs.length = n ∧ (∀ y ∈ bs, 0 ≤ y ∧ y < 256) ∧ ∀ k y, bs[k]? = some y → ∃ g o, A = some ⟨g, o, none⟩ ∧ g < w.heap.size ∧ w.cell? ⟨g, o + k, none⟩ = some (.int .u8 y)
theorem Bs.keep {w w' : World} {A : Option Addr} {n : Nat} {bs : List Int} (h : Bs w A n bs) (k : Kp NoB w w') : Bs w' A n bs :=
  ⟨h.1, h.2.1, fun j y hy => by
    obtain ⟨g, o, e, hg, hc⟩ := h.2.2 j y hy
    exact ⟨g, o, e, Nat.lt_of_lt_of_le hg k.size, (k.cell hg (fun q => q)).trans hc⟩⟩
/-- the page of number j + 1 that a change writes -/
def chPg (bs : List Int) (old j : Nat) : List Pg :=
  if j < bs.length ∧ bs.getD j 0 ≠ 0 then [⟨(j : Int) + 1, fullL (bs.getD j 0)⟩] else if old ≤ j then [⟨(j : Int) + 1, fullL 255⟩] else []
def chPgs (bs : List Int) (old : Nat) : Nat → List Pg
  | 0 => []
  | j + 1 => chPgs bs old j ++ chPg bs old j
theorem chPg_len (bs : List Int) (old j : Nat) : (chPg bs old j).length ≤ 1 := by 
    unfold chPg
    split
    · simp
    · split <;> simp
theorem chPgs_len (bs : List Int) (old : Nat) : ∀ j, (chPgs bs old j).length ≤ j
  | 0 => Nat.le_refl _
  | j + 1 => by
    have := chPgs_len bs old j
    have := chPg_len bs old j
    unfold chPgs
    rw [List.length_append]
    omega
theorem full_pg {n y : Int} (hn : -9223372036854775808 ≤ n ∧ n ≤ 9223372036854775807) (hy : 0 ≤ y ∧ y < 256) : PgOk ⟨n, fullL y⟩ := ⟨List.length_replicate .., fun z hz => by rw [List.eq_of_mem_replicate hz]; exact hy, hn⟩
theorem and15 (C : Int) : ∃ N : Nat, N ≤ 15 ∧ bits BinOp.and IntKind.i64 C 15 = (N : Int) := by
  have e : bits BinOp.and IntKind.i64 C 15 = IntKind.i64.wrap ((BitVec.ofInt 64 C &&& BitVec.ofInt 64 15).toNat) := rfl
  have h : (BitVec.ofInt 64 C &&& BitVec.ofInt 64 15).toNat ≤ 15 := by
    rw [BitVec.toNat_and]
    exact Nat.and_le_right
  refine ⟨(BitVec.ofInt 64 C &&& BitVec.ofInt 64 15).toNat, h, ?_⟩
  rw [e, IntKind.wrap_i64]
  omega
theorem own_low {w : World} {a b e size n : Nat} {v : Value} {xs : List Value} (h : w.ownsRow b e size v n xs) (hab : a ≤ b) : w.ownsRow a e size v n xs := by
  refine ⟨h.1, ?_⟩
  rcases h.2 with hn | ⟨g, cap, cur, hv, hb, rest⟩
  · exact .inl hn
  · exact .inr ⟨g, cap, cur, hv, Nat.le_trans hab hb, rest⟩
def PaRel (w1 : World) (bs : List Int) (old N : Nat) (v7 v8 : Value) (wr : World) : Prop := ∃ j : Nat, v8 = .int .i64 ((j : Int) + 1) ∧ j ≤ N ∧ OwnPgs wr w1.heap.size v7 (chPgs bs old j) ∧ Kp NoB w1 wr
section
attribute [local go_sem ↓] loadPg storePg allocPg exSlicePg
set_option maxRecDepth 100000 in
set_option maxHeartbeats 6000000 in
theorem pages_q (w : World) (C : Int) (A : Option Addr) (nb cb : Nat) (bs : List Int) (hb : Bs w A nb bs) (hnb : nb ≤ 9223372036854775807) (old : Nat) (hold : old ≤ 4096) :
    Calls Try.prog 19 #[.agg #[.int .i64 C, .slice A nb cb], .int .i64 (old : Int)] w fun e w' => ∃ (N : Nat) (v : Value), N ≤ 15 ∧ e = .returned (.tuple #[.int .i64 (N : Int), v]) ∧ OwnPgs w' w.heap.size v (chPgs bs old N) ∧ Kp NoB w w' := by
  have hkb : Kp NoB w (w.alloc (.cells #[.int .i64 C, .slice A nb cb] 44)) := (Kp.refl _ _).alloc _
  have hbd : Blk (w.alloc (.cells #[.int .i64 C, .slice A nb cb] 44)) w.heap.size 44 #[.int .i64 C, .slice A nb cb] := Blk.new _ _ _
  obtain ⟨w1, hw1⟩ : ∃ w1, w.alloc (.cells #[.int .i64 C, .slice A nb cb] 44) = w1 := ⟨_, rfl⟩
  have hs1 : w1.heap.size = w.heap.size + 1 := by rw [← hw1]; simp
  rw [hw1] at hkb hbd
  have HKB := Lib.hid hkb
  have HBD := Lib.hid hbd
  have HB := Lib.hid (hb.keep hkb)
  have HS1 := Lib.hid hs1
  have LB := Lib.hid hb.1
  have c0 : w1.cell? ⟨w.heap.size, 0, none⟩ = some (.int .i64 C) := hbd.cell 0
  have c1 : w1.cell? ⟨w.heap.size, 1, none⟩ = some (.slice A nb cb) := hbd.cell 1
  obtain ⟨N, hN, hbits⟩ := and15 C
  obtain ⟨j0, hj0, hy0, hy1, hy2⟩ := info_parts infoPgA
  have HJ0 := Lib.hid hj0
  have HY0 := Lib.hid hy0
  have HY1 := Lib.hid hy1
  have HY2 := Lib.hid hy2
  have l255 : (fullL 255).length = 256 := List.length_replicate ..
  clear hkb hbd hb hs1 hj0 hy0 hy1 hy2
  go_enter Try.func19, Try.ntmps19
  go_wp2_with fail
  go_loopw [7, 8] (fun v7 v8 wr => PaRel w1 bs old N v7 v8 wr) (fun _ v _ => N + 1 - (intOf v).toNat)
  case atStart => exact ⟨0, rfl, Nat.zero_le _, ⟨World.ownsRow_nil _ _ _ _, by simp [chPgs]⟩, Kp.refl _ _⟩
  case round =>
    obtain ⟨wq, rfl⟩ : ∃ wq, wq = wr := ⟨_, rfl⟩
    obtain ⟨j, rfl, hj, how, hkp⟩ := hrel
    have HOW := Lib.hid how
    have HKP := Lib.hid hkp
    have c1 : wq.cell? ⟨w.heap.size, 1, none⟩ = some (.slice A nb cb) := by rw [hkp.cell HBD.out.lt (fun q => q)]; exact c1
    obtain ⟨A7, c7, rfl⟩ := own_slice how.1
    have hcl := chPgs_len bs old j
    obtain ⟨L, hL⟩ : ∃ L, chPgs bs old j = L := ⟨_, rfl⟩
    obtain ⟨nl, hnl⟩ : ∃ nl, L.length = nl := ⟨_, rfl⟩
    rw [hL] at HOW hcl ⊢
    rw [hnl] at hcl ⊢
    have HL := Lib.hid hL
    have HNL := Lib.hid hnl
    clear how hkp hL hnl
    by_cases hlt : j < N
    · have hkk : (j : Int) + 1 ≤ (N : Int) := by omega
      have hw0 : IntKind.i64.wrap (j : Int) = (j : Int) := by rw [IntKind.wrap_i64]; omega
      by_cases hin : j < nb
      · have hii : (j : Int) + 1 ≤ (nb : Int) := by omega
        obtain ⟨y, hy⟩ : ∃ y, bs[j]? = some y := ⟨_, List.getElem?_eq_getElem (by have := LB.out; omega)⟩
        have hyr := HB.out.2.1 y (List.mem_of_getElem? hy)
        have hgd : bs.getD j 0 = y := by rw [List.getD_eq_getElem?_getD, hy]; rfl
        obtain ⟨g, o, e, hg, hc⟩ := (HB.out.keep HKP.out).2.2 j y hy
        subst e
        have HGD := Lib.hid hgd
        have HYR := Lib.hid hyr
        have l1 : (fullL y).length = 256 := List.length_replicate ..
        clear hgd hyr hy
        by_cases hz : y = 0
        · have hz1 : (y != 0) = false := by rw [hz]; rfl
          have hz2 : (y == 0) = true := by rw [hz]; rfl
          have HZ := Lib.hid hz
          subst hz
          by_cases ho : old ≤ j
          · have hoo : (old : Int) < (j : Int) + 1 := by omega
            go_wp2_with fail
            refine (full_ok wq 255).mono ?_
            rintro e w2 ⟨rfl, hk2⟩
            have HK2 := Lib.hid hk2
            have s1 : (pgA ⟨(j : Int) + 1, fullL 255⟩).size = 257 := by unfold pgA pgL; rw [List.size_toArray, List.length_cons, List.length_map, l255]
            have ok1 : PgOk ⟨(j : Int) + 1, fullL 255⟩ := full_pg (by omega) (by omega)
            have OK1 := Lib.hid ok1
            clear hk2 ok1
            go_wp2_with (show wpList _ _ _ (⟨some 49, _, _, _, _, _⟩ :: _) _ _; refine wpList_val _ (exBuildPg2 _ _ _ _ ((j : Int) + 1) (fullL 255) l255 _ _ _ _ _ rfl rfl) ?_)
            have hcn := pg_new w2 ⟨(j : Int) + 1, fullL 255⟩
            have how3 := HOW.out.1
            rw [HNL.out] at how3
            refine wp_append_ownB (.tmp 46) (.tmp 50) 22 rfl w1.heap.size 113 j0 _ 257 264 Try.underlying22 HJ0.out HY0.out HY1.out HY2.out rfl (by omega) (.slice A7 nl c7) nl (pgsCells L) rfl
              (own_keepB how3 (HK2.out.alloc _) (fun _ _ q => q)) ⟨w2.heap.size, 0, none⟩ 1 1 (pgL ⟨(j : Int) + 1, fullL 255⟩) rfl (pgL_len OK1.out) hcn (pgL_one _) (by unfold maxLen; omega) (by omega)
              (by have h1 := HKP.out.size; have h2 := HK2.out.size; simp; omega) ?_
            intro v7 w7 hown7 hgrow7 hb7
            obtain ⟨A8, c8, rfl⟩ := own_slice hown7
            have hk7 := ((HKP.out.trans HK2.out (fun _ _ q => q)).alloc (.cells (pgA ⟨(j : Int) + 1, fullL 255⟩) 113)).own hgrow7 rfl how3
            have HK7 := Lib.hid hk7
            have HO7 := Lib.hid hown7
            clear hown7 hgrow7 hb7 hk7 hcn how3
            go_wp2_with fail
            have hce : chPg bs old j = [⟨(j : Int) + 1, fullL 255⟩] := by unfold chPg; rw [if_neg (by rw [HGD.out]; simp), if_pos ho]
            refine ⟨⟨j + 1, by congr 1, by omega, ⟨?_, ?_⟩, HK7.out⟩, by simp [intOf]; omega⟩
            · have := HO7.out
              unfold chPgs
              rw [HL.out, hce, List.length_append, HNL.out]
              unfold pgsCells at this ⊢
              rw [List.flatMap_append]
              simpa using this
            · intro z hz
              unfold chPgs at hz
              rw [HL.out, hce] at hz
              rcases List.mem_append.1 hz with q | q
              · exact HOW.out.2 z q
              · rw [List.mem_singleton.1 q]; exact OK1.out
          · have hoo : ¬ (old : Int) < (j : Int) + 1 := by omega
            go_wp2_with fail
            have hce : chPg bs old j = [] := by unfold chPg; rw [if_neg (by rw [HGD.out]; simp), if_neg ho]
            refine ⟨⟨j + 1, by congr 1, by omega, ?_, HKP.out⟩, by simp [intOf]; omega⟩
            unfold chPgs
            rw [HL.out, hce, List.append_nil]
            exact ⟨by have := HOW.out.1; rw [HNL.out] at this ⊢; exact this, HOW.out.2⟩
        · have hz1 : (y != 0) = true := by simpa using hz
          have hz2 : (y == 0) = false := by simpa using hz
          go_wp2_with fail
          refine (full_ok wq y).mono ?_
          rintro e w2 ⟨rfl, hk2⟩
          have HK2 := Lib.hid hk2
          have s1 : (pgA ⟨(j : Int) + 1, fullL y⟩).size = 257 := by unfold pgA pgL; rw [List.size_toArray, List.length_cons, List.length_map, l1]
          have ok1 : PgOk ⟨(j : Int) + 1, fullL y⟩ := full_pg (by omega) HYR.out
          have OK1 := Lib.hid ok1
          clear hk2 ok1
          go_wp2_with (show wpList _ _ _ (⟨some 40, _, _, _, _, _⟩ :: _) _ _; refine wpList_val _ (exBuildPg2 _ _ _ _ ((j : Int) + 1) (fullL y) l1 _ _ _ _ _ rfl rfl) ?_)
          have hcn := pg_new w2 ⟨(j : Int) + 1, fullL y⟩
          have how3 := HOW.out.1
          rw [HNL.out] at how3
          refine wp_append_ownB (.tmp 31) (.tmp 41) 22 rfl w1.heap.size 113 j0 _ 257 264 Try.underlying22 HJ0.out HY0.out HY1.out HY2.out rfl (by omega) (.slice A7 nl c7) nl (pgsCells L) rfl
            (own_keepB how3 (HK2.out.alloc _) (fun _ _ q => q)) ⟨w2.heap.size, 0, none⟩ 1 1 (pgL ⟨(j : Int) + 1, fullL y⟩) rfl (pgL_len OK1.out) hcn (pgL_one _) (by unfold maxLen; omega) (by omega)
            (by have h1 := HKP.out.size; have h2 := HK2.out.size; simp; omega) ?_
          intro v7 w7 hown7 hgrow7 hb7
          obtain ⟨A8, c8, rfl⟩ := own_slice hown7
          have hk7 := ((HKP.out.trans HK2.out (fun _ _ q => q)).alloc (.cells (pgA ⟨(j : Int) + 1, fullL y⟩) 113)).own hgrow7 rfl how3
          have HK7 := Lib.hid hk7
          have HO7 := Lib.hid hown7
          clear hown7 hgrow7 hb7 hk7 hcn how3
          go_wp2_with fail
          have hce : chPg bs old j = [⟨(j : Int) + 1, fullL y⟩] := by unfold chPg; rw [if_pos ⟨by rw [LB.out]; exact hin, by rw [HGD.out]; exact hz⟩, HGD.out]
          refine ⟨⟨j + 1, by congr 1, by omega, ⟨?_, ?_⟩, HK7.out⟩, by simp [intOf]; omega⟩
          · have := HO7.out
            unfold chPgs
            rw [HL.out, hce, List.length_append, HNL.out]
            unfold pgsCells at this ⊢
            rw [List.flatMap_append]
            simpa using this
          · intro z hz
            unfold chPgs at hz
            rw [HL.out, hce] at hz
            rcases List.mem_append.1 hz with q | q
            · exact HOW.out.2 z q
            · rw [List.mem_singleton.1 q]; exact OK1.out
      · have hii : ¬ (j : Int) + 1 ≤ (nb : Int) := by omega
        by_cases ho : old ≤ j
        · have hoo : (old : Int) < (j : Int) + 1 := by omega
          go_wp2_with fail
          refine (full_ok wq 255).mono ?_
          rintro e w2 ⟨rfl, hk2⟩
          have HK2 := Lib.hid hk2
          have s1 : (pgA ⟨(j : Int) + 1, fullL 255⟩).size = 257 := by unfold pgA pgL; rw [List.size_toArray, List.length_cons, List.length_map, l255]
          have ok1 : PgOk ⟨(j : Int) + 1, fullL 255⟩ := full_pg (by omega) (by omega)
          have OK1 := Lib.hid ok1
          clear hk2 ok1
          go_wp2_with (show wpList _ _ _ (⟨some 49, _, _, _, _, _⟩ :: _) _ _; refine wpList_val _ (exBuildPg2 _ _ _ _ ((j : Int) + 1) (fullL 255) l255 _ _ _ _ _ rfl rfl) ?_)
          have hcn := pg_new w2 ⟨(j : Int) + 1, fullL 255⟩
          have how3 := HOW.out.1
          rw [HNL.out] at how3
          refine wp_append_ownB (.tmp 46) (.tmp 50) 22 rfl w1.heap.size 113 j0 _ 257 264 Try.underlying22 HJ0.out HY0.out HY1.out HY2.out rfl (by omega) (.slice A7 nl c7) nl (pgsCells L) rfl
            (own_keepB how3 (HK2.out.alloc _) (fun _ _ q => q)) ⟨w2.heap.size, 0, none⟩ 1 1 (pgL ⟨(j : Int) + 1, fullL 255⟩) rfl (pgL_len OK1.out) hcn (pgL_one _) (by unfold maxLen; omega) (by omega)
            (by have h1 := HKP.out.size; have h2 := HK2.out.size; simp; omega) ?_
          intro v7 w7 hown7 hgrow7 hb7
          obtain ⟨A8, c8, rfl⟩ := own_slice hown7
          have hk7 := ((HKP.out.trans HK2.out (fun _ _ q => q)).alloc (.cells (pgA ⟨(j : Int) + 1, fullL 255⟩) 113)).own hgrow7 rfl how3
          have HK7 := Lib.hid hk7
          have HO7 := Lib.hid hown7
          clear hown7 hgrow7 hb7 hk7 hcn how3
          go_wp2_with fail
          have hce : chPg bs old j = [⟨(j : Int) + 1, fullL 255⟩] := by unfold chPg; rw [if_neg (by rw [LB.out]; omega), if_pos ho]
          refine ⟨⟨j + 1, by congr 1, by omega, ⟨?_, ?_⟩, HK7.out⟩, by simp [intOf]; omega⟩
          · have := HO7.out
            unfold chPgs
            rw [HL.out, hce, List.length_append, HNL.out]
            unfold pgsCells at this ⊢
            rw [List.flatMap_append]
            simpa using this
          · intro z hz
            unfold chPgs at hz
            rw [HL.out, hce] at hz
            rcases List.mem_append.1 hz with q | q
            · exact HOW.out.2 z q
            · rw [List.mem_singleton.1 q]; exact OK1.out
        · have hoo : ¬ (old : Int) < (j : Int) + 1 := by omega
          go_wp2_with fail
          have hce : chPg bs old j = [] := by unfold chPg; rw [if_neg (by rw [LB.out]; omega), if_neg ho]
          refine ⟨⟨j + 1, by congr 1, by omega, ?_, HKP.out⟩, by simp [intOf]; omega⟩
          unfold chPgs
          rw [HL.out, hce, List.append_nil]
          exact ⟨by have := HOW.out.1; rw [HNL.out] at this ⊢; exact this, HOW.out.2⟩
    · have hkk : ¬ (j : Int) + 1 ≤ (N : Int) := by omega
      obtain rfl : j = N := by omega
      go_wp2_with fail
      go_ret2
      have hs9 := HS1.out
      refine ⟨j, hN, _, rfl, ⟨own_low ?_ (show w.heap.size ≤ w1.heap.size by omega), ?_⟩, HKB.out.trans HKP.out (fun _ _ q => q)⟩
      · rw [HL.out, HNL.out]
        have := HOW.out.1
        rw [HNL.out] at this
        exact this
      · rw [HL.out]; exact HOW.out.2
end
end Go.Proofs.Ytegcbdfilkecpaa
/- The journal in plain Lean on a disk that does not crash: what each step makes of the two files; no condition. -/
namespace Go.Proofs.Ytegcbdfilkecpaa
open Go

/-- a disk that is up and will not crash, with the two files alone -/
structure Calm (p : Pl) : Prop where
  up : p.down = false
  cr : p.crash = 0
  le : p.le
  two : p.sum = (p.seen nmDb).length + (p.seen nmJn).length
theorem nm_ne : nmDb ≠ nmJn := by decide
/-- bytes written into a file -/
def wrL (l : List Int) (a : Nat) (d : List Int) : List Int := Pl.put (if l.length < a + d.length then sizedF l (a + d.length) else l) a d
theorem wrL_len (l : List Int) (a : Nat) (d : List Int) : (wrL l a d).length = max l.length (a + d.length) := by
  unfold wrL Pl.put
  split
  · have := sizedF_len l (a + d.length)
    simp
    omega
  · simp
    omega
theorem stepE_calm {p : Pl} (h : p.crash = 0) : p.stepE = 0 := by unfold Pl.stepE; rw [if_neg (by omega)]
theorem step_calm {p : Pl} (h : p.crash = 0) : p.step.crash = 0 ∧ p.step.down = p.down ∧ p.step.seen = p.seen ∧ p.step.sum = p.sum ∧ p.step.room = p.room := by
  unfold Pl.step
  refine ⟨?_, ?_, rfl, rfl, rfl⟩
  · show (if 0 < p.crash then p.crash - 1 else p.crash) = 0
    rw [if_neg (by omega)]
    exact h
  · show (if p.crash = 1 then true else p.down) = p.down
    rw [if_neg (by omega)]
theorem two_upd {f : ByteArray → List Int} {s : ByteArray} (hs : s = nmDb ∨ s = nmJn) (l : List Int) {m : Int} (h : m = (f nmDb).length + (f nmJn).length) : m - (f s).length + l.length = ((upd f s l nmDb).length : Int) + (upd f s l nmJn).length := by
  rcases hs with rfl | rfl
  · rw [upd_same, upd_other f l nm_ne.symm]
    omega
  · rw [upd_same, upd_other f l nm_ne]
    omega
theorem fits_small {p : Pl} (h : Calm p) (s : ByteArray) (n : Nat) (hn : n ≤ (p.seen s).length) : p.fits s n = 0 := by
  unfold Pl.fits
  have := h.le s
  rw [if_neg (by omega), if_neg (by omega)]
/-- a write, on a calm disk -/
theorem calm_write {p : Pl} (h : Calm p) (s : ByteArray) (hs : s = nmDb ∨ s = nmJn) (a : Nat) (d : List Int) (hd : d ≠ []) (hb : a + d.length ≤ 1048576) :
    (p.writeE s a d = 5 ∧ p.write s a d = p ∧ (p.seen s).length < a + d.length) ∨
    (p.writeE s a d = 0 ∧ Calm (p.write s a d) ∧ (p.write s a d).seen = upd p.seen s (wrL (p.seen s) a d) ∧ (p.write s a d).room = p.room) := by
  have hm : (max ((a : Int) + d.length) (p.seen s).length : Int) ≤ 1048576 := by have := h.le s; omega
  unfold Pl.writeE Pl.write
  rw [h.up]
  simp only [Bool.false_eq_true, if_false, false_or]
  rw [if_neg (show ¬ (a : Int) < 0 by omega), if_neg (show ¬ (1048576 < (a : Int) ∨ 1048576 - (a : Int) < d.length) by omega), if_neg hd, if_neg (show ¬ ((a : Int) < 0 ∨ 1048576 < (a : Int) ∨ 1048576 - (a : Int) < d.length) by omega), if_neg hd]
  by_cases hf : p.fits s (max ((a : Int) + d.length) (p.seen s).length) ≠ 0
  · left
    rw [if_pos hf, if_pos hf]
    refine ⟨?_, rfl, ?_⟩
    · rcases fits_3 (p := p) (s := s) hm with e | e
      · exact absurd e hf
      · exact e
    · rcases Nat.lt_or_ge (p.seen s).length (a + d.length) with q | q
      · exact q
      · exfalso
        apply hf
        have e : (max ((a : Int) + d.length) (p.seen s).length : Int) = ((p.seen s).length : Nat) := by omega
        rw [e]
        exact fits_small h s _ (Nat.le_refl _)
  · right
    rw [if_neg hf, if_neg hf]
    refine ⟨stepE_calm h.cr, ?_⟩
    unfold Pl.write1
    rw [Int.toNat_natCast]
    have key : ∀ q : Pl, q.down = false → q.crash = 0 → q.seen = p.seen ∨ q.seen = upd p.seen s (sizedF (p.seen s) (a + d.length)) → q.room = p.room → q.le → q.sum = (q.seen nmDb).length + (q.seen nmJn).length →
        upd q.seen s (Pl.put (q.seen s) a d) = upd p.seen s (wrL (p.seen s) a d) →
        (∀ x, Calm (((q.at_.setSeen s (Pl.put (q.seen s) a d)).pend x).step) ∧ (((q.at_.setSeen s (Pl.put (q.seen s) a d)).pend x).step).seen = upd p.seen s (wrL (p.seen s) a d) ∧ (((q.at_.setSeen s (Pl.put (q.seen s) a d)).pend x).step).room = p.room) := by
      intro q hq hc hsn hrm hle htw hup x
      have hst := step_calm (p := (q.at_.setSeen s (Pl.put (q.seen s) a d)).pend x) hc
      have hll : (wrL (p.seen s) a d).length ≤ 1048576 := by rw [wrL_len]; have := h.le s; omega
      have hseen : ((q.at_.setSeen s (Pl.put (q.seen s) a d)).pend x).step.seen = upd p.seen s (wrL (p.seen s) a d) := hst.2.2.1.trans hup
      refine ⟨⟨?_, hst.1, ?_, ?_⟩, hseen, hst.2.2.2.2.trans hrm⟩
      · rw [hst.2.1]; exact hq
      · intro t
        rw [hseen]
        exact le_upd h.le s _ hll t
      · rw [hseen, hst.2.2.2.1]
        show q.sum - ((q.seen s).length : Int) + ((Pl.put (q.seen s) a d).length : Int) = _
        rw [two_upd hs (Pl.put (q.seen s) a d) htw, hup]
    split
    · rename_i hlt
      have hL : (p.length s (a + d.length)) = ((p.at_.setSeen s (sizedF (p.seen s) (a + d.length))).pend [⟨s, -1, ((a + d.length : Nat) : Int), []⟩]) := by
        unfold Pl.length
        rw [if_neg (by omega)]
      refine key (p.length s (a + d.length)) ?_ ?_ ?_ ?_ (le_length h.le s _ hb) ?_ ?_ _
      · rw [hL]; exact h.up
      · rw [hL]; exact h.cr
      · rw [hL]; exact .inr rfl
      · rw [hL]; rfl
      · rw [hL]
        show p.sum - ((p.seen s).length : Int) + ((sizedF (p.seen s) (a + d.length)).length : Int) = _
        exact two_upd hs _ h.two
      · have e1 : (p.length s (a + d.length)).seen = upd p.seen s (sizedF (p.seen s) (a + d.length)) := by rw [hL]; rfl
        rw [e1, upd_same, upd_upd]
        unfold wrL
        rw [if_pos hlt]
    · rename_i hlt
      refine key p h.up h.cr (.inl rfl) rfl h.le h.two ?_ _
      unfold wrL
      rw [if_neg hlt]
/-- a truncation that does not grow -/
theorem calm_trunc {p : Pl} (h : Calm p) (s : ByteArray) (hs : s = nmDb ∨ s = nmJn) (n : Nat) (hn : n ≤ (p.seen s).length) :
    p.truncE s n = 0 ∧ Calm (p.trunc s n) ∧ (p.trunc s n).seen = upd p.seen s ((p.seen s).take n) ∧ (p.trunc s n).room = p.room := by
  have hf := fits_small h s n hn
  unfold Pl.truncE Pl.trunc
  rw [h.up, hf]
  simp only [Bool.false_eq_true, if_false, false_or, ne_eq, not_true_eq_false, or_false]
  rw [if_neg (by omega), if_neg (by omega), Int.toNat_natCast]
  refine ⟨stepE_calm h.cr, ?_⟩
  unfold Pl.length
  split
  · rename_i e
    have hst := step_calm (p := p.at_) h.cr
    have ht : upd p.seen s ((p.seen s).take n) = p.seen := by
      rw [List.take_of_length_le (by omega), upd_self]
    refine ⟨⟨hst.2.1.trans h.up, hst.1, fun t => ?_, ?_⟩, ?_, hst.2.2.2.2⟩
    · rw [hst.2.2.1]; exact h.le t
    · rw [hst.2.2.1, hst.2.2.2.1]; exact h.two
    · rw [hst.2.2.1, ht]; rfl
  · have hst := step_calm (p := (p.at_.setSeen s (sizedF (p.seen s) n)).pend [⟨s, -1, (n : Int), []⟩]) h.cr
    have hz : sizedF (p.seen s) n = (p.seen s).take n := by unfold sizedF; rw [if_pos hn]
    have hseen : (((p.at_.setSeen s (sizedF (p.seen s) n)).pend [⟨s, -1, (n : Int), []⟩]).step).seen = upd p.seen s ((p.seen s).take n) := by rw [hst.2.2.1, ← hz]; rfl
    refine ⟨⟨hst.2.1.trans h.up, hst.1, fun t => ?_, ?_⟩, hseen, hst.2.2.2.2⟩
    · rw [hseen]
      exact le_upd h.le s _ (by have := h.le s; simp; omega) t
    · rw [hseen, hst.2.2.2.1]
      show p.sum - ((p.seen s).length : Int) + ((sizedF (p.seen s) n).length : Int) = _
      rw [two_upd hs _ h.two, hz]
theorem calm_sync {p : Pl} (h : Calm p) (s : ByteArray) : p.syncE = 0 ∧ Calm (p.sync s) ∧ (p.sync s).seen = p.seen ∧ (p.sync s).room = p.room := by
  have hst := step_calm (p := p) h.cr
  unfold Pl.syncE Pl.sync
  rw [h.up]
  simp only [Bool.false_eq_true, if_false]
  rw [stepE_calm h.cr, if_neg (by simp)]
  refine ⟨rfl, ⟨hst.2.1.trans h.up, hst.1, h.le, ?_⟩, rfl, rfl⟩
  exact h.two
end Go.Proofs.Ytegcbdfilkecpaa
/- The journal in plain Lean: files as pages, sealed heads and records read back; no condition. -/
namespace Go.Proofs.Ytegcbdfilkecpaa
open Go

theorem four_len (n : Int) : (four n).length = 4 := rfl
theorem num_four (n : Int) (hn : 0 ≤ n ∧ n < 4294967296) (a b : List Int) : num (a ++ (four n ++ b)) a.length = n := by
  unfold num
  have e : ∀ j, j < 4 → (a ++ (four n ++ b)).getD (a.length + j) 0 = (four n).getD j 0 := fun j hj => by
    rw [List.getD_eq_getElem?_getD, List.getElem?_append_right (by omega), Nat.add_sub_cancel_left, List.getElem?_append_left (by rw [four_len]; exact hj), ← List.getD_eq_getElem?_getD]
  have e0 := e 0 (by omega)
  rw [Nat.add_zero] at e0
  rw [e0, e 1 (by omega), e 2 (by omega), e 3 (by omega)]
  unfold four
  simp only [List.getD_cons_zero, List.getD_cons_succ]
  omega
theorem bytes_len (w : W4) : w.bytes.length = 16 := rfl
theorem wordsAt_bytes (w : W4) (hw : W4Ok w) (a b : List Int) : wordsAt (a ++ (w.bytes ++ b)) a.length = w := by
  unfold wordsAt
  have hb : w.bytes = four w.a ++ (four w.b ++ (four w.c ++ four w.d)) := by unfold W4.bytes; simp only [List.append_assoc]
  have e1 : a ++ (w.bytes ++ b) = a ++ (four w.a ++ (four w.b ++ (four w.c ++ (four w.d ++ b)))) := by rw [hb]; simp only [List.append_assoc]
  have h1 := num_four w.a hw.a a (four w.b ++ (four w.c ++ (four w.d ++ b)))
  have h2 := num_four w.b hw.b (a ++ four w.a) (four w.c ++ (four w.d ++ b))
  have h3 := num_four w.c hw.c (a ++ four w.a ++ four w.b) (four w.d ++ b)
  have h4 := num_four w.d hw.d (a ++ four w.a ++ four w.b ++ four w.c) b
  simp only [List.length_append, four_len, List.append_assoc] at h1 h2 h3 h4
  rw [e1, h1, h2, show a.length + 8 = a.length + (4 + 4) by omega, h3, show a.length + 12 = a.length + (4 + (4 + 4)) by omega, h4]
theorem says_seal (w : W4) (hw : W4Ok w) (t : List Int) : says (sealB w ++ t) = w := by
  unfold says
  have hs := seal_len w
  rw [if_neg (by rw [List.length_append, hs]; omega)]
  rw [List.take_append_of_le_length (by omega), List.take_of_length_le (by omega)]
  unfold openB
  have h1 : (sealB w).take 16 = w.bytes := rfl
  have h2 : ((sealB w).drop 16).take 16 = w.bytes := rfl
  rw [h1, h2, if_pos rfl]
  have := wordsAt_bytes w hw [] (w.bytes ++ w.bytes ++ zeros 16)
  simp only [List.nil_append, List.length_nil] at this
  have e : sealB w = w.bytes ++ (w.bytes ++ w.bytes ++ zeros 16) := by unfold sealB; simp only [List.append_assoc]
  rw [e]
  exact this
/-- a write at a known place -/
theorem wrL_app (h t d : List Int) : wrL (h ++ t) h.length d = h ++ (d ++ t.drop d.length) := by
  unfold wrL Pl.put
  split
  · rename_i hl
    rw [List.length_append] at hl
    have hs : sizedF (h ++ t) (h.length + d.length) = h ++ t ++ List.replicate (h.length + d.length - (h ++ t).length) 0 := by
      unfold sizedF
      rw [if_neg (by rw [List.length_append]; omega)]
    have z1 : (h ++ (t ++ List.replicate (h.length + d.length - (h ++ t).length) (0 : Int))).drop (h.length + d.length) = [] := List.drop_eq_nil_of_le (by
      rw [List.length_append, List.length_append, List.length_replicate, List.length_append]
      omega)
    have z2 : t.drop d.length = [] := List.drop_eq_nil_of_le (by omega)
    rw [hs, List.append_assoc h t, List.take_left' rfl, z1, z2]
    simp
  · rw [List.take_left' rfl, ← List.drop_drop, List.drop_left' rfl, List.append_assoc]
/-- records one behind the other -/
def recsL (l : List Pg) : List Int := l.flatMap recB
theorem rec_len {x : Pg} (h : x.b.length = 256) : (recB x).length = 320 := by
  unfold recB zeros
  rw [List.length_append, List.length_append, h, List.length_replicate]
  rfl
theorem recsL_len : ∀ {l : List Pg}, (∀ x ∈ l, x.b.length = 256) → (recsL l).length = 320 * l.length
  | [], _ => rfl
  | x :: r, h => by
    unfold recsL
    rw [List.flatMap_cons, List.length_append, rec_len (h x (List.mem_cons_self ..))]
    have := recsL_len (l := r) (fun y hy => h y (List.mem_cons_of_mem _ hy))
    unfold recsL at this
    rw [this, List.length_cons]
    omega
/-- what is laid aside is read back -/
theorem recs_back (H : List Int) (hH : H.length = 64) (top : Int) (T : List Int) : ∀ (l : List Pg) (pre : List Pg) (last : Int), (∀ x ∈ pre, x.b.length = 256) → (∀ x ∈ l, x.b.length = 256) → chainPg top last l = true → 0 ≤ last → top < 4294967296 →
    recsPg (H ++ (recsL pre ++ (recsL l ++ T))) top l.length pre.length last = some l
  | [], pre, last, _, _, _, _, _ => rfl
  | x :: r, pre, last, hp, hl, hc, h0, ht => by
    have hx := hl x (List.mem_cons_self ..)
    rw [chainPg_cons, Bool.and_eq_true, decide_eq_true_iff] at hc
    have hpl := recsL_len hp
    have hrl := rec_len hx
    have eb : ((H ++ (recsL pre ++ (recsL (x :: r) ++ T))).drop (64 + 320 * pre.length)).take 320 = recB x := by
      have e1 : H ++ (recsL pre ++ (recsL (x :: r) ++ T)) = (H ++ recsL pre) ++ (recB x ++ (recsL r ++ T)) := by
        unfold recsL
        rw [List.flatMap_cons]
        simp only [List.append_assoc]
      rw [e1, List.drop_left' (by rw [List.length_append, hH, hpl]), List.take_left' hrl]
    have hb : recB x = four x.n ++ (zeros 60 ++ x.b) := by unfold recB; rw [List.append_assoc]
    have hz : ((recB x).drop 4).take 60 = zeros 60 := by
      rw [hb, List.drop_left' (four_len _), List.take_left' (by unfold zeros; rw [List.length_replicate])]
    have hn : num (recB x) 0 = x.n := by
      have := num_four x.n (by omega) [] (zeros 60 ++ x.b)
      simp only [List.nil_append, List.length_nil] at this
      rw [hb]
      exact this
    have hd : (recB x).drop 64 = x.b := by
      unfold recB
      exact List.drop_left' (by unfold zeros; rw [List.length_append, List.length_replicate]; rfl)
    have ih := recs_back H hH top T r (pre ++ [x]) x.n (fun y hy => by
      rcases List.mem_append.1 hy with q | q
      · exact hp y q
      · rw [List.mem_singleton.1 q]; exact hx) (fun y hy => hl y (List.mem_cons_of_mem _ hy)) hc.2 (by omega) ht
    have e2 : H ++ (recsL (pre ++ [x]) ++ (recsL r ++ T)) = H ++ (recsL pre ++ (recsL (x :: r) ++ T)) := by
      unfold recsL
      rw [List.flatMap_append, List.flatMap_cons, List.flatMap_cons, List.flatMap_nil]
      simp only [List.append_assoc, List.append_nil, List.nil_append]
    rw [e2, List.length_append] at ih
    rw [List.length_cons, recsPg_succ, eb, hz, hn, hd, if_neg (by rw [hrl]; omega), if_pos ⟨rfl, hc.1⟩]
    rw [show [x].length = 1 from rfl] at ih
    rw [ih]
    rfl
/-! ### the database as pages -/
/-- so many pages -/
def Pgd (l : List Int) (s : Nat) : Prop := l.length = s * 256
theorem pageOf_at {l : List Int} {s n : Nat} (h : Pgd l s) (h1 : 1 ≤ n) (h2 : n ≤ s) : pageOf l n = (l.drop ((n - 1) * 256)).take 256 := by
  unfold pageOf sizedF
  have h' : l.length = s * 256 := h
  obtain ⟨m, rfl⟩ : ∃ m, n = m + 1 := ⟨n - 1, by omega⟩
  have : (m + 1) * 256 ≤ s * 256 := Nat.mul_le_mul_right _ h2
  rw [if_pos (by rw [List.length_drop, Nat.add_sub_cancel]; omega)]
theorem pages_ext {l m : List Int} {s : Nat} (hl : Pgd l s) (hm : Pgd m s) (h : ∀ n, 1 ≤ n → n ≤ s → pageOf l n = pageOf m n) : l = m := by
  have hl' : l.length = s * 256 := hl
  have hm' : m.length = s * 256 := hm
  apply List.ext_getElem
  · omega
  · intro i h1 h2
    have hn := h (i / 256 + 1) (by omega) (by omega)
    rw [pageOf_at hl (by omega) (by omega), pageOf_at hm (by omega) (by omega), Nat.add_sub_cancel] at hn
    have e := congrArg (fun q => q[i % 256]?) hn
    simp only [List.getElem?_take, List.getElem?_drop] at e
    rw [if_pos (Nat.mod_lt _ (by omega)), if_pos (Nat.mod_lt _ (by omega)), show i / 256 * 256 + i % 256 = i by omega, List.getElem?_eq_getElem h1, List.getElem?_eq_getElem h2] at e
    injection e
set_option maxRecDepth 100000 in
/-- a page put into a file of pages -/
theorem wr_page {l b : List Int} {s m : Nat} (h : Pgd l s) (hb : b.length = 256) (hm : m ≤ s) :
    Pgd (wrL l (m * 256) b) (max s (m + 1)) ∧ ∀ n, 1 ≤ n → n ≤ max s (m + 1) → pageOf (wrL l (m * 256) b) n = if n = m + 1 then b else pageOf l n := by
  have h' : l.length = s * 256 := h
  have hms : m * 256 ≤ s * 256 := Nat.mul_le_mul_right _ hm
  have hP : Pgd (wrL l (m * 256) b) (max s (m + 1)) := by
    unfold Pgd
    rw [wrL_len, hb, h']
    omega
  refine ⟨hP, fun n h1 h2 => ?_⟩
  have hsp : l = l.take (m * 256) ++ l.drop (m * 256) := (List.take_append_drop _ _).symm
  have hw : wrL l (m * 256) b = l.take (m * 256) ++ (b ++ l.drop (m * 256 + 256)) := by
    have e := wrL_app (l.take (m * 256)) (l.drop (m * 256)) b
    rw [← hsp, List.length_take, Nat.min_eq_left (by omega), hb, List.drop_drop] at e
    exact e
  rw [pageOf_at hP h1 h2]
  have htl : (l.take (m * 256)).length = m * 256 := by rw [List.length_take, Nat.min_eq_left (by omega)]
  split
  · rename_i he
    subst he
    rw [Nat.add_sub_cancel, hw, List.drop_left' htl, List.take_left' hb]
  · rename_i hne
    rcases Nat.lt_or_ge m (n - 1) with q | q
    · have hns : n ≤ s := by omega
      rw [pageOf_at h h1 hns, hw, ← List.append_assoc]
      have e2 : (n - 1) * 256 = (l.take (m * 256) ++ b).length + ((n - 1) * 256 - (m * 256 + 256)) := by
        rw [List.length_append, htl, hb]
        have : (m + 1) * 256 ≤ (n - 1) * 256 := Nat.mul_le_mul_right _ (by omega)
        omega
      conv => lhs; rw [e2, ← List.drop_drop, List.drop_left' rfl, List.drop_drop]
      have e3 : m * 256 + 256 + ((n - 1) * 256 - (m * 256 + 256)) = (n - 1) * 256 := by
        have : (m + 1) * 256 ≤ (n - 1) * 256 := Nat.mul_le_mul_right _ (by omega)
        omega
      rw [e3]
    · have hlt : n - 1 < m := by omega
      have hns : n ≤ s := by omega
      have hle : n * 256 ≤ m * 256 := Nat.mul_le_mul_right _ (by omega)
      have e0 : (n - 1) * 256 + 256 = n * 256 := by
        obtain ⟨j, rfl⟩ : ∃ j, n = j + 1 := ⟨n - 1, by omega⟩
        rw [Nat.add_sub_cancel]
        omega
      rw [pageOf_at h h1 hns, hw, List.drop_append_of_le_length (by rw [htl]; omega), List.take_append_of_le_length (by rw [List.length_drop, htl]; omega), List.drop_take, List.take_take, Nat.min_eq_left (by omega)]
/-- a file of pages cut -/
theorem cut_pages {l : List Int} {s c : Nat} (h : Pgd l s) (hc : c ≤ s) : Pgd (l.take (c * 256)) c ∧ ∀ n, 1 ≤ n → n ≤ c → pageOf (l.take (c * 256)) n = pageOf l n := by
  have h' : l.length = s * 256 := h
  have hcs : c * 256 ≤ s * 256 := Nat.mul_le_mul_right _ hc
  have hP : Pgd (l.take (c * 256)) c := by
    unfold Pgd
    rw [List.length_take, Nat.min_eq_left (by omega)]
  refine ⟨hP, fun n h1 h2 => ?_⟩
  have hle : n * 256 ≤ c * 256 := Nat.mul_le_mul_right _ h2
  have e0 : (n - 1) * 256 + 256 = n * 256 := by
    obtain ⟨j, rfl⟩ : ∃ j, n = j + 1 := ⟨n - 1, by omega⟩
    rw [Nat.add_sub_cancel]
    omega
  rw [pageOf_at hP h1 h2, pageOf_at h h1 (by omega), List.drop_take, List.take_take, Nat.min_eq_left (by omega)]
/-- what of a page's number lies among pages -/
def lookPg (l : List Pg) (n : Nat) : Option (List Int) := (l.find? fun x => decide (x.n = (n : Int))).map (·.b)
/-- each page is at most one behind the end -/
def SeqPg : Nat → List Pg → Prop
  | _, [] => True
  | s, x :: r => x.n ≤ (s : Int) + 1 ∧ SeqPg (max s x.n.toNat) r
def endPg : Nat → List Pg → Nat
  | s, [] => s
  | s, x :: r => endPg (max s x.n.toNat) r
end Go.Proofs.Ytegcbdfilkecpaa
