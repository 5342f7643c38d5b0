/- Texts of this proof, one behind the other: lemmas and contracts; each says its own conditions. -/
import Derived.Test.YtegcbdfilkecpaaM2
import Derived.Test.YtegcbdfilkecpaaM14
import Derived.Test.YtegcbdfilkecpaaM17
/- The journal: what pages are behind a change, as a list; condition: at most 5000 pages, their numbers in order. -/
namespace Go.Proofs.Ytegcbdfilkecpaa
open Go.RowKit

def zPg : List Int := zeros 256
/-- one page put into a list -/
def setPg (o : List (List Int)) (x : Pg) : List (List Int) := o.set (x.n.toNat - 1) x.b
def padPg (was : List (List Int)) (c : Nat) : List (List Int) := (was ++ List.replicate (c - was.length) zPg).take c
def afterL (was : List (List Int)) (c : Nat) (l : List Pg) : List (List Int) := l.foldl setPg (padPg was c)
theorem setPg_len (o : List (List Int)) (x : Pg) : (setPg o x).length = o.length := by simp [setPg]
theorem fold_len : ∀ (l : List Pg) (o : List (List Int)), (l.foldl setPg o).length = o.length
  | [], _ => rfl
  | x :: r, o => by rw [List.foldl_cons, fold_len r, setPg_len]
theorem padPg_len (was : List (List Int)) (c : Nat) : (padPg was c).length = c := by
  unfold padPg
  simp
  omega
theorem rawCells_app (a b : List (List Int)) : rawCells (a ++ b) = rawCells a ++ rawCells b := by unfold rawCells; rw [List.flatMap_append]
theorem rawCells_len : ∀ {l : List (List Int)}, rawOk l → (rawCells l).length = l.length * 256
  | [], _ => rfl
  | b :: r, h => by
    have h1 := (h b (List.mem_cons_self ..)).1
    have := rawCells_len (l := r) (fun y hy => h y (List.mem_cons_of_mem _ hy))
    unfold rawCells at this ⊢
    rw [List.flatMap_cons, List.length_append, List.length_map, h1, this, List.length_cons]
    omega
theorem rawCells_one (l : List (List Int)) : ∀ u ∈ rawCells l, u.oneCell' = true := by
  intro u hu
  unfold rawCells at hu
  obtain ⟨b, _, hb⟩ := List.mem_flatMap.1 hu
  exact u8_one b u hb
theorem zPg_ok : zPg.length = 256 ∧ ∀ y ∈ zPg, 0 ≤ y ∧ y < 256 := ⟨List.length_replicate .., zeros_rng 256⟩
theorem rawOk_rep {was : List (List Int)} (h : rawOk was) (j : Nat) : rawOk (was ++ List.replicate j zPg) := fun b hb => by
  rcases List.mem_append.1 hb with q | q
  · exact h b q
  · rw [List.eq_of_mem_replicate q]; exact zPg_ok
theorem own_cut {w : World} {base e size n c cap : Nat} {A : Option Addr} {xs : List Value} (h : w.ownsRow base e size (.slice A n cap) n xs) (hc : c ≤ n) : w.ownsRow base e size (.slice A c cap) c (xs.take (c * size)) := by
  have hl := h.1
  have hcs : c * size ≤ n * size := Nat.mul_le_mul_right _ hc
  refine ⟨by rw [List.length_take, hl]; omega, ?_⟩
  rcases h.2 with ⟨h0, h1⟩ | ⟨g, cap', cur, hv, hb, hh, h1, h2, h3, h4⟩
  · injection h0 with a b d
    subst a; subst b; subst d
    obtain rfl : c = 0 := by omega
    exact .inl ⟨rfl, rfl⟩
  · injection hv with a b d
    subst a; subst d
    refine .inr ⟨g, cap, cur, rfl, hb, hh, by omega, h2, h3, ?_⟩
    rw [← h4, List.take_take, Nat.min_eq_left hcs]
theorem rawCells_set {o : List (List Int)} (ho : rawOk o) {k : Nat} (hk : k < o.length) (b : List Int) : rawCells (o.set k b) = rawCells (o.take k) ++ b.map (Value.int .u8) ++ rawCells (o.drop (k + 1)) := by
  rw [List.set_eq_take_append_cons_drop, if_pos hk, rawCells_app]
  unfold rawCells
  rw [List.flatMap_cons, List.append_assoc]
theorem own_setPg {w : World} {base g c cap : Nat} {o : List (List Int)} (h : w.ownsRow base 24 256 (.slice (some ⟨g, 0, none⟩) c cap) c (rawCells o)) (ho : rawOk o) (hoc : o.length = c) {k : Nat} (hk : k < c) (b : List Int) (hb : b.length = 256) :
    (w.setCells g (k * 256) (b.map (Value.int .u8))).ownsRow base 24 256 (.slice (some ⟨g, 0, none⟩) c cap) c (rawCells (o.set k b)) ∧ w.there g (k * 256) 256 := by
  obtain ⟨g', ds, e, hg, hB, hfl, hcm⟩ := own_full h (by omega)
  injection e with e
  injection e with e
  subst e
  have hrl := rawCells_len ho
  have hsp : rawCells o = rawCells (o.take k) ++ (o[k]'(by omega)).map (Value.int .u8) ++ rawCells (o.drop (k + 1)) := by
    have := rawCells_set ho (by omega : k < o.length) (o[k]'(by omega))
    rwa [List.set_getElem_self] at this
  have hkk := (ho (o[k]'(by omega)) (List.getElem_mem _)).1
  have hot : rawOk (o.take k) := fun x hx => ho x (List.mem_of_mem_take hx)
  have htl : (rawCells (o.take k)).length = k * 256 := by rw [rawCells_len hot, List.length_take, Nat.min_eq_left (by omega)]
  have hB2 : Blk w g 24 (rawCells (o.take k) ++ (o[k]'(by omega)).map (Value.int .u8) ++ (rawCells (o.drop (k + 1)) ++ ds)).toArray := by
    rw [← List.append_assoc, ← hsp]
    exact hB
  have hB3 := hB2.cellsL (xs := b.map (Value.int .u8)) (k * 256) htl (by rw [List.length_map, List.length_map, hkk, hb])
  refine ⟨?_, hB2.there (by rw [List.size_toArray, List.length_append, List.length_append, htl, List.length_map, hkk]; omega)⟩
  have hos : rawOk (o.set k b) → True := fun _ => trivial
  have hl2 : (rawCells (o.set k b)).length = (rawCells o).length := by
    rw [rawCells_set ho (by omega) b, hsp]
    simp only [List.length_append, List.length_map, hkk, hb]
  refine own_of hg (ds := ds) ?_ (by rw [hl2, h.1]) (by rw [List.length_append, hl2, ← List.length_append]; exact hfl) (own_cap h) hcm
  rw [rawCells_set ho (by omega) b, List.append_assoc]
  exact hB3
theorem padPg_of {was : List (List Int)} {c j : Nat} (h1 : was.length + j ≤ max was.length c) (h2 : c ≤ was.length + j) : (was ++ List.replicate j zPg).take c = padPg was c := by
  unfold padPg
  have : j = c - was.length := by omega
  rw [this]
theorem rawCells_take {o : List (List Int)} (ho : rawOk o) (c : Nat) (hc : c ≤ o.length) : (rawCells o).take (c * 256) = rawCells (o.take c) := by
  have h1 : rawCells o = rawCells (o.take c) ++ rawCells (o.drop c) := by rw [← rawCells_app, List.take_append_drop]
  rw [h1]
  refine List.take_left' ?_
  rw [rawCells_len (fun x hx => ho x (List.mem_of_mem_take hx)), List.length_take, Nat.min_eq_left hc]
theorem padPg_ok {was : List (List Int)} (h : rawOk was) (c : Nat) : rawOk (padPg was c) := fun b hb => rawOk_rep h _ b (List.mem_of_mem_take hb)
theorem fold_ok : ∀ (l : List Pg) {o : List (List Int)}, rawOk o → (∀ x ∈ l, PgOk x) → rawOk (l.foldl setPg o)
  | [], _, h, _ => h
  | x :: r, o, h, hl => fold_ok r (fun b hb => by
    rcases List.mem_or_eq_of_mem_set hb with q | q
    · exact h b q
    · rw [q]; exact ⟨(hl x (List.mem_cons_self ..)).len, (hl x (List.mem_cons_self ..)).rng⟩) (fun y hy => hl y (List.mem_cons_of_mem _ hy))
/-- one of the pages, by its cells -/
theorem PgsAt.rg {w : World} {A : Option Addr} {n : Nat} {l : List Pg} (h : PgsAt w A n l) (k : Nat) (hk : k < n) {x : Pg} (hx : l[k]? = some x) : ∃ g o, A = some ⟨g, o, none⟩ ∧ g < w.heap.size ∧ w.cell? ⟨g, o + k * 257, none⟩ = some (.int .i64 x.n) ∧ w.rangeAt g (o + k * 257 + 1) (x.b.map (Value.int .u8)) := by
  obtain ⟨g, o, e, hg, hc⟩ := Rows.cell h (k := k) (x := pgL x) (by rw [List.getElem?_map, hx]; rfl)
  refine ⟨g, o, e, hg, hc 0 _ rfl, fun j v hj => ?_⟩
  have := hc (j + 1) v (by unfold pgL; rw [List.getElem?_cons_succ]; exact hj)
  rw [show o + k * 257 + 1 + j = o + k * 257 + (j + 1) by omega]
  exact this
section
attribute [local go_sem ↓] load26 store26 alloc26 build26 exSliceP1
def AfRel (w : World) (was : List (List Int)) (c : Nat) (v7 : Value) (wr : World) : Prop := ∃ j : Nat, was.length + j ≤ max was.length c ∧ OwnRaw wr w.heap.size v7 (was ++ List.replicate j zPg) ∧ Kp NoB w wr
def Af2Rel (w : World) (was : List (List Int)) (c : Nat) (l : List Pg) (v7 v8 : Value) (wr : World) : Prop := ∃ i : Nat, v8 = .int .i64 (i : Int) ∧ i ≤ l.length ∧ OwnRaw wr w.heap.size v7 ((l.take i).foldl setPg (padPg was c)) ∧ Kp NoB w wr
def lenOf : Value → Nat
  | .slice _ n _ => n
  | _ => 0
set_option maxRecDepth 100000 in
set_option maxHeartbeats 1600000 in
theorem after_q (w : World) (A B : Option Addr) (m n ca cb : Nat) (was : List (List Int)) (l : List Pg) (c : Nat) (ha : RawsAt w A m was) (hA : A = none → m = 0 ∧ ca = 0) (oka : rawOk was) (hb : PgsAt w B n l) (okb : ∀ x ∈ l, PgOk x ∧ 1 ≤ x.n ∧ x.n ≤ (c : Int)) (hm : m ≤ 5000) (hn : n ≤ 5000) (hc : c ≤ 5000) :
    Calls Try.prog 20 #[.slice A m ca, .int .i64 (c : Int), .slice B n cb] w fun e w' => ∃ v, e = .returned v ∧ OwnRaw w' w.heap.size v (afterL was c l) ∧ Kp NoB w w' := by
  have HA := Lib.hid ha
  have HAN := Lib.hid hA
  have OA := Lib.hid oka
  have HB := Lib.hid hb
  have OB := Lib.hid okb
  have LA := Lib.hid ha.len
  have LB := Lib.hid hb.len
  obtain ⟨j0, hj0, hy0, hy1, hy2⟩ := info_parts infoPg26
  have HJ0 := Lib.hid hj0
  have HY0 := Lib.hid hy0
  have HY1 := Lib.hid hy1
  have HY2 := Lib.hid hy2
  have HCZ : Hid ((Value.agg zero256).cells.size = 256) := Lib.hid (by rw [show (Value.agg zero256).cells = zero256 from rfl, zero256_eq, bytesV_size]; rfl)
  have HOWN : Hid ((w.alloc (.cells #[] 24)).ownsRow w.heap.size 24 256 (.slice (some ⟨w.heap.size, 0, none⟩) 0 0) 0 []) := Lib.hid ⟨rfl, .inr ⟨w.heap.size, 0, #[], rfl, Nat.le_refl _, heap_alloc_new _ _, Nat.le_refl _, by simp, rfl, rfl⟩⟩
  have HFL : Hid ((was.map fun (b : List Int) => b.map (Value.int .u8)).flatten = rawCells was) := Lib.hid (by unfold rawCells; rw [List.flatMap_def])
  clear ha hA oka hb okb hj0 hy0 hy1 hy2
  go_enter Try.func20, Try.ntmps20
  go_wp2_with (at_builtin; refine wpList_append_srcN rfl _ _ 38 rfl w.heap.size 24 j0 _ 256 256 Try.underlying38 HJ0.out HY0.out HY1.out HY2.out HCZ.out (by omega) _ 0 [] rfl HOWN.out A m ca (rawCells was) rfl HAN.out (by rw [rawCells_len OA.out, LA.out]) (fun hn => by have := (HA.out.keep ((Kp.refl NoB w).alloc (.cells #[] 24))).src hn (by omega); rw [HFL.out] at this; exact this) (rawCells_one was) (by unfold maxLen; omega) (by omega) (by simp) ?_; intro v1 w1 hown1 hgrow1; rw [Nat.zero_add, List.nil_append] at hown1; have HO1 := Lib.hid hown1; have hk1 := (((Kp.refl NoB w).alloc (.cells #[] 24)).own (v := .slice (some ⟨w.heap.size, 0, none⟩) 0 0) hgrow1 rfl HOWN.out); have HK1 := Lib.hid hk1; clear hown1 hgrow1 hk1)
  go_loopw [7] (fun v7 wr => AfRel w was c v7 wr) (fun v7 _ => c - lenOf v7)
  case atStart => exact ⟨0, by omega, ⟨by rw [List.replicate_zero, List.append_nil, LA.out]; exact HO1.out, by rw [List.replicate_zero, List.append_nil]; exact OA.out⟩, HK1.out⟩
  case round =>
    obtain ⟨j, hj, how, hkp⟩ := hrel
    have HOW := Lib.hid how
    have HKP := Lib.hid hkp
    obtain ⟨A7, c7, rfl⟩ := own_slice how.1
    have hll : (was ++ List.replicate j zPg).length = m + j := by rw [List.length_append, List.length_replicate, LA.out]
    rw [hll] at how ⊢
    have how1 := how.1
    rw [hll] at HOW
    have HOW1 := Lib.hid how1
    have HJ := Lib.hid hj
    have hj2 : m + j ≤ max m c := by have := LA.out; omega
    clear how how1 hkp hj
    by_cases hlt : m + j < c
    · have hii : ((m + j : Nat) : Int) < (c : Int) := by omega
      have o1 : ones zero256 := by rw [zero256_eq]; exact bytesV_one _
      have sz : zero256.size = 256 := by rw [zero256_eq, bytesV_size]; rfl
      obtain ⟨N, hN⟩ : ∃ N, m + j = N := ⟨_, rfl⟩
      rw [hN] at hii HOW HOW1 ⊢
      have HN := Lib.hid hN
      clear hN
      go_wp2_with fail
      have hcn := raw_new wr zPg
      refine wp_append_ownB (.tmp 16) (.tmp 18) 38 rfl w.heap.size 24 j0 _ 256 256 Try.underlying38 HJ0.out HY0.out HY1.out HY2.out HCZ.out (by omega) (.slice A7 N c7) N (rawCells (was ++ List.replicate j zPg)) rfl
        (own_keepB (by have := HOW1.out; rw [hll, HN.out] at this; exact this) ((Kp.refl NoB wr).alloc _) (fun _ _ q => q)) ⟨wr.heap.size, 0, none⟩ 1 1 (zPg.map (Value.int .u8)) rfl (by rw [List.length_map, zPg_ok.1]) hcn (u8_one zPg) (by have := HN.out; unfold maxLen; omega) (by have := HN.out; omega) (by have h1 := HKP.out.size; simp; omega) ?_
      intro v7 w7 hown7 hgrow7 hb7
      obtain ⟨A8, c8, rfl⟩ := own_slice hown7
      have hk7 := (HKP.out.alloc (.cells zero256 24)).own hgrow7 rfl HOW1.out
      have HK7 := Lib.hid hk7
      have HO7 := Lib.hid hown7
      clear hown7 hgrow7 hb7 hk7 hcn
      go_wp2_with fail
      refine ⟨⟨j + 1, by have := LA.out; have := HN.out; omega, ⟨?_, rawOk_rep OA.out _⟩, HK7.out⟩, by simp [lenOf]; omega⟩
      have h := HO7.out
      have e1 : was ++ List.replicate (j + 1) zPg = (was ++ List.replicate j zPg) ++ [zPg] := by rw [List.replicate_succ', List.append_assoc]
      have e2 : ((was ++ List.replicate j zPg) ++ [zPg]).length = N + 1 := by rw [List.length_append, hll, HN.out]; rfl
      rw [e1, e2, rawCells_app]
      unfold rawCells at h ⊢
      simpa using h
    · have hii : ¬ ((m + j : Nat) : Int) < (c : Int) := by omega
      have how2 := HOW1.out
      rw [hll] at how2
      have hcut := own_cut how2 (show c ≤ m + j by omega)
      rw [rawCells_take (rawOk_rep OA.out j) c (by rw [hll]; omega), padPg_of (by rw [LA.out]; exact hj2) (by rw [LA.out]; omega)] at hcut
      have HCUT := Lib.hid hcut
      have HC7 := Lib.hid (own_cap how2)
      have hle : (c : Int) ≤ (c7 : Int) := by have := own_cap how2; omega
      have hle2 : c ≤ c7 := by have := own_cap how2; omega
      clear hcut how2 HOW1
      obtain ⟨wq, rfl⟩ : ∃ wq, wq = wr := ⟨_, rfl⟩
      clear HOW HJ hj2 hlt hll HO1 HK1
      go_wp2_with fail
      go_loopw [8] (fun v8 wr => Af2Rel w was c l (.slice A7 c c7) v8 wr) (fun v8 _ => n - (intOf v8).toNat)
      case atStart => exact ⟨0, rfl, by omega, ⟨by rw [List.take_zero, List.foldl_nil, padPg_len]; exact HCUT.out, by rw [List.take_zero, List.foldl_nil]; exact padPg_ok OA.out c⟩, HKP.out⟩
      case round =>
        obtain ⟨k, rfl, hk, how, hkp⟩ := hrel
        have HOW := Lib.hid how
        have HKQ := Lib.hid hkp
        have hLB := LB.out
        obtain ⟨O, hO⟩ : ∃ O, (l.take k).foldl setPg (padPg was c) = O := ⟨_, rfl⟩
        have hOl : O.length = c := by rw [← hO, fold_len, padPg_len]
        rw [hO] at HOW
        have HOO := Lib.hid hO
        have HOL := Lib.hid hOl
        clear how hkp hO
        by_cases hlt : k < n
        · have hkk : (k : Int) < (n : Int) := by omega
          obtain ⟨x, hx⟩ : ∃ x, l[k]? = some x := ⟨_, List.getElem?_eq_getElem (by omega)⟩
          have hxo := OB.out x (List.mem_of_getElem? hx)
          obtain ⟨gb, ob, rfl, hgb, hcn, hcr⟩ := (HB.out.keep HKQ.out).rg k hlt hx
          obtain ⟨d, hd⟩ : ∃ d : Nat, x.n = (d : Int) + 1 := ⟨(x.n - 1).toNat, by omega⟩
          have hdc : d < c := by omega
          have hown := HOW.out.1
          rw [hOl] at hown
          obtain ⟨g, ds, e, hg, -, -, -⟩ := own_full hown (by omega)
          subst e
          obtain ⟨hown2, hth⟩ := own_setPg (w := wr.drew) hown HOW.out.2 hOl hdc x.b hxo.1.len
          have HOWN2 := Lib.hid hown2
          have HTH := Lib.hid hth
          have HG := Lib.hid hg
          have HX := Lib.hid hx
          have HXO := Lib.hid hxo
          have HD := Lib.hid hd
          rw [hd] at hcn
          clear hown hown2 hth hg hx hxo hd
          go_upto_region 8 with fail
          refine wp_region_held_drew (S := fun W' => W'.cell? ⟨gb, ob + k * 257, none⟩ = some (.int .i64 ((d : Int) + 1)) ∧ W'.rangeAt gb (ob + k * 257 + 1) (x.b.map (Value.int .u8))) (by kernel_rfl) ⟨hcn, hcr⟩ (fun hHeld => ?_)
          have hs0 : wr.drew.cell? ⟨gb, ob + k * 257, none⟩ = some (.int .i64 ((d : Int) + 1)) ∧ wr.drew.rangeAt gb (ob + k * 257 + 1) (x.b.map (Value.int .u8)) := ⟨hcn, hcr⟩
          have HK0 := Lib.hid (HKQ.out.drew)
          have HOWN3 : Hid ((wr.drew.setCells g (d * 256) (x.b.map (Value.int .u8))).ownsRow w.heap.size 24 256 (.slice (some ⟨g, 0, none⟩) c c7) c (rawCells (O.set d x.b))) := HOWN2
          have HTH3 : Hid (wr.drew.there g (d * 256) 256) := HTH
          have hne : gb ≠ g := fun e => by
            have h1 := HB.out.lt (g := gb) (o := ob) rfl (by omega)
            have h2 := HG.out
            omega
          have HNE := Lib.hid hne
          have hw1 : IntKind.i64.wrap (d : Int) = (d : Int) := by rw [IntKind.wrap_i64]; omega
          have hi8 : (Try.prog.info? 24).map (·.size) = some (x.b.map (Value.int .u8)).length := by rw [List.length_map, HXO.out.1.len]; exact info26
          have hu := Try.underlying24
          clear HOWN2 HTH hne
          generalize wr.drew = W0 at hs0 hHeld HK0 HOWN3 HTH3 ⊢
          refine wpAnyH_takeL (i := 0) (v := (.slice (some ⟨g, 0, none⟩) c c7)) rfl (by kernel_rfl) (by kernel_rfl) (by kernel_rfl) (fun _ _ _ h => h) (Or.inl ⟨by rfl, fun w' hq => by go_simp⟩) hs0 ?_
          simp only [Act.put, List.setIfInBounds_toArray, List.set_cons_zero, List.set_cons_succ]
          refine wpAnyH_takeL (i := 1) (v := (.slice (some ⟨gb, ob, none⟩) n cb)) rfl (by kernel_rfl) (by kernel_rfl) (by kernel_rfl) (fun _ _ _ h => h) (Or.inl ⟨by rfl, fun w' hq => by go_simp⟩) hs0 ?_
          simp only [Act.put, List.setIfInBounds_toArray, List.set_cons_zero, List.set_cons_succ]
          refine wpAnyH_takeL (i := 2) (v := (.int .i64 (k : Int))) rfl (by kernel_rfl) (by kernel_rfl) (by kernel_rfl) (fun _ _ _ h => h) (Or.inl ⟨by rfl, fun w' hq => by go_simp⟩) hs0 ?_
          simp only [Act.put, List.setIfInBounds_toArray, List.set_cons_zero, List.set_cons_succ]
          refine wpAnyH_takeL (i := 3) (v := (.pointer (some ⟨gb, ob + k * 257, none⟩))) rfl (by kernel_rfl) (by kernel_rfl) (by kernel_rfl) (fun _ _ _ h => h) (Or.inl ⟨by rfl, fun w' hq => by go_simp⟩) hs0 ?_
          simp only [Act.put, List.setIfInBounds_toArray, List.set_cons_zero, List.set_cons_succ]
          refine wpAnyH_takeL (i := 4) (v := (.pointer (some ⟨gb, ob + k * 257, none⟩))) rfl (by kernel_rfl) (by kernel_rfl) (by kernel_rfl) (fun _ _ _ h => h) (Or.inl ⟨by rfl, fun w' hq => by go_simp⟩) hs0 ?_
          simp only [Act.put, List.setIfInBounds_toArray, List.set_cons_zero, List.set_cons_succ]
          refine wpAnyH_takeL (i := 5) (v := .int .i64 ((d : Int) + 1)) rfl (by kernel_rfl) (by kernel_rfl) (by kernel_rfl) (fun _ _ _ h => h) (Or.inl ⟨by rfl, fun w' hq => by have hq1 := hq.1; clear hq; go_simp⟩) hs0 ?_
          simp only [Act.put, List.setIfInBounds_toArray, List.set_cons_zero, List.set_cons_succ]
          refine wpAnyH_takeL (i := 6) (v := (.int .i64 (d : Int))) rfl (by kernel_rfl) (by kernel_rfl) (by kernel_rfl) (fun _ _ _ h => h) (Or.inl ⟨by rfl, fun w' hq => by go_simp⟩) hs0 ?_
          simp only [Act.put, List.setIfInBounds_toArray, List.set_cons_zero, List.set_cons_succ]
          refine wpAnyH_takeL (i := 7) (v := (.slice (some ⟨gb, ob, none⟩) n cb)) rfl (by kernel_rfl) (by kernel_rfl) (by kernel_rfl) (fun _ _ _ h => h) (Or.inl ⟨by rfl, fun w' hq => by go_simp⟩) hs0 ?_
          simp only [Act.put, List.setIfInBounds_toArray, List.set_cons_zero, List.set_cons_succ]
          refine wpAnyH_takeL (i := 8) (v := (.int .i64 (k : Int))) rfl (by kernel_rfl) (by kernel_rfl) (by kernel_rfl) (fun _ _ _ h => h) (Or.inl ⟨by rfl, fun w' hq => by go_simp⟩) hs0 ?_
          simp only [Act.put, List.setIfInBounds_toArray, List.set_cons_zero, List.set_cons_succ]
          refine wpAnyH_takeL (i := 9) (v := (.pointer (some ⟨gb, ob + k * 257, none⟩))) rfl (by kernel_rfl) (by kernel_rfl) (by kernel_rfl) (fun _ _ _ h => h) (Or.inl ⟨by rfl, fun w' hq => by go_simp⟩) hs0 ?_
          simp only [Act.put, List.setIfInBounds_toArray, List.set_cons_zero, List.set_cons_succ]
          refine wpAnyH_takeL (i := 10) (v := (.pointer (some ⟨gb, ob + k * 257 + 1, none⟩))) rfl (by kernel_rfl) (by kernel_rfl) (by kernel_rfl) (fun _ _ _ h => h) (Or.inl ⟨by rfl, fun w' hq => by go_simp⟩) hs0 ?_
          simp only [Act.put, List.setIfInBounds_toArray, List.set_cons_zero, List.set_cons_succ]
          refine wpAnyH_takeL (i := 11) (v := .agg ((x.b.map (Value.int .u8))).toArray) rfl (by kernel_rfl) (by kernel_rfl) (by kernel_rfl) (fun _ _ _ h => h) (yieldsIf_load_mid (by rfl) _ _ rfl _ _ rfl (x.b.map (Value.int .u8)) _ (fun _ q => q.2) hu rfl hi8) hs0 ?_
          simp only [Act.put, List.setIfInBounds_toArray, List.set_cons_zero, List.set_cons_succ]
          refine wpAnyH_takeL (i := 12) (v := (.pointer (some ⟨g, d * 256, none⟩))) rfl (by kernel_rfl) (by kernel_rfl) (by kernel_rfl) (fun _ _ _ h => h) (Or.inl ⟨by rfl, fun w' hq => by go_simp⟩) hs0 ?_
          simp only [Act.put, List.setIfInBounds_toArray, List.set_cons_zero, List.set_cons_succ]
          refine wpAnyH_ready (rs := [13]) (by kernel_rfl) (by simp) ?_
          refine AllReadyH.storeL rfl (by rfl) g (d * 256) (x.b.map (Value.int .u8)).toArray (by rfl) (by rfl) (by rw [List.size_toArray, List.length_map, HXO.out.1.len]; exact HTH3.out) (by rw [List.size_toArray]; exact hi8) (bytesV_one x.b) ?_ ?_ AllReadyH.nil
          · have hne := HNE.out
            exact ⟨(cell_setCells_far g hne _ _ W0).trans hs0.1, fun j v hj => (cell_setCells_far g hne _ _ W0).trans (hs0.2 j v hj)⟩
          refine wpAnyH_done (by kernel_rfl) ?_ _
          have HKN := Lib.hid (Kp.setCells (.inl HG.out) (x.b.map (Value.int .u8)) (d * 256) _ HK0.out)
          clear hHeld hs0 hi8 hu HTH3
          generalize W0.setCells g (d * 256) (x.b.map (Value.int .u8)) = W1 at HOWN3 HKN ⊢
          go_wp2_with fail
          have hst : (l.take (k + 1)).foldl setPg (padPg was c) = O.set d x.b := by
            rw [List.take_add_one, HX.out, List.foldl_append, HOO.out]
            show setPg O x = _
            unfold setPg
            rw [show x.n.toNat - 1 = d by have := HD.out; omega]
          have hok2 : rawOk (O.set d x.b) := fun b hb => by
            rcases List.mem_or_eq_of_mem_set hb with q | q
            · exact HOW.out.2 b q
            · rw [q]; exact ⟨HXO.out.1.len, HXO.out.1.rng⟩
          refine ⟨⟨k + 1, by congr 1, by omega, ⟨?_, by rw [hst]; exact hok2⟩, HKN.out⟩, by simp [intOf]; omega⟩
          rw [hst, List.length_set, hOl]
          exact HOWN3.out
        · have hkk : ¬ (k : Int) < (n : Int) := by omega
          obtain rfl : k = n := by omega
          go_wp2_with fail
          go_ret
          have h1 := HOO.out
          rw [List.take_of_length_le (by rw [LB.out]; exact Nat.le_refl _)] at h1
          unfold afterL
          rw [h1]
          refine ⟨_, rfl, ⟨?_, HOW.out.2⟩, HKQ.out⟩
          exact HOW.out.1
end
end Go.Proofs.Ytegcbdfilkecpaa
/- The journal: the pages of a change; no condition but on the bytes' length and the old count. -/
namespace Go.Proofs.Ytegcbdfilkecpaa
open Go.RowKit

/-- a row of bytes of the caller -/
def Bs (w : World) (A : Option Addr) (n : Nat) (bs : List Int) : Prop := bs.length = n ∧ (∀ y ∈ bs, 0 ≤ y ∧ y < 256) ∧ ∀ k y, bs[k]? = some y → ∃ g o, A = some ⟨g, o, none⟩ ∧ g < w.heap.size ∧ w.cell? ⟨g, o + k, none⟩ = some (.int .u8 y)
theorem Bs.keep {w w' : World} {A : Option Addr} {n : Nat} {bs : List Int} (h : Bs w A n bs) (k : Kp NoB w w') : Bs w' A n bs :=
  ⟨h.1, h.2.1, fun j y hy => by
    obtain ⟨g, o, e, hg, hc⟩ := h.2.2 j y hy
    exact ⟨g, o, e, Nat.lt_of_lt_of_le hg k.size, (k.cell hg (fun q => q)).trans hc⟩⟩
/-- the page of number j + 1 that a change writes -/
def chPg (bs : List Int) (old j : Nat) : List Pg :=
  if j < bs.length ∧ bs.getD j 0 ≠ 0 then [⟨(j : Int) + 1, fullL (bs.getD j 0)⟩] else if old ≤ j then [⟨(j : Int) + 1, fullL 255⟩] else []
def chPgs (bs : List Int) (old : Nat) : Nat → List Pg
  | 0 => []
  | j + 1 => chPgs bs old j ++ chPg bs old j
theorem chPg_len (bs : List Int) (old j : Nat) : (chPg bs old j).length ≤ 1 := by 
    unfold chPg
    split
    · simp
    · split <;> simp
theorem chPgs_len (bs : List Int) (old : Nat) : ∀ j, (chPgs bs old j).length ≤ j
  | 0 => Nat.le_refl _
  | j + 1 => by
    have := chPgs_len bs old j
    have := chPg_len bs old j
    unfold chPgs
    rw [List.length_append]
    omega
theorem full_pg {n y : Int} (hn : -9223372036854775808 ≤ n ∧ n ≤ 9223372036854775807) (hy : 0 ≤ y ∧ y < 256) : PgOk ⟨n, fullL y⟩ := ⟨List.length_replicate .., fun z hz => by rw [List.eq_of_mem_replicate hz]; exact hy, hn⟩
theorem and15 (C : Int) : ∃ N : Nat, N ≤ 15 ∧ bits BinOp.and IntKind.i64 C 15 = (N : Int) := by
  have e : bits BinOp.and IntKind.i64 C 15 = IntKind.i64.wrap ((BitVec.ofInt 64 C &&& BitVec.ofInt 64 15).toNat) := rfl
  have h : (BitVec.ofInt 64 C &&& BitVec.ofInt 64 15).toNat ≤ 15 := by
    rw [BitVec.toNat_and]
    exact Nat.and_le_right
  refine ⟨(BitVec.ofInt 64 C &&& BitVec.ofInt 64 15).toNat, h, ?_⟩
  rw [e, IntKind.wrap_i64]
  omega
theorem own_low {w : World} {a b e size n : Nat} {v : Value} {xs : List Value} (h : w.ownsRow b e size v n xs) (hab : a ≤ b) : w.ownsRow a e size v n xs := by
  refine ⟨h.1, ?_⟩
  rcases h.2 with hn | ⟨g, cap, cur, hv, hb, rest⟩
  · exact .inl hn
  · exact .inr ⟨g, cap, cur, hv, Nat.le_trans hab hb, rest⟩
def PaRel (w1 : World) (bs : List Int) (old N : Nat) (v7 v8 : Value) (wr : World) : Prop := ∃ j : Nat, v8 = .int .i64 ((j : Int) + 1) ∧ j ≤ N ∧ OwnPgs wr w1.heap.size v7 (chPgs bs old j) ∧ Kp NoB w1 wr
section
attribute [local go_sem ↓] loadPg storePg allocPg exSlicePg
set_option maxRecDepth 100000 in
set_option maxHeartbeats 6000000 in
theorem pages_q (w : World) (C : Int) (A : Option Addr) (nb cb : Nat) (bs : List Int) (hb : Bs w A nb bs) (hnb : nb ≤ 9223372036854775807) (old : Nat) (hold : old ≤ 4096) :
    Calls Try.prog 19 #[.agg #[.int .i64 C, .slice A nb cb], .int .i64 (old : Int)] w fun e w' => ∃ (N : Nat) (v : Value), N ≤ 15 ∧ e = .returned (.tuple #[.int .i64 (N : Int), v]) ∧ OwnPgs w' w.heap.size v (chPgs bs old N) ∧ Kp NoB w w' := by
  have hkb : Kp NoB w (w.alloc (.cells #[.int .i64 C, .slice A nb cb] 44)) := (Kp.refl _ _).alloc _
  have hbd : Blk (w.alloc (.cells #[.int .i64 C, .slice A nb cb] 44)) w.heap.size 44 #[.int .i64 C, .slice A nb cb] := Blk.new _ _ _
  obtain ⟨w1, hw1⟩ : ∃ w1, w.alloc (.cells #[.int .i64 C, .slice A nb cb] 44) = w1 := ⟨_, rfl⟩
  have hs1 : w1.heap.size = w.heap.size + 1 := by rw [← hw1]; simp
  rw [hw1] at hkb hbd
  have HKB := Lib.hid hkb
  have HBD := Lib.hid hbd
  have HB := Lib.hid (hb.keep hkb)
  have HS1 := Lib.hid hs1
  have LB := Lib.hid hb.1
  have c0 : w1.cell? ⟨w.heap.size, 0, none⟩ = some (.int .i64 C) := hbd.cell 0
  have c1 : w1.cell? ⟨w.heap.size, 1, none⟩ = some (.slice A nb cb) := hbd.cell 1
  obtain ⟨N, hN, hbits⟩ := and15 C
  obtain ⟨j0, hj0, hy0, hy1, hy2⟩ := info_parts infoPgA
  have HJ0 := Lib.hid hj0
  have HY0 := Lib.hid hy0
  have HY1 := Lib.hid hy1
  have HY2 := Lib.hid hy2
  have l255 : (fullL 255).length = 256 := List.length_replicate ..
  clear hkb hbd hb hs1 hj0 hy0 hy1 hy2
  go_enter Try.func19, Try.ntmps19
  go_wp2_with fail
  go_loopw [7, 8] (fun v7 v8 wr => PaRel w1 bs old N v7 v8 wr) (fun _ v _ => N + 1 - (intOf v).toNat)
  case atStart => exact ⟨0, rfl, Nat.zero_le _, ⟨World.ownsRow_nil _ _ _ _, by simp [chPgs]⟩, Kp.refl _ _⟩
  case round =>
    obtain ⟨wq, rfl⟩ : ∃ wq, wq = wr := ⟨_, rfl⟩
    obtain ⟨j, rfl, hj, how, hkp⟩ := hrel
    have HOW := Lib.hid how
    have HKP := Lib.hid hkp
    have c1 : wq.cell? ⟨w.heap.size, 1, none⟩ = some (.slice A nb cb) := by rw [hkp.cell HBD.out.lt (fun q => q)]; exact c1
    obtain ⟨A7, c7, rfl⟩ := own_slice how.1
    have hcl := chPgs_len bs old j
    obtain ⟨L, hL⟩ : ∃ L, chPgs bs old j = L := ⟨_, rfl⟩
    obtain ⟨nl, hnl⟩ : ∃ nl, L.length = nl := ⟨_, rfl⟩
    rw [hL] at HOW hcl ⊢
    rw [hnl] at hcl ⊢
    have HL := Lib.hid hL
    have HNL := Lib.hid hnl
    clear how hkp hL hnl
    by_cases hlt : j < N
    · have hkk : (j : Int) + 1 ≤ (N : Int) := by omega
      have hw0 : IntKind.i64.wrap (j : Int) = (j : Int) := by rw [IntKind.wrap_i64]; omega
      by_cases hin : j < nb
      · have hii : (j : Int) + 1 ≤ (nb : Int) := by omega
        obtain ⟨y, hy⟩ : ∃ y, bs[j]? = some y := ⟨_, List.getElem?_eq_getElem (by have := LB.out; omega)⟩
        have hyr := HB.out.2.1 y (List.mem_of_getElem? hy)
        have hgd : bs.getD j 0 = y := by rw [List.getD_eq_getElem?_getD, hy]; rfl
        obtain ⟨g, o, e, hg, hc⟩ := (HB.out.keep HKP.out).2.2 j y hy
        subst e
        have HGD := Lib.hid hgd
        have HYR := Lib.hid hyr
        have l1 : (fullL y).length = 256 := List.length_replicate ..
        clear hgd hyr hy
        by_cases hz : y = 0
        · have hz1 : (y != 0) = false := by rw [hz]; rfl
          have hz2 : (y == 0) = true := by rw [hz]; rfl
          have HZ := Lib.hid hz
          subst hz
          by_cases ho : old ≤ j
          · have hoo : (old : Int) < (j : Int) + 1 := by omega
            go_wp2_with fail
            refine (full_ok wq 255).mono ?_
            rintro e w2 ⟨rfl, hk2⟩
            have HK2 := Lib.hid hk2
            have s1 : (pgA ⟨(j : Int) + 1, fullL 255⟩).size = 257 := by unfold pgA pgL; rw [List.size_toArray, List.length_cons, List.length_map, l255]
            have ok1 : PgOk ⟨(j : Int) + 1, fullL 255⟩ := full_pg (by omega) (by omega)
            have OK1 := Lib.hid ok1
            clear hk2 ok1
            go_wp2_with (show wpList _ _ _ (⟨some 49, _, _, _, _, _⟩ :: _) _ _; refine wpList_val _ (exBuildPg2 _ _ _ _ ((j : Int) + 1) (fullL 255) l255 _ _ _ _ _ rfl rfl) ?_)
            have hcn := pg_new w2 ⟨(j : Int) + 1, fullL 255⟩
            have how3 := HOW.out.1
            rw [HNL.out] at how3
            refine wp_append_ownB (.tmp 46) (.tmp 50) 22 rfl w1.heap.size 113 j0 _ 257 264 Try.underlying22 HJ0.out HY0.out HY1.out HY2.out rfl (by omega) (.slice A7 nl c7) nl (pgsCells L) rfl
              (own_keepB how3 (HK2.out.alloc _) (fun _ _ q => q)) ⟨w2.heap.size, 0, none⟩ 1 1 (pgL ⟨(j : Int) + 1, fullL 255⟩) rfl (pgL_len OK1.out) hcn (pgL_one _) (by unfold maxLen; omega) (by omega)
              (by have h1 := HKP.out.size; have h2 := HK2.out.size; simp; omega) ?_
            intro v7 w7 hown7 hgrow7 hb7
            obtain ⟨A8, c8, rfl⟩ := own_slice hown7
            have hk7 := ((HKP.out.trans HK2.out (fun _ _ q => q)).alloc (.cells (pgA ⟨(j : Int) + 1, fullL 255⟩) 113)).own hgrow7 rfl how3
            have HK7 := Lib.hid hk7
            have HO7 := Lib.hid hown7
            clear hown7 hgrow7 hb7 hk7 hcn how3
            go_wp2_with fail
            have hce : chPg bs old j = [⟨(j : Int) + 1, fullL 255⟩] := by unfold chPg; rw [if_neg (by rw [HGD.out]; simp), if_pos ho]
            refine ⟨⟨j + 1, by congr 1, by omega, ⟨?_, ?_⟩, HK7.out⟩, by simp [intOf]; omega⟩
            · have := HO7.out
              unfold chPgs
              rw [HL.out, hce, List.length_append, HNL.out]
              unfold pgsCells at this ⊢
              rw [List.flatMap_append]
              simpa using this
            · intro z hz
              unfold chPgs at hz
              rw [HL.out, hce] at hz
              rcases List.mem_append.1 hz with q | q
              · exact HOW.out.2 z q
              · rw [List.mem_singleton.1 q]; exact OK1.out
          · have hoo : ¬ (old : Int) < (j : Int) + 1 := by omega
            go_wp2_with fail
            have hce : chPg bs old j = [] := by unfold chPg; rw [if_neg (by rw [HGD.out]; simp), if_neg ho]
            refine ⟨⟨j + 1, by congr 1, by omega, ?_, HKP.out⟩, by simp [intOf]; omega⟩
            unfold chPgs
            rw [HL.out, hce, List.append_nil]
            exact ⟨by have := HOW.out.1; rw [HNL.out] at this ⊢; exact this, HOW.out.2⟩
        · have hz1 : (y != 0) = true := by simpa using hz
          have hz2 : (y == 0) = false := by simpa using hz
          go_wp2_with fail
          refine (full_ok wq y).mono ?_
          rintro e w2 ⟨rfl, hk2⟩
          have HK2 := Lib.hid hk2
          have s1 : (pgA ⟨(j : Int) + 1, fullL y⟩).size = 257 := by unfold pgA pgL; rw [List.size_toArray, List.length_cons, List.length_map, l1]
          have ok1 : PgOk ⟨(j : Int) + 1, fullL y⟩ := full_pg (by omega) HYR.out
          have OK1 := Lib.hid ok1
          clear hk2 ok1
          go_wp2_with (show wpList _ _ _ (⟨some 40, _, _, _, _, _⟩ :: _) _ _; refine wpList_val _ (exBuildPg2 _ _ _ _ ((j : Int) + 1) (fullL y) l1 _ _ _ _ _ rfl rfl) ?_)
          have hcn := pg_new w2 ⟨(j : Int) + 1, fullL y⟩
          have how3 := HOW.out.1
          rw [HNL.out] at how3
          refine wp_append_ownB (.tmp 31) (.tmp 41) 22 rfl w1.heap.size 113 j0 _ 257 264 Try.underlying22 HJ0.out HY0.out HY1.out HY2.out rfl (by omega) (.slice A7 nl c7) nl (pgsCells L) rfl
            (own_keepB how3 (HK2.out.alloc _) (fun _ _ q => q)) ⟨w2.heap.size, 0, none⟩ 1 1 (pgL ⟨(j : Int) + 1, fullL y⟩) rfl (pgL_len OK1.out) hcn (pgL_one _) (by unfold maxLen; omega) (by omega)
            (by have h1 := HKP.out.size; have h2 := HK2.out.size; simp; omega) ?_
          intro v7 w7 hown7 hgrow7 hb7
          obtain ⟨A8, c8, rfl⟩ := own_slice hown7
          have hk7 := ((HKP.out.trans HK2.out (fun _ _ q => q)).alloc (.cells (pgA ⟨(j : Int) + 1, fullL y⟩) 113)).own hgrow7 rfl how3
          have HK7 := Lib.hid hk7
          have HO7 := Lib.hid hown7
          clear hown7 hgrow7 hb7 hk7 hcn how3
          go_wp2_with fail
          have hce : chPg bs old j = [⟨(j : Int) + 1, fullL y⟩] := by unfold chPg; rw [if_pos ⟨by rw [LB.out]; exact hin, by rw [HGD.out]; exact hz⟩, HGD.out]
          refine ⟨⟨j + 1, by congr 1, by omega, ⟨?_, ?_⟩, HK7.out⟩, by simp [intOf]; omega⟩
          · have := HO7.out
            unfold chPgs
            rw [HL.out, hce, List.length_append, HNL.out]
            unfold pgsCells at this ⊢
            rw [List.flatMap_append]
            simpa using this
          · intro z hz
            unfold chPgs at hz
            rw [HL.out, hce] at hz
            rcases List.mem_append.1 hz with q | q
            · exact HOW.out.2 z q
            · rw [List.mem_singleton.1 q]; exact OK1.out
      · have hii : ¬ (j : Int) + 1 ≤ (nb : Int) := by omega
        by_cases ho : old ≤ j
        · have hoo : (old : Int) < (j : Int) + 1 := by omega
          go_wp2_with fail
          refine (full_ok wq 255).mono ?_
          rintro e w2 ⟨rfl, hk2⟩
          have HK2 := Lib.hid hk2
          have s1 : (pgA ⟨(j : Int) + 1, fullL 255⟩).size = 257 := by unfold pgA pgL; rw [List.size_toArray, List.length_cons, List.length_map, l255]
          have ok1 : PgOk ⟨(j : Int) + 1, fullL 255⟩ := full_pg (by omega) (by omega)
          have OK1 := Lib.hid ok1
          clear hk2 ok1
          go_wp2_with (show wpList _ _ _ (⟨some 49, _, _, _, _, _⟩ :: _) _ _; refine wpList_val _ (exBuildPg2 _ _ _ _ ((j : Int) + 1) (fullL 255) l255 _ _ _ _ _ rfl rfl) ?_)
          have hcn := pg_new w2 ⟨(j : Int) + 1, fullL 255⟩
          have how3 := HOW.out.1
          rw [HNL.out] at how3
          refine wp_append_ownB (.tmp 46) (.tmp 50) 22 rfl w1.heap.size 113 j0 _ 257 264 Try.underlying22 HJ0.out HY0.out HY1.out HY2.out rfl (by omega) (.slice A7 nl c7) nl (pgsCells L) rfl
            (own_keepB how3 (HK2.out.alloc _) (fun _ _ q => q)) ⟨w2.heap.size, 0, none⟩ 1 1 (pgL ⟨(j : Int) + 1, fullL 255⟩) rfl (pgL_len OK1.out) hcn (pgL_one _) (by unfold maxLen; omega) (by omega)
            (by have h1 := HKP.out.size; have h2 := HK2.out.size; simp; omega) ?_
          intro v7 w7 hown7 hgrow7 hb7
          obtain ⟨A8, c8, rfl⟩ := own_slice hown7
          have hk7 := ((HKP.out.trans HK2.out (fun _ _ q => q)).alloc (.cells (pgA ⟨(j : Int) + 1, fullL 255⟩) 113)).own hgrow7 rfl how3
          have HK7 := Lib.hid hk7
          have HO7 := Lib.hid hown7
          clear hown7 hgrow7 hb7 hk7 hcn how3
          go_wp2_with fail
          have hce : chPg bs old j = [⟨(j : Int) + 1, fullL 255⟩] := by unfold chPg; rw [if_neg (by rw [LB.out]; omega), if_pos ho]
          refine ⟨⟨j + 1, by congr 1, by omega, ⟨?_, ?_⟩, HK7.out⟩, by simp [intOf]; omega⟩
          · have := HO7.out
            unfold chPgs
            rw [HL.out, hce, List.length_append, HNL.out]
            unfold pgsCells at this ⊢
            rw [List.flatMap_append]
            simpa using this
          · intro z hz
            unfold chPgs at hz
            rw [HL.out, hce] at hz
            rcases List.mem_append.1 hz with q | q
            · exact HOW.out.2 z q
            · rw [List.mem_singleton.1 q]; exact OK1.out
        · have hoo : ¬ (old : Int) < (j : Int) + 1 := by omega
          go_wp2_with fail
          have hce : chPg bs old j = [] := by unfold chPg; rw [if_neg (by rw [LB.out]; omega), if_neg ho]
          refine ⟨⟨j + 1, by congr 1, by omega, ?_, HKP.out⟩, by simp [intOf]; omega⟩
          unfold chPgs
          rw [HL.out, hce, List.append_nil]
          exact ⟨by have := HOW.out.1; rw [HNL.out] at this ⊢; exact this, HOW.out.2⟩
    · have hkk : ¬ (j : Int) + 1 ≤ (N : Int) := by omega
      obtain rfl : j = N := by omega
      go_wp2_with fail
      go_ret2
      have hs9 := HS1.out
      refine ⟨j, hN, _, rfl, ⟨own_low ?_ (show w.heap.size ≤ w1.heap.size by omega), ?_⟩, HKB.out.trans HKP.out (fun _ _ q => q)⟩
      · rw [HL.out, HNL.out]
        have := HOW.out.1
        rw [HNL.out] at this
        exact this
      · rw [HL.out]; exact HOW.out.2
end
end Go.Proofs.Ytegcbdfilkecpaa
/- The journal: the pages of a change fit, and what is behind them, in plain Lean. -/
namespace Go.Proofs.Ytegcbdfilkecpaa

theorem chPg_n {bs : List Int} {old j : Nat} {x : Pg} (h : x ∈ chPg bs old j) : x.n = (j : Int) + 1 := by
  unfold chPg at h
  split at h
  · rw [List.mem_singleton.1 h]
  · split at h
    · rw [List.mem_singleton.1 h]
    · cases h
theorem chPgs_n {bs : List Int} {old : Nat} : ∀ {j : Nat} {x : Pg}, x ∈ chPgs bs old j → 1 ≤ x.n ∧ x.n ≤ (j : Int)
  | 0, x, h => by cases h
  | j + 1, x, h => by
    unfold chPgs at h
    rcases List.mem_append.1 h with q | q
    · have := chPgs_n q
      omega
    · have := chPg_n q
      omega
theorem chPgs_ok {bs : List Int} (hb : ∀ y ∈ bs, 0 ≤ y ∧ y < 256) {old : Nat} : ∀ {j : Nat}, j ≤ 15 → ∀ x ∈ chPgs bs old j, PgOk x
  | 0, _, x, h => by cases h
  | j + 1, hj, x, h => by
    unfold chPgs at h
    rcases List.mem_append.1 h with q | q
    · exact chPgs_ok hb (by omega) x q
    · unfold chPg at q
      split at q
      · rename_i hc
        rw [List.mem_singleton.1 q]
        refine full_pg (by omega) (hb _ ?_)
        rw [List.getD_eq_getElem?_getD, List.getElem?_eq_getElem hc.1]
        exact List.getElem_mem _
      · split at q
        · rw [List.mem_singleton.1 q]
          exact full_pg (by omega) (by omega)
        · cases q
/-- every page above the old count is written -/
theorem chPgs_new {bs : List Int} {old : Nat} : ∀ {N j : Nat}, old ≤ j → j < N → ∃ x ∈ chPgs bs old N, x.n = (j : Int) + 1
  | 0, j, _, h => by omega
  | N + 1, j, ho, h => by
    by_cases e : j = N
    · subst e
      obtain ⟨x, hx⟩ : ∃ x, x ∈ chPg bs old j := by
        unfold chPg
        by_cases q : j < bs.length ∧ bs.getD j 0 ≠ 0
        · rw [if_pos q]; exact ⟨_, List.mem_singleton.2 rfl⟩
        · rw [if_neg q, if_pos ho]; exact ⟨_, List.mem_singleton.2 rfl⟩
      exact ⟨x, by unfold chPgs; exact List.mem_append_right _ hx, chPg_n hx⟩
    · obtain ⟨x, hx, hn⟩ := chPgs_new (bs := bs) (old := old) (N := N) ho (by omega)
      exact ⟨x, by unfold chPgs; exact List.mem_append_left _ hx, hn⟩
theorem chain_app (c : Int) : ∀ (l m : List Pg) (last : Int), chainPg c last l = true → (∀ x ∈ l, ∀ y ∈ m, x.n < y.n) → (∀ y ∈ m, last < y.n) → (m.length ≤ 1) → (∀ y ∈ m, y.n ≤ c) → chainPg c last (l ++ m) = true
  | [], m, last, _, _, h2, h3, h4 => by
    rcases m with _ | ⟨y, _ | ⟨z, r⟩⟩
    · rfl
    · rw [List.nil_append]
      unfold chainPg
      rw [decide_eq_true ⟨h2 y (List.mem_cons_self ..), h4 y (List.mem_cons_self ..)⟩]
      rfl
    · simp at h3
  | x :: r, m, last, h, h1, h2, h3, h4 => by
    rw [List.cons_append]
    unfold chainPg at h ⊢
    rw [Bool.and_eq_true] at h ⊢
    exact ⟨h.1, chain_app c r m x.n h.2 (fun a ha => h1 a (List.mem_cons_of_mem _ ha)) (fun y hy => h1 x (List.mem_cons_self ..) y hy) h3 h4⟩
theorem chPgs_chain (bs : List Int) (old : Nat) (c : Nat) : ∀ j : Nat, j ≤ c → chainPg (c : Int) 0 (chPgs bs old j) = true
  | 0, _ => rfl
  | j + 1, hj => by
    unfold chPgs
    refine chain_app _ _ _ _ (chPgs_chain bs old c j (by omega)) (fun x hx y hy => ?_) (fun y hy => ?_) (chPg_len bs old j) (fun y hy => ?_)
    · have := chPgs_n hx; have := chPg_n hy; omega
    · have := chPg_n hy; omega
    · have := chPg_n hy; omega
theorem chPgs_above (bs : List Int) (old : Nat) : ∀ j : Nat, above (old : Int) (chPgs bs old j) = j - old
  | 0 => by simp [chPgs, above]
  | j + 1 => by
    have ih := chPgs_above bs old j
    unfold above at ih ⊢
    unfold chPgs
    rw [List.countP_append, ih]
    unfold chPg
    by_cases ho : old ≤ j
    · have hd : decide ((old : Int) < (j : Int) + 1) = true := decide_eq_true (by omega)
      by_cases q : j < bs.length ∧ bs.getD j 0 ≠ 0
      · rw [if_pos q]; simp only [List.countP_cons, List.countP_nil, hd, if_true]; omega
      · rw [if_neg q, if_pos ho]; simp only [List.countP_cons, List.countP_nil, hd, if_true]; omega
    · have hd : decide ((old : Int) < (j : Int) + 1) = false := decide_eq_false (by omega)
      by_cases q : j < bs.length ∧ bs.getD j 0 ≠ 0
      · rw [if_pos q]; simp only [List.countP_cons, List.countP_nil, hd]; simp; omega
      · rw [if_neg q, if_neg ho, List.countP_nil]; omega
theorem fit_ch (bs : List Int) (old N : Nat) (hN : N ≤ 15) : fitPg (old : Int) (N : Int) (chPgs bs old N) = true := by
  unfold fitPg
  rw [decide_eq_true (by omega), chPgs_chain bs old N N (Nat.le_refl _), chPgs_above]
  simp
  omega
theorem fold_pgs (c : Nat) : ∀ (l : List Pg) (f : Nat → List Int), (∀ x ∈ l, 1 ≤ x.n ∧ x.n ≤ (c : Int)) → l.foldl setPg ((List.range' 1 c).map f) = (List.range' 1 c).map (pgsF f l)
  | [], f, _ => rfl
  | x :: r, f, h => by
    have hx := h x (List.mem_cons_self ..)
    have e : setPg ((List.range' 1 c).map f) x = (List.range' 1 c).map (fun (n : Nat) => if (n : Int) = x.n then x.b else f n) := by
      unfold setPg
      refine List.ext_getElem (by simp) (fun i h1 h2 => ?_)
      rw [List.getElem_set, List.getElem_map, List.getElem_map, List.getElem_range']
      by_cases q : x.n.toNat - 1 = i
      · rw [if_pos q, if_pos (by omega)]
      · rw [if_neg q, if_neg (by omega)]
    rw [List.foldl_cons, e, fold_pgs c r _ (fun y hy => h y (List.mem_cons_of_mem _ hy))]
    rfl
theorem pgsF_hit : ∀ (l : List Pg) (f g : Nat → List Int) (n : Nat), (∃ x ∈ l, x.n = (n : Int)) → pgsF f l n = pgsF g l n
  | [], f, g, n, h => by obtain ⟨x, hx, _⟩ := h; cases hx
  | x :: r, f, g, n, h => by
    unfold pgsF
    by_cases q : x.n = (n : Int)
    · exact pgsF_congr r _ _ n (by rw [if_pos q.symm, if_pos q.symm])
    · refine pgsF_hit r _ _ n ?_
      obtain ⟨y, hy, e⟩ := h
      rcases List.mem_cons.1 hy with z | z
      · subst z; exact absurd e q
      · exact ⟨y, z, e⟩
theorem pad_map (db : List Int) (s c : Nat) : padPg (allPg db s) c = (List.range' 1 c).map fun n => if n ≤ s then pageOf db n else zPg := by
  unfold padPg allPg
  refine List.ext_getElem (by simp; omega) (fun i h1 h2 => ?_)
  have hi : i < c := by simpa using h2
  rw [List.getElem_take, List.getElem_map, List.getElem_range']
  by_cases q : i < s
  · rw [List.getElem_append_left (by simpa using q), List.getElem_map, List.getElem_range', if_pos (by omega)]
  · rw [List.getElem_append_right (by simpa using q), List.getElem_replicate, if_neg (by omega)]
theorem after_all (db db2 : List Int) (bs : List Int) (s N : Nat) (h : ∀ n, 1 ≤ n → n ≤ N → pageOf db2 n = pgsF (pageOf db) (chPgs bs s N) n) : afterL (allPg db s) N (chPgs bs s N) = allPg db2 N := by
  unfold afterL
  rw [pad_map, fold_pgs N _ _ (fun x hx => chPgs_n hx)]
  unfold allPg
  refine List.map_congr_left (fun n hn => ?_)
  have hn1 : 1 ≤ n ∧ n ≤ N := by
    have := List.mem_range'.1 hn
    omega
  rw [h n hn1.1 hn1.2]
  by_cases q : n ≤ s
  · exact pgsF_congr _ _ _ n (by rw [if_pos q])
  · refine pgsF_hit _ _ _ n ?_
    obtain ⟨x, hx, e⟩ := chPgs_new (bs := bs) (old := s) (N := N) (j := n - 1) (by omega) (by omega)
    exact ⟨x, hx, by omega⟩
theorem recsPg_len (l : List Int) (top : Int) : ∀ (i k : Nat) (last : Int) (r : List Pg), recsPg l top i k last = some r → r.length = i
  | 0, k, last, r, h => by unfold recsPg at h; injection h with h; rw [← h]; rfl
  | i + 1, k, last, r, h => by
    rw [recsPg_succ] at h
    split at h
    · cases h
    · split at h
      · cases hq : recsPg l top i (k + 1) (num ((l.drop (64 + 320 * k)).take 320) 0) with
        | none => rw [hq] at h; cases h
        | some r2 =>
          rw [hq] at h
          injection h with h
          rw [← h, List.length_cons, recsPg_len l top i _ _ r2 hq]
      · cases h
theorem records_len {l : List Int} {w : W4} {r : List Pg} (h : recordsPg l w = some r) : r.length ≤ 4096 := by
  unfold recordsPg at h
  split at h
  · cases h
  · rename_i hc
    have := recsPg_len _ _ _ _ _ _ h
    omega
theorem aside_len9 (db : List Int) (old count : Nat) (l : List Pg) : (asidePg db old count l).length ≤ old := by
  unfold asidePg
  rw [List.length_map]
  have := List.length_filter_le (fun n => decide (count < n) || hasPg l n) (List.range' 1 old)
  rw [List.length_range'] at this
  exact this
theorem sm_recover {p : Pl} {k : Nat} (h : p.sm (k + 20000 * 4103)) : (p.jrecover).1.sm k := by
  unfold Pl.jrecover
  split
  · exact sm_mono h (by omega)
  · split
    · exact sm_mono h (by omega)
    · split
      · exact sm_mono h (by omega)
      · rename_i l hl
        have hlen := records_len hl
        refine sm_run _ (sm_mono h ?_)
        unfold Pl.recS homeS homeW headS
        simp only [List.length_append, List.length_cons, List.length_nil, List.length_map]
        omega
theorem sm_commit {p : Pl} {k s c : Nat} {l : List Pg} (hs : p.jcount = s) (hs2 : s ≤ 2000) (hl : l.length ≤ 2000) (h : p.sm (k + 400000000)) : (p.jcommit (c : Int) l).1.sm k := by
  have hfl : (p.jfirst (c : Int) l).length ≤ 2005 := by
    unfold Pl.jfirst firstS asideS headS
    have := aside_len9 (p.seen nmDb) p.jcount (c : Int).toNat l
    simp only [List.length_append, List.length_cons, List.length_nil, asideW_len]
    omega
  have hsl : (secondS (c : Int) l).length ≤ 2004 := by
    unfold secondS homeS homeW headS
    simp only [List.length_append, List.length_cons, List.length_nil, List.length_map]
    omega
  have h1 : (p.runS (p.jfirst (c : Int) l)).1.sm (k + 20000 * 4103 + 20000 * 2004) := sm_run _ (sm_mono h (by omega))
  have h2 : ((p.runS (p.jfirst (c : Int) l)).1.runS (secondS (c : Int) l)).1.sm (k + 20000 * 4103) := sm_run _ (sm_mono h1 (by omega))
  have h3 := sm_recover h2
  unfold Pl.jcommit
  dsimp only
  split
  · exact sm_mono h (by omega)
  · split
    · exact sm_mono h (by omega)
    · split
      · exact sm_mono h (by omega)
      · split
        · exact sm_mono h1 (by omega)
        · split
          · split
            · exact h3
            · exact h3
          · exact sm_mono h2 (by omega)
end Go.Proofs.Ytegcbdfilkecpaa
/- JournalFull: the function's own law; no condition but on the changes in memory. -/
namespace Go.Proofs.Ytegcbdfilkecpaa
open Go.RowKit

/-- a row of changes of the caller -/
def Chs (w : World) (A : Option Addr) (n : Nat) : Prop := ∀ k, k < n → ∃ (g o : Nat) (C : Int) (Ab : Option Addr) (nb cb : Nat) (bs : List Int), A = some ⟨g, o, none⟩ ∧ g < w.heap.size ∧ w.cell? ⟨g, o + k * 2, none⟩ = some (.int .i64 C) ∧ w.cell? ⟨g, o + k * 2 + 1, none⟩ = some (.slice Ab nb cb) ∧ Bs w Ab nb bs ∧ nb ≤ 9223372036854775807
theorem Chs.keep {w w' : World} {A : Option Addr} {n : Nat} (h : Chs w A n) (k : Kp NoB w w') : Chs w' A n := fun j hj => by
  obtain ⟨g, o, C, Ab, nb, cb, bs, e, hg, h0, h1, hb, hn⟩ := h j hj
  exact ⟨g, o, C, Ab, nb, cb, bs, e, Nat.lt_of_lt_of_le hg k.size, (k.cell hg (fun q => q)).trans h0, (k.cell hg (fun q => q)).trans h1, hb.keep k, hn⟩
theorem andR (C : Int) : ∃ N : Nat, N ≤ 16383 ∧ bits BinOp.and IntKind.i64 C 16383 = (N : Int) := by
  have e : bits BinOp.and IntKind.i64 C 16383 = IntKind.i64.wrap ((BitVec.ofInt 64 C &&& BitVec.ofInt 64 16383).toNat) := rfl
  have h : (BitVec.ofInt 64 C &&& BitVec.ofInt 64 16383).toNat ≤ 16383 := by
    rw [BitVec.toNat_and]
    exact Nat.and_le_right
  refine ⟨(BitVec.ofInt 64 C &&& BitVec.ofInt 64 16383).toNat, h, ?_⟩
  rw [e, IntKind.wrap_i64]
  omega
theorem own_none {w : World} {b e size n cap : Nat} {A : Option Addr} {xs : List Value} (h : w.ownsRow b e size (.slice A n cap) n xs) : A = none → n = 0 ∧ cap = 0 := by
  rcases h.2 with ⟨h0, h1⟩ | ⟨g, c, cur, hv, _⟩
  · injection h0 with a b c
    intro _
    exact ⟨b, c⟩
  · injection hv with a b c
    intro q
    rw [q] at a
    cases a
theorem raws_own2 {w : World} {n0 : Nat} {v : Value} {l : List (List Int)} (h : OwnRaw w n0 v l) {s : Nat} (hs : l.length = s) : ∃ A cap, v = .slice A s cap ∧ RawsAt w A s l ∧ (A = none → s = 0 ∧ cap = 0) ∧ (∀ g o, A = some ⟨g, o, none⟩ → n0 ≤ g) := by
  obtain ⟨A, cap, rfl⟩ := own_slice h.1
  refine ⟨A, cap, by rw [hs], raws_own (by rw [hs] at h; exact h) hs, by rw [← hs]; exact own_none h.1, fun g o e => ?_⟩
  subst e
  rcases h.1.2 with ⟨h0, _⟩ | ⟨g', c, cur, hv, hb, _⟩
  · cases h0
  · injection hv with a b c
    injection a with a
    injection a with a b
    omega
theorem pgs_own2 {w : World} {n0 : Nat} {v : Value} {l : List Pg} (h : OwnPgs w n0 v l) {s : Nat} (hs : l.length = s) : ∃ A cap, v = .slice A s cap ∧ PgsAt w A s l ∧ (∀ g o, A = some ⟨g, o, none⟩ → n0 ≤ g) := by
  subst hs
  obtain ⟨A, cap, rfl⟩ := own_slice h.1
  refine ⟨A, cap, rfl, Rows.own (base := n0) (cap := cap) (e := 113) ?_ (by simp) ?_, fun g o e => ?_⟩
  · have h1 := h.1
    unfold pgsCells at h1
    rw [List.flatMap_def] at h1
    exact h1
  · intro y hy
    obtain ⟨x, hx, rfl⟩ := List.mem_map.1 hy
    exact pgL_len (h.2 x hx)
  · subst e
    rcases h.1.2 with ⟨h0, _⟩ | ⟨g', c, cur, hv, hb, _⟩
    · cases h0
    · injection hv with a b c
      injection a with a
      injection a with a b
      omega
theorem RawsAt.keepS {S : Nat → Prop} {w w' : World} {A : Option Addr} {n : Nat} {l : List (List Int)} (h : RawsAt w A n l) (k : Kp S w w') (hA : ∀ g o, A = some ⟨g, o, none⟩ → 0 < n → ¬ S g) : RawsAt w' A n l := Rows.keepS h k hA
def JfRel (w : World) (n db : Nat) (v6 : Value) (wr : World) : Prop := ∃ (k s : Nat) (p : Pl), v6 = .int .i64 (k : Int) ∧ k ≤ n ∧ Dq (fun _ => False) w wr db p ∧ FullI p s ∧ s ≤ 15 ∧ p.sm ((10 - k) * 400000000)
attribute [local go_sem ↓] load26 store26 alloc26 build26 eql26
set_option maxRecDepth 100000 in
set_option maxHeartbeats 4000000 in
theorem jfull_ok (w : World) (A : Option Addr) (n cap : Nat) (hL : Chs w A n) (room : Int) : Calls Try.prog 4 #[.slice A n cap, .int .i64 room] w fun e w' => e = .returned (.bool true) ∧ Kp NoB w w' := by
  by_cases hbig : 10 < n
  · have hb : (10 : Int) < (n : Int) := by omega
    clear hL
    go_enter Try.func4, Try.ntmps4
    go_wp2_with (go_at_call 16; go_must (refine (jawake_ok _).mono ?_); rintro e w8 ⟨rfl, hk8⟩; have HK8 := Lib.hid hk8; clear hk8)
    go_ret
    exact ⟨rfl, HK8.out⟩
  · have hb : ¬ (10 : Int) < (n : Int) := by omega
    have HL := Lib.hid hL
    obtain ⟨R, hR, hbits⟩ := andR room
    clear hL
    go_enter Try.func4, Try.ntmps4
    go_wp2_with fail
    refine (new_q w (R : Int) (by omega)).mono ?_
    rintro e w1 ⟨db, rfl, h1⟩
    have H1 := Lib.hid h1
    clear h1
    unfold ptrV
    go_wp2_with fail
    go_loopw [6] (fun v6 wr => JfRel w n db v6 wr) (fun v _ => n - (intOf v).toNat)
    case atStart => exact ⟨0, 0, _, rfl, by omega, H1.out, full_new _, by omega, by unfold Pl.sm; show 0 + 0 + _ < _; omega⟩
    case round =>
      obtain ⟨wq, rfl⟩ : ∃ wq, wq = wr := ⟨_, rfl⟩
      obtain ⟨k, s, p, rfl, hk, hq, hI, hs, hsm⟩ := hrel
      have HQ := Lib.hid hq
      have HI := Lib.hid hI
      have HS := Lib.hid hs
      have HSM := Lib.hid hsm
      clear hq hI hs hsm
      by_cases hlt : k < n
      · have hkk : (k : Int) < (n : Int) := by omega
        go_wp2_with fail
        have hcnt := count_of HI.out.calm.up HI.out.pgs
        refine (show Calls _ _ #[ptrV db] _ _ from tell_q HQ.out (by rw [hcnt]; have := HS.out; omega)).mono ?_
        rintro e w2 ⟨v, rfl, how, hk2⟩
        rw [hcnt] at how
        obtain ⟨A1, c1, rfl, hraw, hnone, hge1⟩ := raws_own2 how (s := s) (by simp [allPg])
        have HROK := Lib.hid how.2
        have HRAW := Lib.hid hraw
        have HNONE := Lib.hid hnone
        have HGE1 := Lib.hid hge1
        have HK2 := Lib.hid hk2
        obtain ⟨g, o, C, Ab, nb, cb, bs, e, hg, hc0, hc1, hbs, hnb⟩ := (HL.out.keep (HQ.out.kp.trans hk2 (fun _ _ q => q))) k hlt
        subst e
        have HBS := Lib.hid hbs
        have HNB := Lib.hid hnb
        clear hcnt how hraw hnone hge1 hk2 hbs hnb
        go_wp2_with fail
        refine (pages_q w2 C Ab nb cb bs HBS.out HNB.out s (by have := HS.out; omega)).mono ?_
        rintro e w3 ⟨N, v, hN, rfl, hown, hk3⟩
        obtain ⟨m, hm⟩ : ∃ m, (chPgs bs s N).length = m := ⟨_, rfl⟩
        have hmN : m ≤ N := by rw [← hm]; exact chPgs_len bs s N
        obtain ⟨A2, c2, rfl, hpg, hge2⟩ := pgs_own2 hown hm
        have HN := Lib.hid hN
        have HM := Lib.hid hm
        have HMN := Lib.hid hmN
        have HPG := Lib.hid hpg
        have HGE2 := Lib.hid hge2
        have HK3 := Lib.hid hk3
        clear hN hm hmN hpg hge2 hk3 hown hg hc0 hc1
        go_wp2_with fail
        obtain ⟨S3, hq3, hS3⟩ := HQ.out.base
        have hk23 := HK2.out.trans HK3.out (fun _ _ q => q)
        have hlt3 := hq3.lt
        have hokl := chPgs_ok HBS.out.2.1 (old := s) HN.out
        have hcm := commit_q (hq3.base1 hk23) (N : Int) (by have := HN.out; omega) A2 m c2 _ HPG.out (fun g o e hn q => by have h1 := HGE2.out g o e; have h2 := hlt3 g q; have h3 := HK2.out.size; omega) hokl (by have := HMN.out; have := HN.out; omega) (sm_mono HSM.out (by omega))
        refine (show Calls _ _ #[ptrV db, .int .i64 (N : Int), .slice A2 m c2] _ _ from hcm).mono ?_
        clear hcm
        rintro e w4 ⟨rfl, h4⟩
        have hk4 := h4.kp
        have h5 := Dq.tr (w0 := w) h4 (HQ.out.kp.trans hk23 (fun _ _ q => q)) hS3 (fun b q => q.elim)
        have hraw4 := (HRAW.out.keep HK3.out).keepS hk4 (fun g o e _ q => by have h1 := HGE1.out g o e; have h2 := hlt3 g q; omega)
        have hpg4 : PgsAt w4 A2 m (chPgs bs s N) := Rows.keepS HPG.out hk4 (fun g o e _ q => by have h1 := HGE2.out g o e; have h2 := hlt3 g q; have h3 := HK2.out.size; omega)
        have hsmq := sm_commit (k := (10 - (k + 1)) * 400000000) (c := N) (l := chPgs bs s N) (count_of HI.out.calm.up HI.out.pgs) (by have := HS.out; omega) (by rw [HM.out]; have := HMN.out; have := HN.out; omega) (sm_mono HSM.out (by omega))
        have hcc := commit_calm p s N (chPgs bs s N) HI.out (by have := HS.out; omega) (fit_ch bs s N HN.out) (fun x hx => (hokl x hx).len)
        have H5 := Lib.hid h5
        have HRAW4 := Lib.hid hraw4
        have HPG4 := Lib.hid hpg4
        have HSMQ := Lib.hid hsmq
        have HOKL := Lib.hid hokl
        clear hq3 hS3 hk23 hlt3 h4 hk4 h5 hraw4 hpg4 hsmq hokl HRAW HPG HGE1 HGE2
        rcases hcc with ⟨e0, hI2, hpgs⟩ | ⟨e5, hI2, hsame⟩
        · rw [e0]
          obtain ⟨q, hq⟩ : ∃ q, (p.jcommit (N : Int) (chPgs bs s N)).1 = q := ⟨_, rfl⟩
          rw [hq] at H5 HSMQ hI2 hpgs
          have hall := after_all (p.seen nmDb) (q.seen nmDb) bs s N hpgs
          have HALL := Lib.hid hall
          have HI2 := Lib.hid hI2
          clear e0 hq hpgs hall hI2
          go_wp2_with fail
          refine (after_q w4 A1 A2 s m c1 c2 (allPg (p.seen nmDb) s) (chPgs bs s N) N HRAW4.out HNONE.out HROK.out HPG4.out (fun x hx => ⟨HOKL.out x hx, chPgs_n hx⟩) (by have := HS.out; omega) (by have := HMN.out; have := HN.out; omega) (by have := HN.out; omega)).mono ?_
          rintro e w5 ⟨v, rfl, how5, hk5⟩
          rw [HALL.out] at how5
          obtain ⟨A3, c3, rfl, hraw5, -, -⟩ := raws_own2 how5 (s := N) (by simp [allPg])
          have HOW5 := Lib.hid how5.2
          have HRAW5 := Lib.hid hraw5
          have HK5 := Lib.hid hk5
          clear how5 hraw5 hk5
          go_wp2_with fail
          have hcnt := count_of HI2.out.calm.up HI2.out.pgs
          refine (show Calls _ _ #[ptrV db] _ _ from tell_q (H5.out.keep HK5.out) (by rw [hcnt]; have := HN.out; omega)).mono ?_
          rintro e w6 ⟨v, rfl, how6, hk6⟩
          rw [hcnt] at how6
          obtain ⟨A4, c4, rfl, hraw6, -, -⟩ := raws_own2 how6 (s := N) (by simp [allPg])
          have HOW6 := Lib.hid how6.2
          have HRAW6 := Lib.hid hraw6
          have HK6 := Lib.hid hk6
          clear how6 hraw6 hk6 hcnt
          go_wp2_with fail
          refine (same_q w6 A4 A3 N N c4 c3 _ _ HRAW6.out (HRAW5.out.keep HK6.out) HOW6.out HOW5.out (by have := HN.out; omega) (by have := HN.out; omega)).mono ?_
          rintro e w7 ⟨rfl, hk7⟩
          rw [decide_eq_true rfl]
          have H7 := Lib.hid ((H5.out.keep HK5.out).keep (HK6.out.trans hk7 (fun _ _ q => q)))
          clear hk7
          go_wp2_with fail
          refine (show Calls _ _ #[ptrV db] _ _ from hot_q H7.out).mono ?_
          rintro e w8 ⟨rfl, hk8⟩
          rw [cold_hot HI2.out]
          have H8 := Lib.hid (H7.out.keep hk8)
          clear hk8
          go_wp2_with fail
          exact ⟨⟨k + 1, N, q, by congr 1, by omega, H8.out, HI2.out, HN.out, HSMQ.out⟩, by simp [intOf]; omega⟩
        · rw [e5]
          obtain ⟨q, hq⟩ : ∃ q, (p.jcommit (N : Int) (chPgs bs s N)).1 = q := ⟨_, rfl⟩
          rw [hq] at H5 HSMQ hI2 hsame
          have HSAME := Lib.hid hsame
          have HI2 := Lib.hid hI2
          clear e5 hq hsame hI2
          go_wp2_with fail
          have hcnt := count_of HI2.out.calm.up HI2.out.pgs
          refine (show Calls _ _ #[ptrV db] _ _ from tell_q H5.out (by rw [hcnt]; have := HS.out; omega)).mono ?_
          rintro e w6 ⟨v, rfl, how6, hk6⟩
          rw [hcnt, HSAME.out] at how6
          obtain ⟨A4, c4, rfl, hraw6, -, -⟩ := raws_own2 how6 (s := s) (by simp [allPg])
          have HOW6 := Lib.hid how6.2
          have HRAW6 := Lib.hid hraw6
          have HK6 := Lib.hid hk6
          clear how6 hraw6 hk6 hcnt
          go_wp2_with fail
          refine (same_q w6 A4 A1 s s c4 c1 _ _ HRAW6.out (HRAW4.out.keep HK6.out) HOW6.out HROK.out (by have := HS.out; omega) (by have := HS.out; omega)).mono ?_
          rintro e w7 ⟨rfl, hk7⟩
          rw [decide_eq_true rfl]
          have H7 := Lib.hid (H5.out.keep (HK6.out.trans hk7 (fun _ _ q => q)))
          clear hk7
          go_wp2_with fail
          refine (show Calls _ _ #[ptrV db] _ _ from hot_q H7.out).mono ?_
          rintro e w8 ⟨rfl, hk8⟩
          rw [cold_hot HI2.out]
          have H8 := Lib.hid (H7.out.keep hk8)
          clear hk8
          go_wp2_with fail
          exact ⟨⟨k + 1, s, q, by congr 1, by omega, H8.out, HI2.out, HS.out, HSMQ.out⟩, by simp [intOf]; omega⟩
      · have hkk : ¬ (k : Int) < (n : Int) := by omega
        go_wp2_with (go_at_call 16; go_must (refine (jawake_ok _).mono ?_); rintro e w8 ⟨rfl, hk8⟩; have HK8 := Lib.hid hk8; clear hk8)
        go_ret
        exact ⟨rfl, HQ.out.kp.trans HK8.out (fun _ _ q => q)⟩
end Go.Proofs.Ytegcbdfilkecpaa
