/- What PageForm's walk knows on its way, and its plain law; no condition. -/
import Derived.Test.YtnleoeogcinadaaPgInv
import Derived.Test.YtnleoeogcinadaaPgA
import Derived.Test.YtnleoeogcinadaaPgCut
import Derived.Test.YtnleoeogcinadaaPgInsP
import Derived.Test.YtnleoeogcinadaaPgDelP
import Derived.Test.YtnleoeogcinadaaPgCol
import Derived.Test.YtnleoeogcinadaaInto4
namespace Go.Proofs.Ytnleoeogcinadaa
open Go.RowKit

theorem insg_page (l : List Int) (i : Int) (c : ByteArray) : ∃ Z e, insF l i c = (Z, e) ∧ PgA Z := by
  refine ⟨(insF l i c).1, (insF l i c).2, rfl, ?_⟩
  unfold insF
  split
  · exact PgA.zero
  · split
    · exact PgA.zero
    · split
      · exact PgA.zero
      · exact PgA.told _ _ _
/-- pages in their blocks -/
structure Pgs (w : World) (ps : List (Nat × Array Value)) (W : World) : Prop where
  k : Kp NoB w W
  b : ∀ p ∈ ps, Blk W p.1 26 p.2
theorem Pgs.keep {w : World} {ps : List (Nat × Array Value)} {W W' : World} (h : Pgs w ps W) (k : Kp NoB W W') : Pgs w ps W' :=
  ⟨h.k.trans k (fun _ _ q => q), fun p hp => (h.b p hp).keep k (fun q => q)⟩
theorem Pgs.cons {w : World} {ps : List (Nat × Array Value)} {W : World} {g : Nat} {X : Array Value} (h : Pgs w ps W) (hb : Blk W g 26 X) : Pgs w ((g, X) :: ps) W :=
  ⟨h.k, fun p hp => (List.mem_cons.1 hp).elim (fun e => by subst e; exact hb) (h.b p)⟩
/-- a page more in a new block -/
theorem Pgs.one {w : World} {ps : List (Nat × Array Value)} {W : World} (h : Pgs w ps W) (X : Array Value) (hX : X.size = 256) :
    (W.alloc (.cells zero256 26)).there W.heap.size 0 256 ∧ Pgs w ((W.heap.size, X) :: ps) ((W.alloc (.cells zero256 26)).setCells W.heap.size 0 X.toList) := by
  obtain ⟨t, b, k⟩ := one_page W X hX
  exact ⟨t, (h.keep k).cons b⟩
theorem Pgs.at {w : World} {ps : List (Nat × Array Value)} {W : World} (h : Pgs w ps W) (g : Nat) (X : Array Value) (hm : (g, X) ∈ ps) (hX : X.size = 256) : W.there g 0 256 ∧ readRow W g 0 256 = X :=
  ⟨(h.b _ hm).thereAll 256 hX, (h.b _ hm).readAll 256 hX⟩
theorem Pgs.sub {w : World} {ps qs : List (Nat × Array Value)} {W : World} (h : Pgs w ps W) (hq : ∀ p ∈ qs, p ∈ ps) : Pgs w qs W := ⟨h.k, fun p hp => h.b p (hq p hp)⟩
/-- two pages more in new blocks -/
theorem Pgs.two {w : World} {ps : List (Nat × Array Value)} {W : World} (h : Pgs w ps W) (X Y : Array Value) (hX : X.size = 256) (hY : Y.size = 256) :
    ((W.alloc (.cells zero256 26)).alloc (.cells zero256 26)).there W.heap.size 0 256 ∧
    (((W.alloc (.cells zero256 26)).alloc (.cells zero256 26)).setCells W.heap.size 0 X.toList).there (W.heap.size + 1) 0 256 ∧
    Pgs w ((W.heap.size, X) :: (W.heap.size + 1, Y) :: ps) ((((W.alloc (.cells zero256 26)).alloc (.cells zero256 26)).setCells W.heap.size 0 X.toList).setCells (W.heap.size + 1) 0 Y.toList) := by
  have b1 := (Blk.new W 26 zero256).alloc (.cells zero256 26)
  have b2 : Blk ((W.alloc (.cells zero256 26)).alloc (.cells zero256 26)) (W.heap.size + 1) 26 zero256 := Blk.newAt _ _ _ _ (by simp)
  have b1' := b1.whole X (by rw [zero256_size, hX])
  have b2' := b2.farCells (g' := W.heap.size) (by omega) X.toList 0 _
  refine ⟨b1.thereAll 256 zero256_size, b2'.thereAll 256 zero256_size, ?_⟩
  exact ((h.keep (Kp.setCells (.inl (by omega)) _ _ _ (Kp.setCells (.inl (by omega)) _ _ _ (((Kp.refl NoB W).alloc _).alloc _)))).cons (b2'.whole Y (by rw [zero256_size, hY]))).cons (b1'.farCells (by omega) _ _ _)
/-- region 4 -/
structure RF (w : World) (l : List Int) (A : Option Addr) (cs : List ByteArray) (o : Option Nat) (W : World) : Prop where
  k : Kp NoB w W
  b : Blk W w.heap.size 26 (bytesV l)
  sl : Sl W A cs.length cs
  f : ∀ g, o = some g → Blk W g 26 zero256 ∧ w.heap.size < g
theorem RF.keep {w : World} {l : List Int} {A : Option Addr} {cs : List ByteArray} {o : Option Nat} {W W' : World} (h : RF w l A cs o W) (k : Kp NoB W W') : RF w l A cs o W' :=
  ⟨h.k.trans k (fun _ _ q => q), h.b.keep k (fun q => q), h.sl.keep k, fun g e => ⟨(h.f g e).1.keep k (fun q => q), (h.f g e).2⟩⟩
theorem RF.alloc {w : World} {l : List Int} {A : Option Addr} {cs : List ByteArray} {o : Option Nat} {W : World} (h : RF w l A cs o W) : RF w l A cs (some W.heap.size) (W.alloc (.cells zero256 26)) :=
  ⟨h.k.alloc _, h.b.alloc _, h.sl.keep ((Kp.refl NoB W).alloc _), fun g e => by cases e; exact ⟨Blk.new _ _ _, h.b.lt⟩⟩
def RFp (w : World) (l : List Int) (W : World) : Prop := W.rangeAt w.heap.size 0 (l.map (Value.int .u8))
theorem rangeOf {W : World} {g : Nat} {l : List Int} (h : Blk W g 26 (bytesV l)) : W.rangeAt g 0 (l.map (Value.int .u8)) :=
  Blk.range (xa := []) (xd := []) (by rw [List.nil_append, List.append_nil]; exact h) 0 rfl
theorem RF.sp {w : World} {l : List Int} {A : Option Addr} {cs : List ByteArray} {o : Option Nat} {W : World} (h : RF w l A cs o W) : RFp w l W := rangeOf h.b
theorem RF.fin {w : World} {l : List Int} {A : Option Addr} {cs : List ByteArray} {g : Nat} {W : World} (h : RF w l A cs (some g) W) (hl : l.length = 256) :
    W.there g 0 (bytesV l).size ∧ RFp w l (W.setCells g 0 (bytesV l).toList) ∧ Pgs w [(g, bytesV l), (w.heap.size, bytesV l)] (W.setCells g 0 (bytesV l).toList) := by
  obtain ⟨b, hg⟩ := h.f g rfl
  have b2 := b.whole (bytesV l) (by rw [zero256_size, bytesV_size, hl])
  have b3 := h.b.farCells (g' := g) (by omega) (bytesV l).toList 0 W
  refine ⟨b.thereAll _ (by rw [zero256_size, bytesV_size, hl]), rangeOf b3, ⟨Kp.setCells (.inl (by omega)) _ _ _ h.k, ?_⟩⟩
  intro p hp
  simp only [List.mem_cons, List.not_mem_nil, or_false] at hp
  rcases hp with rfl | rfl
  · exact b2
  · exact b3

/-! ### the plain law -/
theorem told_fits {k lk : Int} {xs : List ByteArray} (h : 0 ≤ roomI xs) : toldR k lk xs = (bytesV (layI k lk xs), 0) := by unfold toldR; exact if_neg (by omega)
/-- a page is made anew of what it says -/
theorem new_same {l : List Int} (hB : Bytes l) {k lk : Int} {cs : List ByteArray} (h : readF l = some (k, lk, cs)) : newR k lk cs = (bytesV l, 0) := by
  obtain ⟨h1, h2, h3, h4, h5, h6⟩ := readF_facts hB h
  have hh : hole cs = false := hole_no cs fun j hj => by
    have := h2 cs[j] (List.getElem_mem hj)
    rw [List.getElem?_eq_getElem hj]
    show cs[j].size ≠ 0
    omega
  have hw : worstK cs cs.length = 0 := by
    unfold worstK
    rw [if_neg]
    intro q
    rw [List.take_length, List.any_eq_true] at q
    obtain ⟨c, hc, hq⟩ := q
    have := h2 c hc
    simp at hq
    omega
  unfold newR
  rw [if_neg (by rw [hh]; simp; omega), if_neg (by rw [hw]; omega), told_fits (readF_room hB h), lay_read hB h]
/-- what is put in and taken out again -/
theorem ins_same {l : List Int} (hB : Bytes l) {k lk : Int} {cs : List ByteArray} (h : readF l = some (k, lk, cs)) {i : Int} {c : ByteArray} {X : Array Value} (hX : insF l i c = (X, 0)) :
    ∃ L, X = bytesV L ∧ Bytes L ∧ delF L i = (bytesV l, 0) ∧ cellF (readF L) i = (c, 0) ∧ roomF (readF L) = roomI cs - 1 - c.size ∧ checkF (readF L) = 0 ∧ c.size ≤ 60 := by
  obtain ⟨h1, h2, h3, h4, h5, h6⟩ := readF_facts hB h
  have hlay := lay_read hB h
  have hroom := readF_room hB h
  unfold insF at hX
  rw [h] at hX
  simp only at hX
  by_cases hc : cellE c ≠ 0
  · rw [if_pos hc] at hX
    exact absurd (Prod.mk.inj hX).2 hc
  rw [if_neg hc] at hX
  by_cases hi : i < 0 ∨ (cs.length : Int) < i
  · rw [if_pos hi] at hX
    have := (Prod.mk.inj hX).2
    omega
  rw [if_neg hi] at hX
  obtain ⟨j, rfl⟩ := Int.eq_ofNat_of_zero_le (show 0 ≤ i by omega)
  have hj : j ≤ cs.length := by omega
  rw [Int.toNat_natCast] at hX
  by_cases hr : roomI (cs.take j ++ [c] ++ cs.drop j) < 0
  · unfold toldR at hX
    rw [if_pos hr] at hX
    have := (Prod.mk.inj hX).2
    omega
  have hr0 : 0 ≤ roomI (cs.take j ++ [c] ++ cs.drop j) := by omega
  rw [told_fits hr0] at hX
  have hc60 : 1 ≤ c.size ∧ c.size ≤ 60 := by
    unfold cellE at hc
    by_cases q : c.size = 0
    · rw [if_pos q] at hc; simp at hc
    · rw [if_neg q] at hc
      by_cases q2 : 60 < c.size
      · rw [if_pos q2] at hc; simp at hc
      · omega
  have h60 : ∀ d ∈ cs.take j ++ [c] ++ cs.drop j, 1 ≤ d.size ∧ d.size ≤ 60 := by
    intro d hd
    rcases List.mem_append.1 hd with q | q
    · rcases List.mem_append.1 q with q | q
      · exact h2 d (List.mem_of_mem_take q)
      · obtain rfl : d = c := by simpa using q
        exact hc60
    · exact h2 d (List.mem_of_mem_drop q)
  have hread := read_lay k lk _ ⟨h3, h4⟩ ⟨h5, h6⟩ h60 hr0
  have hlt : (cs.take j).length = j := by rw [List.length_take]; omega
  have hlen : (cs.take j ++ [c] ++ cs.drop j).length = cs.length + 1 := by
    rw [List.length_append, List.length_append, hlt, List.length_drop]
    simp
    omega
  refine ⟨_, (Prod.mk.inj hX).1.symm, lay_bytes k lk _ ⟨h3, h4⟩ h60 hr0, ?_, ?_, ?_, ?_, hc60.2⟩
  · unfold delF
    rw [hread]
    simp only
    rw [if_neg (by rw [hlen]; omega), Int.toNat_natCast]
    have e1 : (cs.take j ++ [c] ++ cs.drop j).take j = cs.take j := by
      rw [List.append_assoc]
      exact List.take_left' hlt
    have e2 : (cs.take j ++ [c] ++ cs.drop j).drop (j + 1) = cs.drop j := List.drop_left' (by rw [List.length_append, hlt]; rfl)
    rw [e1, e2, List.take_append_drop, told_fits hroom, hlay]
  · unfold cellF
    rw [hread]
    simp only
    rw [if_neg (by rw [hlen]; omega), Int.toNat_natCast]
    congr 1
    rw [List.getD_eq_getElem?_getD, List.append_assoc, List.getElem?_append_right (by omega), hlt, Nat.sub_self]
    rfl
  · rw [hread]
    show roomI _ = _
    unfold roomI
    have : (cs.map fun c => 1 + (c.size : Int)).sum = ((cs.take j).map fun c => 1 + (c.size : Int)).sum + ((cs.drop j).map fun c => 1 + (c.size : Int)).sum := by
      conv => lhs; rw [← List.take_append_drop j cs, List.map_append, List.sum_append]
    rw [this, List.map_append, List.map_append, List.sum_append, List.sum_append]
    simp
    omega
  · rw [hread]
    rfl
/-- what is cut and joined -/
theorem cut_same {l : List Int} (hB : Bytes l) {k lk : Int} {cs : List ByteArray} (h : readF l = some (k, lk, cs)) {n : Int} (hn : ¬ (n < 0 ∨ (cs.length : Int) < n)) :
    ∃ L1 L2, cutF l n = (bytesV L1, bytesV L2, 0) ∧ Bytes L1 ∧ Bytes L2 ∧ joinF L1 L2 = (bytesV l, 0) ∧ countF (readF L1) = n ∧ checkF (readF L1) = 0 ∧ checkF (readF L2) = 0 := by
  obtain ⟨h1, h2, h3, h4, h5, h6⟩ := readF_facts hB h
  have hroom := readF_room hB h
  have r1 := roomI_take_ge cs n.toNat
  have r2 := roomI_drop_ge cs n.toNat
  have ht : ∀ d ∈ cs.take n.toNat, 1 ≤ d.size ∧ d.size ≤ 60 := fun d hd => h2 d (List.mem_of_mem_take hd)
  have hd : ∀ d ∈ cs.drop n.toNat, 1 ≤ d.size ∧ d.size ≤ 60 := fun d hd => h2 d (List.mem_of_mem_drop hd)
  have e1 := read_lay k 0 (cs.take n.toNat) ⟨h3, h4⟩ ⟨by omega, by omega⟩ ht (by omega)
  have e2 := read_lay k lk (cs.drop n.toNat) ⟨h3, h4⟩ ⟨h5, h6⟩ hd (by omega)
  refine ⟨_, _, ?_, lay_bytes k 0 (cs.take n.toNat) ⟨h3, h4⟩ ht (by omega), lay_bytes k lk (cs.drop n.toNat) ⟨h3, h4⟩ hd (by omega), ?_, ?_, by rw [e1]; rfl, by rw [e2]; rfl⟩
  · unfold cutF
    rw [h]
    exact if_neg hn
  · unfold joinF
    rw [e1, e2]
    simp only
    rw [if_pos trivial, List.take_append_drop, told_fits hroom, lay_read hB h]
  · rw [e1]
    show ((cs.take n.toNat).length : Int) = n
    rw [List.length_take]
    omega
theorem room_ub (xs : List ByteArray) : roomI xs ≤ 250 := by
  have h := sum_nonneg xs
  unfold roomI
  omega
theorem R11sp {w : World} {l L : List Int} {g6 g5 g4 : Nat} {W : World} (h : Pgs w [(g6, bytesV l), (g5, bytesV L), (g4, bytesV l), (w.heap.size, bytesV l)] W) :
    W.rangeAt g6 0 (l.map (Value.int .u8)) ∧ W.rangeAt w.heap.size 0 (l.map (Value.int .u8)) ∧ W.rangeAt g5 0 (L.map (Value.int .u8)) :=
  ⟨rangeOf (h.b (g6, bytesV l) (by simp)), rangeOf (h.b (w.heap.size, bytesV l) (by simp)), rangeOf (h.b (g5, bytesV L) (by simp))⟩
theorem cut_bad {l : List Int} {k lk : Int} {cs : List ByteArray} (h : readF l = some (k, lk, cs)) {n : Int} (hn : n < 0 ∨ (cs.length : Int) < n) : cutF l n = (zero256, zero256, 4) := by
  unfold cutF
  rw [h]
  exact if_pos hn
end Go.Proofs.Ytnleoeogcinadaa
