/- What is known in the midst of PageParts, behind the cutting and the joining; no condition. -/
import Derived.Test.YtnleoeogcinadaaPgPartsS
namespace Go.Proofs.Ytnleoeogcinadaa
open Go.RowKit

/-- a page's cells -/
structure PgA (X : Array Value) : Prop where
  s : X.size = 256
  o : ones X
  p : pgOK (.agg X)
theorem PgA.bytes (L : List Int) (h : L.length = 256) : PgA (bytesV L) := ⟨by rw [bytesV_size, h], bytesV_one L, pgOK_bytes L h⟩
theorem PgA.zero : PgA zero256 := PgA.bytes (zeros 256) (List.length_replicate ..)
theorem PgA.told (kind link : Int) (xs : List ByteArray) : PgA (toldR kind link xs).1 := by
  obtain ⟨L, h, hl⟩ := told_page kind link xs
  rw [h]
  exact PgA.bytes L hl
theorem cut_pages {l : List Int} (hB : Bytes l) (n : Int) : ∃ X Y ec, cutF l n = (X, Y, ec) ∧ PgA X ∧ PgA Y := by
  rcases hr : readF l with _ | ⟨kind, link, cs⟩
  · exact ⟨zero256, zero256, 8, by unfold cutF; rw [hr], PgA.zero, PgA.zero⟩
  · by_cases hbad : n < 0 ∨ (cs.length : Int) < n
    · exact ⟨zero256, zero256, 4, by unfold cutF; rw [hr]; exact if_pos hbad, PgA.zero, PgA.zero⟩
    · have hroom := readF_room hB hr
      have r1 := roomI_take_ge cs n.toNat
      have r2 := roomI_drop_ge cs n.toNat
      exact ⟨_, _, 0, by unfold cutF; rw [hr]; exact if_neg hbad, PgA.bytes _ (layI_len _ _ _ (by omega)), PgA.bytes _ (layI_len _ _ _ (by omega))⟩
theorem join_page (l m : List Int) : ∃ Z fc, joinF l m = (Z, fc) ∧ PgA Z := by
  refine ⟨(joinF l m).1, (joinF l m).2, rfl, ?_⟩
  unfold joinF
  split
  · split
    · exact PgA.told _ _ _
    · exact PgA.zero
  · exact PgA.zero
theorem cellAt {W : World} {g : Nat} {t : TypeId} {cs : Array Value} (h : Blk W g t cs) (i : Nat) {v : Value} (e : cs[i]? = some v) : W.cell? ⟨g, i, none⟩ = some v := (h.cell i).trans e
/-- two pages laid into new blocks -/
theorem two_pages (w2 : World) (X Y : Array Value) (hX : X.size = 256) (hY : Y.size = 256) :
    ((w2.alloc (.cells zero256 26)).alloc (.cells zero256 26)).there w2.heap.size 0 256 ∧
    (((w2.alloc (.cells zero256 26)).alloc (.cells zero256 26)).setCells w2.heap.size 0 X.toList).there (w2.heap.size + 1) 0 256 ∧
    Blk ((((w2.alloc (.cells zero256 26)).alloc (.cells zero256 26)).setCells w2.heap.size 0 X.toList).setCells (w2.heap.size + 1) 0 Y.toList) w2.heap.size 26 X ∧
    Blk ((((w2.alloc (.cells zero256 26)).alloc (.cells zero256 26)).setCells w2.heap.size 0 X.toList).setCells (w2.heap.size + 1) 0 Y.toList) (w2.heap.size + 1) 26 Y ∧
    Kp NoB w2 ((((w2.alloc (.cells zero256 26)).alloc (.cells zero256 26)).setCells w2.heap.size 0 X.toList).setCells (w2.heap.size + 1) 0 Y.toList) := by
  have b1 := (Blk.new w2 26 zero256).alloc (.cells zero256 26)
  have b2 : Blk ((w2.alloc (.cells zero256 26)).alloc (.cells zero256 26)) (w2.heap.size + 1) 26 zero256 := Blk.newAt _ _ _ _ (by simp)
  have b1' := b1.whole X (by rw [zero256_size, hX])
  have b2' := b2.farCells (g' := w2.heap.size) (by omega) X.toList 0 _
  refine ⟨b1.thereAll 256 zero256_size, b2'.thereAll 256 zero256_size, b1'.farCells (by omega) _ _ _, b2'.whole Y (by rw [zero256_size, hY]), ?_⟩
  exact Kp.setCells (.inl (by omega)) _ _ _ (Kp.setCells (.inl (by omega)) _ _ _ (((Kp.refl NoB w2).alloc _).alloc _))
theorem one_page (w2 : World) (X : Array Value) (hX : X.size = 256) :
    (w2.alloc (.cells zero256 26)).there w2.heap.size 0 256 ∧ Blk ((w2.alloc (.cells zero256 26)).setCells w2.heap.size 0 X.toList) w2.heap.size 26 X ∧ Kp NoB w2 ((w2.alloc (.cells zero256 26)).setCells w2.heap.size 0 X.toList) := by
  have b1 := Blk.new w2 26 zero256
  exact ⟨b1.thereAll 256 zero256_size, b1.whole X (by rw [zero256_size, hX]), Kp.setCells (.inl (by omega)) _ _ _ ((Kp.refl NoB w2).alloc _)⟩
/-- behind the cutting -/
structure PB (w : World) (l m : List Int) (g7 g8 : Nat) (c7 c8 : Array Value) (g9 : Nat) (X Y : Array Value) (W : World) : Prop where
  pa : PA w l m g7 g8 c7 c8 W
  f1 : RRf (readF l) (.agg c7) W
  f2 : RRf (readF m) (.agg c8) W
  b9 : Blk W g9 26 X
  b10 : Blk W (g9 + 1) 26 Y
theorem PB.keep {w : World} {l m : List Int} {g7 g8 : Nat} {c7 c8 : Array Value} {g9 : Nat} {X Y : Array Value} {W W' : World} (h : PB w l m g7 g8 c7 c8 g9 X Y W) (k : Kp NoB W W') : PB w l m g7 g8 c7 c8 g9 X Y W' :=
  ⟨h.pa.keep k, h.f1.keep k, h.f2.keep k, h.b9.keep k (fun q => q), h.b10.keep k (fun q => q)⟩
/-- behind the joining -/
structure PC (w : World) (l m : List Int) (g7 g8 : Nat) (c7 c8 : Array Value) (g9 : Nat) (X Y : Array Value) (g12 : Nat) (Z : Array Value) (W : World) : Prop where
  pb : PB w l m g7 g8 c7 c8 g9 X Y W
  b12 : Blk W g12 26 Z
theorem PC.keep {w : World} {l m : List Int} {g7 g8 : Nat} {c7 c8 : Array Value} {g9 : Nat} {X Y : Array Value} {g12 : Nat} {Z : Array Value} {W W' : World} (h : PC w l m g7 g8 c7 c8 g9 X Y g12 Z W) (k : Kp NoB W W') : PC w l m g7 g8 c7 c8 g9 X Y g12 Z W' :=
  ⟨h.pb.keep k, h.b12.keep k (fun q => q)⟩
theorem after15 (V : World) (s0 : Nat) (hs : V.heap.size = s0) :
    (V.alloc (.cells zero256 26)).there s0 0 256 ∧ Kp NoB V ((V.alloc (.cells zero256 26)).setCells s0 0 zero256.toList) ∧ Blk ((V.alloc (.cells zero256 26)).setCells s0 0 zero256.toList) s0 26 zero256 ∧ ((V.alloc (.cells zero256 26)).setCells s0 0 zero256.toList).heap.size = s0 + 1 := by
  subst hs
  obtain ⟨t, b, k⟩ := one_page V zero256 zero256_size
  exact ⟨t, k, b, by rw [size_setCells]; simp⟩
theorem after19 (V : World) (s1 : Nat) (c8 : Array Value) (hs : V.heap.size = s1) (h4 : c8.size = 4) :
    (V.alloc (.cells #[.bool false, .int .i64 0, .int .u32 0, .slice none 0 0] 34)).there s1 0 4 ∧ Kp NoB V ((V.alloc (.cells #[.bool false, .int .i64 0, .int .u32 0, .slice none 0 0] 34)).setCells s1 0 c8.toList) ∧ Blk ((V.alloc (.cells #[.bool false, .int .i64 0, .int .u32 0, .slice none 0 0] 34)).setCells s1 0 c8.toList) s1 34 c8 ∧ ((V.alloc (.cells #[.bool false, .int .i64 0, .int .u32 0, .slice none 0 0] 34)).setCells s1 0 c8.toList).heap.size = s1 + 1 := by
  subst hs
  have b1 := Blk.new V 34 #[.bool false, .int .i64 0, .int .u32 0, .slice none 0 0]
  exact ⟨b1.thereAll 4 rfl, Kp.setCells (.inl (by omega)) _ _ _ ((Kp.refl NoB V).alloc _), b1.whole c8 (by rw [h4]; rfl), by rw [size_setCells]; simp⟩
/-- the body joined, as its list is written -/
structure TW (V : World) (s0 s1 : Nat) (k2 l2 : Int) (u : Value) (W : World) : Prop where
  k : Kp NoB V W
  b16 : Blk W s0 26 zero256
  b18 : Blk W s1 34 #[.bool true, .int .i64 k2, .int .u32 l2, u]
theorem TW.alloc {V : World} {s0 s1 : Nat} {k2 l2 : Int} {u : Value} {W : World} (h : TW V s0 s1 k2 l2 u W) (o : Obj) : TW V s0 s1 k2 l2 u (W.alloc o) := ⟨h.k.alloc o, h.b16.alloc o, h.b18.alloc o⟩
theorem TW.step {V : World} {s0 s1 : Nat} {k2 l2 : Int} {u : Value} {W : World} (h : TW V s0 s1 k2 l2 u W) (hV : V.heap.size ≤ s0) (h01 : s0 < s1) {w' : World} {row : Option Nat} (hg : W.grownBy w' row) (hr : ∀ k, row = some k → s1 + 1 ≤ k)
    {v' : Value} {n' : Nat} {xs' : List Value} (ho : w'.ownsRow (s1 + 1) 9 1 v' n' xs') :
    w'.cell? ⟨s1, 3, none⟩ = some u ∧ w'.frozen? ⟨s1, 3, none⟩ = false ∧ TW V s0 s1 k2 l2 v' (w'.setCell ⟨s1, 3, none⟩ v') ∧ (w'.setCell ⟨s1, 3, none⟩ v').ownsRow (s1 + 1) 9 1 v' n' xs' ∧ (w'.setCell ⟨s1, 3, none⟩ v').cell? ⟨s1, 3, none⟩ = some v' := by
  have hK : Kp (fun k => row = some k) W w' := (Kp.refl _ W).grown hg (fun k hk => .inr hk)
  have b18' := h.b18.keep hK (fun q => by have := hr _ q; omega)
  have b16' := h.b16.keep hK (fun q => by have := hr _ q; omega)
  have K' : Kp NoB V w' := h.k.grown hg (fun k hk => .inl (by have := hr k hk; omega))
  have ho' := own_keep ho (S := OnB s1) (Kp.setCell (S := OnB s1) (p := ⟨s1, 3, none⟩) (Kp.refl _ _) (.inr rfl) v') (fun g hg _ q => by unfold OnB at q; omega)
  exact ⟨b18'.cell 3, b18'.frozen 3, ⟨K'.setCell (p := ⟨s1, 3, none⟩) (.inl (by show _ ≤ s1; omega)) _, b16'.far (p := ⟨s1, 3, none⟩) (by simp; omega) _, b18'.set_ 3 _⟩, ho', (b18'.set_ 3 _).cell 3⟩
theorem RRf.form {k l : Int} {cs : List ByteArray} {v : Value} {W : World} (h : RRf (some (k, l, cs)) v W) : ∃ A cap, v = .agg (rBody4 true k l A cs.length cap) ∧ Sl W A cs.length cs ∧ (A = none → cs.length = 0 ∧ cap = 0) ∧ ((A = none ∧ cs.length = 0 ∧ cap = 0) ∨ ∃ g, A = some ⟨g, 0, none⟩) ∧ cs.length ≤ cap := by
  obtain ⟨A, cap, e, hs, hf, hc⟩ := h
  refine ⟨A, cap, e, hs, ?_, hf, hc⟩
  rintro rfl
  rcases hf with ⟨_, q⟩ | ⟨g, q⟩
  · exact q
  · cases q
/-- region 9: the body twice -/
structure R9 (V : World) (o14 o15 : Option Nat) (W : World) : Prop where
  k : Kp NoB V W
  f14 : ∀ g, o14 = some g → Blk W g 34 zero4 ∧ V.heap.size ≤ g
  f15 : ∀ g, o15 = some g → Blk W g 34 zero4 ∧ V.heap.size ≤ g
  ne : ∀ g g', o14 = some g → o15 = some g' → g ≠ g'
theorem R9.alloc14 {V : World} {o14 o15 : Option Nat} {W : World} (h : R9 V o14 o15 W) : R9 V (some W.heap.size) o15 (W.alloc (.cells zero4 34)) :=
  ⟨h.k.alloc _, fun g e => (Option.some.inj e) ▸ ⟨Blk.new _ _ _, h.k.size⟩, fun g e => ⟨(h.f15 g e).1.alloc _, (h.f15 g e).2⟩, fun g g' e e' => by have := (h.f15 g' e').1.lt; have := Option.some.inj e; omega⟩
theorem R9.alloc15 {V : World} {o14 o15 : Option Nat} {W : World} (h : R9 V o14 o15 W) : R9 V o14 (some W.heap.size) (W.alloc (.cells zero4 34)) :=
  ⟨h.k.alloc _, fun g e => ⟨(h.f14 g e).1.alloc _, (h.f14 g e).2⟩, fun g e => (Option.some.inj e) ▸ ⟨Blk.new _ _ _, h.k.size⟩, fun g g' e e' => by have := (h.f14 g e).1.lt; have := Option.some.inj e'; omega⟩
structure R10 (V : World) (c : Array Value) (W : World) (g14 g15 : Nat) : Prop where
  k : Kp NoB V W
  b14 : Blk W g14 34 c
  b15 : Blk W g15 34 c
  n14 : V.heap.size ≤ g14
  n15 : V.heap.size ≤ g15
  ne : g14 ≠ g15
theorem R9.fin {V W : World} {g14 g15 : Nat} (h : R9 V (some g14) (some g15) W) (c : Array Value) (hc : c.size = 4) :
    W.there g14 0 c.size ∧ (W.setCells g14 0 c.toList).there g15 0 c.size ∧ Kp NoB V (W.setCells g14 0 c.toList) ∧ R10 V c ((W.setCells g14 0 c.toList).setCells g15 0 c.toList) g14 g15 := by
  obtain ⟨b14, q14⟩ := h.f14 g14 rfl
  obtain ⟨b15, q15⟩ := h.f15 g15 rfl
  have ne := h.ne g14 g15 rfl rfl
  have B14 := b14.whole c (by rw [hc]; rfl)
  have B15 := b15.farCells (Ne.symm ne) c.toList 0 W
  have k1 : Kp NoB V (W.setCells g14 0 c.toList) := Kp.setCells (.inl q14) _ _ _ h.k
  exact ⟨b14.thereAll c.size (by rw [hc]; rfl), B15.thereAll c.size (by rw [hc]; rfl), k1, Kp.setCells (.inl q15) _ _ _ k1, B14.farCells ne _ _ _, B15.whole c (by rw [hc]; rfl), q14, q15, ne⟩
theorem after12 {V9 V10 : World} {k1 l1 : Int} {A : Option Addr} {n cap g7 g14 g15 : Nat} (h : R10 V9 (rBody4 true k1 l1 A n cap) V10 g14 g15) (hb7 : Blk V10 g7 34 (rBody4 true k1 l1 A n cap)) (h7 : g7 ≠ g14) (h7' : g7 ≠ g15)
    (A1 A2 : Option Addr) (n1 c1 n2 c2 : Nat) :
    (V10.cell? ⟨g14, 2, none⟩ = some (.int .u32 l1) ∧ V10.frozen? ⟨g14, 2, none⟩ = false) ∧
    ((V10.setCell ⟨g14, 2, none⟩ (.int .u32 0)).cell? ⟨g7, 3, none⟩ = some (.slice A n cap) ∧ (V10.setCell ⟨g14, 2, none⟩ (.int .u32 0)).cell? ⟨g14, 3, none⟩ = some (.slice A n cap) ∧ (V10.setCell ⟨g14, 2, none⟩ (.int .u32 0)).frozen? ⟨g14, 3, none⟩ = false) ∧
    (((V10.setCell ⟨g14, 2, none⟩ (.int .u32 0)).setCell ⟨g14, 3, none⟩ (.slice A1 n1 c1)).cell? ⟨g7, 3, none⟩ = some (.slice A n cap) ∧ ((V10.setCell ⟨g14, 2, none⟩ (.int .u32 0)).setCell ⟨g14, 3, none⟩ (.slice A1 n1 c1)).cell? ⟨g15, 3, none⟩ = some (.slice A n cap) ∧ ((V10.setCell ⟨g14, 2, none⟩ (.int .u32 0)).setCell ⟨g14, 3, none⟩ (.slice A1 n1 c1)).frozen? ⟨g15, 3, none⟩ = false) ∧
    Kp NoB V9 (((V10.setCell ⟨g14, 2, none⟩ (.int .u32 0)).setCell ⟨g14, 3, none⟩ (.slice A1 n1 c1)).setCell ⟨g15, 3, none⟩ (.slice A2 n2 c2)) ∧
    Blk (((V10.setCell ⟨g14, 2, none⟩ (.int .u32 0)).setCell ⟨g14, 3, none⟩ (.slice A1 n1 c1)).setCell ⟨g15, 3, none⟩ (.slice A2 n2 c2)) g14 34 (rBody4 true k1 0 A1 n1 c1) ∧
    Blk (((V10.setCell ⟨g14, 2, none⟩ (.int .u32 0)).setCell ⟨g14, 3, none⟩ (.slice A1 n1 c1)).setCell ⟨g15, 3, none⟩ (.slice A2 n2 c2)) g15 34 (rBody4 true k1 l1 A2 n2 c2) := by
  have a1 := h.b14.set_ 2 (.int .u32 0)
  have a2 := a1.set_ 3 (.slice A1 n1 c1)
  have p1 := hb7.far (p := ⟨g14, 2, none⟩) h7 (.int .u32 0)
  have p2 := p1.far (p := ⟨g14, 3, none⟩) h7 (.slice A1 n1 c1)
  have e1 := h.b15.far (p := ⟨g14, 2, none⟩) (Ne.symm h.ne) (.int .u32 0)
  have e2 := e1.far (p := ⟨g14, 3, none⟩) (Ne.symm h.ne) (.slice A1 n1 c1)
  have k1' := h.k.setCell (p := ⟨g14, 2, none⟩) (.inl h.n14) (.int .u32 0)
  have k2' := k1'.setCell (p := ⟨g14, 3, none⟩) (.inl h.n14) (.slice A1 n1 c1)
  have k3' := k2'.setCell (p := ⟨g15, 3, none⟩) (.inl h.n15) (.slice A2 n2 c2)
  exact ⟨⟨h.b14.cell 2, h.b14.frozen 2⟩, ⟨p1.cell 3, a1.cell 3, a1.frozen 3⟩, ⟨p2.cell 3, e2.cell 3, e2.frozen 3⟩, k3', a2.far (p := ⟨g15, 3, none⟩) h.ne _, e2.set_ 3 _⟩
end Go.Proofs.Ytnleoeogcinadaa
