/- The law's gone: a page's cells gone over, left early, and once more; no condition. -/
import Derived.Test.YtnleoeogcinadaaPgIt
namespace Go.Proofs.Ytnleoeogcinadaa
open Go.RowKit Go.Shelf
attribute [local go_sem ↓] load26 store26 alloc26 build26 slice26lo
attribute [local go_sem] Oper.semAt_some
theorem load26i (r : Option Nat) (w : World) (ev : Operand → Value) (ds : Option Tmp) (x : Operand) (ty : TypeId) (ps : String) (af : Array Edge) (g : Option (Nat × Bool)) (h : thereP w (ev x) 256) :
    (Oper.semAt r ev ⟨ds, .load 26 x, ty, ps, af, g⟩).run Try.prog w = .ok (.value (.agg (readP w (ev x) 256))) w := by
  rw [Oper.semAt_eq _ _ _ (by intro c h; cases h)]
  exact load26 w ev ds x ty ps af g h
theorem eqlSeq (w : World) (f : Fn) (b c : Array Value) : (binOp .eql 69 (.func f b c) .nilFunc).run Try.prog w = .ok (.bool false) w := by kernel_rfl

/-- the boxes of gone: s the first of the loop's two -/
structure GS (w w2 : World) (A : Option Addr) (n cap : Nat) (cs : List ByteArray) (early : Int) (s : Nat) (turn cnt : Int) (W : World) : Prop where
  k : Kp NoB w W
  bel : Below w2.heap.size w2 W
  le : w2.heap.size ≤ s
  b4 : Blk W (w.heap.size + 1) 23 #[.slice A n cap]
  b5 : Blk W (w.heap.size + 1 + 1) 3 #[.int .i64 early]
  b6 : Blk W (w.heap.size + 1 + 1 + 1) 4 #[.bool false]
  b8 : Blk W s 3 #[.int .i64 turn]
  b9 : Blk W (s + 1) 3 #[.int .i64 cnt]
  sl : Sl W A n cs
theorem blk_kept {W W' : World} {row : Option Nat} {g : Nat} {t : TypeId} {cs : Array Value} (h : Blk W g t cs) (hg : W.grownBy W' row) (hr : ∀ r, row = some r → ∃ o : Obj, W.heap[r]? = some o ∧ o.isCells = false) : Blk W' g t cs :=
  (hg.block g h.lt (fun e => by obtain ⟨o, ho, hc⟩ := hr g e.symm; rw [show W.heap[g]? = _ from h] at ho; cases ho; cases hc)).trans h
theorem sl_kept {W W' : World} {row : Option Nat} {A : Option Addr} {n : Nat} {cs : List ByteArray} (h : Sl W A n cs) (hg : W.grownBy W' row) (hr : ∀ r, row = some r → ∃ o : Obj, W.heap[r]? = some o ∧ o.isCells = false) : Sl W' A n cs :=
  ⟨h.1, fun hn => by
    obtain ⟨g, o, e, hl, hc⟩ := h.2 hn
    exact ⟨g, o, e, Nat.lt_of_lt_of_le hl hg.size, fun j hj => cell_kept (hc j hj) hg hr⟩⟩
theorem GS.kept {w w2 : World} {A : Option Addr} {n cap : Nat} {cs : List ByteArray} {early : Int} {s : Nat} {turn cnt : Int} {W W' : World} {row : Option Nat} (h : GS w w2 A n cap cs early s turn cnt W) (hw : w.heap.size ≤ w2.heap.size) (hg : W.grownBy W' row)
    (hr : ∀ r, row = some r → s + 1 < r ∧ ∃ o : Obj, W.heap[r]? = some o ∧ o.isCells = false) : GS w w2 A n cap cs early s turn cnt W' :=
  have hr' := fun r e => (hr r e).2
  ⟨h.k.grown hg (fun r e => .inl (by have := (hr r e).1; have := h.le; omega)), h.bel.grown hg h.bel.size (fun r e => by have := (hr r e).1; have := h.le; omega), h.le,
    blk_kept h.b4 hg hr', blk_kept h.b5 hg hr', blk_kept h.b6 hg hr', blk_kept h.b8 hg hr', blk_kept h.b9 hg hr', sl_kept h.sl hg hr'⟩
theorem GS.set {w w2 : World} {A : Option Addr} {n cap : Nat} {cs : List ByteArray} {early : Int} {s : Nat} {turn cnt : Int} {W : World} (h : GS w w2 A n cap cs early s turn cnt W) (hw : w.heap.size + 4 ≤ w2.heap.size) (x : Int)  : GS w w2 A n cap cs early s turn x (W.setCell ⟨s + 1, 0, none⟩ (.int .i64 x)) := by
  have hle := h.le
  have hsl : Sl (W.setCell ⟨s + 1, 0, none⟩ (.int .i64 x)) A n cs := by
    refine ⟨h.sl.1, fun hn => ?_⟩
    obtain ⟨g, o, e, hg, hc⟩ := h.sl.2 hn
    have hne : g ≠ s + 1 := by
      rintro rfl
      have h0 := hc 0 hn
      rw [h.b9.cell] at h0
      have := Array.getElem?_eq_some_iff.1 h0
      obtain ⟨hh, h2⟩ := this
      simp at hh
      have : o = 0 := by omega
      subst this
      simp at h2
    have kk := Kp.setCell (S := OnB (s + 1)) (p := ⟨s + 1, 0, none⟩) (Kp.refl _ W) (.inr rfl) (.int .i64 x)
    exact ⟨g, o, e, Nat.lt_of_lt_of_le hg kk.size, fun j hj => (kk.cell hg (fun q => hne q)).trans (hc j hj)⟩
  exact ⟨h.k.setCell (p := ⟨s + 1, 0, none⟩) (.inl (by show _ ≤ s + 1; omega)) _, h.bel.setCell (p := ⟨s + 1, 0, none⟩) (by show _ ≤ s + 1; omega) _, hle,
    h.b4.far (p := ⟨s + 1, 0, none⟩) (by show _ ≠ s + 1; omega) _, h.b5.far (p := ⟨s + 1, 0, none⟩) (by show _ ≠ s + 1; omega) _, h.b6.far (p := ⟨s + 1, 0, none⟩) (by show _ ≠ s + 1; omega) _, h.b8.far (p := ⟨s + 1, 0, none⟩) (by show _ ≠ s + 1; omega) _, h.b9.set_ 0 _, hsl⟩
theorem GS.own {w w2 : World} {A : Option Addr} {n cap : Nat} {cs : List ByteArray} {early : Int} {s : Nat} {turn : Int} {B : Nat} (hw : w.heap.size ≤ w2.heap.size) (hB : s + 2 ≤ B) (p : List Nat → Prop) (q : List Nat → Int) :
    OwnFrom B (fun (pre : List Nat) W => p pre ∧ GS w w2 A n cap cs early s turn (q pre) W) := fun pre W W' row hs hg hr =>
  ⟨hs.1, hs.2.kept hw hg (fun r e => ⟨by have := (hr r e).1; omega, (hr r e).2⟩)⟩
theorem cellAt1 {W : World} {g : Nat} {t : TypeId} {v : Value} (h : Blk W g t #[v]) : W.cell? ⟨g, 0, none⟩ = some v := h.cell 0
theorem range_snoc {pre : List Nat} {x m : Nat} (h : pre = List.range pre.length) (hm : pre.length = x) : pre ++ [x] = List.range (x + [m].length) := by
  rw [hm] at h
  rw [h]
  simp [List.range_succ]
theorem range_not {pre : List Nat} {x m : Nat} (_h : pre = List.range pre.length) (hm : pre.length = m) (hx : ¬ x = m) : pre ++ [x] ≠ List.range (m + [x].length) := by
  intro e
  have := congrArg (fun q => q[m]?) e
  simp only [List.length_cons, List.length_nil, Nat.zero_add] at this
  rw [List.getElem?_append_right (by omega), hm, Nat.sub_self, List.getElem?_range (by omega)] at this
  simp at this
  exact hx this
theorem gs_start (w w2 : World) (A : Option Addr) (n cap : Nat) (cs : List ByteArray) (early : Int) (P : Array Value) (hs : Sl w A n cs)
    (hk : Kp NoB ((((w.alloc (.cells P 26)).alloc (.cells #[.slice A n cap] 23)).alloc (.cells #[.int .i64 early] 3)).alloc (.cells #[.bool false] 4)) w2) :
    GS w w2 A n cap cs early w2.heap.size 0 ((0 : Nat) : Int) ((w2.alloc (.cells #[.int .i64 0] 3)).alloc (.cells #[.int .i64 0] 3)) := by
  have k0 := (((((Kp.refl NoB w).alloc (.cells P 26)).alloc (.cells #[.slice A n cap] 23)).alloc (.cells #[.int .i64 early] 3)).alloc (.cells #[.bool false] 4)).trans hk (fun _ _ q => q)
  have b4 := (((Blk.newAt (w.alloc (.cells P 26)) 23 #[.slice A n cap] (w.heap.size + 1) (by simp)).alloc (.cells #[.int .i64 early] 3)).alloc (.cells #[.bool false] 4)).keep hk (fun q => q)
  have b5 := ((Blk.newAt ((w.alloc (.cells P 26)).alloc (.cells #[.slice A n cap] 23)) 3 #[.int .i64 early] (w.heap.size + 1 + 1) (by simp)).alloc (.cells #[.bool false] 4)).keep hk (fun q => q)
  have b6 := (Blk.newAt (((w.alloc (.cells P 26)).alloc (.cells #[.slice A n cap] 23)).alloc (.cells #[.int .i64 early] 3)) 4 #[.bool false] (w.heap.size + 1 + 1 + 1) (by simp)).keep hk (fun q => q)
  exact ⟨(k0.alloc _).alloc _, ((Below.refl _ w2).alloc (Nat.le_refl _) _).alloc (by simp) _, Nat.le_refl _, (b4.alloc _).alloc _, (b5.alloc _).alloc _, (b6.alloc _).alloc _,
    (Blk.new w2 _ _).alloc _, Blk.newAt _ _ _ _ (by simp), hs.keep ((k0.alloc _).alloc _)⟩
theorem gs_second {w w2 : World} {A : Option Addr} {n cap : Nat} {cs : List ByteArray} {early : Int} {s : Nat} {turn cnt : Int} {W : World} (h : GS w w2 A n cap cs early s turn cnt W) :
    GS w w2 A n cap cs early W.heap.size 1 ((0 : Nat) : Int) ((W.alloc (.cells #[.int .i64 1] 3)).alloc (.cells #[.int .i64 0] 3)) :=
  ⟨(h.k.alloc _).alloc _, (h.bel.alloc h.bel.size _).alloc (by have := h.bel.size; simp; omega) _, h.bel.size, (h.b4.alloc _).alloc _, (h.b5.alloc _).alloc _, (h.b6.alloc _).alloc _,
    (Blk.new W _ _).alloc _, Blk.newAt _ _ _ _ (by simp), h.sl.keep (((Kp.refl NoB W).alloc _).alloc _)⟩
theorem gone_fin {w w2 : World} {A : Option Addr} {n cap : Nat} {cs : List ByteArray} {early : Int} {s : Nat} {turn cnt : Int} {V : World} {D D2 : Nat} (hz : w.heap.size + 4 ≤ w2.heap.size) (h1 : w2.heap.size + 2 ≤ D) (h2 : D < s) (h3 : s + 2 ≤ D2)
    (h : GS w w2 A n cap cs early s turn cnt V) (hD : V.heap[D]? = some (.deferred (some []))) (hK : V.heap[D2]? = some (.deferred (some []))) :
    ((V.alloc (.cells #[.int .i64 2] 3)).setCell ⟨w.heap.size + 1 + 1 + 1, 0, none⟩ (.bool true)).heap[D2]? = some (.deferred (some [])) ∧
    (((V.alloc (.cells #[.int .i64 2] 3)).setCell ⟨w.heap.size + 1 + 1 + 1, 0, none⟩ (.bool true)).putObj D2 (.deferred none)).heap[D]? = some (.deferred (some [])) ∧
    ((((V.alloc (.cells #[.int .i64 2] 3)).setCell ⟨w.heap.size + 1 + 1 + 1, 0, none⟩ (.bool true)).putObj D2 (.deferred none)).putObj D (.deferred none)).cell? ⟨w.heap.size + 1 + 1 + 1, 0, none⟩ = some (.bool true) ∧
    Kp NoB w ((((V.alloc (.cells #[.int .i64 2] 3)).setCell ⟨w.heap.size + 1 + 1 + 1, 0, none⟩ (.bool true)).putObj D2 (.deferred none)).putObj D (.deferred none)) := by
  have q1 : ((V.alloc (.cells #[.int .i64 2] 3)).setCell ⟨w.heap.size + 1 + 1 + 1, 0, none⟩ (.bool true)).heap[D2]? = some (.deferred (some [])) :=
    (Below.heap_setCell _ _ _ D2 (by show D2 ≠ w.heap.size + 1 + 1 + 1; omega)).trans ((Below.heap_alloc _ _ D2 (lt_of_heap hK)).trans hK)
  have q2 : (((V.alloc (.cells #[.int .i64 2] 3)).setCell ⟨w.heap.size + 1 + 1 + 1, 0, none⟩ (.bool true)).putObj D2 (.deferred none)).heap[D]? = some (.deferred (some [])) :=
    (World.putObj_heap_other (by omega)).trans ((Below.heap_setCell _ _ _ D (by show D ≠ w.heap.size + 1 + 1 + 1; omega)).trans ((Below.heap_alloc _ _ D (lt_of_heap hD)).trans hD))
  have b := (h.b6.alloc (.cells #[.int .i64 2] 3)).set_ 0 (.bool true)
  have b2 := blk_kept b (grownBy_putObj' _ D2 (.deferred none)) (fun r e => by cases e; exact ⟨_, q1, rfl⟩)
  have b3 := blk_kept b2 (grownBy_putObj' _ D (.deferred none)) (fun r e => by cases e; exact ⟨_, q2, rfl⟩)
  refine ⟨q1, q2, b3.cell 0, ?_⟩
  exact (((h.k.alloc _).setCell (p := ⟨w.heap.size + 1 + 1 + 1, 0, none⟩) (.inl (by show _ ≤ w.heap.size + 1 + 1 + 1; omega)) _).grown (grownBy_putObj' _ D2 _) (fun k e => by cases e; exact .inl (by omega))).grown (grownBy_putObj' _ D _) (fun k e => by cases e; exact .inl (by omega))
end Go.Proofs.Ytnleoeogcinadaa
