/- What is known in the midst of PageParts; no condition. -/
import Derived.Test.YtnleoeogcinadaaPgJoin
import Derived.Test.YtnleoeogcinadaaPgCut
import Derived.Test.YtnleoeogcinadaaPgRRead
import Derived.Test.YtnleoeogcinadaaPgAwake
namespace Go.Proofs.Ytnleoeogcinadaa
open Go.RowKit

def zero4 : Array Value := #[.bool false, .int .i64 0, .int .u32 0, .slice none 0 0]
/-- v is the reference's body of what was read -/
def RRf (r : Option (Int × Int × List ByteArray)) (v : Value) (W : World) : Prop :=
  match r with
  | none => v = .agg (rBody4 false 0 0 none 0 0)
  | some (kind, link, cs) => ∃ A cap, v = .agg (rBody4 true kind link A cs.length cap) ∧ Sl W A cs.length cs ∧ ((A = none ∧ cs.length = 0 ∧ cap = 0) ∨ ∃ g, A = some ⟨g, 0, none⟩) ∧ cs.length ≤ cap
theorem RRf.keep {r : Option (Int × Int × List ByteArray)} {v : Value} {W W' : World} (h : RRf r v W) (k : Kp NoB W W') : RRf r v W' := by
  rcases r with _ | ⟨kind, link, cs⟩
  · exact h
  · obtain ⟨A, cap, e, hs, hf, hc⟩ := h
    exact ⟨A, cap, e, hs.keep k, hf, hc⟩
theorem RRf.agg {r : Option (Int × Int × List ByteArray)} {v : Value} {W : World} (h : RRf r v W) : ∃ is kind link A n cap, v = .agg (rBody4 is kind link A n cap) := by
  rcases r with _ | ⟨kind, link, cs⟩
  · exact ⟨_, _, _, _, _, _, h⟩
  · obtain ⟨A, cap, e, _⟩ := h
    exact ⟨_, _, _, _, _, _, e⟩
theorem rread4 (w : World) (l : List Int) (hB : Bytes l) : Calls Try.prog 11 #[.agg (bytesV l)] w fun e w' => ∃ v, e = .returned v ∧ RRf (readF l) v w' ∧ Kp NoB w w' := by
  refine (rread_ok w l hB).mono ?_
  rintro e w' ⟨hk, hq⟩
  rcases hr : readF l with _ | ⟨kind, link, cs⟩
  · rw [hr] at hq
    exact ⟨_, hq, rfl, hk⟩
  · rw [hr] at hq
    obtain ⟨A, cap, e, ho, hs⟩ := hq
    exact ⟨_, e, ⟨A, cap, rfl, hs, own_form ho, own_cap ho⟩, hk⟩
structure R1S (w : World) (l m : List Int) (x1 x2 : Option Value) (o7 o8 : Option Nat) (W : World) : Prop where
  kp : Kp NoB w W
  b3 : Blk W w.heap.size 26 (bytesV l)
  b4 : Blk W (w.heap.size + 1) 26 (bytesV m)
  f1 : ∀ v, x1 = some v → RRf (readF l) v W
  f2 : ∀ v, x2 = some v → RRf (readF m) v W
  f7 : ∀ g, o7 = some g → Blk W g 34 zero4 ∧ w.heap.size + 1 < g
  f8 : ∀ g, o8 = some g → Blk W g 34 zero4 ∧ w.heap.size + 1 < g
  ne : ∀ g g', o7 = some g → o8 = some g' → g ≠ g'
section
variable {w : World} {l m : List Int} {x1 x2 : Option Value} {o7 o8 : Option Nat} {W W' : World} {v : Value}
theorem R1S.keep (h : R1S w l m x1 x2 o7 o8 W) (k : Kp NoB W W') : R1S w l m x1 x2 o7 o8 W' :=
  ⟨h.kp.trans k (fun _ _ q => q), h.b3.keep k (fun q => q), h.b4.keep k (fun q => q), fun v e => (h.f1 v e).keep k, fun v e => (h.f2 v e).keep k, fun g e => ⟨(h.f7 g e).1.keep k (fun q => q), (h.f7 g e).2⟩, fun g e => ⟨(h.f8 g e).1.keep k (fun q => q), (h.f8 g e).2⟩, h.ne⟩
theorem R1S.call1 (h : R1S w l m x1 x2 o7 o8 W) (hf : RRf (readF l) v W') (k : Kp NoB W W') : R1S w l m (some v) x2 o7 o8 W' :=
  let q := h.keep k
  ⟨q.kp, q.b3, q.b4, fun u e => (Option.some.inj e) ▸ hf, q.f2, q.f7, q.f8, q.ne⟩
theorem R1S.call2 (h : R1S w l m x1 x2 o7 o8 W) (hf : RRf (readF m) v W') (k : Kp NoB W W') : R1S w l m x1 (some v) o7 o8 W' :=
  let q := h.keep k
  ⟨q.kp, q.b3, q.b4, q.f1, fun u e => (Option.some.inj e) ▸ hf, q.f7, q.f8, q.ne⟩
theorem R1S.alloc7 (h : R1S w l m x1 x2 o7 o8 W) : R1S w l m x1 x2 (some W.heap.size) o8 (W.alloc (.cells zero4 34)) :=
  let q := h.keep ((Kp.refl NoB W).alloc (.cells zero4 34))
  ⟨q.kp, q.b3, q.b4, q.f1, q.f2, fun g e => (Option.some.inj e) ▸ ⟨Blk.new _ _ _, h.b4.lt⟩, q.f8, fun g g' e e' => by have := (h.f8 g' e').1.lt; have := Option.some.inj e; omega⟩
theorem R1S.alloc8 (h : R1S w l m x1 x2 o7 o8 W) : R1S w l m x1 x2 o7 (some W.heap.size) (W.alloc (.cells zero4 34)) :=
  let q := h.keep ((Kp.refl NoB W).alloc (.cells zero4 34))
  ⟨q.kp, q.b3, q.b4, q.f1, q.f2, q.f7, fun g e => (Option.some.inj e) ▸ ⟨Blk.new _ _ _, h.b4.lt⟩, fun g g' e e' => by have := (h.f7 g e).1.lt; have := Option.some.inj e'; omega⟩
def SP (w : World) (l m : List Int) (W : World) : Prop := W.rangeAt w.heap.size 0 (l.map (Value.int .u8)) ∧ W.rangeAt (w.heap.size + 1) 0 (m.map (Value.int .u8))
theorem R1S.sp (h : R1S w l m x1 x2 o7 o8 W) : SP w l m W :=
  ⟨Blk.range (xa := []) (xd := []) (by rw [List.nil_append, List.append_nil]; exact h.b3) 0 rfl, Blk.range (xa := []) (xd := []) (by rw [List.nil_append, List.append_nil]; exact h.b4) 0 rfl⟩
end
/-- behind the two readings -/
structure PA (w : World) (l m : List Int) (g7 g8 : Nat) (c7 c8 : Array Value) (W : World) : Prop where
  kp : Kp NoB w W
  b3 : Blk W w.heap.size 26 (bytesV l)
  b4 : Blk W (w.heap.size + 1) 26 (bytesV m)
  b7 : Blk W g7 34 c7
  b8 : Blk W g8 34 c8
  n7 : w.heap.size + 1 < g7
  n8 : w.heap.size + 1 < g8
  ne : g7 ≠ g8
theorem PA.keep {w : World} {l m : List Int} {g7 g8 : Nat} {c7 c8 : Array Value} {W W' : World} (h : PA w l m g7 g8 c7 c8 W) (k : Kp NoB W W') : PA w l m g7 g8 c7 c8 W' :=
  ⟨h.kp.trans k (fun _ _ q => q), h.b3.keep k (fun q => q), h.b4.keep k (fun q => q), h.b7.keep k (fun q => q), h.b8.keep k (fun q => q), h.n7, h.n8, h.ne⟩
def PA2 (w : World) (l m : List Int) (W : World) (g7 g8 : Nat) (u v : Value) : Prop :=
  ∃ c7 c8, u = .agg c7 ∧ v = .agg c8 ∧ RRf (readF l) u W ∧ RRf (readF m) v W ∧ PA w l m g7 g8 c7 c8 W
theorem zero4_noStr {i : Nat} {s : ByteArray} (h : zero4[i]? = some (.string s)) : False := by
  unfold zero4 at h
  match i, h with
  | 0, h => simp at h
  | 1, h => simp at h
  | 2, h => simp at h
  | 3, h => simp at h
  | n + 4, h => simp at h
/-- bodies' cells are no texts' cells -/
theorem Sl.keepS {W : World} {A : Option Addr} {n : Nat} {xs : List ByteArray} {g : Nat} (h : Sl W A n xs) (hb : Blk W g 34 zero4) (ds : List Value) : Sl (W.setCells g 0 ds) A n xs := by
  refine ⟨h.1, fun hn => ?_⟩
  obtain ⟨g', o', e, hg, hc⟩ := h.2 hn
  have hne : g' ≠ g := by
    rintro rfl
    have h0 := hc 0 hn
    rw [hb.cell] at h0
    exact zero4_noStr h0
  refine ⟨g', o', e, Nat.lt_of_lt_of_le hg (Kp.setCells (S := fun _ => True) (g := g) (.inr trivial) ds 0 W (Kp.refl _ _)).size, fun j hj => ?_⟩
  rw [cell_setCells_far _ hne]
  exact hc j hj
theorem RRf.keepS {r : Option (Int × Int × List ByteArray)} {v : Value} {W : World} (h : RRf r v W) {g : Nat} (hb : Blk W g 34 zero4) (ds : List Value) : RRf r v (W.setCells g 0 ds) := by
  rcases r with _ | ⟨kind, link, cs⟩
  · exact h
  · obtain ⟨A, cap, e, hs, hf, hc⟩ := h
    exact ⟨A, cap, e, hs.keepS hb ds, hf, hc⟩
theorem body4_one (is : Bool) (kind link : Int) (A : Option Addr) (n cap : Nat) : (rBody4 is kind link A n cap).all (·.oneCell') = true := by simp [rBody4, Value.oneCell']
/-- the two readings done, the two bodies' blocks made -/
theorem part1_end {w : World} {l m : List Int} {u v : Value} {g7 g8 : Nat} {W : World} (h : R1S w l m (some u) (some v) (some g7) (some g8) W) :
    ∃ c7 c8 : Array Value, u = .agg c7 ∧ v = .agg c8 ∧ (Try.prog.info? 34).map (·.size) = some c7.size ∧ (Try.prog.info? 34).map (·.size) = some c8.size ∧ True ∧ True ∧ c7.all (·.oneCell') = true ∧ c8.all (·.oneCell') = true ∧
      W.there g7 0 c7.size ∧ (W.setCells g7 0 c7.toList).there g8 0 c8.size ∧ SP w l m (W.setCells g7 0 c7.toList) ∧ SP w l m ((W.setCells g7 0 c7.toList).setCells g8 0 c8.toList) ∧
      PA2 w l m ((W.setCells g7 0 c7.toList).setCells g8 0 c8.toList) g7 g8 u v := by
  obtain ⟨i7, k7, l7, A7, n7, p7, rfl⟩ := (h.f1 u rfl).agg
  obtain ⟨i8, k8, l8, A8, n8, p8, rfl⟩ := (h.f2 v rfl).agg
  obtain ⟨b7, q7⟩ := h.f7 g7 rfl
  obtain ⟨b8, q8⟩ := h.f8 g8 rfl
  have hne := h.ne g7 g8 rfl rfl
  have B7 := b7.whole (rBody4 i7 k7 l7 A7 n7 p7) rfl
  have B8' : Blk (W.setCells g7 0 (rBody4 i7 k7 l7 A7 n7 p7).toList) g8 34 zero4 := b8.farCells (Ne.symm hne) _ _ _
  have B8 := B8'.whole (rBody4 i8 k8 l8 A8 n8 p8) rfl
  have B7' : Blk ((W.setCells g7 0 (rBody4 i7 k7 l7 A7 n7 p7).toList).setCells g8 0 (rBody4 i8 k8 l8 A8 n8 p8).toList) g7 34 (rBody4 i7 k7 l7 A7 n7 p7) := B7.farCells hne _ _ _
  have P3 := h.b3.farCells (g' := g7) (by omega) (rBody4 i7 k7 l7 A7 n7 p7).toList 0 W
  have P4 := h.b4.farCells (g' := g7) (by omega) (rBody4 i7 k7 l7 A7 n7 p7).toList 0 W
  have P3' := P3.farCells (g' := g8) (by omega) (rBody4 i8 k8 l8 A8 n8 p8).toList 0 _
  have P4' := P4.farCells (g' := g8) (by omega) (rBody4 i8 k8 l8 A8 n8 p8).toList 0 _
  have hge : w.heap.size ≤ g7 := by omega
  have hge' : w.heap.size ≤ g8 := by omega
  refine ⟨_, _, rfl, rfl, info34, info34, trivial, trivial, body4_one _ _ _ _ _ _, body4_one _ _ _ _ _ _, b7.thereAll 4 rfl, B8'.thereAll 4 rfl, ?_, ?_, ?_⟩
  · exact ⟨Blk.range (xa := []) (xd := []) (by rw [List.nil_append, List.append_nil]; exact P3) 0 rfl, Blk.range (xa := []) (xd := []) (by rw [List.nil_append, List.append_nil]; exact P4) 0 rfl⟩
  · exact ⟨Blk.range (xa := []) (xd := []) (by rw [List.nil_append, List.append_nil]; exact P3') 0 rfl, Blk.range (xa := []) (xd := []) (by rw [List.nil_append, List.append_nil]; exact P4') 0 rfl⟩
  · refine ⟨_, _, rfl, rfl, ?_, ?_, ⟨Kp.setCells (.inl hge') _ _ _ (Kp.setCells (.inl hge) _ _ _ h.kp), P3', P4', B7', B8, q7, q8, hne⟩⟩
    · exact ((h.f1 _ rfl).keepS b7 _).keepS B8' _
    · exact ((h.f2 _ rfl).keepS b7 _).keepS B8' _
end Go.Proofs.Ytnleoeogcinadaa
