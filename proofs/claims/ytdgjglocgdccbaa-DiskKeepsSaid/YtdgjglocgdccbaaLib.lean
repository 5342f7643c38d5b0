/- Lemmas on memory that the proofs of these statements use; no condition. -/
import Derived.Deep.RegionWith
import Derived.Deep.Cut
import Derived.Deep.CutRange
import Derived.Deep.DeepCutAuto
import Derived.Deep.LoopGhost
import Derived.Deep.RegionHeld3
import Derived.Deep.RegionLaw
import Derived.Deep.DeepFit
import Derived.Deep.DeepMust
import Derived.StillTailTactics
import Derived.Maps.AppendAt
import Derived.Deep.AppendLies
import Derived.WalkKit
import Derived.Deep.MidRow
import Derived.Deep.WholeRow
import Derived.Laws.ResultCell
import Derived.WalkLawsBesides
import Derived.WalkSpells
import Derived.Deep.QuietTactic
import Derived.BigQuiet
import Derived.Lib.Hide
import Derived.Laws.Rows
import Derived.Below
import Derived.Laws.OwnMore
import Derived.Deep.Draws
namespace Go.Proofs.Ytdgjglocgdccbaa
open Go.RowKit

/-- the address of cell k behind an address in a plain block -/
theorem add_mk (g o n : Nat) : (⟨g, o, none⟩ : Addr).add n = ⟨g, o + n, none⟩ := by
  unfold Addr.add; split <;> simp_all

section
variable {P : Program}

/-- cells off .. off+n of a block are the list xs -/
def Sub (w : World) (g off : Nat) (xs : List Value) : Prop := ∀ j v, xs[j]? = some v → w.cell? ⟨g, off + j, none⟩ = some v

theorem run_loadVar_sub (w : World) (g off : Nat) (ty : TypeId) (xs : List Value) (d : TypeDesc) (hs : Sub w g off xs)
    (hu : P.underlying ty = some d) (hd : (match d with | .struct _ | .array _ _ => true | _ => false) = true) (hi : (P.info? ty).map (·.size) = some xs.length) :
    (loadVar ty ⟨g, off, none⟩).run P w = .ok (.agg xs.toArray) w := by
  have hl : (loadCells ⟨g, off, none⟩ xs.length).run P w = .ok xs.toArray w :=
    run_loadCells_list (P := P) w ⟨g, off, none⟩ xs (fun j v hv => by
      rw [add_mk]; exact hs j v hv)
  cases hq : P.info? ty with
  | none => simp [hq] at hi
  | some i =>
    have hs : i.size = xs.length := by simpa [hq] using hi
    have hagg : (isAgg ty).run P w = .ok true w := by
      unfold isAgg
      rw [Sem.run_bind, run_underlying hu w]
      cases d <;> simp_all
    simp [loadVar, Sem.run_bind, hagg, sizeOf, typeInfo, hq, hs, hl]

theorem wp_load_sub {o : Oper} {a : Act} {w : World} {K : Act → World → Prop} {Q : Exit → Act → World → Prop} (ty : TypeId) (x : Operand) (ho : o.op = .load ty x)
    (g off : Nat) (hx : a.eval x = .pointer (some ⟨g, off, none⟩)) (xs : List Value) (d : TypeDesc) (hg : Sub w g off xs)
    (hu : P.underlying ty = some d) (hd : (match d with | .struct _ | .array _ _ => true | _ => false) = true) (hi : (P.info? ty).map (·.size) = some xs.length)
    (h : K (a.put o.dst (.agg xs.toArray)) w) : o.wp P a w K Q := by
  unfold Oper.wp execOp
  simp only [ho, hx, Instr.loadAt, Instr.sureAddr, Sem.run_bind, Sem.run_pure, Result.andThen_ok, run_loadVar_sub w g off ty xs d hg hu hd hi]
  exact h

theorem wpList_load_sub {ops : Array Oper} {rest : List Oper} {o : Oper} {a : Act} {w : World} {Q : Exit → Act → World → Prop} (hgd : o.guard = none) (ty : TypeId) (x : Operand) (ho : o.op = .load ty x)
    (g off : Nat) (hx : a.eval x = .pointer (some ⟨g, off, none⟩)) (xs : List Value) (d : TypeDesc) (hg : Sub w g off xs)
    (hu : P.underlying ty = some d) (hd : (match d with | .struct _ | .array _ _ => true | _ => false) = true) (hi : (P.info? ty).map (·.size) = some xs.length)
    (h : wpList P ops Q rest (a.put o.dst (.agg xs.toArray)) w) : wpList P ops Q (o :: rest) a w :=
  wpList_plain hgd fun _ hK => wp_load_sub ty x ho g off hx xs d hg hu hd hi (hK _ _ h)

/-- an array value indexed, elements of one cell -/
theorem run_index_arr (w : World) (T e n : Nat) (d : TypeDesc) (i : TypeInfo) (hT : P.underlying T = some (.array n e)) (he : P.underlying e = some d) (hd : (match d with | .struct _ | .array _ _ => true | _ => false) = false)
   (hi : P.info? e = some i) (h1 : i.size = 1) (xs : List Value) (k : Nat) (hk : k < n) (v : Value) (hv : xs[k]? = some v) :
   (Instr.index T (.agg xs.toArray) (.int .i64 k)).run P w = .ok v w := by
  have hagg : (isAgg e).run P w = .ok false w := by
      unfold isAgg
      rw [Sem.run_bind, run_underlying he w]
      cases d <;> simp_all
  simp [Instr.index, asIntOf, run_underlying hT, hk, part, hagg, Sem.run_bind, sizeOf, typeInfo, hi, h1, hv]
end

/-- w' is w but for new blocks and the old blocks in S -/
structure Kp (S : Nat → Prop) (w w' : World) : Prop where
  os : w'.os = w.os
  tape : w'.tape = w.tape
  output : w'.output = w.output
  size : w.heap.size ≤ w'.heap.size
  block : ∀ k, k < w.heap.size → ¬ S k → w'.heap[k]? = w.heap[k]?

/-- no old block -/
def NoB : Nat → Prop := fun _ => False
/-- one old block -/
def OnB (b : Nat) : Nat → Prop := fun k => k = b

theorem Kp.refl (S : Nat → Prop) (w : World) : Kp S w w := ⟨rfl, rfl, rfl, Nat.le_refl _, fun _ _ _ => rfl⟩
theorem Kp.trans {S S' : Nat → Prop} {a b c : World} (h : Kp S a b) (k : Kp S' b c) (hS : ∀ i, i < a.heap.size → S' i → S i) : Kp S a c :=
  ⟨k.os.trans h.os, k.tape.trans h.tape, k.output.trans h.output, Nat.le_trans h.size k.size, fun i hi hn => (k.block i (Nat.lt_of_lt_of_le hi h.size) (fun q => hn (hS i hi q))).trans (h.block i hi hn)⟩
theorem Kp.mono {S S' : Nat → Prop} {a b : World} (h : Kp S a b) (hS : ∀ i, i < a.heap.size → S i → S' i) : Kp S' a b :=
  ⟨h.os, h.tape, h.output, h.size, fun i hi hn => h.block i hi (fun q => hn (hS i hi q))⟩
theorem Kp.drew {S : Nat → Prop} {a w : World} (h : Kp S a w) : Kp S a w.drew := ⟨h.os, h.tape, h.output, h.size, h.block⟩
theorem Kp.drewN {S : Nat → Prop} {a w : World} (h : Kp S a w) (n : Nat) : Kp S a (w.drewN n) := ⟨h.os, h.tape, h.output, h.size, h.block⟩
theorem Kp.alloc {S : Nat → Prop} {a w : World} (h : Kp S a w) (o : Obj) : Kp S a (w.alloc o) :=
  ⟨h.os, h.tape, h.output, by have := h.size; simp; omega, fun i hi hn => (Below.heap_alloc w o i (Nat.lt_of_lt_of_le hi h.size)).trans (h.block i hi hn)⟩
theorem Kp.setCell {S : Nat → Prop} {a w : World} (h : Kp S a w) {p : Addr} (hp : a.heap.size ≤ p.block ∨ S p.block) (u : Value) : Kp S a (w.setCell p u) :=
  ⟨h.os, h.tape, h.output, by have := h.size; simpa [World.setCell] using this, fun i hi hn =>
    (Below.heap_setCell w p u i (fun e => by subst e; rcases hp with hp | hp; · omega
                                             · exact hn hp)).trans (h.block i hi hn)⟩
theorem Kp.of_below {S : Nat → Prop} {w w' : World} {B : Nat} (h : Below B w w') (hS : ∀ i, i < w.heap.size → B ≤ i → S i) : Kp S w w' :=
  ⟨h.os, h.tape, h.output, h.size, fun i hi hn => h.block i (Nat.lt_of_not_le (fun hge => hn (hS i hi hge)))⟩
theorem Kp.grown {S : Nat → Prop} {a w w' : World} {row : Option Nat} (h : Kp S a w) (hg : w.grownBy w' row) (hr : ∀ k, row = some k → a.heap.size ≤ k ∨ S k) : Kp S a w' :=
  h.trans (S' := fun k => row = some k) ⟨hg.os, hg.tape, hg.output, hg.size, fun i hi hn => hg.block i hi (fun e => hn e.symm)⟩ (fun i hi e => by
    rcases hr i e with q | q
    · omega
    · exact q)
theorem Kp.below {S : Nat → Prop} {w w' : World} (h : Kp S w w') {B : Nat} (hB : B ≤ w.heap.size) (hS : ∀ k, k < B → ¬ S k) : Below B w w' :=
  ⟨h.os, h.tape, h.output, h.size, fun k hk => h.block k (by omega) (hS k hk)⟩
theorem Kp.none_below {w w' : World} (h : Kp NoB w w') : Below w.heap.size w w' := h.below (Nat.le_refl _) (fun _ _ q => q)
theorem Kp.cell {S : Nat → Prop} {w w' : World} (h : Kp S w w') {g o : Nat} (hg : g < w.heap.size) (hn : ¬ S g) : w'.cell? ⟨g, o, none⟩ = w.cell? ⟨g, o, none⟩ :=
  World.cell?_of_block (w := w) (h.block g hg hn)
theorem Kp.lift {S : Nat → Prop} {w w' : World} (h : Kp S w w') {g : Nat} {o : Obj} (hg : w.heap[g]? = some o) (hn : ¬ S g) : w'.heap[g]? = some o :=
  (h.block g (by rcases Nat.lt_or_ge g w.heap.size with q | q
                 · exact q
                 · rw [Array.getElem?_eq_none q] at hg; cases hg) hn).trans hg
theorem lt_of_heap {w : World} {g : Nat} {o : Obj} (hg : w.heap[g]? = some o) : g < w.heap.size := by
  rcases Nat.lt_or_ge g w.heap.size with q | q
  · exact q
  · rw [Array.getElem?_eq_none q] at hg; cases hg
theorem heap_drew' (w : World) (g : Nat) : (w.drew).heap[g]? = w.heap[g]? := rfl

/-- results: an int, a bool -/
theorem ret_int {k : IntKind} {a b : Int} (h : a = b) : Ending.returned (.int k a) = .returned (.int k b) := by rw [h]
theorem ret_bool {a b : Bool} (h : a = b) : Ending.returned (.bool a) = .returned (.bool b) := by rw [h]
theorem own_ge {w : World} {base : Nat} {e : TypeId} {size n : Nat} {v : Value} {xs : List Value} (h : w.ownsRow base e size v n xs) : ∀ k, v.ownBlock = some k → base ≤ k := by
  intro k hk
  rcases h.2 with ⟨rfl, _⟩ | ⟨g, cap, cur, rfl, hb, _⟩
  · simp [Value.ownBlock] at hk
  · simp [Value.ownBlock] at hk
    omega
theorem Kp.own {S : Nat → Prop} {a w w' : World} {row : Option Nat} {v : Value} {e : TypeId} {size n : Nat} {xs : List Value} {w0 : World} (h : Kp S a w) (hg : w.grownBy w' row) (hv : row = v.ownBlock) (ho : w0.ownsRow a.heap.size e size v n xs) : Kp S a w' :=
  h.grown hg (fun k hk => .inl (own_ge ho k (hv ▸ hk)))

/-- block g is just the cells cs, of element type t, none of them frozen -/
def Blk (w : World) (g : Nat) (t : TypeId) (cs : Array Value) : Prop := w.heap[g]? = some (.cells cs t (0, 0))
section
variable {w w' : World} {g : Nat} {t : TypeId} {cs : Array Value}
theorem Blk.lt (h : Blk w g t cs) : g < w.heap.size := lt_of_heap h
theorem Blk.cell (h : Blk w g t cs) (i : Nat) : w.cell? ⟨g, i, none⟩ = cs[i]? := cell_of_row w g i cs t (0, 0) h
theorem Blk.frozen (h : Blk w g t cs) (i : Nat) : w.frozen? ⟨g, i, none⟩ = false := frozen_of_row w g i cs t h
theorem Blk.new (w : World) (t : TypeId) (cs : Array Value) : Blk (w.alloc (.cells cs t)) w.heap.size t cs := heap_alloc_new w _
theorem Blk.drew (h : Blk w g t cs) : Blk w.drew g t cs := h
theorem Blk.drewN (h : Blk w g t cs) (n : Nat) : Blk (w.drewN n) g t cs := h
theorem Blk.alloc (h : Blk w g t cs) (o : Obj) : Blk (w.alloc o) g t cs := (Below.heap_alloc w o g h.lt).trans h
theorem Blk.set_ (h : Blk w g t cs) (i : Nat) (u : Value) : Blk (w.setCell ⟨g, i, none⟩ u) g t (cs.setIfInBounds i u) := by
  unfold Blk at h ⊢
  simp [World.setCell, Array.getElem?_modify, h]
theorem Blk.far (h : Blk w g t cs) {p : Addr} (hp : g ≠ p.block) (u : Value) : Blk (w.setCell p u) g t cs := (Below.heap_setCell w p u g hp).trans h
theorem Blk.keep {S : Nat → Prop} (h : Blk w g t cs) (k : Kp S w w') (hn : ¬ S g) : Blk w' g t cs := k.lift h hn
theorem Blk.row (h : Blk w g t cs) (cs' : Array Value) : Blk (w.setRow g cs') g t cs' := by
  unfold Blk at h ⊢
  simp [World.setRow, Array.getElem?_modify, h]
theorem Blk.farRow (h : Blk w g t cs) {g' : Nat} (hp : g ≠ g') (cs' : Array Value) : Blk (w.setRow g' cs') g t cs := by
  unfold Blk at h ⊢
  simp only [World.setRow, Array.getElem?_modify]
  rw [if_neg (by omega)]
  exact h
end
theorem Kp.setRow {S : Nat → Prop} {a w : World} (h : Kp S a w) {g : Nat} (hp : a.heap.size ≤ g ∨ S g) (cs : Array Value) : Kp S a (w.setRow g cs) :=
  ⟨h.os, h.tape, h.output, by have := h.size; simpa [World.setRow] using this, fun i hi hn => by
    have hne : i ≠ g := fun e => by
      subst e
      rcases hp with hp | hp
      · omega
      · exact hn hp
    simp only [World.setRow, Array.getElem?_modify]
    rw [if_neg (by omega)]
    exact h.block i hi hn⟩
theorem ret_cell_tmp {P : Program} {fn : Func} {p u : Tmp} {ty : TypeId} (h : fn.results = #[.cell p ty, .tmp u]) (tmps : Array Value) (w : World) (g : Nat) (t : TypeId) (cs : Array Value) (d : TypeDesc)
    (hp : tmps.getD p undef = .pointer (some ⟨g, 0, none⟩)) (hg : Blk w g t cs)
    (hu : P.underlying ty = some d) (hd : (match d with | .struct _ | .array _ _ => true | _ => false) = true) (hi : (P.info? ty).map (·.size) = some cs.size) (x : Value) (hx : tmps.getD u undef = x) :
    (results fn tmps).run P w = .ok (.tuple #[.agg cs, x]) w := by
  rw [results_cell_tmp h, hp]
  simp only [asAddr, Sem.run_pure, Result.andThen_ok, run_loadVar_row w g t ty cs (0, 0) d hg hu hd hi, hx]

section
variable {w w' : World} {base : Nat} {e : TypeId} {size n : Nat} {v : Value} {xs : List Value}
theorem own_slice (h : w.ownsRow base e size v n xs) : ∃ A cap, v = .slice A n cap := by
  rcases h.2 with ⟨rfl, rfl⟩ | ⟨g, cap, cur, rfl, _⟩
  · exact ⟨_, _, rfl⟩
  · exact ⟨_, _, rfl⟩
theorem own_at {A : Option Addr} {cap : Nat} (h : w.ownsRow base e size (.slice A n cap) n xs) (hn : 0 < n) : ∃ g, A = some ⟨g, 0, none⟩ ∧ base ≤ g ∧ g < w.heap.size := by
  obtain ⟨g, c, hv, hb, hl⟩ := h.form hn
  injection hv with h1
  exact ⟨g, h1, hb, hl⟩
theorem own_keep {S : Nat → Prop} (h : w.ownsRow base e size v n xs) (k : Kp S w w') (hS : ∀ g, base ≤ g → g < w.heap.size → ¬ S g) : w'.ownsRow base e size v n xs := by
  refine ⟨h.1, ?_⟩
  rcases h.2 with hn | ⟨g, cap, cur, rfl, hb, hg, rest⟩
  · exact .inl hn
  · exact .inr ⟨g, cap, cur, rfl, hb, k.lift hg (hS g hb (lt_of_heap hg)), rest⟩
end
theorem _root_.Go.World.ownsRow.mono {w : World} {base base' : Nat} {e : TypeId} {size n : Nat} {v : Value} {xs : List Value} (h : w.ownsRow base e size v n xs) (hb : base' ≤ base) : w.ownsRow base' e size v n xs := by
  refine ⟨h.1, ?_⟩
  rcases h.2 with hn | ⟨g, cap, cur, rfl, hg, rest⟩
  · exact .inl hn
  · exact .inr ⟨g, cap, cur, rfl, by omega, rest⟩

/-- a row with the values xs written from place o on -/
def spl : Array Value → Nat → List Value → Array Value
  | cs, _, [] => cs
  | cs, o, v :: r => spl (cs.setIfInBounds o v) (o + 1) r
theorem spl_eq : ∀ (xs xa xb xd : List Value), xb.length = xs.length → spl (xa ++ xb ++ xd).toArray xa.length xs = (xa ++ xs ++ xd).toArray
  | [], xa, xb, xd, h => by
    have : xb = [] := List.eq_nil_of_length_eq_zero (by simpa using h)
    subst this; rfl
  | v :: r, xa, [], xd, h => by simp at h
  | v :: r, xa, b :: xb, xd, h => by
    have h' : xb.length = r.length := by simpa using h
    have e := spl_eq r (xa ++ [v]) xb xd h'
    simp only [List.length_append, List.length_cons, List.length_nil, Nat.zero_add] at e
    have e2 : (xa ++ b :: xb ++ xd).toArray.setIfInBounds xa.length v = (xa ++ [v] ++ xb ++ xd).toArray := by
      rw [List.setIfInBounds_toArray]
      congr 1
      rw [List.append_assoc, List.set_append_right _ _ (Nat.le_refl _), Nat.sub_self]
      simp
    show spl ((xa ++ b :: xb ++ xd).toArray.setIfInBounds xa.length v) (xa.length + 1) r = _
    rw [e2, e]
    simp
section
variable {w w' : World} {g : Nat} {t : TypeId} {cs : Array Value}
theorem Blk.cells {g : Nat} : ∀ (xs : List Value) (o : Nat) (w : World) (cs : Array Value), Blk w g t cs → Blk (w.setCells g o xs) g t (spl cs o xs)
  | [], _, _, _, h => h
  | v :: r, o, w, cs, h => Blk.cells r (o + 1) _ _ (h.set_ o v)
theorem Blk.cellsL {xa xb xd xs : List Value} (h : Blk w g t (xa ++ xb ++ xd).toArray) (o : Nat) (ho : xa.length = o) (hl : xb.length = xs.length) : Blk (w.setCells g o xs) g t (xa ++ xs ++ xd).toArray := by
  subst ho
  have := Blk.cells xs xa.length w _ h
  rw [spl_eq xs xa xb xd hl] at this
  exact this
theorem Blk.farCells {g' : Nat} (hne : g ≠ g') : ∀ (xs : List Value) (o : Nat) (w : World), Blk w g t cs → Blk (w.setCells g' o xs) g t cs
  | [], _, _, h => h
  | v :: r, o, w, h => Blk.farCells hne r (o + 1) _ (h.far (p := ⟨g', o, none⟩) hne v)
theorem Blk.there (h : Blk w g t cs) {o n : Nat} (hn : o + n ≤ cs.size) : w.there g o n := fun j hj => by
  refine ⟨?_, h.frozen _⟩
  rw [h.cell, Array.getElem?_eq_getElem (by omega)]; rfl
theorem Blk.range {xa xb xd : List Value} (h : Blk w g t (xa ++ xb ++ xd).toArray) (o : Nat) (ho : xa.length = o) : w.rangeAt g o xb := fun j v hv => by
  subst ho
  rw [h.cell]
  have hj : j < xb.length := (List.getElem?_eq_some_iff.1 hv).1
  simp only [List.getElem?_toArray]
  rw [List.append_assoc, List.getElem?_append_right (by omega), Nat.add_sub_cancel_left, List.getElem?_append_left hj]
  exact hv
end
theorem Kp.setCells {S : Nat → Prop} {a : World} {g : Nat} (hp : a.heap.size ≤ g ∨ S g) : ∀ (xs : List Value) (o : Nat) (w : World), Kp S a w → Kp S a (w.setCells g o xs)
  | [], _, _, h => h
  | v :: r, o, _, h => Kp.setCells hp r (o + 1) _ (h.setCell (p := ⟨g, o, none⟩) hp v)
theorem size_setCells (g : Nat) : ∀ (xs : List Value) (o : Nat) (w : World), (w.setCells g o xs).heap.size = w.heap.size
  | [], _, _ => rfl
  | v :: r, o, w => (size_setCells g r (o + 1) _).trans (by simp [World.setCell])
/-- of a world only what is named is kept -/
theorem forget {p : World → Prop} {w : World} (inv : World → Prop) (h : inv w) (k : ∀ w', inv w' → p w') : p w := k w h

/-- the n cells of block g from place o on, as they stand -/
def readRow (w : World) (g o n : Nat) : Array Value := ((List.range n).map fun j => (w.cell? ⟨g, o + j, none⟩).getD undef).toArray
section
variable {P : Program}
theorem loadAt_row {T n : Nat} {d : TypeDesc} (hu : P.underlying T = some d) (hd : d.isRow = true) (hi : (P.info? T).map (·.size) = some n) (w : World) (g o : Nat) (h : w.there g o n) :
    (Instr.loadAt T (.pointer (some ⟨g, o, none⟩))).run P w = .ok (.agg (readRow w g o n)) w := by
  refine run_loadAt_mid w g o T ((List.range n).map fun j => (w.cell? ⟨g, o + j, none⟩).getD undef) d (fun j v hv => ?_) hu hd (by simpa using hi)
  rw [List.getElem?_map] at hv
  rcases Nat.lt_or_ge j n with hj | hj
  · rw [List.getElem?_range hj] at hv
    simp only [Option.map_some, Option.some.injEq] at hv
    have := (h j hj).1
    obtain ⟨u, hu⟩ := Option.isSome_iff_exists.1 this
    rw [hu] at hv ⊢
    simpa using hv
  · rw [List.getElem?_eq_none (by simpa using hj)] at hv
    cases hv
theorem storeAt_row {T n : Nat} (hi : (P.info? T).map (·.size) = some n) (w : World) (g o : Nat) (cs : Array Value) (hc : cs.size = n) (h1 : cs.all (·.oneCell') = true) (h : w.there g o n) :
    (Instr.storeAt T (.pointer (some ⟨g, o, none⟩)) (.agg cs)).run P w = .ok () (w.setCells g o cs.toList) := by
  simp only [Instr.storeAt, Instr.sureAddr, Sem.run_bind, Sem.run_pure, Result.andThen_ok]
  exact run_storeVar_mid w g o T cs (by rw [hc]; exact h) (by rw [hc]; exact hi) h1
end
theorem Blk.read {w : World} {g : Nat} {t : TypeId} {xa xb xd : List Value} (h : Blk w g t (xa ++ xb ++ xd).toArray) (o n : Nat) (ho : xa.length = o) (hn : xb.length = n) : readRow w g o n = xb.toArray := by
  subst ho; subst hn
  unfold readRow
  congr 1
  apply List.ext_getElem
  · simp
  · intro j h1 h2
    simp only [List.getElem_map, List.getElem_range]
    rw [h.cell]
    simp only [List.getElem?_toArray]
    rw [List.append_assoc, List.getElem?_append_right (by omega), Nat.add_sub_cancel_left, List.getElem?_append_left (by simpa using h1), List.getElem?_eq_getElem (by simpa using h1)]
    rfl
theorem Blk.readAll {w : World} {g : Nat} {t : TypeId} {cs : Array Value} (h : Blk w g t cs) (n : Nat) (hn : cs.size = n) : readRow w g 0 n = cs := by
  have := Blk.read (xa := []) (xb := cs.toList) (xd := []) (by simpa using h) 0 n rfl (by simpa using hn)
  simpa using this
theorem readRow_congr {w w' : World} {g o n : Nat} (h : w'.heap[g]? = w.heap[g]?) : readRow w' g o n = readRow w g o n := by
  unfold readRow
  congr 2
  funext j
  rw [World.cell?_of_block (w := w) (w' := w') (a := ⟨g, o + j, none⟩) h]
theorem there_congr {w w' : World} {g o n : Nat} (h : w'.heap[g]? = w.heap[g]?) (ht : w.there g o n) : w'.there g o n := fun j hj => by
  rw [World.cell?_of_block (w := w) (w' := w') (a := ⟨g, o + j, none⟩) h, World.frozen?_of_block (w := w) (w' := w') (a := ⟨g, o + j, none⟩) h]
  exact ht j hj
theorem heap_setCells_far (g : Nat) {k : Nat} (hne : k ≠ g) : ∀ (xs : List Value) (o : Nat) (w : World), (w.setCells g o xs).heap[k]? = w.heap[k]?
  | [], _, _ => rfl
  | v :: r, o, w => (heap_setCells_far g hne r (o + 1) _).trans (Below.heap_setCell w ⟨g, o, none⟩ v k hne)
theorem cell_setCells_far (g : Nat) {k j : Nat} (hne : k ≠ g) (xs : List Value) (o : Nat) (w : World) : (w.setCells g o xs).cell? ⟨k, j, none⟩ = w.cell? ⟨k, j, none⟩ :=
  World.cell?_of_block (w := w) (heap_setCells_far g hne xs o w)
theorem readRow_far (g : Nat) {k j n : Nat} (hne : k ≠ g) (xs : List Value) (o : Nat) (w : World) : readRow (w.setCells g o xs) k j n = readRow w k j n := readRow_congr (heap_setCells_far g hne xs o w)
@[simp, go_sem] theorem readRow_drew (w : World) (g o n : Nat) : readRow w.drew g o n = readRow w g o n := rfl

/-- the same behind a pointer's value -/
def thereP (w : World) : Value → Nat → Prop
  | .pointer (some ⟨g, o, none⟩), n => w.there g o n
  | _, _ => False
def readP (w : World) : Value → Nat → Array Value
  | .pointer (some ⟨g, o, none⟩), n => readRow w g o n
  | _, _ => #[]
def setP (w : World) : Value → Value → World
  | .pointer (some ⟨g, o, none⟩), .agg cs => w.setCells g o cs.toList
  | _, _ => w
def ones (cs : Array Value) : Prop := cs.all (·.oneCell') = true
def aggOK : Value → Nat → Prop
  | .agg cs, n => cs.size = n ∧ ones cs
  | _, _ => False
@[go_sem] theorem thereP_mk (w : World) (g o n : Nat) : thereP w (.pointer (some ⟨g, o, none⟩)) n = w.there g o n := rfl
@[go_sem] theorem readP_mk (w : World) (g o n : Nat) : readP w (.pointer (some ⟨g, o, none⟩)) n = readRow w g o n := rfl
@[go_sem] theorem setP_mk (w : World) (g o : Nat) (cs : Array Value) : setP w (.pointer (some ⟨g, o, none⟩)) (.agg cs) = w.setCells g o cs.toList := rfl
@[go_sem] theorem aggOK_mk (cs : Array Value) (n : Nat) : aggOK (.agg cs) n = (cs.size = n ∧ ones cs) := rfl
section
variable {P : Program}
theorem loadAt_P {T n : Nat} {d : TypeDesc} (hu : P.underlying T = some d) (hd : d.isRow = true) (hi : (P.info? T).map (·.size) = some n) (w : World) (p : Value) (h : thereP w p n) :
    (Instr.loadAt T p).run P w = .ok (.agg (readP w p n)) w := by
  unfold thereP at h
  split at h
  · exact loadAt_row hu hd hi w _ _ h
  · exact h.elim
theorem storeAt_P {T n : Nat} (hi : (P.info? T).map (·.size) = some n) (w : World) (p v : Value) (hv : aggOK v n) (h : thereP w p n) :
    (Instr.storeAt T p v).run P w = .ok () (setP w p v) := by
  unfold thereP at h
  split at h
  · unfold aggOK at hv
    split at hv
    · exact storeAt_row hi w _ _ _ hv.1 hv.2 h
    · exact hv.elim
  · exact h.elim
theorem execLoad_P {T n : Nat} {d : TypeDesc} (hu : P.underlying T = some d) (hd : d.isRow = true) (hi : (P.info? T).map (·.size) = some n) (w : World) (ev : Operand → Value) (ds : Option Tmp) (x : Operand) (ty : TypeId) (ps : String) (af : Array Edge) (g : Option (Nat × Bool)) (h : thereP w (ev x) n) :
    (execOp ev ⟨ds, .load T x, ty, ps, af, g⟩).run P w = .ok (.value (.agg (readP w (ev x) n))) w := by
  simp only [execOp, Sem.run_bind, Sem.run_pure, Result.andThen_ok, loadAt_P hu hd hi w (ev x) h]
theorem execStore_P {T n : Nat} (hi : (P.info? T).map (·.size) = some n) (w : World) (ev : Operand → Value) (ds : Option Tmp) (x y : Operand) (ty : TypeId) (ps : String) (af : Array Edge) (g : Option (Nat × Bool)) (hv : aggOK (ev y) n) (h : thereP w (ev x) n) :
    (execOp ev ⟨ds, .store T x y, ty, ps, af, g⟩).run P w = .ok .skip (setP w (ev x) (ev y)) := by
  simp only [execOp, Sem.run_bind, Sem.run_pure, Result.andThen_ok, storeAt_P hi w (ev x) (ev y) hv h]
end
theorem Blk.newAt (w : World) (t : TypeId) (cs : Array Value) (g : Nat) (h : w.heap.size = g) : Blk (w.alloc (.cells cs t)) g t cs := by
  subst h; exact Blk.new w t cs
theorem Blk.whole {w : World} {g : Nat} {t : TypeId} {cs : Array Value} (h : Blk w g t cs) (ds : Array Value) (hl : cs.size = ds.size) : Blk (w.setCells g 0 ds.toList) g t ds := by
  have := Blk.cellsL (xa := []) (xb := cs.toList) (xd := []) (xs := ds.toList) (by simpa using h) 0 rfl (by simpa using hl)
  simpa using this
theorem Blk.thereAll {w : World} {g : Nat} {t : TypeId} {cs : Array Value} (h : Blk w g t cs) (n : Nat) (hn : cs.size = n) : w.there g 0 n := Blk.there h (by omega)

/-- a part of an array behind a pointer -/
def sliceV : Value → Value → Value → Nat → Value
  | .pointer (some ⟨g, o, none⟩), .int _ lo, .int _ hi, n => .slice (some (if n = lo.toNat then ⟨g, o, none⟩ else ⟨g, o + lo.toNat, none⟩)) (hi.toNat - lo.toNat) (n - lo.toNat)
  | _, _, _, _ => undef
def sliceOK : Value → Value → Value → Nat → Prop
  | .pointer (some ⟨_, _, none⟩), .int .i64 lo, .int .i64 hi, n => 0 ≤ lo ∧ lo ≤ hi ∧ hi ≤ n
  | _, _, _, _ => False
@[go_sem] theorem sliceV_mk (g o n : Nat) (k k' : IntKind) (lo hi : Int) : sliceV (.pointer (some ⟨g, o, none⟩)) (.int k lo) (.int k' hi) n = .slice (some (if n = lo.toNat then ⟨g, o, none⟩ else ⟨g, o + lo.toNat, none⟩)) (hi.toNat - lo.toNat) (n - lo.toNat) := rfl
@[go_sem] theorem sliceOK_mk (g o n : Nat) (lo hi : Int) : sliceOK (.pointer (some ⟨g, o, none⟩)) (.int .i64 lo) (.int .i64 hi) n = (0 ≤ lo ∧ lo ≤ hi ∧ hi ≤ n) := rfl
section
variable {P : Program}
theorem sliceAt_V {T n : Nat} {e : TypeId} (hu : P.underlying T = some (.array n e)) (he : (P.info? e).map (·.size) = some 1) (w : World) (g o : Nat) (l h : Option Value) (lo hi : Nat)
    (hb : (Instr.sliceBounds false n n l h none).run P w = .ok (lo, hi, n) w) :
    (Instr.sliceAt T (.pointer (some ⟨g, o, none⟩)) l h none).run P w = .ok (.slice (some (if n = lo then ⟨g, o, none⟩ else ⟨g, o + lo, none⟩)) (hi - lo) (n - lo)) w := by
  cases hq : P.info? e with
  | none => simp [hq] at he
  | some i =>
    have hs : i.size = 1 := by simpa [hq] using he
    simp only [Instr.sliceAt, Sem.run_bind, run_underlying hu, Result.andThen_ok, Instr.sureAddr, Sem.run_pure, hb, sizeOf, typeInfo]
    simp [hq, hs, add_mk]
theorem bound_ok (w : World) (k : IntKind) (v : Int) (n : Nat) (kind : BoundsCode) (h0 : 0 ≤ v) (h1 : v ≤ n) : (Instr.sliceBound (.int k v) n kind).run P w = .ok v.toNat w := by
  simp [Instr.sliceBound, asIntOf, h0, h1]
theorem sliceOK_inv {x l h : Value} {n : Nat} (hk : sliceOK x l h n) : ∃ g o lo hi, x = .pointer (some ⟨g, o, none⟩) ∧ l = .int .i64 lo ∧ h = .int .i64 hi ∧ 0 ≤ lo ∧ lo ≤ hi ∧ hi ≤ n := by
  unfold sliceOK at hk
  split at hk
  · exact ⟨_, _, _, _, rfl, rfl, rfl, hk⟩
  · exact hk.elim
theorem execSlice_lo {T n : Nat} {e : TypeId} (hu : P.underlying T = some (.array n e)) (he : (P.info? e).map (·.size) = some 1) (w : World) (ev : Operand → Value) (ds : Option Tmp) (x lo : Operand) (ty : TypeId) (ps : String) (af : Array Edge) (g : Option (Nat × Bool))
    (h : sliceOK (ev x) (ev lo) (.int .i64 n) n) : (execOp ev ⟨ds, .slice T x (some lo) none none, ty, ps, af, g⟩).run P w = .ok (.value (sliceV (ev x) (ev lo) (.int .i64 n) n)) w := by
  obtain ⟨g', o', v1, v2, hx, hl, e1, h0, h1, h2⟩ := sliceOK_inv h
  injection e1 with _ e1
  subst e1
  have hb : (Instr.sliceBounds false n n (some (.int .i64 v1)) none none).run P w = .ok (v1.toNat, n, n) w := by
    simp [Instr.sliceBounds, bound_ok w .i64 v1 n _ h0 h1]
  simp only [execOp, hx, hl, Option.map_some, Option.map_none, Sem.run_bind, sliceAt_V hu he w _ _ _ _ _ _ hb, Result.andThen_ok, Sem.run_pure, sliceV_mk, Int.toNat_natCast]
theorem execSlice_lohi {T n : Nat} {e : TypeId} (hu : P.underlying T = some (.array n e)) (he : (P.info? e).map (·.size) = some 1) (w : World) (ev : Operand → Value) (ds : Option Tmp) (x lo hi : Operand) (ty : TypeId) (ps : String) (af : Array Edge) (g : Option (Nat × Bool))
    (h : sliceOK (ev x) (ev lo) (ev hi) n) : (execOp ev ⟨ds, .slice T x (some lo) (some hi) none, ty, ps, af, g⟩).run P w = .ok (.value (sliceV (ev x) (ev lo) (ev hi) n)) w := by
  obtain ⟨g', o', v1, v2, hx, hl, hh, h0, h1, h2⟩ := sliceOK_inv h
  have hb : (Instr.sliceBounds false n n (some (.int .i64 v1)) (some (.int .i64 v2)) none).run P w = .ok (v1.toNat, v2.toNat, n) w := by
    simp [Instr.sliceBounds, bound_ok w .i64 v2 n _ (by omega) h2, bound_ok w .i64 v1 v2.toNat _ h0 (by omega)]
  simp only [execOp, hx, hl, hh, Option.map_some, Option.map_none, Sem.run_bind, sliceAt_V hu he w _ _ _ _ _ _ hb, Result.andThen_ok, Sem.run_pure, sliceV_mk]
end
end Go.Proofs.Ytdgjglocgdccbaa
