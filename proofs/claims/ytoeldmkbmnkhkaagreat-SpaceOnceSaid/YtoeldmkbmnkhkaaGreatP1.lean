/- Texts of this proof, one behind the other: lemmas and contracts; each says its own conditions. -/
import Derived.Deep.RegionWith
import Derived.Deep.Cut
import Derived.Deep.CutRange
import Derived.Deep.DeepCutAuto
import Derived.Deep.LoopGhost
import Derived.Deep.RegionHeld3
import Derived.Deep.RegionLaw
import Derived.Deep.DeepFit
import Derived.Deep.DeepMust
import Derived.StillTailTactics
import Derived.Maps.AppendAt
import Derived.Deep.AppendLies
import Derived.WalkKit
import Derived.Deep.MidRow
import Derived.Deep.WholeRow
import Derived.Laws.ResultCell
import Derived.WalkLawsBesides
import Derived.WalkSpells
import Derived.Deep.QuietTactic
import Derived.BigQuiet
import Derived.Lib.Hide
import Derived.Laws.Rows
import Derived.Below
import Derived.Laws.OwnMore
import Derived.Deep.Draws
import Derived.Test.YtoeldmkbmnkhkaaGreatProg
import Derived.Lib.LazyBuf
/- Lemmas on memory that the proofs of these statements use; no condition. -/
namespace Go.Proofs.YtoeldmkbmnkhkaaGreat
open Go.RowKit

/-- the address of cell k behind an address in a plain block -/
theorem add_mk (g o n : Nat) : (⟨g, o, none⟩ : Addr).add n = ⟨g, o + n, none⟩ := by
  unfold Addr.add; split <;> simp_all

section
variable {P : Program}

/-- cells off .. off+n of a block are the list xs -/
def Sub (w : World) (g off : Nat) (xs : List Value) : Prop := ∀ j v, xs[j]? = some v → w.cell? ⟨g, off + j, none⟩ = some v

theorem run_loadVar_sub (w : World) (g off : Nat) (ty : TypeId) (xs : List Value) (d : TypeDesc) (hs : Sub w g off xs)
    (hu : P.underlying ty = some d) (hd : (match d with | .struct _ | .array _ _ => true | _ => false) = true) (hi : (P.info? ty).map (·.size) = some xs.length) :
    (loadVar ty ⟨g, off, none⟩).run P w = .ok (.agg xs.toArray) w := by
  have hl : (loadCells ⟨g, off, none⟩ xs.length).run P w = .ok xs.toArray w :=
    run_loadCells_list (P := P) w ⟨g, off, none⟩ xs (fun j v hv => by
      rw [add_mk]; exact hs j v hv)
  cases hq : P.info? ty with
  | none => simp [hq] at hi
  | some i =>
    have hs : i.size = xs.length := by simpa [hq] using hi
    have hagg : (isAgg ty).run P w = .ok true w := by
      unfold isAgg
      rw [Sem.run_bind, run_underlying hu w]
      cases d <;> simp_all
    simp [loadVar, Sem.run_bind, hagg, sizeOf, typeInfo, hq, hs, hl]

theorem wp_load_sub {o : Oper} {a : Act} {w : World} {K : Act → World → Prop} {Q : Exit → Act → World → Prop} (ty : TypeId) (x : Operand) (ho : o.op = .load ty x)
    (g off : Nat) (hx : a.eval x = .pointer (some ⟨g, off, none⟩)) (xs : List Value) (d : TypeDesc) (hg : Sub w g off xs)
    (hu : P.underlying ty = some d) (hd : (match d with | .struct _ | .array _ _ => true | _ => false) = true) (hi : (P.info? ty).map (·.size) = some xs.length)
    (h : K (a.put o.dst (.agg xs.toArray)) w) : o.wp P a w K Q := by
  unfold Oper.wp execOp
  simp only [ho, hx, Instr.loadAt, Instr.sureAddr, Sem.run_bind, Sem.run_pure, Result.andThen_ok, run_loadVar_sub w g off ty xs d hg hu hd hi]
  exact h

theorem wpList_load_sub {ops : Array Oper} {rest : List Oper} {o : Oper} {a : Act} {w : World} {Q : Exit → Act → World → Prop} (hgd : o.guard = none) (ty : TypeId) (x : Operand) (ho : o.op = .load ty x)
    (g off : Nat) (hx : a.eval x = .pointer (some ⟨g, off, none⟩)) (xs : List Value) (d : TypeDesc) (hg : Sub w g off xs)
    (hu : P.underlying ty = some d) (hd : (match d with | .struct _ | .array _ _ => true | _ => false) = true) (hi : (P.info? ty).map (·.size) = some xs.length)
    (h : wpList P ops Q rest (a.put o.dst (.agg xs.toArray)) w) : wpList P ops Q (o :: rest) a w :=
  wpList_plain hgd fun _ hK => wp_load_sub ty x ho g off hx xs d hg hu hd hi (hK _ _ h)

/-- an array value indexed, elements of one cell -/
theorem run_index_arr (w : World) (T e n : Nat) (d : TypeDesc) (i : TypeInfo) (hT : P.underlying T = some (.array n e)) (he : P.underlying e = some d) (hd : (match d with | .struct _ | .array _ _ => true | _ => false) = false)
   (hi : P.info? e = some i) (h1 : i.size = 1) (xs : List Value) (k : Nat) (hk : k < n) (v : Value) (hv : xs[k]? = some v) :
   (Instr.index T (.agg xs.toArray) (.int .i64 k)).run P w = .ok v w := by
  have hagg : (isAgg e).run P w = .ok false w := by
      unfold isAgg
      rw [Sem.run_bind, run_underlying he w]
      cases d <;> simp_all
  simp [Instr.index, asIntOf, run_underlying hT, hk, part, hagg, Sem.run_bind, sizeOf, typeInfo, hi, h1, hv]
end

/-- w' is w but for new blocks and the old blocks in S -/
structure Kp (S : Nat → Prop) (w w' : World) : Prop where
  os : w'.os = w.os
  tape : w'.tape = w.tape
  output : w'.output = w.output
  size : w.heap.size ≤ w'.heap.size
  block : ∀ k, k < w.heap.size → ¬ S k → w'.heap[k]? = w.heap[k]?

/-- no old block -/
def NoB : Nat → Prop := fun _ => False
/-- one old block -/
def OnB (b : Nat) : Nat → Prop := fun k => k = b

theorem Kp.refl (S : Nat → Prop) (w : World) : Kp S w w := ⟨rfl, rfl, rfl, Nat.le_refl _, fun _ _ _ => rfl⟩
theorem Kp.trans {S S' : Nat → Prop} {a b c : World} (h : Kp S a b) (k : Kp S' b c) (hS : ∀ i, i < a.heap.size → S' i → S i) : Kp S a c :=
  ⟨k.os.trans h.os, k.tape.trans h.tape, k.output.trans h.output, Nat.le_trans h.size k.size, fun i hi hn => (k.block i (Nat.lt_of_lt_of_le hi h.size) (fun q => hn (hS i hi q))).trans (h.block i hi hn)⟩
theorem Kp.mono {S S' : Nat → Prop} {a b : World} (h : Kp S a b) (hS : ∀ i, i < a.heap.size → S i → S' i) : Kp S' a b :=
  ⟨h.os, h.tape, h.output, h.size, fun i hi hn => h.block i hi (fun q => hn (hS i hi q))⟩
theorem Kp.drew {S : Nat → Prop} {a w : World} (h : Kp S a w) : Kp S a w.drew := ⟨h.os, h.tape, h.output, h.size, h.block⟩
theorem Kp.drewN {S : Nat → Prop} {a w : World} (h : Kp S a w) (n : Nat) : Kp S a (w.drewN n) := ⟨h.os, h.tape, h.output, h.size, h.block⟩
theorem Kp.alloc {S : Nat → Prop} {a w : World} (h : Kp S a w) (o : Obj) : Kp S a (w.alloc o) :=
  ⟨h.os, h.tape, h.output, by have := h.size; simp; omega, fun i hi hn => (Below.heap_alloc w o i (Nat.lt_of_lt_of_le hi h.size)).trans (h.block i hi hn)⟩
theorem Kp.setCell {S : Nat → Prop} {a w : World} (h : Kp S a w) {p : Addr} (hp : a.heap.size ≤ p.block ∨ S p.block) (u : Value) : Kp S a (w.setCell p u) :=
  ⟨h.os, h.tape, h.output, by have := h.size; simpa [World.setCell] using this, fun i hi hn =>
    (Below.heap_setCell w p u i (fun e => by subst e; rcases hp with hp | hp; · omega
                                             · exact hn hp)).trans (h.block i hi hn)⟩
theorem Kp.grown {S : Nat → Prop} {a w w' : World} {row : Option Nat} (h : Kp S a w) (hg : w.grownBy w' row) (hr : ∀ k, row = some k → a.heap.size ≤ k ∨ S k) : Kp S a w' :=
  h.trans (S' := fun k => row = some k) ⟨hg.os, hg.tape, hg.output, hg.size, fun i hi hn => hg.block i hi (fun e => hn e.symm)⟩ (fun i hi e => by
    rcases hr i e with q | q
    · omega
    · exact q)
theorem Kp.below {S : Nat → Prop} {w w' : World} (h : Kp S w w') {B : Nat} (hB : B ≤ w.heap.size) (hS : ∀ k, k < B → ¬ S k) : Below B w w' :=
  ⟨h.os, h.tape, h.output, h.size, fun k hk => h.block k (by omega) (hS k hk)⟩
theorem Kp.none_below {w w' : World} (h : Kp NoB w w') : Below w.heap.size w w' := h.below (Nat.le_refl _) (fun _ _ q => q)
theorem Kp.cell {S : Nat → Prop} {w w' : World} (h : Kp S w w') {g o : Nat} (hg : g < w.heap.size) (hn : ¬ S g) : w'.cell? ⟨g, o, none⟩ = w.cell? ⟨g, o, none⟩ :=
  World.cell?_of_block (w := w) (h.block g hg hn)
theorem Kp.lift {S : Nat → Prop} {w w' : World} (h : Kp S w w') {g : Nat} {o : Obj} (hg : w.heap[g]? = some o) (hn : ¬ S g) : w'.heap[g]? = some o :=
  (h.block g (by rcases Nat.lt_or_ge g w.heap.size with q | q
                 · exact q
                 · rw [Array.getElem?_eq_none q] at hg; cases hg) hn).trans hg
theorem lt_of_heap {w : World} {g : Nat} {o : Obj} (hg : w.heap[g]? = some o) : g < w.heap.size := by
  rcases Nat.lt_or_ge g w.heap.size with q | q
  · exact q
  · rw [Array.getElem?_eq_none q] at hg; cases hg
/-- results: an int, a bool -/
theorem ret_int {k : IntKind} {a b : Int} (h : a = b) : Ending.returned (.int k a) = .returned (.int k b) := by rw [h]
theorem ret_bool {a b : Bool} (h : a = b) : Ending.returned (.bool a) = .returned (.bool b) := by rw [h]
theorem own_ge {w : World} {base : Nat} {e : TypeId} {size n : Nat} {v : Value} {xs : List Value} (h : w.ownsRow base e size v n xs) : ∀ k, v.ownBlock = some k → base ≤ k := by
  intro k hk
  rcases h.2 with ⟨rfl, _⟩ | ⟨g, cap, cur, rfl, hb, _⟩
  · simp [Value.ownBlock] at hk
  · simp [Value.ownBlock] at hk
    omega
theorem Kp.own {S : Nat → Prop} {a w w' : World} {row : Option Nat} {v : Value} {e : TypeId} {size n : Nat} {xs : List Value} {w0 : World} (h : Kp S a w) (hg : w.grownBy w' row) (hv : row = v.ownBlock) (ho : w0.ownsRow a.heap.size e size v n xs) : Kp S a w' :=
  h.grown hg (fun k hk => .inl (own_ge ho k (hv ▸ hk)))

/-- block g is just the cells cs, of element type t, none of them frozen -/
def Blk (w : World) (g : Nat) (t : TypeId) (cs : Array Value) : Prop := w.heap[g]? = some (.cells cs t (0, 0))
section
variable {w w' : World} {g : Nat} {t : TypeId} {cs : Array Value}
theorem Blk.lt (h : Blk w g t cs) : g < w.heap.size := lt_of_heap h
theorem Blk.cell (h : Blk w g t cs) (i : Nat) : w.cell? ⟨g, i, none⟩ = cs[i]? := cell_of_row w g i cs t (0, 0) h
theorem Blk.frozen (h : Blk w g t cs) (i : Nat) : w.frozen? ⟨g, i, none⟩ = false := frozen_of_row w g i cs t h
theorem Blk.new (w : World) (t : TypeId) (cs : Array Value) : Blk (w.alloc (.cells cs t)) w.heap.size t cs := heap_alloc_new w _
theorem Blk.drew (h : Blk w g t cs) : Blk w.drew g t cs := h
theorem Blk.drewN (h : Blk w g t cs) (n : Nat) : Blk (w.drewN n) g t cs := h
theorem Blk.alloc (h : Blk w g t cs) (o : Obj) : Blk (w.alloc o) g t cs := (Below.heap_alloc w o g h.lt).trans h
theorem Blk.set_ (h : Blk w g t cs) (i : Nat) (u : Value) : Blk (w.setCell ⟨g, i, none⟩ u) g t (cs.setIfInBounds i u) := by
  unfold Blk at h ⊢
  simp [World.setCell, Array.getElem?_modify, h]
theorem Blk.far (h : Blk w g t cs) {p : Addr} (hp : g ≠ p.block) (u : Value) : Blk (w.setCell p u) g t cs := (Below.heap_setCell w p u g hp).trans h
theorem Blk.keep {S : Nat → Prop} (h : Blk w g t cs) (k : Kp S w w') (hn : ¬ S g) : Blk w' g t cs := k.lift h hn
theorem Blk.row (h : Blk w g t cs) (cs' : Array Value) : Blk (w.setRow g cs') g t cs' := by
  unfold Blk at h ⊢
  simp [World.setRow, Array.getElem?_modify, h]
end
theorem Kp.setRow {S : Nat → Prop} {a w : World} (h : Kp S a w) {g : Nat} (hp : a.heap.size ≤ g ∨ S g) (cs : Array Value) : Kp S a (w.setRow g cs) :=
  ⟨h.os, h.tape, h.output, by have := h.size; simpa [World.setRow] using this, fun i hi hn => by
    have hne : i ≠ g := fun e => by
      subst e
      rcases hp with hp | hp
      · omega
      · exact hn hp
    simp only [World.setRow, Array.getElem?_modify]
    rw [if_neg (by omega)]
    exact h.block i hi hn⟩
theorem ret_cell_tmp {P : Program} {fn : Func} {p u : Tmp} {ty : TypeId} (h : fn.results = #[.cell p ty, .tmp u]) (tmps : Array Value) (w : World) (g : Nat) (t : TypeId) (cs : Array Value) (d : TypeDesc)
    (hp : tmps.getD p undef = .pointer (some ⟨g, 0, none⟩)) (hg : Blk w g t cs)
    (hu : P.underlying ty = some d) (hd : (match d with | .struct _ | .array _ _ => true | _ => false) = true) (hi : (P.info? ty).map (·.size) = some cs.size) (x : Value) (hx : tmps.getD u undef = x) :
    (results fn tmps).run P w = .ok (.tuple #[.agg cs, x]) w := by
  rw [results_cell_tmp h, hp]
  simp only [asAddr, Sem.run_pure, Result.andThen_ok, run_loadVar_row w g t ty cs (0, 0) d hg hu hd hi, hx]

section
variable {w w' : World} {base : Nat} {e : TypeId} {size n : Nat} {v : Value} {xs : List Value}
theorem own_slice (h : w.ownsRow base e size v n xs) : ∃ A cap, v = .slice A n cap := by
  rcases h.2 with ⟨rfl, rfl⟩ | ⟨g, cap, cur, rfl, _⟩
  · exact ⟨_, _, rfl⟩
  · exact ⟨_, _, rfl⟩
theorem own_at {A : Option Addr} {cap : Nat} (h : w.ownsRow base e size (.slice A n cap) n xs) (hn : 0 < n) : ∃ g, A = some ⟨g, 0, none⟩ ∧ base ≤ g ∧ g < w.heap.size := by
  obtain ⟨g, c, hv, hb, hl⟩ := h.form hn
  injection hv with h1
  exact ⟨g, h1, hb, hl⟩
theorem own_keep {S : Nat → Prop} (h : w.ownsRow base e size v n xs) (k : Kp S w w') (hS : ∀ g, base ≤ g → g < w.heap.size → ¬ S g) : w'.ownsRow base e size v n xs := by
  refine ⟨h.1, ?_⟩
  rcases h.2 with hn | ⟨g, cap, cur, rfl, hb, hg, rest⟩
  · exact .inl hn
  · exact .inr ⟨g, cap, cur, rfl, hb, k.lift hg (hS g hb (lt_of_heap hg)), rest⟩
end
theorem _root_.Go.World.ownsRow.mono {w : World} {base base' : Nat} {e : TypeId} {size n : Nat} {v : Value} {xs : List Value} (h : w.ownsRow base e size v n xs) (hb : base' ≤ base) : w.ownsRow base' e size v n xs := by
  refine ⟨h.1, ?_⟩
  rcases h.2 with hn | ⟨g, cap, cur, rfl, hg, rest⟩
  · exact .inl hn
  · exact .inr ⟨g, cap, cur, rfl, by omega, rest⟩

/-- a row with the values xs written from place o on -/
def spl : Array Value → Nat → List Value → Array Value
  | cs, _, [] => cs
  | cs, o, v :: r => spl (cs.setIfInBounds o v) (o + 1) r
theorem spl_eq : ∀ (xs xa xb xd : List Value), xb.length = xs.length → spl (xa ++ xb ++ xd).toArray xa.length xs = (xa ++ xs ++ xd).toArray
  | [], xa, xb, xd, h => by
    have : xb = [] := List.eq_nil_of_length_eq_zero (by simpa using h)
    subst this; rfl
  | v :: r, xa, [], xd, h => by simp at h
  | v :: r, xa, b :: xb, xd, h => by
    have h' : xb.length = r.length := by simpa using h
    have e := spl_eq r (xa ++ [v]) xb xd h'
    simp only [List.length_append, List.length_cons, List.length_nil, Nat.zero_add] at e
    have e2 : (xa ++ b :: xb ++ xd).toArray.setIfInBounds xa.length v = (xa ++ [v] ++ xb ++ xd).toArray := by
      rw [List.setIfInBounds_toArray]
      congr 1
      rw [List.append_assoc, List.set_append_right _ _ (Nat.le_refl _), Nat.sub_self]
      simp
    show spl ((xa ++ b :: xb ++ xd).toArray.setIfInBounds xa.length v) (xa.length + 1) r = _
    rw [e2, e]
    simp
section
variable {w w' : World} {g : Nat} {t : TypeId} {cs : Array Value}
theorem Blk.cells {g : Nat} : ∀ (xs : List Value) (o : Nat) (w : World) (cs : Array Value), Blk w g t cs → Blk (w.setCells g o xs) g t (spl cs o xs)
  | [], _, _, _, h => h
  | v :: r, o, w, cs, h => Blk.cells r (o + 1) _ _ (h.set_ o v)
theorem Blk.cellsL {xa xb xd xs : List Value} (h : Blk w g t (xa ++ xb ++ xd).toArray) (o : Nat) (ho : xa.length = o) (hl : xb.length = xs.length) : Blk (w.setCells g o xs) g t (xa ++ xs ++ xd).toArray := by
  subst ho
  have := Blk.cells xs xa.length w _ h
  rw [spl_eq xs xa xb xd hl] at this
  exact this
theorem Blk.farCells {g' : Nat} (hne : g ≠ g') : ∀ (xs : List Value) (o : Nat) (w : World), Blk w g t cs → Blk (w.setCells g' o xs) g t cs
  | [], _, _, h => h
  | v :: r, o, w, h => Blk.farCells hne r (o + 1) _ (h.far (p := ⟨g', o, none⟩) hne v)
theorem Blk.there (h : Blk w g t cs) {o n : Nat} (hn : o + n ≤ cs.size) : w.there g o n := fun j hj => by
  refine ⟨?_, h.frozen _⟩
  rw [h.cell, Array.getElem?_eq_getElem (by omega)]; rfl
theorem Blk.range {xa xb xd : List Value} (h : Blk w g t (xa ++ xb ++ xd).toArray) (o : Nat) (ho : xa.length = o) : w.rangeAt g o xb := fun j v hv => by
  subst ho
  rw [h.cell]
  have hj : j < xb.length := (List.getElem?_eq_some_iff.1 hv).1
  simp only [List.getElem?_toArray]
  rw [List.append_assoc, List.getElem?_append_right (by omega), Nat.add_sub_cancel_left, List.getElem?_append_left hj]
  exact hv
end
theorem Kp.setCells {S : Nat → Prop} {a : World} {g : Nat} (hp : a.heap.size ≤ g ∨ S g) : ∀ (xs : List Value) (o : Nat) (w : World), Kp S a w → Kp S a (w.setCells g o xs)
  | [], _, _, h => h
  | v :: r, o, _, h => Kp.setCells hp r (o + 1) _ (h.setCell (p := ⟨g, o, none⟩) hp v)
theorem size_setCells (g : Nat) : ∀ (xs : List Value) (o : Nat) (w : World), (w.setCells g o xs).heap.size = w.heap.size
  | [], _, _ => rfl
  | v :: r, o, w => (size_setCells g r (o + 1) _).trans (by simp [World.setCell])
/-- of a world only what is named is kept -/
theorem forget {p : World → Prop} {w : World} (inv : World → Prop) (h : inv w) (k : ∀ w', inv w' → p w') : p w := k w h

/-- the n cells of block g from place o on, as they stand -/
def readRow (w : World) (g o n : Nat) : Array Value := ((List.range n).map fun j => (w.cell? ⟨g, o + j, none⟩).getD undef).toArray
section
variable {P : Program}
theorem loadAt_row {T n : Nat} {d : TypeDesc} (hu : P.underlying T = some d) (hd : d.isRow = true) (hi : (P.info? T).map (·.size) = some n) (w : World) (g o : Nat) (h : w.there g o n) :
    (Instr.loadAt T (.pointer (some ⟨g, o, none⟩))).run P w = .ok (.agg (readRow w g o n)) w := by
  refine run_loadAt_mid w g o T ((List.range n).map fun j => (w.cell? ⟨g, o + j, none⟩).getD undef) d (fun j v hv => ?_) hu hd (by simpa using hi)
  rw [List.getElem?_map] at hv
  rcases Nat.lt_or_ge j n with hj | hj
  · rw [List.getElem?_range hj] at hv
    simp only [Option.map_some, Option.some.injEq] at hv
    have := (h j hj).1
    obtain ⟨u, hu⟩ := Option.isSome_iff_exists.1 this
    rw [hu] at hv ⊢
    simpa using hv
  · rw [List.getElem?_eq_none (by simpa using hj)] at hv
    cases hv
theorem storeAt_row {T n : Nat} (hi : (P.info? T).map (·.size) = some n) (w : World) (g o : Nat) (cs : Array Value) (hc : cs.size = n) (h1 : cs.all (·.oneCell') = true) (h : w.there g o n) :
    (Instr.storeAt T (.pointer (some ⟨g, o, none⟩)) (.agg cs)).run P w = .ok () (w.setCells g o cs.toList) := by
  simp only [Instr.storeAt, Instr.sureAddr, Sem.run_bind, Sem.run_pure, Result.andThen_ok]
  exact run_storeVar_mid w g o T cs (by rw [hc]; exact h) (by rw [hc]; exact hi) h1
end
theorem Blk.read {w : World} {g : Nat} {t : TypeId} {xa xb xd : List Value} (h : Blk w g t (xa ++ xb ++ xd).toArray) (o n : Nat) (ho : xa.length = o) (hn : xb.length = n) : readRow w g o n = xb.toArray := by
  subst ho; subst hn
  unfold readRow
  congr 1
  apply List.ext_getElem
  · simp
  · intro j h1 h2
    simp only [List.getElem_map, List.getElem_range]
    rw [h.cell]
    simp only [List.getElem?_toArray]
    rw [List.append_assoc, List.getElem?_append_right (by omega), Nat.add_sub_cancel_left, List.getElem?_append_left (by simpa using h1), List.getElem?_eq_getElem (by simpa using h1)]
    rfl
theorem Blk.readAll {w : World} {g : Nat} {t : TypeId} {cs : Array Value} (h : Blk w g t cs) (n : Nat) (hn : cs.size = n) : readRow w g 0 n = cs := by
  have := Blk.read (xa := []) (xb := cs.toList) (xd := []) (by simpa using h) 0 n rfl (by simpa using hn)
  simpa using this
@[simp, go_sem] theorem readRow_drew (w : World) (g o n : Nat) : readRow w.drew g o n = readRow w g o n := rfl

/-- the same behind a pointer's value -/
def thereP (w : World) : Value → Nat → Prop
  | .pointer (some ⟨g, o, none⟩), n => w.there g o n
  | _, _ => False
def readP (w : World) : Value → Nat → Array Value
  | .pointer (some ⟨g, o, none⟩), n => readRow w g o n
  | _, _ => #[]
def setP (w : World) : Value → Value → World
  | .pointer (some ⟨g, o, none⟩), .agg cs => w.setCells g o cs.toList
  | _, _ => w
def ones (cs : Array Value) : Prop := cs.all (·.oneCell') = true
def aggOK : Value → Nat → Prop
  | .agg cs, n => cs.size = n ∧ ones cs
  | _, _ => False
@[go_sem] theorem thereP_mk (w : World) (g o n : Nat) : thereP w (.pointer (some ⟨g, o, none⟩)) n = w.there g o n := rfl
@[go_sem] theorem readP_mk (w : World) (g o n : Nat) : readP w (.pointer (some ⟨g, o, none⟩)) n = readRow w g o n := rfl
@[go_sem] theorem setP_mk (w : World) (g o : Nat) (cs : Array Value) : setP w (.pointer (some ⟨g, o, none⟩)) (.agg cs) = w.setCells g o cs.toList := rfl
@[go_sem] theorem aggOK_mk (cs : Array Value) (n : Nat) : aggOK (.agg cs) n = (cs.size = n ∧ ones cs) := rfl
section
variable {P : Program}
theorem loadAt_P {T n : Nat} {d : TypeDesc} (hu : P.underlying T = some d) (hd : d.isRow = true) (hi : (P.info? T).map (·.size) = some n) (w : World) (p : Value) (h : thereP w p n) :
    (Instr.loadAt T p).run P w = .ok (.agg (readP w p n)) w := by
  unfold thereP at h
  split at h
  · exact loadAt_row hu hd hi w _ _ h
  · exact h.elim
theorem storeAt_P {T n : Nat} (hi : (P.info? T).map (·.size) = some n) (w : World) (p v : Value) (hv : aggOK v n) (h : thereP w p n) :
    (Instr.storeAt T p v).run P w = .ok () (setP w p v) := by
  unfold thereP at h
  split at h
  · unfold aggOK at hv
    split at hv
    · exact storeAt_row hi w _ _ _ hv.1 hv.2 h
    · exact hv.elim
  · exact h.elim
theorem execLoad_P {T n : Nat} {d : TypeDesc} (hu : P.underlying T = some d) (hd : d.isRow = true) (hi : (P.info? T).map (·.size) = some n) (w : World) (ev : Operand → Value) (ds : Option Tmp) (x : Operand) (ty : TypeId) (ps : String) (af : Array Edge) (g : Option (Nat × Bool)) (h : thereP w (ev x) n) :
    (execOp ev ⟨ds, .load T x, ty, ps, af, g⟩).run P w = .ok (.value (.agg (readP w (ev x) n))) w := by
  simp only [execOp, Sem.run_bind, Sem.run_pure, Result.andThen_ok, loadAt_P hu hd hi w (ev x) h]
theorem execStore_P {T n : Nat} (hi : (P.info? T).map (·.size) = some n) (w : World) (ev : Operand → Value) (ds : Option Tmp) (x y : Operand) (ty : TypeId) (ps : String) (af : Array Edge) (g : Option (Nat × Bool)) (hv : aggOK (ev y) n) (h : thereP w (ev x) n) :
    (execOp ev ⟨ds, .store T x y, ty, ps, af, g⟩).run P w = .ok .skip (setP w (ev x) (ev y)) := by
  simp only [execOp, Sem.run_bind, Sem.run_pure, Result.andThen_ok, storeAt_P hi w (ev x) (ev y) hv h]
end
theorem Blk.newAt (w : World) (t : TypeId) (cs : Array Value) (g : Nat) (h : w.heap.size = g) : Blk (w.alloc (.cells cs t)) g t cs := by
  subst h; exact Blk.new w t cs
theorem Blk.whole {w : World} {g : Nat} {t : TypeId} {cs : Array Value} (h : Blk w g t cs) (ds : Array Value) (hl : cs.size = ds.size) : Blk (w.setCells g 0 ds.toList) g t ds := by
  have := Blk.cellsL (xa := []) (xb := cs.toList) (xd := []) (xs := ds.toList) (by simpa using h) 0 rfl (by simpa using hl)
  simpa using this
theorem Blk.thereAll {w : World} {g : Nat} {t : TypeId} {cs : Array Value} (h : Blk w g t cs) (n : Nat) (hn : cs.size = n) : w.there g 0 n := Blk.there h (by omega)

/-- a part of an array behind a pointer -/
def sliceV : Value → Value → Value → Nat → Value
  | .pointer (some ⟨g, o, none⟩), .int _ lo, .int _ hi, n => .slice (some (if n = lo.toNat then ⟨g, o, none⟩ else ⟨g, o + lo.toNat, none⟩)) (hi.toNat - lo.toNat) (n - lo.toNat)
  | _, _, _, _ => undef
def sliceOK : Value → Value → Value → Nat → Prop
  | .pointer (some ⟨_, _, none⟩), .int .i64 lo, .int .i64 hi, n => 0 ≤ lo ∧ lo ≤ hi ∧ hi ≤ n
  | _, _, _, _ => False
@[go_sem] theorem sliceV_mk (g o n : Nat) (k k' : IntKind) (lo hi : Int) : sliceV (.pointer (some ⟨g, o, none⟩)) (.int k lo) (.int k' hi) n = .slice (some (if n = lo.toNat then ⟨g, o, none⟩ else ⟨g, o + lo.toNat, none⟩)) (hi.toNat - lo.toNat) (n - lo.toNat) := rfl
@[go_sem] theorem sliceOK_mk (g o n : Nat) (lo hi : Int) : sliceOK (.pointer (some ⟨g, o, none⟩)) (.int .i64 lo) (.int .i64 hi) n = (0 ≤ lo ∧ lo ≤ hi ∧ hi ≤ n) := rfl
section
variable {P : Program}
theorem sliceAt_V {T n : Nat} {e : TypeId} (hu : P.underlying T = some (.array n e)) (he : (P.info? e).map (·.size) = some 1) (w : World) (g o : Nat) (l h : Option Value) (lo hi : Nat)
    (hb : (Instr.sliceBounds false n n l h none).run P w = .ok (lo, hi, n) w) :
    (Instr.sliceAt T (.pointer (some ⟨g, o, none⟩)) l h none).run P w = .ok (.slice (some (if n = lo then ⟨g, o, none⟩ else ⟨g, o + lo, none⟩)) (hi - lo) (n - lo)) w := by
  cases hq : P.info? e with
  | none => simp [hq] at he
  | some i =>
    have hs : i.size = 1 := by simpa [hq] using he
    simp only [Instr.sliceAt, Sem.run_bind, run_underlying hu, Result.andThen_ok, Instr.sureAddr, Sem.run_pure, hb, sizeOf, typeInfo]
    simp [hq, hs, add_mk]
theorem bound_ok (w : World) (k : IntKind) (v : Int) (n : Nat) (kind : BoundsCode) (h0 : 0 ≤ v) (h1 : v ≤ n) : (Instr.sliceBound (.int k v) n kind).run P w = .ok v.toNat w := by
  simp [Instr.sliceBound, asIntOf, h0, h1]
theorem sliceOK_inv {x l h : Value} {n : Nat} (hk : sliceOK x l h n) : ∃ g o lo hi, x = .pointer (some ⟨g, o, none⟩) ∧ l = .int .i64 lo ∧ h = .int .i64 hi ∧ 0 ≤ lo ∧ lo ≤ hi ∧ hi ≤ n := by
  unfold sliceOK at hk
  split at hk
  · exact ⟨_, _, _, _, rfl, rfl, rfl, hk⟩
  · exact hk.elim
theorem execSlice_lo {T n : Nat} {e : TypeId} (hu : P.underlying T = some (.array n e)) (he : (P.info? e).map (·.size) = some 1) (w : World) (ev : Operand → Value) (ds : Option Tmp) (x lo : Operand) (ty : TypeId) (ps : String) (af : Array Edge) (g : Option (Nat × Bool))
    (h : sliceOK (ev x) (ev lo) (.int .i64 n) n) : (execOp ev ⟨ds, .slice T x (some lo) none none, ty, ps, af, g⟩).run P w = .ok (.value (sliceV (ev x) (ev lo) (.int .i64 n) n)) w := by
  obtain ⟨g', o', v1, v2, hx, hl, e1, h0, h1, h2⟩ := sliceOK_inv h
  injection e1 with _ e1
  subst e1
  have hb : (Instr.sliceBounds false n n (some (.int .i64 v1)) none none).run P w = .ok (v1.toNat, n, n) w := by
    simp [Instr.sliceBounds, bound_ok w .i64 v1 n _ h0 h1]
  simp only [execOp, hx, hl, Option.map_some, Option.map_none, Sem.run_bind, sliceAt_V hu he w _ _ _ _ _ _ hb, Result.andThen_ok, Sem.run_pure, sliceV_mk, Int.toNat_natCast]
theorem execSlice_lohi {T n : Nat} {e : TypeId} (hu : P.underlying T = some (.array n e)) (he : (P.info? e).map (·.size) = some 1) (w : World) (ev : Operand → Value) (ds : Option Tmp) (x lo hi : Operand) (ty : TypeId) (ps : String) (af : Array Edge) (g : Option (Nat × Bool))
    (h : sliceOK (ev x) (ev lo) (ev hi) n) : (execOp ev ⟨ds, .slice T x (some lo) (some hi) none, ty, ps, af, g⟩).run P w = .ok (.value (sliceV (ev x) (ev lo) (ev hi) n)) w := by
  obtain ⟨g', o', v1, v2, hx, hl, hh, h0, h1, h2⟩ := sliceOK_inv h
  have hb : (Instr.sliceBounds false n n (some (.int .i64 v1)) (some (.int .i64 v2)) none).run P w = .ok (v1.toNat, v2.toNat, n) w := by
    simp [Instr.sliceBounds, bound_ok w .i64 v2 n _ (by omega) h2, bound_ok w .i64 v1 v2.toNat _ h0 (by omega)]
  simp only [execOp, hx, hl, hh, Option.map_some, Option.map_none, Sem.run_bind, sliceAt_V hu he w _ _ _ _ _ _ hb, Result.andThen_ok, Sem.run_pure, sliceV_mk]
end
end Go.Proofs.YtoeldmkbmnkhkaaGreat
/- Bytes in memory, as texts and as cells; no condition. -/
namespace Go.Proofs.YtoeldmkbmnkhkaaGreat
open Go.RowKit

/-- bytes as the cells of an array -/
def bytesV (l : List Int) : Array Value := (l.map (Value.int .u8)).toArray
theorem bytesV_size (l : List Int) : (bytesV l).size = l.length := by simp [bytesV]
theorem bytesV_one (l : List Int) : ones (bytesV l) := by
  unfold ones bytesV
  simp only [List.all_toArray', List.all_map]
  simp [Value.oneCell']
theorem map_int_inj {k : IntKind} : ∀ {l m : List Int}, l.map (Value.int k) = m.map (Value.int k) → l = m
  | [], [], _ => rfl
  | [], _ :: _, h => by simp at h
  | _ :: _, [], h => by simp at h
  | a :: l, b :: m, h => by
    simp only [List.map_cons, List.cons.injEq, Value.int.injEq, true_and] at h
    rw [h.1, map_int_inj h.2]
theorem bytesV_inj {l m : List Int} (h : bytesV l = bytesV m) : l = m := by
  have h1 : l.map (Value.int .u8) = m.map (Value.int .u8) := by
    have := congrArg Array.toList h
    simpa [bytesV] using this
  exact map_int_inj h1
def zeros (n : Nat) : List Int := List.replicate n 0
def strI (s : ByteArray) : List Int := s.data.toList.map fun b => (b.toNat : Int)
theorem strI_len (s : ByteArray) : (strI s).length = s.size := by simp [strI]
/-- copy of a string into cells that lie there -/
theorem wpList_copyS {P : Program} {w : World} {ops : Array Oper} {rest : List Oper} {o : Oper} {a : Act} {Q : Exit → Act → World → Prop} (hgd : o.guard = none) (x y : Operand) (dT sT elem : TypeId)
    (ho : o.op = .call { callee := .builtin .copy, args := #[x, y], argTypes := #[dT, sT] }) (hu : P.underlying dT = some (.slice elem)) (hz : ∀ w, (Go.sizeOf elem).run P w = .ok 1 w)
    (g0 o0 dLen dCap : Nat) (s : ByteArray) (hx : a.eval x = .slice (some ⟨g0, o0, none⟩) dLen dCap) (hy : a.eval y = .string s) (hle : s.size ≤ dLen) (ht : w.there g0 o0 s.size)
    (h : wpList P ops Q rest (a.put o.dst (.int .i64 s.size)) (w.setCells g0 o0 ((strI s).map (Value.int .u8)))) : wpList P ops Q (o :: rest) a w := by
  have hrun := Go.run_copy_string (P := P) w dT sT o.type elem g0 o0 dLen dCap s hu hz hle (fun j hj => (ht j hj).1) (fun j hj => (ht j hj).2)
  refine wpList_plain hgd fun K hK => ?_
  have e : (strI s).map (Value.int .u8) = s.data.toList.map fun x => Value.int .u8 (x.toNat : Int) := by
    unfold strI
    rw [List.map_map]
    rfl
  rw [e] at h
  unfold Oper.wp
  simp only [execOp, ho, resolve, invoke, builtin, Sem.run_bind, Sem.run_pure, Result.andThen_ok, List.map_toArray, List.map_cons, List.map_nil, hx, hy, hrun]
  exact hK _ _ h
theorem Blk.bytes {w : World} {g : Nat} {t : TypeId} {la lb ld lx : List Int} (h : Blk w g t (bytesV (la ++ lb ++ ld))) (o : Nat) (ho : la.length = o) (hl : lb.length = lx.length) : Blk (w.setCells g o (lx.map (Value.int .u8))) g t (bytesV (la ++ lx ++ ld)) := by
  have := Blk.cellsL (xa := la.map (Value.int .u8)) (xb := lb.map (Value.int .u8)) (xd := ld.map (Value.int .u8)) (xs := lx.map (Value.int .u8)) (by simpa [bytesV] using h) o (by simpa using ho) (by simpa using hl)
  simpa [bytesV] using this
theorem infoU8 : (Tryz.prog.info? 5).map (·.size) = some 1 := by kernel_rfl
theorem sizeU8 (w : World) : (Go.sizeOf 5).run Tryz.prog w = .ok 1 w := by kernel_rfl

/-- bytes as a string -/
def strOf (ns : List Int) : ByteArray := ⟨(ns.map fun n => UInt8.ofNat n.toNat).toArray⟩
theorem foldl_push (ns : List Int) : ∀ (s : ByteArray), ns.foldl (fun r n => r.push (UInt8.ofNat n.toNat)) s = ⟨s.data ++ (ns.map fun n => UInt8.ofNat n.toNat).toArray⟩ := by
  induction ns with
  | nil => intro s; simp
  | cons n ns ih =>
    intro s
    rw [List.foldl_cons, ih]
    simp [ByteArray.push]
theorem strOf_size (ns : List Int) : (strOf ns).size = ns.length := by simp [strOf, ByteArray.size]
theorem strI_strOf (ns : List Int) (h : ∀ n ∈ ns, 0 ≤ n ∧ n < 256) : strI (strOf ns) = ns := by
  unfold strI strOf
  simp only [List.map_map]
  conv => rhs; rw [← List.map_id ns]
  apply List.map_congr_left
  intro n hn
  obtain ⟨a, b⟩ := h n hn
  simp only [Function.comp, id]
  obtain ⟨k, rfl⟩ := Int.eq_ofNat_of_zero_le a
  have : k < 256 := by omega
  simp [UInt8.toNat_ofNat, Nat.mod_eq_of_lt this]
/-- n bytes lie in block g from place o on -/
def byAt (w : World) (g o n : Nat) : Prop := ∀ j, j < n → ∃ v, w.cell? ⟨g, o + j, none⟩ = some (.int .u8 v)
def numOf : Option Value → Int
  | some (.int _ n) => n
  | _ => 0
def byRd (w : World) (g o n : Nat) : List Int := (List.range n).map fun j => numOf (w.cell? ⟨g, o + j, none⟩)
def bytesAt (w : World) : Value → Prop
  | .slice (some ⟨g, o, none⟩) n _ => byAt w g o n
  | _ => False
def strAt (w : World) : Value → Value
  | .slice (some ⟨g, o, none⟩) n _ => .string (strOf (byRd w g o n))
  | _ => undef
@[go_sem] theorem bytesAt_mk (w : World) (g o n c : Nat) : bytesAt w (.slice (some ⟨g, o, none⟩) n c) = byAt w g o n := rfl
@[go_sem] theorem strAt_mk (w : World) (g o n c : Nat) : strAt w (.slice (some ⟨g, o, none⟩) n c) = .string (strOf (byRd w g o n)) := rfl
@[simp, go_sem] theorem byAt_drew (w : World) (g o n : Nat) : byAt w.drew g o n = byAt w g o n := rfl
@[simp, go_sem] theorem byRd_drew (w : World) (g o n : Nat) : byRd w.drew g o n = byRd w g o n := rfl
theorem execConv_S {P : Program} {S D e : TypeId} (hs : P.underlying S = some (.slice e)) (he : P.underlying e = some (.int .u8)) (hd : P.underlying D = some .string) (w : World) (ev : Operand → Value) (ds : Option Tmp) (x : Operand) (ty : TypeId) (ps : String) (af : Array Edge) (g : Option (Nat × Bool)) (h : bytesAt w (ev x)) :
    (execOp ev ⟨ds, .convert S D x, ty, ps, af, g⟩).run P w = .ok (.value (strAt w (ev x))) w := by
  generalize hx : ev x = v at h
  unfold bytesAt at h
  split at h
  · rename_i g' o' n' c'
    have hl : (loadCells ⟨g', o', none⟩ n').run P w = .ok ((byRd w g' o' n').map (Value.int .u8)).toArray w := by
      have := run_loadCells_list (P := P) w ⟨g', o', none⟩ ((byRd w g' o' n').map (Value.int .u8)) (fun j v hv => by
        rw [add_mk]
        unfold byRd at hv
        rw [List.map_map, List.getElem?_map] at hv
        rcases Nat.lt_or_ge j n' with hj | hj
        · rw [List.getElem?_range hj] at hv
          simp only [Option.map_some, Option.some.injEq, Function.comp] at hv
          obtain ⟨u, hu⟩ := h j hj
          rw [hu] at hv ⊢
          rw [← hv]
          rfl
        · rw [List.getElem?_eq_none (by simpa using hj)] at hv
          cases hv)
      simpa [byRd] using this
    simp only [execOp, hx, Sem.run_bind, run_convert_bytes_string w S D e _ _ _ hs he hd, run_bytesToString w _ _ _ _ hl, Result.andThen_ok, Sem.run_pure, foldl_push]
    simp [strAt, strOf]
  · exact h.elim
theorem conv64 (w : World) (ev : Operand → Value) (ds : Option Tmp) (x : Operand) (ty : TypeId) (ps : String) (af : Array Edge) (g : Option (Nat × Bool)) (h : bytesAt w (ev x)) :
    (execOp ev ⟨ds, .convert 50 9 x, ty, ps, af, g⟩).run Tryz.prog w = .ok (.value (strAt w (ev x))) w := execConv_S Tryz.underlying50 Tryz.underlying5 Tryz.underlying9 w ev ds x ty ps af g h
theorem Blk.byAt {w : World} {g : Nat} {t : TypeId} {l : List Int} (h : Blk w g t (bytesV l)) (o n : Nat) (hn : o + n ≤ l.length) : byAt w g o n := fun j hj => by
  refine ⟨l[o + j]?.getD 0, ?_⟩
  rw [h.cell]
  unfold bytesV
  simp [show o + j < l.length by omega]
theorem Blk.byRd {w : World} {g : Nat} {t : TypeId} {l : List Int} (h : Blk w g t (bytesV l)) (o n : Nat) (hn : o + n ≤ l.length) : byRd w g o n = (l.drop o).take n := by
  unfold Go.Proofs.YtoeldmkbmnkhkaaGreat.byRd
  apply List.ext_getElem
  · simp; omega
  · intro j h1 h2
    have hj : j < n := by simpa using h1
    simp only [List.getElem_map, List.getElem_range, List.getElem_take, List.getElem_drop]
    rw [h.cell]
    unfold bytesV
    simp [show o + j < l.length by omega, numOf]
theorem ret_cell1 {P : Program} {fn : Func} {p : Tmp} {ty : TypeId} (h : fn.results = #[.cell p ty]) (tmps : Array Value) (w : World) (g : Nat) (t : TypeId) (cs : Array Value) (d : TypeDesc)
    (hp : tmps.getD p undef = .pointer (some ⟨g, 0, none⟩)) (hg : Blk w g t cs)
    (hu : P.underlying ty = some d) (hd : (match d with | .struct _ | .array _ _ => true | _ => false) = true) (hi : (P.info? ty).map (·.size) = some cs.size) :
    (results fn tmps).run P w = .ok (.agg cs) w := by
  have hp' : tmps[p]?.getD undef = .pointer (some ⟨g, 0, none⟩) := by simpa using hp
  simp [results, h, hp', asAddr, run_loadVar_row w g t ty cs (0, 0) d hg hu hd hi]
end Go.Proofs.YtoeldmkbmnkhkaaGreat
/- Pages of 256 bytes in memory, and how the walk reads and writes them whole; no condition. -/
namespace Go.Proofs.YtoeldmkbmnkhkaaGreat
open Go.RowKit

def zero256 : Array Value := bytesV (zeros 256)
theorem zero256_eq : zero256 = bytesV (zeros 256) := rfl

theorem info26 : (Tryz.prog.info? 86).map (·.size) = some 256 := by kernel_rfl
theorem zeroValue26 (w : World) : (zeroValue 86).run Tryz.prog w = .ok (.agg zero256) w := by kernel_rfl

theorem load26 (w : World) (ev : Operand → Value) (ds : Option Tmp) (x : Operand) (ty : TypeId) (ps : String) (af : Array Edge) (g : Option (Nat × Bool)) (h : thereP w (ev x) 256) :
    (execOp ev ⟨ds, .load 86 x, ty, ps, af, g⟩).run Tryz.prog w = .ok (.value (.agg (readP w (ev x) 256))) w := execLoad_P Tryz.underlying86 rfl info26 w ev ds x ty ps af g h
theorem store26 (w : World) (ev : Operand → Value) (ds : Option Tmp) (x y : Operand) (ty : TypeId) (ps : String) (af : Array Edge) (g : Option (Nat × Bool)) (hv : aggOK (ev y) 256) (h : thereP w (ev x) 256) :
    (execOp ev ⟨ds, .store 86 x y, ty, ps, af, g⟩).run Tryz.prog w = .ok .skip (setP w (ev x) (ev y)) := execStore_P info26 w ev ds x y ty ps af g hv h
theorem alloc26 (w : World) (ev : Operand → Value) (ds : Option Tmp) (ty : TypeId) (ps : String) (af : Array Edge) (g : Option (Nat × Bool)) :
    (execOp ev ⟨ds, .alloc 86, ty, ps, af, g⟩).run Tryz.prog w = .ok (.value (.pointer (some ⟨w.heap.size, 0, none⟩))) (w.alloc (.cells zero256 86)) := by
  simp only [execOp, Instr.alloc, Sem.run_bind, zeroValue26, Result.andThen_ok]
  rfl
theorem build26 (w : World) (ev : Operand → Value) (ds : Option Tmp) (ty : TypeId) (ps : String) (af : Array Edge) (g : Option (Nat × Bool)) :
    (execOp ev ⟨ds, .build 86 #[], ty, ps, af, g⟩).run Tryz.prog w = .ok (.value (.agg zero256)) w := by
  kernel_rfl

theorem slice26lo (w : World) (ev : Operand → Value) (ds : Option Tmp) (x lo : Operand) (ty : TypeId) (ps : String) (af : Array Edge) (g : Option (Nat × Bool)) (h : sliceOK (ev x) (ev lo) (.int .i64 (256 : Nat)) 256) :
    (execOp ev ⟨ds, .slice 86 x (some lo) none none, ty, ps, af, g⟩).run Tryz.prog w = .ok (.value (sliceV (ev x) (ev lo) (.int .i64 (256 : Nat)) 256)) w := execSlice_lo Tryz.underlying86 infoU8 w ev ds x lo ty ps af g h
theorem slice26lohi (w : World) (ev : Operand → Value) (ds : Option Tmp) (x lo hi : Operand) (ty : TypeId) (ps : String) (af : Array Edge) (g : Option (Nat × Bool)) (h : sliceOK (ev x) (ev lo) (ev hi) 256) :
    (execOp ev ⟨ds, .slice 86 x (some lo) (some hi) none, ty, ps, af, g⟩).run Tryz.prog w = .ok (.value (sliceV (ev x) (ev lo) (ev hi) 256)) w := execSlice_lohi Tryz.underlying86 infoU8 w ev ds x lo hi ty ps af g h
end Go.Proofs.YtoeldmkbmnkhkaaGreat
/- Slices of texts in memory; no condition. -/
namespace Go.Proofs.YtoeldmkbmnkhkaaGreat
open Go.RowKit

/-- a slice of strings in memory -/
def Sl (w : World) (A : Option Addr) (n : Nat) (xs : List ByteArray) : Prop :=
  xs.length = n ∧ (0 < n → ∃ g o, A = some ⟨g, o, none⟩ ∧ g < w.heap.size ∧ ∀ k, k < n → w.cell? ⟨g, o + k, none⟩ = some (.string (xs.getD k ByteArray.empty)))
theorem Sl.keep {w w' : World} {A : Option Addr} {n : Nat} {xs : List ByteArray} (h : Sl w A n xs) (k : Kp NoB w w') : Sl w' A n xs :=
  ⟨h.1, fun hn => by
    obtain ⟨g, o, e, hg, hc⟩ := h.2 hn
    exact ⟨g, o, e, Nat.lt_of_lt_of_le hg k.size, fun j hj => (k.cell hg (fun q => q)).trans (hc j hj)⟩⟩
end Go.Proofs.YtoeldmkbmnkhkaaGreat
/- Pages are laid as the document says: the program's lay, room and told; no condition. -/
namespace Go.Proofs.YtoeldmkbmnkhkaaGreat
open Go.RowKit
attribute [local go_sem ↓] load26 store26 alloc26 build26 slice26lo

def roomI (xs : List ByteArray) : Int := 250 - (xs.map fun c => 1 + (c.size : Int)).sum
theorem roomI_snoc (xs : List ByteArray) (c : ByteArray) : roomI (xs ++ [c]) = roomI xs - (1 + (c.size : Int)) := by
  unfold roomI
  rw [List.map_append, List.sum_append]
  simp
  omega
theorem roomI_take (xs : List ByteArray) (k : Nat) (hk : k < xs.length) : roomI (xs.take (k + 1)) = roomI (xs.take k) - (1 + ((xs[k]?.getD ByteArray.empty).size : Int)) := by
  rw [List.take_succ_eq_append_getElem hk, roomI_snoc]
  simp [hk]
theorem roomI_lo (xs : List ByteArray) (h : ∀ c ∈ xs, c.size ≤ 60) : -(61 * xs.length : Int) ≤ roomI xs ∧ roomI xs ≤ 250 := by
  unfold roomI
  induction xs with
  | nil => simp
  | cons c xs ih =>
    have := ih (fun c hc => h c (by simp [hc]))
    have := h c (by simp)
    simp at *
    omega

set_option maxHeartbeats 800000 in
theorem room_ok (w : World) (kind link : Int) (A : Option Addr) (n cap : Nat) (xs : List ByteArray) (hn : n ≤ 4000) (h60 : ∀ c ∈ xs, c.size ≤ 60) (hS : Sl w A n xs) :
    Calls Tryz.prog 176 #[.agg #[.int .u8 kind, .int .u32 link, .slice A n cap]] w fun e w' => e = .returned (.int .i64 (roomI xs)) ∧ Kp NoB w w' := by
  have HS := Lib.hid (hS.keep ((Kp.refl NoB w).alloc (.cells #[.int .u8 kind, .int .u32 link, .slice A n cap] 185)))
  have H6 := Lib.hid h60
  clear hS h60
  go_enter Tryz.func176, Tryz.ntmps176
  go_wp2
  go_loop [3, 9] (fun r i => ∃ k : Nat, k ≤ n ∧ i = .int .i64 k ∧ r = .int .i64 (roomI (xs.take k))) (fun _ i => n - (intOf i).toNat)
  case atStart => exact ⟨0, by omega, rfl, rfl⟩
  case round =>
    obtain ⟨k, hk, rfl, rfl⟩ := hrel
    by_cases hlt : k < n
    · obtain ⟨g, o, rfl, hg, hc⟩ := HS.out.2 (by omega)
      have hcell := hc k hlt
      have hlo := roomI_lo (xs.take k) (fun c hc => H6.out c (List.mem_of_mem_take hc))
      have hl : (xs.take k).length ≤ k := List.length_take_le _ _
      have HT := Lib.hid (roomI_take xs k (by rw [HS.out.1]; exact hlt))
      have hc60 : ((xs[k]?.getD ByteArray.empty).size : Int) ≤ 60 := by
        have hkx : k < xs.length := by rw [HS.out.1]; exact hlt
        have := H6.out xs[k] (List.getElem_mem hkx)
        simp [hkx]; omega
      have hc0 : (0 : Int) ≤ ((xs[k]?.getD ByteArray.empty).size : Int) := Int.natCast_nonneg _
      clear hc
      go_wp2
      exact ⟨⟨k + 1, by omega, by congr 1, by rw [HT.out]⟩, by simp [intOf]; omega⟩
    · obtain rfl : k = n := by omega
      go_wp2
      go_ret
      exact ⟨ret_int (by rw [List.take_of_length_le (by rw [HS.out.1]; exact Nat.le_refl _)]), (Kp.refl _ _).alloc _⟩

/-! ### the page of a body, as a list of numbers -/
def flatI (xs : List ByteArray) : List Int := xs.flatMap strI
def w8 (n : Int) : Int := n % 256
def hdI (kind link : Int) (n : Nat) (k : Nat) : List Int :=
  ([kind, w8 n, w8 (link / 16777216), w8 (link / 65536), w8 (link / 256), w8 link].take (2 + k)) ++ zeros (4 - k)
def hd6 (kind link : Int) (n : Nat) : List Int := [kind, w8 n, w8 (link / 16777216), w8 (link / 65536), w8 (link / 256), w8 link]
/-- the page, the first i cells laid -/
def layK (kind link : Int) (xs : List ByteArray) (i : Nat) : List Int :=
  hd6 kind link xs.length ++ ((xs.take i).map (fun c => (c.size : Int)) ++ zeros (xs.length - i)) ++ (flatI (xs.take i) ++ zeros (250 - xs.length - (flatI (xs.take i)).length))
def layI (kind link : Int) (xs : List ByteArray) : List Int := layK kind link xs xs.length

theorem bytesV_noStr {l : List Int} {i : Nat} {c : ByteArray} (h : (bytesV l)[i]? = some (.string c)) : False := by
  unfold bytesV at h
  simp only [List.getElem?_toArray, List.getElem?_map] at h
  cases hq : l[i]? <;> rw [hq] at h <;> simp at h
theorem Sl.on {W W' : World} {A : Option Addr} {n : Nat} {xs : List ByteArray} {g4 : Nat} {t : TypeId} {l : List Int} (h : Sl W A n xs) (hb : Blk W g4 t (bytesV l)) (k : Kp (OnB g4) W W') : Sl W' A n xs := by
  refine ⟨h.1, fun hn => ?_⟩
  obtain ⟨g, o, e, hg, hc⟩ := h.2 hn
  have hne : ¬ OnB g4 g := fun q => by
    unfold OnB at q
    subst q
    have c0 := hc 0 hn
    rw [hb.cell] at c0
    exact bytesV_noStr c0
  exact ⟨g, o, e, Nat.lt_of_lt_of_le hg k.size, fun j hj => (k.cell hg hne).trans (hc j hj)⟩
/-- in the midst of lay: the body's box, the result's place, the page as it stands -/
structure LayS (w : World) (kind link : Int) (A : Option Addr) (n cap : Nat) (xs : List ByteArray) (l : List Int) (W : World) : Prop where
  kp : Kp NoB w W
  b1 : Blk W w.heap.size 185 #[.int .u8 kind, .int .u32 link, .slice A n cap]
  b2 : Blk W (w.heap.size + 1) 86 zero256
  b4 : Blk W (w.heap.size + 1 + 1) 86 (bytesV l)
  ln : l.length = 256
  sl : Sl W A n xs
theorem bytesV_set (l : List Int) (i : Nat) (v : Int) : (bytesV l).setIfInBounds i (.int .u8 v) = bytesV (l.set i v) := by
  unfold bytesV
  rw [List.setIfInBounds_toArray, List.map_set]
theorem bytesV_get (l : List Int) (i : Nat) (hi : i < l.length) : (bytesV l)[i]? = some (.int .u8 (l[i]?.getD 0)) := by
  unfold bytesV
  simp [hi]
theorem LayS.cell {w : World} {kind link : Int} {A : Option Addr} {n cap : Nat} {xs : List ByteArray} {l : List Int} {W : World} (h : LayS w kind link A n cap xs l W) (i : Nat) (hi : i < 256) :
    W.cell? ⟨w.heap.size + 1 + 1, i, none⟩ = some (.int .u8 (l[i]?.getD 0)) := (h.b4.cell i).trans (bytesV_get l i (by rw [h.ln]; exact hi))
theorem LayS.set {w : World} {kind link : Int} {A : Option Addr} {n cap : Nat} {xs : List ByteArray} {l : List Int} {W : World} (h : LayS w kind link A n cap xs l W) (i : Nat) (v : Int) :
    LayS w kind link A n cap xs (l.set i v) (W.setCell ⟨w.heap.size + 1 + 1, i, none⟩ (.int .u8 v)) := by
  refine ⟨h.kp.setCell (p := ⟨w.heap.size + 1 + 1, i, none⟩) (.inl (by show _ ≤ w.heap.size + 1 + 1; omega)) _, h.b1.far (p := ⟨w.heap.size + 1 + 1, i, none⟩) (by simp; omega) _, h.b2.far (p := ⟨w.heap.size + 1 + 1, i, none⟩) (by simp) _, ?_, by simp [h.ln], ?_⟩
  · have := h.b4.set_ i (.int .u8 v)
    rw [bytesV_set] at this
    exact this
  · exact h.sl.on h.b4 (Kp.setCell (S := OnB (w.heap.size + 1 + 1)) (p := ⟨w.heap.size + 1 + 1, i, none⟩) (Kp.refl _ _) (.inr rfl) _)
theorem LayS.copy {w : World} {kind link : Int} {A : Option Addr} {n cap : Nat} {xs : List ByteArray} {la lb ld lx : List Int} {W : World} (h : LayS w kind link A n cap xs (la ++ lb ++ ld) W) (m : Nat) (ho : la.length = m) (hl : lb.length = lx.length) :
    LayS w kind link A n cap xs (la ++ lx ++ ld) (W.setCells (w.heap.size + 1 + 1) m (lx.map (Value.int .u8))) :=
  ⟨Kp.setCells (.inl (by omega)) _ _ _ h.kp, h.b1.farCells (by omega) _ _ _, h.b2.farCells (by omega) _ _ _, h.b4.bytes m ho hl, by have := h.ln; simp at *; omega,
    h.sl.on h.b4 (Kp.setCells (S := OnB (w.heap.size + 1 + 1)) (.inr rfl) _ _ _ (Kp.refl _ _))⟩
theorem LayS.keep {w : World} {kind link : Int} {A : Option Addr} {n cap : Nat} {xs : List ByteArray} {l : List Int} {W W' : World} (h : LayS w kind link A n cap xs l W) (k : Kp NoB W W') : LayS w kind link A n cap xs l W' :=
  ⟨h.kp.trans k (fun _ _ q => q), h.b1.keep k (fun q => q), h.b2.keep k (fun q => q), h.b4.keep k (fun q => q), h.ln, h.sl.keep k⟩
theorem LayS.drew {w : World} {kind link : Int} {A : Option Addr} {n cap : Nat} {xs : List ByteArray} {l : List Int} {W : World} (h : LayS w kind link A n cap xs l W) : LayS w kind link A n cap xs l W.drew :=
  ⟨h.kp.drew, h.b1, h.b2, h.b4, h.ln, h.sl⟩

theorem hd_s0 (kind link : Int) (n : Nat) (t : List Int) : (hdI kind link n 0 ++ t).set 2 (link / 16777216 % 256) = hdI kind link n 1 ++ t := rfl
theorem hd_s1 (kind link : Int) (n : Nat) (t : List Int) : (hdI kind link n 1 ++ t).set 3 (link / 65536 % 256) = hdI kind link n 2 ++ t := rfl
theorem hd_s2 (kind link : Int) (n : Nat) (t : List Int) : (hdI kind link n 2 ++ t).set 4 (link / 256 % 256) = hdI kind link n 3 ++ t := rfl
theorem hd_s3 (kind link : Int) (n : Nat) (t : List Int) : (hdI kind link n 3 ++ t).set 5 (link % 256) = hdI kind link n 4 ++ t := rfl
theorem hd_s4 (kind link : Int) (n : Nat) : hdI kind link n 4 = hd6 kind link n := rfl
theorem layK_zero (kind link : Int) (xs : List ByteArray) (h : xs.length ≤ 250) : hd6 kind link xs.length ++ zeros 250 = layK kind link xs 0 := by
  unfold layK flatI zeros
  rw [List.append_assoc]
  congr 1
  have e : (xs.take 0).map (fun c => (c.size : Int)) = [] := by simp
  have e2 : (xs.take 0).flatMap strI = [] := by simp
  rw [e, e2]
  simp only [List.nil_append, List.length_nil, Nat.sub_zero, List.replicate_append_replicate]
  congr 1
  omega
/-- what lay answers: the page, if there is room -/
def layR (kind link : Int) (xs : List ByteArray) : Array Value × Bool := if roomI xs < 0 then (zero256, false) else (bytesV (layI kind link xs), true)
def LayPost (w : World) (kind link : Int) (xs : List ByteArray) (e : Ending) (w' : World) : Prop :=
  e = .returned (.tuple #[.agg (layR kind link xs).1, .bool (layR kind link xs).2]) ∧ Kp NoB w w'
theorem roomI_flat (xs : List ByteArray) : roomI xs = 250 - xs.length - (flatI xs).length := by
  unfold roomI flatI
  induction xs with
  | nil => simp
  | cons c xs ih =>
    simp only [List.map_cons, List.sum_cons, List.length_cons, List.flatMap_cons, List.length_append, strI_len] at *
    omega
theorem flat_take (xs : List ByteArray) (k : Nat) (hk : k < xs.length) : flatI (xs.take (k + 1)) = flatI (xs.take k) ++ strI (xs[k]?.getD ByteArray.empty) := by
  unfold flatI
  rw [List.take_succ_eq_append_getElem hk, List.flatMap_append]
  simp [hk]
theorem flat_le (xs : List ByteArray) (k : Nat) : (flatI (xs.take k)).length ≤ (flatI xs).length := by
  have : flatI xs = flatI (xs.take k) ++ flatI (xs.drop k) := by
    unfold flatI
    rw [← List.flatMap_append, List.take_append_drop]
  rw [this, List.length_append]
  omega
theorem flat_lo (xs : List ByteArray) (h : ∀ c ∈ xs, 1 ≤ c.size) : xs.length ≤ (flatI xs).length := by
  unfold flatI
  induction xs with
  | nil => simp
  | cons c xs ih =>
    have := h c (by simp)
    have := ih (fun c hc => h c (by simp [hc]))
    simp only [List.length_cons, List.flatMap_cons, List.length_append, strI_len]
    omega
theorem layK_len (kind link : Int) (xs : List ByteArray) (k : Nat) (hk : k ≤ xs.length) (hr : 0 ≤ roomI xs) : (layK kind link xs k).length = 256 := by
  have h1 := roomI_flat xs
  have h2 := flat_le xs k
  unfold layK zeros
  simp only [List.length_append, List.length_map, List.length_take, List.length_replicate]
  have : (hd6 kind link xs.length).length = 6 := rfl
  omega
/-- a cell's length is laid -/
def layM (kind link : Int) (xs : List ByteArray) (k : Nat) : List Int :=
  hd6 kind link xs.length ++ ((xs.take (k + 1)).map (fun c => (c.size : Int)) ++ zeros (xs.length - (k + 1))) ++ (flatI (xs.take k) ++ zeros (250 - xs.length - (flatI (xs.take k)).length))
theorem layM_eq (kind link : Int) (xs : List ByteArray) (k : Nat) (hk : k < xs.length) : (layK kind link xs k).set (6 + k) ((xs[k]?.getD ByteArray.empty).size : Int) = layM kind link xs k := by
  unfold layK layM
  have h6 : (hd6 kind link xs.length).length = 6 := rfl
  have hz : zeros (xs.length - k) = 0 :: zeros (xs.length - (k + 1)) := by
    unfold zeros
    rw [show xs.length - k = (xs.length - (k + 1)) + 1 by omega, List.replicate_succ]
  have ht : ((xs.take k).map (fun c => (c.size : Int))).length = k := by simp; omega
  rw [List.append_assoc, List.append_assoc, List.set_append_right _ _ (by omega), h6, Nat.add_sub_cancel_left, List.append_assoc, List.set_append_right _ _ (by omega), ht, Nat.sub_self, hz]
  have hx : xs[k]?.getD ByteArray.empty = xs[k] := by simp [hk]
  rw [List.take_succ_eq_append_getElem hk, hx, List.map_append]
  simp only [List.map_cons, List.map_nil, List.append_assoc, List.cons_append, List.nil_append, List.set_cons_zero]
theorem layM_next (kind link : Int) (xs : List ByteArray) (k : Nat) (hk : k < xs.length) (hr : 0 ≤ roomI xs) : ∃ la lb ld, layM kind link xs k = la ++ lb ++ ld ∧ la.length = 6 + xs.length + (flatI (xs.take k)).length ∧ lb.length = (strI (xs[k]?.getD ByteArray.empty)).length ∧ layK kind link xs (k + 1) = la ++ strI (xs[k]?.getD ByteArray.empty) ++ ld ∧ lb = zeros (xs[k]?.getD ByteArray.empty).size := by
  have h1 := roomI_flat xs
  have h2 := flat_le xs (k + 1)
  have h3 := flat_take xs k hk
  have h4 : (flatI (xs.take (k + 1))).length = (flatI (xs.take k)).length + (strI (xs[k]?.getD ByteArray.empty)).length := by rw [h3, List.length_append]
  refine ⟨hd6 kind link xs.length ++ ((xs.take (k + 1)).map (fun c => (c.size : Int)) ++ zeros (xs.length - (k + 1))) ++ flatI (xs.take k), zeros (strI (xs[k]?.getD ByteArray.empty)).length, zeros (250 - xs.length - (flatI (xs.take (k + 1))).length), ?_, ?_, by simp [zeros], ?_, by rw [strI_len]⟩
  · unfold layM
    have : zeros (250 - xs.length - (flatI (xs.take k)).length) = zeros (strI (xs[k]?.getD ByteArray.empty)).length ++ zeros (250 - xs.length - (flatI (xs.take (k + 1))).length) := by
      unfold zeros
      rw [List.replicate_append_replicate]
      congr 1
      omega
    rw [this]
    simp only [List.append_assoc]
  · have : (hd6 kind link xs.length).length = 6 := rfl
    simp only [List.length_append, List.length_map, List.length_take, zeros, List.length_replicate]
    omega
  · unfold layK
    rw [h3]
    simp only [List.append_assoc]
theorem zero256_size : zero256.size = 256 := by rw [zero256_eq, bytesV_size]; exact List.length_replicate
theorem zero256_one : ones zero256 := by rw [zero256_eq]; exact bytesV_one _

set_option maxRecDepth 100000 in
set_option maxHeartbeats 1600000 in
theorem lay_ok (w : World) (kind link : Int) (A : Option Addr) (n cap : Nat) (xs : List ByteArray) (hn : n ≤ 4000) (h60 : ∀ c ∈ xs, 1 ≤ c.size ∧ c.size ≤ 60) (hS : Sl w A n xs) :
    Calls Tryz.prog 143 #[.agg #[.int .u8 kind, .int .u32 link, .slice A n cap]] w (LayPost w kind link xs) := by
  have HS := Lib.hid hS
  have H6 := Lib.hid h60
  clear hS h60
  go_enter Tryz.func143, Tryz.ntmps143
  go_wp2
  refine forget (p := fun wx => Code.wp _ _ _ _ wx) (LayS w kind link A n cap xs (zeros 256)) ⟨(((Kp.refl _ _).alloc _).alloc _).alloc _, ((Blk.new _ _ _).alloc _).alloc _, ?_, ?_, List.length_replicate, HS.out.keep ((((Kp.refl _ _).alloc _).alloc _).alloc _)⟩ ?_
  · exact (Blk.newAt _ _ _ _ (by simp)).alloc _
  · rw [← zero256_eq]; exact Blk.newAt _ _ _ _ (by simp)
  intro W hW
  have f0 : W.cell? ⟨w.heap.size, 0, none⟩ = some (.int .u8 kind) := hW.b1.cell 0
  have f2 : W.cell? ⟨w.heap.size, 2, none⟩ = some (.slice A n cap) := hW.b1.cell 2
  have p0 := hW.cell 0 (by omega)
  have p1 := hW.cell 1 (by omega)
  have z0 := hW.b4.frozen 0
  have z1 := hW.b4.frozen 1
  have HW := Lib.hid hW
  clear hW
  go_region
  refine forget (p := fun wx => Exit.then _ _ _ _ wx) (LayS w kind link A n cap xs (hdI kind link n 0 ++ zeros 250)) ((HW.out.set 0 kind).set 1 (n % 256)).drew ?_
  intro W1 hW1
  have HW1 := Lib.hid hW1
  clear hW1 f0 f2 p0 p1 z0 z1
  go_wp2
  go_loopw [17] (fun i wr => ∃ k : Nat, k ≤ 4 ∧ i = .int .i64 k ∧ LayS w kind link A n cap xs (hdI kind link n k ++ zeros 250) wr) (fun i _ => 4 - (intOf i).toNat)
  case atStart => exact ⟨0, by omega, rfl, HW1.out⟩
  case round =>
    obtain ⟨k, hk, rfl, hL⟩ := hrel
    have f1 : wr.cell? ⟨w.heap.size, 1, none⟩ = some (.int .u32 link) := hL.b1.cell 1
    have HL := Lib.hid hL
    clear hL
    by_cases hlt : k < 4
    · have pk := HL.out.cell (2 + k) (by omega)
      have zk := HL.out.b4.frozen (2 + k)
      rcases (show k = 0 ∨ k = 1 ∨ k = 2 ∨ k = 3 by omega) with rfl | rfl | rfl | rfl
      · go_wp2
        exact ⟨⟨1, by omega, rfl, by rw [← hd_s0]; exact HL.out.set 2 _⟩, by simp [intOf]⟩
      · go_wp2
        exact ⟨⟨2, by omega, rfl, by rw [← hd_s1]; exact HL.out.set 3 _⟩, by simp [intOf]⟩
      · go_wp2
        exact ⟨⟨3, by omega, rfl, by rw [← hd_s2]; exact HL.out.set 4 _⟩, by simp [intOf]⟩
      · go_wp2
        exact ⟨⟨4, by omega, rfl, by rw [← hd_s3]; exact HL.out.set 5 _⟩, by simp [intOf]⟩
    · obtain rfl : k = 4 := by omega
      have f2 : wr.cell? ⟨w.heap.size, 2, none⟩ = some (.slice A n cap) := HL.out.b1.cell 2
      have f0 : wr.cell? ⟨w.heap.size, 0, none⟩ = some (.int .u8 kind) := HL.out.b1.cell 0
      have hroom := roomI_lo xs (fun c hc => (H6.out c hc).2)
      by_cases hr : roomI xs < 0
      · have HLR := Lib.hid (show layR kind link xs = (zero256, false) from if_pos hr)
        have hz := zero256_size
        have ho := zero256_one
        by_cases hbig : (250 : Int) < n
        · have ht2 := HL.out.b2.thereAll 256 zero256_size
          go_wp2_with fail
          refine bodyPost_ret (ret_cell_tmp rfl _ _ _ _ _ _ rfl (HL.out.b2.whole zero256 rfl) Tryz.underlying86 rfl (by rw [zero256_size]; exact info26) _ rfl) rfl ?_
          exact ⟨by rw [HLR.out]; rfl, Kp.setCells (.inl (by omega)) _ _ _ HL.out.kp⟩
        · go_wp2_with (go_at_call 176; go_must (refine (room_ok _ kind link A n cap xs hn (fun c hc => (H6.out c hc).2) HL.out.sl).mono ?_); rintro e w2 ⟨rfl, hk2⟩; have HB2 := Lib.hid (HL.out.b2.keep hk2 (fun q => q)); have ht2 := HB2.out.thereAll 256 zero256_size)
          refine bodyPost_ret (ret_cell_tmp rfl _ _ _ _ _ _ rfl (HB2.out.whole zero256 rfl) Tryz.underlying86 rfl (by rw [zero256_size]; exact info26) _ rfl) rfl ?_
          exact ⟨by rw [HLR.out]; rfl, Kp.setCells (.inl (by omega)) _ _ _ (HL.out.kp.trans hk2 (fun _ _ q => q))⟩
      · have HLR := Lib.hid (show layR kind link xs = (bytesV (layI kind link xs), true) from if_neg hr)
        have hfl := roomI_flat xs
        have hlo := flat_lo xs (fun c hc => (H6.out c hc).1)
        have hnx : xs.length = n := HS.out.1
        have hn125 : (n : Int) ≤ 125 := by omega
        have HN := Lib.hid hnx
        have HF := Lib.hid hfl
        have HRR := Lib.hid hr
        clear hfl hlo hnx
        go_wp2_with (go_at_call 176; go_must (refine (room_ok _ kind link A n cap xs hn (fun c hc => (H6.out c hc).2) HL.out.sl).mono ?_); rintro e w2 ⟨rfl, hk2⟩; have HL2 := Lib.hid (HL.out.keep hk2); clear hk2; have g2 : w2.cell? ⟨w.heap.size, 2, none⟩ = some (.slice A n cap) := HL2.out.b1.cell 2)
        refine forget (p := fun wx => Code.wp _ _ _ _ wx) (LayS w kind link A n cap xs (layK kind link xs 0)) (by rw [← layK_zero kind link xs (by rw [HN.out]; omega), ← hd_s4, HN.out]; exact HL2.out) ?_
        intro W3 hW3
        have HW3 := Lib.hid hW3
        clear hW3 g2 f0 f1 f2
        go_loopw [6, 48] (fun p i wr => ∃ k m : Nat, k ≤ n ∧ i = .int .i64 k ∧ p = .int .i64 m ∧ m = 6 + n + (flatI (xs.take k)).length ∧ LayS w kind link A n cap xs (layK kind link xs k) wr) (fun _ i _ => n - (intOf i).toNat)
        case atStart => exact ⟨0, 6 + n, by omega, rfl, by congr 1, rfl, HW3.out⟩
        case round =>
          obtain ⟨k, m, hk, rfl, rfl, hm, hL⟩ := hrel
          have HM := Lib.hid hm
          have HLk := Lib.hid hL
          clear hm hL
          by_cases hlt : k < n
          · have hkx : k < xs.length := by rw [HN.out]; exact hlt
            have hcs : (xs[k]?.getD ByteArray.empty).size ≤ 60 ∧ 1 ≤ (xs[k]?.getD ByteArray.empty).size := by
              have := H6.out xs[k] (List.getElem_mem hkx)
              simp [hkx]; omega
            have hfk : (flatI (xs.take (k + 1))).length = (flatI (xs.take k)).length + (xs[k]?.getD ByteArray.empty).size := by rw [flat_take xs k hkx, List.length_append, strI_len]
            have hfk2 := flat_le xs (k + 1)
            have hm256 : m + (xs[k]?.getD ByteArray.empty).size ≤ 256 := by have := HF.out; have := HRR.out; have := HM.out; have := HN.out; omega
            have hmm : m = 6 + n + (flatI (xs.take k)).length := HM.out
            obtain ⟨c, hc⟩ : ∃ c, xs[k]?.getD ByteArray.empty = c := ⟨_, rfl⟩
            rw [hc] at hcs hm256 hfk
            have hmc : (m : Int) + (c.size : Int) ≤ 256 := by omega
            have hc1 : (1 : Int) ≤ (c.size : Int) := by omega
            have hc60 : (c.size : Int) ≤ 60 := by omega
            obtain ⟨g, o, rfl, hg, hcell⟩ := HLk.out.sl.2 (by omega)
            have hck := hcell k hlt
            rw [show xs.getD k ByteArray.empty = c by rw [← hc]; simp] at hck
            have HC := Lib.hid hc
            have pk := HLk.out.cell (6 + k) (by omega)
            have zk := HLk.out.b4.frozen (6 + k)
            have hne : ¬ 256 = m := by omega
            have hm2 : (m : Int) ≤ 256 := by omega
            clear hcell hc hmm hfk hfk2
            go_wp2_with (show wpList _ _ _ (⟨some 63, _, _, _, _, _⟩ :: _) _ _; go_must (refine wpList_copyS rfl (.tmp 61) (.tmp 62) 50 9 5 rfl Tryz.underlying50 sizeU8 (w.heap.size + 1 + 1) m (256 - m) (256 - m) c rfl rfl (by omega) ?_ ?_))
            case roundEnd =>
              have hS2 := HLk.out.set (6 + k) (c.size : Int)
              rw [show (c.size : Int) = ((xs[k]?.getD ByteArray.empty).size : Int) by rw [HC.out], layM_eq kind link xs k hkx] at hS2
              obtain ⟨la, lb, ld, q1, q2, q3, q4, _⟩ := layM_next kind link xs k hkx HRR.out
              rw [q1] at hS2
              have hS3 := hS2.copy m (by rw [q2, HM.out, HN.out]) q3
              rw [← q4, HC.out] at hS3
              exact ⟨⟨k + 1, m + c.size, by omega, by congr 1, by congr 1, by rw [flat_take xs k hkx, List.length_append, strI_len, HC.out, HM.out]; omega, hS3⟩, by simp [intOf]; omega⟩
            case refine_1 =>
              exact (HLk.out.b4.set_ (6 + k) _).there (by rw [bytesV_set, bytesV_size, List.length_set, HLk.out.ln]; exact hm256)
          · obtain rfl : k = n := by omega
            have ht2 := HLk.out.b2.thereAll 256 zero256_size
            have ht4 := HLk.out.b4.thereAll 256 (by rw [bytesV_size]; exact HLk.out.ln)
            have hr4 := HLk.out.b4.readAll 256 (by rw [bytesV_size]; exact HLk.out.ln)
            have hsz : (bytesV (layK kind link xs k)).size = 256 := by rw [bytesV_size]; exact HLk.out.ln
            have hon := bytesV_one (layK kind link xs k)
            go_wp2_with fail
            refine bodyPost_ret (ret_cell_tmp rfl _ _ _ _ _ _ rfl (HLk.out.b2.whole (bytesV (layK kind link xs k)) (by rw [zero256_size, hsz])) Tryz.underlying86 rfl (by rw [hsz]; exact info26) _ rfl) rfl ?_
            exact ⟨by rw [HLR.out]; unfold layI; rw [HN.out]; rfl, Kp.setCells (.inl (by omega)) _ _ _ HLk.out.kp⟩
end Go.Proofs.YtoeldmkbmnkhkaaGreat
/- The program's told, cell and New: pages are made of any kind, link and cells; no condition. -/
namespace Go.Proofs.YtoeldmkbmnkhkaaGreat
open Go.RowKit
attribute [local go_sem ↓] load26 store26 alloc26 build26 slice26lo

/-- what told answers -/
def toldR (kind link : Int) (xs : List ByteArray) : Array Value × Int := if roomI xs < 0 then (zero256, 5) else (bytesV (layI kind link xs), 0)
def PagePost (w : World) (r : Array Value × Int) (e : Ending) (w' : World) : Prop :=
  e = .returned (.tuple #[.agg r.1, .int .i64 r.2]) ∧ Kp NoB w w'
theorem layI_len (kind link : Int) (xs : List ByteArray) (h : 0 ≤ roomI xs) : (layI kind link xs).length = 256 := layK_len kind link xs xs.length (Nat.le_refl _) h
theorem layR_size (kind link : Int) (xs : List ByteArray) : (layR kind link xs).1.size = 256 := by
  unfold layR
  split
  · exact zero256_size
  · rw [bytesV_size]; exact layI_len kind link xs (by omega)
theorem layR_one (kind link : Int) (xs : List ByteArray) : ones (layR kind link xs).1 := by
  unfold layR
  split
  · exact zero256_one
  · exact bytesV_one _

set_option maxRecDepth 100000 in
set_option maxHeartbeats 1600000 in
theorem told_ok (w : World) (kind link : Int) (A : Option Addr) (n cap : Nat) (xs : List ByteArray) (hn : n ≤ 4000) (h60 : ∀ c ∈ xs, 1 ≤ c.size ∧ c.size ≤ 60) (hS : Sl w A n xs) :
    Calls Tryz.prog 106 #[.agg #[.int .u8 kind, .int .u32 link, .slice A n cap]] w (PagePost w (toldR kind link xs)) := by
  have HS := Lib.hid (hS.keep (((Kp.refl NoB w).alloc (.cells #[.int .u8 kind, .int .u32 link, .slice A n cap] 185)).alloc (.cells zero256 86)))
  have HB2 : Hid (Blk ((w.alloc (.cells #[.int .u8 kind, .int .u32 link, .slice A n cap] 185)).alloc (.cells zero256 86)) (w.heap.size + 1) 86 zero256) := Lib.hid (Blk.newAt _ _ _ _ (by simp))
  have H6 := Lib.hid h60
  clear hS h60
  by_cases hr : roomI xs < 0
  · have HR := Lib.hid (show layR kind link xs = (zero256, false) from (if_pos hr))
    have HT := Lib.hid (show toldR kind link xs = (zero256, 5) from (if_pos hr))
    have HP1 : Hid (zero256.size = 256) := Lib.hid (by have := layR_size kind link xs; rw [HR.out] at this; exact this)
    have HP2 : Hid (ones zero256) := Lib.hid (by have := layR_one kind link xs; rw [HR.out] at this; exact this)
    clear hr
    go_enter Tryz.func106, Tryz.ntmps106
    go_wp2_with (first
      | (go_at_call 143; go_must (refine (lay_ok _ kind link A n cap xs hn H6.out HS.out).mono ?_); rintro e w2 hq; unfold LayPost at hq; rw [HR.out] at hq; obtain ⟨rfl, hk2⟩ := hq; have HB := Lib.hid (HB2.out.keep hk2 (fun q => q)); have HK := Lib.hid ((((Kp.refl NoB w).alloc _).alloc _).trans hk2 (fun _ _ q => q)); clear hk2)
      | (show wpList _ _ _ (⟨none, .store _ (.tmp 4) _, _, _, _, _⟩ :: _) _ _; go_must (refine wpList_store_row rfl 86 (.tmp 4) _ rfl w2.heap.size zero256 rfl rfl 86 _ (heap_alloc_new _ _) (by rw [HP1.out]; exact info26) (zero256_size.trans HP1.out.symm) HP2.out ?_); refine forget (p := fun wx => wpList _ _ _ _ _ wx) (fun wx => Kp NoB w2 wx ∧ Blk wx w2.heap.size 86 zero256) ⟨((Kp.refl _ _).alloc _).setRow (.inl (Nat.le_refl _)) _, (Blk.new _ _ _).row _⟩ ?_; rintro w3 ⟨hk3, hb3⟩; have HB3 := Lib.hid hb3; have HBr := Lib.hid (HB.out.keep hk3 (fun q => q)); have HK3 := Lib.hid (HK.out.trans hk3 (fun _ _ q => q)); have t2 := HBr.out.thereAll 256 zero256_size; have t4 := HB3.out.thereAll 256 HP1.out; have r4 := HB3.out.readAll 256 HP1.out; have p1 := HP1.out; have p2 := HP2.out; clear hk3 hb3))
    refine bodyPost_ret (ret_cell_tmp rfl _ _ _ _ _ _ rfl (HBr.out.whole zero256 (zero256_size.trans HP1.out.symm)) Tryz.underlying86 rfl (by rw [HP1.out]; exact info26) _ rfl) rfl ?_
    exact ⟨by rw [HT.out]; rfl, Kp.setCells (.inl (by omega)) _ _ _ HK3.out⟩
  · have HR := Lib.hid (show layR kind link xs = ((bytesV (layI kind link xs)), true) from (if_neg hr))
    have HT := Lib.hid (show toldR kind link xs = ((bytesV (layI kind link xs)), 0) from (if_neg hr))
    have HP1 : Hid ((bytesV (layI kind link xs)).size = 256) := Lib.hid (by have := layR_size kind link xs; rw [HR.out] at this; exact this)
    have HP2 : Hid (ones (bytesV (layI kind link xs))) := Lib.hid (by have := layR_one kind link xs; rw [HR.out] at this; exact this)
    clear hr
    go_enter Tryz.func106, Tryz.ntmps106
    go_wp2_with (first
      | (go_at_call 143; go_must (refine (lay_ok _ kind link A n cap xs hn H6.out HS.out).mono ?_); rintro e w2 hq; unfold LayPost at hq; rw [HR.out] at hq; obtain ⟨rfl, hk2⟩ := hq; have HB := Lib.hid (HB2.out.keep hk2 (fun q => q)); have HK := Lib.hid ((((Kp.refl NoB w).alloc _).alloc _).trans hk2 (fun _ _ q => q)); clear hk2)
      | (show wpList _ _ _ (⟨none, .store _ (.tmp 4) _, _, _, _, _⟩ :: _) _ _; go_must (refine wpList_store_row rfl 86 (.tmp 4) _ rfl w2.heap.size (bytesV (layI kind link xs)) rfl rfl 86 _ (heap_alloc_new _ _) (by rw [HP1.out]; exact info26) (zero256_size.trans HP1.out.symm) HP2.out ?_); refine forget (p := fun wx => wpList _ _ _ _ _ wx) (fun wx => Kp NoB w2 wx ∧ Blk wx w2.heap.size 86 (bytesV (layI kind link xs))) ⟨((Kp.refl _ _).alloc _).setRow (.inl (Nat.le_refl _)) _, (Blk.new _ _ _).row _⟩ ?_; rintro w3 ⟨hk3, hb3⟩; have HB3 := Lib.hid hb3; have HBr := Lib.hid (HB.out.keep hk3 (fun q => q)); have HK3 := Lib.hid (HK.out.trans hk3 (fun _ _ q => q)); have t2 := HBr.out.thereAll 256 zero256_size; have t4 := HB3.out.thereAll 256 HP1.out; have r4 := HB3.out.readAll 256 HP1.out; have p1 := HP1.out; have p2 := HP2.out; clear hk3 hb3))
    refine bodyPost_ret (ret_cell_tmp rfl _ _ _ _ _ _ rfl (HBr.out.whole (bytesV (layI kind link xs)) (zero256_size.trans HP1.out.symm)) Tryz.underlying86 rfl (by rw [HP1.out]; exact info26) _ rfl) rfl ?_
    exact ⟨by rw [HT.out]; rfl, Kp.setCells (.inl (by omega)) _ _ _ HK3.out⟩

/-- may a cell be? -/
def cellE (c : ByteArray) : Int := if c.size = 0 then 2 else if 60 < c.size then 3 else 0
theorem isEmpty_size (c : ByteArray) : c.toList.isEmpty = decide (c.size = 0) := by
  have h : c.toList = c.data.toList := ByteArray.toList_eq c
  rw [h]
  have : c.size = c.data.toList.length := by simp
  rw [this]
  cases c.data.toList <;> simp
theorem cell_ok (w : World) (c : ByteArray) (hc : c.size ≤ 9223372036854775807) : Calls Tryz.prog 105 #[.string c] w fun e w' => e = .returned (.int .i64 (cellE c)) ∧ w = w' := by
  by_cases h0 : c.size = 0
  · have HE := Lib.hid (show cellE c = 2 from if_pos h0)
    have he : c.toList.isEmpty = true := by rw [isEmpty_size]; simp [h0]
    clear h0
    go_enter Tryz.func105, Tryz.ntmps105
    go_wp2
    go_ret
    exact ⟨ret_int HE.out.symm, rfl⟩
  · have he : c.toList.isEmpty = false := by rw [isEmpty_size]; simp [h0]
    by_cases h6 : 60 < c.size
    · have HE := Lib.hid (show cellE c = 3 by unfold cellE; rw [if_neg h0, if_pos h6])
      have hz : (60 : Int) < (c.size : Int) := by omega
      clear h0 h6
      go_enter Tryz.func105, Tryz.ntmps105
      go_wp2
      go_ret
      exact ⟨ret_int HE.out.symm, rfl⟩
    · have HE := Lib.hid (show cellE c = 0 by unfold cellE; rw [if_neg h0, if_neg h6])
      have hz : (c.size : Int) ≤ 60 := by omega
      clear h0 h6
      go_enter Tryz.func105, Tryz.ntmps105
      go_wp2
      go_ret
      exact ⟨ret_int HE.out.symm, rfl⟩
end Go.Proofs.YtoeldmkbmnkhkaaGreat
/- The program's New: pages are made of any kind, link and cells; no condition. -/
namespace Go.Proofs.YtoeldmkbmnkhkaaGreat
open Go.RowKit
attribute [local go_sem ↓] load26 store26 alloc26 build26 slice26lo

/-- the worst of the cells' errors -/
def worstK (xs : List ByteArray) (k : Nat) : Int := if (xs.take k).any (fun c => decide (60 < c.size)) then 3 else 0
def hole (xs : List ByteArray) : Bool := xs.any fun c => decide (c.size = 0)
def newR (kind link : Int) (xs : List ByteArray) : Array Value × Int :=
  if 5 < kind ∨ hole xs = true then (zero256, 2) else if worstK xs xs.length = 3 then (zero256, 3) else toldR kind link xs
theorem worstK_cases (xs : List ByteArray) (k : Nat) : worstK xs k = 0 ∨ worstK xs k = 3 := by
  unfold worstK
  split
  · exact .inr rfl
  · exact .inl rfl
theorem worstK_succ (xs : List ByteArray) (k : Nat) (hk : k < xs.length) (h0 : (xs[k]?.getD ByteArray.empty).size ≠ 0) : worstK xs (k + 1) = if worstK xs k = 0 then cellE (xs[k]?.getD ByteArray.empty) else worstK xs k := by
  have hx : xs[k]?.getD ByteArray.empty = xs[k] := by simp [hk]
  rw [hx] at h0 ⊢
  unfold worstK cellE
  rw [List.take_succ_eq_append_getElem hk, List.any_append]
  simp only [List.any_cons, List.any_nil, Bool.or_false, if_neg h0]
  cases h : (xs.take k).any (fun c => decide (60 < c.size))
  · by_cases h6 : 60 < xs[k].size <;> simp [h6]
  · simp
theorem hole_at (xs : List ByteArray) (k : Nat) (hk : k < xs.length) (h0 : (xs[k]?.getD ByteArray.empty).size = 0) : hole xs = true := by
  unfold hole
  rw [List.any_eq_true]
  exact ⟨xs[k], List.getElem_mem hk, by simpa [hk] using h0⟩
theorem hole_no (xs : List ByteArray) (h : ∀ k, k < xs.length → (xs[k]?.getD ByteArray.empty).size ≠ 0) : hole xs = false := by
  cases hh : hole xs
  · rfl
  · unfold hole at hh
    rw [List.any_eq_true] at hh
    obtain ⟨c, hc, hz⟩ := hh
    obtain ⟨i, hi, rfl⟩ := List.getElem_of_mem hc
    exact absurd (by simpa using hz) (by simpa [hi] using h i hi)
theorem good_cells (xs : List ByteArray) (h : hole xs = false) (hw : worstK xs xs.length = 0) : ∀ c ∈ xs, 1 ≤ c.size ∧ c.size ≤ 60 := by
  intro c hc
  have h1 : ¬ c.size = 0 := by
    intro e
    have : hole xs = true := by unfold hole; rw [List.any_eq_true]; exact ⟨c, hc, by simp [e]⟩
    rw [h] at this; cases this
  have h2 : ¬ 60 < c.size := by
    intro e
    have : worstK xs xs.length = 3 := by
      unfold worstK
      rw [if_pos]
      rw [List.any_eq_true]
      exact ⟨c, by simpa using hc, by simp [e]⟩
    rw [hw] at this; cases this
  omega
theorem toldR_size (kind link : Int) (xs : List ByteArray) : (toldR kind link xs).1.size = 256 := by
  unfold toldR
  split
  · exact zero256_size
  · rw [bytesV_size]; exact layI_len kind link xs (by omega)
theorem toldR_one (kind link : Int) (xs : List ByteArray) : ones (toldR kind link xs).1 := by
  unfold toldR
  split
  · exact zero256_one
  · exact bytesV_one _

set_option maxRecDepth 100000 in
set_option maxHeartbeats 1600000 in
theorem pgnew_ok (w : World) (kind link : Int) (A : Option Addr) (n cap : Nat) (xs : List ByteArray) (hn : n ≤ 4000) (hsz : ∀ c ∈ xs, c.size ≤ 9223372036854775807) (hS : Sl w A n xs) :
    Calls Tryz.prog 67 #[.int .u8 kind, .int .u32 link, .slice A n cap] w (PagePost w (newR kind link xs)) := by
  have HS := Lib.hid (hS.keep ((Kp.refl NoB w).alloc (.cells zero256 86)))
  have HB : Hid (Blk (w.alloc (.cells zero256 86)) w.heap.size 86 zero256) := Lib.hid (Blk.new _ _ _)
  have HZ := Lib.hid hsz
  clear hS hsz
  go_enter Tryz.func67, Tryz.ntmps67
  go_wp2
  go_loop [8, 14] (fun e i => ∃ k : Nat, k ≤ n ∧ i = .int .i64 k ∧ e = .int .i64 (worstK xs k) ∧ ∀ j, j < k → (xs[j]?.getD ByteArray.empty).size ≠ 0) (fun _ i => n - (intOf i).toNat)
  case atStart => exact ⟨0, by omega, rfl, rfl, fun j hj => by omega⟩
  case round =>
    obtain ⟨k, hk, rfl, rfl, hne⟩ := hrel
    have HNE := Lib.hid hne
    clear hne
    have t0 := HB.out.thereAll 256 zero256_size
    have zs := zero256_size
    have zo := zero256_one
    by_cases hlt : k < n
    · have hkx : k < xs.length := by rw [HS.out.1]; exact hlt
      obtain ⟨g, o, rfl, hg, hc⟩ := HS.out.2 (by omega)
      obtain ⟨c, hcd⟩ : ∃ c, xs[k]?.getD ByteArray.empty = c := ⟨_, rfl⟩
      have hcell := hc k hlt
      rw [show xs.getD k ByteArray.empty = c by rw [← hcd]; simp] at hcell
      have hcz : c.size ≤ 9223372036854775807 := by
        have := HZ.out xs[k] (List.getElem_mem hkx)
        rw [← hcd]; simpa [hkx] using this
      have HC := Lib.hid hcd
      clear hc hcd
      by_cases h0 : c.size = 0
      · have HE := Lib.hid (show cellE c = 2 from if_pos h0)
        have HH := Lib.hid (hole_at xs k hkx (by rw [HC.out]; exact h0))
        have HN := Lib.hid (show newR kind link xs = (zero256, 2) by unfold newR; rw [if_pos (.inr HH.out)])
        clear h0
        go_wp2_with (go_at_call 105; go_must (refine (cell_ok _ c hcz).mono ?_); rw [HE.out]; rintro e w2 ⟨rfl, rfl⟩)
        all_goals
          refine bodyPost_ret (ret_cell_tmp rfl _ _ _ _ _ _ rfl (HB.out.whole zero256 rfl) Tryz.underlying86 rfl (by rw [zero256_size]; exact info26) _ rfl) rfl ?_
          exact ⟨by rw [HN.out]; rfl, Kp.setCells (.inl (Nat.le_refl _)) _ _ _ ((Kp.refl _ _).alloc _)⟩
      · have HW := Lib.hid (worstK_succ xs k hkx (by rw [HC.out]; exact h0))
        have HNX : Hid (∀ j, j < k + 1 → (xs[j]?.getD ByteArray.empty).size ≠ 0) := Lib.hid (fun j hj => by
          rcases Nat.lt_or_ge j k with q | q
          · exact HNE.out j q
          · obtain rfl : j = k := by omega
            rw [HC.out]; exact h0)
        rcases worstK_cases xs k with hw | hw
        all_goals
          rcases (show cellE c = 0 ∨ cellE c = 3 by unfold cellE; rw [if_neg h0]; split <;> simp) with hc | hc
          all_goals
            rw [hw]
            have HE := Lib.hid hc
            have HWK := Lib.hid hw
            clear hw hc
            go_wp2_with (go_at_call 105; go_must (refine (cell_ok _ c hcz).mono ?_); rw [HE.out]; rintro e w2 ⟨rfl, rfl⟩)
            exact ⟨⟨k + 1, by omega, by congr 1, by rw [HW.out, HWK.out, HC.out, HE.out]; rfl, HNX.out⟩, by simp [intOf]; omega⟩
    · obtain rfl : k = n := by omega
      have HH := Lib.hid (hole_no xs (fun j hj => HNE.out j (by rw [← HS.out.1]; exact hj)))
      have HL := Lib.hid HS.out.1
      rcases worstK_cases xs k with hw | hw
      · by_cases hk5 : 5 < kind
        · have HN := Lib.hid (show newR kind link xs = (zero256, 2) by unfold newR; rw [if_pos (.inl hk5)])
          rw [hw]
          clear hw
          go_wp2
          refine bodyPost_ret (ret_cell_tmp rfl _ _ _ _ _ _ rfl (HB.out.whole zero256 rfl) Tryz.underlying86 rfl (by rw [zero256_size]; exact info26) _ rfl) rfl ?_
          exact ⟨by rw [HN.out]; rfl, Kp.setCells (.inl (Nat.le_refl _)) _ _ _ ((Kp.refl _ _).alloc _)⟩
        · have HWK := Lib.hid (show worstK xs xs.length = 0 by rw [HL.out]; exact hw)
          have HN := Lib.hid (show newR kind link xs = toldR kind link xs by unfold newR; rw [if_neg (by rw [HH.out]; simp [hk5]), if_neg (by rw [HWK.out]; decide)])
          have HG := Lib.hid (good_cells xs HH.out HWK.out)
          obtain ⟨r, hr⟩ : ∃ r, toldR kind link xs = r := ⟨_, rfl⟩
          obtain ⟨p, code⟩ := r
          have p1 : p.size = 256 := by have := toldR_size kind link xs; rw [hr] at this; exact this
          have p2 : ones p := by have := toldR_one kind link xs; rw [hr] at this; exact this
          have P1 := Lib.hid p1
          have HR := Lib.hid hr
          rw [hw]
          clear hw hr
          go_wp2_with (go_at_call 106; go_must (refine (told_ok _ kind link A k cap xs hn HG.out HS.out).mono ?_); rintro e w2 hq; unfold PagePost at hq; rw [HR.out] at hq; obtain ⟨rfl, hk2⟩ := hq; have HB2 := Lib.hid (HB.out.keep hk2 (fun q => q)); have t2 := HB2.out.thereAll 256 zero256_size; have HK := Lib.hid (((Kp.refl NoB w).alloc _).trans hk2 (fun _ _ q => q)); clear hk2)
          refine bodyPost_ret (ret_cell_tmp rfl _ _ _ _ _ _ rfl (HB2.out.whole p (zero256_size.trans P1.out.symm)) Tryz.underlying86 rfl (by rw [P1.out]; exact info26) _ rfl) rfl ?_
          exact ⟨by rw [HN.out, HR.out]; rfl, Kp.setCells (.inl (Nat.le_refl _)) _ _ _ HK.out⟩
      · by_cases hk5 : 5 < kind
        · have HN := Lib.hid (show newR kind link xs = (zero256, 2) by unfold newR; rw [if_pos (.inl hk5)])
          rw [hw]
          clear hw
          go_wp2
          refine bodyPost_ret (ret_cell_tmp rfl _ _ _ _ _ _ rfl (HB.out.whole zero256 rfl) Tryz.underlying86 rfl (by rw [zero256_size]; exact info26) _ rfl) rfl ?_
          exact ⟨by rw [HN.out]; rfl, Kp.setCells (.inl (Nat.le_refl _)) _ _ _ ((Kp.refl _ _).alloc _)⟩
        · have HN := Lib.hid (show newR kind link xs = (zero256, 3) by unfold newR; rw [if_neg (by rw [HH.out]; simp [hk5]), if_pos (by rw [HL.out]; exact hw)])
          rw [hw]
          clear hw
          go_wp2
          refine bodyPost_ret (ret_cell_tmp rfl _ _ _ _ _ _ rfl (HB.out.whole zero256 rfl) Tryz.underlying86 rfl (by rw [zero256_size]; exact info26) _ rfl) rfl ?_
          exact ⟨by rw [HN.out]; rfl, Kp.setCells (.inl (Nat.le_refl _)) _ _ _ ((Kp.refl _ _).alloc _)⟩
end Go.Proofs.YtoeldmkbmnkhkaaGreat
/- The reference's Room, Lay, Told and New: pages are made of any kind, link and cells; no condition. -/
namespace Go.Proofs.YtoeldmkbmnkhkaaGreat
open Go.RowKit
attribute [local go_sem ↓] load26 store26 alloc26 build26 slice26lo

end Go.Proofs.YtoeldmkbmnkhkaaGreat
/- The reference's Told and New: pages are made of any kind, link and cells; no condition. -/
namespace Go.Proofs.YtoeldmkbmnkhkaaGreat
open Go.RowKit
attribute [local go_sem ↓] load26 store26 alloc26 build26 slice26lo

end Go.Proofs.YtoeldmkbmnkhkaaGreat
