/- Texts of this proof, one behind the other: lemmas and contracts; each says its own conditions. -/
import Derived.Maps.RangeWalk
import Derived.Maps.Views
import Derived.Deep.RegionWith
import Derived.Deep.Cut
import Derived.Deep.CutRange
import Derived.Deep.DeepCutAuto
import Derived.Deep.LoopGhost
import Derived.Deep.RegionHeld3
import Derived.Deep.RegionLaw
import Derived.Deep.DeepFit
import Derived.Deep.DeepMust
import Derived.StillTailTactics
import Derived.Maps.AppendAt
import Derived.Deep.AppendLies
import Derived.WalkKit
import Derived.Deep.MidRow
import Derived.Deep.WholeRow
import Derived.Laws.ResultCell
import Derived.WalkLawsBesides
import Derived.WalkSpells
import Derived.Deep.QuietTactic
import Derived.BigQuiet
import Derived.Lib.Hide
import Derived.Laws.Rows
import Derived.Below
import Derived.Laws.OwnMore
import Derived.Deep.Draws
import Derived.Test.YtegcbdfilkecpaaProg
import Derived.Lib.LazyBuf
import Derived.Laws.AppendOwnNone
import Derived.Lib.AppendZeros
import Derived.Lib.AppendZerosOnto
/- The stand-in disk's files in plain Lean: a list of entries, no name twice; no condition. -/
namespace Go.Proofs.Ytegcbdfilkecpaa
open Go

/-- a file: its name, its block, what is seen of it, what is kept -/
structure Fe where
  nm : ByteArray
  fb : Nat
  seen : List Int
  kept : List Int
def kOf (s : ByteArray) : List UInt8 := s.data.toList
theorem kOf_inj {s s' : ByteArray} (h : kOf s = kOf s') : s = s' := by
  cases s; cases s'; simp [kOf] at h; simp [h]
def findF (fs : List Fe) (k : List UInt8) : Option Fe := fs.find? fun e => kOf e.nm == k
theorem findF_some {fs : List Fe} {k : List UInt8} {e : Fe} (h : findF fs k = some e) : e ∈ fs ∧ kOf e.nm = k := by
  unfold findF at h
  exact ⟨List.mem_of_find?_eq_some h, by simpa using List.find?_some h⟩
def Names (fs : List Fe) : Prop := fs.Pairwise fun x y => kOf x.nm ≠ kOf y.nm
theorem Names.find {fs : List Fe} (h : Names fs) {e : Fe} (he : e ∈ fs) : findF fs (kOf e.nm) = some e := by
  unfold findF
  induction fs with
  | nil => simp at he
  | cons x fs ih =>
    obtain ⟨h1, h2⟩ := List.pairwise_cons.1 h
    rcases List.mem_cons.1 he with rfl | he'
    · simp
    · have := h1 e he'
      rw [List.find?_cons_of_neg (by simpa using this)]
      exact ih h2 he'
/-- the entry at e's name is e now; behind all where there was none -/
def putF (fs : List Fe) (e : Fe) : List Fe := match fs with
  | [] => [e]
  | x :: r => if kOf x.nm = kOf e.nm then e :: r else x :: putF r e
theorem putF_find (fs : List Fe) (e : Fe) (k : List UInt8) : findF (putF fs e) k = if kOf e.nm = k then some e else findF fs k := by
  induction fs with
  | nil =>
    unfold putF findF
    by_cases h : kOf e.nm = k <;> simp [h]
  | cons x r ih =>
    unfold putF
    by_cases h : kOf x.nm = kOf e.nm
    · rw [if_pos h]
      unfold findF
      by_cases hk : kOf e.nm = k
      · simp [hk]
      · simp [hk, h]
    · rw [if_neg h]
      unfold findF at ih ⊢
      by_cases hk : kOf x.nm = k
      · have : kOf e.nm ≠ k := fun q => h (hk.trans q.symm)
        simp [hk, this]
      · simp only [List.find?_cons, show (kOf x.nm == k) = false by simpa using hk]
        exact ih
theorem putF_mem {fs : List Fe} {e x : Fe} (h : x ∈ putF fs e) : x = e ∨ (x ∈ fs ∧ (Names fs → kOf x.nm ≠ kOf e.nm)) := by
  induction fs with
  | nil => simp [putF] at h; exact .inl h
  | cons y r ih =>
    unfold putF at h
    split at h
    · rename_i hy
      rcases List.mem_cons.1 h with rfl | hx
      · exact .inl rfl
      · refine .inr ⟨List.mem_cons_of_mem _ hx, fun hn => ?_⟩
        have := (List.pairwise_cons.1 hn).1 x hx
        rw [hy] at this
        exact fun q => this q.symm
    · rename_i hy
      rcases List.mem_cons.1 h with rfl | hx
      · exact .inr ⟨List.mem_cons_self .., fun _ => hy⟩
      · rcases ih hx with rfl | ⟨hm, hn⟩
        · exact .inl rfl
        · exact .inr ⟨List.mem_cons_of_mem _ hm, fun q => hn (List.pairwise_cons.1 q).2⟩
theorem putF_names {fs : List Fe} (h : Names fs) (e : Fe) : Names (putF fs e) := by
  induction fs with
  | nil => simp [putF, Names]
  | cons y r ih =>
    obtain ⟨h1, h2⟩ := List.pairwise_cons.1 h
    unfold putF
    split
    · rename_i hy
      exact List.pairwise_cons.2 ⟨fun x hx => by rw [← hy]; exact h1 x hx, h2⟩
    · rename_i hy
      refine List.pairwise_cons.2 ⟨fun x hx => ?_, ih h2⟩
      rcases putF_mem hx with rfl | ⟨hm, _⟩
      · exact hy
      · exact h1 x hm
/-- how many bytes the files have that were met -/
def restSum (left : List UInt8 → Bool) : List Fe → Nat
  | [] => 0
  | e :: r => (if left (kOf e.nm) then 0 else e.seen.length) + restSum left r
theorem restSum_same {l l' : List UInt8 → Bool} {fs : List Fe} (h : ∀ e ∈ fs, l (kOf e.nm) = l' (kOf e.nm)) : restSum l fs = restSum l' fs := by
  induction fs with
  | nil => rfl
  | cons x r ih =>
    simp only [restSum]
    rw [h x (List.mem_cons_self ..), ih fun e he => h e (List.mem_cons_of_mem _ he)]
theorem restSum_step {fs : List Fe} (hn : Names fs) {left : List UInt8 → Bool} {e : Fe} (he : e ∈ fs) (hl : left (kOf e.nm) = true) :
    restSum (fun z => left z && !(z == kOf e.nm)) fs = restSum left fs + e.seen.length := by
  induction fs with
  | nil => simp at he
  | cons x r ih =>
    obtain ⟨h1, h2⟩ := List.pairwise_cons.1 hn
    simp only [restSum]
    rcases List.mem_cons.1 he with rfl | he'
    · rw [restSum_same (l' := left) (fun y hy => by
        have := h1 y hy
        have e : (kOf y.nm == kOf e.nm) = false := by simpa using fun q => this q.symm
        simp [e])]
      simp [hl]; omega
    · rw [ih h2 he']
      have := h1 e he'
      have e2 : (kOf x.nm == kOf e.nm) = false := by simpa using this
      simp [e2]; omega
theorem restSum_none {left : List UInt8 → Bool} {fs : List Fe} (h : ∀ e ∈ fs, left (kOf e.nm) = true) : restSum left fs = 0 := by
  induction fs with
  | nil => rfl
  | cons x r ih =>
    simp only [restSum]
    rw [h x (List.mem_cons_self ..), ih fun e he => h e (List.mem_cons_of_mem _ he)]
    simp
def allSum (fs : List Fe) : Nat := (fs.map (·.seen.length)).sum
theorem restSum_all {left : List UInt8 → Bool} {fs : List Fe} (h : ∀ e ∈ fs, left (kOf e.nm) = false) : restSum left fs = allSum fs := by
  induction fs with
  | nil => rfl
  | cons x r ih =>
    simp only [restSum]
    rw [h x (List.mem_cons_self ..), ih fun e he => h e (List.mem_cons_of_mem _ he)]
    simp [allSum]
/-! ### the map in memory: each name leads to the file's block -/
def ptrV (b : Nat) : Value := .pointer (some ⟨b, 0, none⟩)
def Rp : Value → Option (DataW Value × List MemPlace)
  | .pointer p => some (.held (.pointer p), [])
  | _ => none
theorem Rp_inv {v : Value} {y : DataW Value × List MemPlace} (h : Rp v = some y) : ∃ p, v = .pointer p ∧ y = (.held (.pointer p), []) := by
  cases v <;> simp [Rp] at h
  exact ⟨_, rfl, h.symm⟩
def foundV (fs : List Fe) (k : List UInt8) : Value := match findF fs k with | some e => ptrV e.fb | none => .pointer none
structure MpD (D : DataW Value) (fs : List Fe) : Prop where
  at_ : ∀ k z, D.atKey (.string k) z = match findF fs k with | some e => .held (ptrV e.fb) | none => z
theorem MpD.nil : MpD (.map []) [] := ⟨fun k z => by simp [findF, DataW.atKey]⟩
theorem MpD.has {D : DataW Value} {fs : List Fe} (h : MpD D fs) (k : List UInt8) : Maps.has D (.string k) = (findF fs k).isSome := by
  cases hf : findF fs k with
  | none => exact Maps.has_false_of_atKey fun z => by rw [h.at_, hf]
  | some e => exact Maps.has_true_of_atKey (y := .held (ptrV e.fb)) fun z => by rw [h.at_, hf]
theorem MpD.put {D : DataW Value} {fs : List Fe} (h : MpD D fs) (hm : Maps.IsMap D) (e : Fe) (hw : WideAt.IsKeyLit (.string (kOf e.nm))) : MpD (D.put (.string (kOf e.nm)) (.held (ptrV e.fb))) (putF fs e) :=
  ⟨fun k z => by
    rw [putF_find]
    by_cases hk : kOf e.nm = k
    · subst hk
      rw [if_pos rfl, Maps.atKey_put_same hm hw]
    · rw [if_neg hk, Maps.atKey_put_other (fun q => hk (by injection q with q; exact q.symm)), h.at_]⟩
/-- another reading of the same files: only what is seen or kept has turned -/
theorem MpD.same {D : DataW Value} {fs fs' : List Fe} (h : MpD D fs) (hs : ∀ k, (findF fs' k).map (·.fb) = (findF fs k).map (·.fb)) : MpD D fs' :=
  ⟨fun k z => by
    have := hs k
    rw [h.at_]
    cases h1 : findF fs k <;> cases h2 : findF fs' k <;> rw [h1, h2] at this <;> simp at this
    simp [this]⟩
end Go.Proofs.Ytegcbdfilkecpaa
/- Lemmas on memory that the proofs of these statements use; no condition. -/
namespace Go.Proofs.Ytegcbdfilkecpaa
open Go.RowKit

/-- the address of cell k behind an address in a plain block -/
theorem add_mk (g o n : Nat) : (⟨g, o, none⟩ : Addr).add n = ⟨g, o + n, none⟩ := by
  unfold Addr.add; split <;> simp_all

section
variable {P : Program}

/-- an array value indexed, elements of one cell -/
theorem run_index_arr (w : World) (T e n : Nat) (d : TypeDesc) (i : TypeInfo) (hT : P.underlying T = some (.array n e)) (he : P.underlying e = some d) (hd : (match d with | .struct _ | .array _ _ => true | _ => false) = false)
   (hi : P.info? e = some i) (h1 : i.size = 1) (xs : List Value) (k : Nat) (hk : k < n) (v : Value) (hv : xs[k]? = some v) :
   (Instr.index T (.agg xs.toArray) (.int .i64 k)).run P w = .ok v w := by
  have hagg : (isAgg e).run P w = .ok false w := by
      unfold isAgg
      rw [Sem.run_bind, run_underlying he w]
      cases d <;> simp_all
  simp [Instr.index, asIntOf, run_underlying hT, hk, part, hagg, Sem.run_bind, sizeOf, typeInfo, hi, h1, hv]
end

/-- w' is w but for new blocks and the old blocks in S -/
structure Kp (S : Nat → Prop) (w w' : World) : Prop where
  os : w'.os = w.os
  tape : w'.tape = w.tape
  output : w'.output = w.output
  size : w.heap.size ≤ w'.heap.size
  block : ∀ k, k < w.heap.size → ¬ S k → w'.heap[k]? = w.heap[k]?

/-- no old block -/
def NoB : Nat → Prop := fun _ => False
/-- one old block -/
def OnB (b : Nat) : Nat → Prop := fun k => k = b

theorem Kp.refl (S : Nat → Prop) (w : World) : Kp S w w := ⟨rfl, rfl, rfl, Nat.le_refl _, fun _ _ _ => rfl⟩
theorem Kp.trans {S S' : Nat → Prop} {a b c : World} (h : Kp S a b) (k : Kp S' b c) (hS : ∀ i, i < a.heap.size → S' i → S i) : Kp S a c :=
  ⟨k.os.trans h.os, k.tape.trans h.tape, k.output.trans h.output, Nat.le_trans h.size k.size, fun i hi hn => (k.block i (Nat.lt_of_lt_of_le hi h.size) (fun q => hn (hS i hi q))).trans (h.block i hi hn)⟩
theorem Kp.mono {S S' : Nat → Prop} {a b : World} (h : Kp S a b) (hS : ∀ i, i < a.heap.size → S i → S' i) : Kp S' a b :=
  ⟨h.os, h.tape, h.output, h.size, fun i hi hn => h.block i hi (fun q => hn (hS i hi q))⟩
theorem Kp.drew {S : Nat → Prop} {a w : World} (h : Kp S a w) : Kp S a w.drew := ⟨h.os, h.tape, h.output, h.size, h.block⟩
theorem Kp.drewN {S : Nat → Prop} {a w : World} (h : Kp S a w) (n : Nat) : Kp S a (w.drewN n) := ⟨h.os, h.tape, h.output, h.size, h.block⟩
theorem Kp.alloc {S : Nat → Prop} {a w : World} (h : Kp S a w) (o : Obj) : Kp S a (w.alloc o) :=
  ⟨h.os, h.tape, h.output, by have := h.size; simp; omega, fun i hi hn => (Below.heap_alloc w o i (Nat.lt_of_lt_of_le hi h.size)).trans (h.block i hi hn)⟩
theorem Kp.setCell {S : Nat → Prop} {a w : World} (h : Kp S a w) {p : Addr} (hp : a.heap.size ≤ p.block ∨ S p.block) (u : Value) : Kp S a (w.setCell p u) :=
  ⟨h.os, h.tape, h.output, by have := h.size; simpa [World.setCell] using this, fun i hi hn =>
    (Below.heap_setCell w p u i (fun e => by subst e; rcases hp with hp | hp; · omega
                                             · exact hn hp)).trans (h.block i hi hn)⟩
theorem Kp.grown {S : Nat → Prop} {a w w' : World} {row : Option Nat} (h : Kp S a w) (hg : w.grownBy w' row) (hr : ∀ k, row = some k → a.heap.size ≤ k ∨ S k) : Kp S a w' :=
  h.trans (S' := fun k => row = some k) ⟨hg.os, hg.tape, hg.output, hg.size, fun i hi hn => hg.block i hi (fun e => hn e.symm)⟩ (fun i hi e => by
    rcases hr i e with q | q
    · omega
    · exact q)
theorem Kp.below {S : Nat → Prop} {w w' : World} (h : Kp S w w') {B : Nat} (hB : B ≤ w.heap.size) (hS : ∀ k, k < B → ¬ S k) : Below B w w' :=
  ⟨h.os, h.tape, h.output, h.size, fun k hk => h.block k (by omega) (hS k hk)⟩
theorem Kp.none_below {w w' : World} (h : Kp NoB w w') : Below w.heap.size w w' := h.below (Nat.le_refl _) (fun _ _ q => q)
theorem Kp.cell {S : Nat → Prop} {w w' : World} (h : Kp S w w') {g o : Nat} (hg : g < w.heap.size) (hn : ¬ S g) : w'.cell? ⟨g, o, none⟩ = w.cell? ⟨g, o, none⟩ :=
  World.cell?_of_block (w := w) (h.block g hg hn)
theorem Kp.lift {S : Nat → Prop} {w w' : World} (h : Kp S w w') {g : Nat} {o : Obj} (hg : w.heap[g]? = some o) (hn : ¬ S g) : w'.heap[g]? = some o :=
  (h.block g (by rcases Nat.lt_or_ge g w.heap.size with q | q
                 · exact q
                 · rw [Array.getElem?_eq_none q] at hg; cases hg) hn).trans hg
theorem lt_of_heap {w : World} {g : Nat} {o : Obj} (hg : w.heap[g]? = some o) : g < w.heap.size := by
  rcases Nat.lt_or_ge g w.heap.size with q | q
  · exact q
  · rw [Array.getElem?_eq_none q] at hg; cases hg
theorem own_ge {w : World} {base : Nat} {e : TypeId} {size n : Nat} {v : Value} {xs : List Value} (h : w.ownsRow base e size v n xs) : ∀ k, v.ownBlock = some k → base ≤ k := by
  intro k hk
  rcases h.2 with ⟨rfl, _⟩ | ⟨g, cap, cur, rfl, hb, _⟩
  · simp [Value.ownBlock] at hk
  · simp [Value.ownBlock] at hk
    omega
theorem Kp.own {S : Nat → Prop} {a w w' : World} {row : Option Nat} {v : Value} {e : TypeId} {size n : Nat} {xs : List Value} {w0 : World} (h : Kp S a w) (hg : w.grownBy w' row) (hv : row = v.ownBlock) (ho : w0.ownsRow a.heap.size e size v n xs) : Kp S a w' :=
  h.grown hg (fun k hk => .inl (own_ge ho k (hv ▸ hk)))

/-- block g is just the cells cs, of element type t, none of them frozen -/
def Blk (w : World) (g : Nat) (t : TypeId) (cs : Array Value) : Prop := w.heap[g]? = some (.cells cs t (0, 0))
section
variable {w w' : World} {g : Nat} {t : TypeId} {cs : Array Value}
theorem Blk.lt (h : Blk w g t cs) : g < w.heap.size := lt_of_heap h
theorem Blk.cell (h : Blk w g t cs) (i : Nat) : w.cell? ⟨g, i, none⟩ = cs[i]? := cell_of_row w g i cs t (0, 0) h
theorem Blk.frozen (h : Blk w g t cs) (i : Nat) : w.frozen? ⟨g, i, none⟩ = false := frozen_of_row w g i cs t h
theorem Blk.new (w : World) (t : TypeId) (cs : Array Value) : Blk (w.alloc (.cells cs t)) w.heap.size t cs := heap_alloc_new w _
theorem Blk.drew (h : Blk w g t cs) : Blk w.drew g t cs := h
theorem Blk.drewN (h : Blk w g t cs) (n : Nat) : Blk (w.drewN n) g t cs := h
theorem Blk.alloc (h : Blk w g t cs) (o : Obj) : Blk (w.alloc o) g t cs := (Below.heap_alloc w o g h.lt).trans h
theorem Blk.set_ (h : Blk w g t cs) (i : Nat) (u : Value) : Blk (w.setCell ⟨g, i, none⟩ u) g t (cs.setIfInBounds i u) := by
  unfold Blk at h ⊢
  simp [World.setCell, Array.getElem?_modify, h]
theorem Blk.far (h : Blk w g t cs) {p : Addr} (hp : g ≠ p.block) (u : Value) : Blk (w.setCell p u) g t cs := (Below.heap_setCell w p u g hp).trans h
theorem Blk.keep {S : Nat → Prop} (h : Blk w g t cs) (k : Kp S w w') (hn : ¬ S g) : Blk w' g t cs := k.lift h hn
theorem Blk.row (h : Blk w g t cs) (cs' : Array Value) : Blk (w.setRow g cs') g t cs' := by
  unfold Blk at h ⊢
  simp [World.setRow, Array.getElem?_modify, h]
end
theorem Kp.setRow {S : Nat → Prop} {a w : World} (h : Kp S a w) {g : Nat} (hp : a.heap.size ≤ g ∨ S g) (cs : Array Value) : Kp S a (w.setRow g cs) :=
  ⟨h.os, h.tape, h.output, by have := h.size; simpa [World.setRow] using this, fun i hi hn => by
    have hne : i ≠ g := fun e => by
      subst e
      rcases hp with hp | hp
      · omega
      · exact hn hp
    simp only [World.setRow, Array.getElem?_modify]
    rw [if_neg (by omega)]
    exact h.block i hi hn⟩
theorem ret_cell_tmp {P : Program} {fn : Func} {p u : Tmp} {ty : TypeId} (h : fn.results = #[.cell p ty, .tmp u]) (tmps : Array Value) (w : World) (g : Nat) (t : TypeId) (cs : Array Value) (d : TypeDesc)
    (hp : tmps.getD p undef = .pointer (some ⟨g, 0, none⟩)) (hg : Blk w g t cs)
    (hu : P.underlying ty = some d) (hd : (match d with | .struct _ | .array _ _ => true | _ => false) = true) (hi : (P.info? ty).map (·.size) = some cs.size) (x : Value) (hx : tmps.getD u undef = x) :
    (results fn tmps).run P w = .ok (.tuple #[.agg cs, x]) w := by
  rw [results_cell_tmp h, hp]
  simp only [asAddr, Sem.run_pure, Result.andThen_ok, run_loadVar_row w g t ty cs (0, 0) d hg hu hd hi, hx]

section
variable {w w' : World} {base : Nat} {e : TypeId} {size n : Nat} {v : Value} {xs : List Value}
theorem own_slice (h : w.ownsRow base e size v n xs) : ∃ A cap, v = .slice A n cap := by
  rcases h.2 with ⟨rfl, rfl⟩ | ⟨g, cap, cur, rfl, _⟩
  · exact ⟨_, _, rfl⟩
  · exact ⟨_, _, rfl⟩
theorem own_at {A : Option Addr} {cap : Nat} (h : w.ownsRow base e size (.slice A n cap) n xs) (hn : 0 < n) : ∃ g, A = some ⟨g, 0, none⟩ ∧ base ≤ g ∧ g < w.heap.size := by
  obtain ⟨g, c, hv, hb, hl⟩ := h.form hn
  injection hv with h1
  exact ⟨g, h1, hb, hl⟩
end
theorem _root_.Go.World.ownsRow.mono {w : World} {base base' : Nat} {e : TypeId} {size n : Nat} {v : Value} {xs : List Value} (h : w.ownsRow base e size v n xs) (hb : base' ≤ base) : w.ownsRow base' e size v n xs := by
  refine ⟨h.1, ?_⟩
  rcases h.2 with hn | ⟨g, cap, cur, rfl, hg, rest⟩
  · exact .inl hn
  · exact .inr ⟨g, cap, cur, rfl, by omega, rest⟩

/-- a row with the values xs written from place o on -/
def spl : Array Value → Nat → List Value → Array Value
  | cs, _, [] => cs
  | cs, o, v :: r => spl (cs.setIfInBounds o v) (o + 1) r
theorem spl_eq : ∀ (xs xa xb xd : List Value), xb.length = xs.length → spl (xa ++ xb ++ xd).toArray xa.length xs = (xa ++ xs ++ xd).toArray
  | [], xa, xb, xd, h => by
    have : xb = [] := List.eq_nil_of_length_eq_zero (by simpa using h)
    subst this; rfl
  | v :: r, xa, [], xd, h => by simp at h
  | v :: r, xa, b :: xb, xd, h => by
    have h' : xb.length = r.length := by simpa using h
    have e := spl_eq r (xa ++ [v]) xb xd h'
    simp only [List.length_append, List.length_cons, List.length_nil, Nat.zero_add] at e
    have e2 : (xa ++ b :: xb ++ xd).toArray.setIfInBounds xa.length v = (xa ++ [v] ++ xb ++ xd).toArray := by
      rw [List.setIfInBounds_toArray]
      congr 1
      rw [List.append_assoc, List.set_append_right _ _ (Nat.le_refl _), Nat.sub_self]
      simp
    show spl ((xa ++ b :: xb ++ xd).toArray.setIfInBounds xa.length v) (xa.length + 1) r = _
    rw [e2, e]
    simp
section
variable {w w' : World} {g : Nat} {t : TypeId} {cs : Array Value}
theorem Blk.cells {g : Nat} : ∀ (xs : List Value) (o : Nat) (w : World) (cs : Array Value), Blk w g t cs → Blk (w.setCells g o xs) g t (spl cs o xs)
  | [], _, _, _, h => h
  | v :: r, o, w, cs, h => Blk.cells r (o + 1) _ _ (h.set_ o v)
theorem Blk.cellsL {xa xb xd xs : List Value} (h : Blk w g t (xa ++ xb ++ xd).toArray) (o : Nat) (ho : xa.length = o) (hl : xb.length = xs.length) : Blk (w.setCells g o xs) g t (xa ++ xs ++ xd).toArray := by
  subst ho
  have := Blk.cells xs xa.length w _ h
  rw [spl_eq xs xa xb xd hl] at this
  exact this
theorem Blk.farCells {g' : Nat} (hne : g ≠ g') : ∀ (xs : List Value) (o : Nat) (w : World), Blk w g t cs → Blk (w.setCells g' o xs) g t cs
  | [], _, _, h => h
  | v :: r, o, w, h => Blk.farCells hne r (o + 1) _ (h.far (p := ⟨g', o, none⟩) hne v)
theorem Blk.there (h : Blk w g t cs) {o n : Nat} (hn : o + n ≤ cs.size) : w.there g o n := fun j hj => by
  refine ⟨?_, h.frozen _⟩
  rw [h.cell, Array.getElem?_eq_getElem (by omega)]; rfl
theorem Blk.range {xa xb xd : List Value} (h : Blk w g t (xa ++ xb ++ xd).toArray) (o : Nat) (ho : xa.length = o) : w.rangeAt g o xb := fun j v hv => by
  subst ho
  rw [h.cell]
  have hj : j < xb.length := (List.getElem?_eq_some_iff.1 hv).1
  simp only [List.getElem?_toArray]
  rw [List.append_assoc, List.getElem?_append_right (by omega), Nat.add_sub_cancel_left, List.getElem?_append_left hj]
  exact hv
end
theorem Kp.setCells {S : Nat → Prop} {a : World} {g : Nat} (hp : a.heap.size ≤ g ∨ S g) : ∀ (xs : List Value) (o : Nat) (w : World), Kp S a w → Kp S a (w.setCells g o xs)
  | [], _, _, h => h
  | v :: r, o, _, h => Kp.setCells hp r (o + 1) _ (h.setCell (p := ⟨g, o, none⟩) hp v)
theorem size_setCells (g : Nat) : ∀ (xs : List Value) (o : Nat) (w : World), (w.setCells g o xs).heap.size = w.heap.size
  | [], _, _ => rfl
  | v :: r, o, w => (size_setCells g r (o + 1) _).trans (by simp [World.setCell])
/-- of a world only what is named is kept -/
theorem forget {p : World → Prop} {w : World} (inv : World → Prop) (h : inv w) (k : ∀ w', inv w' → p w') : p w := k w h

/-- the n cells of block g from place o on, as they stand -/
def readRow (w : World) (g o n : Nat) : Array Value := ((List.range n).map fun j => (w.cell? ⟨g, o + j, none⟩).getD undef).toArray
section
variable {P : Program}
theorem loadAt_row {T n : Nat} {d : TypeDesc} (hu : P.underlying T = some d) (hd : d.isRow = true) (hi : (P.info? T).map (·.size) = some n) (w : World) (g o : Nat) (h : w.there g o n) :
    (Instr.loadAt T (.pointer (some ⟨g, o, none⟩))).run P w = .ok (.agg (readRow w g o n)) w := by
  refine run_loadAt_mid w g o T ((List.range n).map fun j => (w.cell? ⟨g, o + j, none⟩).getD undef) d (fun j v hv => ?_) hu hd (by simpa using hi)
  rw [List.getElem?_map] at hv
  rcases Nat.lt_or_ge j n with hj | hj
  · rw [List.getElem?_range hj] at hv
    simp only [Option.map_some, Option.some.injEq] at hv
    have := (h j hj).1
    obtain ⟨u, hu⟩ := Option.isSome_iff_exists.1 this
    rw [hu] at hv ⊢
    simpa using hv
  · rw [List.getElem?_eq_none (by simpa using hj)] at hv
    cases hv
theorem storeAt_row {T n : Nat} (hi : (P.info? T).map (·.size) = some n) (w : World) (g o : Nat) (cs : Array Value) (hc : cs.size = n) (h1 : cs.all (·.oneCell') = true) (h : w.there g o n) :
    (Instr.storeAt T (.pointer (some ⟨g, o, none⟩)) (.agg cs)).run P w = .ok () (w.setCells g o cs.toList) := by
  simp only [Instr.storeAt, Instr.sureAddr, Sem.run_bind, Sem.run_pure, Result.andThen_ok]
  exact run_storeVar_mid w g o T cs (by rw [hc]; exact h) (by rw [hc]; exact hi) h1
end
theorem Blk.read {w : World} {g : Nat} {t : TypeId} {xa xb xd : List Value} (h : Blk w g t (xa ++ xb ++ xd).toArray) (o n : Nat) (ho : xa.length = o) (hn : xb.length = n) : readRow w g o n = xb.toArray := by
  subst ho; subst hn
  unfold readRow
  congr 1
  apply List.ext_getElem
  · simp
  · intro j h1 h2
    simp only [List.getElem_map, List.getElem_range]
    rw [h.cell]
    simp only [List.getElem?_toArray]
    rw [List.append_assoc, List.getElem?_append_right (by omega), Nat.add_sub_cancel_left, List.getElem?_append_left (by simpa using h1), List.getElem?_eq_getElem (by simpa using h1)]
    rfl
theorem Blk.readAll {w : World} {g : Nat} {t : TypeId} {cs : Array Value} (h : Blk w g t cs) (n : Nat) (hn : cs.size = n) : readRow w g 0 n = cs := by
  have := Blk.read (xa := []) (xb := cs.toList) (xd := []) (by simpa using h) 0 n rfl (by simpa using hn)
  simpa using this
theorem heap_setCells_far (g : Nat) {k : Nat} (hne : k ≠ g) : ∀ (xs : List Value) (o : Nat) (w : World), (w.setCells g o xs).heap[k]? = w.heap[k]?
  | [], _, _ => rfl
  | v :: r, o, w => (heap_setCells_far g hne r (o + 1) _).trans (Below.heap_setCell w ⟨g, o, none⟩ v k hne)
theorem cell_setCells_far (g : Nat) {k j : Nat} (hne : k ≠ g) (xs : List Value) (o : Nat) (w : World) : (w.setCells g o xs).cell? ⟨k, j, none⟩ = w.cell? ⟨k, j, none⟩ :=
  World.cell?_of_block (w := w) (heap_setCells_far g hne xs o w)
@[simp, go_sem] theorem readRow_drew (w : World) (g o n : Nat) : readRow w.drew g o n = readRow w g o n := rfl

/-- the same behind a pointer's value -/
def thereP (w : World) : Value → Nat → Prop
  | .pointer (some ⟨g, o, none⟩), n => w.there g o n
  | _, _ => False
def readP (w : World) : Value → Nat → Array Value
  | .pointer (some ⟨g, o, none⟩), n => readRow w g o n
  | _, _ => #[]
def setP (w : World) : Value → Value → World
  | .pointer (some ⟨g, o, none⟩), .agg cs => w.setCells g o cs.toList
  | _, _ => w
def ones (cs : Array Value) : Prop := cs.all (·.oneCell') = true
def aggOK : Value → Nat → Prop
  | .agg cs, n => cs.size = n ∧ ones cs
  | _, _ => False
@[go_sem] theorem thereP_mk (w : World) (g o n : Nat) : thereP w (.pointer (some ⟨g, o, none⟩)) n = w.there g o n := rfl
@[go_sem] theorem readP_mk (w : World) (g o n : Nat) : readP w (.pointer (some ⟨g, o, none⟩)) n = readRow w g o n := rfl
@[go_sem] theorem setP_mk (w : World) (g o : Nat) (cs : Array Value) : setP w (.pointer (some ⟨g, o, none⟩)) (.agg cs) = w.setCells g o cs.toList := rfl
@[go_sem] theorem aggOK_mk (cs : Array Value) (n : Nat) : aggOK (.agg cs) n = (cs.size = n ∧ ones cs) := rfl
section
variable {P : Program}
theorem loadAt_P {T n : Nat} {d : TypeDesc} (hu : P.underlying T = some d) (hd : d.isRow = true) (hi : (P.info? T).map (·.size) = some n) (w : World) (p : Value) (h : thereP w p n) :
    (Instr.loadAt T p).run P w = .ok (.agg (readP w p n)) w := by
  unfold thereP at h
  split at h
  · exact loadAt_row hu hd hi w _ _ h
  · exact h.elim
theorem storeAt_P {T n : Nat} (hi : (P.info? T).map (·.size) = some n) (w : World) (p v : Value) (hv : aggOK v n) (h : thereP w p n) :
    (Instr.storeAt T p v).run P w = .ok () (setP w p v) := by
  unfold thereP at h
  split at h
  · unfold aggOK at hv
    split at hv
    · exact storeAt_row hi w _ _ _ hv.1 hv.2 h
    · exact hv.elim
  · exact h.elim
theorem execLoad_P {T n : Nat} {d : TypeDesc} (hu : P.underlying T = some d) (hd : d.isRow = true) (hi : (P.info? T).map (·.size) = some n) (w : World) (ev : Operand → Value) (ds : Option Tmp) (x : Operand) (ty : TypeId) (ps : String) (af : Array Edge) (g : Option (Nat × Bool)) (h : thereP w (ev x) n) :
    (execOp ev ⟨ds, .load T x, ty, ps, af, g⟩).run P w = .ok (.value (.agg (readP w (ev x) n))) w := by
  simp only [execOp, Sem.run_bind, Sem.run_pure, Result.andThen_ok, loadAt_P hu hd hi w (ev x) h]
theorem execStore_P {T n : Nat} (hi : (P.info? T).map (·.size) = some n) (w : World) (ev : Operand → Value) (ds : Option Tmp) (x y : Operand) (ty : TypeId) (ps : String) (af : Array Edge) (g : Option (Nat × Bool)) (hv : aggOK (ev y) n) (h : thereP w (ev x) n) :
    (execOp ev ⟨ds, .store T x y, ty, ps, af, g⟩).run P w = .ok .skip (setP w (ev x) (ev y)) := by
  simp only [execOp, Sem.run_bind, Sem.run_pure, Result.andThen_ok, storeAt_P hi w (ev x) (ev y) hv h]
end
theorem Blk.newAt (w : World) (t : TypeId) (cs : Array Value) (g : Nat) (h : w.heap.size = g) : Blk (w.alloc (.cells cs t)) g t cs := by
  subst h; exact Blk.new w t cs
theorem Blk.whole {w : World} {g : Nat} {t : TypeId} {cs : Array Value} (h : Blk w g t cs) (ds : Array Value) (hl : cs.size = ds.size) : Blk (w.setCells g 0 ds.toList) g t ds := by
  have := Blk.cellsL (xa := []) (xb := cs.toList) (xd := []) (xs := ds.toList) (by simpa using h) 0 rfl (by simpa using hl)
  simpa using this
theorem Blk.thereAll {w : World} {g : Nat} {t : TypeId} {cs : Array Value} (h : Blk w g t cs) (n : Nat) (hn : cs.size = n) : w.there g 0 n := Blk.there h (by omega)

/-- a part of an array behind a pointer -/
def sliceV : Value → Value → Value → Nat → Value
  | .pointer (some ⟨g, o, none⟩), .int _ lo, .int _ hi, n => .slice (some (if n = lo.toNat then ⟨g, o, none⟩ else ⟨g, o + lo.toNat, none⟩)) (hi.toNat - lo.toNat) (n - lo.toNat)
  | _, _, _, _ => undef
def sliceOK : Value → Value → Value → Nat → Prop
  | .pointer (some ⟨_, _, none⟩), .int .i64 lo, .int .i64 hi, n => 0 ≤ lo ∧ lo ≤ hi ∧ hi ≤ n
  | _, _, _, _ => False
@[go_sem] theorem sliceV_mk (g o n : Nat) (k k' : IntKind) (lo hi : Int) : sliceV (.pointer (some ⟨g, o, none⟩)) (.int k lo) (.int k' hi) n = .slice (some (if n = lo.toNat then ⟨g, o, none⟩ else ⟨g, o + lo.toNat, none⟩)) (hi.toNat - lo.toNat) (n - lo.toNat) := rfl
@[go_sem] theorem sliceOK_mk (g o n : Nat) (lo hi : Int) : sliceOK (.pointer (some ⟨g, o, none⟩)) (.int .i64 lo) (.int .i64 hi) n = (0 ≤ lo ∧ lo ≤ hi ∧ hi ≤ n) := rfl
section
variable {P : Program}
theorem sliceAt_V {T n : Nat} {e : TypeId} (hu : P.underlying T = some (.array n e)) (he : (P.info? e).map (·.size) = some 1) (w : World) (g o : Nat) (l h : Option Value) (lo hi : Nat)
    (hb : (Instr.sliceBounds false n n l h none).run P w = .ok (lo, hi, n) w) :
    (Instr.sliceAt T (.pointer (some ⟨g, o, none⟩)) l h none).run P w = .ok (.slice (some (if n = lo then ⟨g, o, none⟩ else ⟨g, o + lo, none⟩)) (hi - lo) (n - lo)) w := by
  cases hq : P.info? e with
  | none => simp [hq] at he
  | some i =>
    have hs : i.size = 1 := by simpa [hq] using he
    simp only [Instr.sliceAt, Sem.run_bind, run_underlying hu, Result.andThen_ok, Instr.sureAddr, Sem.run_pure, hb, sizeOf, typeInfo]
    simp [hq, hs, add_mk]
theorem bound_ok (w : World) (k : IntKind) (v : Int) (n : Nat) (kind : BoundsCode) (h0 : 0 ≤ v) (h1 : v ≤ n) : (Instr.sliceBound (.int k v) n kind).run P w = .ok v.toNat w := by
  simp [Instr.sliceBound, asIntOf, h0, h1]
theorem sliceOK_inv {x l h : Value} {n : Nat} (hk : sliceOK x l h n) : ∃ g o lo hi, x = .pointer (some ⟨g, o, none⟩) ∧ l = .int .i64 lo ∧ h = .int .i64 hi ∧ 0 ≤ lo ∧ lo ≤ hi ∧ hi ≤ n := by
  unfold sliceOK at hk
  split at hk
  · exact ⟨_, _, _, _, rfl, rfl, rfl, hk⟩
  · exact hk.elim
theorem execSlice_lo {T n : Nat} {e : TypeId} (hu : P.underlying T = some (.array n e)) (he : (P.info? e).map (·.size) = some 1) (w : World) (ev : Operand → Value) (ds : Option Tmp) (x lo : Operand) (ty : TypeId) (ps : String) (af : Array Edge) (g : Option (Nat × Bool))
    (h : sliceOK (ev x) (ev lo) (.int .i64 n) n) : (execOp ev ⟨ds, .slice T x (some lo) none none, ty, ps, af, g⟩).run P w = .ok (.value (sliceV (ev x) (ev lo) (.int .i64 n) n)) w := by
  obtain ⟨g', o', v1, v2, hx, hl, e1, h0, h1, h2⟩ := sliceOK_inv h
  injection e1 with _ e1
  subst e1
  have hb : (Instr.sliceBounds false n n (some (.int .i64 v1)) none none).run P w = .ok (v1.toNat, n, n) w := by
    simp [Instr.sliceBounds, bound_ok w .i64 v1 n _ h0 h1]
  simp only [execOp, hx, hl, Option.map_some, Option.map_none, Sem.run_bind, sliceAt_V hu he w _ _ _ _ _ _ hb, Result.andThen_ok, Sem.run_pure, sliceV_mk, Int.toNat_natCast]
theorem execSlice_lohi {T n : Nat} {e : TypeId} (hu : P.underlying T = some (.array n e)) (he : (P.info? e).map (·.size) = some 1) (w : World) (ev : Operand → Value) (ds : Option Tmp) (x lo hi : Operand) (ty : TypeId) (ps : String) (af : Array Edge) (g : Option (Nat × Bool))
    (h : sliceOK (ev x) (ev lo) (ev hi) n) : (execOp ev ⟨ds, .slice T x (some lo) (some hi) none, ty, ps, af, g⟩).run P w = .ok (.value (sliceV (ev x) (ev lo) (ev hi) n)) w := by
  obtain ⟨g', o', v1, v2, hx, hl, hh, h0, h1, h2⟩ := sliceOK_inv h
  have hb : (Instr.sliceBounds false n n (some (.int .i64 v1)) (some (.int .i64 v2)) none).run P w = .ok (v1.toNat, v2.toNat, n) w := by
    simp [Instr.sliceBounds, bound_ok w .i64 v2 n _ (by omega) h2, bound_ok w .i64 v1 v2.toNat _ h0 (by omega)]
  simp only [execOp, hx, hl, hh, Option.map_some, Option.map_none, Sem.run_bind, sliceAt_V hu he w _ _ _ _ _ _ hb, Result.andThen_ok, Sem.run_pure, sliceV_mk]
end
end Go.Proofs.Ytegcbdfilkecpaa
/- Bytes in memory, as texts and as cells; no condition. -/
namespace Go.Proofs.Ytegcbdfilkecpaa
open Go.RowKit

/-- bytes as the cells of an array -/
def bytesV (l : List Int) : Array Value := (l.map (Value.int .u8)).toArray
theorem bytesV_size (l : List Int) : (bytesV l).size = l.length := by simp [bytesV]
theorem bytesV_one (l : List Int) : ones (bytesV l) := by
  unfold ones bytesV
  simp only [List.all_toArray', List.all_map]
  simp [Value.oneCell']
theorem map_int_inj {k : IntKind} : ∀ {l m : List Int}, l.map (Value.int k) = m.map (Value.int k) → l = m
  | [], [], _ => rfl
  | [], _ :: _, h => by simp at h
  | _ :: _, [], h => by simp at h
  | a :: l, b :: m, h => by
    simp only [List.map_cons, List.cons.injEq, Value.int.injEq, true_and] at h
    rw [h.1, map_int_inj h.2]
theorem bytesV_inj {l m : List Int} (h : bytesV l = bytesV m) : l = m := by
  have h1 : l.map (Value.int .u8) = m.map (Value.int .u8) := by
    have := congrArg Array.toList h
    simpa [bytesV] using this
  exact map_int_inj h1
def zeros (n : Nat) : List Int := List.replicate n 0
def strI (s : ByteArray) : List Int := s.data.toList.map fun b => (b.toNat : Int)
theorem strI_len (s : ByteArray) : (strI s).length = s.size := by simp [strI]
/-- copy of a string into cells that lie there -/
theorem wpList_copyS {P : Program} {w : World} {ops : Array Oper} {rest : List Oper} {o : Oper} {a : Act} {Q : Exit → Act → World → Prop} (hgd : o.guard = none) (x y : Operand) (dT sT elem : TypeId)
    (ho : o.op = .call { callee := .builtin .copy, args := #[x, y], argTypes := #[dT, sT] }) (hu : P.underlying dT = some (.slice elem)) (hz : ∀ w, (Go.sizeOf elem).run P w = .ok 1 w)
    (g0 o0 dLen dCap : Nat) (s : ByteArray) (hx : a.eval x = .slice (some ⟨g0, o0, none⟩) dLen dCap) (hy : a.eval y = .string s) (hle : s.size ≤ dLen) (ht : w.there g0 o0 s.size)
    (h : wpList P ops Q rest (a.put o.dst (.int .i64 s.size)) (w.setCells g0 o0 ((strI s).map (Value.int .u8)))) : wpList P ops Q (o :: rest) a w := by
  have hrun := Go.run_copy_string (P := P) w dT sT o.type elem g0 o0 dLen dCap s hu hz hle (fun j hj => (ht j hj).1) (fun j hj => (ht j hj).2)
  refine wpList_plain hgd fun K hK => ?_
  have e : (strI s).map (Value.int .u8) = s.data.toList.map fun x => Value.int .u8 (x.toNat : Int) := by
    unfold strI
    rw [List.map_map]
    rfl
  rw [e] at h
  unfold Oper.wp
  simp only [execOp, ho, resolve, invoke, builtin, Sem.run_bind, Sem.run_pure, Result.andThen_ok, List.map_toArray, List.map_cons, List.map_nil, hx, hy, hrun]
  exact hK _ _ h
theorem Blk.bytes {w : World} {g : Nat} {t : TypeId} {la lb ld lx : List Int} (h : Blk w g t (bytesV (la ++ lb ++ ld))) (o : Nat) (ho : la.length = o) (hl : lb.length = lx.length) : Blk (w.setCells g o (lx.map (Value.int .u8))) g t (bytesV (la ++ lx ++ ld)) := by
  have := Blk.cellsL (xa := la.map (Value.int .u8)) (xb := lb.map (Value.int .u8)) (xd := ld.map (Value.int .u8)) (xs := lx.map (Value.int .u8)) (by simpa [bytesV] using h) o (by simpa using ho) (by simpa using hl)
  simpa [bytesV] using this
theorem infoU8 : (Try.prog.info? 5).map (·.size) = some 1 := by kernel_rfl
theorem sizeU8 (w : World) : (Go.sizeOf 5).run Try.prog w = .ok 1 w := by kernel_rfl

/-- bytes as a string -/
def strOf (ns : List Int) : ByteArray := ⟨(ns.map fun n => UInt8.ofNat n.toNat).toArray⟩
theorem foldl_push (ns : List Int) : ∀ (s : ByteArray), ns.foldl (fun r n => r.push (UInt8.ofNat n.toNat)) s = ⟨s.data ++ (ns.map fun n => UInt8.ofNat n.toNat).toArray⟩ := by
  induction ns with
  | nil => intro s; simp
  | cons n ns ih =>
    intro s
    rw [List.foldl_cons, ih]
    simp [ByteArray.push]
theorem strOf_size (ns : List Int) : (strOf ns).size = ns.length := by simp [strOf, ByteArray.size]
theorem strI_strOf (ns : List Int) (h : ∀ n ∈ ns, 0 ≤ n ∧ n < 256) : strI (strOf ns) = ns := by
  unfold strI strOf
  simp only [List.map_map]
  conv => rhs; rw [← List.map_id ns]
  apply List.map_congr_left
  intro n hn
  obtain ⟨a, b⟩ := h n hn
  simp only [Function.comp, id]
  obtain ⟨k, rfl⟩ := Int.eq_ofNat_of_zero_le a
  have : k < 256 := by omega
  simp [UInt8.toNat_ofNat, Nat.mod_eq_of_lt this]
/-- n bytes lie in block g from place o on -/
def byAt (w : World) (g o n : Nat) : Prop := ∀ j, j < n → ∃ v, w.cell? ⟨g, o + j, none⟩ = some (.int .u8 v)
def numOf : Option Value → Int
  | some (.int _ n) => n
  | _ => 0
def byRd (w : World) (g o n : Nat) : List Int := (List.range n).map fun j => numOf (w.cell? ⟨g, o + j, none⟩)
def bytesAt (w : World) : Value → Prop
  | .slice (some ⟨g, o, none⟩) n _ => byAt w g o n
  | _ => False
def strAt (w : World) : Value → Value
  | .slice (some ⟨g, o, none⟩) n _ => .string (strOf (byRd w g o n))
  | _ => undef
@[go_sem] theorem bytesAt_mk (w : World) (g o n c : Nat) : bytesAt w (.slice (some ⟨g, o, none⟩) n c) = byAt w g o n := rfl
@[go_sem] theorem strAt_mk (w : World) (g o n c : Nat) : strAt w (.slice (some ⟨g, o, none⟩) n c) = .string (strOf (byRd w g o n)) := rfl
@[simp, go_sem] theorem byAt_drew (w : World) (g o n : Nat) : byAt w.drew g o n = byAt w g o n := rfl
@[simp, go_sem] theorem byRd_drew (w : World) (g o n : Nat) : byRd w.drew g o n = byRd w g o n := rfl
theorem execConv_S {P : Program} {S D e : TypeId} (hs : P.underlying S = some (.slice e)) (he : P.underlying e = some (.int .u8)) (hd : P.underlying D = some .string) (w : World) (ev : Operand → Value) (ds : Option Tmp) (x : Operand) (ty : TypeId) (ps : String) (af : Array Edge) (g : Option (Nat × Bool)) (h : bytesAt w (ev x)) :
    (execOp ev ⟨ds, .convert S D x, ty, ps, af, g⟩).run P w = .ok (.value (strAt w (ev x))) w := by
  generalize hx : ev x = v at h
  unfold bytesAt at h
  split at h
  · rename_i g' o' n' c'
    have hl : (loadCells ⟨g', o', none⟩ n').run P w = .ok ((byRd w g' o' n').map (Value.int .u8)).toArray w := by
      have := run_loadCells_list (P := P) w ⟨g', o', none⟩ ((byRd w g' o' n').map (Value.int .u8)) (fun j v hv => by
        rw [add_mk]
        unfold byRd at hv
        rw [List.map_map, List.getElem?_map] at hv
        rcases Nat.lt_or_ge j n' with hj | hj
        · rw [List.getElem?_range hj] at hv
          simp only [Option.map_some, Option.some.injEq, Function.comp] at hv
          obtain ⟨u, hu⟩ := h j hj
          rw [hu] at hv ⊢
          rw [← hv]
          rfl
        · rw [List.getElem?_eq_none (by simpa using hj)] at hv
          cases hv)
      simpa [byRd] using this
    simp only [execOp, hx, Sem.run_bind, run_convert_bytes_string w S D e _ _ _ hs he hd, run_bytesToString w _ _ _ _ hl, Result.andThen_ok, Sem.run_pure, foldl_push]
    simp [strAt, strOf]
  · exact h.elim
theorem conv64 (w : World) (ev : Operand → Value) (ds : Option Tmp) (x : Operand) (ty : TypeId) (ps : String) (af : Array Edge) (g : Option (Nat × Bool)) (h : bytesAt w (ev x)) :
    (execOp ev ⟨ds, .convert 42 9 x, ty, ps, af, g⟩).run Try.prog w = .ok (.value (strAt w (ev x))) w := execConv_S Try.underlying42 Try.underlying5 Try.underlying9 w ev ds x ty ps af g h
theorem Blk.byAt {w : World} {g : Nat} {t : TypeId} {l : List Int} (h : Blk w g t (bytesV l)) (o n : Nat) (hn : o + n ≤ l.length) : byAt w g o n := fun j hj => by
  refine ⟨l[o + j]?.getD 0, ?_⟩
  rw [h.cell]
  unfold bytesV
  simp [show o + j < l.length by omega]
theorem Blk.byRd {w : World} {g : Nat} {t : TypeId} {l : List Int} (h : Blk w g t (bytesV l)) (o n : Nat) (hn : o + n ≤ l.length) : byRd w g o n = (l.drop o).take n := by
  unfold Go.Proofs.Ytegcbdfilkecpaa.byRd
  apply List.ext_getElem
  · simp; omega
  · intro j h1 h2
    have hj : j < n := by simpa using h1
    simp only [List.getElem_map, List.getElem_range, List.getElem_take, List.getElem_drop]
    rw [h.cell]
    unfold bytesV
    simp [show o + j < l.length by omega, numOf]
theorem ret_cell1 {P : Program} {fn : Func} {p : Tmp} {ty : TypeId} (h : fn.results = #[.cell p ty]) (tmps : Array Value) (w : World) (g : Nat) (t : TypeId) (cs : Array Value) (d : TypeDesc)
    (hp : tmps.getD p undef = .pointer (some ⟨g, 0, none⟩)) (hg : Blk w g t cs)
    (hu : P.underlying ty = some d) (hd : (match d with | .struct _ | .array _ _ => true | _ => false) = true) (hi : (P.info? ty).map (·.size) = some cs.size) :
    (results fn tmps).run P w = .ok (.agg cs) w := by
  have hp' : tmps[p]?.getD undef = .pointer (some ⟨g, 0, none⟩) := by simpa using hp
  simp [results, h, hp', asAddr, run_loadVar_row w g t ty cs (0, 0) d hg hu hd hi]
end Go.Proofs.Ytegcbdfilkecpaa
/- The stand-in disk as a plain state, and what each call makes of it; no condition. -/
namespace Go.Proofs.Ytegcbdfilkecpaa
open Go

/-- a change that is not kept: of a number of bytes (s is empty then), or of a sector -/
structure Cg where
  nm : ByteArray
  sec : Int
  n : Int
  s : List Int
def pad64 (l : List Int) : List Int := l ++ zeros (64 - l.length)
theorem pad64_full {l : List Int} (h : l.length = 64) : pad64 l = l := by unfold pad64; rw [h]; simp [zeros]
theorem pad64_len {l : List Int} (h : l.length ≤ 64) : (pad64 l).length = 64 := by unfold pad64; simp [zeros]; omega
theorem zeros_rng (n : Nat) : ∀ y ∈ zeros n, 0 ≤ y ∧ y < 256 := by
  intro y h
  have := List.eq_of_mem_replicate h
  omega
structure CgOk (c : Cg) : Prop where
  kind : (c.s = [] ∧ c.sec = -1 ∧ 0 ≤ c.n ∧ c.n ≤ 1048576) ∨ (c.s.length = 64 ∧ 0 ≤ c.sec ∧ c.sec ≤ 16384 ∧ c.n = 0)
  rng : ∀ y ∈ c.s, 0 ≤ y ∧ y < 256
  nl : c.nm.size ≤ maxLen
theorem CgOk.le {c : Cg} (h : CgOk c) : c.s.length ≤ 64 := by
  rcases h.kind with ⟨e, _⟩ | ⟨e, _⟩
  · rw [e]; simp
  · omega
theorem CgOk.pad {c : Cg} (h : CgOk c) : (pad64 c.s).length = 64 := pad64_len h.le
def wrp (n : Int) : Int := IntKind.i64.wrap n
theorem wrp_add (a b : Int) : wrp (wrp a + b) = wrp (a + b) := by unfold wrp; simp only [IntKind.wrap_i64]; omega
theorem wrp_id {a : Int} (h : -9223372036854775808 ≤ a ∧ a ≤ 9223372036854775807) : wrp a = a := by unfold wrp; rw [IntKind.wrap_i64]; omega
/-- a disk: what is seen and what is kept of each file, their sums, how many files there may be, the changes, the numbers -/
structure Pl where
  seen : ByteArray → List Int
  kept : ByteArray → List Int
  sum : Int
  ksum : Int
  nf : Nat
  pd : List Cg
  room : Int
  steps : Int
  crash : Int
  down : Bool
  starts : Int
def sizedF (l : List Int) (n : Nat) : List Int := if n ≤ l.length then l.take n else l ++ List.replicate (n - l.length) 0
theorem sizedF_len (l : List Int) (n : Nat) : (sizedF l n).length = n := by
  unfold sizedF
  split <;> simp <;> omega
theorem sizedF_rng {l : List Int} (h : ∀ x ∈ l, 0 ≤ x ∧ x < 256) (n : Nat) : ∀ x ∈ sizedF l n, 0 ≤ x ∧ x < 256 := by
  intro x hx
  unfold sizedF at hx
  split at hx
  · exact h x (List.mem_of_mem_take hx)
  · rcases List.mem_append.1 hx with q | q
    · exact h x q
    · have := List.eq_of_mem_replicate q
      omega
theorem sizedF_self (l : List Int) : sizedF l l.length = l := by unfold sizedF; simp
def upd (f : ByteArray → List Int) (s : ByteArray) (l : List Int) : ByteArray → List Int := fun t => if t = s then l else f t
theorem upd_same (f : ByteArray → List Int) (s : ByteArray) (l : List Int) : upd f s l s = l := by simp [upd]
theorem upd_other (f : ByteArray → List Int) {s t : ByteArray} (l : List Int) (h : t ≠ s) : upd f s l t = f t := by simp [upd, h]
theorem upd_self (f : ByteArray → List Int) (s : ByteArray) : upd f s (f s) = f := by funext t; unfold upd; split <;> simp_all
theorem upd_upd (f : ByteArray → List Int) (s : ByteArray) (l m : List Int) : upd (upd f s l) s m = upd f s m := by funext t; unfold upd; split <;> simp_all
namespace Pl
def new (r : Int) : Pl := ⟨fun _ => [], fun _ => [], 0, 0, 0, [], max 0 r, 0, 0, false, 0⟩
def setSeen (p : Pl) (s : ByteArray) (l : List Int) : Pl := { p with seen := upd p.seen s l, sum := p.sum - (p.seen s).length + l.length }
def setKept (p : Pl) (s : ByteArray) (l : List Int) : Pl := { p with kept := upd p.kept s l, ksum := p.ksum - (p.kept s).length + l.length }
def at_ (p : Pl) : Pl := { p with nf := p.nf + 1 }
def pend (p : Pl) (l : List Cg) : Pl := { p with pd := p.pd ++ l }
def wrong (p : Pl) : Int := if p.down then 7 else 0
def stepE (p : Pl) : Int := if p.crash = 1 then 7 else 0
def step (p : Pl) : Pl := { p with steps := wrp (p.steps + 1), crash := if 0 < p.crash then p.crash - 1 else p.crash, down := if p.crash = 1 then true else p.down }
def fits (p : Pl) (s : ByteArray) (n : Int) : Int :=
  if 1048576 < n then 3 else if ((p.seen s).length : Int) < n ∧ p.room < wrp (n - (p.seen s).length + p.sum) then 5 else 0
def length (p : Pl) (s : ByteArray) (n : Nat) : Pl :=
  if n = (p.seen s).length then p.at_ else (p.at_.setSeen s (sizedF (p.seen s) n)).pend [⟨s, -1, n, []⟩]
def readE (p : Pl) (at_ n : Int) : Int := if p.down then 7 else if at_ < 0 ∨ n < 0 then 2 else 0
def read (p : Pl) (s : ByteArray) (at_ n : Int) : List Int := if p.readE at_ n = 0 then ((p.seen s).drop at_.toNat).take n.toNat else []
/-- bytes put at a place -/
def put (l : List Int) (a : Nat) (d : List Int) : List Int := l.take a ++ d ++ l.drop (a + d.length)
def sectors (s : ByteArray) (l : List Int) (a e : Nat) : List Cg := (List.range' (a / 64) ((e + 63) / 64 - a / 64)).map fun (k : Nat) => ⟨s, (k : Int), 0, sizedF (l.drop (k * 64)) 64⟩
def writeE (p : Pl) (s : ByteArray) (a : Int) (d : List Int) : Int :=
  if p.down then 7 else if a < 0 then 2 else if 1048576 < a ∨ 1048576 - a < d.length then 3 else if d = [] then p.stepE else
    if p.fits s (max (a + d.length) (p.seen s).length) ≠ 0 then p.fits s (max (a + d.length) (p.seen s).length) else p.stepE
/-- the data written, behind all questions -/
def write1 (p : Pl) (s : ByteArray) (a : Nat) (d : List Int) : Pl :=
  let p1 := if (p.seen s).length < a + d.length then p.length s (a + d.length) else p
  let l := put (p1.seen s) a d
  ((p1.at_.setSeen s l).pend (sectors s l a (a + d.length))).step
def write (p : Pl) (s : ByteArray) (a : Int) (d : List Int) : Pl :=
  if p.down ∨ a < 0 ∨ 1048576 < a ∨ 1048576 - a < d.length then p else if d = [] then p.step else
    if p.fits s (max (a + d.length) (p.seen s).length) ≠ 0 then p else p.write1 s a.toNat d
def truncE (p : Pl) (s : ByteArray) (n : Int) : Int :=
  if p.down then 7 else if n < 0 then 2 else if p.fits s n ≠ 0 then p.fits s n else p.stepE
def trunc (p : Pl) (s : ByteArray) (n : Int) : Pl :=
  if p.down ∨ n < 0 ∨ p.fits s n ≠ 0 then p else (p.length s n.toNat).step
def syncE (p : Pl) : Int := if p.down then 7 else p.stepE
def sync (p : Pl) (s : ByteArray) : Pl :=
  if p.down then p else if p.stepE ≠ 0 then p.step else { p.step.at_.setKept s (p.seen s) with pd := p.pd.filter fun c => !decide (c.nm = s) }
def len (p : Pl) (s : ByteArray) : Nat := if p.down then 0 else (p.seen s).length
def crashIn (p : Pl) (n : Int) : Pl := { p with crash := max 0 n }
def crashNow (p : Pl) : Pl := { p with down := true }
/-- what a choice makes of what is kept, by a change -/
def made (l : List Int) (c : Cg) (ch : Int) : List Int :=
  if ch ≤ 0 then l else if c.sec < 0 then sizedF l c.n.toNat else
    put l (c.sec.toNat * 64) ((c.s.take (if 1 < ch then (1 + (ch - 2) % 63).toNat else 64)).take (l.length - c.sec.toNat * 64))
def survive (p : Pl) : List Cg → List Int → Pl
  | c :: cs, ch :: r => survive (p.at_.setKept c.nm (made (p.kept c.nm) c ch)) cs r
  | _, _ => p
def restartE (p : Pl) : Int := if p.down then 0 else 4
def restart (p : Pl) (chs : List Int) : Pl :=
  if p.down then
    let q := p.survive p.pd chs
    { q with seen := q.kept, sum := q.ksum, pd := [], steps := 0, crash := 0, down := false, starts := wrp (p.starts + 1) }
  else p
end Pl
end Go.Proofs.Ytegcbdfilkecpaa
/- A slice of the call's own, its block; no condition. -/
namespace Go.Proofs.Ytegcbdfilkecpaa
open Go.RowKit

section
variable {w w' : World} {base base' n n' cap size size' : Nat} {e e' : TypeId} {A : Option Addr} {v v' : Value} {xs xs' : List Value} {S : Nat → Prop}
theorem own_keepB (h : w.ownsRow base e size v n xs) (k : Kp S w w') (hS : ∀ g, v.ownBlock = some g → ¬ S g) : w'.ownsRow base e size v n xs := by
  refine ⟨h.1, ?_⟩
  rcases h.2 with hn | ⟨g, cap, cur, rfl, hb, hg, rest⟩
  · exact .inl hn
  · exact .inr ⟨g, cap, cur, rfl, hb, k.lift hg (hS g rfl), rest⟩
theorem own_blk1 (h : w.ownsRow base e 1 (.slice A n cap) n xs) (hn : 0 < n) : ∃ g ds, A = some ⟨g, 0, none⟩ ∧ base ≤ g ∧ Blk w g e (xs ++ ds).toArray := by
  rcases h.2 with ⟨h0, _⟩ | ⟨g, cap', cur, hv, hb, hh, h1, h2, h3, h4⟩
  · cases h0; omega
  · simp only [Value.slice.injEq] at hv
    refine ⟨g, cur.toList.drop n, hv.1, hb, ?_⟩
    unfold Blk
    rw [hh]
    congr 2
    rw [Nat.mul_one] at h4
    rw [← h4, List.take_append_drop]
theorem own_blkN (h : w.ownsRow base e size (.slice A n cap) n xs) (hn : 0 < n) : ∃ g ds, A = some ⟨g, 0, none⟩ ∧ base ≤ g ∧ Blk w g e (xs ++ ds).toArray := by
  rcases h.2 with ⟨h0, _⟩ | ⟨g, cap', cur, hv, hb, hh, h1, h2, h3, h4⟩
  · cases h0; omega
  · simp only [Value.slice.injEq] at hv
    refine ⟨g, cur.toList.drop (n * size), hv.1, hb, ?_⟩
    unfold Blk
    rw [hh]
    congr 2
    rw [← h4, List.take_append_drop]
theorem own_form (h : w.ownsRow base e size (.slice A n cap) n xs) : (A = none ∧ n = 0 ∧ cap = 0) ∨ ∃ g, A = some ⟨g, 0, none⟩ := by
  rcases h.2 with ⟨h0, hn⟩ | ⟨g, cap', cur, hv, _⟩
  · injection h0 with h1 h2 h3
    exact .inl ⟨h1, hn, h3⟩
  · injection hv with h1
    exact .inr ⟨g, h1⟩
theorem own_cap (h : w.ownsRow base e size (.slice A n cap) n xs) : n ≤ cap := by
  rcases h.2 with ⟨h0, hn⟩ | ⟨g, cap', cur, hv, _, _, h1, _⟩
  · omega
  · simp only [Value.slice.injEq] at hv
    omega
end
end Go.Proofs.Ytegcbdfilkecpaa
/- What is appended lies behind a slice, nil or not; no condition. -/
namespace Go.Proofs.Ytegcbdfilkecpaa
open Go.RowKit

theorem wpList_append_src {P : Program} {w : World} {ops : Array Oper} {rest : List Oper} {o : Oper} {a : Act} {Q : Exit → Act → World → Prop} (hgd : o.guard = none) (s x : Operand) (t : TypeId)
    (ho : o.op = .call { callee := .builtin .append, args := #[s, x], argTypes := #[t, t] })
    (base : Nat) (e : TypeId) (i : TypeInfo) (z : Value) (bytes : Nat) (ht : P.underlying t = some (.slice e)) (hi : P.info? e = some i) (hz : i.zero = some z)
    (hsize : i.size = 1) (hby : i.bytes = bytes) (hzs : z.cells.size = 1)
    (v : Value) (n : Nat) (xs : List Value) (hs : a.eval s = v) (hown : w.ownsRow base e 1 v n xs)
    (A : Option Addr) (m c : Nat) (news : List Value) (hx : a.eval x = .slice A m c) (hA : A = none → m = 0 ∧ c = 0) (hl : news.length = m)
    (hnews : 0 < m → ∃ g o, A = some ⟨g, o, none⟩ ∧ ∀ j u, news[j]? = some u → w.cell? ⟨g, o + j, none⟩ = some u) (h1 : ∀ u ∈ news, u.oneCell' = true)
    (h63 : n + m ≤ maxLen) (hbytes : (n + m) * bytes ≤ 140737488355328) (hbase : base ≤ w.heap.size)
    (h : ∀ v' w', w'.ownsRow base e 1 v' (n + m) (xs ++ news) → w.grownBy w' v.ownBlock → wpList P ops Q rest (a.put o.dst v') w') : wpList P ops Q (o :: rest) a w := by
  rcases A with _ | ad
  · obtain ⟨rfl, rfl⟩ := hA rfl
    obtain rfl : news = [] := List.eq_nil_of_length_eq_zero hl
    refine wpList_append_own_none hgd s x t ho base e i 1 ht hi v n xs hs hown hx (h v w ?_ ?_)
    · simpa using hown
    · exact ⟨rfl, rfl, rfl, Nat.le_refl _, fun _ _ _ => rfl⟩
  · refine wpList_append_own w hgd s x t ho base e i z 1 bytes ht hi hz hsize hby hzs (by omega) v n xs hs hown ad m c news hx (by omega) ?_ h1 h63 hbytes hbase (fun v' w' q1 q2 _ => h v' w' q1 q2)
    intro j u hj
    have hm : 0 < m := by
      have := (List.getElem?_eq_some_iff.1 hj).1
      omega
    obtain ⟨g, o', e', hc⟩ := hnews hm
    injection e' with e'
    subst e'
    rw [add_mk]
    exact hc j u hj
/-- the same for elements of more cells -/
theorem wpList_append_srcN {P : Program} {w : World} {ops : Array Oper} {rest : List Oper} {o : Oper} {a : Act} {Q : Exit → Act → World → Prop} (hgd : o.guard = none) (s x : Operand) (t : TypeId)
    (ho : o.op = .call { callee := .builtin .append, args := #[s, x], argTypes := #[t, t] })
    (base : Nat) (e : TypeId) (i : TypeInfo) (z : Value) (size bytes : Nat) (ht : P.underlying t = some (.slice e)) (hi : P.info? e = some i) (hz : i.zero = some z)
    (hsize : i.size = size) (hby : i.bytes = bytes) (hzs : z.cells.size = size) (hsz : 0 < size)
    (v : Value) (n : Nat) (xs : List Value) (hs : a.eval s = v) (hown : w.ownsRow base e size v n xs)
    (A : Option Addr) (m c : Nat) (news : List Value) (hx : a.eval x = .slice A m c) (hA : A = none → m = 0 ∧ c = 0) (hl : news.length = m * size)
    (hnews : 0 < m → ∃ g o, A = some ⟨g, o, none⟩ ∧ ∀ j u, news[j]? = some u → w.cell? ⟨g, o + j, none⟩ = some u) (h1 : ∀ u ∈ news, u.oneCell' = true)
    (h63 : n + m ≤ maxLen) (hbytes : (n + m) * bytes ≤ 140737488355328) (hbase : base ≤ w.heap.size)
    (h : ∀ v' w', w'.ownsRow base e size v' (n + m) (xs ++ news) → w.grownBy w' v.ownBlock → wpList P ops Q rest (a.put o.dst v') w') : wpList P ops Q (o :: rest) a w := by
  rcases A with _ | ad
  · obtain ⟨rfl, rfl⟩ := hA rfl
    obtain rfl : news = [] := List.eq_nil_of_length_eq_zero (by omega)
    refine wpList_append_own_none hgd s x t ho base e i size ht hi v n xs hs hown hx (h v w ?_ ?_)
    · simpa using hown
    · exact ⟨rfl, rfl, rfl, Nat.le_refl _, fun _ _ _ => rfl⟩
  · refine wpList_append_own w hgd s x t ho base e i z size bytes ht hi hz hsize hby hzs hsz v n xs hs hown ad m c news hx hl ?_ h1 h63 hbytes hbase (fun v' w' q1 q2 _ => h v' w' q1 q2)
    intro j u hj
    have hm : 0 < m := by
      rcases Nat.eq_zero_or_pos m with q | q
      · rw [q] at hl
        have := (List.getElem?_eq_some_iff.1 hj).1
        omega
      · exact q
    obtain ⟨g, o', e', hc⟩ := hnews hm
    injection e' with e'
    subst e'
    rw [add_mk]
    exact hc j u hj
end Go.Proofs.Ytegcbdfilkecpaa
/- Appending to a slice of the call's own: so many noughts; where the slice lies behind it; no condition. -/
namespace Go.Proofs.Ytegcbdfilkecpaa
open Go.RowKit

section
variable {P : Program}
theorem zeroCells_one (u : Value) (z : Array Value) (hz : z = #[u]) (n : Nat) : Builtin.zeroCells z n = (List.replicate n u).toArray := by
  subst hz
  unfold Builtin.zeroCells
  apply Array.ext
  · simp
  · intro i h1 h2
    simp [Nat.mod_one]
theorem append_zeros_own (w : World) (base : Nat) (t tn ty e : TypeId) (i : TypeInfo) (z u : Value) (kq kn : IntKind) (ht : P.underlying t = some (.slice e)) (htn : P.underlying tn = some (.int kn)) (hi : P.info? e = some i) (hz : i.zero = some z)
    (hsize : i.size = 1) (hby : i.bytes = 1) (hzs : z.cells = #[u]) (hu : u.oneCell' = true)
    (v : Value) (n : Nat) (xs : List Value) (hown : w.ownsRow base e 1 v n xs) (k : Nat) (hk : 0 < k) (hb : n + k ≤ 1099511627776) (hbase : base ≤ w.heap.size) :
    ∃ v' w', (Builtin.append_ #[t, tn] ty #[v, .int kq k]).run P w = .ok v' w' ∧ w'.ownsRow base e 1 v' (n + k) (xs ++ List.replicate k u) ∧ w.grownBy w' v.ownBlock ∧ (∀ b, v'.ownBlock = some b → v.ownBlock = some b ∨ w.heap.size ≤ b) := by
  have hxl : xs.length = n := by have := hown.1; omega
  have grown : ∀ (old : Nat) (row : Option Nat),
      (w.drew.alloc (.cells (xs.toArray ++ Builtin.zeroCells z.cells k ++ Builtin.zeroCells z.cells (grownCap w (n + k) old e - (n + k))) e)).ownsRow base e 1
        (.slice (some ⟨w.heap.size, 0, none⟩) (n + k) (grownCap w (n + k) old e)) (n + k) (xs ++ List.replicate k u) ∧
      w.grownBy (w.drew.alloc (.cells (xs.toArray ++ Builtin.zeroCells z.cells k ++ Builtin.zeroCells z.cells (grownCap w (n + k) old e - (n + k))) e)) row := by
    intro old row
    have hge := grownCap_ge w (n + k) old e
    have hcm : grownCap w (n + k) old e ≤ maxLen := grownCap_le_maxLen w (n + k) old e (by unfold maxLen; omega)
    rw [zeroCells_one u _ hzs, zeroCells_one u _ hzs]
    refine ⟨⟨by simp [hxl], .inr ⟨w.heap.size, _, _, rfl, hbase, heap_alloc_new w.drew _, hge, hcm, ?_, ?_⟩⟩, ⟨rfl, rfl, rfl, by simp, fun j hj _ => by first | exact Go.heap_alloc_old w.drew _ hj | exact Go.heap_alloc_old w.drew _ _ hj⟩⟩
    · simp [hxl]; omega
    · simp only [Array.toList_append, Nat.mul_one]
      exact List.take_left' (by simp [hxl])
  rcases hown.2 with ⟨rfl, rfl⟩ | ⟨g, cap, cur, rfl, hbg, hg, hnc, hcm, hcs, htake⟩
  · have hx : xs = [] := List.eq_nil_of_length_eq_zero hxl
    subst hx
    have hr := Lib.run_append_nil_zeros (P := P) w t tn ty e i z kq kn ht htn hi hz k hk (by omega) (by omega) (by rw [hby]; omega)
    have hgr := grown 0 (Value.ownBlock (.slice none 0 0))
    simp only [Nat.zero_add, List.nil_append, Array.empty_append] at hgr ⊢
    exact ⟨_, _, hr, hgr.1, hgr.2, fun b hb => .inr (by simp [Value.ownBlock] at hb; omega)⟩
  · by_cases hroom : n + k ≤ cap
    · have hfit : n * 1 + (List.replicate k u).length ≤ cur.size := by simp; omega
      have hw : IntKind.i64.wrap (k : Int) = k := by rw [IntKind.wrap_i64]; omega
      have hst := run_storeCells_at P g n e (List.replicate k u) 0 cur w hg (by simpa using hfit) (by intro v hv; rw [List.eq_of_mem_replicate hv]; exact hu)
      have hr : (Builtin.append_ #[t, tn] ty #[.slice (some ⟨g, 0, none⟩) n cap, .int kq k]).run P w = .ok (.slice (some ⟨g, 0, none⟩) (n + k) cap) (w.setRow g (cur.toList.take n ++ List.replicate k u ++ cur.toList.drop (n + k)).toArray) := by
        have hk0 : k ≠ 0 := by omega
        have h0 : ¬ ((k : Int) < 0) := by omega
        have hk48 : ¬ (281474976710656 < (k : Int)) := by omega
        simp only [Nat.add_zero, List.length_replicate] at hst
        simp [Builtin.append_, run_underlying ht, run_underlying htn, sizeOf, typeInfo, zeroValue, hi, hz, hsize, hby, hw, h0, hk0, hk48, hroom, asInt, asIntOf, zeroCells_one u _ hzs, Addr.add_lit, hst]
      refine ⟨_, _, hr, ⟨by simp [hxl], .inr ⟨g, cap, _, rfl, hbg, setRow_heap w g cur _ e _ hg, hroom, hcm, ?_, ?_⟩⟩, ⟨rfl, rfl, rfl, by simp, fun k _ hk => setRow_other w g k _ (fun e => hk (by simp [Value.ownBlock, e]))⟩, fun b hb => .inl hb⟩
      · simp; omega
      · rw [Nat.mul_one] at htake ⊢
        simp only [htake]
        exact List.take_left' (by simp [hxl])
    · have hold : (Builtin.firstCells i.size n (.slice (some ⟨g, 0, none⟩) n cap)).run P w.drew = .ok xs.toArray w.drew :=
        run_firstCells_some (P := P) w.drew i.size n ⟨g, 0, none⟩ n cap xs (by rw [hsize]; omega) (fun j u' hu' => (hown.cells (g := g) rfl) j u' hu')
      have hr := Lib.run_append_grow_zeros (P := P) w t tn ty e i z kq kn ht htn hi hz (some ⟨g, 0, none⟩) n cap xs hold k hk (by omega) (by omega) (by omega) (by rw [hby]; omega) (by
        rw [hby]
        exact growslice_fits (need := n + k) (bytes := 1) (by omega) (by omega))
      have hgr := grown cap (Value.ownBlock (.slice (some ⟨g, 0, none⟩) n cap))
      exact ⟨_, _, hr, hgr.1, hgr.2, fun b hb => .inr (by simp [Value.ownBlock] at hb; omega)⟩
end
end Go.Proofs.Ytegcbdfilkecpaa
/- The stand-in disk in memory; no condition. -/
namespace Go.Proofs.Ytegcbdfilkecpaa
open Go.RowKit

/-- a disk: its blocks, its files, its changes, its numbers -/
structure Dd where
  db : Nat
  mb : Nat
  mn : Nat
  pv : Value
  fs : List Fe
  pd : List Cg
  room : Int
  steps : Int
  crash : Int
  down : Bool
  starts : Int
def cgCells (pd : List Cg) : List Value := pd.flatMap fun c => .string c.nm :: .int .i64 c.sec :: .int .i64 c.n :: (pad64 c.s).map (Value.int .u8)
theorem cgCells_len (pd : List Cg) (h : ∀ c ∈ pd, CgOk c) : (cgCells pd).length = pd.length * 67 := by
  unfold cgCells
  induction pd with
  | nil => rfl
  | cons c pd ih =>
    have := (h c (List.mem_cons_self ..)).pad
    rw [List.flatMap_cons, List.length_append, ih fun x hx => h x (List.mem_cons_of_mem _ hx)]
    simp [this]; omega
theorem cgCells_snoc (pd : List Cg) (c : Cg) : cgCells (pd ++ [c]) = cgCells pd ++ (.string c.nm :: .int .i64 c.sec :: .int .i64 c.n :: (pad64 c.s).map (Value.int .u8)) := by
  unfold cgCells
  rw [List.flatMap_append]
  simp
/-- a list of bytes lies at a slice of the disk's own -/
structure Bq (w : World) (n0 : Nat) (v : Value) (l : List Int) : Prop where
  own : w.ownsRow n0 5 1 v l.length (l.map (Value.int .u8))
  rng : ∀ x ∈ l, 0 ≤ x ∧ x < 256
theorem Bq.none (w : World) (n0 : Nat) : Bq w n0 (.slice none 0 0) [] := ⟨World.ownsRow_nil _ _ _ _, by simp⟩
theorem Bq.form {w : World} {n0 : Nat} {v : Value} {l : List Int} (h : Bq w n0 v l) : ∃ A cap, v = .slice A l.length cap := own_slice h.own
theorem own_type {w : World} {base : Nat} {e : TypeId} {size n : Nat} {v : Value} {xs : List Value} (h : w.ownsRow base e size v n xs) {g : Nat} (hg : v.ownBlock = some g) : ∃ cs, w.heap[g]? = some (.cells cs e (0, 0)) := by
  rcases h.2 with ⟨rfl, _⟩ | ⟨g1, cap1, cur1, rfl, _, h1, _⟩
  · cases hg
  · simp only [Value.ownBlock, Option.some.injEq] at hg
    subst hg
    exact ⟨_, h1⟩
theorem Bq.keep {w w' : World} {n0 : Nat} {v : Value} {l : List Int} {S : Nat → Prop} (h : Bq w n0 v l) (k : Kp S w w') (hS : ∀ g cs, w.heap[g]? = some (.cells cs 5 (0, 0)) → ¬ S g) : Bq w' n0 v l :=
  ⟨own_keepB h.own k (fun g hg => by obtain ⟨cs, hc⟩ := own_type h.own hg; exact hS g cs hc), h.rng⟩
/-- a file's block -/
structure FeOk (w : World) (n0 : Nat) (e : Fe) : Prop where
  blk : ∃ u v, Blk w e.fb 143 #[u, v] ∧ Bq w n0 u e.seen ∧ Bq w n0 v e.kept
  ls : e.seen.length ≤ 1048576
  lk : e.kept.length ≤ 1048576
def diskCells (x : Dd) : Array Value := #[.map (some x.mb), x.pv, .int .i64 x.room, .int .i64 x.steps, .int .i64 x.crash, .bool x.down, .int .i64 x.starts]
/-- the blocks that the disk writes -/
def Dd.O (x : Dd) : Nat → Prop := fun b => b = x.db ∨ b = x.mb ∨ x.pv.ownBlock = some b ∨ ∃ e ∈ x.fs, b = e.fb
structure Dk (n0 : Nat) (w : World) (x : Dd) : Prop where
  blk : Blk w x.db 121 (diskCells x)
  mp : ∃ D, w.ownsMap Try.prog 9 Rp x.mb x.mn D ∧ MpD D x.fs
  names : Names x.fs
  fbs : x.fs.Pairwise fun a b => a.fb ≠ b.fb
  fls : ∀ e ∈ x.fs, FeOk w n0 e
  pend : w.ownsRow n0 148 67 x.pv x.pd.length (cgCells x.pd)
  b0 : n0 ≤ x.db
  b1 : n0 ≤ x.mb
  b2 : ∀ e ∈ x.fs, n0 ≤ e.fb
  s64 : ∀ c ∈ x.pd, CgOk c
  r0 : 0 ≤ x.room ∧ x.room ≤ 9223372036854775807
  c0 : 0 ≤ x.crash ∧ x.crash ≤ 9223372036854775807
theorem Dk.lt {n0 : Nat} {w : World} {x : Dd} (h : Dk n0 w x) : ∀ b, x.O b → b < w.heap.size := by
  rintro b (rfl | rfl | hb | ⟨e, he, rfl⟩)
  · exact h.blk.lt
  · obtain ⟨D, hD, _⟩ := h.mp; exact hD.lt
  · exact (h.pend.lt b hb).2
  · obtain ⟨u, v, hb, _⟩ := (h.fls e he).blk; exact hb.lt
theorem Dk.ge {n0 : Nat} {w : World} {x : Dd} (h : Dk n0 w x) : ∀ b, x.O b → n0 ≤ b := by
  rintro b (rfl | rfl | hb | ⟨e, he, rfl⟩)
  · exact h.b0
  · exact h.b1
  · exact (h.pend.lt b hb).1
  · exact h.b2 e he
theorem blk_ne {w : World} {g g' : Nat} {t t' : TypeId} {cs cs' : Array Value} (h : Blk w g t cs) (h' : w.heap[g']? = some (.cells cs' t' (0, 0))) (hne : t ≠ t') : g ≠ g' := by
  rintro rfl
  unfold Blk at h
  rw [h] at h'
  simp only [Option.some.injEq, Obj.cells.injEq] at h'
  exact hne h'.2.1
theorem Dk.bytes {n0 : Nat} {w : World} {x : Dd} (h : Dk n0 w x) {g : Nat} {cs : Array Value} (hg : w.heap[g]? = some (.cells cs 5 (0, 0))) : ¬ x.O g := by
  rintro (rfl | rfl | hb | ⟨e, he, rfl⟩)
  · exact blk_ne h.blk hg (by decide) rfl
  · obtain ⟨D, ⟨es, cl, hb, _⟩, _⟩ := h.mp
    rw [hb] at hg; cases hg
  · obtain ⟨cs', hc⟩ := own_type h.pend hb
    rw [hc] at hg
    simp only [Option.some.injEq, Obj.cells.injEq] at hg
    exact absurd hg.2.1 (by decide)
  · obtain ⟨u, v, hb, _⟩ := (h.fls e he).blk
    exact blk_ne hb hg (by decide) rfl
theorem Kp.map {S : Nat → Prop} {w w' : World} (k : Kp S w w') {P : Program} {kt : TypeId} {R : Value → Option (DataW Value × List MemPlace)} {b n : Nat} {D : DataW Value} (h : w.ownsMap P kt R b n D) (hn : ¬ S b) : w'.ownsMap P kt R b n D := by
  obtain ⟨es, cl, hb, F, hs, hD⟩ := h
  exact ⟨es, cl, k.lift hb hn, F, hs, hD⟩
theorem FeOk.keep {w w' : World} {n0 : Nat} {e : Fe} {S : Nat → Prop} (h : FeOk w n0 e) (k : Kp S w w') (hn : ¬ S e.fb) (hS : ∀ g cs, w.heap[g]? = some (.cells cs 5 (0, 0)) → ¬ S g) : FeOk w' n0 e := by
  obtain ⟨u, v, hb, hu, hv⟩ := h.blk
  exact ⟨⟨u, v, hb.keep k hn, hu.keep k hS, hv.keep k hS⟩, h.ls, h.lk⟩
/-- the disk stays while other blocks are written and new ones are made -/
theorem Dk.keep {n0 : Nat} {w w' : World} {x : Dd} {S : Nat → Prop} (h : Dk n0 w x) (k : Kp S w w') (hO : ∀ b, x.O b → ¬ S b) (hS : ∀ g cs, w.heap[g]? = some (.cells cs 5 (0, 0)) → ¬ S g) : Dk n0 w' x := by
  obtain ⟨D, hD, hM⟩ := h.mp
  exact { h with
    blk := h.blk.keep k (hO _ (.inl rfl))
    mp := ⟨D, k.map hD (hO _ (.inr (.inl rfl))), hM⟩
    fls := fun e he => (h.fls e he).keep k (hO _ (.inr (.inr (.inr ⟨e, he, rfl⟩)))) hS
    pend := own_keepB h.pend k (fun g hg => hO _ (.inr (.inr (.inl hg)))) }
def seenOf (fs : List Fe) (s : ByteArray) : List Int := match findF fs (kOf s) with | some e => e.seen | none => []
def allKept (fs : List Fe) : Nat := (fs.map (·.kept.length)).sum
def keptOf (fs : List Fe) (s : ByteArray) : List Int := match findF fs (kOf s) with | some e => e.kept | none => []
/-- the plain state of a disk in memory -/
structure Of (x : Dd) (p : Pl) : Prop where
  seen : p.seen = seenOf x.fs
  kept : p.kept = keptOf x.fs
  sum : p.sum = allSum x.fs
  ksum : p.ksum = allKept x.fs
  nf : x.mn ≤ p.nf
  pd : p.pd = x.pd
  room : p.room = x.room
  steps : p.steps = x.steps
  crash : p.crash = x.crash
  down : p.down = x.down
  starts : p.starts = x.starts
theorem keyS (s : ByteArray) (hs : s.size ≤ maxLen) : keyOf Try.prog 9 (.string s) = some (.string (kOf s)) := WideMaps.keyOf_string_mk Try.underlying9 hs
theorem keyed : Maps.Keyed Try.prog 9 := Maps.string_keyed Try.underlying9
/-- the look-up of a name -/
theorem Dk.look {n0 : Nat} {w : World} {x : Dd} (h : Dk n0 w x) (s : ByteArray) (hs : s.size ≤ maxLen) :
    (Instr.lookup 118 (.map (some x.mb)) (.string s) false).run Try.prog w = .ok (foundV x.fs (kOf s)) w := by
  obtain ⟨D, hD, hM⟩ := h.mp
  have hz : (zeroValue 139).run Try.prog w = .ok (.pointer none) w := by kernel_rfl
  obtain ⟨v, ps, hrun, hv⟩ := hD.lookup keyed Try.underlying118 hz (zd := .held (.pointer none)) (zp := []) rfl (keyS s hs)
  obtain ⟨p, rfl, hy⟩ := Rp_inv hv
  rw [hM.at_] at hy
  simp only [Prod.mk.injEq] at hy
  rw [hrun]
  unfold foundV
  cases hf : findF x.fs (kOf s) with
  | none => rw [hf] at hy; simp at hy; simp [hy]
  | some e => rw [hf] at hy; simp [ptrV] at hy; simp [ptrV, ← hy.1]
end Go.Proofs.Ytegcbdfilkecpaa
/- The stand-in disk: New, is, wrong, bytes, at; no condition but on the name's length. -/
namespace Go.Proofs.Ytegcbdfilkecpaa
open Go.RowKit

theorem mapNe (b : Nat) (w : World) : (binOp .neq 118 (.map (some b)) (.map none)).run Try.prog w = .ok (.bool true) w := by kernel_rfl
def NewPost (n0 : Nat) (w : World) (r : Int) (e : Ending) (w' : World) : Prop := ∃ db mb, e = .returned (ptrV db) ∧ Dk n0 w' ⟨db, mb, 0, .slice none 0 0, [], [], r, 0, 0, false, 0⟩ ∧ Kp NoB w w' ∧ w.heap.size ≤ db ∧ w.heap.size ≤ mb
theorem new_post (n0 : Nat) (w : World) (r : Int) (hr : 0 ≤ r ∧ r ≤ 9223372036854775807) (hn : n0 ≤ w.heap.size) : NewPost n0 w r (.returned (.pointer (some ⟨w.heap.size + 1, 0, none⟩))) ((w.alloc (.map #[] 0)).alloc (.cells #[.map (some w.heap.size), .slice none 0 0, .int .i64 r, .int .i64 0, .int .i64 0, .bool false, .int .i64 0] 121)) := by
  refine ⟨w.heap.size + 1, w.heap.size, by simp [ptrV], ?_, ((Kp.refl NoB w).alloc _).alloc _, by omega, by omega⟩
  exact
    { blk := by
        have := Blk.newAt (w.alloc (.map #[] 0)) 121 (diskCells ⟨w.heap.size + 1, w.heap.size, 0, .slice none 0 0, [], [], r, 0, 0, false, 0⟩) (w.heap.size + 1) (by simp)
        simpa [diskCells] using this
      mp := ⟨_, (World.ownsMap_made w Try.prog 9 Rp).alloc _, MpD.nil⟩
      names := List.Pairwise.nil
      fbs := List.Pairwise.nil
      fls := by simp
      pend := World.ownsRow_nil _ _ _ _
      b0 := by simp; omega
      b1 := hn
      b2 := by simp
      s64 := by simp
      r0 := hr
      c0 := by simp }
set_option maxRecDepth 100000 in
theorem new_ok (w : World) (r : Int) (hr : -9223372036854775808 ≤ r ∧ r ≤ 9223372036854775807) (n0 : Nat) (hn : n0 ≤ w.heap.size) :
    Calls Try.prog 17 #[.int .i64 r] w (NewPost n0 w (max 0 r)) := by
  have hmm := @run_makeMap Try.prog
  obtain ⟨m, hm⟩ : ∃ m, max 0 r = m := ⟨_, rfl⟩
  have HM := Lib.hid (show 0 ≤ m ∧ m ≤ 9223372036854775807 by omega)
  have HN := Lib.hid hn
  rw [hm]
  rcases (show r < 0 ∨ r = 0 ∨ 0 < r by omega) with h0 | rfl | h0
  · obtain rfl : 0 = m := by omega
    have hh : ¬ 0 ≤ r := by omega
    clear hn hm
    go_enter Try.func17, Try.ntmps17
    go_wp2_with fail
    all_goals
      go_ret
      exact new_post n0 w _ HM.out HN.out
  · obtain rfl : 0 = m := by omega
    clear hn hm
    go_enter Try.func17, Try.ntmps17
    go_wp2_with fail
    all_goals
      go_ret
      exact new_post n0 w _ HM.out HN.out
  · obtain rfl : r = m := by omega
    have hh : 0 ≤ r := by omega
    clear hn hm
    go_enter Try.func17, Try.ntmps17
    go_wp2_with fail
    all_goals
      go_ret
      exact new_post n0 w _ HM.out HN.out
set_option maxRecDepth 100000 in
theorem is_ok (w : World) (n0 : Nat) (x : Dd) (h : Dk n0 w x) : Calls Try.prog 69 #[ptrV x.db] w fun e w' => e = .returned (.bool true) ∧ w = w' := by
  have c0 : w.cell? ⟨x.db, 0, none⟩ = some (.map (some x.mb)) := by rw [h.blk.cell]; rfl
  have hne := mapNe
  unfold ptrV
  go_enter Try.func69, Try.ntmps69
  go_wp2_with fail
  go_ret
  exact ⟨rfl, rfl⟩
set_option maxRecDepth 100000 in
theorem wrong_ok (w : World) (n0 : Nat) (x : Dd) (h : Dk n0 w x) : Calls Try.prog 80 #[ptrV x.db] w fun e w' => e = .returned (.int .i64 (if x.down then 7 else 0)) ∧ w = w' := by
  have H := Lib.hid h
  have c5 : w.cell? ⟨x.db, 5, none⟩ = some (.bool x.down) := by rw [h.blk.cell]; rfl
  clear h
  obtain ⟨db, hdb⟩ : ∃ db, x.db = db := ⟨_, rfl⟩
  rw [hdb] at c5 ⊢
  have HD := Lib.hid hdb
  clear hdb
  unfold ptrV
  cases hd : x.down
  · rw [hd] at c5
    go_enter Try.func80, Try.ntmps80
    go_wp2_with (go_at_call 69; go_must (refine (show Calls _ _ #[ptrV db] _ _ by rw [← HD.out]; exact is_ok _ _ _ H.out).mono ?_); rintro e w2 ⟨rfl, rfl⟩)
    go_ret
    exact ⟨rfl, rfl⟩
  · rw [hd] at c5
    go_enter Try.func80, Try.ntmps80
    go_wp2_with (go_at_call 69; go_must (refine (show Calls _ _ #[ptrV db] _ _ by rw [← HD.out]; exact is_ok _ _ _ H.out).mono ?_); rintro e w2 ⟨rfl, rfl⟩)
    go_ret
    exact ⟨rfl, rfl⟩
set_option maxRecDepth 100000 in
theorem bytes_ok (w : World) (n0 : Nat) (x : Dd) (s : ByteArray) (hs : s.size ≤ maxLen) (h : Dk n0 w x) : Calls Try.prog 81 #[ptrV x.db, .string s] w fun e w' => ∃ A cap, e = .returned (.slice A (seenOf x.fs s).length cap) ∧ Bq w n0 (.slice A (seenOf x.fs s).length cap) (seenOf x.fs s) ∧ w' = w := by
  have c0 : w.cell? ⟨x.db, 0, none⟩ = some (.map (some x.mb)) := by rw [h.blk.cell]; rfl
  have hl := h.look s hs
  have HL := Lib.hid hl
  unfold ptrV
  cases hf : findF x.fs (kOf s) with
  | none =>
    have hv : seenOf x.fs s = [] := by unfold seenOf; rw [hf]
    rw [show foundV x.fs (kOf s) = .pointer none by unfold foundV; rw [hf]] at hl
    clear HL
    rw [hv]
    go_enter Try.func81, Try.ntmps81
    go_wp2_with fail
    go_ret
    exact ⟨none, 0, rfl, Bq.none _ _, rfl⟩
  | some e =>
    have hv : seenOf x.fs s = e.seen := by unfold seenOf; rw [hf]
    rw [show foundV x.fs (kOf s) = .pointer (some ⟨e.fb, 0, none⟩) by unfold foundV; rw [hf]; rfl] at hl
    obtain ⟨u, v, hb, hu, hq⟩ := (h.fls e (findF_some hf).1).blk
    obtain ⟨A, cap, rfl⟩ := hu.form
    have c1 : w.cell? ⟨e.fb, 0, none⟩ = some (.slice A e.seen.length cap) := by rw [hb.cell]; rfl
    have HU := Lib.hid hu
    clear HL hu hb hq
    rw [hv]
    go_enter Try.func81, Try.ntmps81
    go_wp2_with fail
    go_ret
    exact ⟨A, cap, rfl, HU.out, rfl⟩
end Go.Proofs.Ytegcbdfilkecpaa
/- The stand-in disk: at makes a file that is not there; step; no condition but on the name's length and the counts. -/
namespace Go.Proofs.Ytegcbdfilkecpaa
open Go.RowKit

theorem putF_self {fs : List Fe} {e : Fe} (h : findF fs (kOf e.nm) = some e) : putF fs e = fs := by
  induction fs with
  | nil => simp [findF] at h
  | cons y r ih =>
    unfold putF
    split
    · rename_i hy
      unfold findF at h
      rw [List.find?_cons_of_pos (by simpa using hy)] at h
      rw [Option.some.inj h]
    · rename_i hy
      rw [ih]
      unfold findF at h ⊢
      rwa [List.find?_cons_of_neg (by simpa using hy)] at h
theorem putF_fbs {fs : List Fe} {e : Fe} (hp : fs.Pairwise fun a b => a.fb ≠ b.fb) (hn : Names fs) (hne : ∀ x ∈ fs, kOf x.nm ≠ kOf e.nm → x.fb ≠ e.fb) : (putF fs e).Pairwise fun a b => a.fb ≠ b.fb := by
  induction fs with
  | nil => simp [putF]
  | cons y r ih =>
    obtain ⟨h1, h2⟩ := List.pairwise_cons.1 hp
    obtain ⟨n1, n2⟩ := List.pairwise_cons.1 hn
    unfold putF
    split
    · rename_i hy
      refine List.pairwise_cons.2 ⟨fun x hx => ?_, h2⟩
      have := hne x (List.mem_cons_of_mem _ hx) (fun q => n1 x hx (by rw [hy, q]))
      exact fun q => this q.symm
    · rename_i hy
      refine List.pairwise_cons.2 ⟨fun x hx => ?_, ih h2 n2 fun x hx => hne x (List.mem_cons_of_mem _ hx)⟩
      rcases putF_mem hx with rfl | ⟨hm, _⟩
      · exact hne y (List.mem_cons_self ..) hy
      · exact h1 x hm
theorem dk_added {n0 : Nat} {w w1 : World} {x : Dd} (h : Dk n0 w x) (hn : n0 ≤ w.heap.size) {s : ByteArray} (hs : s.size ≤ maxLen) (hf : findF x.fs (kOf s) = none) {D : DataW Value} {m : Nat} (hD : w.ownsMap Try.prog 9 Rp x.mb x.mn D) (hM : MpD D x.fs)
    (hown1 : w1.ownsMap Try.prog 9 Rp x.mb m (D.put (.string (kOf s)) (.held (ptrV w.heap.size))))
    (hg : (w.alloc (.cells #[.slice none 0 0, .slice none 0 0] 143)).grownBy w1 (some x.mb)) :
    Dk n0 w1 { x with fs := putF x.fs ⟨s, w.heap.size, [], []⟩, mn := m } ∧ Kp (OnB x.mb) w w1 := by
  have hk : Kp (OnB x.mb) w w1 := ((Kp.refl _ w).alloc _).grown hg (fun k hk => .inr (by simpa [OnB] using hk.symm))
  have hIs : Maps.IsMap D := by obtain ⟨es, cl, _, _, _, e⟩ := hD; exact ⟨_, e⟩
  have hmb : x.mb < w.heap.size := hD.lt
  have hnew : Blk w1 w.heap.size 143 #[.slice none 0 0, .slice none 0 0] := by
    have h0 := Blk.new w 143 #[.slice none 0 0, .slice none 0 0]
    unfold Blk at h0 ⊢
    rw [← h0]
    exact hg.block _ (by simp) (by simp; omega)
  have ndb : ¬ OnB x.mb x.db := by
    intro q
    obtain ⟨es, cl, hb, _⟩ := hD
    have := h.blk
    unfold Blk at this
    rw [show x.db = x.mb from q, hb] at this
    cases this
  have cellNe : ∀ g cs t, w.heap[g]? = some (.cells cs t (0, 0)) → ¬ OnB x.mb g := by
    rintro g cs t hg' rfl
    obtain ⟨es, cl, hb, _⟩ := hD
    rw [hb] at hg'
    cases hg'
  have hfl : ∀ e ∈ x.fs, FeOk w1 n0 e := fun e he => (h.fls e he).keep hk (by obtain ⟨u, v, hb, _⟩ := (h.fls e he).blk; exact cellNe _ _ _ hb) (fun g cs hc => cellNe g cs _ hc)
  refine ⟨{ h with
    blk := h.blk.keep hk ndb
    mp := ⟨_, hown1, hM.put hIs ⟨s, w.heap.size, [], []⟩ (keyed.key (keyS s hs))⟩
    names := putF_names h.names _
    fbs := putF_fbs h.fbs h.names (fun e he _ => by
      obtain ⟨u, v, hb, _⟩ := (h.fls e he).blk
      have := hb.lt
      exact Nat.ne_of_lt this)
    fls := fun e he => by
      rcases putF_mem he with rfl | ⟨hm, _⟩
      · exact ⟨⟨_, _, hnew, Bq.none _ _, Bq.none _ _⟩, by simp, by simp⟩
      · exact hfl e hm
    pend := own_keepB h.pend hk (fun g hg' => by obtain ⟨cs, hc⟩ := own_type h.pend hg'; exact cellNe _ _ _ hc)
    b2 := fun e he => by
      rcases putF_mem he with rfl | ⟨hm, _⟩
      · exact hn
      · exact h.b2 e hm }, hk⟩
def AtPost (n0 : Nat) (w : World) (x : Dd) (s : ByteArray) (e : Ending) (w' : World) : Prop :=
  ∃ e0 m, e = .returned (ptrV e0.fb) ∧ Dk n0 w' { x with fs := putF x.fs e0, mn := m } ∧ m ≤ x.mn + 1 ∧ e0.nm = s ∧ e0.seen = seenOf x.fs s ∧ e0.kept = keptOf x.fs s ∧ Kp (OnB x.mb) w w' ∧ ((∃ q ∈ x.fs, q.fb = e0.fb) ∨ w.heap.size ≤ e0.fb)
set_option maxRecDepth 100000 in
theorem at_ok (w : World) (n0 : Nat) (x : Dd) (s : ByteArray) (hs : s.size ≤ maxLen) (hm : x.mn < 1099511627776) (hn : n0 ≤ w.heap.size) (h : Dk n0 w x) :
    Calls Try.prog 111 #[ptrV x.db, .string s] w (AtPost n0 w x s) := by
  have H := Lib.hid h
  have HS := Lib.hid hs
  have HN := Lib.hid hn
  have c0 : w.cell? ⟨x.db, 0, none⟩ = some (.map (some x.mb)) := by rw [h.blk.cell]; rfl
  have hl := h.look s hs
  unfold ptrV
  cases hf : findF x.fs (kOf s) with
  | some e =>
    have HF := Lib.hid hf
    rw [show foundV x.fs (kOf s) = .pointer (some ⟨e.fb, 0, none⟩) by unfold foundV; rw [hf]; rfl] at hl
    clear h hf hs hn hm
    go_enter Try.func111, Try.ntmps111
    go_wp2_with fail
    go_ret
    have hk := (findF_some HF.out).2
    have hnm : e.nm = s := kOf_inj hk
    have hp : putF x.fs e = x.fs := putF_self (by rw [hk]; exact HF.out)
    exact ⟨e, x.mn, rfl, by rw [hp]; exact H.out, by omega, hnm, by unfold seenOf; rw [HF.out], by unfold keptOf; rw [HF.out], Kp.refl _ _, .inl ⟨e, (findF_some HF.out).1, rfl⟩⟩
  | none =>
    have HF := Lib.hid hf
    rw [show foundV x.fs (kOf s) = .pointer none by unfold foundV; rw [hf]] at hl
    obtain ⟨D, hD, hM⟩ := h.mp
    have HD := Lib.hid hD
    have HM := Lib.hid hM
    have hT : Hid (x.mn < maxLen) := Lib.hid (by unfold maxLen; omega)
    have HB := Lib.hid h.blk
    clear h hf hs hn hm hD hM
    go_enter Try.func111, Try.ntmps111
    go_wp2_with (at_mapUpdate; refine wpList_mapUpdate_own _ rfl _ _ _ 118 rfl 9 139 keyed Try.underlying118 Rp x.mb x.mn D rfl (HD.out.alloc _) hT.out _ _ (.string (kOf s)) rfl rfl (keyS s HS.out) (.held (ptrV w.heap.size)) [] rfl ?_; intro w1 hown1 hgrow1; have hA := dk_added H.out HN.out HS.out HF.out HD.out HM.out hown1 hgrow1; have HA := Lib.hid hA; have c1 : w1.cell? ⟨x.db, 0, none⟩ = some (.map (some x.mb)) := (by rw [hA.1.blk.cell]; rfl); have hl1 := hA.1.look s HS.out; rw [show foundV _ (kOf s) = .pointer (some ⟨w.heap.size, 0, none⟩) by unfold foundV; simp only [putF_find, if_true]; rfl] at hl1; clear hA hown1 hgrow1)
    go_ret
    exact ⟨⟨s, w.heap.size, [], []⟩, _, rfl, HA.out.1, Nat.le_refl _, rfl, by unfold seenOf; rw [HF.out], by unfold keptOf; rw [HF.out], HA.out.2, .inr (Nat.le_refl _)⟩
end Go.Proofs.Ytegcbdfilkecpaa
/- The stand-in disk: step; no condition. -/
namespace Go.Proofs.Ytegcbdfilkecpaa
open Go.RowKit

theorem onb_cells {w : World} {b g : Nat} {cs cs' : Array Value} {t t' : TypeId} (hb : Blk w b t cs) (hg : w.heap[g]? = some (.cells cs' t' (0, 0))) (hne : t ≠ t') : ¬ OnB b g := by
  rintro rfl
  exact blk_ne hb hg hne rfl
/-- only the disk's own cells turn -/
theorem Dk.numbers {n0 : Nat} {w w' : World} {x : Dd} (h : Dk n0 w x) (k : Kp (OnB x.db) w w') (room steps crash : Int) (down : Bool) (starts : Int)
    (hb : Blk w' x.db 121 #[.map (some x.mb), x.pv, .int .i64 room, .int .i64 steps, .int .i64 crash, .bool down, .int .i64 starts])
    (r0 : 0 ≤ room ∧ room ≤ 9223372036854775807) (c0 : 0 ≤ crash ∧ crash ≤ 9223372036854775807) :
    Dk n0 w' { x with room := room, steps := steps, crash := crash, down := down, starts := starts } := by
  obtain ⟨D, hD, hM⟩ := h.mp
  have hmb : ¬ OnB x.db x.mb := by
    intro q
    obtain ⟨es, cl, hm, _⟩ := hD
    have := h.blk
    unfold Blk at this
    rw [← show x.mb = x.db from q, hm] at this
    cases this
  exact { h with
    blk := hb
    mp := ⟨D, k.map hD hmb, hM⟩
    fls := fun e he => (h.fls e he).keep k (by obtain ⟨u, v, hb', _⟩ := (h.fls e he).blk; exact onb_cells h.blk hb' (by decide)) (fun g cs hc => onb_cells h.blk hc (by decide))
    pend := own_keepB h.pend k (fun g hg => by obtain ⟨cs, hc⟩ := own_type h.pend hg; exact onb_cells h.blk hc (by decide))
    r0 := r0
    c0 := c0 }
theorem Kp.setAt {S : Nat → Prop} {a w : World} (h : Kp S a w) {g : Nat} (hS : S g) (o : Nat) (u : Value) : Kp S a (w.setCell ⟨g, o, none⟩ u) := h.setCell (.inr hS) u
def stepF (x : Dd) : Dd := { x with steps := wrp (x.steps + 1), crash := if 0 < x.crash then x.crash - 1 else x.crash, down := if x.crash = 1 then true else x.down }
def stepE (x : Dd) : Int := if x.crash = 1 then 7 else 0
set_option maxRecDepth 100000 in
set_option maxHeartbeats 1600000 in
theorem step_ok (w : World) (n0 : Nat) (x : Dd) (h : Dk n0 w x) :
    Calls Try.prog 130 #[ptrV x.db] w fun e w' => e = .returned (.int .i64 (stepE x)) ∧ Dk n0 w' (stepF x) ∧ Kp (OnB x.db) w w' := by
  have H := Lib.hid h
  have HB := Lib.hid h.blk
  have c3 : w.cell? ⟨x.db, 3, none⟩ = some (.int .i64 x.steps) := by rw [h.blk.cell]; rfl
  have c4 : w.cell? ⟨x.db, 4, none⟩ = some (.int .i64 x.crash) := by rw [h.blk.cell]; rfl
  have c5 : w.cell? ⟨x.db, 5, none⟩ = some (.bool x.down) := by rw [h.blk.cell]; rfl
  have f3 := h.blk.frozen 3
  have f4 := h.blk.frozen 4
  have f5 := h.blk.frozen 5
  have hw2 : 0 < x.crash → IntKind.i64.wrap (x.crash - 1) = x.crash - 1 := fun hp => by rw [IntKind.wrap_i64]; have := h.c0; omega
  have hC := h.c0
  have hw1 : IntKind.i64.wrap (x.steps + 1) = wrp (x.steps + 1) := rfl
  clear h
  unfold ptrV
  rcases (show x.crash = 0 ∨ x.crash = 1 ∨ 1 < x.crash by omega) with hc | hc | hc
  · have HC := Lib.hid hc
    rw [hc] at c4
    clear hw2 hC hc
    go_enter Try.func130, Try.ntmps130
    go_wp2_with fail
    go_ret
    have e1 : stepF x = { x with room := x.room, steps := wrp (x.steps + 1), crash := 0, down := x.down, starts := x.starts } := by unfold stepF; simp [HC.out]
    have kp : Kp (OnB x.db) w (w.setCell ⟨x.db, 3, none⟩ (.int .i64 (wrp (x.steps + 1)))) := (Kp.refl (OnB x.db) w).setAt (show OnB x.db x.db from rfl) _ _
    refine ⟨by unfold stepE; simp [HC.out], ?_, kp⟩
    rw [e1]
    refine H.out.numbers kp _ _ _ _ _ ?_ H.out.r0 (by omega)
    have hb := HB.out.set_ 3 (.int .i64 (wrp (x.steps + 1)))
    simpa [diskCells, HC.out] using hb
  · have HC := Lib.hid hc
    have hw3 : IntKind.i64.wrap ((1 : Int) - 1) = 0 := by rw [IntKind.wrap_i64]; rfl
    rw [hc] at c4
    clear hw2 hC hc
    go_enter Try.func130, Try.ntmps130
    go_wp2_with fail
    go_ret
    have e1 : stepF x = { x with room := x.room, steps := wrp (x.steps + 1), crash := 0, down := true, starts := x.starts } := by unfold stepF; simp [HC.out]
    have kp : Kp (OnB x.db) w (((w.setCell ⟨x.db, 3, none⟩ (.int .i64 (wrp (x.steps + 1)))).setCell ⟨x.db, 4, none⟩ (.int .i64 0)).setCell ⟨x.db, 5, none⟩ (.bool true)) := (((Kp.refl (OnB x.db) w).setAt (show OnB x.db x.db from rfl) _ _).setAt (show OnB x.db x.db from rfl) _ _).setAt (show OnB x.db x.db from rfl) _ _
    refine ⟨by unfold stepE; simp [HC.out], ?_, kp⟩
    rw [e1]
    refine H.out.numbers kp _ _ _ _ _ ?_ H.out.r0 (by omega)
    have hb := ((HB.out.set_ 3 (.int .i64 (wrp (x.steps + 1)))).set_ 4 (.int .i64 0)).set_ 5 (.bool true)
    simpa [diskCells] using hb
  · have HC := Lib.hid hc
    have HCC := Lib.hid hC
    have hw3 := hw2 (by omega)
    have hp : (0 : Int) < x.crash := by omega
    have hq : ¬ x.crash - 1 = 0 := by omega
    have hq2 : (x.crash - 1 == 0) = false := by simpa using hq
    clear hw2 hC hc
    go_enter Try.func130, Try.ntmps130
    go_wp2_with fail
    go_ret
    have hne : ¬ x.crash = 1 := by have := HC.out; omega
    have e1 : stepF x = { x with room := x.room, steps := wrp (x.steps + 1), crash := x.crash - 1, down := x.down, starts := x.starts } := by unfold stepF; simp [hne, hp]
    have kp : Kp (OnB x.db) w ((w.setCell ⟨x.db, 3, none⟩ (.int .i64 (wrp (x.steps + 1)))).setCell ⟨x.db, 4, none⟩ (.int .i64 (x.crash - 1))) := ((Kp.refl (OnB x.db) w).setAt (show OnB x.db x.db from rfl) _ _).setAt (show OnB x.db x.db from rfl) _ _
    refine ⟨by unfold stepE; simp [hne], ?_, kp⟩
    rw [e1]
    refine H.out.numbers kp _ _ _ _ _ ?_ H.out.r0 (by have := HCC.out; omega)
    have hb := ((HB.out.set_ 3 (.int .i64 (wrp (x.steps + 1)))).set_ 4 (.int .i64 (x.crash - 1)))
    simpa [diskCells] using hb
end Go.Proofs.Ytegcbdfilkecpaa
/- The stand-in disk: fits; condition: no negative number of bytes. -/
namespace Go.Proofs.Ytegcbdfilkecpaa
open Go.RowKit

theorem next_fact {n0 : Nat} {w w1 : World} {x : Dd} {D : DataW Value} (h : Dk n0 w x) (hM : MpD D x.fs) (kp : Kp NoB w w1) {s : ByteArray} {kl : Lit} {c : Option Addr} {y : DataW Value × List MemPlace}
    (hkey : keyOf Try.prog 9 (.string s) = some kl) (hv : Rp (.pointer c) = some y) (hat : ∀ zd, D.atKey kl zd = y.1) :
    ∃ e ∈ x.fs, kl = .string (kOf e.nm) ∧ c = some ⟨e.fb, 0, none⟩ ∧ ∃ A cap, w1.cell? ⟨e.fb, 0, none⟩ = some (.slice A e.seen.length cap) := by
  obtain ⟨p, ep, rfl⟩ := Rp_inv hv
  cases ep
  have hk : kl = .string (kOf s) := by
    by_cases hs : s.size ≤ maxLen
    · rw [keyS s hs] at hkey
      exact (Option.some.inj hkey).symm
    · have hu := Try.underlying9
      simp [keyOf, mapKey, hu] at hkey
      obtain ⟨_, rfl⟩ := hkey
      rfl
  subst hk
  cases hf : findF x.fs (kOf s) with
  | none =>
    have h1 := hat (.lit (.bool true))
    have h2 := hat (.lit (.bool false))
    rw [hM.at_, hf] at h1 h2
    rw [← h2] at h1
    simp at h1
  | some e =>
    obtain ⟨he, hk⟩ := findF_some hf
    have h1 := hat .nil
    rw [hM.at_, hf] at h1
    simp only [ptrV, DataW.held.injEq, Value.pointer.injEq] at h1
    obtain ⟨u, v, hb, hu, _⟩ := (h.fls e he).blk
    obtain ⟨A, cap, rfl⟩ := hu.form
    refine ⟨e, he, by rw [hk], h1.symm, A, cap, ?_⟩
    rw [kp.cell hb.lt (fun q => q), hb.cell]
    rfl
theorem keyS_inv {key : Value} {kl : Lit} (h : keyOf Try.prog 9 key = some kl) : ∃ s, key = .string s := by
  have hk := Try.underlying9
  cases key <;> simp [keyOf, hk, mapKey] at h
  exact ⟨_, rfl⟩
theorem seen_le {n0 : Nat} {w : World} {x : Dd} (h : Dk n0 w x) (s : ByteArray) : (seenOf x.fs s).length ≤ 1048576 := by
  unfold seenOf
  split
  · rename_i e hf
    exact (h.fls e (findF_some hf).1).ls
  · simp
set_option maxRecDepth 100000 in
set_option maxHeartbeats 1600000 in
theorem fits_ok (w : World) (n0 : Nat) (x : Dd) (p : Pl) (s : ByteArray) (n : Int) (hs : s.size ≤ maxLen) (hn : 0 ≤ n ∧ n ≤ 9223372036854775807) (h : Dk n0 w x) (hp : Of x p) :
    Calls Try.prog 131 #[ptrV x.db, .string s, .int .i64 n] w fun e w' => e = .returned (.int .i64 (p.fits s n)) ∧ Kp NoB w w' := by
  have H := Lib.hid h
  have HP := Lib.hid hp
  have HS := Lib.hid hs
  obtain ⟨D, hD, hM⟩ := h.mp
  have HD := Lib.hid hD
  have HM := Lib.hid hM
  have HB := Lib.hid h.blk
  have c0 : w.cell? ⟨x.db, 0, none⟩ = some (.map (some x.mb)) := by rw [h.blk.cell]; rfl
  obtain ⟨was, hwas⟩ : ∃ m, (seenOf x.fs s).length = m := ⟨_, rfl⟩
  have hwl := seen_le h s
  rw [hwas] at hwl
  have HW := Lib.hid hwas
  obtain ⟨db, hdb⟩ : ∃ db, x.db = db := ⟨_, rfl⟩
  have HX := Lib.hid hdb
  rw [hdb] at c0 ⊢
  have hw1 : IntKind.i64.wrap (n - (was : Int)) = n - was := by rw [IntKind.wrap_i64]; omega
  have HN := Lib.hid hn
  have HWL := Lib.hid hwl
  have HR := Lib.hid h.r0
  clear h hs hD hM hwas hdb hwl hp
  unfold ptrV
  go_enter Try.func131, Try.ntmps131
  go_wp2_with (first
    | (go_at_call 81; go_must (refine (show Calls _ _ #[ptrV db, .string s] _ _ by rw [← HX.out]; exact bytes_ok _ _ _ _ HS.out H.out).mono ?_); rintro e w2 ⟨A, cap, rfl, _, rfl⟩; rw [HW.out])
    | (at_range; refine wpList_range_own _ rfl _ 118 rfl 9 139 keyed Try.underlying118 Rp x.mb x.mn D rfl HD.out ?_; intro w0 hrg0 hg0 hs0))
  go_frame
  have HR0 := Lib.hid (show (∀ e ∈ x.fs, Maps.has D (.string (kOf e.nm)) = true) from fun e he => by rw [HM.out.has, H.out.names.find he]; rfl)
  have hsm0 : n - (was : Int) = wrp (n - was) := hw1.symm
  go_loopw [8, 10] (fun sum _ wr => ∃ (left : Lit → Bool) (cnt : Nat), wr.ranges Try.prog 9 Rp x.mb w2.heap.size x.mn D left cnt ∧ sum = .int .i64 (wrp (n - was + (restSum (fun k => left (.string k)) x.fs : Nat))) ∧ Kp NoB w2 wr) (fun _ _ wr => wr.rangeLeft x.mb w2.heap.size)
  case atStart => exact ⟨Maps.has D, Maps.size D, hrg0, by rw [restSum_none (fun e he => HR0.out e he)]; simp only [Int.natCast_zero, Int.add_zero]; rw [← hsm0], (Kp.refl NoB w2).grown hg0 (by simp)⟩
  case round =>
    obtain ⟨left, cnt, hrg, rfl, hkp⟩ := hrel
    have HRG := Lib.hid hrg
    have HK := Lib.hid hkp
    obtain ⟨sm, hsm⟩ : ∃ m, wrp (n - (was : Int) + (restSum (fun k => left (.string k)) x.fs : Nat)) = m := ⟨_, rfl⟩
    rw [hsm]
    have HSM := Lib.hid hsm
    clear hkp hrg0 hg0 hs0 hsm hsm0 hw1
    go_wp2_with (at_next; refine wpList_next_ranges _ rfl _ rfl 9 keyed Rp Value.string Value.pointer (fun key kl hk => keyS_inv hk) (fun v y hv => by obtain ⟨p, rfl, _⟩ := Rp_inv hv; exact ⟨p, rfl⟩) x.mb w2.heap.size x.mn D left cnt rfl hrg ?_ ?_)
    · intro _ hl0
      have e1 : sm = wrp (n - (was : Int) + (allSum x.fs : Nat)) := by rw [← HSM.out, restSum_all (fun e _ => hl0 _)]
      have c2 : wr.cell? ⟨db, 2, none⟩ = some (.int .i64 x.room) := by rw [← HX.out, HK.out.cell HB.out.lt (fun q => q), HB.out.cell]; rfl
      have HF : Hid (p.fits s n = if 1048576 < n then 3 else if (was : Int) < n ∧ x.room < sm then 5 else 0) := Lib.hid (by unfold Pl.fits; rw [HP.out.seen, HP.out.sum, HP.out.room, HW.out, e1])
      clear hl0 e1 hrg
      by_cases h0 : (1048576 : Int) < n
      · go_wp2_with fail
        go_ret
        exact ⟨by rw [HF.out, if_pos h0]; rfl, HK.out⟩
      · by_cases h1 : (was : Int) < n
        · by_cases h2 : x.room < sm
          · go_wp2_with fail
            go_ret
            exact ⟨by rw [HF.out, if_neg (by omega), if_pos ⟨h1, h2⟩]; rfl, HK.out⟩
          · go_wp2_with fail
            go_ret
            exact ⟨by rw [HF.out, if_neg (by omega), if_neg (fun q => by omega)]; rfl, HK.out⟩
        · go_wp2_with fail
          go_ret
          exact ⟨by rw [HF.out, if_neg (by omega), if_neg (fun q => by omega)]; rfl, HK.out⟩
    · intro x1 c kl a b w3 cnt3 hkey hlk hv hat hrg3 hlt hg3 hs3 hen
      have hk3 := HK.out.grown hg3 (fun k hk => .inl (by injection hk with hk; omega))
      obtain ⟨e, he, rfl, rfl, B, cp, ce⟩ := next_fact H.out HM.out hk3 hkey hv hat
      have HE := Lib.hid he
      have HLK := Lib.hid hlk
      have HK3 := Lib.hid hk3
      have HR3 := Lib.hid hrg3
      have HLT := Lib.hid hlt
      have hst := restSum_step H.out.names (left := fun k => left (.string k)) he hlk
      have hww : IntKind.i64.wrap (sm + (e.seen.length : Int)) = wrp (sm + e.seen.length) := rfl
      have HST : Hid (wrp (sm + (e.seen.length : Int)) = wrp (n - (was : Int) + (restSum (fun z => left (.string z) && !(z == kOf e.nm)) x.fs : Nat))) := Lib.hid (by rw [← HSM.out, hst, wrp_add]; congr 1; omega)
      clear he hlk hk3 hrg3 hlt hst hkey hv hat hrg hg3 hs3
      go_wp2_with fail
      exact ⟨⟨_, cnt3, HR3.out, by rw [HST.out]; rfl, HK3.out⟩, by rw [HR3.out.left_eq, HRG.out.left_eq]; exact HLT.out⟩
end Go.Proofs.Ytegcbdfilkecpaa
/- slices.Clone of bytes; condition: fewer than 2^40. -/
namespace Go.Proofs.Ytegcbdfilkecpaa
open Go.RowKit

theorem infoU8' : (Try.prog.info? 5).map (fun i => (i.zero, i.size, i.bytes)) = some (some (.int .u8 0), 1, 1) := by kernel_rfl
theorem sliceEqN (w : World) : (binOp .eql 42 (.slice none 0 0) (.slice none 0 0)).run Try.prog w = .ok (.bool true) w := by kernel_rfl
theorem sliceEqS (a : Addr) (m c : Nat) (w : World) : (binOp .eql 42 (.slice (some a) m c) (.slice none 0 0)).run Try.prog w = .ok (.bool false) w := by kernel_rfl
def ClonePost (w : World) (l : List Int) (e : Ending) (w' : World) : Prop := ∃ A cap, e = .returned (.slice A l.length cap) ∧ Bq w' w.heap.size (.slice A l.length cap) l ∧ Kp NoB w w'
theorem bq_src {w : World} {n0 : Nat} {A : Option Addr} {m cap : Nat} {l : List Int} (h : Bq w n0 (.slice A m cap) l) (hm : m = l.length) : 0 < l.length → ∃ g o, A = some ⟨g, o, none⟩ ∧ ∀ j u, (l.map (Value.int .u8))[j]? = some u → w.cell? ⟨g, o + j, none⟩ = some u := by
  intro hp
  subst hm
  obtain ⟨g, ds, e, _, hb⟩ := own_blk1 h.own hp
  refine ⟨g, 0, e, fun j u hj => ?_⟩
  rw [hb.cell, Nat.zero_add, List.getElem?_toArray]
  have := (List.getElem?_eq_some_iff.1 hj).1
  rw [List.getElem?_append_left this]
  exact hj
theorem u8_one (l : List Int) : ∀ u ∈ l.map (Value.int .u8), u.oneCell' = true := by
  intro u hu
  obtain ⟨x, _, rfl⟩ := List.mem_map.1 hu
  rfl
set_option maxRecDepth 100000 in
set_option maxHeartbeats 1600000 in
theorem clone_ok (w : World) (n0 : Nat) (A : Option Addr) (m cap : Nat) (l : List Int) (hm : m = l.length) (hl : l.length ≤ 1099511627776) (h : Bq w n0 (.slice A m cap) l) :
    Calls Try.prog 133 #[.slice A m cap] w (ClonePost w l) := by
  obtain ⟨j0, hj0, hy0, hy1, hy2⟩ := info_parts infoU8'
  have HJ0 := Lib.hid hj0
  have HY0 := Lib.hid hy0
  have HY1 := Lib.hid hy1
  have HY2 := Lib.hid hy2
  have H := Lib.hid h
  have HL := Lib.hid hl
  have HM := Lib.hid hm
  have qn := sliceEqN
  have qs := sliceEqS
  rcases A with _ | ⟨g, o, sp⟩
  · have hf := own_form (by rw [hm] at h; exact h.own)
    obtain ⟨_, h0, h1⟩ : (none : Option Addr) = none ∧ l.length = 0 ∧ cap = 0 := by
      rcases hf with q | ⟨g, q⟩
      · exact q
      · cases q
    obtain rfl : l = [] := List.eq_nil_of_length_eq_zero h0
    simp only [List.length_nil] at hm
    subst hm h1
    clear h hl hj0 hy0 hy1 hy2 hf h0
    go_enter Try.func133, Try.ntmps133
    go_wp2_with fail
    go_ret
    exact ⟨none, 0, rfl, Bq.none _ _, Kp.refl _ _⟩
  · have HOWN : Hid ((w.alloc (.cells #[] 5)).ownsRow w.heap.size 5 1 (.slice (some ⟨w.heap.size, 0, none⟩) 0 0) 0 []) := Lib.hid ⟨rfl, .inr ⟨w.heap.size, 0, #[], rfl, Nat.le_refl _, heap_alloc_new _ _, Nat.le_refl _, by simp, rfl, rfl⟩⟩
    clear h hl hj0 hy0 hy1 hy2 hm
    go_enter Try.func133, Try.ntmps133
    go_wp2_with (at_builtin; refine wpList_append_src rfl _ _ 42 rfl w.heap.size 5 j0 _ 1 Try.underlying42 HJ0.out HY0.out HY1.out HY2.out rfl _ 0 [] rfl HOWN.out (some ⟨g, o, sp⟩) m cap (l.map (Value.int .u8)) rfl (by simp) (by rw [List.length_map, HM.out]) (by have hq := bq_src (w := w.alloc (.cells #[] 5)) (n0 := n0) (A := some ⟨g, o, sp⟩) (m := m) (cap := cap) (l := l) (H.out.keep ((Kp.refl NoB w).alloc _) (fun _ _ _ q => q)) HM.out; rw [HM.out]; exact hq) (u8_one l) (by have := HL.out; have := HM.out; unfold maxLen; omega) (by have := HL.out; have := HM.out; omega) (by simp) ?_; intro v1 w1 hown1 hgrow1; rw [Nat.zero_add, List.nil_append] at hown1; obtain ⟨B, c, rfl⟩ := own_slice hown1; have HO1 := Lib.hid hown1; have HK1 := Lib.hid (((Kp.refl NoB w).alloc _).own (v := .slice (some ⟨w.heap.size, 0, none⟩) 0 0) hgrow1 rfl HOWN.out); clear hown1 hgrow1)
    go_ret
    exact ⟨B, c, by rw [← HM.out]; rfl, ⟨by rw [← HM.out]; exact HO1.out, H.out.rng⟩, HK1.out⟩
end Go.Proofs.Ytegcbdfilkecpaa
