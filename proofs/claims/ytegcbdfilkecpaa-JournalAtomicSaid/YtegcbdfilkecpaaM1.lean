/- Texts of this proof, one behind the other: lemmas and contracts; each says its own conditions. -/
import Derived.Maps.RangeWalk
import Derived.Maps.Views
import Derived.Deep.RegionWith
import Derived.Deep.Cut
import Derived.Deep.CutRange
import Derived.Deep.DeepCutAuto
import Derived.Deep.LoopGhost
import Derived.Deep.RegionHeld3
import Derived.Deep.RegionLaw
import Derived.Deep.DeepFit
import Derived.Deep.DeepMust
import Derived.StillTailTactics
import Derived.Maps.AppendAt
import Derived.Deep.AppendLies
import Derived.WalkKit
import Derived.Deep.MidRow
import Derived.Deep.WholeRow
import Derived.Laws.ResultCell
import Derived.WalkLawsBesides
import Derived.WalkSpells
import Derived.Deep.QuietTactic
import Derived.BigQuiet
import Derived.Lib.Hide
import Derived.Laws.Rows
import Derived.Below
import Derived.Laws.OwnMore
import Derived.Deep.Draws
import Derived.Test.YtegcbdfilkecpaaProg
import Derived.Lib.LazyBuf
/- The stand-in disk's files in plain Lean: a list of entries, no name twice; no condition. -/
namespace Go.Proofs.Ytegcbdfilkecpaa
open Go

/-- a file: its name, its block, what is seen of it, what is kept -/
structure Fe where
  nm : ByteArray
  fb : Nat
  seen : List Int
  kept : List Int
def kOf (s : ByteArray) : List UInt8 := s.data.toList
theorem kOf_inj {s s' : ByteArray} (h : kOf s = kOf s') : s = s' := by
  cases s; cases s'; simp [kOf] at h; simp [h]
def findF (fs : List Fe) (k : List UInt8) : Option Fe := fs.find? fun e => kOf e.nm == k
theorem findF_some {fs : List Fe} {k : List UInt8} {e : Fe} (h : findF fs k = some e) : e ∈ fs ∧ kOf e.nm = k := by
  unfold findF at h
  exact ⟨List.mem_of_find?_eq_some h, by simpa using List.find?_some h⟩
theorem findF_none {fs : List Fe} {k : List UInt8} (h : findF fs k = none) : ∀ e ∈ fs, kOf e.nm ≠ k := by
  unfold findF at h
  intro e he
  simpa using List.find?_eq_none.1 h e he
def Names (fs : List Fe) : Prop := fs.Pairwise fun x y => kOf x.nm ≠ kOf y.nm
theorem Names.find {fs : List Fe} (h : Names fs) {e : Fe} (he : e ∈ fs) : findF fs (kOf e.nm) = some e := by
  unfold findF
  induction fs with
  | nil => simp at he
  | cons x fs ih =>
    obtain ⟨h1, h2⟩ := List.pairwise_cons.1 h
    rcases List.mem_cons.1 he with rfl | he'
    · simp
    · have := h1 e he'
      rw [List.find?_cons_of_neg (by simpa using this)]
      exact ih h2 he'
/-- the entry at e's name is e now; behind all where there was none -/
def putF (fs : List Fe) (e : Fe) : List Fe := match fs with
  | [] => [e]
  | x :: r => if kOf x.nm = kOf e.nm then e :: r else x :: putF r e
theorem putF_find (fs : List Fe) (e : Fe) (k : List UInt8) : findF (putF fs e) k = if kOf e.nm = k then some e else findF fs k := by
  induction fs with
  | nil =>
    unfold putF findF
    by_cases h : kOf e.nm = k <;> simp [h]
  | cons x r ih =>
    unfold putF
    by_cases h : kOf x.nm = kOf e.nm
    · rw [if_pos h]
      unfold findF
      by_cases hk : kOf e.nm = k
      · simp [hk]
      · simp [hk, h]
    · rw [if_neg h]
      unfold findF at ih ⊢
      by_cases hk : kOf x.nm = k
      · have : kOf e.nm ≠ k := fun q => h (hk.trans q.symm)
        simp [hk, this]
      · simp only [List.find?_cons, show (kOf x.nm == k) = false by simpa using hk]
        exact ih
theorem putF_mem {fs : List Fe} {e x : Fe} (h : x ∈ putF fs e) : x = e ∨ (x ∈ fs ∧ (Names fs → kOf x.nm ≠ kOf e.nm)) := by
  induction fs with
  | nil => simp [putF] at h; exact .inl h
  | cons y r ih =>
    unfold putF at h
    split at h
    · rename_i hy
      rcases List.mem_cons.1 h with rfl | hx
      · exact .inl rfl
      · refine .inr ⟨List.mem_cons_of_mem _ hx, fun hn => ?_⟩
        have := (List.pairwise_cons.1 hn).1 x hx
        rw [hy] at this
        exact fun q => this q.symm
    · rename_i hy
      rcases List.mem_cons.1 h with rfl | hx
      · exact .inr ⟨List.mem_cons_self .., fun _ => hy⟩
      · rcases ih hx with rfl | ⟨hm, hn⟩
        · exact .inl rfl
        · exact .inr ⟨List.mem_cons_of_mem _ hm, fun q => hn (List.pairwise_cons.1 q).2⟩
theorem putF_names {fs : List Fe} (h : Names fs) (e : Fe) : Names (putF fs e) := by
  induction fs with
  | nil => simp [putF, Names]
  | cons y r ih =>
    obtain ⟨h1, h2⟩ := List.pairwise_cons.1 h
    unfold putF
    split
    · rename_i hy
      exact List.pairwise_cons.2 ⟨fun x hx => by rw [← hy]; exact h1 x hx, h2⟩
    · rename_i hy
      refine List.pairwise_cons.2 ⟨fun x hx => ?_, ih h2⟩
      rcases putF_mem hx with rfl | ⟨hm, _⟩
      · exact hy
      · exact h1 x hm
theorem putF_len (fs : List Fe) (e : Fe) : (putF fs e).length ≤ fs.length + 1 ∧ fs.length ≤ (putF fs e).length := by
  induction fs with
  | nil => simp [putF]
  | cons y r ih =>
    unfold putF
    split
    · simp
    · simp; omega
theorem putF_len_old {fs : List Fe} {e x : Fe} (h : findF fs (kOf e.nm) = some x) : (putF fs e).length = fs.length := by
  induction fs with
  | nil => simp [findF] at h
  | cons y r ih =>
    unfold putF
    split
    · simp
    · rename_i hy
      have : findF r (kOf e.nm) = some x := by
        unfold findF at h ⊢
        rwa [List.find?_cons_of_neg (by simpa using hy)] at h
      simp [ih this]
/-- how many bytes the files have that were met -/
def restSum (left : List UInt8 → Bool) : List Fe → Nat
  | [] => 0
  | e :: r => (if left (kOf e.nm) then 0 else e.seen.length) + restSum left r
theorem restSum_same {l l' : List UInt8 → Bool} {fs : List Fe} (h : ∀ e ∈ fs, l (kOf e.nm) = l' (kOf e.nm)) : restSum l fs = restSum l' fs := by
  induction fs with
  | nil => rfl
  | cons x r ih =>
    simp only [restSum]
    rw [h x (List.mem_cons_self ..), ih fun e he => h e (List.mem_cons_of_mem _ he)]
theorem restSum_step {fs : List Fe} (hn : Names fs) {left : List UInt8 → Bool} {e : Fe} (he : e ∈ fs) (hl : left (kOf e.nm) = true) :
    restSum (fun z => left z && !(z == kOf e.nm)) fs = restSum left fs + e.seen.length := by
  induction fs with
  | nil => simp at he
  | cons x r ih =>
    obtain ⟨h1, h2⟩ := List.pairwise_cons.1 hn
    simp only [restSum]
    rcases List.mem_cons.1 he with rfl | he'
    · rw [restSum_same (l' := left) (fun y hy => by
        have := h1 y hy
        have e : (kOf y.nm == kOf e.nm) = false := by simpa using fun q => this q.symm
        simp [e])]
      simp [hl]; omega
    · rw [ih h2 he']
      have := h1 e he'
      have e2 : (kOf x.nm == kOf e.nm) = false := by simpa using this
      simp [e2]; omega
theorem restSum_none {left : List UInt8 → Bool} {fs : List Fe} (h : ∀ e ∈ fs, left (kOf e.nm) = true) : restSum left fs = 0 := by
  induction fs with
  | nil => rfl
  | cons x r ih =>
    simp only [restSum]
    rw [h x (List.mem_cons_self ..), ih fun e he => h e (List.mem_cons_of_mem _ he)]
    simp
def allSum (fs : List Fe) : Nat := (fs.map (·.seen.length)).sum
theorem restSum_all {left : List UInt8 → Bool} {fs : List Fe} (h : ∀ e ∈ fs, left (kOf e.nm) = false) : restSum left fs = allSum fs := by
  induction fs with
  | nil => rfl
  | cons x r ih =>
    simp only [restSum]
    rw [h x (List.mem_cons_self ..), ih fun e he => h e (List.mem_cons_of_mem _ he)]
    simp [allSum]
theorem restSum_le (left : List UInt8 → Bool) (fs : List Fe) (m : Nat) (h : ∀ e ∈ fs, e.seen.length ≤ m) : restSum left fs ≤ fs.length * m := by
  induction fs with
  | nil => simp [restSum]
  | cons x r ih =>
    simp only [restSum, List.length_cons, Nat.add_mul, Nat.one_mul]
    have h1 := h x (List.mem_cons_self ..)
    have h2 := ih fun e he => h e (List.mem_cons_of_mem _ he)
    split <;> omega

/-! ### the map in memory: each name leads to the file's block -/
def ptrV (b : Nat) : Value := .pointer (some ⟨b, 0, none⟩)
def Rp : Value → Option (DataW Value × List MemPlace)
  | .pointer p => some (.held (.pointer p), [])
  | _ => none
theorem Rp_inv {v : Value} {y : DataW Value × List MemPlace} (h : Rp v = some y) : ∃ p, v = .pointer p ∧ y = (.held (.pointer p), []) := by
  cases v <;> simp [Rp] at h
  exact ⟨_, rfl, h.symm⟩
def foundV (fs : List Fe) (k : List UInt8) : Value := match findF fs k with | some e => ptrV e.fb | none => .pointer none
structure MpD (D : DataW Value) (fs : List Fe) : Prop where
  at_ : ∀ k z, D.atKey (.string k) z = match findF fs k with | some e => .held (ptrV e.fb) | none => z
theorem MpD.nil : MpD (.map []) [] := ⟨fun k z => by simp [findF, DataW.atKey]⟩
theorem MpD.has {D : DataW Value} {fs : List Fe} (h : MpD D fs) (k : List UInt8) : Maps.has D (.string k) = (findF fs k).isSome := by
  cases hf : findF fs k with
  | none => exact Maps.has_false_of_atKey fun z => by rw [h.at_, hf]
  | some e => exact Maps.has_true_of_atKey (y := .held (ptrV e.fb)) fun z => by rw [h.at_, hf]
theorem MpD.put {D : DataW Value} {fs : List Fe} (h : MpD D fs) (hm : Maps.IsMap D) (e : Fe) (hw : WideAt.IsKeyLit (.string (kOf e.nm))) : MpD (D.put (.string (kOf e.nm)) (.held (ptrV e.fb))) (putF fs e) :=
  ⟨fun k z => by
    rw [putF_find]
    by_cases hk : kOf e.nm = k
    · subst hk
      rw [if_pos rfl, Maps.atKey_put_same hm hw]
    · rw [if_neg hk, Maps.atKey_put_other (fun q => hk (by injection q with q; exact q.symm)), h.at_]⟩
/-- another reading of the same files: only what is seen or kept has turned -/
theorem MpD.same {D : DataW Value} {fs fs' : List Fe} (h : MpD D fs) (hs : ∀ k, (findF fs' k).map (·.fb) = (findF fs k).map (·.fb)) : MpD D fs' :=
  ⟨fun k z => by
    have := hs k
    rw [h.at_]
    cases h1 : findF fs k <;> cases h2 : findF fs' k <;> rw [h1, h2] at this <;> simp at this
    simp [this]⟩
end Go.Proofs.Ytegcbdfilkecpaa
/- Lemmas on memory that the proofs of these statements use; no condition. -/
namespace Go.Proofs.Ytegcbdfilkecpaa
open Go.RowKit

/-- the address of cell k behind an address in a plain block -/
theorem add_mk (g o n : Nat) : (⟨g, o, none⟩ : Addr).add n = ⟨g, o + n, none⟩ := by
  unfold Addr.add; split <;> simp_all

section
variable {P : Program}

/-- cells off .. off+n of a block are the list xs -/
def Sub (w : World) (g off : Nat) (xs : List Value) : Prop := ∀ j v, xs[j]? = some v → w.cell? ⟨g, off + j, none⟩ = some v

theorem run_loadVar_sub (w : World) (g off : Nat) (ty : TypeId) (xs : List Value) (d : TypeDesc) (hs : Sub w g off xs)
    (hu : P.underlying ty = some d) (hd : (match d with | .struct _ | .array _ _ => true | _ => false) = true) (hi : (P.info? ty).map (·.size) = some xs.length) :
    (loadVar ty ⟨g, off, none⟩).run P w = .ok (.agg xs.toArray) w := by
  have hl : (loadCells ⟨g, off, none⟩ xs.length).run P w = .ok xs.toArray w :=
    run_loadCells_list (P := P) w ⟨g, off, none⟩ xs (fun j v hv => by
      rw [add_mk]; exact hs j v hv)
  cases hq : P.info? ty with
  | none => simp [hq] at hi
  | some i =>
    have hs : i.size = xs.length := by simpa [hq] using hi
    have hagg : (isAgg ty).run P w = .ok true w := by
      unfold isAgg
      rw [Sem.run_bind, run_underlying hu w]
      cases d <;> simp_all
    simp [loadVar, Sem.run_bind, hagg, sizeOf, typeInfo, hq, hs, hl]

theorem wp_load_sub {o : Oper} {a : Act} {w : World} {K : Act → World → Prop} {Q : Exit → Act → World → Prop} (ty : TypeId) (x : Operand) (ho : o.op = .load ty x)
    (g off : Nat) (hx : a.eval x = .pointer (some ⟨g, off, none⟩)) (xs : List Value) (d : TypeDesc) (hg : Sub w g off xs)
    (hu : P.underlying ty = some d) (hd : (match d with | .struct _ | .array _ _ => true | _ => false) = true) (hi : (P.info? ty).map (·.size) = some xs.length)
    (h : K (a.put o.dst (.agg xs.toArray)) w) : o.wp P a w K Q := by
  unfold Oper.wp execOp
  simp only [ho, hx, Instr.loadAt, Instr.sureAddr, Sem.run_bind, Sem.run_pure, Result.andThen_ok, run_loadVar_sub w g off ty xs d hg hu hd hi]
  exact h

theorem wpList_load_sub {ops : Array Oper} {rest : List Oper} {o : Oper} {a : Act} {w : World} {Q : Exit → Act → World → Prop} (hgd : o.guard = none) (ty : TypeId) (x : Operand) (ho : o.op = .load ty x)
    (g off : Nat) (hx : a.eval x = .pointer (some ⟨g, off, none⟩)) (xs : List Value) (d : TypeDesc) (hg : Sub w g off xs)
    (hu : P.underlying ty = some d) (hd : (match d with | .struct _ | .array _ _ => true | _ => false) = true) (hi : (P.info? ty).map (·.size) = some xs.length)
    (h : wpList P ops Q rest (a.put o.dst (.agg xs.toArray)) w) : wpList P ops Q (o :: rest) a w :=
  wpList_plain hgd fun _ hK => wp_load_sub ty x ho g off hx xs d hg hu hd hi (hK _ _ h)

/-- an array value indexed, elements of one cell -/
theorem run_index_arr (w : World) (T e n : Nat) (d : TypeDesc) (i : TypeInfo) (hT : P.underlying T = some (.array n e)) (he : P.underlying e = some d) (hd : (match d with | .struct _ | .array _ _ => true | _ => false) = false)
   (hi : P.info? e = some i) (h1 : i.size = 1) (xs : List Value) (k : Nat) (hk : k < n) (v : Value) (hv : xs[k]? = some v) :
   (Instr.index T (.agg xs.toArray) (.int .i64 k)).run P w = .ok v w := by
  have hagg : (isAgg e).run P w = .ok false w := by
      unfold isAgg
      rw [Sem.run_bind, run_underlying he w]
      cases d <;> simp_all
  simp [Instr.index, asIntOf, run_underlying hT, hk, part, hagg, Sem.run_bind, sizeOf, typeInfo, hi, h1, hv]
end

/-- w' is w but for new blocks and the old blocks in S -/
structure Kp (S : Nat → Prop) (w w' : World) : Prop where
  os : w'.os = w.os
  tape : w'.tape = w.tape
  output : w'.output = w.output
  size : w.heap.size ≤ w'.heap.size
  block : ∀ k, k < w.heap.size → ¬ S k → w'.heap[k]? = w.heap[k]?

/-- no old block -/
def NoB : Nat → Prop := fun _ => False
/-- one old block -/
def OnB (b : Nat) : Nat → Prop := fun k => k = b

theorem Kp.refl (S : Nat → Prop) (w : World) : Kp S w w := ⟨rfl, rfl, rfl, Nat.le_refl _, fun _ _ _ => rfl⟩
theorem Kp.trans {S S' : Nat → Prop} {a b c : World} (h : Kp S a b) (k : Kp S' b c) (hS : ∀ i, i < a.heap.size → S' i → S i) : Kp S a c :=
  ⟨k.os.trans h.os, k.tape.trans h.tape, k.output.trans h.output, Nat.le_trans h.size k.size, fun i hi hn => (k.block i (Nat.lt_of_lt_of_le hi h.size) (fun q => hn (hS i hi q))).trans (h.block i hi hn)⟩
theorem Kp.mono {S S' : Nat → Prop} {a b : World} (h : Kp S a b) (hS : ∀ i, i < a.heap.size → S i → S' i) : Kp S' a b :=
  ⟨h.os, h.tape, h.output, h.size, fun i hi hn => h.block i hi (fun q => hn (hS i hi q))⟩
theorem Kp.drew {S : Nat → Prop} {a w : World} (h : Kp S a w) : Kp S a w.drew := ⟨h.os, h.tape, h.output, h.size, h.block⟩
theorem Kp.drewN {S : Nat → Prop} {a w : World} (h : Kp S a w) (n : Nat) : Kp S a (w.drewN n) := ⟨h.os, h.tape, h.output, h.size, h.block⟩
theorem Kp.alloc {S : Nat → Prop} {a w : World} (h : Kp S a w) (o : Obj) : Kp S a (w.alloc o) :=
  ⟨h.os, h.tape, h.output, by have := h.size; simp; omega, fun i hi hn => (Below.heap_alloc w o i (Nat.lt_of_lt_of_le hi h.size)).trans (h.block i hi hn)⟩
theorem Kp.setCell {S : Nat → Prop} {a w : World} (h : Kp S a w) {p : Addr} (hp : a.heap.size ≤ p.block ∨ S p.block) (u : Value) : Kp S a (w.setCell p u) :=
  ⟨h.os, h.tape, h.output, by have := h.size; simpa [World.setCell] using this, fun i hi hn =>
    (Below.heap_setCell w p u i (fun e => by subst e; rcases hp with hp | hp; · omega
                                             · exact hn hp)).trans (h.block i hi hn)⟩
theorem Kp.of_below {S : Nat → Prop} {w w' : World} {B : Nat} (h : Below B w w') (hS : ∀ i, i < w.heap.size → B ≤ i → S i) : Kp S w w' :=
  ⟨h.os, h.tape, h.output, h.size, fun i hi hn => h.block i (Nat.lt_of_not_le (fun hge => hn (hS i hi hge)))⟩
theorem Kp.grown {S : Nat → Prop} {a w w' : World} {row : Option Nat} (h : Kp S a w) (hg : w.grownBy w' row) (hr : ∀ k, row = some k → a.heap.size ≤ k ∨ S k) : Kp S a w' :=
  h.trans (S' := fun k => row = some k) ⟨hg.os, hg.tape, hg.output, hg.size, fun i hi hn => hg.block i hi (fun e => hn e.symm)⟩ (fun i hi e => by
    rcases hr i e with q | q
    · omega
    · exact q)
theorem Kp.below {S : Nat → Prop} {w w' : World} (h : Kp S w w') {B : Nat} (hB : B ≤ w.heap.size) (hS : ∀ k, k < B → ¬ S k) : Below B w w' :=
  ⟨h.os, h.tape, h.output, h.size, fun k hk => h.block k (by omega) (hS k hk)⟩
theorem Kp.none_below {w w' : World} (h : Kp NoB w w') : Below w.heap.size w w' := h.below (Nat.le_refl _) (fun _ _ q => q)
theorem Kp.cell {S : Nat → Prop} {w w' : World} (h : Kp S w w') {g o : Nat} (hg : g < w.heap.size) (hn : ¬ S g) : w'.cell? ⟨g, o, none⟩ = w.cell? ⟨g, o, none⟩ :=
  World.cell?_of_block (w := w) (h.block g hg hn)
theorem Kp.lift {S : Nat → Prop} {w w' : World} (h : Kp S w w') {g : Nat} {o : Obj} (hg : w.heap[g]? = some o) (hn : ¬ S g) : w'.heap[g]? = some o :=
  (h.block g (by rcases Nat.lt_or_ge g w.heap.size with q | q
                 · exact q
                 · rw [Array.getElem?_eq_none q] at hg; cases hg) hn).trans hg
theorem lt_of_heap {w : World} {g : Nat} {o : Obj} (hg : w.heap[g]? = some o) : g < w.heap.size := by
  rcases Nat.lt_or_ge g w.heap.size with q | q
  · exact q
  · rw [Array.getElem?_eq_none q] at hg; cases hg
theorem heap_drew' (w : World) (g : Nat) : (w.drew).heap[g]? = w.heap[g]? := rfl

/-- results: an int, a bool -/
theorem ret_int {k : IntKind} {a b : Int} (h : a = b) : Ending.returned (.int k a) = .returned (.int k b) := by rw [h]
theorem ret_bool {a b : Bool} (h : a = b) : Ending.returned (.bool a) = .returned (.bool b) := by rw [h]
theorem own_ge {w : World} {base : Nat} {e : TypeId} {size n : Nat} {v : Value} {xs : List Value} (h : w.ownsRow base e size v n xs) : ∀ k, v.ownBlock = some k → base ≤ k := by
  intro k hk
  rcases h.2 with ⟨rfl, _⟩ | ⟨g, cap, cur, rfl, hb, _⟩
  · simp [Value.ownBlock] at hk
  · simp [Value.ownBlock] at hk
    omega
theorem Kp.own {S : Nat → Prop} {a w w' : World} {row : Option Nat} {v : Value} {e : TypeId} {size n : Nat} {xs : List Value} {w0 : World} (h : Kp S a w) (hg : w.grownBy w' row) (hv : row = v.ownBlock) (ho : w0.ownsRow a.heap.size e size v n xs) : Kp S a w' :=
  h.grown hg (fun k hk => .inl (own_ge ho k (hv ▸ hk)))

/-- block g is just the cells cs, of element type t, none of them frozen -/
def Blk (w : World) (g : Nat) (t : TypeId) (cs : Array Value) : Prop := w.heap[g]? = some (.cells cs t (0, 0))
section
variable {w w' : World} {g : Nat} {t : TypeId} {cs : Array Value}
theorem Blk.lt (h : Blk w g t cs) : g < w.heap.size := lt_of_heap h
theorem Blk.cell (h : Blk w g t cs) (i : Nat) : w.cell? ⟨g, i, none⟩ = cs[i]? := cell_of_row w g i cs t (0, 0) h
theorem Blk.frozen (h : Blk w g t cs) (i : Nat) : w.frozen? ⟨g, i, none⟩ = false := frozen_of_row w g i cs t h
theorem Blk.new (w : World) (t : TypeId) (cs : Array Value) : Blk (w.alloc (.cells cs t)) w.heap.size t cs := heap_alloc_new w _
theorem Blk.drew (h : Blk w g t cs) : Blk w.drew g t cs := h
theorem Blk.drewN (h : Blk w g t cs) (n : Nat) : Blk (w.drewN n) g t cs := h
theorem Blk.alloc (h : Blk w g t cs) (o : Obj) : Blk (w.alloc o) g t cs := (Below.heap_alloc w o g h.lt).trans h
theorem Blk.set_ (h : Blk w g t cs) (i : Nat) (u : Value) : Blk (w.setCell ⟨g, i, none⟩ u) g t (cs.setIfInBounds i u) := by
  unfold Blk at h ⊢
  simp [World.setCell, Array.getElem?_modify, h]
theorem Blk.far (h : Blk w g t cs) {p : Addr} (hp : g ≠ p.block) (u : Value) : Blk (w.setCell p u) g t cs := (Below.heap_setCell w p u g hp).trans h
theorem Blk.keep {S : Nat → Prop} (h : Blk w g t cs) (k : Kp S w w') (hn : ¬ S g) : Blk w' g t cs := k.lift h hn
theorem Blk.row (h : Blk w g t cs) (cs' : Array Value) : Blk (w.setRow g cs') g t cs' := by
  unfold Blk at h ⊢
  simp [World.setRow, Array.getElem?_modify, h]
theorem Blk.farRow (h : Blk w g t cs) {g' : Nat} (hp : g ≠ g') (cs' : Array Value) : Blk (w.setRow g' cs') g t cs := by
  unfold Blk at h ⊢
  simp only [World.setRow, Array.getElem?_modify]
  rw [if_neg (by omega)]
  exact h
end
theorem Kp.setRow {S : Nat → Prop} {a w : World} (h : Kp S a w) {g : Nat} (hp : a.heap.size ≤ g ∨ S g) (cs : Array Value) : Kp S a (w.setRow g cs) :=
  ⟨h.os, h.tape, h.output, by have := h.size; simpa [World.setRow] using this, fun i hi hn => by
    have hne : i ≠ g := fun e => by
      subst e
      rcases hp with hp | hp
      · omega
      · exact hn hp
    simp only [World.setRow, Array.getElem?_modify]
    rw [if_neg (by omega)]
    exact h.block i hi hn⟩
theorem ret_cell_tmp {P : Program} {fn : Func} {p u : Tmp} {ty : TypeId} (h : fn.results = #[.cell p ty, .tmp u]) (tmps : Array Value) (w : World) (g : Nat) (t : TypeId) (cs : Array Value) (d : TypeDesc)
    (hp : tmps.getD p undef = .pointer (some ⟨g, 0, none⟩)) (hg : Blk w g t cs)
    (hu : P.underlying ty = some d) (hd : (match d with | .struct _ | .array _ _ => true | _ => false) = true) (hi : (P.info? ty).map (·.size) = some cs.size) (x : Value) (hx : tmps.getD u undef = x) :
    (results fn tmps).run P w = .ok (.tuple #[.agg cs, x]) w := by
  rw [results_cell_tmp h, hp]
  simp only [asAddr, Sem.run_pure, Result.andThen_ok, run_loadVar_row w g t ty cs (0, 0) d hg hu hd hi, hx]

section
variable {w w' : World} {base : Nat} {e : TypeId} {size n : Nat} {v : Value} {xs : List Value}
theorem own_slice (h : w.ownsRow base e size v n xs) : ∃ A cap, v = .slice A n cap := by
  rcases h.2 with ⟨rfl, rfl⟩ | ⟨g, cap, cur, rfl, _⟩
  · exact ⟨_, _, rfl⟩
  · exact ⟨_, _, rfl⟩
theorem own_at {A : Option Addr} {cap : Nat} (h : w.ownsRow base e size (.slice A n cap) n xs) (hn : 0 < n) : ∃ g, A = some ⟨g, 0, none⟩ ∧ base ≤ g ∧ g < w.heap.size := by
  obtain ⟨g, c, hv, hb, hl⟩ := h.form hn
  injection hv with h1
  exact ⟨g, h1, hb, hl⟩
theorem own_keep {S : Nat → Prop} (h : w.ownsRow base e size v n xs) (k : Kp S w w') (hS : ∀ g, base ≤ g → g < w.heap.size → ¬ S g) : w'.ownsRow base e size v n xs := by
  refine ⟨h.1, ?_⟩
  rcases h.2 with hn | ⟨g, cap, cur, rfl, hb, hg, rest⟩
  · exact .inl hn
  · exact .inr ⟨g, cap, cur, rfl, hb, k.lift hg (hS g hb (lt_of_heap hg)), rest⟩
end
theorem _root_.Go.World.ownsRow.mono {w : World} {base base' : Nat} {e : TypeId} {size n : Nat} {v : Value} {xs : List Value} (h : w.ownsRow base e size v n xs) (hb : base' ≤ base) : w.ownsRow base' e size v n xs := by
  refine ⟨h.1, ?_⟩
  rcases h.2 with hn | ⟨g, cap, cur, rfl, hg, rest⟩
  · exact .inl hn
  · exact .inr ⟨g, cap, cur, rfl, by omega, rest⟩

/-- a row with the values xs written from place o on -/
def spl : Array Value → Nat → List Value → Array Value
  | cs, _, [] => cs
  | cs, o, v :: r => spl (cs.setIfInBounds o v) (o + 1) r
theorem spl_eq : ∀ (xs xa xb xd : List Value), xb.length = xs.length → spl (xa ++ xb ++ xd).toArray xa.length xs = (xa ++ xs ++ xd).toArray
  | [], xa, xb, xd, h => by
    have : xb = [] := List.eq_nil_of_length_eq_zero (by simpa using h)
    subst this; rfl
  | v :: r, xa, [], xd, h => by simp at h
  | v :: r, xa, b :: xb, xd, h => by
    have h' : xb.length = r.length := by simpa using h
    have e := spl_eq r (xa ++ [v]) xb xd h'
    simp only [List.length_append, List.length_cons, List.length_nil, Nat.zero_add] at e
    have e2 : (xa ++ b :: xb ++ xd).toArray.setIfInBounds xa.length v = (xa ++ [v] ++ xb ++ xd).toArray := by
      rw [List.setIfInBounds_toArray]
      congr 1
      rw [List.append_assoc, List.set_append_right _ _ (Nat.le_refl _), Nat.sub_self]
      simp
    show spl ((xa ++ b :: xb ++ xd).toArray.setIfInBounds xa.length v) (xa.length + 1) r = _
    rw [e2, e]
    simp
section
variable {w w' : World} {g : Nat} {t : TypeId} {cs : Array Value}
theorem Blk.cells {g : Nat} : ∀ (xs : List Value) (o : Nat) (w : World) (cs : Array Value), Blk w g t cs → Blk (w.setCells g o xs) g t (spl cs o xs)
  | [], _, _, _, h => h
  | v :: r, o, w, cs, h => Blk.cells r (o + 1) _ _ (h.set_ o v)
theorem Blk.cellsL {xa xb xd xs : List Value} (h : Blk w g t (xa ++ xb ++ xd).toArray) (o : Nat) (ho : xa.length = o) (hl : xb.length = xs.length) : Blk (w.setCells g o xs) g t (xa ++ xs ++ xd).toArray := by
  subst ho
  have := Blk.cells xs xa.length w _ h
  rw [spl_eq xs xa xb xd hl] at this
  exact this
theorem Blk.farCells {g' : Nat} (hne : g ≠ g') : ∀ (xs : List Value) (o : Nat) (w : World), Blk w g t cs → Blk (w.setCells g' o xs) g t cs
  | [], _, _, h => h
  | v :: r, o, w, h => Blk.farCells hne r (o + 1) _ (h.far (p := ⟨g', o, none⟩) hne v)
theorem Blk.there (h : Blk w g t cs) {o n : Nat} (hn : o + n ≤ cs.size) : w.there g o n := fun j hj => by
  refine ⟨?_, h.frozen _⟩
  rw [h.cell, Array.getElem?_eq_getElem (by omega)]; rfl
theorem Blk.range {xa xb xd : List Value} (h : Blk w g t (xa ++ xb ++ xd).toArray) (o : Nat) (ho : xa.length = o) : w.rangeAt g o xb := fun j v hv => by
  subst ho
  rw [h.cell]
  have hj : j < xb.length := (List.getElem?_eq_some_iff.1 hv).1
  simp only [List.getElem?_toArray]
  rw [List.append_assoc, List.getElem?_append_right (by omega), Nat.add_sub_cancel_left, List.getElem?_append_left hj]
  exact hv
end
theorem Kp.setCells {S : Nat → Prop} {a : World} {g : Nat} (hp : a.heap.size ≤ g ∨ S g) : ∀ (xs : List Value) (o : Nat) (w : World), Kp S a w → Kp S a (w.setCells g o xs)
  | [], _, _, h => h
  | v :: r, o, _, h => Kp.setCells hp r (o + 1) _ (h.setCell (p := ⟨g, o, none⟩) hp v)
theorem size_setCells (g : Nat) : ∀ (xs : List Value) (o : Nat) (w : World), (w.setCells g o xs).heap.size = w.heap.size
  | [], _, _ => rfl
  | v :: r, o, w => (size_setCells g r (o + 1) _).trans (by simp [World.setCell])
/-- of a world only what is named is kept -/
theorem forget {p : World → Prop} {w : World} (inv : World → Prop) (h : inv w) (k : ∀ w', inv w' → p w') : p w := k w h

/-- the n cells of block g from place o on, as they stand -/
def readRow (w : World) (g o n : Nat) : Array Value := ((List.range n).map fun j => (w.cell? ⟨g, o + j, none⟩).getD undef).toArray
section
variable {P : Program}
theorem loadAt_row {T n : Nat} {d : TypeDesc} (hu : P.underlying T = some d) (hd : d.isRow = true) (hi : (P.info? T).map (·.size) = some n) (w : World) (g o : Nat) (h : w.there g o n) :
    (Instr.loadAt T (.pointer (some ⟨g, o, none⟩))).run P w = .ok (.agg (readRow w g o n)) w := by
  refine run_loadAt_mid w g o T ((List.range n).map fun j => (w.cell? ⟨g, o + j, none⟩).getD undef) d (fun j v hv => ?_) hu hd (by simpa using hi)
  rw [List.getElem?_map] at hv
  rcases Nat.lt_or_ge j n with hj | hj
  · rw [List.getElem?_range hj] at hv
    simp only [Option.map_some, Option.some.injEq] at hv
    have := (h j hj).1
    obtain ⟨u, hu⟩ := Option.isSome_iff_exists.1 this
    rw [hu] at hv ⊢
    simpa using hv
  · rw [List.getElem?_eq_none (by simpa using hj)] at hv
    cases hv
theorem storeAt_row {T n : Nat} (hi : (P.info? T).map (·.size) = some n) (w : World) (g o : Nat) (cs : Array Value) (hc : cs.size = n) (h1 : cs.all (·.oneCell') = true) (h : w.there g o n) :
    (Instr.storeAt T (.pointer (some ⟨g, o, none⟩)) (.agg cs)).run P w = .ok () (w.setCells g o cs.toList) := by
  simp only [Instr.storeAt, Instr.sureAddr, Sem.run_bind, Sem.run_pure, Result.andThen_ok]
  exact run_storeVar_mid w g o T cs (by rw [hc]; exact h) (by rw [hc]; exact hi) h1
end
theorem Blk.read {w : World} {g : Nat} {t : TypeId} {xa xb xd : List Value} (h : Blk w g t (xa ++ xb ++ xd).toArray) (o n : Nat) (ho : xa.length = o) (hn : xb.length = n) : readRow w g o n = xb.toArray := by
  subst ho; subst hn
  unfold readRow
  congr 1
  apply List.ext_getElem
  · simp
  · intro j h1 h2
    simp only [List.getElem_map, List.getElem_range]
    rw [h.cell]
    simp only [List.getElem?_toArray]
    rw [List.append_assoc, List.getElem?_append_right (by omega), Nat.add_sub_cancel_left, List.getElem?_append_left (by simpa using h1), List.getElem?_eq_getElem (by simpa using h1)]
    rfl
theorem Blk.readAll {w : World} {g : Nat} {t : TypeId} {cs : Array Value} (h : Blk w g t cs) (n : Nat) (hn : cs.size = n) : readRow w g 0 n = cs := by
  have := Blk.read (xa := []) (xb := cs.toList) (xd := []) (by simpa using h) 0 n rfl (by simpa using hn)
  simpa using this
theorem readRow_congr {w w' : World} {g o n : Nat} (h : w'.heap[g]? = w.heap[g]?) : readRow w' g o n = readRow w g o n := by
  unfold readRow
  congr 2
  funext j
  rw [World.cell?_of_block (w := w) (w' := w') (a := ⟨g, o + j, none⟩) h]
theorem there_congr {w w' : World} {g o n : Nat} (h : w'.heap[g]? = w.heap[g]?) (ht : w.there g o n) : w'.there g o n := fun j hj => by
  rw [World.cell?_of_block (w := w) (w' := w') (a := ⟨g, o + j, none⟩) h, World.frozen?_of_block (w := w) (w' := w') (a := ⟨g, o + j, none⟩) h]
  exact ht j hj
theorem heap_setCells_far (g : Nat) {k : Nat} (hne : k ≠ g) : ∀ (xs : List Value) (o : Nat) (w : World), (w.setCells g o xs).heap[k]? = w.heap[k]?
  | [], _, _ => rfl
  | v :: r, o, w => (heap_setCells_far g hne r (o + 1) _).trans (Below.heap_setCell w ⟨g, o, none⟩ v k hne)
theorem cell_setCells_far (g : Nat) {k j : Nat} (hne : k ≠ g) (xs : List Value) (o : Nat) (w : World) : (w.setCells g o xs).cell? ⟨k, j, none⟩ = w.cell? ⟨k, j, none⟩ :=
  World.cell?_of_block (w := w) (heap_setCells_far g hne xs o w)
theorem readRow_far (g : Nat) {k j n : Nat} (hne : k ≠ g) (xs : List Value) (o : Nat) (w : World) : readRow (w.setCells g o xs) k j n = readRow w k j n := readRow_congr (heap_setCells_far g hne xs o w)
@[simp, go_sem] theorem readRow_drew (w : World) (g o n : Nat) : readRow w.drew g o n = readRow w g o n := rfl

/-- the same behind a pointer's value -/
def thereP (w : World) : Value → Nat → Prop
  | .pointer (some ⟨g, o, none⟩), n => w.there g o n
  | _, _ => False
def readP (w : World) : Value → Nat → Array Value
  | .pointer (some ⟨g, o, none⟩), n => readRow w g o n
  | _, _ => #[]
def setP (w : World) : Value → Value → World
  | .pointer (some ⟨g, o, none⟩), .agg cs => w.setCells g o cs.toList
  | _, _ => w
def ones (cs : Array Value) : Prop := cs.all (·.oneCell') = true
def aggOK : Value → Nat → Prop
  | .agg cs, n => cs.size = n ∧ ones cs
  | _, _ => False
@[go_sem] theorem thereP_mk (w : World) (g o n : Nat) : thereP w (.pointer (some ⟨g, o, none⟩)) n = w.there g o n := rfl
@[go_sem] theorem readP_mk (w : World) (g o n : Nat) : readP w (.pointer (some ⟨g, o, none⟩)) n = readRow w g o n := rfl
@[go_sem] theorem setP_mk (w : World) (g o : Nat) (cs : Array Value) : setP w (.pointer (some ⟨g, o, none⟩)) (.agg cs) = w.setCells g o cs.toList := rfl
@[go_sem] theorem aggOK_mk (cs : Array Value) (n : Nat) : aggOK (.agg cs) n = (cs.size = n ∧ ones cs) := rfl
section
variable {P : Program}
theorem loadAt_P {T n : Nat} {d : TypeDesc} (hu : P.underlying T = some d) (hd : d.isRow = true) (hi : (P.info? T).map (·.size) = some n) (w : World) (p : Value) (h : thereP w p n) :
    (Instr.loadAt T p).run P w = .ok (.agg (readP w p n)) w := by
  unfold thereP at h
  split at h
  · exact loadAt_row hu hd hi w _ _ h
  · exact h.elim
theorem storeAt_P {T n : Nat} (hi : (P.info? T).map (·.size) = some n) (w : World) (p v : Value) (hv : aggOK v n) (h : thereP w p n) :
    (Instr.storeAt T p v).run P w = .ok () (setP w p v) := by
  unfold thereP at h
  split at h
  · unfold aggOK at hv
    split at hv
    · exact storeAt_row hi w _ _ _ hv.1 hv.2 h
    · exact hv.elim
  · exact h.elim
theorem execLoad_P {T n : Nat} {d : TypeDesc} (hu : P.underlying T = some d) (hd : d.isRow = true) (hi : (P.info? T).map (·.size) = some n) (w : World) (ev : Operand → Value) (ds : Option Tmp) (x : Operand) (ty : TypeId) (ps : String) (af : Array Edge) (g : Option (Nat × Bool)) (h : thereP w (ev x) n) :
    (execOp ev ⟨ds, .load T x, ty, ps, af, g⟩).run P w = .ok (.value (.agg (readP w (ev x) n))) w := by
  simp only [execOp, Sem.run_bind, Sem.run_pure, Result.andThen_ok, loadAt_P hu hd hi w (ev x) h]
theorem execStore_P {T n : Nat} (hi : (P.info? T).map (·.size) = some n) (w : World) (ev : Operand → Value) (ds : Option Tmp) (x y : Operand) (ty : TypeId) (ps : String) (af : Array Edge) (g : Option (Nat × Bool)) (hv : aggOK (ev y) n) (h : thereP w (ev x) n) :
    (execOp ev ⟨ds, .store T x y, ty, ps, af, g⟩).run P w = .ok .skip (setP w (ev x) (ev y)) := by
  simp only [execOp, Sem.run_bind, Sem.run_pure, Result.andThen_ok, storeAt_P hi w (ev x) (ev y) hv h]
end
theorem Blk.newAt (w : World) (t : TypeId) (cs : Array Value) (g : Nat) (h : w.heap.size = g) : Blk (w.alloc (.cells cs t)) g t cs := by
  subst h; exact Blk.new w t cs
theorem Blk.whole {w : World} {g : Nat} {t : TypeId} {cs : Array Value} (h : Blk w g t cs) (ds : Array Value) (hl : cs.size = ds.size) : Blk (w.setCells g 0 ds.toList) g t ds := by
  have := Blk.cellsL (xa := []) (xb := cs.toList) (xd := []) (xs := ds.toList) (by simpa using h) 0 rfl (by simpa using hl)
  simpa using this
theorem Blk.thereAll {w : World} {g : Nat} {t : TypeId} {cs : Array Value} (h : Blk w g t cs) (n : Nat) (hn : cs.size = n) : w.there g 0 n := Blk.there h (by omega)

/-- a part of an array behind a pointer -/
def sliceV : Value → Value → Value → Nat → Value
  | .pointer (some ⟨g, o, none⟩), .int _ lo, .int _ hi, n => .slice (some (if n = lo.toNat then ⟨g, o, none⟩ else ⟨g, o + lo.toNat, none⟩)) (hi.toNat - lo.toNat) (n - lo.toNat)
  | _, _, _, _ => undef
def sliceOK : Value → Value → Value → Nat → Prop
  | .pointer (some ⟨_, _, none⟩), .int .i64 lo, .int .i64 hi, n => 0 ≤ lo ∧ lo ≤ hi ∧ hi ≤ n
  | _, _, _, _ => False
@[go_sem] theorem sliceV_mk (g o n : Nat) (k k' : IntKind) (lo hi : Int) : sliceV (.pointer (some ⟨g, o, none⟩)) (.int k lo) (.int k' hi) n = .slice (some (if n = lo.toNat then ⟨g, o, none⟩ else ⟨g, o + lo.toNat, none⟩)) (hi.toNat - lo.toNat) (n - lo.toNat) := rfl
@[go_sem] theorem sliceOK_mk (g o n : Nat) (lo hi : Int) : sliceOK (.pointer (some ⟨g, o, none⟩)) (.int .i64 lo) (.int .i64 hi) n = (0 ≤ lo ∧ lo ≤ hi ∧ hi ≤ n) := rfl
section
variable {P : Program}
theorem sliceAt_V {T n : Nat} {e : TypeId} (hu : P.underlying T = some (.array n e)) (he : (P.info? e).map (·.size) = some 1) (w : World) (g o : Nat) (l h : Option Value) (lo hi : Nat)
    (hb : (Instr.sliceBounds false n n l h none).run P w = .ok (lo, hi, n) w) :
    (Instr.sliceAt T (.pointer (some ⟨g, o, none⟩)) l h none).run P w = .ok (.slice (some (if n = lo then ⟨g, o, none⟩ else ⟨g, o + lo, none⟩)) (hi - lo) (n - lo)) w := by
  cases hq : P.info? e with
  | none => simp [hq] at he
  | some i =>
    have hs : i.size = 1 := by simpa [hq] using he
    simp only [Instr.sliceAt, Sem.run_bind, run_underlying hu, Result.andThen_ok, Instr.sureAddr, Sem.run_pure, hb, sizeOf, typeInfo]
    simp [hq, hs, add_mk]
theorem bound_ok (w : World) (k : IntKind) (v : Int) (n : Nat) (kind : BoundsCode) (h0 : 0 ≤ v) (h1 : v ≤ n) : (Instr.sliceBound (.int k v) n kind).run P w = .ok v.toNat w := by
  simp [Instr.sliceBound, asIntOf, h0, h1]
theorem sliceOK_inv {x l h : Value} {n : Nat} (hk : sliceOK x l h n) : ∃ g o lo hi, x = .pointer (some ⟨g, o, none⟩) ∧ l = .int .i64 lo ∧ h = .int .i64 hi ∧ 0 ≤ lo ∧ lo ≤ hi ∧ hi ≤ n := by
  unfold sliceOK at hk
  split at hk
  · exact ⟨_, _, _, _, rfl, rfl, rfl, hk⟩
  · exact hk.elim
theorem execSlice_lo {T n : Nat} {e : TypeId} (hu : P.underlying T = some (.array n e)) (he : (P.info? e).map (·.size) = some 1) (w : World) (ev : Operand → Value) (ds : Option Tmp) (x lo : Operand) (ty : TypeId) (ps : String) (af : Array Edge) (g : Option (Nat × Bool))
    (h : sliceOK (ev x) (ev lo) (.int .i64 n) n) : (execOp ev ⟨ds, .slice T x (some lo) none none, ty, ps, af, g⟩).run P w = .ok (.value (sliceV (ev x) (ev lo) (.int .i64 n) n)) w := by
  obtain ⟨g', o', v1, v2, hx, hl, e1, h0, h1, h2⟩ := sliceOK_inv h
  injection e1 with _ e1
  subst e1
  have hb : (Instr.sliceBounds false n n (some (.int .i64 v1)) none none).run P w = .ok (v1.toNat, n, n) w := by
    simp [Instr.sliceBounds, bound_ok w .i64 v1 n _ h0 h1]
  simp only [execOp, hx, hl, Option.map_some, Option.map_none, Sem.run_bind, sliceAt_V hu he w _ _ _ _ _ _ hb, Result.andThen_ok, Sem.run_pure, sliceV_mk, Int.toNat_natCast]
theorem execSlice_lohi {T n : Nat} {e : TypeId} (hu : P.underlying T = some (.array n e)) (he : (P.info? e).map (·.size) = some 1) (w : World) (ev : Operand → Value) (ds : Option Tmp) (x lo hi : Operand) (ty : TypeId) (ps : String) (af : Array Edge) (g : Option (Nat × Bool))
    (h : sliceOK (ev x) (ev lo) (ev hi) n) : (execOp ev ⟨ds, .slice T x (some lo) (some hi) none, ty, ps, af, g⟩).run P w = .ok (.value (sliceV (ev x) (ev lo) (ev hi) n)) w := by
  obtain ⟨g', o', v1, v2, hx, hl, hh, h0, h1, h2⟩ := sliceOK_inv h
  have hb : (Instr.sliceBounds false n n (some (.int .i64 v1)) (some (.int .i64 v2)) none).run P w = .ok (v1.toNat, v2.toNat, n) w := by
    simp [Instr.sliceBounds, bound_ok w .i64 v2 n _ (by omega) h2, bound_ok w .i64 v1 v2.toNat _ h0 (by omega)]
  simp only [execOp, hx, hl, hh, Option.map_some, Option.map_none, Sem.run_bind, sliceAt_V hu he w _ _ _ _ _ _ hb, Result.andThen_ok, Sem.run_pure, sliceV_mk]
end
end Go.Proofs.Ytegcbdfilkecpaa
/- Bytes in memory, as texts and as cells; no condition. -/
namespace Go.Proofs.Ytegcbdfilkecpaa
open Go.RowKit

/-- bytes as the cells of an array -/
def bytesV (l : List Int) : Array Value := (l.map (Value.int .u8)).toArray
theorem bytesV_size (l : List Int) : (bytesV l).size = l.length := by simp [bytesV]
theorem bytesV_one (l : List Int) : ones (bytesV l) := by
  unfold ones bytesV
  simp only [List.all_toArray', List.all_map]
  simp [Value.oneCell']
theorem map_int_inj {k : IntKind} : ∀ {l m : List Int}, l.map (Value.int k) = m.map (Value.int k) → l = m
  | [], [], _ => rfl
  | [], _ :: _, h => by simp at h
  | _ :: _, [], h => by simp at h
  | a :: l, b :: m, h => by
    simp only [List.map_cons, List.cons.injEq, Value.int.injEq, true_and] at h
    rw [h.1, map_int_inj h.2]
theorem bytesV_inj {l m : List Int} (h : bytesV l = bytesV m) : l = m := by
  have h1 : l.map (Value.int .u8) = m.map (Value.int .u8) := by
    have := congrArg Array.toList h
    simpa [bytesV] using this
  exact map_int_inj h1
def zeros (n : Nat) : List Int := List.replicate n 0
def strI (s : ByteArray) : List Int := s.data.toList.map fun b => (b.toNat : Int)
theorem strI_len (s : ByteArray) : (strI s).length = s.size := by simp [strI]
/-- copy of a string into cells that lie there -/
theorem wpList_copyS {P : Program} {w : World} {ops : Array Oper} {rest : List Oper} {o : Oper} {a : Act} {Q : Exit → Act → World → Prop} (hgd : o.guard = none) (x y : Operand) (dT sT elem : TypeId)
    (ho : o.op = .call { callee := .builtin .copy, args := #[x, y], argTypes := #[dT, sT] }) (hu : P.underlying dT = some (.slice elem)) (hz : ∀ w, (Go.sizeOf elem).run P w = .ok 1 w)
    (g0 o0 dLen dCap : Nat) (s : ByteArray) (hx : a.eval x = .slice (some ⟨g0, o0, none⟩) dLen dCap) (hy : a.eval y = .string s) (hle : s.size ≤ dLen) (ht : w.there g0 o0 s.size)
    (h : wpList P ops Q rest (a.put o.dst (.int .i64 s.size)) (w.setCells g0 o0 ((strI s).map (Value.int .u8)))) : wpList P ops Q (o :: rest) a w := by
  have hrun := Go.run_copy_string (P := P) w dT sT o.type elem g0 o0 dLen dCap s hu hz hle (fun j hj => (ht j hj).1) (fun j hj => (ht j hj).2)
  refine wpList_plain hgd fun K hK => ?_
  have e : (strI s).map (Value.int .u8) = s.data.toList.map fun x => Value.int .u8 (x.toNat : Int) := by
    unfold strI
    rw [List.map_map]
    rfl
  rw [e] at h
  unfold Oper.wp
  simp only [execOp, ho, resolve, invoke, builtin, Sem.run_bind, Sem.run_pure, Result.andThen_ok, List.map_toArray, List.map_cons, List.map_nil, hx, hy, hrun]
  exact hK _ _ h
theorem Blk.bytes {w : World} {g : Nat} {t : TypeId} {la lb ld lx : List Int} (h : Blk w g t (bytesV (la ++ lb ++ ld))) (o : Nat) (ho : la.length = o) (hl : lb.length = lx.length) : Blk (w.setCells g o (lx.map (Value.int .u8))) g t (bytesV (la ++ lx ++ ld)) := by
  have := Blk.cellsL (xa := la.map (Value.int .u8)) (xb := lb.map (Value.int .u8)) (xd := ld.map (Value.int .u8)) (xs := lx.map (Value.int .u8)) (by simpa [bytesV] using h) o (by simpa using ho) (by simpa using hl)
  simpa [bytesV] using this
theorem infoU8 : (Try.prog.info? 5).map (·.size) = some 1 := by kernel_rfl
theorem sizeU8 (w : World) : (Go.sizeOf 5).run Try.prog w = .ok 1 w := by kernel_rfl

/-- bytes as a string -/
def strOf (ns : List Int) : ByteArray := ⟨(ns.map fun n => UInt8.ofNat n.toNat).toArray⟩
theorem foldl_push (ns : List Int) : ∀ (s : ByteArray), ns.foldl (fun r n => r.push (UInt8.ofNat n.toNat)) s = ⟨s.data ++ (ns.map fun n => UInt8.ofNat n.toNat).toArray⟩ := by
  induction ns with
  | nil => intro s; simp
  | cons n ns ih =>
    intro s
    rw [List.foldl_cons, ih]
    simp [ByteArray.push]
theorem strOf_size (ns : List Int) : (strOf ns).size = ns.length := by simp [strOf, ByteArray.size]
theorem strI_strOf (ns : List Int) (h : ∀ n ∈ ns, 0 ≤ n ∧ n < 256) : strI (strOf ns) = ns := by
  unfold strI strOf
  simp only [List.map_map]
  conv => rhs; rw [← List.map_id ns]
  apply List.map_congr_left
  intro n hn
  obtain ⟨a, b⟩ := h n hn
  simp only [Function.comp, id]
  obtain ⟨k, rfl⟩ := Int.eq_ofNat_of_zero_le a
  have : k < 256 := by omega
  simp [UInt8.toNat_ofNat, Nat.mod_eq_of_lt this]
/-- n bytes lie in block g from place o on -/
def byAt (w : World) (g o n : Nat) : Prop := ∀ j, j < n → ∃ v, w.cell? ⟨g, o + j, none⟩ = some (.int .u8 v)
def numOf : Option Value → Int
  | some (.int _ n) => n
  | _ => 0
def byRd (w : World) (g o n : Nat) : List Int := (List.range n).map fun j => numOf (w.cell? ⟨g, o + j, none⟩)
def bytesAt (w : World) : Value → Prop
  | .slice (some ⟨g, o, none⟩) n _ => byAt w g o n
  | _ => False
def strAt (w : World) : Value → Value
  | .slice (some ⟨g, o, none⟩) n _ => .string (strOf (byRd w g o n))
  | _ => undef
@[go_sem] theorem bytesAt_mk (w : World) (g o n c : Nat) : bytesAt w (.slice (some ⟨g, o, none⟩) n c) = byAt w g o n := rfl
@[go_sem] theorem strAt_mk (w : World) (g o n c : Nat) : strAt w (.slice (some ⟨g, o, none⟩) n c) = .string (strOf (byRd w g o n)) := rfl
@[simp, go_sem] theorem byAt_drew (w : World) (g o n : Nat) : byAt w.drew g o n = byAt w g o n := rfl
@[simp, go_sem] theorem byRd_drew (w : World) (g o n : Nat) : byRd w.drew g o n = byRd w g o n := rfl
theorem execConv_S {P : Program} {S D e : TypeId} (hs : P.underlying S = some (.slice e)) (he : P.underlying e = some (.int .u8)) (hd : P.underlying D = some .string) (w : World) (ev : Operand → Value) (ds : Option Tmp) (x : Operand) (ty : TypeId) (ps : String) (af : Array Edge) (g : Option (Nat × Bool)) (h : bytesAt w (ev x)) :
    (execOp ev ⟨ds, .convert S D x, ty, ps, af, g⟩).run P w = .ok (.value (strAt w (ev x))) w := by
  generalize hx : ev x = v at h
  unfold bytesAt at h
  split at h
  · rename_i g' o' n' c'
    have hl : (loadCells ⟨g', o', none⟩ n').run P w = .ok ((byRd w g' o' n').map (Value.int .u8)).toArray w := by
      have := run_loadCells_list (P := P) w ⟨g', o', none⟩ ((byRd w g' o' n').map (Value.int .u8)) (fun j v hv => by
        rw [add_mk]
        unfold byRd at hv
        rw [List.map_map, List.getElem?_map] at hv
        rcases Nat.lt_or_ge j n' with hj | hj
        · rw [List.getElem?_range hj] at hv
          simp only [Option.map_some, Option.some.injEq, Function.comp] at hv
          obtain ⟨u, hu⟩ := h j hj
          rw [hu] at hv ⊢
          rw [← hv]
          rfl
        · rw [List.getElem?_eq_none (by simpa using hj)] at hv
          cases hv)
      simpa [byRd] using this
    simp only [execOp, hx, Sem.run_bind, run_convert_bytes_string w S D e _ _ _ hs he hd, run_bytesToString w _ _ _ _ hl, Result.andThen_ok, Sem.run_pure, foldl_push]
    simp [strAt, strOf]
  · exact h.elim
theorem conv64 (w : World) (ev : Operand → Value) (ds : Option Tmp) (x : Operand) (ty : TypeId) (ps : String) (af : Array Edge) (g : Option (Nat × Bool)) (h : bytesAt w (ev x)) :
    (execOp ev ⟨ds, .convert 42 9 x, ty, ps, af, g⟩).run Try.prog w = .ok (.value (strAt w (ev x))) w := execConv_S Try.underlying42 Try.underlying5 Try.underlying9 w ev ds x ty ps af g h
theorem Blk.byAt {w : World} {g : Nat} {t : TypeId} {l : List Int} (h : Blk w g t (bytesV l)) (o n : Nat) (hn : o + n ≤ l.length) : byAt w g o n := fun j hj => by
  refine ⟨l[o + j]?.getD 0, ?_⟩
  rw [h.cell]
  unfold bytesV
  simp [show o + j < l.length by omega]
theorem Blk.byRd {w : World} {g : Nat} {t : TypeId} {l : List Int} (h : Blk w g t (bytesV l)) (o n : Nat) (hn : o + n ≤ l.length) : byRd w g o n = (l.drop o).take n := by
  unfold Go.Proofs.Ytegcbdfilkecpaa.byRd
  apply List.ext_getElem
  · simp; omega
  · intro j h1 h2
    have hj : j < n := by simpa using h1
    simp only [List.getElem_map, List.getElem_range, List.getElem_take, List.getElem_drop]
    rw [h.cell]
    unfold bytesV
    simp [show o + j < l.length by omega, numOf]
theorem ret_cell1 {P : Program} {fn : Func} {p : Tmp} {ty : TypeId} (h : fn.results = #[.cell p ty]) (tmps : Array Value) (w : World) (g : Nat) (t : TypeId) (cs : Array Value) (d : TypeDesc)
    (hp : tmps.getD p undef = .pointer (some ⟨g, 0, none⟩)) (hg : Blk w g t cs)
    (hu : P.underlying ty = some d) (hd : (match d with | .struct _ | .array _ _ => true | _ => false) = true) (hi : (P.info? ty).map (·.size) = some cs.size) :
    (results fn tmps).run P w = .ok (.agg cs) w := by
  have hp' : tmps[p]?.getD undef = .pointer (some ⟨g, 0, none⟩) := by simpa using hp
  simp [results, h, hp', asAddr, run_loadVar_row w g t ty cs (0, 0) d hg hu hd hi]
end Go.Proofs.Ytegcbdfilkecpaa
/- The stand-in disk as a plain state, and what each call makes of it; no condition. -/
namespace Go.Proofs.Ytegcbdfilkecpaa
open Go

/-- a change that is not kept: of a number of bytes (s is empty then), or of a sector -/
structure Cg where
  nm : ByteArray
  sec : Int
  n : Int
  s : List Int
def pad64 (l : List Int) : List Int := l ++ zeros (64 - l.length)
theorem pad64_nil : pad64 [] = zeros 64 := rfl
theorem pad64_full {l : List Int} (h : l.length = 64) : pad64 l = l := by unfold pad64; rw [h]; simp [zeros]
theorem pad64_len {l : List Int} (h : l.length ≤ 64) : (pad64 l).length = 64 := by unfold pad64; simp [zeros]; omega
theorem zeros_rng (n : Nat) : ∀ y ∈ zeros n, 0 ≤ y ∧ y < 256 := by
  intro y h
  have := List.eq_of_mem_replicate h
  omega
structure CgOk (c : Cg) : Prop where
  kind : (c.s = [] ∧ c.sec = -1 ∧ 0 ≤ c.n ∧ c.n ≤ 1048576) ∨ (c.s.length = 64 ∧ 0 ≤ c.sec ∧ c.sec ≤ 16384 ∧ c.n = 0)
  rng : ∀ y ∈ c.s, 0 ≤ y ∧ y < 256
  nl : c.nm.size ≤ maxLen
theorem CgOk.le {c : Cg} (h : CgOk c) : c.s.length ≤ 64 := by
  rcases h.kind with ⟨e, _⟩ | ⟨e, _⟩
  · rw [e]; simp
  · omega
theorem CgOk.pad {c : Cg} (h : CgOk c) : (pad64 c.s).length = 64 := pad64_len h.le
theorem CgOk.prng {c : Cg} (h : CgOk c) : ∀ y ∈ pad64 c.s, 0 ≤ y ∧ y < 256 := by
  intro y hy
  unfold pad64 at hy
  rcases List.mem_append.1 hy with q | q
  · exact h.rng y q
  · exact zeros_rng _ y q
def wrp (n : Int) : Int := IntKind.i64.wrap n
theorem wrp_add (a b : Int) : wrp (wrp a + b) = wrp (a + b) := by unfold wrp; simp only [IntKind.wrap_i64]; omega
theorem wrp_sub (a b : Int) : wrp (wrp a - b) = wrp (a - b) := by unfold wrp; simp only [IntKind.wrap_i64]; omega
theorem wrp_id {a : Int} (h : -9223372036854775808 ≤ a ∧ a ≤ 9223372036854775807) : wrp a = a := by unfold wrp; rw [IntKind.wrap_i64]; omega
/-- a disk: what is seen and what is kept of each file, their sums, how many files there may be, the changes, the numbers -/
structure Pl where
  seen : ByteArray → List Int
  kept : ByteArray → List Int
  sum : Int
  ksum : Int
  nf : Nat
  pd : List Cg
  room : Int
  steps : Int
  crash : Int
  down : Bool
  starts : Int
def sizedF (l : List Int) (n : Nat) : List Int := if n ≤ l.length then l.take n else l ++ List.replicate (n - l.length) 0
theorem sizedF_len (l : List Int) (n : Nat) : (sizedF l n).length = n := by
  unfold sizedF
  split <;> simp <;> omega
theorem sizedF_rng {l : List Int} (h : ∀ x ∈ l, 0 ≤ x ∧ x < 256) (n : Nat) : ∀ x ∈ sizedF l n, 0 ≤ x ∧ x < 256 := by
  intro x hx
  unfold sizedF at hx
  split at hx
  · exact h x (List.mem_of_mem_take hx)
  · rcases List.mem_append.1 hx with q | q
    · exact h x q
    · have := List.eq_of_mem_replicate q
      omega
theorem sizedF_self (l : List Int) : sizedF l l.length = l := by unfold sizedF; simp
def upd (f : ByteArray → List Int) (s : ByteArray) (l : List Int) : ByteArray → List Int := fun t => if t = s then l else f t
theorem upd_same (f : ByteArray → List Int) (s : ByteArray) (l : List Int) : upd f s l s = l := by simp [upd]
theorem upd_other (f : ByteArray → List Int) {s t : ByteArray} (l : List Int) (h : t ≠ s) : upd f s l t = f t := by simp [upd, h]
theorem upd_self (f : ByteArray → List Int) (s : ByteArray) : upd f s (f s) = f := by funext t; unfold upd; split <;> simp_all
theorem upd_upd (f : ByteArray → List Int) (s : ByteArray) (l m : List Int) : upd (upd f s l) s m = upd f s m := by funext t; unfold upd; split <;> simp_all
namespace Pl
def new (r : Int) : Pl := ⟨fun _ => [], fun _ => [], 0, 0, 0, [], max 0 r, 0, 0, false, 0⟩
def setSeen (p : Pl) (s : ByteArray) (l : List Int) : Pl := { p with seen := upd p.seen s l, sum := p.sum - (p.seen s).length + l.length }
def setKept (p : Pl) (s : ByteArray) (l : List Int) : Pl := { p with kept := upd p.kept s l, ksum := p.ksum - (p.kept s).length + l.length }
def at_ (p : Pl) : Pl := { p with nf := p.nf + 1 }
def pend (p : Pl) (l : List Cg) : Pl := { p with pd := p.pd ++ l }
def wrong (p : Pl) : Int := if p.down then 7 else 0
def stepE (p : Pl) : Int := if p.crash = 1 then 7 else 0
def step (p : Pl) : Pl := { p with steps := wrp (p.steps + 1), crash := if 0 < p.crash then p.crash - 1 else p.crash, down := if p.crash = 1 then true else p.down }
def fits (p : Pl) (s : ByteArray) (n : Int) : Int :=
  if 1048576 < n then 3 else if ((p.seen s).length : Int) < n ∧ p.room < wrp (n - (p.seen s).length + p.sum) then 5 else 0
def length (p : Pl) (s : ByteArray) (n : Nat) : Pl :=
  if n = (p.seen s).length then p.at_ else (p.at_.setSeen s (sizedF (p.seen s) n)).pend [⟨s, -1, n, []⟩]
def readE (p : Pl) (at_ n : Int) : Int := if p.down then 7 else if at_ < 0 ∨ n < 0 then 2 else 0
def read (p : Pl) (s : ByteArray) (at_ n : Int) : List Int := if p.readE at_ n = 0 then ((p.seen s).drop at_.toNat).take n.toNat else []
/-- bytes put at a place -/
def put (l : List Int) (a : Nat) (d : List Int) : List Int := l.take a ++ d ++ l.drop (a + d.length)
def sectors (s : ByteArray) (l : List Int) (a e : Nat) : List Cg := (List.range' (a / 64) ((e + 63) / 64 - a / 64)).map fun (k : Nat) => ⟨s, (k : Int), 0, sizedF (l.drop (k * 64)) 64⟩
def writeE (p : Pl) (s : ByteArray) (a : Int) (d : List Int) : Int :=
  if p.down then 7 else if a < 0 then 2 else if 1048576 < a ∨ 1048576 - a < d.length then 3 else if d = [] then p.stepE else
    if p.fits s (max (a + d.length) (p.seen s).length) ≠ 0 then p.fits s (max (a + d.length) (p.seen s).length) else p.stepE
/-- the data written, behind all questions -/
def write1 (p : Pl) (s : ByteArray) (a : Nat) (d : List Int) : Pl :=
  let p1 := if (p.seen s).length < a + d.length then p.length s (a + d.length) else p
  let l := put (p1.seen s) a d
  ((p1.at_.setSeen s l).pend (sectors s l a (a + d.length))).step
def write (p : Pl) (s : ByteArray) (a : Int) (d : List Int) : Pl :=
  if p.down ∨ a < 0 ∨ 1048576 < a ∨ 1048576 - a < d.length then p else if d = [] then p.step else
    if p.fits s (max (a + d.length) (p.seen s).length) ≠ 0 then p else p.write1 s a.toNat d
def truncE (p : Pl) (s : ByteArray) (n : Int) : Int :=
  if p.down then 7 else if n < 0 then 2 else if p.fits s n ≠ 0 then p.fits s n else p.stepE
def trunc (p : Pl) (s : ByteArray) (n : Int) : Pl :=
  if p.down ∨ n < 0 ∨ p.fits s n ≠ 0 then p else (p.length s n.toNat).step
def syncE (p : Pl) : Int := if p.down then 7 else p.stepE
def sync (p : Pl) (s : ByteArray) : Pl :=
  if p.down then p else if p.stepE ≠ 0 then p.step else { p.step.at_.setKept s (p.seen s) with pd := p.pd.filter fun c => !decide (c.nm = s) }
def len (p : Pl) (s : ByteArray) : Nat := if p.down then 0 else (p.seen s).length
def setRoom (p : Pl) (r : Int) : Pl := { p with room := max 0 r }
def crashIn (p : Pl) (n : Int) : Pl := { p with crash := max 0 n }
def crashNow (p : Pl) : Pl := { p with down := true }
/-- what a choice makes of what is kept, by a change -/
def made (l : List Int) (c : Cg) (ch : Int) : List Int :=
  if ch ≤ 0 then l else if c.sec < 0 then sizedF l c.n.toNat else
    put l (c.sec.toNat * 64) ((c.s.take (if 1 < ch then (1 + (ch - 2) % 63).toNat else 64)).take (l.length - c.sec.toNat * 64))
def survive (p : Pl) : List Cg → List Int → Pl
  | c :: cs, ch :: r => survive (p.at_.setKept c.nm (made (p.kept c.nm) c ch)) cs r
  | _, _ => p
def restartE (p : Pl) : Int := if p.down then 0 else 4
def restart (p : Pl) (chs : List Int) : Pl :=
  if p.down then
    let q := p.survive p.pd chs
    { q with seen := q.kept, sum := q.ksum, pd := [], steps := 0, crash := 0, down := false, starts := wrp (p.starts + 1) }
  else p
end Pl
end Go.Proofs.Ytegcbdfilkecpaa
/- A slice of the call's own, its block; no condition. -/
namespace Go.Proofs.Ytegcbdfilkecpaa
open Go.RowKit

section
variable {w w' : World} {base base' n n' cap size size' : Nat} {e e' : TypeId} {A : Option Addr} {v v' : Value} {xs xs' : List Value} {S : Nat → Prop}
theorem own_keepB (h : w.ownsRow base e size v n xs) (k : Kp S w w') (hS : ∀ g, v.ownBlock = some g → ¬ S g) : w'.ownsRow base e size v n xs := by
  refine ⟨h.1, ?_⟩
  rcases h.2 with hn | ⟨g, cap, cur, rfl, hb, hg, rest⟩
  · exact .inl hn
  · exact .inr ⟨g, cap, cur, rfl, hb, k.lift hg (hS g rfl), rest⟩
theorem own_ne (h : w.ownsRow base e size v n xs) (h' : w.ownsRow base' e' size' v' n' xs') (hne : e ≠ e') : ∀ g, v.ownBlock = some g → v'.ownBlock ≠ some g := by
  intro g hg q
  rcases h.2 with ⟨rfl, _⟩ | ⟨g1, cap1, cur1, rfl, _, h1, _⟩
  · cases hg
  rcases h'.2 with ⟨rfl, _⟩ | ⟨g2, cap2, cur2, rfl, _, h2, _⟩
  · cases q
  simp only [Value.ownBlock, Option.some.injEq] at hg q
  subst hg
  subst q
  rw [h1] at h2
  simp only [Option.some.injEq, Obj.cells.injEq] at h2
  exact hne h2.2.1
theorem own_blk1 (h : w.ownsRow base e 1 (.slice A n cap) n xs) (hn : 0 < n) : ∃ g ds, A = some ⟨g, 0, none⟩ ∧ base ≤ g ∧ Blk w g e (xs ++ ds).toArray := by
  rcases h.2 with ⟨h0, _⟩ | ⟨g, cap', cur, hv, hb, hh, h1, h2, h3, h4⟩
  · cases h0; omega
  · simp only [Value.slice.injEq] at hv
    refine ⟨g, cur.toList.drop n, hv.1, hb, ?_⟩
    unfold Blk
    rw [hh]
    congr 2
    rw [Nat.mul_one] at h4
    rw [← h4, List.take_append_drop]
theorem own_blkN (h : w.ownsRow base e size (.slice A n cap) n xs) (hn : 0 < n) : ∃ g ds, A = some ⟨g, 0, none⟩ ∧ base ≤ g ∧ Blk w g e (xs ++ ds).toArray := by
  rcases h.2 with ⟨h0, _⟩ | ⟨g, cap', cur, hv, hb, hh, h1, h2, h3, h4⟩
  · cases h0; omega
  · simp only [Value.slice.injEq] at hv
    refine ⟨g, cur.toList.drop (n * size), hv.1, hb, ?_⟩
    unfold Blk
    rw [hh]
    congr 2
    rw [← h4, List.take_append_drop]
theorem own_form (h : w.ownsRow base e size (.slice A n cap) n xs) : (A = none ∧ n = 0 ∧ cap = 0) ∨ ∃ g, A = some ⟨g, 0, none⟩ := by
  rcases h.2 with ⟨h0, hn⟩ | ⟨g, cap', cur, hv, _⟩
  · injection h0 with h1 h2 h3
    exact .inl ⟨h1, hn, h3⟩
  · injection hv with h1
    exact .inr ⟨g, h1⟩
theorem own_cap (h : w.ownsRow base e size (.slice A n cap) n xs) : n ≤ cap := by
  rcases h.2 with ⟨h0, hn⟩ | ⟨g, cap', cur, hv, _, _, h1, _⟩
  · omega
  · simp only [Value.slice.injEq] at hv
    omega
theorem own_nil (h : w.ownsRow base e size (.slice A n cap) n xs) : A = none → n = 0 ∧ cap = 0 := by
  rintro rfl
  rcases h.2 with ⟨h0, _⟩ | ⟨g, cap', cur, hv, _⟩
  · cases h0; exact ⟨rfl, rfl⟩
  · cases hv
end
end Go.Proofs.Ytegcbdfilkecpaa
