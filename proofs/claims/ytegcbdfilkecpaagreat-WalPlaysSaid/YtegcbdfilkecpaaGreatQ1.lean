/- Texts of this proof, one behind the other: lemmas and contracts; each says its own conditions. -/
import Derived.Maps.RangeWalk
import Derived.Maps.Views
import Derived.Deep.RegionWith
import Derived.Deep.Cut
import Derived.Deep.CutRange
import Derived.Deep.DeepCutAuto
import Derived.Deep.LoopGhost
import Derived.Deep.RegionHeld3
import Derived.Deep.RegionLaw
import Derived.Deep.DeepFit
import Derived.Deep.DeepMust
import Derived.StillTailTactics
import Derived.Maps.AppendAt
import Derived.Deep.AppendLies
import Derived.WalkKit
import Derived.Deep.MidRow
import Derived.Deep.WholeRow
import Derived.Laws.ResultCell
import Derived.WalkLawsBesides
import Derived.WalkSpells
import Derived.Deep.QuietTactic
import Derived.BigQuiet
import Derived.Lib.Hide
import Derived.Laws.Rows
import Derived.Below
import Derived.Laws.OwnMore
import Derived.Deep.Draws
import Derived.Test.YtegcbdfilkecpaaGreatProg
import Derived.Lib.LazyBuf
import Derived.Laws.AppendOwnNone
import Derived.Lib.AppendZeros
import Derived.Lib.AppendZerosOnto
namespace Go.Proofs.YtegcbdfilkecpaaGreat
theorem zh {p : Prop} (h : p) : Go.RowKit.Hid p := h
section
open Go
structure Fe where
 nm : ByteArray
 fb : Nat
 seen : List Int
 kept : List Int
def kOf (s : ByteArray) : List UInt8 := s.data.toList
theorem kOf_inj {s s' : ByteArray} (h : kOf s = kOf s') : s = s' := by
 cases s; cases s'; simp [kOf] at h; simp [h]
def findF (fs : List Fe) (k : List UInt8) : Option Fe := fs.find? fun e => kOf e.nm == k
theorem findF_some {fs : List Fe} {k : List UInt8} {e : Fe} (h : findF fs k = some e) : e ∈ fs ∧ kOf e.nm = k := by
 unfold findF at h
 exact ⟨List.mem_of_find?_eq_some h, by simpa using List.find?_some h⟩
def Names (fs : List Fe) : Prop := fs.Pairwise fun x y => kOf x.nm ≠ kOf y.nm
theorem Names.find {fs : List Fe} (h : Names fs) {e : Fe} (he : e ∈ fs) : findF fs (kOf e.nm) = some e := by
 unfold findF
 induction fs with
 | nil => simp at he
 | cons x fs ih =>
  obtain ⟨h1, h2⟩ := List.pairwise_cons.1 h
  rcases List.mem_cons.1 he with rfl | he'
  ·simp
  ·have := h1 e he'
   rw [List.find?_cons_of_neg (by simpa using this)]
   exact ih h2 he'
def putF (fs : List Fe) (e : Fe) : List Fe := match fs with
 | [] => [e]
 | x :: r => if kOf x.nm = kOf e.nm then e :: r else x :: putF r e
theorem putF_find (fs : List Fe) (e : Fe) (k : List UInt8) : findF (putF fs e) k = if kOf e.nm = k then some e else findF fs k := by
 induction fs with
 | nil =>
  unfold putF findF
  by_cases h : kOf e.nm = k <;> simp [h]
 | cons x r ih =>
  unfold putF
  by_cases h : kOf x.nm = kOf e.nm
  ·rw [if_pos h]
   unfold findF
   by_cases hk : kOf e.nm = k
   ·simp [hk]
   ·simp [hk, h]
  ·rw [if_neg h]
   unfold findF at ih ⊢
   by_cases hk : kOf x.nm = k
   ·have : kOf e.nm ≠ k := fun q => h (hk.trans q.symm)
    simp [hk, this]
   ·simp only [List.find?_cons, show (kOf x.nm == k) = false by simpa using hk]
    exact ih
theorem putF_mem {fs : List Fe} {e x : Fe} (h : x ∈ putF fs e) : x = e ∨ (x ∈ fs ∧ (Names fs → kOf x.nm ≠ kOf e.nm)) := by
 induction fs with
 | nil => simp [putF] at h; exact .inl h
 | cons y r ih =>
  unfold putF at h
  split at h
  ·rename_i hy
   rcases List.mem_cons.1 h with rfl | hx
   ·exact .inl rfl
   ·refine .inr ⟨List.mem_cons_of_mem _ hx, fun hn => ?_⟩
    have := (List.pairwise_cons.1 hn).1 x hx
    rw [hy] at this
    exact fun q => this q.symm
  ·rename_i hy
   rcases List.mem_cons.1 h with rfl | hx
   ·exact .inr ⟨List.mem_cons_self .., fun _ => hy⟩
   ·rcases ih hx with rfl | ⟨hm, hn⟩
    ·exact .inl rfl
    ·exact .inr ⟨List.mem_cons_of_mem _ hm, fun q => hn (List.pairwise_cons.1 q).2⟩
theorem putF_names {fs : List Fe} (h : Names fs) (e : Fe) : Names (putF fs e) := by
 induction fs with
 | nil => simp [putF, Names]
 | cons y r ih =>
  obtain ⟨h1, h2⟩ := List.pairwise_cons.1 h
  unfold putF
  split
  ·rename_i hy
   exact List.pairwise_cons.2 ⟨fun x hx => by rw [← hy]; exact h1 x hx, h2⟩
  ·rename_i hy
   refine List.pairwise_cons.2 ⟨fun x hx => ?_, ih h2⟩
   rcases putF_mem hx with rfl | ⟨hm, _⟩
   ·exact hy
   ·exact h1 x hm
def restSum (left : List UInt8 → Bool) : List Fe → Nat
 | [] => 0
 | e :: r => (if left (kOf e.nm) then 0 else e.seen.length) + restSum left r
theorem restSum_same {l l' : List UInt8 → Bool} {fs : List Fe} (h : ∀ e ∈ fs, l (kOf e.nm) = l' (kOf e.nm)) : restSum l fs = restSum l' fs := by
 induction fs with
 | nil => rfl
 | cons x r ih =>
  simp only [restSum]
  rw [h x (List.mem_cons_self ..), ih fun e he => h e (List.mem_cons_of_mem _ he)]
theorem restSum_step {fs : List Fe} (hn : Names fs) {left : List UInt8 → Bool} {e : Fe} (he : e ∈ fs) (hl : left (kOf e.nm) = true) :
  restSum (fun z => left z && !(z == kOf e.nm)) fs = restSum left fs + e.seen.length := by
 induction fs with
 | nil => simp at he
 | cons x r ih =>
  obtain ⟨h1, h2⟩ := List.pairwise_cons.1 hn
  simp only [restSum]
  rcases List.mem_cons.1 he with rfl | he'
  ·rw [restSum_same (l' := left) (fun y hy => by
    have := h1 y hy
    have e : (kOf y.nm == kOf e.nm) = false := by simpa using fun q => this q.symm
    simp [e])]
   simp [hl]; omega
  ·rw [ih h2 he']
   have := h1 e he'
   have e2 : (kOf x.nm == kOf e.nm) = false := by simpa using this
   simp [e2]; omega
theorem restSum_none {left : List UInt8 → Bool} {fs : List Fe} (h : ∀ e ∈ fs, left (kOf e.nm) = true) : restSum left fs = 0 := by
 induction fs with
 | nil => rfl
 | cons x r ih =>
  simp only [restSum]
  rw [h x (List.mem_cons_self ..), ih fun e he => h e (List.mem_cons_of_mem _ he)]
  simp
def allSum (fs : List Fe) : Nat := (fs.map (·.seen.length)).sum
theorem restSum_all {left : List UInt8 → Bool} {fs : List Fe} (h : ∀ e ∈ fs, left (kOf e.nm) = false) : restSum left fs = allSum fs := by
 induction fs with
 | nil => rfl
 | cons x r ih =>
  simp only [restSum]
  rw [h x (List.mem_cons_self ..), ih fun e he => h e (List.mem_cons_of_mem _ he)]
  simp [allSum]
def ptrV (b : Nat) : Value := .pointer (some ⟨b, 0, none⟩)
def Rp : Value → Option (DataW Value × List MemPlace)
 | .pointer p => some (.held (.pointer p), [])
 | _ => none
theorem Rp_inv {v : Value} {y : DataW Value × List MemPlace} (h : Rp v = some y) : ∃ p, v = .pointer p ∧ y = (.held (.pointer p), []) := by
 cases v <;> simp [Rp] at h
 exact ⟨_, rfl, h.symm⟩
def foundV (fs : List Fe) (k : List UInt8) : Value := match findF fs k with | some e => ptrV e.fb | none => .pointer none
structure MpD (D : DataW Value) (fs : List Fe) : Prop where
 at_ : ∀ k z, D.atKey (.string k) z = match findF fs k with | some e => .held (ptrV e.fb) | none => z
theorem MpD.nil : MpD (.map []) [] := ⟨fun k z => by simp [findF, DataW.atKey]⟩
theorem MpD.has {D : DataW Value} {fs : List Fe} (h : MpD D fs) (k : List UInt8) : Maps.has D (.string k) = (findF fs k).isSome := by
 cases hf : findF fs k with
 | none => exact Maps.has_false_of_atKey fun z => by rw [h.at_, hf]
 | some e => exact Maps.has_true_of_atKey (y := .held (ptrV e.fb)) fun z => by rw [h.at_, hf]
theorem MpD.put {D : DataW Value} {fs : List Fe} (h : MpD D fs) (hm : Maps.IsMap D) (e : Fe) (hw : WideAt.IsKeyLit (.string (kOf e.nm))) : MpD (D.put (.string (kOf e.nm)) (.held (ptrV e.fb))) (putF fs e) :=
 ⟨fun k z => by
  rw [putF_find]
  by_cases hk : kOf e.nm = k
  ·subst hk
   rw [if_pos rfl, Maps.atKey_put_same hm hw]
  ·rw [if_neg hk, Maps.atKey_put_other (fun q => hk (by injection q with q; exact q.symm)), h.at_]⟩
theorem MpD.same {D : DataW Value} {fs fs' : List Fe} (h : MpD D fs) (hs : ∀ k, (findF fs' k).map (·.fb) = (findF fs k).map (·.fb)) : MpD D fs' :=
 ⟨fun k z => by
  have := hs k
  rw [h.at_]
  cases h1 : findF fs k <;> cases h2 : findF fs' k <;> rw [h1, h2] at this <;> simp at this
  simp [this]⟩
end
section
open Go.RowKit
theorem add_mk (g o n : Nat) : (⟨g, o, none⟩ : Addr).add n = ⟨g, o + n, none⟩ := by
 unfold Addr.add; split <;> simp_all
section
variable {P : Program}
theorem run_index_arr (w : World) (T e n : Nat) (d : TypeDesc) (i : TypeInfo) (hT : P.underlying T = some (.array n e)) (he : P.underlying e = some d) (hd : (match d with | .struct _ | .array _ _ => true | _ => false) = false)
   (hi : P.info? e = some i) (h1 : i.size = 1) (xs : List Value) (k : Nat) (hk : k < n) (v : Value) (hv : xs[k]? = some v) :
   (Instr.index T (.agg xs.toArray) (.int .i64 k)).run P w = .ok v w := by
 have hagg : (isAgg e).run P w = .ok false w := by
   unfold isAgg
   rw [Sem.run_bind, run_underlying he w]
   cases d <;> simp_all
 simp [Instr.index, asIntOf, run_underlying hT, hk, part, hagg, Sem.run_bind, sizeOf, typeInfo, hi, h1, hv]
end
structure Kp (S : Nat → Prop) (w w' : World) : Prop where
 os : w'.os = w.os
 tape : w'.tape = w.tape
 output : w'.output = w.output
 size : w.heap.size ≤ w'.heap.size
 block : ∀ k, k < w.heap.size → ¬ S k → w'.heap[k]? = w.heap[k]?
def NoB : Nat → Prop := fun _ => False
def OnB (b : Nat) : Nat → Prop := fun k => k = b
theorem Kp.refl (S : Nat → Prop) (w : World) : Kp S w w := ⟨rfl, rfl, rfl, Nat.le_refl _, fun _ _ _ => rfl⟩
theorem Kp.trans {S S' : Nat → Prop} {a b c : World} (h : Kp S a b) (k : Kp S' b c) (hS : ∀ i, i < a.heap.size → S' i → S i) : Kp S a c :=
 ⟨k.os.trans h.os, k.tape.trans h.tape, k.output.trans h.output, Nat.le_trans h.size k.size, fun i hi hn => (k.block i (Nat.lt_of_lt_of_le hi h.size) (fun q => hn (hS i hi q))).trans (h.block i hi hn)⟩
theorem Kp.mono {S S' : Nat → Prop} {a b : World} (h : Kp S a b) (hS : ∀ i, i < a.heap.size → S i → S' i) : Kp S' a b :=
 ⟨h.os, h.tape, h.output, h.size, fun i hi hn => h.block i hi (fun q => hn (hS i hi q))⟩
theorem Kp.drew {S : Nat → Prop} {a w : World} (h : Kp S a w) : Kp S a w.drew := ⟨h.os, h.tape, h.output, h.size, h.block⟩
theorem Kp.drewN {S : Nat → Prop} {a w : World} (h : Kp S a w) (n : Nat) : Kp S a (w.drewN n) := ⟨h.os, h.tape, h.output, h.size, h.block⟩
theorem Kp.alloc {S : Nat → Prop} {a w : World} (h : Kp S a w) (o : Obj) : Kp S a (w.alloc o) :=
 ⟨h.os, h.tape, h.output, by have := h.size; simp; omega, fun i hi hn => (Below.heap_alloc w o i (Nat.lt_of_lt_of_le hi h.size)).trans (h.block i hi hn)⟩
theorem Kp.setCell {S : Nat → Prop} {a w : World} (h : Kp S a w) {p : Addr} (hp : a.heap.size ≤ p.block ∨ S p.block) (u : Value) : Kp S a (w.setCell p u) :=
 ⟨h.os, h.tape, h.output, by have := h.size; simpa [World.setCell] using this, fun i hi hn =>
  (Below.heap_setCell w p u i (fun e => by subst e; rcases hp with hp | hp; · omega
                                           ·exact hn hp)).trans (h.block i hi hn)⟩
theorem Kp.grown {S : Nat → Prop} {a w w' : World} {row : Option Nat} (h : Kp S a w) (hg : w.grownBy w' row) (hr : ∀ k, row = some k → a.heap.size ≤ k ∨ S k) : Kp S a w' :=
 h.trans (S' := fun k => row = some k) ⟨hg.os, hg.tape, hg.output, hg.size, fun i hi hn => hg.block i hi (fun e => hn e.symm)⟩ (fun i hi e => by
  rcases hr i e with q | q
  ·omega
  ·exact q)
theorem Kp.below {S : Nat → Prop} {w w' : World} (h : Kp S w w') {B : Nat} (hB : B ≤ w.heap.size) (hS : ∀ k, k < B → ¬ S k) : Below B w w' :=
 ⟨h.os, h.tape, h.output, h.size, fun k hk => h.block k (by omega) (hS k hk)⟩
theorem Kp.none_below {w w' : World} (h : Kp NoB w w') : Below w.heap.size w w' := h.below (Nat.le_refl _) (fun _ _ q => q)
theorem Kp.cell {S : Nat → Prop} {w w' : World} (h : Kp S w w') {g o : Nat} (hg : g < w.heap.size) (hn : ¬ S g) : w'.cell? ⟨g, o, none⟩ = w.cell? ⟨g, o, none⟩ :=
 World.cell?_of_block (w := w) (h.block g hg hn)
theorem Kp.lift {S : Nat → Prop} {w w' : World} (h : Kp S w w') {g : Nat} {o : Obj} (hg : w.heap[g]? = some o) (hn : ¬ S g) : w'.heap[g]? = some o :=
 (h.block g (by rcases Nat.lt_or_ge g w.heap.size with q | q
                ·exact q
                ·rw [Array.getElem?_eq_none q] at hg; cases hg) hn).trans hg
theorem lt_of_heap {w : World} {g : Nat} {o : Obj} (hg : w.heap[g]? = some o) : g < w.heap.size := by
 rcases Nat.lt_or_ge g w.heap.size with q | q
 ·exact q
 ·rw [Array.getElem?_eq_none q] at hg; cases hg
theorem own_ge {w : World} {base : Nat} {e : TypeId} {size n : Nat} {v : Value} {xs : List Value} (h : w.ownsRow base e size v n xs) : ∀ k, v.ownBlock = some k → base ≤ k := by
 intro k hk
 rcases h.2 with ⟨rfl, _⟩ | ⟨g, cap, cur, rfl, hb, _⟩
 ·simp [Value.ownBlock] at hk
 ·simp [Value.ownBlock] at hk
  omega
theorem Kp.own {S : Nat → Prop} {a w w' : World} {row : Option Nat} {v : Value} {e : TypeId} {size n : Nat} {xs : List Value} {w0 : World} (h : Kp S a w) (hg : w.grownBy w' row) (hv : row = v.ownBlock) (ho : w0.ownsRow a.heap.size e size v n xs) : Kp S a w' :=
 h.grown hg (fun k hk => .inl (own_ge ho k (hv ▸ hk)))
def Blk (w : World) (g : Nat) (t : TypeId) (cs : Array Value) : Prop := w.heap[g]? = some (.cells cs t (0, 0))
section
variable {w w' : World} {g : Nat} {t : TypeId} {cs : Array Value}
theorem Blk.lt (h : Blk w g t cs) : g < w.heap.size := lt_of_heap h
theorem Blk.cell (h : Blk w g t cs) (i : Nat) : w.cell? ⟨g, i, none⟩ = cs[i]? := cell_of_row w g i cs t (0, 0) h
theorem Blk.frozen (h : Blk w g t cs) (i : Nat) : w.frozen? ⟨g, i, none⟩ = false := frozen_of_row w g i cs t h
theorem Blk.new (w : World) (t : TypeId) (cs : Array Value) : Blk (w.alloc (.cells cs t)) w.heap.size t cs := heap_alloc_new w _
theorem Blk.drew (h : Blk w g t cs) : Blk w.drew g t cs := h
theorem Blk.drewN (h : Blk w g t cs) (n : Nat) : Blk (w.drewN n) g t cs := h
theorem Blk.alloc (h : Blk w g t cs) (o : Obj) : Blk (w.alloc o) g t cs := (Below.heap_alloc w o g h.lt).trans h
theorem Blk.set_ (h : Blk w g t cs) (i : Nat) (u : Value) : Blk (w.setCell ⟨g, i, none⟩ u) g t (cs.setIfInBounds i u) := by
 unfold Blk at h ⊢
 simp [World.setCell, Array.getElem?_modify, h]
theorem Blk.far (h : Blk w g t cs) {p : Addr} (hp : g ≠ p.block) (u : Value) : Blk (w.setCell p u) g t cs := (Below.heap_setCell w p u g hp).trans h
theorem Blk.keep {S : Nat → Prop} (h : Blk w g t cs) (k : Kp S w w') (hn : ¬ S g) : Blk w' g t cs := k.lift h hn
theorem Blk.row (h : Blk w g t cs) (cs' : Array Value) : Blk (w.setRow g cs') g t cs' := by
 unfold Blk at h ⊢
 simp [World.setRow, Array.getElem?_modify, h]
end
theorem Kp.setRow {S : Nat → Prop} {a w : World} (h : Kp S a w) {g : Nat} (hp : a.heap.size ≤ g ∨ S g) (cs : Array Value) : Kp S a (w.setRow g cs) :=
 ⟨h.os, h.tape, h.output, by have := h.size; simpa [World.setRow] using this, fun i hi hn => by
  have hne : i ≠ g := fun e => by
   subst e
   rcases hp with hp | hp
   ·omega
   ·exact hn hp
  simp only [World.setRow, Array.getElem?_modify]
  rw [if_neg (by omega)]
  exact h.block i hi hn⟩
theorem ret_cell_tmp {P : Program} {fn : Func} {p u : Tmp} {ty : TypeId} (h : fn.results = #[.cell p ty, .tmp u]) (tmps : Array Value) (w : World) (g : Nat) (t : TypeId) (cs : Array Value) (d : TypeDesc)
  (hp : tmps.getD p undef = .pointer (some ⟨g, 0, none⟩)) (hg : Blk w g t cs)
  (hu : P.underlying ty = some d) (hd : (match d with | .struct _ | .array _ _ => true | _ => false) = true) (hi : (P.info? ty).map (·.size) = some cs.size) (x : Value) (hx : tmps.getD u undef = x) :
  (results fn tmps).run P w = .ok (.tuple #[.agg cs, x]) w := by
 rw [results_cell_tmp h, hp]
 simp only [asAddr, Sem.run_pure, Result.andThen_ok, run_loadVar_row w g t ty cs (0, 0) d hg hu hd hi, hx]
section
variable {w w' : World} {base : Nat} {e : TypeId} {size n : Nat} {v : Value} {xs : List Value}
theorem own_slice (h : w.ownsRow base e size v n xs) : ∃ A cap, v = .slice A n cap := by
 rcases h.2 with ⟨rfl, rfl⟩ | ⟨g, cap, cur, rfl, _⟩
 ·exact ⟨_, _, rfl⟩
 ·exact ⟨_, _, rfl⟩
theorem own_at {A : Option Addr} {cap : Nat} (h : w.ownsRow base e size (.slice A n cap) n xs) (hn : 0 < n) : ∃ g, A = some ⟨g, 0, none⟩ ∧ base ≤ g ∧ g < w.heap.size := by
 obtain ⟨g, c, hv, hb, hl⟩ := h.form hn
 injection hv with h1
 exact ⟨g, h1, hb, hl⟩
end
theorem _root_.Go.World.ownsRow.mono {w : World} {base base' : Nat} {e : TypeId} {size n : Nat} {v : Value} {xs : List Value} (h : w.ownsRow base e size v n xs) (hb : base' ≤ base) : w.ownsRow base' e size v n xs := by
 refine ⟨h.1, ?_⟩
 rcases h.2 with hn | ⟨g, cap, cur, rfl, hg, rest⟩
 ·exact .inl hn
 ·exact .inr ⟨g, cap, cur, rfl, by omega, rest⟩
def spl : Array Value → Nat → List Value → Array Value
 | cs, _, [] => cs
 | cs, o, v :: r => spl (cs.setIfInBounds o v) (o + 1) r
theorem spl_eq : ∀ (xs xa xb xd : List Value), xb.length = xs.length → spl (xa ++ xb ++ xd).toArray xa.length xs = (xa ++ xs ++ xd).toArray
 | [], xa, xb, xd, h => by
  have : xb = [] := List.eq_nil_of_length_eq_zero (by simpa using h)
  subst this; rfl
 | v :: r, xa, [], xd, h => by simp at h
 | v :: r, xa, b :: xb, xd, h => by
  have h' : xb.length = r.length := by simpa using h
  have e := spl_eq r (xa ++ [v]) xb xd h'
  simp only [List.length_append, List.length_cons, List.length_nil, Nat.zero_add] at e
  have e2 : (xa ++ b :: xb ++ xd).toArray.setIfInBounds xa.length v = (xa ++ [v] ++ xb ++ xd).toArray := by
   rw [List.setIfInBounds_toArray]
   congr 1
   rw [List.append_assoc, List.set_append_right _ _ (Nat.le_refl _), Nat.sub_self]
   simp
  show spl ((xa ++ b :: xb ++ xd).toArray.setIfInBounds xa.length v) (xa.length + 1) r = _
  rw [e2, e]
  simp
section
variable {w w' : World} {g : Nat} {t : TypeId} {cs : Array Value}
theorem Blk.cells {g : Nat} : ∀ (xs : List Value) (o : Nat) (w : World) (cs : Array Value), Blk w g t cs → Blk (w.setCells g o xs) g t (spl cs o xs)
 | [], _, _, _, h => h
 | v :: r, o, w, cs, h => Blk.cells r (o + 1) _ _ (h.set_ o v)
theorem Blk.cellsL {xa xb xd xs : List Value} (h : Blk w g t (xa ++ xb ++ xd).toArray) (o : Nat) (ho : xa.length = o) (hl : xb.length = xs.length) : Blk (w.setCells g o xs) g t (xa ++ xs ++ xd).toArray := by
 subst ho
 have := Blk.cells xs xa.length w _ h
 rw [spl_eq xs xa xb xd hl] at this
 exact this
theorem Blk.farCells {g' : Nat} (hne : g ≠ g') : ∀ (xs : List Value) (o : Nat) (w : World), Blk w g t cs → Blk (w.setCells g' o xs) g t cs
 | [], _, _, h => h
 | v :: r, o, w, h => Blk.farCells hne r (o + 1) _ (h.far (p := ⟨g', o, none⟩) hne v)
theorem Blk.there (h : Blk w g t cs) {o n : Nat} (hn : o + n ≤ cs.size) : w.there g o n := fun j hj => by
 refine ⟨?_, h.frozen _⟩
 rw [h.cell, Array.getElem?_eq_getElem (by omega)]; rfl
theorem Blk.range {xa xb xd : List Value} (h : Blk w g t (xa ++ xb ++ xd).toArray) (o : Nat) (ho : xa.length = o) : w.rangeAt g o xb := fun j v hv => by
 subst ho
 rw [h.cell]
 have hj : j < xb.length := (List.getElem?_eq_some_iff.1 hv).1
 simp only [List.getElem?_toArray]
 rw [List.append_assoc, List.getElem?_append_right (by omega), Nat.add_sub_cancel_left, List.getElem?_append_left hj]
 exact hv
end
theorem Kp.setCells {S : Nat → Prop} {a : World} {g : Nat} (hp : a.heap.size ≤ g ∨ S g) : ∀ (xs : List Value) (o : Nat) (w : World), Kp S a w → Kp S a (w.setCells g o xs)
 | [], _, _, h => h
 | v :: r, o, _, h => Kp.setCells hp r (o + 1) _ (h.setCell (p := ⟨g, o, none⟩) hp v)
theorem size_setCells (g : Nat) : ∀ (xs : List Value) (o : Nat) (w : World), (w.setCells g o xs).heap.size = w.heap.size
 | [], _, _ => rfl
 | v :: r, o, w => (size_setCells g r (o + 1) _).trans (by simp [World.setCell])
theorem forget {p : World → Prop} {w : World} (inv : World → Prop) (h : inv w) (k : ∀ w', inv w' → p w') : p w := k w h
def readRow (w : World) (g o n : Nat) : Array Value := ((List.range n).map fun j => (w.cell? ⟨g, o + j, none⟩).getD undef).toArray
section
variable {P : Program}
theorem loadAt_row {T n : Nat} {d : TypeDesc} (hu : P.underlying T = some d) (hd : d.isRow = true) (hi : (P.info? T).map (·.size) = some n) (w : World) (g o : Nat) (h : w.there g o n) :
  (Instr.loadAt T (.pointer (some ⟨g, o, none⟩))).run P w = .ok (.agg (readRow w g o n)) w := by
 refine run_loadAt_mid w g o T ((List.range n).map fun j => (w.cell? ⟨g, o + j, none⟩).getD undef) d (fun j v hv => ?_) hu hd (by simpa using hi)
 rw [List.getElem?_map] at hv
 rcases Nat.lt_or_ge j n with hj | hj
 ·rw [List.getElem?_range hj] at hv
  simp only [Option.map_some, Option.some.injEq] at hv
  have := (h j hj).1
  obtain ⟨u, hu⟩ := Option.isSome_iff_exists.1 this
  rw [hu] at hv ⊢
  simpa using hv
 ·rw [List.getElem?_eq_none (by simpa using hj)] at hv
  cases hv
theorem storeAt_row {T n : Nat} (hi : (P.info? T).map (·.size) = some n) (w : World) (g o : Nat) (cs : Array Value) (hc : cs.size = n) (h1 : cs.all (·.oneCell') = true) (h : w.there g o n) :
  (Instr.storeAt T (.pointer (some ⟨g, o, none⟩)) (.agg cs)).run P w = .ok () (w.setCells g o cs.toList) := by
 simp only [Instr.storeAt, Instr.sureAddr, Sem.run_bind, Sem.run_pure, Result.andThen_ok]
 exact run_storeVar_mid w g o T cs (by rw [hc]; exact h) (by rw [hc]; exact hi) h1
end
theorem Blk.read {w : World} {g : Nat} {t : TypeId} {xa xb xd : List Value} (h : Blk w g t (xa ++ xb ++ xd).toArray) (o n : Nat) (ho : xa.length = o) (hn : xb.length = n) : readRow w g o n = xb.toArray := by
 subst ho; subst hn
 unfold readRow
 congr 1
 apply List.ext_getElem
 ·simp
 ·intro j h1 h2
  simp only [List.getElem_map, List.getElem_range]
  rw [h.cell]
  simp only [List.getElem?_toArray]
  rw [List.append_assoc, List.getElem?_append_right (by omega), Nat.add_sub_cancel_left, List.getElem?_append_left (by simpa using h1), List.getElem?_eq_getElem (by simpa using h1)]
  rfl
theorem Blk.readAll {w : World} {g : Nat} {t : TypeId} {cs : Array Value} (h : Blk w g t cs) (n : Nat) (hn : cs.size = n) : readRow w g 0 n = cs := by
 have := Blk.read (xa := []) (xb := cs.toList) (xd := []) (by simpa using h) 0 n rfl (by simpa using hn)
 simpa using this
theorem readRow_congr {w w' : World} {g o n : Nat} (h : w'.heap[g]? = w.heap[g]?) : readRow w' g o n = readRow w g o n := by
 unfold readRow
 congr 2
 funext j
 rw [World.cell?_of_block (w := w) (w' := w') (a := ⟨g, o + j, none⟩) h]
theorem there_congr {w w' : World} {g o n : Nat} (h : w'.heap[g]? = w.heap[g]?) (ht : w.there g o n) : w'.there g o n := fun j hj => by
 rw [World.cell?_of_block (w := w) (w' := w') (a := ⟨g, o + j, none⟩) h, World.frozen?_of_block (w := w) (w' := w') (a := ⟨g, o + j, none⟩) h]
 exact ht j hj
@[simp, go_sem] theorem readRow_drew (w : World) (g o n : Nat) : readRow w.drew g o n = readRow w g o n := rfl
def thereP (w : World) : Value → Nat → Prop
 | .pointer (some ⟨g, o, none⟩), n => w.there g o n
 | _, _ => False
def readP (w : World) : Value → Nat → Array Value
 | .pointer (some ⟨g, o, none⟩), n => readRow w g o n
 | _, _ => #[]
def setP (w : World) : Value → Value → World
 | .pointer (some ⟨g, o, none⟩), .agg cs => w.setCells g o cs.toList
 | _, _ => w
def ones (cs : Array Value) : Prop := cs.all (·.oneCell') = true
def aggOK : Value → Nat → Prop
 | .agg cs, n => cs.size = n ∧ ones cs
 | _, _ => False
@[go_sem] theorem thereP_mk (w : World) (g o n : Nat) : thereP w (.pointer (some ⟨g, o, none⟩)) n = w.there g o n := rfl
@[go_sem] theorem readP_mk (w : World) (g o n : Nat) : readP w (.pointer (some ⟨g, o, none⟩)) n = readRow w g o n := rfl
@[go_sem] theorem setP_mk (w : World) (g o : Nat) (cs : Array Value) : setP w (.pointer (some ⟨g, o, none⟩)) (.agg cs) = w.setCells g o cs.toList := rfl
@[go_sem] theorem aggOK_mk (cs : Array Value) (n : Nat) : aggOK (.agg cs) n = (cs.size = n ∧ ones cs) := rfl
section
variable {P : Program}
theorem loadAt_P {T n : Nat} {d : TypeDesc} (hu : P.underlying T = some d) (hd : d.isRow = true) (hi : (P.info? T).map (·.size) = some n) (w : World) (p : Value) (h : thereP w p n) :
  (Instr.loadAt T p).run P w = .ok (.agg (readP w p n)) w := by
 unfold thereP at h
 split at h
 ·exact loadAt_row hu hd hi w _ _ h
 ·exact h.elim
theorem storeAt_P {T n : Nat} (hi : (P.info? T).map (·.size) = some n) (w : World) (p v : Value) (hv : aggOK v n) (h : thereP w p n) :
  (Instr.storeAt T p v).run P w = .ok () (setP w p v) := by
 unfold thereP at h
 split at h
 ·unfold aggOK at hv
  split at hv
  ·exact storeAt_row hi w _ _ _ hv.1 hv.2 h
  ·exact hv.elim
 ·exact h.elim
theorem execLoad_P {T n : Nat} {d : TypeDesc} (hu : P.underlying T = some d) (hd : d.isRow = true) (hi : (P.info? T).map (·.size) = some n) (w : World) (ev : Operand → Value) (ds : Option Tmp) (x : Operand) (ty : TypeId) (ps : String) (af : Array Edge) (g : Option (Nat × Bool)) (h : thereP w (ev x) n) :
  (execOp ev ⟨ds, .load T x, ty, ps, af, g⟩).run P w = .ok (.value (.agg (readP w (ev x) n))) w := by
 simp only [execOp, Sem.run_bind, Sem.run_pure, Result.andThen_ok, loadAt_P hu hd hi w (ev x) h]
theorem execStore_P {T n : Nat} (hi : (P.info? T).map (·.size) = some n) (w : World) (ev : Operand → Value) (ds : Option Tmp) (x y : Operand) (ty : TypeId) (ps : String) (af : Array Edge) (g : Option (Nat × Bool)) (hv : aggOK (ev y) n) (h : thereP w (ev x) n) :
  (execOp ev ⟨ds, .store T x y, ty, ps, af, g⟩).run P w = .ok .skip (setP w (ev x) (ev y)) := by
 simp only [execOp, Sem.run_bind, Sem.run_pure, Result.andThen_ok, storeAt_P hi w (ev x) (ev y) hv h]
end
theorem Blk.newAt (w : World) (t : TypeId) (cs : Array Value) (g : Nat) (h : w.heap.size = g) : Blk (w.alloc (.cells cs t)) g t cs := by
 subst h; exact Blk.new w t cs
theorem Blk.whole {w : World} {g : Nat} {t : TypeId} {cs : Array Value} (h : Blk w g t cs) (ds : Array Value) (hl : cs.size = ds.size) : Blk (w.setCells g 0 ds.toList) g t ds := by
 have := Blk.cellsL (xa := []) (xb := cs.toList) (xd := []) (xs := ds.toList) (by simpa using h) 0 rfl (by simpa using hl)
 simpa using this
theorem Blk.thereAll {w : World} {g : Nat} {t : TypeId} {cs : Array Value} (h : Blk w g t cs) (n : Nat) (hn : cs.size = n) : w.there g 0 n := Blk.there h (by omega)
def sliceV : Value → Value → Value → Nat → Value
 | .pointer (some ⟨g, o, none⟩), .int _ lo, .int _ hi, n => .slice (some (if n = lo.toNat then ⟨g, o, none⟩ else ⟨g, o + lo.toNat, none⟩)) (hi.toNat - lo.toNat) (n - lo.toNat)
 | _, _, _, _ => undef
def sliceOK : Value → Value → Value → Nat → Prop
 | .pointer (some ⟨_, _, none⟩), .int .i64 lo, .int .i64 hi, n => 0 ≤ lo ∧ lo ≤ hi ∧ hi ≤ n
 | _, _, _, _ => False
@[go_sem] theorem sliceV_mk (g o n : Nat) (k k' : IntKind) (lo hi : Int) : sliceV (.pointer (some ⟨g, o, none⟩)) (.int k lo) (.int k' hi) n = .slice (some (if n = lo.toNat then ⟨g, o, none⟩ else ⟨g, o + lo.toNat, none⟩)) (hi.toNat - lo.toNat) (n - lo.toNat) := rfl
@[go_sem] theorem sliceOK_mk (g o n : Nat) (lo hi : Int) : sliceOK (.pointer (some ⟨g, o, none⟩)) (.int .i64 lo) (.int .i64 hi) n = (0 ≤ lo ∧ lo ≤ hi ∧ hi ≤ n) := rfl
section
variable {P : Program}
theorem sliceAt_V {T n : Nat} {e : TypeId} (hu : P.underlying T = some (.array n e)) (he : (P.info? e).map (·.size) = some 1) (w : World) (g o : Nat) (l h : Option Value) (lo hi : Nat)
  (hb : (Instr.sliceBounds false n n l h none).run P w = .ok (lo, hi, n) w) :
  (Instr.sliceAt T (.pointer (some ⟨g, o, none⟩)) l h none).run P w = .ok (.slice (some (if n = lo then ⟨g, o, none⟩ else ⟨g, o + lo, none⟩)) (hi - lo) (n - lo)) w := by
 cases hq : P.info? e with
 | none => simp [hq] at he
 | some i =>
  have hs : i.size = 1 := by simpa [hq] using he
  simp only [Instr.sliceAt, Sem.run_bind, run_underlying hu, Result.andThen_ok, Instr.sureAddr, Sem.run_pure, hb, sizeOf, typeInfo]
  simp [hq, hs, add_mk]
theorem bound_ok (w : World) (k : IntKind) (v : Int) (n : Nat) (kind : BoundsCode) (h0 : 0 ≤ v) (h1 : v ≤ n) : (Instr.sliceBound (.int k v) n kind).run P w = .ok v.toNat w := by
 simp [Instr.sliceBound, asIntOf, h0, h1]
theorem sliceOK_inv {x l h : Value} {n : Nat} (hk : sliceOK x l h n) : ∃ g o lo hi, x = .pointer (some ⟨g, o, none⟩) ∧ l = .int .i64 lo ∧ h = .int .i64 hi ∧ 0 ≤ lo ∧ lo ≤ hi ∧ hi ≤ n := by
 unfold sliceOK at hk
 split at hk
 ·exact ⟨_, _, _, _, rfl, rfl, rfl, hk⟩
 ·exact hk.elim
theorem execSlice_lo {T n : Nat} {e : TypeId} (hu : P.underlying T = some (.array n e)) (he : (P.info? e).map (·.size) = some 1) (w : World) (ev : Operand → Value) (ds : Option Tmp) (x lo : Operand) (ty : TypeId) (ps : String) (af : Array Edge) (g : Option (Nat × Bool))
  (h : sliceOK (ev x) (ev lo) (.int .i64 n) n) : (execOp ev ⟨ds, .slice T x (some lo) none none, ty, ps, af, g⟩).run P w = .ok (.value (sliceV (ev x) (ev lo) (.int .i64 n) n)) w := by
 obtain ⟨g', o', v1, v2, hx, hl, e1, h0, h1, h2⟩ := sliceOK_inv h
 injection e1 with _ e1
 subst e1
 have hb : (Instr.sliceBounds false n n (some (.int .i64 v1)) none none).run P w = .ok (v1.toNat, n, n) w := by
  simp [Instr.sliceBounds, bound_ok w .i64 v1 n _ h0 h1]
 simp only [execOp, hx, hl, Option.map_some, Option.map_none, Sem.run_bind, sliceAt_V hu he w _ _ _ _ _ _ hb, Result.andThen_ok, Sem.run_pure, sliceV_mk, Int.toNat_natCast]
theorem execSlice_lohi {T n : Nat} {e : TypeId} (hu : P.underlying T = some (.array n e)) (he : (P.info? e).map (·.size) = some 1) (w : World) (ev : Operand → Value) (ds : Option Tmp) (x lo hi : Operand) (ty : TypeId) (ps : String) (af : Array Edge) (g : Option (Nat × Bool))
  (h : sliceOK (ev x) (ev lo) (ev hi) n) : (execOp ev ⟨ds, .slice T x (some lo) (some hi) none, ty, ps, af, g⟩).run P w = .ok (.value (sliceV (ev x) (ev lo) (ev hi) n)) w := by
 obtain ⟨g', o', v1, v2, hx, hl, hh, h0, h1, h2⟩ := sliceOK_inv h
 have hb : (Instr.sliceBounds false n n (some (.int .i64 v1)) (some (.int .i64 v2)) none).run P w = .ok (v1.toNat, v2.toNat, n) w := by
  simp [Instr.sliceBounds, bound_ok w .i64 v2 n _ (by omega) h2, bound_ok w .i64 v1 v2.toNat _ h0 (by omega)]
 simp only [execOp, hx, hl, hh, Option.map_some, Option.map_none, Sem.run_bind, sliceAt_V hu he w _ _ _ _ _ _ hb, Result.andThen_ok, Sem.run_pure, sliceV_mk]
end
end
section
open Go.RowKit
def bytesV (l : List Int) : Array Value := (l.map (Value.int .u8)).toArray
theorem bytesV_size (l : List Int) : (bytesV l).size = l.length := by simp [bytesV]
theorem bytesV_one (l : List Int) : ones (bytesV l) := by
 unfold ones bytesV
 simp only [List.all_toArray', List.all_map]
 simp [Value.oneCell']
theorem map_int_inj {k : IntKind} : ∀ {l m : List Int}, l.map (Value.int k) = m.map (Value.int k) → l = m
 | [], [], _ => rfl
 | [], _ :: _, h => by simp at h
 | _ :: _, [], h => by simp at h
 | a :: l, b :: m, h => by
  simp only [List.map_cons, List.cons.injEq, Value.int.injEq, true_and] at h
  rw [h.1, map_int_inj h.2]
def zeros (n : Nat) : List Int := List.replicate n 0
def strI (s : ByteArray) : List Int := s.data.toList.map fun b => (b.toNat : Int)
theorem strI_len (s : ByteArray) : (strI s).length = s.size := by simp [strI]
theorem wpList_copyS {P : Program} {w : World} {ops : Array Oper} {rest : List Oper} {o : Oper} {a : Act} {Q : Exit → Act → World → Prop} (hgd : o.guard = none) (x y : Operand) (dT sT elem : TypeId)
  (ho : o.op = .call { callee := .builtin .copy, args := #[x, y], argTypes := #[dT, sT] }) (hu : P.underlying dT = some (.slice elem)) (hz : ∀ w, (Go.sizeOf elem).run P w = .ok 1 w)
  (g0 o0 dLen dCap : Nat) (s : ByteArray) (hx : a.eval x = .slice (some ⟨g0, o0, none⟩) dLen dCap) (hy : a.eval y = .string s) (hle : s.size ≤ dLen) (ht : w.there g0 o0 s.size)
  (h : wpList P ops Q rest (a.put o.dst (.int .i64 s.size)) (w.setCells g0 o0 ((strI s).map (Value.int .u8)))) : wpList P ops Q (o :: rest) a w := by
 have hrun := Go.run_copy_string (P := P) w dT sT o.type elem g0 o0 dLen dCap s hu hz hle (fun j hj => (ht j hj).1) (fun j hj => (ht j hj).2)
 refine wpList_plain hgd fun K hK => ?_
 have e : (strI s).map (Value.int .u8) = s.data.toList.map fun x => Value.int .u8 (x.toNat : Int) := by
  unfold strI
  rw [List.map_map]
  rfl
 rw [e] at h
 unfold Oper.wp
 simp only [execOp, ho, resolve, invoke, builtin, Sem.run_bind, Sem.run_pure, Result.andThen_ok, List.map_toArray, List.map_cons, List.map_nil, hx, hy, hrun]
 exact hK _ _ h
theorem Blk.bytes {w : World} {g : Nat} {t : TypeId} {la lb ld lx : List Int} (h : Blk w g t (bytesV (la ++ lb ++ ld))) (o : Nat) (ho : la.length = o) (hl : lb.length = lx.length) : Blk (w.setCells g o (lx.map (Value.int .u8))) g t (bytesV (la ++ lx ++ ld)) := by
 have := Blk.cellsL (xa := la.map (Value.int .u8)) (xb := lb.map (Value.int .u8)) (xd := ld.map (Value.int .u8)) (xs := lx.map (Value.int .u8)) (by simpa [bytesV] using h) o (by simpa using ho) (by simpa using hl)
 simpa [bytesV] using this
theorem infoU8 : (Tryz.prog.info? 5).map (·.size) = some 1 := by kernel_rfl
theorem sizeU8 (w : World) : (Go.sizeOf 5).run Tryz.prog w = .ok 1 w := by kernel_rfl
def strOf (ns : List Int) : ByteArray := ⟨(ns.map fun n => UInt8.ofNat n.toNat).toArray⟩
theorem foldl_push (ns : List Int) : ∀ (s : ByteArray), ns.foldl (fun r n => r.push (UInt8.ofNat n.toNat)) s = ⟨s.data ++ (ns.map fun n => UInt8.ofNat n.toNat).toArray⟩ := by
 induction ns with
 | nil => intro s; simp
 | cons n ns ih =>
  intro s
  rw [List.foldl_cons, ih]
  simp [ByteArray.push]
theorem strOf_size (ns : List Int) : (strOf ns).size = ns.length := by simp [strOf, ByteArray.size]
theorem strI_strOf (ns : List Int) (h : ∀ n ∈ ns, 0 ≤ n ∧ n < 256) : strI (strOf ns) = ns := by
 unfold strI strOf
 simp only [List.map_map]
 conv => rhs; rw [← List.map_id ns]
 apply List.map_congr_left
 intro n hn
 obtain ⟨a, b⟩ := h n hn
 simp only [Function.comp, id]
 obtain ⟨k, rfl⟩ := Int.eq_ofNat_of_zero_le a
 have : k < 256 := by omega
 simp [UInt8.toNat_ofNat, Nat.mod_eq_of_lt this]
def byAt (w : World) (g o n : Nat) : Prop := ∀ j, j < n → ∃ v, w.cell? ⟨g, o + j, none⟩ = some (.int .u8 v)
def numOf : Option Value → Int
 | some (.int _ n) => n
 | _ => 0
def byRd (w : World) (g o n : Nat) : List Int := (List.range n).map fun j => numOf (w.cell? ⟨g, o + j, none⟩)
def bytesAt (w : World) : Value → Prop
 | .slice (some ⟨g, o, none⟩) n _ => byAt w g o n
 | _ => False
def strAt (w : World) : Value → Value
 | .slice (some ⟨g, o, none⟩) n _ => .string (strOf (byRd w g o n))
 | _ => undef
@[go_sem] theorem bytesAt_mk (w : World) (g o n c : Nat) : bytesAt w (.slice (some ⟨g, o, none⟩) n c) = byAt w g o n := rfl
@[go_sem] theorem strAt_mk (w : World) (g o n c : Nat) : strAt w (.slice (some ⟨g, o, none⟩) n c) = .string (strOf (byRd w g o n)) := rfl
@[simp, go_sem] theorem byAt_drew (w : World) (g o n : Nat) : byAt w.drew g o n = byAt w g o n := rfl
@[simp, go_sem] theorem byRd_drew (w : World) (g o n : Nat) : byRd w.drew g o n = byRd w g o n := rfl
theorem execConv_S {P : Program} {S D e : TypeId} (hs : P.underlying S = some (.slice e)) (he : P.underlying e = some (.int .u8)) (hd : P.underlying D = some .string) (w : World) (ev : Operand → Value) (ds : Option Tmp) (x : Operand) (ty : TypeId) (ps : String) (af : Array Edge) (g : Option (Nat × Bool)) (h : bytesAt w (ev x)) :
  (execOp ev ⟨ds, .convert S D x, ty, ps, af, g⟩).run P w = .ok (.value (strAt w (ev x))) w := by
 generalize hx : ev x = v at h
 unfold bytesAt at h
 split at h
 ·rename_i g' o' n' c'
  have hl : (loadCells ⟨g', o', none⟩ n').run P w = .ok ((byRd w g' o' n').map (Value.int .u8)).toArray w := by
   have := run_loadCells_list (P := P) w ⟨g', o', none⟩ ((byRd w g' o' n').map (Value.int .u8)) (fun j v hv => by
    rw [add_mk]
    unfold byRd at hv
    rw [List.map_map, List.getElem?_map] at hv
    rcases Nat.lt_or_ge j n' with hj | hj
    ·rw [List.getElem?_range hj] at hv
     simp only [Option.map_some, Option.some.injEq, Function.comp] at hv
     obtain ⟨u, hu⟩ := h j hj
     rw [hu] at hv ⊢
     rw [← hv]
     rfl
    ·rw [List.getElem?_eq_none (by simpa using hj)] at hv
     cases hv)
   simpa [byRd] using this
  simp only [execOp, hx, Sem.run_bind, run_convert_bytes_string w S D e _ _ _ hs he hd, run_bytesToString w _ _ _ _ hl, Result.andThen_ok, Sem.run_pure, foldl_push]
  simp [strAt, strOf]
 ·exact h.elim
theorem conv64 (w : World) (ev : Operand → Value) (ds : Option Tmp) (x : Operand) (ty : TypeId) (ps : String) (af : Array Edge) (g : Option (Nat × Bool)) (h : bytesAt w (ev x)) :
  (execOp ev ⟨ds, .convert 68 9 x, ty, ps, af, g⟩).run Tryz.prog w = .ok (.value (strAt w (ev x))) w := execConv_S Tryz.underlying68 Tryz.underlying5 Tryz.underlying9 w ev ds x ty ps af g h
theorem Blk.byAt {w : World} {g : Nat} {t : TypeId} {l : List Int} (h : Blk w g t (bytesV l)) (o n : Nat) (hn : o + n ≤ l.length) : byAt w g o n := fun j hj => by
 refine ⟨l[o + j]?.getD 0, ?_⟩
 rw [h.cell]
 unfold bytesV
 simp [show o + j < l.length by omega]
theorem Blk.byRd {w : World} {g : Nat} {t : TypeId} {l : List Int} (h : Blk w g t (bytesV l)) (o n : Nat) (hn : o + n ≤ l.length) : byRd w g o n = (l.drop o).take n := by
 unfold Go.Proofs.YtegcbdfilkecpaaGreat.byRd
 apply List.ext_getElem
 ·simp; omega
 ·intro j h1 h2
  have hj : j < n := by simpa using h1
  simp only [List.getElem_map, List.getElem_range, List.getElem_take, List.getElem_drop]
  rw [h.cell]
  unfold bytesV
  simp [show o + j < l.length by omega, numOf]
theorem ret_cell1 {P : Program} {fn : Func} {p : Tmp} {ty : TypeId} (h : fn.results = #[.cell p ty]) (tmps : Array Value) (w : World) (g : Nat) (t : TypeId) (cs : Array Value) (d : TypeDesc)
  (hp : tmps.getD p undef = .pointer (some ⟨g, 0, none⟩)) (hg : Blk w g t cs)
  (hu : P.underlying ty = some d) (hd : (match d with | .struct _ | .array _ _ => true | _ => false) = true) (hi : (P.info? ty).map (·.size) = some cs.size) :
  (results fn tmps).run P w = .ok (.agg cs) w := by
 have hp' : tmps[p]?.getD undef = .pointer (some ⟨g, 0, none⟩) := by simpa using hp
 simp [results, h, hp', asAddr, run_loadVar_row w g t ty cs (0, 0) d hg hu hd hi]
end
section
open Go
structure Cg where
 nm : ByteArray
 sec : Int
 n : Int
 s : List Int
def pad64 (l : List Int) : List Int := l ++ zeros (64 - l.length)
theorem pad64_full {l : List Int} (h : l.length = 64) : pad64 l = l := by unfold pad64; rw [h]; simp [zeros]
theorem pad64_len {l : List Int} (h : l.length ≤ 64) : (pad64 l).length = 64 := by unfold pad64; simp [zeros]; omega
theorem zeros_rng (n : Nat) : ∀ y ∈ zeros n, 0 ≤ y ∧ y < 256 := by
 intro y h
 have := List.eq_of_mem_replicate h
 omega
structure CgOk (c : Cg) : Prop where
 kind : (c.s = [] ∧ c.sec = -1 ∧ 0 ≤ c.n ∧ c.n ≤ 1048576) ∨ (c.s.length = 64 ∧ 0 ≤ c.sec ∧ c.sec ≤ 16384 ∧ c.n = 0)
 rng : ∀ y ∈ c.s, 0 ≤ y ∧ y < 256
 nl : c.nm.size ≤ maxLen
theorem CgOk.le {c : Cg} (h : CgOk c) : c.s.length ≤ 64 := by
 rcases h.kind with ⟨e, _⟩ | ⟨e, _⟩
 ·rw [e]; simp
 ·omega
theorem CgOk.pad {c : Cg} (h : CgOk c) : (pad64 c.s).length = 64 := pad64_len h.le
def wrp (n : Int) : Int := IntKind.i64.wrap n
theorem wrp_add (a b : Int) : wrp (wrp a + b) = wrp (a + b) := by unfold wrp; simp only [IntKind.wrap_i64]; omega
theorem wrp_id {a : Int} (h : -9223372036854775808 ≤ a ∧ a ≤ 9223372036854775807) : wrp a = a := by unfold wrp; rw [IntKind.wrap_i64]; omega
structure Pl where
 seen : ByteArray → List Int
 kept : ByteArray → List Int
 sum : Int
 ksum : Int
 nf : Nat
 pd : List Cg
 room : Int
 steps : Int
 crash : Int
 down : Bool
 starts : Int
def sizedF (l : List Int) (n : Nat) : List Int := if n ≤ l.length then l.take n else l ++ List.replicate (n - l.length) 0
theorem sizedF_len (l : List Int) (n : Nat) : (sizedF l n).length = n := by
 unfold sizedF
 split <;> simp <;> omega
theorem sizedF_rng {l : List Int} (h : ∀ x ∈ l, 0 ≤ x ∧ x < 256) (n : Nat) : ∀ x ∈ sizedF l n, 0 ≤ x ∧ x < 256 := by
 intro x hx
 unfold sizedF at hx
 split at hx
 ·exact h x (List.mem_of_mem_take hx)
 ·rcases List.mem_append.1 hx with q | q
  ·exact h x q
  ·have := List.eq_of_mem_replicate q
   omega
def upd (f : ByteArray → List Int) (s : ByteArray) (l : List Int) : ByteArray → List Int := fun t => if t = s then l else f t
theorem upd_same (f : ByteArray → List Int) (s : ByteArray) (l : List Int) : upd f s l s = l := by simp [upd]
theorem upd_self (f : ByteArray → List Int) (s : ByteArray) : upd f s (f s) = f := by funext t; unfold upd; split <;> simp_all
namespace Pl
def new (r : Int) : Pl := ⟨fun _ => [], fun _ => [], 0, 0, 0, [], max 0 r, 0, 0, false, 0⟩
def setSeen (p : Pl) (s : ByteArray) (l : List Int) : Pl := { p with seen := upd p.seen s l, sum := p.sum - (p.seen s).length + l.length }
def setKept (p : Pl) (s : ByteArray) (l : List Int) : Pl := { p with kept := upd p.kept s l, ksum := p.ksum - (p.kept s).length + l.length }
def at_ (p : Pl) : Pl := { p with nf := p.nf + 1 }
def pend (p : Pl) (l : List Cg) : Pl := { p with pd := p.pd ++ l }
def wrong (p : Pl) : Int := if p.down then 7 else 0
def stepE (p : Pl) : Int := if p.crash = 1 then 7 else 0
def step (p : Pl) : Pl := { p with steps := wrp (p.steps + 1), crash := if 0 < p.crash then p.crash - 1 else p.crash, down := if p.crash = 1 then true else p.down }
def fits (p : Pl) (s : ByteArray) (n : Int) : Int :=
 if 1048576 < n then 3 else if ((p.seen s).length : Int) < n ∧ p.room < wrp (n - (p.seen s).length + p.sum) then 5 else 0
def length (p : Pl) (s : ByteArray) (n : Nat) : Pl :=
 if n = (p.seen s).length then p.at_ else (p.at_.setSeen s (sizedF (p.seen s) n)).pend [⟨s, -1, n, []⟩]
def readE (p : Pl) (at_ n : Int) : Int := if p.down then 7 else if at_ < 0 ∨ n < 0 then 2 else 0
def read (p : Pl) (s : ByteArray) (at_ n : Int) : List Int := if p.readE at_ n = 0 then ((p.seen s).drop at_.toNat).take n.toNat else []
def put (l : List Int) (a : Nat) (d : List Int) : List Int := l.take a ++ d ++ l.drop (a + d.length)
def sectors (s : ByteArray) (l : List Int) (a e : Nat) : List Cg := (List.range' (a / 64) ((e + 63) / 64 - a / 64)).map fun (k : Nat) => ⟨s, (k : Int), 0, sizedF (l.drop (k * 64)) 64⟩
def writeE (p : Pl) (s : ByteArray) (a : Int) (d : List Int) : Int :=
 if p.down then 7 else if a < 0 then 2 else if 1048576 < a ∨ 1048576 - a < d.length then 3 else if d = [] then p.stepE else
  if p.fits s (max (a + d.length) (p.seen s).length) ≠ 0 then p.fits s (max (a + d.length) (p.seen s).length) else p.stepE
def write1 (p : Pl) (s : ByteArray) (a : Nat) (d : List Int) : Pl :=
 let p1 := if (p.seen s).length < a + d.length then p.length s (a + d.length) else p
 let l := put (p1.seen s) a d
 ((p1.at_.setSeen s l).pend (sectors s l a (a + d.length))).step
def write (p : Pl) (s : ByteArray) (a : Int) (d : List Int) : Pl :=
 if p.down ∨ a < 0 ∨ 1048576 < a ∨ 1048576 - a < d.length then p else if d = [] then p.step else
  if p.fits s (max (a + d.length) (p.seen s).length) ≠ 0 then p else p.write1 s a.toNat d
def truncE (p : Pl) (s : ByteArray) (n : Int) : Int :=
 if p.down then 7 else if n < 0 then 2 else if p.fits s n ≠ 0 then p.fits s n else p.stepE
def trunc (p : Pl) (s : ByteArray) (n : Int) : Pl :=
 if p.down ∨ n < 0 ∨ p.fits s n ≠ 0 then p else (p.length s n.toNat).step
def syncE (p : Pl) : Int := if p.down then 7 else p.stepE
def sync (p : Pl) (s : ByteArray) : Pl :=
 if p.down then p else if p.stepE ≠ 0 then p.step else { p.step.at_.setKept s (p.seen s) with pd := p.pd.filter fun c => !decide (c.nm = s) }
def len (p : Pl) (s : ByteArray) : Nat := if p.down then 0 else (p.seen s).length
def setRoom (p : Pl) (r : Int) : Pl := { p with room := max 0 r }
def crashIn (p : Pl) (n : Int) : Pl := { p with crash := max 0 n }
def crashNow (p : Pl) : Pl := { p with down := true }
def made (l : List Int) (c : Cg) (ch : Int) : List Int :=
 if ch ≤ 0 then l else if c.sec < 0 then sizedF l c.n.toNat else
  put l (c.sec.toNat * 64) ((c.s.take (if 1 < ch then (1 + (ch - 2) % 63).toNat else 64)).take (l.length - c.sec.toNat * 64))
def survive (p : Pl) : List Cg → List Int → Pl
 | c :: cs, ch :: r => survive (p.at_.setKept c.nm (made (p.kept c.nm) c ch)) cs r
 | _, _ => p
def restartE (p : Pl) : Int := if p.down then 0 else 4
def restart (p : Pl) (chs : List Int) : Pl :=
 if p.down then
  let q := p.survive p.pd chs
  {q with seen := q.kept, sum := q.ksum, pd := [], steps := 0, crash := 0, down := false, starts := wrp (p.starts + 1) }
 else p
end Pl
end
section
open Go
def nmDb : ByteArray := ⟨#[100, 98]⟩
structure Stp where
 k : Nat
 nm : ByteArray
 at_ : Int
 d : List Int
namespace Pl
def stE (p : Pl) (s : Stp) : Int := if s.k = 0 then p.writeE s.nm s.at_ s.d else if s.k = 1 then p.truncE s.nm s.at_ else p.syncE
def stP (p : Pl) (s : Stp) : Pl := if s.k = 0 then p.write s.nm s.at_ s.d else if s.k = 1 then p.trunc s.nm s.at_ else p.sync s.nm
def runS : Pl → List Stp → Pl × Int
 | p, [] => (p, 0)
 | p, s :: r => if p.stE s = 0 then runS (p.stP s) r else (p.stP s, p.stE s)
end Pl
def four (n : Int) : List Int := [n / 16777216 % 256, n / 65536 % 256, n / 256 % 256, n % 256]
def num (l : List Int) (a : Nat) : Int := l.getD a 0 * 16777216 + l.getD (a + 1) 0 * 65536 + l.getD (a + 2) 0 * 256 + l.getD (a + 3) 0
structure W4 where
 a : Int
 b : Int
 c : Int
 d : Int
def W4.bytes (w : W4) : List Int := four w.a ++ four w.b ++ four w.c ++ four w.d
def sealB (w : W4) : List Int := w.bytes ++ w.bytes ++ w.bytes ++ zeros 16
def wordsAt (l : List Int) (a : Nat) : W4 := ⟨num l a, num l (a + 4), num l (a + 8), num l (a + 12)⟩
def openB (l : List Int) : W4 := if l.take 16 = (l.drop 16).take 16 then wordsAt l 0 else wordsAt l 32
def says (l : List Int) : W4 := if l.length < 64 then ⟨0, 0, 0, 0⟩ else openB (l.take 64)
structure Pg where
 n : Int
 b : List Int
def pageOf (l : List Int) (n : Nat) : List Int := sizedF (l.drop ((n - 1) * 256)) 256
namespace Pl
def jcount (p : Pl) : Nat := p.len nmDb / 256
end Pl
def hasPg (l : List Pg) (n : Int) : Bool := l.any fun x => decide (x.n = n)
def chainPg (count : Int) : Int → List Pg → Bool
 | _, [] => true
 | last, x :: r => decide (last < x.n ∧ x.n ≤ count) && chainPg count x.n r
def above (old : Int) (l : List Pg) : Nat := l.countP fun x => decide (old < x.n)
def fitPg (old count : Int) (l : List Pg) : Bool := decide (0 ≤ count ∧ count ≤ 4096) && (chainPg count 0 l && decide ((above old l : Int) = max 0 (count - old)))
def headS (nm : ByteArray) (w : W4) : List Stp := [⟨0, nm, 0, sealB w⟩, ⟨2, nm, 0, []⟩]
def homeW (l : List Pg) : List Stp := l.map fun x => ⟨0, nmDb, (x.n - 1) * 256, x.b⟩
def homeS (count : Int) (l : List Pg) : List Stp := homeW l ++ [⟨1, nmDb, count * 256, []⟩, ⟨2, nmDb, 0, []⟩]
def recB (x : Pg) : List Int := four x.n ++ zeros 60 ++ x.b
def fullE (e : Int) : Int := if e = 3 then 5 else e
namespace Pl
def jpageE (p : Pl) (n : Int) : Int := if p.down then 7 else if n < 1 ∨ (p.jcount : Int) < n then 4 else 0
def jpage (p : Pl) (n : Int) : List Int := if p.jpageE n = 0 then pageOf (p.seen nmDb) n.toNat else zeros 256
end Pl
theorem runS_nil (p : Pl) : p.runS [] = (p, 0) := rfl
theorem runS_cons (p : Pl) (s : Stp) (r : List Stp) : p.runS (s :: r) = if p.stE s = 0 then (p.stP s).runS r else (p.stP s, p.stE s) := rfl
theorem runS_append : ∀ (a b : List Stp) (p : Pl), p.runS (a ++ b) = if (p.runS a).2 = 0 then (p.runS a).1.runS b else p.runS a
 | [], b, p => by simp [runS_nil]
 | s :: r, b, p => by
  have ih := runS_append r b (p.stP s)
  rw [List.cons_append, runS_cons, runS_cons]
  by_cases h : p.stE s = 0
  ·rw [if_pos h, if_pos h, ih]
  ·rw [if_neg h, if_neg h, if_neg h]
def Pl.sm (p : Pl) (k : Nat) : Prop := p.nf + p.pd.length + k < 1099511627776
theorem sm_mono {p : Pl} {a b : Nat} (h : p.sm a) (hb : b ≤ a) : p.sm b := by unfold Pl.sm at h ⊢; omega
theorem sectors_len (s : ByteArray) (l : List Int) (a e : Nat) : (Pl.sectors s l a e).length = (e + 63) / 64 - a / 64 := by simp [Pl.sectors]
theorem sm_write {p : Pl} {k : Nat} (s : ByteArray) (a : Int) (d : List Int) (h : p.sm (k + 20000)) : (p.write s a d).sm k := by
 unfold Pl.sm at h ⊢
 unfold Pl.write
 split
 ·omega
 ·rename_i h1
  split
  ·simp only [Pl.step]; omega
  ·split
   ·omega
   ·have e1 : (a.toNat + d.length + 63) / 64 - a.toNat / 64 ≤ 16386 := by omega
    unfold Pl.write1
    simp only [Pl.step, Pl.pend, Pl.setSeen, Pl.at_, List.length_append, sectors_len]
    split
    ·unfold Pl.length
     split
     ·simp only [Pl.at_]; omega
     ·simp only [Pl.pend, Pl.setSeen, Pl.at_, List.length_append, List.length_cons, List.length_nil]; omega
    ·omega
theorem sm_trunc {p : Pl} {k : Nat} (s : ByteArray) (n : Int) (h : p.sm (k + 20000)) : (p.trunc s n).sm k := by
 unfold Pl.sm at h ⊢
 unfold Pl.trunc
 split
 ·omega
 ·simp only [Pl.step]
  unfold Pl.length
  split
  ·simp only [Pl.at_]; omega
  ·simp only [Pl.pend, Pl.setSeen, Pl.at_, List.length_append, List.length_cons, List.length_nil]; omega
theorem sm_sync {p : Pl} {k : Nat} (s : ByteArray) (h : p.sm (k + 20000)) : (p.sync s).sm k := by
 unfold Pl.sm at h ⊢
 unfold Pl.sync
 split
 ·omega
 ·split
  ·simp only [Pl.step]; omega
  ·simp only [Pl.step, Pl.setKept, Pl.at_]
   have := List.length_filter_le (fun c : Cg => !decide (c.nm = s)) p.pd
   omega
theorem sm_st {p : Pl} {k : Nat} (s : Stp) (h : p.sm (k + 20000)) : (p.stP s).sm k := by
 unfold Pl.stP
 split
 ·exact sm_write _ _ _ h
 ·split
  ·exact sm_trunc _ _ h
  ·exact sm_sync _ h
theorem sm_run : ∀ (l : List Stp) {p : Pl} {k : Nat}, p.sm (k + 20000 * l.length) → (p.runS l).1.sm k
 | [], p, k, h => by rw [runS_nil]; exact sm_mono h (by omega)
 | s :: r, p, k, h => by
  have h1 : (p.stP s).sm (k + 20000 * r.length) := sm_st s (sm_mono h (by simp only [List.length_cons]; omega))
  rw [runS_cons]
  split
  ·exact sm_run r h1
  ·exact sm_mono h1 (by omega)
end
section
open Go
def nmWal : ByteArray := ⟨#[119, 97, 108]⟩
structure Fr where
 n : Int
 en : Int
 b : List Int
def frP (b : List Int) : Option Fr := if b.length < 320 then none else if (b.drop 8).take 56 = zeros 56 ∧ num b 0 ≤ 4096 ∧ num b 4 ≤ 4097 ∧ (0 < num b 0 ∨ 0 < num b 4) then some ⟨num b 0, num b 4, (b.drop 64).take 256⟩ else none
def frAt (l : List Int) (k : Nat) : Option Fr :=
 let b := (l.drop (64 + 320 * k)).take 320
 if b.length < 320 then none else if (b.drop 8).take 56 = zeros 56 ∧ num b 0 ≤ 4096 ∧ num b 4 ≤ 4097 ∧ (0 < num b 0 ∨ 0 < num b 4) then some ⟨num b 0, num b 4, b.drop 64⟩ else none
def frsAt (l : List Int) : Nat → Option (List Fr)
 | 0 => some []
 | k + 1 => (frsAt l k).bind fun fs => (frAt l k).map fun f => fs ++ [f]
def lastEn (fs : List Fr) : Int := match fs.getLast? with | some f => f.en | none => 1
namespace Pl
def whead (p : Pl) : W4 := says (p.seen nmWal)
def wopen (p : Pl) : Int × List Fr :=
 if p.down then (7, []) else if 1048576 < p.whead.a ∨ p.whead.b ≠ 0 ∨ p.whead.c ≠ 0 ∨ p.whead.d ≠ 0 then (8, []) else
  match frsAt (p.seen nmWal) p.whead.a.toNat with
  | none => (8, [])
  | some fs => if lastEn fs = 0 then (8, []) else (0, fs)
end Pl
def isMark (fs : List Fr) (m : Int) : Bool := decide (m = 0) || (decide (0 < m ∧ m ≤ fs.length) && (match fs[m.toNat - 1]? with | some f => decide (0 < f.en) | none => false))
def wcount (p : Pl) (fs : List Fr) (m : Int) : Int := if m = 0 then p.jcount else match fs[m.toNat - 1]? with | some f => f.en - 1 | none => 0
def lastFr (fs : List Fr) (n : Int) : Option Fr := fs.reverse.find? fun f => decide (f.n = n)
def wpage (p : Pl) (fs : List Fr) (m n : Int) : List Int := match lastFr (fs.take m.toNat) n with | some f => f.b | none => p.jpage n
def frB (f : Fr) : List Int := four f.n ++ four f.en ++ zeros 56 ++ f.b
def newFr (count : Int) (l : List Pg) : List Fr :=
 let fs := if l = [] then [⟨0, 0, zeros 256⟩] else l.map fun x => ⟨x.n, 0, x.b⟩
 match fs.getLast? with | some f => fs.dropLast ++ [{ f with en := count + 1 }] | none => fs
def frW : Nat → List Fr → List Stp
 | _, [] => []
 | k, f :: r => ⟨0, nmWal, 64 + 320 * (k : Int), frB f⟩ :: frW (k + 1) r
namespace Pl
def wcommitS (p : Pl) (fs : List Fr) (new : List Fr) : List Stp := headS nmWal p.whead ++ (frW fs.length new ++ [⟨2, nmWal, 0, []⟩] ++ headS nmWal ⟨fs.length + new.length, 0, 0, 0⟩)
def wcommit (p : Pl) (count : Int) (l : List Pg) : Pl × Int × Int :=
 if p.wopen.1 ≠ 0 then (p, 0, p.wopen.1) else
  let fs := p.wopen.2
  if fitPg (wcount p fs fs.length) count l = false then (p, 0, 2) else
   let q := p.runS (p.wcommitS fs (newFr count l))
   if q.2 ≠ 0 then (q.1, 0, fullE q.2) else (q.1, fs.length + (newFr count l).length, 0)
def whome (p : Pl) (fs : List Fr) (m : Int) : List Pg :=
 ((List.range' 1 (wcount p fs m).toNat).filter fun (n : Nat) => (fs.take m.toNat).any fun f => decide (f.n = (n : Int))).map fun (n : Nat) => ⟨(n : Int), wpage p fs m n⟩
def wcheckS (p : Pl) (fs : List Fr) (m : Int) : List Stp := headS nmWal p.whead ++ (homeS (wcount p fs m) (whome p fs m) ++ if m = fs.length then headS nmWal ⟨0, 0, 0, 0⟩ else [])
def wcheck (p : Pl) (m : Int) : Pl × Int :=
 if p.wopen.1 ≠ 0 then (p, p.wopen.1) else if isMark p.wopen.2 m = false then (p, 4) else if m = 0 then (p, 0) else p.runS (p.wcheckS p.wopen.2 m)
end Pl
theorem getD_take {l : List Int} {n i : Nat} (h : i < n) : (l.take n).getD i 0 = l.getD i 0 := by
 rw [List.getD_eq_getElem?_getD, List.getD_eq_getElem?_getD, List.getElem?_take, if_pos h]
theorem num_take {l : List Int} {n a : Nat} (h : a + 4 ≤ n) : num (l.take n) a = num l a := by
 unfold num
 rw [getD_take (by omega), getD_take (by omega), getD_take (by omega), getD_take (by omega)]
theorem frAt_P (l : List Int) (k : Nat) : frAt l k = frP (l.drop (64 + 320 * k)) := by
 unfold frAt frP
 dsimp only
 generalize l.drop (64 + 320 * k) = b
 rw [num_take (by omega), num_take (by omega), List.length_take, List.drop_take, List.take_take, List.drop_take]
 by_cases h : b.length < 320
 ·rw [if_pos (by omega), if_pos h]
 ·rw [if_neg (by omega), if_neg h]
  rfl
theorem frsAt_len {l : List Int} : ∀ {k : Nat} {fs : List Fr}, frsAt l k = some fs → fs.length = k
 | 0, fs, h => by unfold frsAt at h; injection h with h; rw [← h]; rfl
 | k + 1, fs, h => by
  unfold frsAt at h
  cases hq : frsAt l k with
  | none => rw [hq] at h; cases h
  | some g =>
   rw [hq] at h
   cases hf : frAt l k with
   | none => rw [hf] at h; cases h
   | some f =>
    rw [hf] at h
    injection h with h
    rw [← h, List.length_append, frsAt_len hq]
    rfl
theorem frsAt_none {l : List Int} {k : Nat} (h : frAt l k = none) : ∀ {n : Nat}, k < n → frsAt l n = none
 | 0, q => absurd q (by omega)
 | n + 1, q => by
  unfold frsAt
  by_cases e : k = n
  ·subst e
   rw [h]
   cases frsAt l k <;> rfl
  ·rw [frsAt_none h (n := n) (by omega)]
   rfl
theorem frsAt_next {l : List Int} {k : Nat} {fs : List Fr} {f : Fr} (h : frsAt l k = some fs) (hf : frAt l k = some f) : frsAt l (k + 1) = some (fs ++ [f]) := by
 show (frsAt l k).bind _ = _
 rw [h]
 show (frAt l k).map _ = _
 rw [hf]
 rfl
theorem frAt_pos {l : List Int} {k : Nat} {f : Fr} (h : frAt l k = some f) : 64 + 320 * k + 320 ≤ l.length := by
 unfold frAt at h
 dsimp only at h
 split at h
 ·cases h
 ·rename_i hl
  rw [List.length_take, List.length_drop] at hl
  omega
structure FrOk (f : Fr) : Prop where
 n0 : 0 ≤ f.n ∧ f.n ≤ 4096
 e0 : 0 ≤ f.en ∧ f.en ≤ 4097
 len : f.b.length = 256
 rng : ∀ y ∈ f.b, 0 ≤ y ∧ y < 256
theorem num_ge {b : List Int} (hb : ∀ y ∈ b, 0 ≤ y ∧ y < 256) (a : Nat) : 0 ≤ num b a := by
 have h : ∀ i, 0 ≤ b.getD i 0 := fun i => by
  rw [List.getD_eq_getElem?_getD]
  cases hq : b[i]? with
  | none => simp
  | some y => exact (hb y (List.mem_of_getElem? hq)).1
 unfold num
 have := h a; have := h (a + 1); have := h (a + 2); have := h (a + 3)
 omega
theorem frAt_ok {l : List Int} (hl : ∀ y ∈ l, 0 ≤ y ∧ y < 256) {k : Nat} {f : Fr} (h : frAt l k = some f) : FrOk f := by
 have hp := frAt_pos h
 unfold frAt at h
 dsimp only at h
 split at h
 ·cases h
 ·split at h
  ·rename_i hlen hc
   injection h with h
   have hr : ∀ y ∈ (l.drop (64 + 320 * k)).take 320, 0 ≤ y ∧ y < 256 := fun y hy => hl y (List.mem_of_mem_drop (List.mem_of_mem_take hy))
   rw [← h]
   refine ⟨⟨num_ge hr 0, hc.2.1⟩, ⟨num_ge hr 4, hc.2.2.1⟩, ?_, fun y hy => hr y (List.mem_of_mem_drop hy)⟩
   show (((l.drop (64 + 320 * k)).take 320).drop 64).length = 256
   rw [List.length_drop, List.length_take, List.length_drop]
   omega
  ·cases h
theorem frsAt_ok {l : List Int} (hl : ∀ y ∈ l, 0 ≤ y ∧ y < 256) : ∀ {k : Nat} {fs : List Fr}, frsAt l k = some fs → ∀ f ∈ fs, FrOk f
 | 0, fs, h => by unfold frsAt at h; injection h with h; rw [← h]; intro f q; cases q
 | k + 1, fs, h => by
  unfold frsAt at h
  cases hq : frsAt l k with
  | none => rw [hq] at h; cases h
  | some g =>
   rw [hq] at h
   cases hf : frAt l k with
   | none => rw [hf] at h; cases h
   | some f =>
    rw [hf] at h
    injection h with h
    rw [← h]
    intro x hx
    rcases List.mem_append.1 hx with q | q
    ·exact frsAt_ok hl hq x q
    ·rw [List.mem_singleton.1 q]; exact frAt_ok hl hf
end
section
open Go.RowKit
section
variable {w w' : World} {base base' n n' cap size size' : Nat} {e e' : TypeId} {A : Option Addr} {v v' : Value} {xs xs' : List Value} {S : Nat → Prop}
theorem own_keepB (h : w.ownsRow base e size v n xs) (k : Kp S w w') (hS : ∀ g, v.ownBlock = some g → ¬ S g) : w'.ownsRow base e size v n xs := by
 refine ⟨h.1, ?_⟩
 rcases h.2 with hn | ⟨g, cap, cur, rfl, hb, hg, rest⟩
 ·exact .inl hn
 ·exact .inr ⟨g, cap, cur, rfl, hb, k.lift hg (hS g rfl), rest⟩
theorem own_blk1 (h : w.ownsRow base e 1 (.slice A n cap) n xs) (hn : 0 < n) : ∃ g ds, A = some ⟨g, 0, none⟩ ∧ base ≤ g ∧ Blk w g e (xs ++ ds).toArray := by
 rcases h.2 with ⟨h0, _⟩ | ⟨g, cap', cur, hv, hb, hh, h1, h2, h3, h4⟩
 ·cases h0; omega
 ·simp only [Value.slice.injEq] at hv
  refine ⟨g, cur.toList.drop n, hv.1, hb, ?_⟩
  unfold Blk
  rw [hh]
  congr 2
  rw [Nat.mul_one] at h4
  rw [← h4, List.take_append_drop]
theorem own_blkN (h : w.ownsRow base e size (.slice A n cap) n xs) (hn : 0 < n) : ∃ g ds, A = some ⟨g, 0, none⟩ ∧ base ≤ g ∧ Blk w g e (xs ++ ds).toArray := by
 rcases h.2 with ⟨h0, _⟩ | ⟨g, cap', cur, hv, hb, hh, h1, h2, h3, h4⟩
 ·cases h0; omega
 ·simp only [Value.slice.injEq] at hv
  refine ⟨g, cur.toList.drop (n * size), hv.1, hb, ?_⟩
  unfold Blk
  rw [hh]
  congr 2
  rw [← h4, List.take_append_drop]
theorem own_form (h : w.ownsRow base e size (.slice A n cap) n xs) : (A = none ∧ n = 0 ∧ cap = 0) ∨ ∃ g, A = some ⟨g, 0, none⟩ := by
 rcases h.2 with ⟨h0, hn⟩ | ⟨g, cap', cur, hv, _⟩
 ·injection h0 with h1 h2 h3
  exact .inl ⟨h1, hn, h3⟩
 ·injection hv with h1
  exact .inr ⟨g, h1⟩
theorem own_cap (h : w.ownsRow base e size (.slice A n cap) n xs) : n ≤ cap := by
 rcases h.2 with ⟨h0, hn⟩ | ⟨g, cap', cur, hv, _, _, h1, _⟩
 ·omega
 ·simp only [Value.slice.injEq] at hv
  omega
theorem own_nil (h : w.ownsRow base e size (.slice A n cap) n xs) : A = none → n = 0 ∧ cap = 0 := by
 rintro rfl
 rcases h.2 with ⟨h0, _⟩ | ⟨g, cap', cur, hv, _⟩
 ·cases h0; exact ⟨rfl, rfl⟩
 ·cases hv
end
end
section
open Go.RowKit
theorem wpList_append_src {P : Program} {w : World} {ops : Array Oper} {rest : List Oper} {o : Oper} {a : Act} {Q : Exit → Act → World → Prop} (hgd : o.guard = none) (s x : Operand) (t : TypeId)
  (ho : o.op = .call { callee := .builtin .append, args := #[s, x], argTypes := #[t, t] })
  (base : Nat) (e : TypeId) (i : TypeInfo) (z : Value) (bytes : Nat) (ht : P.underlying t = some (.slice e)) (hi : P.info? e = some i) (hz : i.zero = some z)
  (hsize : i.size = 1) (hby : i.bytes = bytes) (hzs : z.cells.size = 1)
  (v : Value) (n : Nat) (xs : List Value) (hs : a.eval s = v) (hown : w.ownsRow base e 1 v n xs)
  (A : Option Addr) (m c : Nat) (news : List Value) (hx : a.eval x = .slice A m c) (hA : A = none → m = 0 ∧ c = 0) (hl : news.length = m)
  (hnews : 0 < m → ∃ g o, A = some ⟨g, o, none⟩ ∧ ∀ j u, news[j]? = some u → w.cell? ⟨g, o + j, none⟩ = some u) (h1 : ∀ u ∈ news, u.oneCell' = true)
  (h63 : n + m ≤ maxLen) (hbytes : (n + m) * bytes ≤ 140737488355328) (hbase : base ≤ w.heap.size)
  (h : ∀ v' w', w'.ownsRow base e 1 v' (n + m) (xs ++ news) → w.grownBy w' v.ownBlock → wpList P ops Q rest (a.put o.dst v') w') : wpList P ops Q (o :: rest) a w := by
 rcases A with _ | ad
 ·obtain ⟨rfl, rfl⟩ := hA rfl
  obtain rfl : news = [] := List.eq_nil_of_length_eq_zero hl
  refine wpList_append_own_none hgd s x t ho base e i 1 ht hi v n xs hs hown hx (h v w ?_ ?_)
  ·simpa using hown
  ·exact ⟨rfl, rfl, rfl, Nat.le_refl _, fun _ _ _ => rfl⟩
 ·refine wpList_append_own w hgd s x t ho base e i z 1 bytes ht hi hz hsize hby hzs (by omega) v n xs hs hown ad m c news hx (by omega) ?_ h1 h63 hbytes hbase (fun v' w' q1 q2 _ => h v' w' q1 q2)
  intro j u hj
  have hm : 0 < m := by
   have := (List.getElem?_eq_some_iff.1 hj).1
   omega
  obtain ⟨g, o', e', hc⟩ := hnews hm
  injection e' with e'
  subst e'
  rw [add_mk]
  exact hc j u hj
theorem wpList_append_srcN {P : Program} {w : World} {ops : Array Oper} {rest : List Oper} {o : Oper} {a : Act} {Q : Exit → Act → World → Prop} (hgd : o.guard = none) (s x : Operand) (t : TypeId)
  (ho : o.op = .call { callee := .builtin .append, args := #[s, x], argTypes := #[t, t] })
  (base : Nat) (e : TypeId) (i : TypeInfo) (z : Value) (size bytes : Nat) (ht : P.underlying t = some (.slice e)) (hi : P.info? e = some i) (hz : i.zero = some z)
  (hsize : i.size = size) (hby : i.bytes = bytes) (hzs : z.cells.size = size) (hsz : 0 < size)
  (v : Value) (n : Nat) (xs : List Value) (hs : a.eval s = v) (hown : w.ownsRow base e size v n xs)
  (A : Option Addr) (m c : Nat) (news : List Value) (hx : a.eval x = .slice A m c) (hA : A = none → m = 0 ∧ c = 0) (hl : news.length = m * size)
  (hnews : 0 < m → ∃ g o, A = some ⟨g, o, none⟩ ∧ ∀ j u, news[j]? = some u → w.cell? ⟨g, o + j, none⟩ = some u) (h1 : ∀ u ∈ news, u.oneCell' = true)
  (h63 : n + m ≤ maxLen) (hbytes : (n + m) * bytes ≤ 140737488355328) (hbase : base ≤ w.heap.size)
  (h : ∀ v' w', w'.ownsRow base e size v' (n + m) (xs ++ news) → w.grownBy w' v.ownBlock → wpList P ops Q rest (a.put o.dst v') w') : wpList P ops Q (o :: rest) a w := by
 rcases A with _ | ad
 ·obtain ⟨rfl, rfl⟩ := hA rfl
  obtain rfl : news = [] := List.eq_nil_of_length_eq_zero (by omega)
  refine wpList_append_own_none hgd s x t ho base e i size ht hi v n xs hs hown hx (h v w ?_ ?_)
  ·simpa using hown
  ·exact ⟨rfl, rfl, rfl, Nat.le_refl _, fun _ _ _ => rfl⟩
 ·refine wpList_append_own w hgd s x t ho base e i z size bytes ht hi hz hsize hby hzs hsz v n xs hs hown ad m c news hx hl ?_ h1 h63 hbytes hbase (fun v' w' q1 q2 _ => h v' w' q1 q2)
  intro j u hj
  have hm : 0 < m := by
   rcases Nat.eq_zero_or_pos m with q | q
   ·rw [q] at hl
    have := (List.getElem?_eq_some_iff.1 hj).1
    omega
   ·exact q
  obtain ⟨g, o', e', hc⟩ := hnews hm
  injection e' with e'
  subst e'
  rw [add_mk]
  exact hc j u hj
end
section
open Go.RowKit
section
variable {P : Program}
theorem zeroCells_one (u : Value) (z : Array Value) (hz : z = #[u]) (n : Nat) : Builtin.zeroCells z n = (List.replicate n u).toArray := by
 subst hz
 unfold Builtin.zeroCells
 apply Array.ext
 ·simp
 ·intro i h1 h2
  simp [Nat.mod_one]
theorem append_zeros_own (w : World) (base : Nat) (t tn ty e : TypeId) (i : TypeInfo) (z u : Value) (kq kn : IntKind) (ht : P.underlying t = some (.slice e)) (htn : P.underlying tn = some (.int kn)) (hi : P.info? e = some i) (hz : i.zero = some z)
  (hsize : i.size = 1) (hby : i.bytes = 1) (hzs : z.cells = #[u]) (hu : u.oneCell' = true)
  (v : Value) (n : Nat) (xs : List Value) (hown : w.ownsRow base e 1 v n xs) (k : Nat) (hk : 0 < k) (hb : n + k ≤ 1099511627776) (hbase : base ≤ w.heap.size) :
  ∃ v' w', (Builtin.append_ #[t, tn] ty #[v, .int kq k]).run P w = .ok v' w' ∧ w'.ownsRow base e 1 v' (n + k) (xs ++ List.replicate k u) ∧ w.grownBy w' v.ownBlock ∧ (∀ b, v'.ownBlock = some b → v.ownBlock = some b ∨ w.heap.size ≤ b) := by
 have hxl : xs.length = n := by have := hown.1; omega
 have grown : ∀ (old : Nat) (row : Option Nat),
   (w.drew.alloc (.cells (xs.toArray ++ Builtin.zeroCells z.cells k ++ Builtin.zeroCells z.cells (grownCap w (n + k) old e - (n + k))) e)).ownsRow base e 1
    (.slice (some ⟨w.heap.size, 0, none⟩) (n + k) (grownCap w (n + k) old e)) (n + k) (xs ++ List.replicate k u) ∧
   w.grownBy (w.drew.alloc (.cells (xs.toArray ++ Builtin.zeroCells z.cells k ++ Builtin.zeroCells z.cells (grownCap w (n + k) old e - (n + k))) e)) row := by
  intro old row
  have hge := grownCap_ge w (n + k) old e
  have hcm : grownCap w (n + k) old e ≤ maxLen := grownCap_le_maxLen w (n + k) old e (by unfold maxLen; omega)
  rw [zeroCells_one u _ hzs, zeroCells_one u _ hzs]
  refine ⟨⟨by simp [hxl], .inr ⟨w.heap.size, _, _, rfl, hbase, heap_alloc_new w.drew _, hge, hcm, ?_, ?_⟩⟩, ⟨rfl, rfl, rfl, by simp, fun j hj _ => by first | exact Go.heap_alloc_old w.drew _ hj | exact Go.heap_alloc_old w.drew _ _ hj⟩⟩
  ·simp [hxl]; omega
  ·simp only [Array.toList_append, Nat.mul_one]
   exact List.take_left' (by simp [hxl])
 rcases hown.2 with ⟨rfl, rfl⟩ | ⟨g, cap, cur, rfl, hbg, hg, hnc, hcm, hcs, htake⟩
 ·have hx : xs = [] := List.eq_nil_of_length_eq_zero hxl
  subst hx
  have hr := Lib.run_append_nil_zeros (P := P) w t tn ty e i z kq kn ht htn hi hz k hk (by omega) (by omega) (by rw [hby]; omega)
  have hgr := grown 0 (Value.ownBlock (.slice none 0 0))
  simp only [Nat.zero_add, List.nil_append, Array.empty_append] at hgr ⊢
  exact ⟨_, _, hr, hgr.1, hgr.2, fun b hb => .inr (by simp [Value.ownBlock] at hb; omega)⟩
 ·by_cases hroom : n + k ≤ cap
  ·have hfit : n * 1 + (List.replicate k u).length ≤ cur.size := by simp; omega
   have hw : IntKind.i64.wrap (k : Int) = k := by rw [IntKind.wrap_i64]; omega
   have hst := run_storeCells_at P g n e (List.replicate k u) 0 cur w hg (by simpa using hfit) (by intro v hv; rw [List.eq_of_mem_replicate hv]; exact hu)
   have hr : (Builtin.append_ #[t, tn] ty #[.slice (some ⟨g, 0, none⟩) n cap, .int kq k]).run P w = .ok (.slice (some ⟨g, 0, none⟩) (n + k) cap) (w.setRow g (cur.toList.take n ++ List.replicate k u ++ cur.toList.drop (n + k)).toArray) := by
    have hk0 : k ≠ 0 := by omega
    have h0 : ¬ ((k : Int) < 0) := by omega
    have hk48 : ¬ (281474976710656 < (k : Int)) := by omega
    simp only [Nat.add_zero, List.length_replicate] at hst
    simp [Builtin.append_, run_underlying ht, run_underlying htn, sizeOf, typeInfo, zeroValue, hi, hz, hsize, hby, hw, h0, hk0, hk48, hroom, asInt, asIntOf, zeroCells_one u _ hzs, Addr.add_lit, hst]
   refine ⟨_, _, hr, ⟨by simp [hxl], .inr ⟨g, cap, _, rfl, hbg, setRow_heap w g cur _ e _ hg, hroom, hcm, ?_, ?_⟩⟩, ⟨rfl, rfl, rfl, by simp, fun k _ hk => setRow_other w g k _ (fun e => hk (by simp [Value.ownBlock, e]))⟩, fun b hb => .inl hb⟩
   ·simp; omega
   ·rw [Nat.mul_one] at htake ⊢
    simp only [htake]
    exact List.take_left' (by simp [hxl])
  ·have hold : (Builtin.firstCells i.size n (.slice (some ⟨g, 0, none⟩) n cap)).run P w.drew = .ok xs.toArray w.drew :=
    run_firstCells_some (P := P) w.drew i.size n ⟨g, 0, none⟩ n cap xs (by rw [hsize]; omega) (fun j u' hu' => (hown.cells (g := g) rfl) j u' hu')
   have hr := Lib.run_append_grow_zeros (P := P) w t tn ty e i z kq kn ht htn hi hz (some ⟨g, 0, none⟩) n cap xs hold k hk (by omega) (by omega) (by omega) (by rw [hby]; omega) (by
    rw [hby]
    exact growslice_fits (need := n + k) (bytes := 1) (by omega) (by omega))
   have hgr := grown cap (Value.ownBlock (.slice (some ⟨g, 0, none⟩) n cap))
   exact ⟨_, _, hr, hgr.1, hgr.2, fun b hb => .inr (by simp [Value.ownBlock] at hb; omega)⟩
end
end
section
open Go.RowKit
structure Dd where
 db : Nat
 mb : Nat
 mn : Nat
 pv : Value
 fs : List Fe
 pd : List Cg
 room : Int
 steps : Int
 crash : Int
 down : Bool
 starts : Int
def cgCells (pd : List Cg) : List Value := pd.flatMap fun c => .string c.nm :: .int .i64 c.sec :: .int .i64 c.n :: (pad64 c.s).map (Value.int .u8)
theorem cgCells_len (pd : List Cg) (h : ∀ c ∈ pd, CgOk c) : (cgCells pd).length = pd.length * 67 := by
 unfold cgCells
 induction pd with
 | nil => rfl
 | cons c pd ih =>
  have := (h c (List.mem_cons_self ..)).pad
  rw [List.flatMap_cons, List.length_append, ih fun x hx => h x (List.mem_cons_of_mem _ hx)]
  simp [this]; omega
theorem cgCells_snoc (pd : List Cg) (c : Cg) : cgCells (pd ++ [c]) = cgCells pd ++ (.string c.nm :: .int .i64 c.sec :: .int .i64 c.n :: (pad64 c.s).map (Value.int .u8)) := by
 unfold cgCells
 rw [List.flatMap_append]
 simp
structure Bq (w : World) (n0 : Nat) (v : Value) (l : List Int) : Prop where
 own : w.ownsRow n0 5 1 v l.length (l.map (Value.int .u8))
 rng : ∀ x ∈ l, 0 ≤ x ∧ x < 256
theorem Bq.none (w : World) (n0 : Nat) : Bq w n0 (.slice none 0 0) [] := ⟨World.ownsRow_nil _ _ _ _, by simp⟩
theorem Bq.form {w : World} {n0 : Nat} {v : Value} {l : List Int} (h : Bq w n0 v l) : ∃ A cap, v = .slice A l.length cap := own_slice h.own
theorem own_type {w : World} {base : Nat} {e : TypeId} {size n : Nat} {v : Value} {xs : List Value} (h : w.ownsRow base e size v n xs) {g : Nat} (hg : v.ownBlock = some g) : ∃ cs, w.heap[g]? = some (.cells cs e (0, 0)) := by
 rcases h.2 with ⟨rfl, _⟩ | ⟨g1, cap1, cur1, rfl, _, h1, _⟩
 ·cases hg
 ·simp only [Value.ownBlock, Option.some.injEq] at hg
  subst hg
  exact ⟨_, h1⟩
theorem Bq.keep {w w' : World} {n0 : Nat} {v : Value} {l : List Int} {S : Nat → Prop} (h : Bq w n0 v l) (k : Kp S w w') (hS : ∀ g cs, w.heap[g]? = some (.cells cs 5 (0, 0)) → ¬ S g) : Bq w' n0 v l :=
 ⟨own_keepB h.own k (fun g hg => by obtain ⟨cs, hc⟩ := own_type h.own hg; exact hS g cs hc), h.rng⟩
structure FeOk (w : World) (n0 : Nat) (e : Fe) : Prop where
 blk : ∃ u v, Blk w e.fb 128 #[u, v] ∧ Bq w n0 u e.seen ∧ Bq w n0 v e.kept
 ls : e.seen.length ≤ 1048576
 lk : e.kept.length ≤ 1048576
def diskCells (x : Dd) : Array Value := #[.map (some x.mb), x.pv, .int .i64 x.room, .int .i64 x.steps, .int .i64 x.crash, .bool x.down, .int .i64 x.starts]
def Dd.O (x : Dd) : Nat → Prop := fun b => b = x.db ∨ b = x.mb ∨ x.pv.ownBlock = some b ∨ ∃ e ∈ x.fs, b = e.fb
structure Dk (n0 : Nat) (w : World) (x : Dd) : Prop where
 blk : Blk w x.db 55 (diskCells x)
 mp : ∃ D, w.ownsMap Tryz.prog 9 Rp x.mb x.mn D ∧ MpD D x.fs
 names : Names x.fs
 fbs : x.fs.Pairwise fun a b => a.fb ≠ b.fb
 fls : ∀ e ∈ x.fs, FeOk w n0 e
 pend : w.ownsRow n0 121 67 x.pv x.pd.length (cgCells x.pd)
 b0 : n0 ≤ x.db
 b1 : n0 ≤ x.mb
 b2 : ∀ e ∈ x.fs, n0 ≤ e.fb
 s64 : ∀ c ∈ x.pd, CgOk c
 r0 : 0 ≤ x.room ∧ x.room ≤ 9223372036854775807
 c0 : 0 ≤ x.crash ∧ x.crash ≤ 9223372036854775807
theorem Dk.lt {n0 : Nat} {w : World} {x : Dd} (h : Dk n0 w x) : ∀ b, x.O b → b < w.heap.size := by
 rintro b (rfl | rfl | hb | ⟨e, he, rfl⟩)
 ·exact h.blk.lt
 ·obtain ⟨D, hD, _⟩ := h.mp; exact hD.lt
 ·exact (h.pend.lt b hb).2
 ·obtain ⟨u, v, hb, _⟩ := (h.fls e he).blk; exact hb.lt
theorem Dk.ge {n0 : Nat} {w : World} {x : Dd} (h : Dk n0 w x) : ∀ b, x.O b → n0 ≤ b := by
 rintro b (rfl | rfl | hb | ⟨e, he, rfl⟩)
 ·exact h.b0
 ·exact h.b1
 ·exact (h.pend.lt b hb).1
 ·exact h.b2 e he
theorem blk_ne {w : World} {g g' : Nat} {t t' : TypeId} {cs cs' : Array Value} (h : Blk w g t cs) (h' : w.heap[g']? = some (.cells cs' t' (0, 0))) (hne : t ≠ t') : g ≠ g' := by
 rintro rfl
 unfold Blk at h
 rw [h] at h'
 simp only [Option.some.injEq, Obj.cells.injEq] at h'
 exact hne h'.2.1
theorem Dk.bytes {n0 : Nat} {w : World} {x : Dd} (h : Dk n0 w x) {g : Nat} {cs : Array Value} (hg : w.heap[g]? = some (.cells cs 5 (0, 0))) : ¬ x.O g := by
 rintro (rfl | rfl | hb | ⟨e, he, rfl⟩)
 ·exact blk_ne h.blk hg (by decide) rfl
 ·obtain ⟨D, ⟨es, cl, hb, _⟩, _⟩ := h.mp
  rw [hb] at hg; cases hg
 ·obtain ⟨cs', hc⟩ := own_type h.pend hb
  rw [hc] at hg
  simp only [Option.some.injEq, Obj.cells.injEq] at hg
  exact absurd hg.2.1 (by decide)
 ·obtain ⟨u, v, hb, _⟩ := (h.fls e he).blk
  exact blk_ne hb hg (by decide) rfl
theorem Kp.map {S : Nat → Prop} {w w' : World} (k : Kp S w w') {P : Program} {kt : TypeId} {R : Value → Option (DataW Value × List MemPlace)} {b n : Nat} {D : DataW Value} (h : w.ownsMap P kt R b n D) (hn : ¬ S b) : w'.ownsMap P kt R b n D := by
 obtain ⟨es, cl, hb, F, hs, hD⟩ := h
 exact ⟨es, cl, k.lift hb hn, F, hs, hD⟩
theorem FeOk.keep {w w' : World} {n0 : Nat} {e : Fe} {S : Nat → Prop} (h : FeOk w n0 e) (k : Kp S w w') (hn : ¬ S e.fb) (hS : ∀ g cs, w.heap[g]? = some (.cells cs 5 (0, 0)) → ¬ S g) : FeOk w' n0 e := by
 obtain ⟨u, v, hb, hu, hv⟩ := h.blk
 exact ⟨⟨u, v, hb.keep k hn, hu.keep k hS, hv.keep k hS⟩, h.ls, h.lk⟩
theorem Dk.keep {n0 : Nat} {w w' : World} {x : Dd} {S : Nat → Prop} (h : Dk n0 w x) (k : Kp S w w') (hO : ∀ b, x.O b → ¬ S b) (hS : ∀ g cs, w.heap[g]? = some (.cells cs 5 (0, 0)) → ¬ S g) : Dk n0 w' x := by
 obtain ⟨D, hD, hM⟩ := h.mp
 exact { h with
  blk := h.blk.keep k (hO _ (.inl rfl))
  mp := ⟨D, k.map hD (hO _ (.inr (.inl rfl))), hM⟩
  fls := fun e he => (h.fls e he).keep k (hO _ (.inr (.inr (.inr ⟨e, he, rfl⟩)))) hS
  pend := own_keepB h.pend k (fun g hg => hO _ (.inr (.inr (.inl hg)))) }
def seenOf (fs : List Fe) (s : ByteArray) : List Int := match findF fs (kOf s) with | some e => e.seen | none => []
def allKept (fs : List Fe) : Nat := (fs.map (·.kept.length)).sum
def keptOf (fs : List Fe) (s : ByteArray) : List Int := match findF fs (kOf s) with | some e => e.kept | none => []
structure Of (x : Dd) (p : Pl) : Prop where
 seen : p.seen = seenOf x.fs
 kept : p.kept = keptOf x.fs
 sum : p.sum = allSum x.fs
 ksum : p.ksum = allKept x.fs
 nf : x.mn ≤ p.nf
 pd : p.pd = x.pd
 room : p.room = x.room
 steps : p.steps = x.steps
 crash : p.crash = x.crash
 down : p.down = x.down
 starts : p.starts = x.starts
theorem keyS (s : ByteArray) (hs : s.size ≤ maxLen) : keyOf Tryz.prog 9 (.string s) = some (.string (kOf s)) := WideMaps.keyOf_string_mk Tryz.underlying9 hs
theorem keyed : Maps.Keyed Tryz.prog 9 := Maps.string_keyed Tryz.underlying9
theorem Dk.look {n0 : Nat} {w : World} {x : Dd} (h : Dk n0 w x) (s : ByteArray) (hs : s.size ≤ maxLen) :
  (Instr.lookup 52 (.map (some x.mb)) (.string s) false).run Tryz.prog w = .ok (foundV x.fs (kOf s)) w := by
 obtain ⟨D, hD, hM⟩ := h.mp
 have hz : (zeroValue 122).run Tryz.prog w = .ok (.pointer none) w := by kernel_rfl
 obtain ⟨v, ps, hrun, hv⟩ := hD.lookup keyed Tryz.underlying52 hz (zd := .held (.pointer none)) (zp := []) rfl (keyS s hs)
 obtain ⟨p, rfl, hy⟩ := Rp_inv hv
 rw [hM.at_] at hy
 simp only [Prod.mk.injEq] at hy
 rw [hrun]
 unfold foundV
 cases hf : findF x.fs (kOf s) with
 | none => rw [hf] at hy; simp at hy; simp [hy]
 | some e => rw [hf] at hy; simp [ptrV] at hy; simp [ptrV, ← hy.1]
end
section
open Go.RowKit
theorem mapNe (b : Nat) (w : World) : (binOp .neq 52 (.map (some b)) (.map none)).run Tryz.prog w = .ok (.bool true) w := by kernel_rfl
def NewPost (n0 : Nat) (w : World) (r : Int) (e : Ending) (w' : World) : Prop := ∃ db mb, e = .returned (ptrV db) ∧ Dk n0 w' ⟨db, mb, 0, .slice none 0 0, [], [], r, 0, 0, false, 0⟩ ∧ Kp NoB w w' ∧ w.heap.size ≤ db ∧ w.heap.size ≤ mb
theorem new_post (n0 : Nat) (w : World) (r : Int) (hr : 0 ≤ r ∧ r ≤ 9223372036854775807) (hn : n0 ≤ w.heap.size) : NewPost n0 w r (.returned (.pointer (some ⟨w.heap.size + 1, 0, none⟩))) ((w.alloc (.map #[] 0)).alloc (.cells #[.map (some w.heap.size), .slice none 0 0, .int .i64 r, .int .i64 0, .int .i64 0, .bool false, .int .i64 0] 55)) := by
 refine ⟨w.heap.size + 1, w.heap.size, by simp [ptrV], ?_, ((Kp.refl NoB w).alloc _).alloc _, by omega, by omega⟩
 exact
  {blk := by
    have := Blk.newAt (w.alloc (.map #[] 0)) 55 (diskCells ⟨w.heap.size + 1, w.heap.size, 0, .slice none 0 0, [], [], r, 0, 0, false, 0⟩) (w.heap.size + 1) (by simp)
    simpa [diskCells] using this
   mp := ⟨_, (World.ownsMap_made w Tryz.prog 9 Rp).alloc _, MpD.nil⟩
   names := List.Pairwise.nil
   fbs := List.Pairwise.nil
   fls := by simp
   pend := World.ownsRow_nil _ _ _ _
   b0 := by simp; omega
   b1 := hn
   b2 := by simp
   s64 := by simp
   r0 := hr
   c0 := by simp }
set_option maxRecDepth 100000 in
theorem new_ok (w : World) (r : Int) (hr : -9223372036854775808 ≤ r ∧ r ≤ 9223372036854775807) (n0 : Nat) (hn : n0 ≤ w.heap.size) :
  Calls Tryz.prog 5 #[.int .i64 r] w (NewPost n0 w (max 0 r)) := by
 have hmm := @run_makeMap Tryz.prog
 obtain ⟨m, hm⟩ : ∃ m, max 0 r = m := ⟨_, rfl⟩
 have HM := zh (show 0 ≤ m ∧ m ≤ 9223372036854775807 by omega)
 have HN := zh hn
 rw [hm]
 rcases (show r < 0 ∨ r = 0 ∨ 0 < r by omega) with h0 | rfl | h0
 ·obtain rfl : 0 = m := by omega
  have hh : ¬ 0 ≤ r := by omega
  clear hn hm
  go_enter Tryz.func5, Tryz.ntmps5
  go_wp2_with fail
  all_goals
   go_ret
   exact new_post n0 w _ HM.out HN.out
 ·obtain rfl : 0 = m := by omega
  clear hn hm
  go_enter Tryz.func5, Tryz.ntmps5
  go_wp2_with fail
  all_goals
   go_ret
   exact new_post n0 w _ HM.out HN.out
 ·obtain rfl : r = m := by omega
  have hh : 0 ≤ r := by omega
  clear hn hm
  go_enter Tryz.func5, Tryz.ntmps5
  go_wp2_with fail
  all_goals
   go_ret
   exact new_post n0 w _ HM.out HN.out
set_option maxRecDepth 100000 in
theorem is_ok (w : World) (n0 : Nat) (x : Dd) (h : Dk n0 w x) : Calls Tryz.prog 27 #[ptrV x.db] w fun e w' => e = .returned (.bool true) ∧ w = w' := by
 have c0 : w.cell? ⟨x.db, 0, none⟩ = some (.map (some x.mb)) := by rw [h.blk.cell]; rfl
 have hne := mapNe
 unfold ptrV
 go_enter Tryz.func27, Tryz.ntmps27
 go_wp2_with fail
 go_ret
 exact ⟨rfl, rfl⟩
set_option maxRecDepth 100000 in
theorem wrong_ok (w : World) (n0 : Nat) (x : Dd) (h : Dk n0 w x) : Calls Tryz.prog 28 #[ptrV x.db] w fun e w' => e = .returned (.int .i64 (if x.down then 7 else 0)) ∧ w = w' := by
 have H := zh h
 have c5 : w.cell? ⟨x.db, 5, none⟩ = some (.bool x.down) := by rw [h.blk.cell]; rfl
 clear h
 obtain ⟨db, hdb⟩ : ∃ db, x.db = db := ⟨_, rfl⟩
 rw [hdb] at c5 ⊢
 have HD := zh hdb
 clear hdb
 unfold ptrV
 cases hd : x.down
 ·rw [hd] at c5
  go_enter Tryz.func28, Tryz.ntmps28
  go_wp2_with (go_at_call 27; go_must (refine (show Calls _ _ #[ptrV db] _ _ by rw [← HD.out]; exact is_ok _ _ _ H.out).mono ?_); rintro e w2 ⟨rfl, rfl⟩)
  go_ret
  exact ⟨rfl, rfl⟩
 ·rw [hd] at c5
  go_enter Tryz.func28, Tryz.ntmps28
  go_wp2_with (go_at_call 27; go_must (refine (show Calls _ _ #[ptrV db] _ _ by rw [← HD.out]; exact is_ok _ _ _ H.out).mono ?_); rintro e w2 ⟨rfl, rfl⟩)
  go_ret
  exact ⟨rfl, rfl⟩
set_option maxRecDepth 100000 in
theorem bytes_ok (w : World) (n0 : Nat) (x : Dd) (s : ByteArray) (hs : s.size ≤ maxLen) (h : Dk n0 w x) : Calls Tryz.prog 29 #[ptrV x.db, .string s] w fun e w' => ∃ A cap, e = .returned (.slice A (seenOf x.fs s).length cap) ∧ Bq w n0 (.slice A (seenOf x.fs s).length cap) (seenOf x.fs s) ∧ w' = w := by
 have c0 : w.cell? ⟨x.db, 0, none⟩ = some (.map (some x.mb)) := by rw [h.blk.cell]; rfl
 have hl := h.look s hs
 have HL := zh hl
 unfold ptrV
 cases hf : findF x.fs (kOf s) with
 | none =>
  have hv : seenOf x.fs s = [] := by unfold seenOf; rw [hf]
  rw [show foundV x.fs (kOf s) = .pointer none by unfold foundV; rw [hf]] at hl
  clear HL
  rw [hv]
  go_enter Tryz.func29, Tryz.ntmps29
  go_wp2_with fail
  go_ret
  exact ⟨none, 0, rfl, Bq.none _ _, rfl⟩
 | some e =>
  have hv : seenOf x.fs s = e.seen := by unfold seenOf; rw [hf]
  rw [show foundV x.fs (kOf s) = .pointer (some ⟨e.fb, 0, none⟩) by unfold foundV; rw [hf]; rfl] at hl
  obtain ⟨u, v, hb, hu, hq⟩ := (h.fls e (findF_some hf).1).blk
  obtain ⟨A, cap, rfl⟩ := hu.form
  have c1 : w.cell? ⟨e.fb, 0, none⟩ = some (.slice A e.seen.length cap) := by rw [hb.cell]; rfl
  have HU := zh hu
  clear HL hu hb hq
  rw [hv]
  go_enter Tryz.func29, Tryz.ntmps29
  go_wp2_with fail
  go_ret
  exact ⟨A, cap, rfl, HU.out, rfl⟩
end
end Go.Proofs.YtegcbdfilkecpaaGreat
