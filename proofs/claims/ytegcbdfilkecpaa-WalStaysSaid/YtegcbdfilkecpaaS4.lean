/- Texts of this proof, one behind the other: lemmas and contracts; each says its own conditions. -/
import Derived.Test.YtegcbdfilkecpaaS1
import Derived.Test.YtegcbdfilkecpaaS3
import Derived.Shelf.Abstract
import Derived.Deep.OwnRows
/- A region with several ways that end alike in two blocks and two values; a call, a value among the ready operations; no condition. -/
namespace Go.Proofs.Ytegcbdfilkecpaa
open Go

section
variable {P : Program} {ops : Array Oper} {Q : Exit → Act → World → Prop} {md : Region.Mode} {S : World → Prop} {fuel : Nat} {listed : Array Bool} {a : Act} {w : World} {i : Nat} {rs : List Nat}
variable {ds : Option Tmp} {op : Op} {ty : TypeId} {ps : String} {af : Array Edge} {gd : Option (Nat × Bool)}
/-- a call among the ready operations: what is known behind it is R -/
theorem AllReadyH.callR (R : Value → World → Prop) (ho : ops[i]? = some ⟨ds, op, ty, ps, af, gd⟩) (hw : Region.wanted ⟨ds, op, ty, ps, af, gd⟩ (yielded ops a.tmps) = true) (f : FuncId) (args : Array Value)
    (hr : (execOp a.eval ⟨ds, op, ty, ps, af, gd⟩).run P w = .ok (.enter f args) w) (hS : ∀ v w', R v w' → S w') (hc : Calls P f args w fun e w' => ∃ v, e = .returned v ∧ R v w')
    (hn : ∀ v w', R v w' → wpAnyH P md ops Q S fuel (listed.setIfInBounds i true) (a.put ds v) w')
    (hs : AllReadyH P md ops Q S fuel listed a w rs) : AllReadyH P md ops Q S fuel listed a w (i :: rs) :=
  AllReadyH.cons ho (fun K hK => by
    rw [if_pos hw]
    unfold Oper.wp
    rw [hr, Oper.upon_enter]
    refine hc.mono ?_
    rintro e w' ⟨v, rfl, h⟩
    exact hK.out _ _ (hS v w' h) (fun _ => hn v w' h)) hs
/-- an operation that yields a value and turns the world: what is known behind it is R -/
theorem AllReadyH.valR (R : World → Prop) (ho : ops[i]? = some ⟨ds, op, ty, ps, af, gd⟩) (hw : Region.wanted ⟨ds, op, ty, ps, af, gd⟩ (yielded ops a.tmps) = true) (v : Value) (w' : World)
    (hr : (execOp a.eval ⟨ds, op, ty, ps, af, gd⟩).run P w = .ok (.value v) w') (hS : ∀ w', R w' → S w') (h : R w')
    (hn : ∀ w', R w' → wpAnyH P md ops Q S fuel (listed.setIfInBounds i true) (a.put ds v) w')
    (hs : AllReadyH P md ops Q S fuel listed a w rs) : AllReadyH P md ops Q S fuel listed a w (i :: rs) :=
  AllReadyH.cons ho (fun K hK => by
    rw [if_pos hw]
    unfold Oper.wp
    rw [hr, Oper.upon_value]
    exact hK.out _ _ (hS w' h) (fun _ => hn w' h)) hs
theorem AllReadyH.storeL {tx : TypeId} {x y : Operand} (ho : ops[i]? = some ⟨none, .store tx x y, ty, ps, af, gd⟩)
    (hw : Region.wanted ⟨none, .store tx x y, ty, ps, af, gd⟩ (yielded ops a.tmps) = true) (b off : Nat) (cells : Array Value)
    (hx : a.eval x = .pointer (some ⟨b, off, none⟩)) (hy : a.eval y = .agg cells) (ht : w.there b off cells.size) (hi : (P.info? tx).map (·.size) = some cells.size) (h1 : cells.all (·.oneCell') = true)
    (hS : S (w.setCells b off cells.toList)) (hn : wpAnyH P md ops Q S fuel (listed.setIfInBounds i true) a (w.setCells b off cells.toList))
    (hs : AllReadyH P md ops Q S fuel listed a w rs) : AllReadyH P md ops Q S fuel listed a w (i :: rs) :=
  AllReadyH.cons ho (fun K hK => by rw [if_pos hw]; exact wp_store_mid tx x y rfl b off cells hx hy ht hi h1 (hK.out _ _ hS (fun _ => hn))) hs
theorem wpAnyH_takeL {v : Value} (hi : ops[i]? = some ⟨ds, op, ty, ps, af, gd⟩)
    (hs : Region.noSelect ops = true) (hf : Region.free md ops listed i = true) (hr : (Region.ready md ops listed).contains i = true)
    (hQ : ∀ c a w, Q (.panic c) (a.put ds v) w → Q (.panic c) a w) (hy : YieldsIf P ops S ⟨ds, op, ty, ps, af, gd⟩ v a) (hS : S w)
    (h : wpAnyH P md ops Q S fuel (listed.setIfInBounds i true) (a.put ds v) w) : wpAnyH P md ops Q S (fuel + 1) listed a w :=
  wpAnyH_take hi hs hf hr hQ hy hS h
end
end Go.Proofs.Ytegcbdfilkecpaa
namespace Go.Proofs.Ytegcbdfilkecpaa
section
variable {P : Go.Program} {ops : Array Go.Oper} {Q : Go.Exit → Go.Act → Go.World → Prop} {md : Go.Region.Mode} {S : Go.World → Prop} {fuel : Nat} {listed : Array Bool} {a : Go.Act} {w : Go.World} {i : Nat}
variable {ds : Option Go.Tmp} {op : Go.Op} {ty : Go.TypeId} {ps : String} {af : Array Go.Edge} {gd : Option (Nat × Bool)}
theorem tkS {v : Go.Value} (hi : ops[i]? = some ⟨ds, op, ty, ps, af, gd⟩) (hy : Go.YieldsIf P ops S ⟨ds, op, ty, ps, af, gd⟩ v a) (hS : S w)
    (h : Go.wpAnyH P md ops Q S fuel (listed.setIfInBounds i true) (a.put ds v) w) (hQ : ∀ c a w, Q (.panic c) (a.put ds v) w → Q (.panic c) a w := by exact fun _ _ _ h => h)
    (hs : Go.Region.noSelect ops = true := by kernel_rfl) (hf : Go.Region.free md ops listed i = true := by kernel_rfl) (hr : (Go.Region.ready md ops listed).contains i = true := by kernel_rfl) : Go.wpAnyH P md ops Q S (fuel + 1) listed a w :=
  wpAnyH_takeL hi hs hf hr hQ hy hS h
end
theorem skA (l : List Go.Value) (i : Nat) (v : Go.Value) : l.toArray.setIfInBounds i v = (l.set i v).toArray := by simp
theorem skB (x : Go.Value) (l : List Go.Value) (v : Go.Value) : (x :: l).set 0 v = v :: l := rfl
theorem skC (x : Go.Value) (l : List Go.Value) (i : Nat) (v : Go.Value) : (x :: l).set (i + 1) v = x :: l.set i v := rfl
end Go.Proofs.Ytegcbdfilkecpaa
/- Slices of texts in memory; no condition. -/
namespace Go.Proofs.Ytegcbdfilkecpaa
open Go.RowKit

/-- a slice of strings in memory -/
def Sl (w : World) (A : Option Addr) (n : Nat) (xs : List ByteArray) : Prop :=
  xs.length = n ∧ (0 < n → ∃ g o, A = some ⟨g, o, none⟩ ∧ g < w.heap.size ∧ ∀ k, k < n → w.cell? ⟨g, o + k, none⟩ = some (.string (xs.getD k ByteArray.empty)))
theorem Sl.keep {w w' : World} {A : Option Addr} {n : Nat} {xs : List ByteArray} (h : Sl w A n xs) (k : Kp NoB w w') : Sl w' A n xs :=
  ⟨h.1, fun hn => by
    obtain ⟨g, o, e, hg, hc⟩ := h.2 hn
    exact ⟨g, o, e, Nat.lt_of_lt_of_le hg k.size, fun j hj => (k.cell hg (fun q => q)).trans (hc j hj)⟩⟩
end Go.Proofs.Ytegcbdfilkecpaa
/- Pages are laid as the document says: the program's lay, room and told; no condition. -/
namespace Go.Proofs.Ytegcbdfilkecpaa
open Go.RowKit
attribute [local go_sem ↓] load26 store26 alloc26 build26 slice26lo

/-! ### the page of a body, as a list of numbers -/
def w8 (n : Int) : Int := n % 256
def hd6 (kind link : Int) (n : Nat) : List Int := [kind, w8 n, w8 (link / 16777216), w8 (link / 65536), w8 (link / 256), w8 link]
theorem bytesV_noStr {l : List Int} {i : Nat} {c : ByteArray} (h : (bytesV l)[i]? = some (.string c)) : False := by
  unfold bytesV at h
  simp only [List.getElem?_toArray, List.getElem?_map] at h
  cases hq : l[i]? <;> rw [hq] at h <;> simp at h
theorem Sl.on {W W' : World} {A : Option Addr} {n : Nat} {xs : List ByteArray} {g4 : Nat} {t : TypeId} {l : List Int} (h : Sl W A n xs) (hb : Blk W g4 t (bytesV l)) (k : Kp (OnB g4) W W') : Sl W' A n xs := by
  refine ⟨h.1, fun hn => ?_⟩
  obtain ⟨g, o, e, hg, hc⟩ := h.2 hn
  have hne : ¬ OnB g4 g := fun q => by
    unfold OnB at q
    subst q
    have c0 := hc 0 hn
    rw [hb.cell] at c0
    exact bytesV_noStr c0
  exact ⟨g, o, e, Nat.lt_of_lt_of_le hg k.size, fun j hj => (k.cell hg hne).trans (hc j hj)⟩
end Go.Proofs.Ytegcbdfilkecpaa
/- The program's told, cell and New: pages are made of any kind, link and cells; no condition. -/
namespace Go.Proofs.Ytegcbdfilkecpaa
open Go.RowKit
attribute [local go_sem ↓] load26 store26 alloc26 build26 slice26lo

end Go.Proofs.Ytegcbdfilkecpaa
/- The program's New: pages are made of any kind, link and cells; no condition. -/
namespace Go.Proofs.Ytegcbdfilkecpaa
open Go.RowKit
attribute [local go_sem ↓] load26 store26 alloc26 build26 slice26lo

end Go.Proofs.Ytegcbdfilkecpaa
/- The reference's Room, Lay, Told and New: pages are made of any kind, link and cells; no condition. -/
namespace Go.Proofs.Ytegcbdfilkecpaa
open Go.RowKit
attribute [local go_sem ↓] load26 store26 alloc26 build26 slice26lo

end Go.Proofs.Ytegcbdfilkecpaa
/- The reference's Told and New: pages are made of any kind, link and cells; no condition. -/
namespace Go.Proofs.Ytegcbdfilkecpaa
open Go.RowKit
attribute [local go_sem ↓] load26 store26 alloc26 build26 slice26lo

end Go.Proofs.Ytegcbdfilkecpaa
/- What 256 bytes say as a page, and that the program's read answers just that; no condition. -/
namespace Go.Proofs.Ytegcbdfilkecpaa
open Go.RowKit
attribute [local go_sem ↓] load26 store26 alloc26 build26 slice26lo slice26lohi conv64

def at_ (l : List Int) (i : Nat) : Int := l[i]?.getD 0
/-- 256 bytes -/
structure Bytes (l : List Int) : Prop where
  len : l.length = 256
  rng : ∀ i, 0 ≤ at_ l i ∧ at_ l i < 256

def ReadPost (w : World) (r : Option (Int × Int × List ByteArray)) (e : Ending) (w' : World) : Prop :=
  Kp NoB w w' ∧ ((r = none ∧ e = .returned (.tuple #[.agg #[.int .u8 0, .int .u32 0, .slice none 0 0], .bool false])) ∨
    ∃ kind link cs v, r = some (kind, link, cs) ∧ e = .returned (.tuple #[.agg #[.int .u8 kind, .int .u32 link, v], .bool true]) ∧ w'.ownsRow w.heap.size 9 1 v cs.length (cs.map Value.string))
end Go.Proofs.Ytegcbdfilkecpaa
/- The program's Room and Cell, of any 256 bytes; no condition. -/
namespace Go.Proofs.Ytegcbdfilkecpaa
open Go.RowKit
theorem own_Sl {w : World} {base n : Nat} {A : Option Addr} {cap : Nat} {cs : List ByteArray} (h : w.ownsRow base 9 1 (.slice A n cap) n (cs.map Value.string)) (hl : cs.length = n) : Sl w A n cs := by
  refine ⟨hl, fun hn => ?_⟩
  obtain ⟨g, rfl, hb, hlt⟩ := own_at h hn
  refine ⟨g, 0, rfl, hlt, fun k hk => ?_⟩
  rcases h.2 with ⟨h0, _⟩ | ⟨g', cap', cur, hv, hb', hh, h1, h2, h3, h4⟩
  · cases h0
  · simp only [Value.slice.injEq, Option.some.injEq, Addr.mk.injEq] at hv
    obtain ⟨⟨rfl, _⟩, _, rfl⟩ := hv
    rw [cell_of_row w g (0 + k) cur 9 (0, 0) hh]
    have hkc : k < cur.size := by omega
    have e : (cur.toList.take (n * 1))[k]? = (cs.map Value.string)[k]? := by rw [h4]
    rw [List.getElem?_take_of_lt (by omega)] at e
    simp only [Nat.zero_add]
    rw [← Array.getElem?_toList, e, List.getElem?_map]
    simp [show k < cs.length by omega]
theorem ReadPost.none {w w' : World} {e : Ending} (h : ReadPost w none e w') : Kp NoB w w' ∧ e = .returned (.tuple #[.agg #[.int .u8 0, .int .u32 0, .slice none 0 0], .bool false]) := by
  refine ⟨h.1, ?_⟩
  rcases h.2 with q | ⟨_, _, _, _, q, _⟩
  · exact q.2
  · cases q
theorem ReadPost.some {w w' : World} {e : Ending} {kind link : Int} {cs : List ByteArray} (h : ReadPost w (some (kind, link, cs)) e w') :
    Kp NoB w w' ∧ ∃ A cap, e = .returned (.tuple #[.agg #[.int .u8 kind, .int .u32 link, .slice A cs.length cap], .bool true]) ∧ w'.ownsRow w.heap.size 9 1 (.slice A cs.length cap) cs.length (cs.map Value.string) ∧ Sl w' A cs.length cs := by
  refine ⟨h.1, ?_⟩
  rcases h.2 with q | ⟨_, _, _, v, q, rfl, ho⟩
  · cases q.1
  · simp only [Option.some.injEq, Prod.mk.injEq] at q
    obtain ⟨rfl, rfl, rfl⟩ := q
    obtain ⟨A, cap, rfl⟩ := own_slice ho
    exact ⟨A, cap, rfl, ho, own_Sl ho rfl⟩

end Go.Proofs.Ytegcbdfilkecpaa
/- The program's Check, Kind, Count, Link and Cell, of any 256 bytes; no condition. -/
namespace Go.Proofs.Ytegcbdfilkecpaa
open Go.RowKit
end Go.Proofs.Ytegcbdfilkecpaa
/- Pages held against each other; no condition. -/
namespace Go.Proofs.Ytegcbdfilkecpaa
open Go.RowKit

/-- an array of n numbers of a kind -/
def rowOK (k : IntKind) (n : Nat) (v : Value) : Prop := ∃ l : List Int, l.length = n ∧ v = .agg (l.map (Value.int k)).toArray
noncomputable def valEq (u v : Value) : Bool := @decide (u = v) (Classical.propDecidable _)
@[go_sem] theorem valEq_self (u : Value) : valEq u u = true := by unfold valEq; simp
theorem valEq_iff (u v : Value) : valEq u v = true ↔ u = v := by unfold valEq; simp
theorem all_range_eqI : ∀ (xs ys : List Int), xs.length = ys.length → ((List.range xs.length).all fun i => xs.getD i 0 == ys.getD i 0) = (xs == ys)
  | [], [], _ => rfl
  | x :: xs, y :: ys, h => by
    have ih := all_range_eqI xs ys (by simpa using h)
    rw [List.length_cons, List.range_succ_eq_map, List.all_cons, List.all_map]
    simp only [List.getD_cons_zero, Function.comp_def, List.getD_cons_succ, ih]
    simp [List.cons_beq_cons]
  | [], _ :: _, h => by simp at h
  | _ :: _, [], h => by simp at h
section
variable {P : Program} (w : World)
theorem run_equalIn_ints (d : Nat) (t e : TypeId) (n : Nat) (k : IntKind) (ht : P.underlying t = some (.array n e)) (he : P.underlying e = some (.int k)) (hsz : ∀ w, (sizeOf e).run P w = .ok 1 w)
    (xs ys : List Int) (hx : xs.length = n) (hy : ys.length = n) :
    (Op.equalIn (d + 2) t (.agg (xs.map (Value.int k)).toArray) (.agg (ys.map (Value.int k)).toArray)).run P w = .ok (xs == ys) w := by
  rw [← all_range_eqI xs ys (hx.trans hy.symm), hx, List.range_eq_range', Op.equalIn]
  simp only [Sem.run_bind, run_underlying ht, Result.andThen_ok, hsz, Std.Legacy.Range.forIn_eq_forIn_range', Std.Legacy.Range.size, Nat.sub_zero, Nat.add_sub_cancel, Nat.div_one]
  have hl : ∀ i ∈ List.range' 0 n 1, i < n := fun i hi => by simpa using (List.mem_range'_1.1 hi).2
  generalize List.range' 0 n 1 = l at hl ⊢
  induction l with
  | nil => simp
  | cons i l ih =>
    have hi : i < n := hl i (by simp)
    have px : (part e (xs.map (Value.int k)).toArray (i * 1)).run P w = .ok (.int k (xs.getD i 0)) w := by
      simp [part, isAgg, run_underlying he, List.getD, List.getElem?_eq_getElem (show i < xs.length by omega)]
    have py : (part e (ys.map (Value.int k)).toArray (i * 1)).run P w = .ok (.int k (ys.getD i 0)) w := by
      simp [part, isAgg, run_underlying he, List.getD, List.getElem?_eq_getElem (show i < ys.length by omega)]
    have pe : (Op.equalIn (d + 1) e (.int k (xs.getD i 0)) (.int k (ys.getD i 0))).run P w = .ok (xs.getD i 0 == ys.getD i 0) w := by
      rw [run_equalIn_int w d e k k _ _ he]
    simp only [List.forIn_cons, Sem.run_bind, px, py, pe, Result.andThen_ok, List.all_cons]
    cases hb : (xs.getD i 0 == ys.getD i 0)
    · simp
    · simp only [Bool.not_true, Bool.false_eq_true, if_false, Sem.run_pure, Result.andThen_ok, Bool.true_and]
      exact ih fun j hj => hl j (by simp [hj])
theorem run_eql_ints (t e : TypeId) (n : Nat) (k : IntKind) (ht : P.underlying t = some (.array n e)) (he : P.underlying e = some (.int k)) (hsz : ∀ w, (sizeOf e).run P w = .ok 1 w)
    (u v : Value) (hu : rowOK k n u) (hv : rowOK k n v) :
    (binOp .eql t u v).run P w = .ok (.bool (valEq u v)) w ∧ (binOp .neq t u v).run P w = .ok (.bool (!valEq u v)) w := by
  obtain ⟨xs, hx, rfl⟩ := hu
  obtain ⟨ys, hy, rfl⟩ := hv
  have he' := run_equalIn_ints w 9998 t e n k ht he hsz xs ys hx hy
  have e2 : (xs == ys) = valEq (.agg (xs.map (Value.int k)).toArray) (.agg (ys.map (Value.int k)).toArray) := by
    rw [Bool.eq_iff_iff, valEq_iff, beq_iff_eq]
    constructor
    · rintro rfl; rfl
    · intro h
      injection h with h
      have h1 := congrArg Array.toList h
      exact map_int_inj (by simpa using h1)
  rw [e2] at he'
  constructor
  · rw [run_eql_struct, he']
    rfl
  · rw [run_neq_struct, he']
    rfl
theorem execEql_row {T e n : Nat} {k : IntKind} (op : BinOp) (hop : op = .eql ∨ op = .neq) (ht : P.underlying T = some (.array n e)) (he : P.underlying e = some (.int k)) (hsz : ∀ w, (sizeOf e).run P w = .ok 1 w) (hm : P.eqGuardType P.depth T = false)
    (ev : Operand → Value) (ds : Option Tmp) (x y : Operand) (yt ty : TypeId) (ps : String) (af : Array Edge) (g : Option (Nat × Bool)) (hx : rowOK k n (ev x)) (hy : rowOK k n (ev y)) :
    (execOp ev ⟨ds, .binOp op T x y yt, ty, ps, af, g⟩).run P w = .ok (.value (.bool (if op = .eql then valEq (ev x) (ev y) else !valEq (ev x) (ev y)))) w := by
  have hr := run_eql_ints w T e n k ht he hsz (ev x) (ev y) hx hy
  have hg : (eqGuard op T x y (ev x) (ev y)).run P w = .ok () w := by
    obtain ⟨xs, _, hx⟩ := hx
    obtain ⟨ys, _, hy⟩ := hy
    rw [hx, hy]
    exact run_eqGuard_agg w op T x y _ _ hm
  rcases hop with rfl | rfl
  · simp only [execOp, Sem.run_bind, hg, Result.andThen_ok, hr.1, Sem.run_pure, if_true]
  · simp only [execOp, Sem.run_bind, hg, Result.andThen_ok, hr.2, Sem.run_pure, reduceCtorEq, if_false]
end
def pgOK (v : Value) : Prop := rowOK .u8 256 v
theorem pgOK_bytes (l : List Int) (h : l.length = 256) : pgOK (.agg (bytesV l)) := ⟨l, h, rfl⟩
theorem guard26 : Try.prog.eqGuardType Try.prog.depth 24 = false := by kernel_rfl
theorem eql26 (w : World) (ev : Operand → Value) (ds : Option Tmp) (x y : Operand) (yt ty : TypeId) (ps : String) (af : Array Edge) (g : Option (Nat × Bool)) (hx : pgOK (ev x)) (hy : pgOK (ev y)) :
    (execOp ev ⟨ds, .binOp .eql 24 x y yt, ty, ps, af, g⟩).run Try.prog w = .ok (.value (.bool (valEq (ev x) (ev y)))) w :=
  execEql_row w .eql (.inl rfl) Try.underlying24 Try.underlying5 sizeU8 guard26 ev ds x y yt ty ps af g hx hy
theorem neq26 (w : World) (ev : Operand → Value) (ds : Option Tmp) (x y : Operand) (yt ty : TypeId) (ps : String) (af : Array Edge) (g : Option (Nat × Bool)) (hx : pgOK (ev x)) (hy : pgOK (ev y)) :
    (execOp ev ⟨ds, .binOp .neq 24 x y yt, ty, ps, af, g⟩).run Try.prog w = .ok (.value (.bool (!valEq (ev x) (ev y)))) w :=
  execEql_row w .neq (.inr rfl) Try.underlying24 Try.underlying5 sizeU8 guard26 ev ds x y yt ty ps af g hx hy
end Go.Proofs.Ytegcbdfilkecpaa
/- The sealed sector: what it says; no condition. -/
namespace Go.Proofs.Ytegcbdfilkecpaa
open Go.RowKit

attribute [local go_sem ↓] loadSec storeSec allocSec loadW4 storeW4
theorem four_inj {a b : Int} : ∀ {l m : List Int}, l.length = 4 → m.length = 4 → (∀ y ∈ l, 0 ≤ y ∧ y < 256) → (∀ y ∈ m, 0 ≤ y ∧ y < 256) → (num l 0 = num m 0 ↔ l = m)
  | [a, b, c, d], [e, f, g, h], _, _, h1, h2 => by
    simp only [List.mem_cons, List.not_mem_nil, or_false, forall_eq_or_imp, forall_eq] at h1 h2
    unfold num
    simp only [List.getD_cons_zero, List.getD_cons_succ, List.cons.injEq, and_true, Nat.zero_add]
    omega
theorem num_drop (l : List Int) (a : Nat) : num l a = num ((l.drop a).take 4) 0 := by
  unfold num
  simp only [List.getD_eq_getElem?_getD, List.getElem?_take, List.getElem?_drop]
  simp
theorem words_eq {l : List Int} (hl : l.length = 64) (hr : ∀ y ∈ l, 0 ≤ y ∧ y < 256) : (wordsAt l 0 = wordsAt l 16) ↔ l.take 16 = (l.drop 16).take 16 := by
  have hd : ∀ a, ∀ y ∈ (l.drop a).take 4, 0 ≤ y ∧ y < 256 := fun a y hy => hr y (List.mem_of_mem_drop (List.mem_of_mem_take hy))
  have key : ∀ a b, a + 4 ≤ 64 → b + 4 ≤ 64 → (num l a = num l b ↔ (l.drop a).take 4 = (l.drop b).take 4) := fun a b ha hb => by
    rw [num_drop l a, num_drop l b]
    exact four_inj (a := 0) (b := 0) (by simp; omega) (by simp; omega) (hd a) (hd b)
  have split16 : ∀ a, a + 16 ≤ 64 → (l.drop a).take 16 = (l.drop a).take 4 ++ ((l.drop (a + 4)).take 4 ++ ((l.drop (a + 8)).take 4 ++ (l.drop (a + 12)).take 4)) := fun a ha => by
    have e : ∀ b k, (l.drop b).take (4 + k) = (l.drop b).take 4 ++ (l.drop (b + 4)).take k := fun b k => by
      rw [List.take_add, List.drop_drop]
    rw [show 16 = 4 + (4 + (4 + 4)) from rfl, e, e, e]
  have h0 := split16 0 (by omega)
  have h1 := split16 16 (by omega)
  rw [List.drop_zero] at h0
  constructor
  · intro h
    simp only [wordsAt, W4.mk.injEq] at h
    obtain ⟨a, b, c, d⟩ := h
    rw [h0, h1, (key _ _ (by omega) (by omega)).1 b, (key _ _ (by omega) (by omega)).1 c, (key _ _ (by omega) (by omega)).1 d]
    have := (key 0 16 (by omega) (by omega)).1 a
    rw [List.drop_zero] at this
    rw [this]
  · intro h
    have hh := h
    rw [h0, h1] at h
    have ln : ∀ a, a + 4 ≤ 64 → ((l.drop a).take 4).length = 4 := fun a ha => by simp; omega
    have q0 := ln 0 (by omega)
    rw [List.drop_zero] at q0
    obtain ⟨a, h⟩ := List.append_inj h (by rw [q0, ln 16 (by omega)])
    obtain ⟨b, h⟩ := List.append_inj h (by rw [ln _ (by omega), ln _ (by omega)])
    obtain ⟨c, d⟩ := List.append_inj h (by rw [ln _ (by omega), ln _ (by omega)])
    simp only [wordsAt, W4.mk.injEq]
    refine ⟨(key 0 16 (by omega) (by omega)).2 ?_, (key _ _ (by omega) (by omega)).2 b, (key _ _ (by omega) (by omega)).2 c, (key _ _ (by omega) (by omega)).2 d⟩
    rw [List.drop_zero]
    exact a
theorem W4.eta_of {u v : W4} (h : u.a = v.a ∧ u.b = v.b ∧ u.c = v.c ∧ u.d = v.d) : u = v := by
  cases u
  cases v
  simp_all
def W4.l (w : W4) : List Int := [w.a, w.b, w.c, w.d]
theorem eqW4 (w : World) (u v : W4) : (Op.equalIn 10000 102 (.agg (w4A u)) (.agg (w4A v))).run Try.prog w = .ok (u.l == v.l) w :=
  run_equalIn_ints w 9998 102 100 4 .u32 Try.underlying102 Try.underlying100 (fun _ => by kernel_rfl) u.l v.l rfl rfl
/-- in the midst of Open -/
structure OpS (w : World) (l : List Int) (W : World) : Prop where
  kp : Kp NoB w W
  b1 : Blk W w.heap.size 146 (bytesV l)
  b2 : Blk W (w.heap.size + 1) 102 #[.int .u32 0, .int .u32 0, .int .u32 0, .int .u32 0]
theorem OpS.keep {w : World} {l : List Int} {W W' : World} (h : OpS w l W) (k : Kp NoB W W') : OpS w l W' := ⟨h.kp.trans k (fun _ _ q => q), h.b1.keep k (fun q => q), h.b2.keep k (fun q => q)⟩
theorem OpS.sp {w : World} {l : List Int} {W : World} (h : OpS w l W) : W.rangeAt w.heap.size 0 (l.map (Value.int .u8)) := by
  have := Blk.range (xa := []) (xb := l.map (Value.int .u8)) (xd := []) (by have := h.b1; unfold bytesV at this; simpa using this) 0 rfl
  exact this
theorem OpS.at_ {w : World} {l : List Int} {W : World} (h : OpS w l W) (hl : l.length = 64) : W.there w.heap.size 0 64 ∧ readRow W w.heap.size 0 64 = bytesV l :=
  ⟨h.b1.thereAll 64 (by simp [bytesV, hl]), h.b1.readAll 64 (by simp [bytesV, hl])⟩
set_option maxRecDepth 100000 in
set_option maxHeartbeats 1600000 in
theorem open_ok (w : World) (l : List Int) (hl : l.length = 64) (hr : ∀ y ∈ l, 0 ≤ y ∧ y < 256) :
    Calls Try.prog 113 #[.agg (bytesV l)] w fun e w' => e = .returned (.agg (w4A (openB l))) ∧ Kp NoB w w' := by
  have HL := Lib.hid hl
  have HR := Lib.hid hr
  have HW := Lib.hid (words_eq hl hr)
  clear hl hr
  have hve : ((wordsAt l 0).l == (wordsAt l 16).l) = decide (l.take 16 = (l.drop 16).take 16) := by
    rw [Bool.eq_iff_iff, beq_iff_eq, decide_eq_true_iff, ← HW.out]
    constructor
    · intro h
      simp only [W4.l, List.cons.injEq, and_true] at h
      exact W4.eta_of h
    · intro h
      rw [h]
  have heq := fun w' => eqW4 w' (wordsAt l 0) (wordsAt l 16)
  rw [hve] at heq
  obtain ⟨D, hD⟩ : ∃ D, decide (l.take 16 = (l.drop 16).take 16) = D := ⟨_, rfl⟩
  rw [hD] at heq
  have HD := Lib.hid hD
  clear hve hD
  have hu := Try.underlying146
  have hi1 : (Try.prog.info? 146).map (·.size) = some (l.map (Value.int .u8)).length := by rw [List.length_map, HL.out]; exact infoSec
  have HST : Hid (OpS w l ((w.alloc (.cells (bytesV l) 146)).alloc (.cells #[.int .u32 0, .int .u32 0, .int .u32 0, .int .u32 0] 102))) :=
    Lib.hid ⟨((Kp.refl _ _).alloc _).alloc _, (Blk.new _ _ _).alloc _, Blk.newAt _ _ _ _ (by simp)⟩
  go_enter Try.func113, Try.ntmps113
  go_wp2_with fail
  refine forget (p := fun wx => Code.wp _ _ _ _ wx) (OpS w l) HST.out ?_
  intro W hW
  clear HST
  refine wp_region_held_drew (S := fun W' => W'.rangeAt w.heap.size 0 (l.map (Value.int .u8))) (by kernel_rfl) hW.sp (fun hHeld => ?_)
  have h0 := hW.keep (Kp.refl NoB W).drew
  generalize W.drew = W0 at h0 hHeld ⊢
  refine tkS (i := 0) (v := .agg ((l.map (Value.int .u8))).toArray) rfl (yieldsIf_load_mid (by rfl) _ _ rfl _ _ rfl (l.map (Value.int .u8)) _ (fun _ q => q) hu rfl hi1) h0.sp ?_
  simp only [Act.put, skA, skB, skC]
  refine tkS (i := 2) (v := .agg ((l.map (Value.int .u8))).toArray) rfl (yieldsIf_load_mid (by rfl) _ _ rfl _ _ rfl (l.map (Value.int .u8)) _ (fun _ q => q) hu rfl hi1) h0.sp ?_
  simp only [Act.put, skA, skB, skC]
  refine wpAnyH_ready (rs := [1]) (by kernel_rfl) (by simp) ?_
  refine AllReadyH.callR (fun x W' => x = .agg (w4A (wordsAt l 0)) ∧ OpS w l W') rfl (by rfl) 155 #[.agg (bytesV l), .int .i64 0] (by first | (go_simp; done) | (go_simp; rfl)) (fun _ _ q => q.2.sp) ((words_ok W0 l 0 (by omega) HL.out HR.out).mono (by rintro e w19 ⟨rfl, hk⟩; exact ⟨_, rfl, rfl, h0.keep hk⟩)) ?_ AllReadyH.nil
  rintro _ W1 ⟨rfl, h1⟩
  simp only [Act.put, skA, skB, skC]
  refine wpAnyH_ready (rs := [3]) (by kernel_rfl) (by simp) ?_
  refine AllReadyH.callR (fun x W' => x = .agg (w4A (wordsAt l 16)) ∧ OpS w l W') rfl (by rfl) 155 #[.agg (bytesV l), .int .i64 1] (by first | (go_simp; done) | (go_simp; rfl)) (fun _ _ q => q.2.sp) ((words_ok W1 l 1 (by omega) HL.out HR.out).mono (by rintro e w19 ⟨rfl, hk⟩; exact ⟨_, rfl, rfl, h1.keep hk⟩)) ?_ AllReadyH.nil
  rintro _ W2 ⟨rfl, h2⟩
  simp only [Act.put, skA, skB, skC]
  refine tkS (i := 4) (v := (.bool D)) rfl (Or.inl ⟨by rfl, fun w' hq => by go_simp⟩) h2.sp ?_
  simp only [Act.put, skA, skB, skC]
  refine wpAnyH_done (by kernel_rfl) ?_ _
  clear hHeld h0 h1 hW
  have H2 := Lib.hid h2
  obtain ⟨t1, r1⟩ := h2.at_ HL.out
  have t2 : W2.there (w.heap.size + 1) 0 4 := h2.b2.thereAll 4 rfl
  have e1 : openB l = if l.take 16 = (l.drop 16).take 16 then wordsAt l 0 else wordsAt l 32 := rfl
  have HE := Lib.hid e1
  clear h2 hi1 hu e1 heq
  have hll : ∀ k, (w4A (wordsAt l k)).size = 4 := fun _ => rfl
  rcases D with _ | _
  · have e2 : openB l = wordsAt l 32 := by rw [HE.out, if_neg (of_decide_eq_false HD.out)]
    go_wp2_with fail
    refine (words_ok W2 l 2 (by omega) HL.out HR.out).mono ?_
    rintro e w3 ⟨rfl, hk⟩
    have H3 := Lib.hid (H2.out.keep hk)
    have t3 : w3.there (w.heap.size + 1) 0 4 := H3.out.b2.thereAll 4 rfl
    obtain ⟨RR, hRR⟩ : ∃ RR, w4A (wordsAt l (16 * 2)) = RR := ⟨_, rfl⟩
    have o1 := w4A_ones (wordsAt l (16 * 2))
    have s1 : (w4A (wordsAt l (16 * 2))).size = 4 := rfl
    rw [hRR] at o1 s1
    rw [hRR]
    have HRR := Lib.hid hRR
    have S1 := Lib.hid s1
    clear hk hRR hll
    go_wp2_with fail
    refine bodyPost_ret (ret_cell1 rfl _ _ _ _ _ _ rfl (H3.out.b2.whole RR S1.out.symm) Try.underlying102 rfl (by rw [S1.out]; exact infoW4)) rfl ⟨by rw [e2, ← HRR.out], ?_⟩
    exact Kp.setCells (.inl (by omega)) _ _ _ H3.out.kp
  · have e2 : openB l = wordsAt l 0 := by rw [HE.out, if_pos (of_decide_eq_true HD.out)]
    go_wp2_with fail
    refine (words_ok W2 l 0 (by omega) HL.out HR.out).mono ?_
    rintro e w3 ⟨rfl, hk⟩
    have H3 := Lib.hid (H2.out.keep hk)
    have t3 : w3.there (w.heap.size + 1) 0 4 := H3.out.b2.thereAll 4 rfl
    obtain ⟨RR, hRR⟩ : ∃ RR, w4A (wordsAt l (16 * 0)) = RR := ⟨_, rfl⟩
    have o1 := w4A_ones (wordsAt l (16 * 0))
    have s1 : (w4A (wordsAt l (16 * 0))).size = 4 := rfl
    rw [hRR] at o1 s1
    rw [hRR]
    have HRR := Lib.hid hRR
    have S1 := Lib.hid s1
    clear hk hRR hll
    go_wp2_with fail
    refine bodyPost_ret (ret_cell1 rfl _ _ _ _ _ _ rfl (H3.out.b2.whole RR S1.out.symm) Try.underlying102 rfl (by rw [S1.out]; exact infoW4)) rfl ⟨by rw [e2, ← HRR.out], ?_⟩
    exact Kp.setCells (.inl (by omega)) _ _ _ H3.out.kp
end Go.Proofs.Ytegcbdfilkecpaa
/- The sealed sector, made; no condition. -/
namespace Go.Proofs.Ytegcbdfilkecpaa
open Go.RowKit

attribute [local go_sem ↓] loadSec storeSec allocSec loadW4 storeW4
def W4.at_ (w : W4) (i : Nat) : Int := if i = 0 then w.a else if i = 1 then w.b else if i = 2 then w.c else w.d
def byteK (n : Int) (k : Nat) : Int := if k = 0 then n / 16777216 % 256 else if k = 1 then n / 65536 % 256 else if k = 2 then n / 256 % 256 else n % 256
def W4.b3 (w : W4) : List Int := w.bytes ++ w.bytes ++ w.bytes
theorem b3_len (w : W4) : w.b3.length = 48 := rfl
theorem b3_at (w : W4) (c i k : Nat) (hc : c < 3) (hi : i < 4) (hk : k < 4) : w.b3[16 * c + 4 * i + k]? = some (byteK (w.at_ i) k) := by
  rcases (show c = 0 ∨ c = 1 ∨ c = 2 by omega) with rfl | rfl | rfl <;> rcases (show i = 0 ∨ i = 1 ∨ i = 2 ∨ i = 3 by omega) with rfl | rfl | rfl | rfl <;> rcases (show k = 0 ∨ k = 1 ∨ k = 2 ∨ k = 3 by omega) with rfl | rfl | rfl | rfl <;> rfl
/-- the first n bytes are there -/
def upS (w : W4) (n : Nat) : List Int := w.b3.take n ++ zeros (64 - n)
theorem upS_all (w : W4) : upS w 48 = sealB w := rfl
theorem upS_set (w : W4) (n : Nat) (x : Int) (hn : n < 48) (hx : w.b3[n]? = some x) : (upS w n).set n x = upS w (n + 1) := by
  unfold upS
  have e1 : (w.b3.take n).length = n := by rw [List.length_take, b3_len]; omega
  rw [List.set_append_right _ _ (by omega), e1, Nat.sub_self, show 64 - n = (64 - (n + 1)) + 1 by omega]
  unfold zeros
  rw [List.replicate_succ, List.set_cons_zero, List.take_add_one, hx]
  simp
theorem bytesV_setJ (l : List Int) (n : Nat) (x : Int) : (bytesV l).setIfInBounds n (.int .u8 x) = bytesV (l.set n x) := by
  unfold bytesV
  rw [List.setIfInBounds_toArray, List.map_set]
/-- in the midst of Seal -/
structure SeS (w : World) (v : W4) (n : Nat) (W : World) : Prop where
  kp : Kp NoB w W
  b0 : Blk W w.heap.size 102 (w4A v)
  b1 : Blk W (w.heap.size + 1) 146 (bytesV (zeros 64))
  b2 : Blk W (w.heap.size + 2) 146 (bytesV (upS v n))
theorem SeS.set_ {w : World} {v : W4} {n : Nat} {W : World} (h : SeS w v n W) (hn : n < 48) (x : Int) (hx : v.b3[n]? = some x) : SeS w v (n + 1) (W.setCell ⟨w.heap.size + 2, n, none⟩ (.int .u8 x)) := by
  refine ⟨h.kp.setCell (p := ⟨w.heap.size + 2, n, none⟩) (.inl (by show _ ≤ w.heap.size + 2; omega)) _, h.b0.far (p := ⟨w.heap.size + 2, n, none⟩) (by simp) _, h.b1.far (p := ⟨w.heap.size + 2, n, none⟩) (by simp) _, ?_⟩
  have := h.b2.set_ n (.int .u8 x)
  rwa [bytesV_setJ, upS_set _ _ _ hn hx] at this
theorem indexW4 (v : W4) (i : Nat) (hi : i < 4) (w : World) : (Instr.index 102 (.agg (w4A v)) (.int .i64 i)).run Try.prog w = .ok (.int .u32 (v.at_ i)) w := by
  obtain ⟨inf, h1, h2⟩ : ∃ inf, Try.prog.info? 100 = some inf ∧ inf.size = 1 := by
    have h : (Try.prog.info? 100).map (·.size) = some 1 := by kernel_rfl
    cases hq : Try.prog.info? 100 with
    | none => rw [hq] at h; cases h
    | some i => rw [hq] at h; exact ⟨i, rfl, by simpa using h⟩
  exact run_index_arr w 102 100 4 (.int .u32) inf Try.underlying102 Try.underlying100 rfl h1 h2 (w4A v).toList i hi _ (by
    rcases (show i = 0 ∨ i = 1 ∨ i = 2 ∨ i = 3 by omega) with rfl | rfl | rfl | rfl <;> rfl)
set_option maxRecDepth 100000 in
set_option maxHeartbeats 1600000 in
theorem seal_ok (w : World) (v : W4) : Calls Try.prog 115 #[.agg (w4A v)] w fun e w' => e = .returned (.agg (bytesV (sealB v))) ∧ Kp NoB w w' := by
  have hst : SeS w v 0 (((w.alloc (.cells (w4A v) 102)).alloc (.cells (bytesV (zeros 64)) 146)).alloc (.cells (bytesV (zeros 64)) 146)) :=
    ⟨(((Kp.refl _ _).alloc _).alloc _).alloc _, ((Blk.new _ _ _).alloc _).alloc _, (Blk.newAt _ _ _ _ (by simp)).alloc _, Blk.newAt _ _ _ _ (by simp)⟩
  have HST := Lib.hid hst
  clear hst
  go_enter Try.func115, Try.ntmps115
  go_wp2
  refine forget (p := fun wx => Code.wp _ _ _ _ wx) (SeS w v 0) HST.out ?_
  intro W hW
  have HW := Lib.hid hW
  clear hW HST
  go_loopw [8] (fun x wr => ∃ c : Nat, c ≤ 3 ∧ x = .int .i64 c ∧ SeS w v (16 * c) wr) (fun x _ => 3 - (intOf x).toNat)
  case atStart => exact ⟨0, by omega, rfl, HW.out⟩
  case round =>
    obtain ⟨c, hc, rfl, hs⟩ := hrel
    have HS := Lib.hid hs
    by_cases hc3 : c < 3
    · have hcc : (c : Int) < 3 := by omega
      have t0 : wr.there w.heap.size 0 4 := hs.b0.thereAll 4 rfl
      have r0 : readRow wr w.heap.size 0 4 = w4A v := hs.b0.readAll 4 rfl
      clear hs
      go_wp2_with fail
      go_loopw [12] (fun x wr => ∃ i : Nat, i ≤ 4 ∧ x = .int .i64 i ∧ SeS w v (16 * c + 4 * i) wr) (fun x _ => 4 - (intOf x).toNat)
      case atStart => exact ⟨0, by omega, rfl, HS.out⟩
      case round =>
        obtain ⟨i, hi, rfl, hs⟩ := hrel
        have HS2 := Lib.hid hs
        by_cases hi4 : i < 4
        · have hii : (i : Int) < 4 := by omega
          have hix := indexW4 v i hi4
          obtain ⟨N, hN⟩ : ∃ N, v.at_ i = N := ⟨_, rfl⟩
          rw [hN] at hix
          have HN := Lib.hid hN
          clear hs hN
          go_wp2_with fail
          go_loopw [16] (fun x wr => ∃ k : Nat, k ≤ 4 ∧ x = .int .i64 k ∧ SeS w v (16 * c + 4 * i + k) wr) (fun x _ => 4 - (intOf x).toNat)
          case atStart => exact ⟨0, by omega, rfl, HS2.out⟩
          case round =>
            obtain ⟨k, hk, rfl, hs⟩ := hrel
            have HS3 := Lib.hid hs
            by_cases hk4 : k < 4
            · have hkk : (k : Int) < 4 := by omega
              have hat := b3_at v c i k hc3 hi4 hk4
              rw [HN.out] at hat
              have hp48 : 16 * c + 4 * i + k < 48 := by omega
              obtain ⟨Ps, hPs⟩ : ∃ Ps, 16 * c + 4 * i + k = Ps := ⟨_, rfl⟩
              have HPs := Lib.hid hPs
              rw [hPs] at hat hp48
              have hP2 : c * 16 + i * 4 + k = Ps := by omega
              have hb48 : c * 16 + i * 4 + k < 64 := by omega
              have c2 : wr.cell? ⟨w.heap.size + 1 + 1, Ps, none⟩ = some (.int .u8 0) := by
                rw [show w.heap.size + 1 + 1 = w.heap.size + 2 from rfl, hs.b2.cell, hPs]
                unfold bytesV upS
                have e1 : (v.b3.take Ps).length = Ps := by rw [List.length_take, b3_len]; omega
                simp only [List.getElem?_toArray, List.getElem?_map]
                rw [List.getElem?_append_right (by omega), e1, Nat.sub_self]
                unfold zeros
                rw [show 64 - Ps = (64 - (Ps + 1)) + 1 by omega, List.replicate_succ]
                rfl
              have z2 : wr.frozen? ⟨w.heap.size + 1 + 1, Ps, none⟩ = false := hs.b2.frozen Ps
              rw [← hP2] at c2 z2
              have HAT := Lib.hid hat
              have HP48 := Lib.hid hp48
              clear hs hPs hat hp48 hP2
              have FIN : Hid (∀ W' (y : Int) (m : Nat), W' = wr.setCell ⟨w.heap.size + 2, c * 16 + i * 4 + k, none⟩ (.int .u8 y) → y = byteK N k → m = k + 1 → SeS w v (16 * c + 4 * i + m) W') := Lib.hid (by
                rintro W' y m rfl rfl rfl
                have h1 := HS3.out
                have h2 := HPs.out
                rw [h2] at h1
                have := h1.set_ HP48.out _ HAT.out
                rw [show c * 16 + i * 4 + k = Ps by omega, show 16 * c + 4 * i + (k + 1) = Ps + 1 by omega]
                exact this)
              rcases (show k = 0 ∨ k = 1 ∨ k = 2 ∨ k = 3 by omega) with rfl | rfl | rfl | rfl
              · simp only [Nat.add_zero] at c2 z2
                go_wp2_with fail
                exact ⟨⟨1, by omega, by congr 1, FIN.out _ _ _ rfl rfl rfl⟩, by simp [intOf]⟩
              · go_wp2_with fail
                exact ⟨⟨2, by omega, by congr 1, FIN.out _ _ _ rfl rfl rfl⟩, by simp [intOf]⟩
              · go_wp2_with fail
                exact ⟨⟨3, by omega, by congr 1, FIN.out _ _ _ rfl rfl rfl⟩, by simp [intOf]⟩
              · go_wp2_with fail
                exact ⟨⟨4, by omega, by congr 1, FIN.out _ _ _ rfl rfl rfl⟩, by simp [intOf]⟩
            · have hkk : ¬ (k : Int) < 4 := by omega
              obtain rfl : k = 4 := by omega
              clear hs
              go_wp2_with fail
              exact ⟨⟨i + 1, by omega, by congr 1, by have := HS3.out; rwa [show 16 * c + 4 * i + 4 = 16 * c + 4 * (i + 1) by omega] at this⟩, by simp [intOf]; omega⟩
        · have hii : ¬ (i : Int) < 4 := by omega
          obtain rfl : i = 4 := by omega
          clear hs
          go_wp2_with fail
          exact ⟨⟨c + 1, by omega, by congr 1, by have := HS2.out; rwa [show 16 * c + 4 * 4 = 16 * (c + 1) by omega] at this⟩, by simp [intOf]; omega⟩
    · have hcc : ¬ (c : Int) < 3 := by omega
      obtain rfl : c = 3 := by omega
      have b2 := hs.b2
      rw [show 16 * 3 = 48 from rfl, upS_all] at b2
      have sl : (sealB v).length = 64 := rfl
      have t1 : wr.there (w.heap.size + 1 + 1) 0 64 := b2.thereAll 64 (by rw [bytesV_size, sl])
      have r1 : readRow wr (w.heap.size + 1 + 1) 0 64 = bytesV (sealB v) := b2.readAll 64 (by rw [bytesV_size, sl])
      have t2 : wr.there (w.heap.size + 1) 0 64 := hs.b1.thereAll 64 (by rw [bytesV_size]; rfl)
      have o1 := bytesV_one (sealB v)
      have s1 : (bytesV (sealB v)).size = 64 := by rw [bytesV_size, sl]
      obtain ⟨RR, hRR⟩ : ∃ RR, bytesV (sealB v) = RR := ⟨_, rfl⟩
      rw [hRR] at r1 o1 s1
      have HRR := Lib.hid hRR
      have S1 := Lib.hid s1
      clear hs b2 sl hRR
      go_wp2_with fail
      refine bodyPost_ret (ret_cell1 rfl _ _ _ _ _ _ rfl (HS.out.b1.whole RR (by rw [S1.out, bytesV_size]; rfl)) Try.underlying146 rfl (by rw [S1.out]; exact infoSec)) rfl ⟨by rw [HRR.out], ?_⟩
      exact Kp.setCells (.inl (by omega)) _ _ _ HS.out.kp
end Go.Proofs.Ytegcbdfilkecpaa
/- The journal: steps one behind the other, till one is refused; no condition. -/
namespace Go.Proofs.Ytegcbdfilkecpaa
open Go.RowKit

/-- what function values from place i on do, one behind the other -/
def Chain (g o : Nat) : Nat → List (Nat × Array Value × Array Value) → (Int → World → Prop) → World → Prop
  | _, [], Q, w => Q 0 w
  | i, (f, a, c) :: r, Q, w => w.cell? ⟨g, o + i, none⟩ = some (.func (.func f) a c) ∧ (∀ args w, (callFunc f args).run Try.prog w = .ok (.enter f args) w) ∧
      Calls Try.prog f (a ++ c) w fun e w' => ∃ x : Int, e = .returned (.int .i64 x) ∧ (x ≠ 0 → Q x w') ∧ (x = 0 → Chain g o (i + 1) r Q w')
end Go.Proofs.Ytegcbdfilkecpaa
/- The journal: is a disk ready, how many pages, what the head says; no condition but on the texts' lengths. -/
namespace Go.Proofs.Ytegcbdfilkecpaa
open Go.RowKit

theorem nmDb_le : nmDb.size ≤ maxLen := by decide
section
variable {S : Nat → Prop} {W0 w : World} {db : Nat} {p : Pl}
set_option maxRecDepth 100000 in
theorem ready_q (h : Dq S W0 w db p) : Calls Try.prog 48 #[ptrV db] w fun e w' => e = .returned (.int .i64 p.wrong) ∧ Kp NoB w w' := by
  have H := Lib.hid h
  have e1 : p.readE 0 0 = p.wrong := by unfold Pl.readE Pl.wrong; simp
  have HE := Lib.hid e1
  have h63 : (-9223372036854775808 : Int) ≤ 0 ∧ (0 : Int) ≤ 9223372036854775807 := by omega
  have HZ := Lib.hid h63
  clear h e1 h63
  unfold ptrV
  go_enter Try.func48, Try.ntmps48
  go_wp2_with fail
  refine (show Calls _ _ #[ptrV db, .string nmDb, .int .i64 0, .int .i64 0] _ _ from read_q H.out nmDb 0 0 nmDb_le HZ.out HZ.out).mono ?_
  rintro e w' ⟨rfl, hk⟩
  rw [HE.out]
  have HK := Lib.hid hk
  clear hk
  go_wp2_with fail
  go_ret
  exact ⟨rfl, HK.out⟩
set_option maxRecDepth 100000 in
theorem count_q (h : Dq S W0 w db p) : Calls Try.prog 14 #[ptrV db] w fun e w' => e = .returned (.int .i64 p.jcount) ∧ w = w' := by
  have H := Lib.hid h
  have hl : p.len nmDb ≤ 1048576 := by
    unfold Pl.len
    split
    · omega
    · exact h.seen_le nmDb
  have HC := Lib.hid (show p.jcount = p.len nmDb / 256 from rfl)
  clear h
  unfold ptrV
  go_enter Try.func14, Try.ntmps14
  go_wp2_with fail
  refine (show Calls _ _ #[ptrV db, .string nmDb] _ _ from len_q H.out nmDb nmDb_le).mono ?_
  rintro e w' ⟨rfl, rfl⟩
  generalize p.len nmDb = L at hl HC ⊢
  go_wp2_with fail
  go_ret
  exact ⟨by rw [HC.out]; simp, rfl⟩
attribute [local go_sem ↓] loadSec storeSec allocSec loadW4 storeW4
end
end Go.Proofs.Ytegcbdfilkecpaa
/- The journal: a page of the database, is the journal hot; no condition but on the texts' lengths. -/
namespace Go.Proofs.Ytegcbdfilkecpaa
open Go.RowKit

section
variable {S : Nat → Prop} {W0 w : World} {db : Nat} {p : Pl}
attribute [local go_sem ↓] load26 store26 alloc26 build26
set_option maxRecDepth 100000 in
set_option maxHeartbeats 800000 in
theorem wpage_q (h : Dq S W0 w db p) (n : Nat) (h1 : 1 ≤ n) (h2 : n ≤ p.jcount) : Calls Try.prog 49 #[.agg #[ptrV db], .int .i64 n] w fun e w' => e = .returned (.agg (bytesV (pageOf (p.seen nmDb) n))) ∧ Kp NoB w w' := by
  have H := Lib.hid h
  have hle := h.seen_le nmDb
  have hdn : p.down = false := by
    rcases hd : p.down with _ | _
    · rfl
    · have : p.jcount = 0 := by unfold Pl.jcount Pl.len; rw [hd]; simp
      omega
  have hc : n * 256 ≤ (p.seen nmDb).length := by
    unfold Pl.jcount Pl.len at h2
    rw [hdn] at h2
    simp only [Bool.false_eq_true, if_false] at h2
    omega
  obtain ⟨N, hN⟩ : ∃ N : Nat, n = N + 1 := ⟨n - 1, by omega⟩
  subst hN
  have eE : p.readE ((N : Int) * 256) 256 = 0 := by
    unfold Pl.readE
    rw [hdn, if_neg (by simp), if_neg (by omega)]
  have eR : p.read nmDb ((N : Int) * 256) 256 = ((p.seen nmDb).drop (N * 256)).take 256 := by
    unfold Pl.read
    rw [eE]
    simp only [if_true]
    congr 2
  have eP : pageOf (p.seen nmDb) (N + 1) = ((p.seen nmDb).drop (N * 256)).take 256 := by
    unfold pageOf sizedF
    rw [Nat.add_sub_cancel, if_pos (by rw [List.length_drop]; omega)]
  have hr1 : (-9223372036854775808 : Int) ≤ (N : Int) * 256 ∧ (N : Int) * 256 ≤ 9223372036854775807 := by omega
  have hr2 : (-9223372036854775808 : Int) ≤ 256 ∧ (256 : Int) ≤ 9223372036854775807 := by omega
  have hrg : ∀ y ∈ ((p.seen nmDb).drop (N * 256)).take 256, 0 ≤ y ∧ y < 256 := fun y hy => h.seen_rng nmDb y (List.mem_of_mem_drop (List.mem_of_mem_take hy))
  have hll : (((p.seen nmDb).drop (N * 256)).take 256).length = 256 := by simp; omega
  have hN1 : (N : Int) ≤ 5000 := by omega
  rw [eP]
  have HE := Lib.hid eE
  have HER := Lib.hid eR
  have HR1 := Lib.hid hr1
  have HR2 := Lib.hid hr2
  generalize ((p.seen nmDb).drop (N * 256)).take 256 = l at hrg hll eR HER ⊢
  have hsz := strOf_size l
  have hsi := strI_strOf l hrg
  have HRG := Lib.hid hrg
  have HLL := Lib.hid hll
  have HSZ := Lib.hid hsz
  have HSI := Lib.hid hsi
  clear h hle hdn hc eE eR eP hr1 hr2 h1 h2 hrg hll hsz hsi
  have hw1 : IntKind.i64.wrap (((N + 1 : Nat) : Int) - 1) = (N : Int) := by rw [IntKind.wrap_i64]; omega
  have hw2 : IntKind.i64.wrap ((N : Int) * 256) = (N : Int) * 256 := by rw [IntKind.wrap_i64]; omega
  have HK0 : Hid (Kp NoB w (((w.alloc (.cells #[ptrV db] 98)).alloc (.cells zero256 24)).alloc (.cells zero256 24))) := Lib.hid ((((Kp.refl _ _).alloc _).alloc _).alloc _)
  have HB1 : Hid (Blk (((w.alloc (.cells #[ptrV db] 98)).alloc (.cells zero256 24)).alloc (.cells zero256 24)) (w.heap.size + 1) 24 zero256) := Lib.hid ((Blk.newAt _ _ _ _ (by simp)).alloc _)
  have HB2 : Hid (Blk (((w.alloc (.cells #[ptrV db] 98)).alloc (.cells zero256 24)).alloc (.cells zero256 24)) (w.heap.size + 1 + 1) 24 zero256) := Lib.hid (Blk.newAt _ _ _ _ (by simp))
  obtain ⟨m, hm⟩ : ∃ m : Int, ((N + 1 : Nat) : Int) = m := ⟨_, rfl⟩
  rw [hm] at hw1 ⊢
  clear hm
  unfold ptrV
  go_enter Try.func49, Try.ntmps49
  go_wp2_with fail
  refine (show Calls _ _ #[ptrV db, .string nmDb, .int .i64 ((N : Int) * 256), .int .i64 256] _ _ from read_q (H.out.keep HK0.out) nmDb ((N : Int) * 256) 256 nmDb_le HR1.out HR2.out).mono ?_
  rintro e w2 ⟨rfl, hk⟩
  have hB1 := HB1.out.keep hk (fun q => q)
  have hB2 := HB2.out.keep hk (fun q => q)
  have HK := Lib.hid (HK0.out.trans hk (fun _ _ q => q))
  rw [HE.out, HER.out]
  generalize strOf l = s at HSZ HSI ⊢
  have hs : s.size = 256 := by rw [HSZ.out, HLL.out]
  have hcp := copyS w2 (w.heap.size + 1 + 1) 0 256 256 s (by omega) (hB2.thereAll s.size (by rw [zero256_eq, bytesV_size, hs]; rfl))
  rw [HSI.out] at hcp
  rw [zero256_eq] at hB2
  have hB3 := hB2.bytes (la := []) (lb := zeros 256) (ld := []) (lx := l) 0 rfl (by rw [HLL.out]; rfl)
  rw [List.nil_append, List.append_nil] at hB3
  have t3 : (w2.setCells (w.heap.size + 1 + 1) 0 (l.map (Value.int .u8))).there (w.heap.size + 1 + 1) 0 256 := hB3.thereAll 256 (by rw [bytesV_size, HLL.out])
  have r3 : readRow (w2.setCells (w.heap.size + 1 + 1) 0 (l.map (Value.int .u8))) (w.heap.size + 1 + 1) 0 256 = bytesV l := hB3.readAll 256 (by rw [bytesV_size, HLL.out])
  have HK2 : Hid (Kp NoB w (w2.setCells (w.heap.size + 1 + 1) 0 (l.map (Value.int .u8)))) := Lib.hid (Kp.setCells (.inl (by omega)) _ _ _ HK.out)
  have hB4 : Blk (w2.setCells (w.heap.size + 1 + 1) 0 (l.map (Value.int .u8))) (w.heap.size + 1) 24 zero256 := hB1.farCells (by omega) _ _ _
  have t4 : (w2.setCells (w.heap.size + 1 + 1) 0 (l.map (Value.int .u8))).there (w.heap.size + 1) 0 256 := hB4.thereAll 256 (by rw [zero256_eq, bytesV_size]; rfl)
  have HB4 := Lib.hid hB4
  obtain ⟨RR, hRR⟩ : ∃ RR, bytesV l = RR := ⟨_, rfl⟩
  have o1 := bytesV_one l
  have s1 : (bytesV l).size = 256 := by rw [bytesV_size, HLL.out]
  rw [hRR] at o1 s1 r3
  have HRR := Lib.hid hRR
  have S1 := Lib.hid s1
  clear hk hB1 hB2 hB3 hB4 hRR HB1 HB2 HK0
  go_wp2_with fail
  refine bodyPost_ret (ret_cell1 rfl _ _ _ _ _ _ rfl (HB4.out.whole RR (by rw [S1.out, zero256_eq, bytesV_size]; rfl)) Try.underlying24 rfl (by rw [S1.out]; exact info26)) rfl ⟨by rw [HRR.out], ?_⟩
  exact Kp.setCells (.inl (by omega)) _ _ _ HK2.out
end
end Go.Proofs.Ytegcbdfilkecpaa
/- The journal: a head sealed and synced; no condition but on the texts' lengths and the counts. -/
namespace Go.Proofs.Ytegcbdfilkecpaa
open Go.RowKit

theorem strI_seal (v : W4) (hr : ∀ y ∈ sealB v, 0 ≤ y ∧ y < 256) : strI (strOf (sealB v)) = sealB v := strI_strOf _ hr
theorem seal_len (v : W4) : (sealB v).length = 64 := rfl
theorem seal_rng (v : W4) : ∀ y ∈ sealB v, 0 ≤ y ∧ y < 256 := by
  intro y hy
  unfold sealB W4.bytes four at hy
  simp only [List.mem_append, List.mem_cons, List.not_mem_nil, or_false] at hy
  rcases hy with h | h
  · rcases h with ((((h | h) | h) | h) | (((h | h) | h) | h)) | (((h | h) | h) | h) <;> omega
  · exact zeros_rng _ y h
theorem byRd_congr {w w' : World} {g : Nat} (h : w'.heap[g]? = w.heap[g]?) (o n : Nat) : byRd w' g o n = byRd w g o n := by
  unfold byRd
  congr 1
  funext j
  rw [World.cell?_of_block (w := w) (w' := w') (a := ⟨g, o + j, none⟩) h]
theorem byAt_congr {w w' : World} {g : Nat} (h : w'.heap[g]? = w.heap[g]?) {o n : Nat} (ha : byAt w g o n) : byAt w' g o n := fun j hj => by
  rw [World.cell?_of_block (w := w) (w' := w') (a := ⟨g, o + j, none⟩) h]
  exact ha j hj
theorem by_keep {S : Nat → Prop} {w w' : World} {g o n : Nat} {l : List Int} (k : Kp S w.drew w') (hg : g < w.heap.size) (hn : ¬ S g) (ha : byAt w g o n) (hr : byRd w g o n = l) : byAt w' g o n ∧ byRd w' g o n = l :=
  ⟨byAt_congr (w := w) (k.block g hg hn) ha, (byRd_congr (w := w) (k.block g hg hn) o n).trans hr⟩
section
variable {S : Nat → Prop} {W0 w : World} {db : Nat} {p : Pl}
attribute [local go_sem ↓] loadSec storeSec allocSec loadW4 storeW4 conv64
theorem stE0 (p : Pl) (nm : ByteArray) (a : Int) (d : List Int) : p.stE ⟨0, nm, a, d⟩ = p.writeE nm a d := rfl
theorem stP0 (p : Pl) (nm : ByteArray) (a : Int) (d : List Int) : p.stP ⟨0, nm, a, d⟩ = p.write nm a d := rfl
theorem stE1 (p : Pl) (nm : ByteArray) (a : Int) (d : List Int) : p.stE ⟨1, nm, a, d⟩ = p.truncE nm a := rfl
theorem stP1 (p : Pl) (nm : ByteArray) (a : Int) (d : List Int) : p.stP ⟨1, nm, a, d⟩ = p.trunc nm a := rfl
theorem stE2 (p : Pl) (nm : ByteArray) (a : Int) (d : List Int) : p.stE ⟨2, nm, a, d⟩ = p.syncE := rfl
theorem stP2 (p : Pl) (nm : ByteArray) (a : Int) (d : List Int) : p.stP ⟨2, nm, a, d⟩ = p.sync nm := rfl
end
end Go.Proofs.Ytegcbdfilkecpaa
/- The journal: function values that make steps, one behind the other; no condition but on the counts. -/
namespace Go.Proofs.Ytegcbdfilkecpaa
open Go.RowKit

/-- what is made of a plain disk, one behind the other till one is refused -/
def seqR : List (Pl → Pl × Int) → Pl → Pl × Int
  | [], p => (p, 0)
  | r :: rs, p => if (r p).2 = 0 then seqR rs (r p).1 else r p
/-- what stays while a disk is changed -/
def Kept (K : (Nat → Prop) → World → Prop) : Prop := ∀ (S S' : Nat → Prop) (w w' : World), K S w → Kp S w w' → (∀ b, S' b → S b ∨ w.heap.size ≤ b) → K S' w'
theorem kept_blk (g : Nat) (t : TypeId) (cs : Array Value) : Kept fun S w => Blk w g t cs ∧ ¬ S g := fun S S' w w' h k hS => ⟨h.1.keep k h.2, fun q => by
  rcases hS g q with q | q
  · exact h.2 q
  · have := h.1.lt
    omega⟩
theorem Kept.and {K L : (Nat → Prop) → World → Prop} (h : Kept K) (k : Kept L) : Kept fun S w => K S w ∧ L S w := fun S S' w w' q kp hS => ⟨h S S' w w' q.1 kp hS, k S S' w w' q.2 kp hS⟩
/-- a function value that makes steps -/
structure StepC (db : Nat) (K : (Nat → Prop) → World → Prop) (f : Nat) (a c : Array Value) (R : Pl → Pl × Int) (cost : Nat) : Prop where
  ent : ∀ args w, (callFunc f args).run Try.prog w = .ok (.enter f args) w
  run : ∀ (S : Nat → Prop) (w : World) (p : Pl), Dq S w w db p → K S w → p.sm cost → Calls Try.prog f (a ++ c) w fun e w' => e = .returned (.int .i64 (R p).2) ∧ Dq S w w' db (R p).1
  sm : ∀ (p : Pl) (k : Nat), p.sm (k + cost) → (R p).1.sm k
theorem Chain.mono {g o : Nat} {Q Q' : Int → World → Prop} (hQ : ∀ x w, Q x w → Q' x w) : ∀ (l : List (Nat × Array Value × Array Value)) (i : Nat) (w : World), Chain g o i l Q w → Chain g o i l Q' w
  | [], _, _, h => hQ _ _ h
  | (f, a, c) :: r, i, w, h => ⟨h.1, h.2.1, h.2.2.mono fun e w' ⟨x, he, h0, h1⟩ => ⟨x, he, fun q => hQ _ _ (h0 q), fun q => Chain.mono hQ r (i + 1) w' (h1 q)⟩⟩
structure Stpr where
  f : Nat
  a : Array Value
  c : Array Value
  R : Pl → Pl × Int
  cost : Nat
def Stpr.v (s : Stpr) : Value := .func (.func s.f) s.a s.c
def costs (l : List Stpr) : Nat := (l.map (·.cost)).sum
theorem chain_steps {db g o : Nat} {t : TypeId} {cs : Array Value} {K : (Nat → Prop) → World → Prop} (hK : Kept K) :
    ∀ (l : List Stpr) (i : Nat) (S : Nat → Prop) (w : World) (p : Pl), (∀ s ∈ l, StepC db K s.f s.a s.c s.R s.cost) → (∀ j (h : j < l.length), cs[o + i + j]? = some l[j].v) → Blk w g t cs → ¬ S g → Dq S w w db p → K S w → p.sm (costs l) →
      Chain g o i (l.map fun s => (s.f, s.a, s.c)) (fun x w' => x = (seqR (l.map (·.R)) p).2 ∧ Dq S w w' db (seqR (l.map (·.R)) p).1) w
  | [], i, S, w, p, _, _, _, _, h, _, _ => ⟨rfl, h⟩
  | s :: r, i, S, w, p, hs, hc, hb, hn, h, hk, hm => by
    have h1 := hs s (List.mem_cons_self ..)
    refine ⟨?_, h1.ent, ?_⟩
    · rw [hb.cell]
      exact hc 0 (by simp)
    · refine (h1.run S w p h hk (sm_mono hm (by simp [costs]))).mono ?_
      rintro e w' ⟨rfl, h2⟩
      refine ⟨_, rfl, fun hx => ?_, fun hx => ?_⟩
      · show _ = (seqR (s.R :: r.map (·.R)) p).2 ∧ Dq S w w' db (seqR (s.R :: r.map (·.R)) p).1
        unfold seqR
        rw [if_neg hx]
        exact ⟨rfl, h2⟩
      · obtain ⟨S2, h3, hS2⟩ := h2.base
        have hn2 := (kept_blk g t cs) S S2 w w' ⟨hb, hn⟩ h2.kp hS2
        have hm2 : (s.R p).1.sm (costs r) := h1.sm p _ (sm_mono hm (by simp [costs]; omega))
        have ih := chain_steps hK r (i + 1) S2 w' (s.R p).1 (fun s' hs' => hs s' (List.mem_cons_of_mem _ hs')) (fun j hj => by
          have := hc (j + 1) (by simpa using hj)
          rw [show o + (i + 1) + j = o + i + (j + 1) by omega]
          exact this) hn2.1 hn2.2 h3 (hK S S2 w w' hk h2.kp hS2) hm2
        refine Chain.mono (fun x w3 ⟨e, h4⟩ => ?_) _ _ _ ih
        show x = (seqR (s.R :: r.map (·.R)) p).2 ∧ Dq S w w3 db (seqR (s.R :: r.map (·.R)) p).1
        unfold seqR
        rw [if_pos hx]
        exact ⟨e, Dq.tr (w0 := w) h4 h2.kp hS2 h2.lt⟩
end Go.Proofs.Ytegcbdfilkecpaa
/- The journal: pages put into the database; no condition but on the texts' lengths and the counts. -/
namespace Go.Proofs.Ytegcbdfilkecpaa
open Go.RowKit

/-- the list of pages is none of the disk's blocks -/
def Apart (S : Nat → Prop) (A : Option Addr) (n : Nat) : Prop := ∀ g o, A = some ⟨g, o, none⟩ → 0 < n → ¬ S g
theorem PgsAt.lt {w : World} {A : Option Addr} {n : Nat} {l : List Pg} (h : PgsAt w A n l) {g o : Nat} (e : A = some ⟨g, o, none⟩) (hn : 0 < n) : g < w.heap.size := by
  obtain ⟨g', o', e', hg, hc⟩ := h.2.2 hn
  rw [e] at e'
  injection e' with e'
  injection e' with e1 e2
  subst e1
  exact hg
structure PgsOk (l : List Pg) : Prop where
  ok : ∀ x ∈ l, PgOk x
  n : ∀ x ∈ l, 1 ≤ x.n ∧ x.n ≤ 4096
theorem pg_by {w : World} {g : Nat} {t : TypeId} {x : Pg} (h : Blk w g t (pgA x)) (hx : PgOk x) : byAt w g 1 256 ∧ byRd w g 1 256 = x.b := by
  have hc : ∀ j, j < 256 → w.cell? ⟨g, 1 + j, none⟩ = some (.int .u8 (x.b[j]?.getD 0)) := by
    intro j hj
    rw [h.cell]
    unfold pgA pgL
    rw [List.getElem?_toArray, Nat.add_comm 1 j, List.getElem?_cons_succ, List.getElem?_map, List.getElem?_eq_getElem (by rw [hx.len]; exact hj)]
    rfl
  refine ⟨fun j hj => ⟨_, hc j hj⟩, ?_⟩
  unfold byRd
  apply List.ext_getElem
  · simp [hx.len]
  · intro j h1 h2
    have hj : j < 256 := by simpa using h1
    simp only [List.getElem_map, List.getElem_range]
    rw [hc j hj, List.getElem?_eq_getElem h2]
    rfl
section
variable {S : Nat → Prop} {W0 w : World} {db : Nat} {p : Pl}
attribute [local go_sem ↓] loadPg storePg allocPg load26 store26 conv64
end
end Go.Proofs.Ytegcbdfilkecpaa
/- The reference's texts: noughts, a text cut or made longer; condition: at most 1048576 bytes. -/
namespace Go.Proofs.Ytegcbdfilkecpaa
open Go.RowKit

attribute [local go_sem ↓] conv64
theorem infoU8z : (Try.prog.info? 5).map (fun i => (i.zero, i.size, i.bytes)) = some (some (.int .u8 0), 1, 1) := by kernel_rfl
theorem made_zeros (n : Nat) : madeCells #[.int .u8 0] n = bytesV (zeros n) := by
  unfold madeCells bytesV zeros
  apply Array.ext
  · simp
  · intro i h1 h2
    simp [Nat.mod_one]
theorem strOf_sub (l : List Int) (a b : Nat) : (strOf l).extract a b = strOf ((l.drop a).take (b - a)) := by
  unfold strOf
  apply ByteArray.ext
  simp [ByteArray.data_extract, List.map_take, List.map_drop]
end Go.Proofs.Ytegcbdfilkecpaa
/- The journal: pages laid aside; no condition but on the texts' lengths and the counts. -/
namespace Go.Proofs.Ytegcbdfilkecpaa
open Go.RowKit

/-- the first i bytes of a record are there -/
def upR (n : Int) (i : Nat) : List Int := (four n).take i ++ zeros (320 - i)
theorem upR_set (n : Int) (i : Nat) (hi : i < 4) : (upR n i).set i (byteK n i) = upR n (i + 1) := by
  rcases (show i = 0 ∨ i = 1 ∨ i = 2 ∨ i = 3 by omega) with rfl | rfl | rfl | rfl <;> rfl
theorem upR_all (n : Int) : upR n 4 = (four n ++ zeros 60) ++ zeros 256 := by
  unfold upR zeros
  rw [List.append_assoc, List.replicate_append_replicate]
  rfl
/-- in the midst of a record -/
structure LyS (wr : World) (x : Pg) (i : Nat) (W : World) : Prop where
  kp : Kp NoB wr W
  b1 : Blk W wr.heap.size 113 (pgA x)
  b2 : Blk W (wr.heap.size + 1) 5 (bytesV (upR x.n i))
theorem LyS.set_ {wr : World} {x : Pg} {i : Nat} {W : World} (h : LyS wr x i W) (hi : i < 4) : LyS wr x (i + 1) (W.setCell ⟨wr.heap.size + 1, i, none⟩ (.int .u8 (byteK x.n i))) := by
  refine ⟨h.kp.setCell (p := ⟨wr.heap.size + 1, i, none⟩) (.inl (by show _ ≤ wr.heap.size + 1; omega)) _, h.b1.far (p := ⟨wr.heap.size + 1, i, none⟩) (by simp) _, ?_⟩
  have := h.b2.set_ i (.int .u8 (byteK x.n i))
  rwa [bytesV_setJ, upR_set _ _ hi] at this
set_option maxRecDepth 100000 in
theorem LyS.copy {wr : World} {x : Pg} {W : World} (h : LyS wr x 4 W) (hx : PgOk x) : Kp NoB wr (W.setCells (wr.heap.size + 1) 64 (x.b.map (Value.int .u8))) ∧ Blk (W.setCells (wr.heap.size + 1) 64 (x.b.map (Value.int .u8))) (wr.heap.size + 1) 5 (bytesV (recB x)) := by
  refine ⟨Kp.setCells (.inl (by omega)) _ _ _ h.kp, ?_⟩
  have b := h.b2
  rw [upR_all] at b
  have := Blk.bytes (la := four x.n ++ zeros 60) (lb := zeros 256) (ld := []) (lx := x.b) (by rw [List.append_nil]; exact b) 64 (by simp [four, zeros]) (by rw [hx.len]; simp [zeros])
  rw [List.append_nil] at this
  exact this
theorem make320 (W : World) : (Instr.makeSlice 42 (.int .i64 320) (.int .i64 320)).run Try.prog W = .ok (.slice (some ⟨W.heap.size, 0, none⟩) 320 320) (W.alloc (.cells (bytesV (zeros 320)) 5)) := by
  have h := run_make_row' (P := Try.prog) 42 5 (.int .u8 0) 1 Try.underlying42 infoU8z rfl .i64 .i64 320 (by omega) (by omega) W
  rw [made_zeros] at h
  exact h
theorem copy_exec {w w' : World} {v : Value} {u1 u2 : Value} (h : (Builtin.copy_ #[42, 42] 3 #[u1, u2]).run Try.prog w = .ok v w') (ev : Operand → Value) {x y : Operand} {ds : Option Tmp} {ps : String} {af : Array Edge} {g : Option (Nat × Bool)} (hx : ev x = u1) (hy : ev y = u2) :
    (execOp ev ⟨ds, .call { callee := .builtin .copy, args := #[x, y], argTypes := #[42, 42] }, 3, ps, af, g⟩).run Try.prog w = .ok (.value v) w' := by
  simp only [execOp, resolve, invoke, builtin, Sem.run_bind, Sem.run_pure, Result.andThen_ok, List.map_toArray, List.map_cons, List.map_nil, hx, hy, h]
theorem LyS.drew {wr : World} {x : Pg} {i : Nat} {W : World} (h : LyS wr x i W) : LyS wr x i W.drew := ⟨h.kp.drew, h.b1, h.b2⟩
theorem four_rng (n : Int) : ∀ y ∈ four n, 0 ≤ y ∧ y < 256 := by
  intro y hy
  unfold four at hy
  simp only [List.mem_cons, List.not_mem_nil, or_false] at hy
  rcases hy with h | h | h | h <;> omega
section
variable {S : Nat → Prop} {W0 w : World} {db : Nat} {p : Pl}
attribute [local go_sem ↓] loadPg storePg allocPg load26 store26 conv64
attribute [local go_sem] size_setCells
end
end Go.Proofs.Ytegcbdfilkecpaa
/- The journal: the records of a hot journal; no condition but on the texts' lengths and the counts. -/
namespace Go.Proofs.Ytegcbdfilkecpaa
open Go.RowKit

/-- the pages with their cells one behind the other -/
def pgsCells (l : List Pg) : List Value := l.flatMap pgL
def OwnPgs (w : World) (n0 : Nat) (v : Value) (l : List Pg) : Prop := w.ownsRow n0 113 257 v l.length (pgsCells l) ∧ ∀ x ∈ l, PgOk x
structure W4Ok (v : W4) : Prop where
  a : 0 ≤ v.a ∧ v.a < 4294967296
  b : 0 ≤ v.b ∧ v.b < 4294967296
  c : 0 ≤ v.c ∧ v.c < 4294967296
  d : 0 ≤ v.d ∧ v.d < 4294967296
theorem copyS_exec {w w' : World} {v : Value} {u1 u2 : Value} (h : (Builtin.copy_ #[42, 9] 3 #[u1, u2]).run Try.prog w = .ok v w') (ev : Operand → Value) {x y : Operand} {ds : Option Tmp} {ps : String} {af : Array Edge} {g : Option (Nat × Bool)} (hx : ev x = u1) (hy : ev y = u2) :
    (execOp ev ⟨ds, .call { callee := .builtin .copy, args := #[x, y], argTypes := #[42, 9] }, 3, ps, af, g⟩).run Try.prog w = .ok (.value v) w' := by
  simp only [execOp, resolve, invoke, builtin, Sem.run_bind, Sem.run_pure, Result.andThen_ok, List.map_toArray, List.map_cons, List.map_nil, hx, hy, h]
theorem pg_new (w : World) (x : Pg) : ∀ j u, (pgL x)[j]? = some u → (w.alloc (.cells (pgA x) 113)).cell? ((⟨w.heap.size, 0, none⟩ : Addr).add j) = some u := by
  intro j u hj
  rw [add_mk, Nat.zero_add, (Blk.new w 113 (pgA x)).cell]
  unfold pgA
  rw [List.getElem?_toArray]
  exact hj
theorem idxStr {s : ByteArray} {b : List Int} (hs : strOf b = s) (hr : ∀ y ∈ b, 0 ≤ y ∧ y < 256) {j : Nat} (hj : j < b.length) (W : World) : (Instr.index 9 (.string s) (.int .i64 (j : Int))).run Try.prog W = .ok (.int .u8 (b.getD j 0)) W := by
  have hsz := strOf_size b
  rw [hs] at hsz
  rw [run_index_string W 9 s .i64 j Try.underlying9, dif_pos ⟨by omega, by omega⟩]
  congr 2
  have hsi := strI_strOf b hr
  rw [hs] at hsi
  have h1 : b.getD j 0 = (strI s).getD j 0 := by rw [hsi]
  rw [h1]
  unfold strI
  have h2 : j < s.data.toList.length := by
    have : s.data.toList.length = s.size := by rw [Array.length_toList]; rfl
    omega
  rw [List.getD_eq_getElem?_getD, List.getElem?_map, List.getElem?_eq_getElem h2]
  simp
  rfl
theorem or_sum (k : Nat) (hk : k ≤ 24) (a x : Int) (h0 : 0 ≤ a) (h1 : a < 4294967296) (h2 : 0 ≤ x) (h3 : x < (2 : Int) ^ k) : bits BinOp.or IntKind.i64 (a * (2 : Int) ^ k) x = a * (2 : Int) ^ k + x := by
  obtain ⟨m, rfl⟩ := Int.eq_ofNat_of_zero_le h0
  obtain ⟨n, rfl⟩ := Int.eq_ofNat_of_zero_le h2
  have hp : (2 : Int) ^ k = ((2 ^ k : Nat) : Int) := by rw [Int.natCast_pow]; rfl
  have hp24 : 2 ^ k ≤ 2 ^ 24 := Nat.pow_le_pow_right (by omega) hk
  have hpp : 0 < 2 ^ k := Nat.two_pow_pos k
  rw [hp] at h3 ⊢
  have hm : m < 4294967296 := by omega
  have hn : n < 2 ^ k := by omega
  have hb : m * 2 ^ k ≤ 4294967295 * 2 ^ 24 := Nat.mul_le_mul (by omega) hp24
  have e : bits BinOp.or IntKind.i64 ((m : Int) * ((2 ^ k : Nat) : Int)) n = IntKind.i64.wrap ((BitVec.ofInt 64 ((m : Int) * ((2 ^ k : Nat) : Int)) ||| BitVec.ofInt 64 n).toNat) := rfl
  have e1 : BitVec.ofInt 64 ((m : Int) * ((2 ^ k : Nat) : Int)) = BitVec.ofNat 64 (m * 2 ^ k) := by
    rw [← Int.natCast_mul]
    exact BitVec.ofInt_natCast _ _
  have e2 : BitVec.ofInt 64 (n : Int) = BitVec.ofNat 64 n := BitVec.ofInt_natCast _ _
  rw [e, e1, e2, BitVec.toNat_or, BitVec.toNat_ofNat, BitVec.toNat_ofNat, Nat.mod_eq_of_lt (by omega), Nat.mod_eq_of_lt (by omega)]
  have h := Nat.shiftLeft_add_eq_or_of_lt (i := k) (b := n) hn m
  rw [Nat.shiftLeft_eq] at h
  rw [h.symm, IntKind.wrap_i64, ← Int.natCast_mul]
  omega
section
variable {S : Nat → Prop} {W0 w : World} {db : Nat} {p : Pl}
attribute [local go_sem ↓] loadPg storePg allocPg exSlicePg
end
end Go.Proofs.Ytegcbdfilkecpaa
/- The journal: may pages be changed; no condition but on the counts. -/
namespace Go.Proofs.Ytegcbdfilkecpaa
open Go.RowKit

theorem chainPg_cons (count last : Int) (x : Pg) (r : List Pg) : chainPg count last (x :: r) = (decide (last < x.n ∧ x.n ≤ count) && chainPg count x.n r) := rfl
theorem above_cons (old : Int) (x : Pg) (r : List Pg) : above old (x :: r) = above old r + if old < x.n then 1 else 0 := by
  unfold above
  rw [List.countP_cons]
  simp
section
attribute [local go_sem ↓] loadPg storePg allocPg
end
end Go.Proofs.Ytegcbdfilkecpaa
/- The journal: a page's number searched among pages in order; no condition but on the counts. -/
namespace Go.Proofs.Ytegcbdfilkecpaa
open Go.RowKit

section
attribute [local go_sem ↓] loadPg storePg allocPg
/-- pages whose numbers rise -/
def Rises (l : List Pg) : Prop := ∀ (i j : Nat) (x y : Pg), i < j → l[i]? = some x → l[j]? = some y → x.n < y.n
end
end Go.Proofs.Ytegcbdfilkecpaa
/- The journal: the function values of Recover and Commit; no condition but on the counts. -/
namespace Go.Proofs.Ytegcbdfilkecpaa
open Go.RowKit

section
variable {S : Nat → Prop} {w : World} {db : Nat} {p : Pl}
attribute [local go_sem ↓] loadW4 storeW4
end
end Go.Proofs.Ytegcbdfilkecpaa
/- The journal: taken back; no condition but on the counts. -/
namespace Go.Proofs.Ytegcbdfilkecpaa
open Go.RowKit

theorem seqR_one (r : Pl → Pl × Int) (p : Pl) : seqR [r] p = r p := by
  unfold seqR
  split
  · rename_i h
    unfold seqR
    rw [← h]
  · rfl
theorem seqR_cons (r : Pl → Pl × Int) (rs : List (Pl → Pl × Int)) (p : Pl) : seqR (r :: rs) p = if (r p).2 = 0 then seqR rs (r p).1 else r p := rfl
theorem seqR2 (a b : List Stp) (p : Pl) : seqR [fun p => p.runS a, fun p => p.runS b] p = p.runS (a ++ b) := by
  rw [runS_append, seqR_cons]
  split
  · rw [seqR_one]
  · rfl
theorem wordsAt_ok {l : List Int} (h : ∀ y ∈ l, 0 ≤ y ∧ y < 256) (a : Nat) : W4Ok (wordsAt l a) := ⟨num_rng h _, num_rng h _, num_rng h _, num_rng h _⟩
theorem says_ok {l : List Int} (h : ∀ y ∈ l, 0 ≤ y ∧ y < 256) : W4Ok (says l) := by
  have h64 : ∀ y ∈ l.take 64, 0 ≤ y ∧ y < 256 := fun y hy => h y (List.mem_of_mem_take hy)
  unfold says
  split
  · constructor <;> constructor <;> decide
  · unfold openB
    split
    · exact wordsAt_ok h64 _
    · exact wordsAt_ok h64 _
section
variable {S : Nat → Prop} {w : World} {db : Nat} {p : Pl}
attribute [local go_sem ↓] loadW4 storeW4
end
end Go.Proofs.Ytegcbdfilkecpaa
/- The journal in plain Lean: what the steps laid aside answer; no condition. -/
namespace Go.Proofs.Ytegcbdfilkecpaa
open Go

theorem chain_len (count : Int) : ∀ (l : List Pg) (last : Int), chainPg count last l = true → last ≤ count → last + l.length ≤ count ∧ ∀ x ∈ l, last < x.n ∧ x.n ≤ count
  | [], last, _, h => by simp; exact h
  | x :: r, last, h, _ => by
    rw [chainPg_cons, Bool.and_eq_true, decide_eq_true_iff] at h
    obtain ⟨h1, h2⟩ := chain_len count r x.n h.2 h.1.2
    refine ⟨by simp only [List.length_cons]; omega, fun y hy => ?_⟩
    rcases List.mem_cons.1 hy with rfl | hy
    · exact h.1
    · have := h2 y hy
      omega
theorem chain_rises (count : Int) : ∀ (l : List Pg) (last : Int), chainPg count last l = true → last ≤ count → Rises l
  | [], _, _, _ => fun i j x y _ h => by simp at h
  | z :: r, last, h, hlc => by
    rw [chainPg_cons, Bool.and_eq_true, decide_eq_true_iff] at h
    have ih := chain_rises count r z.n h.2 h.1.2
    have hl := (chain_len count r z.n h.2 h.1.2).2
    intro i j x y hij hx hy
    cases j with
    | zero => omega
    | succ j =>
      rw [List.getElem?_cons_succ] at hy
      cases i with
      | zero =>
        rw [List.getElem?_cons_zero] at hx
        injection hx with hx
        subst hx
        exact (hl y (List.mem_of_getElem? hy)).1
      | succ i =>
        rw [List.getElem?_cons_succ] at hx
        exact ih i j x y (by omega) hx hy
theorem fit_facts {old count : Int} {l : List Pg} (h : fitPg old count l = true) (hok : ∀ x ∈ l, PgOk x) : (0 ≤ count ∧ count ≤ 4096) ∧ l.length ≤ 4096 ∧ PgsOk l ∧ Rises l := by
  unfold fitPg at h
  rw [Bool.and_eq_true, Bool.and_eq_true, decide_eq_true_iff] at h
  obtain ⟨h1, h2⟩ := chain_len count l 0 h.2.1 h.1.1
  refine ⟨h.1, by omega, ⟨hok, fun x hx => ?_⟩, chain_rises count l 0 h.2.1 h.1.1⟩
  have := h2 x hx
  omega
/-- no file is longer than may be -/
def Pl.le (p : Pl) : Prop := ∀ s, (p.seen s).length ≤ 1048576
theorem le_step {p : Pl} (h : p.le) : p.step.le := h
theorem fits_0 {p : Pl} {s : ByteArray} {n : Int} (h : ¬ p.fits s n ≠ 0) : n ≤ 1048576 := by
  have h2 : p.fits s n = 0 := by omega
  unfold Pl.fits at h2
  split at h2
  · omega
  · omega
theorem fits_3 {p : Pl} {s : ByteArray} {n : Int} (h : n ≤ 1048576) : p.fits s n = 0 ∨ p.fits s n = 5 := by
  unfold Pl.fits
  rw [if_neg (by omega)]
  split
  · exact .inr rfl
  · exact .inl rfl
theorem le_upd {p : Pl} (h : p.le) (s : ByteArray) (l : List Int) (hl : l.length ≤ 1048576) : ∀ t, (upd p.seen s l t).length ≤ 1048576 := fun t => by
  unfold upd
  split
  · exact hl
  · exact h t
theorem put_le {l d : List Int} {a M : Nat} (hl : l.length ≤ M) (hd : a + d.length ≤ M) (ha : a ≤ l.length) : (Pl.put l a d).length ≤ M := by
  unfold Pl.put
  simp
  omega
theorem le_length {p : Pl} (h : p.le) (s : ByteArray) (n : Nat) (hn : n ≤ 1048576) : (p.length s n).le := by
  unfold Pl.length
  split
  · exact h
  · intro t
    exact le_upd (p := p.at_) h s _ (by rw [sizedF_len]; exact hn) t
theorem len_seen (p : Pl) (s : ByteArray) (n : Nat) : ((p.length s n).seen s).length = n := by
  unfold Pl.length
  split
  · rename_i e
    show (p.seen s).length = n
    exact e.symm
  · show (upd p.seen s (sizedF (p.seen s) n) s).length = n
    rw [upd_same, sizedF_len]
theorem le_write {p : Pl} (h : p.le) (s : ByteArray) (a : Int) (d : List Int) : (p.write s a d).le := by
  unfold Pl.write
  split
  · exact h
  · rename_i h1
    split
    · exact h
    · split
      · exact h
      · rename_i h3
        have hm := fits_0 h3
        unfold Pl.write1
        intro t
        show (upd _ s _ t).length ≤ 1048576
        have hal : (a.toNat : Int) = a := by omega
        split
        · refine le_upd (p := p.length s (a.toNat + d.length)) (le_length h s _ (by omega)) s _ ?_ t
          refine put_le (M := 1048576) ?_ (by omega) ?_
          · rw [len_seen]; omega
          · rw [len_seen]; omega
        · refine le_upd (p := p) h s _ ?_ t
          refine put_le (h s) (by omega) (by omega)
theorem le_trunc {p : Pl} (h : p.le) (s : ByteArray) (n : Int) : (p.trunc s n).le := by
  unfold Pl.trunc
  split
  · exact h
  · rename_i h1
    have hm := fits_0 (p := p) (s := s) (n := n) (by omega)
    exact le_step (le_length h s _ (by omega))
theorem le_sync {p : Pl} (h : p.le) (s : ByteArray) : (p.sync s).le := by
  unfold Pl.sync
  split
  · exact h
  · split
    · exact h
    · exact h
theorem le_st {p : Pl} (h : p.le) (s : Stp) : (p.stP s).le := by
  unfold Pl.stP
  split
  · exact le_write h _ _ _
  · split
    · exact le_trunc h _ _
    · exact le_sync h _
theorem le_run : ∀ (l : List Stp) {p : Pl}, p.le → (p.runS l).1.le
  | [], _, h => h
  | s :: r, p, h => by
    rw [runS_cons]
    split
    · exact le_run r (le_st h s)
    · exact le_st h s
theorem stepE_cases (p : Pl) : p.stepE = 0 ∨ p.stepE = 7 := by
  unfold Pl.stepE
  split
  · exact .inr rfl
  · exact .inl rfl
/-- a step that is answered OK leaves the disk up -/
theorem up_st {p : Pl} (hd : p.down = false) (s : Stp) (h : p.stE s = 0) : (p.stP s).down = false := by
  have hs : ∀ q : Pl, q.down = false → p.crash = q.crash → p.stepE = 0 → q.step.down = false := fun q hq hc h0 => by
    unfold Pl.stepE at h0
    unfold Pl.step
    simp only [← hc]
    split at h0
    · omega
    · rename_i hne
      rw [if_neg hne]
      exact hq
  have hlen : ∀ s n, (p.length s n).down = false ∧ p.crash = (p.length s n).crash := fun s n => by
    unfold Pl.length
    split <;> exact ⟨hd, rfl⟩
  unfold Pl.stE at h
  unfold Pl.stP
  split
  · rename_i hk
    rw [if_pos hk] at h
    unfold Pl.writeE at h
    unfold Pl.write
    rw [hd] at h
    simp only [Bool.false_eq_true, if_false] at h
    split
    · exact hd
    · rename_i h1
      rw [if_neg (by omega), if_neg (by omega)] at h
      split
      · rename_i h2
        rw [if_pos h2] at h
        exact hs p hd rfl h
      · rename_i h2
        rw [if_neg h2] at h
        split
        · exact hd
        · rename_i h3
          rw [if_neg h3] at h
          unfold Pl.write1
          refine hs _ ?_ ?_ h
          · show Pl.down _ = false
            simp only [Pl.pend, Pl.setSeen, Pl.at_]
            split
            · exact (hlen _ _).1
            · exact hd
          · simp only [Pl.pend, Pl.setSeen, Pl.at_]
            split
            · exact (hlen _ _).2
            · rfl
  · rename_i hk
    rw [if_neg hk] at h
    split
    · rename_i hk1
      rw [if_pos hk1] at h
      unfold Pl.truncE at h
      unfold Pl.trunc
      rw [hd] at h
      simp only [Bool.false_eq_true, if_false] at h
      split
      · exact hd
      · rename_i h1
        rw [if_neg (by omega), if_neg (by omega)] at h
        exact hs _ (hlen _ _).1 (hlen _ _).2 h
    · rename_i hk1
      rw [if_neg hk1] at h
      unfold Pl.syncE at h
      rw [hd] at h
      simp only [Bool.false_eq_true, if_false] at h
      unfold Pl.sync
      rw [if_neg (by rw [hd]; simp), if_neg (by omega)]
      show p.step.down = false
      exact hs p hd rfl h
theorem up_run : ∀ (l : List Stp) {p : Pl}, p.down = false → (p.runS l).2 = 0 → (p.runS l).1.down = false
  | [], _, h, _ => h
  | s :: r, p, h, h2 => by
    rw [runS_cons] at h2 ⊢
    by_cases q : p.stE s = 0
    · rw [if_pos q] at h2 ⊢
      exact up_run r (up_st h s q) h2
    · rw [if_neg q] at h2
      exact absurd h2 q
theorem write_ne3 {p : Pl} (h : p.le) (s : ByteArray) (a : Int) (d : List Int) (h0 : 0 ≤ a) (h1 : a + d.length ≤ 1048576) : p.writeE s a d ≠ 3 := by
  unfold Pl.writeE
  split
  · decide
  · rw [if_neg (by omega), if_neg (by omega)]
    split
    · rcases stepE_cases p with e | e <;> rw [e] <;> decide
    · have hm : (max (a + d.length) (p.seen s).length : Int) ≤ 1048576 := by have := h s; omega
      split
      · rcases fits_3 (p := p) (s := s) hm with e | e <;> rw [e] <;> decide
      · rcases stepE_cases p with e | e <;> rw [e] <;> decide
theorem sync_ne3 (p : Pl) : p.syncE ≠ 3 := by
  unfold Pl.syncE
  split
  · decide
  · rcases stepE_cases p with e | e <;> rw [e] <;> decide
theorem head_ne3 {p : Pl} (h : p.le) (nm : ByteArray) (w : W4) : (p.runS (headS nm w)).2 ≠ 3 := by
  unfold headS
  rw [runS_cons]
  split
  · rw [runS_cons]
    split
    · rw [runS_nil]; show (0 : Int) ≠ 3; decide
    · exact sync_ne3 _
  · exact write_ne3 h nm 0 (sealB w) (by omega) (by rw [seal_len]; omega)
theorem fullE_id {e : Int} (h : e ≠ 3) : fullE e = e := by unfold fullE; rw [if_neg h]
theorem fullE_0 {e : Int} : fullE e = 0 ↔ e = 0 := by
  unfold fullE
  split <;> omega
end Go.Proofs.Ytegcbdfilkecpaa
/- The journal in plain Lean on a disk that does not crash: what each step makes of the two files; no condition. -/
namespace Go.Proofs.Ytegcbdfilkecpaa
open Go

/-- bytes written into a file -/
def wrL (l : List Int) (a : Nat) (d : List Int) : List Int := Pl.put (if l.length < a + d.length then sizedF l (a + d.length) else l) a d
theorem wrL_len (l : List Int) (a : Nat) (d : List Int) : (wrL l a d).length = max l.length (a + d.length) := by
  unfold wrL Pl.put
  split
  · have := sizedF_len l (a + d.length)
    simp
    omega
  · simp
    omega
theorem step_calm {p : Pl} (h : p.crash = 0) : p.step.crash = 0 ∧ p.step.down = p.down ∧ p.step.seen = p.seen ∧ p.step.sum = p.sum ∧ p.step.room = p.room := by
  unfold Pl.step
  refine ⟨?_, ?_, rfl, rfl, rfl⟩
  · show (if 0 < p.crash then p.crash - 1 else p.crash) = 0
    rw [if_neg (by omega)]
    exact h
  · show (if p.crash = 1 then true else p.down) = p.down
    rw [if_neg (by omega)]
end Go.Proofs.Ytegcbdfilkecpaa
/- The journal in plain Lean: files as pages, sealed heads and records read back; no condition. -/
namespace Go.Proofs.Ytegcbdfilkecpaa
open Go

theorem four_len (n : Int) : (four n).length = 4 := rfl
theorem num_four (n : Int) (hn : 0 ≤ n ∧ n < 4294967296) (a b : List Int) : num (a ++ (four n ++ b)) a.length = n := by
  unfold num
  have e : ∀ j, j < 4 → (a ++ (four n ++ b)).getD (a.length + j) 0 = (four n).getD j 0 := fun j hj => by
    rw [List.getD_eq_getElem?_getD, List.getElem?_append_right (by omega), Nat.add_sub_cancel_left, List.getElem?_append_left (by rw [four_len]; exact hj), ← List.getD_eq_getElem?_getD]
  have e0 := e 0 (by omega)
  rw [Nat.add_zero] at e0
  rw [e0, e 1 (by omega), e 2 (by omega), e 3 (by omega)]
  unfold four
  simp only [List.getD_cons_zero, List.getD_cons_succ]
  omega
theorem bytes_len (w : W4) : w.bytes.length = 16 := rfl
theorem wordsAt_bytes (w : W4) (hw : W4Ok w) (a b : List Int) : wordsAt (a ++ (w.bytes ++ b)) a.length = w := by
  unfold wordsAt
  have hb : w.bytes = four w.a ++ (four w.b ++ (four w.c ++ four w.d)) := by unfold W4.bytes; simp only [List.append_assoc]
  have e1 : a ++ (w.bytes ++ b) = a ++ (four w.a ++ (four w.b ++ (four w.c ++ (four w.d ++ b)))) := by rw [hb]; simp only [List.append_assoc]
  have h1 := num_four w.a hw.a a (four w.b ++ (four w.c ++ (four w.d ++ b)))
  have h2 := num_four w.b hw.b (a ++ four w.a) (four w.c ++ (four w.d ++ b))
  have h3 := num_four w.c hw.c (a ++ four w.a ++ four w.b) (four w.d ++ b)
  have h4 := num_four w.d hw.d (a ++ four w.a ++ four w.b ++ four w.c) b
  simp only [List.length_append, four_len, List.append_assoc] at h1 h2 h3 h4
  rw [e1, h1, h2, show a.length + 8 = a.length + (4 + 4) by omega, h3, show a.length + 12 = a.length + (4 + (4 + 4)) by omega, h4]
/-- a write at a known place -/
theorem wrL_app (h t d : List Int) : wrL (h ++ t) h.length d = h ++ (d ++ t.drop d.length) := by
  unfold wrL Pl.put
  split
  · rename_i hl
    rw [List.length_append] at hl
    have hs : sizedF (h ++ t) (h.length + d.length) = h ++ t ++ List.replicate (h.length + d.length - (h ++ t).length) 0 := by
      unfold sizedF
      rw [if_neg (by rw [List.length_append]; omega)]
    have z1 : (h ++ (t ++ List.replicate (h.length + d.length - (h ++ t).length) (0 : Int))).drop (h.length + d.length) = [] := List.drop_eq_nil_of_le (by
      rw [List.length_append, List.length_append, List.length_replicate, List.length_append]
      omega)
    have z2 : t.drop d.length = [] := List.drop_eq_nil_of_le (by omega)
    rw [hs, List.append_assoc h t, List.take_left' rfl, z1, z2]
    simp
  · rw [List.take_left' rfl, ← List.drop_drop, List.drop_left' rfl, List.append_assoc]
/-- records one behind the other -/
def recsL (l : List Pg) : List Int := l.flatMap recB
/-! ### the database as pages -/
end Go.Proofs.Ytegcbdfilkecpaa
/- The journal: a sealed head that is torn says what it said, or what was written; plain Lean. -/
namespace Go.Proofs.Ytegcbdfilkecpaa

def mixL (n : Nat) (W B : List Int) : List Int := W.take n ++ B.drop n
theorem mix_zero (W B : List Int) : mixL 0 W B = B := rfl
theorem mix_all {n : Nat} {W B : List Int} (hW : W.length ≤ n) (hB : B.length ≤ n) : mixL n W B = W := by
  unfold mixL
  rw [List.take_of_length_le hW, List.drop_of_length_le hB, List.append_nil]
theorem mix_self (n : Nat) (W : List Int) : mixL n W W = W := List.take_append_drop n W
theorem mix_len {n : Nat} {W B : List Int} (h : W.length = B.length) : (mixL n W B).length = B.length := by
  unfold mixL
  rw [List.length_append, List.length_take, List.length_drop, h]
  omega
theorem mix_get {n : Nat} {W B : List Int} (h : W.length = B.length) (i : Nat) : (mixL n W B)[i]? = if i < n then W[i]? else B[i]? := by
  unfold mixL
  by_cases hi : i < n
  · rw [if_pos hi]
    by_cases hw : i < W.length
    · rw [List.getElem?_append_left (by rw [List.length_take]; omega), List.getElem?_take_of_lt hi]
    · rw [List.getElem?_append_right (by rw [List.length_take]; omega), List.getElem?_drop, List.getElem?_eq_none (by first | omega | (rw [List.length_take]; omega)), List.getElem?_eq_none (by first | omega | (rw [List.length_take]; omega))]
  · rw [if_neg hi]
    by_cases hw : n ≤ W.length
    · rw [List.getElem?_append_right (by rw [List.length_take]; omega), List.getElem?_drop, List.length_take, show n + (i - min n W.length) = i by omega]
    · rw [List.getElem?_append_right (by rw [List.length_take]; omega), List.getElem?_drop, List.getElem?_eq_none (by rw [List.length_take]; omega), List.getElem?_eq_none (by omega)]
theorem mix_mix {n m : Nat} {W B : List Int} (h : W.length = B.length) : mixL n W (mixL m W B) = mixL (max n m) W B := by
  refine List.ext_getElem? (fun i => ?_)
  rw [mix_get (by rw [mix_len h, h]), mix_get h, mix_get h]
  by_cases h1 : i < n
  · rw [if_pos h1, if_pos (by omega)]
  · by_cases h2 : i < m
    · rw [if_neg h1, if_pos h2, if_pos (by omega)]
    · rw [if_neg h1, if_neg h2, if_neg (by omega)]
/-- two torn halves that are alike -/
theorem mix_alike {n m : Nat} {W V : List Int} (h : W.length = V.length) (e : mixL n W V = mixL m V W) : mixL m V W = V ∨ mixL m V W = W := by
  have hi : ∀ i, (if i < n then W[i]? else V[i]?) = if i < m then V[i]? else W[i]? := fun i => by
    rw [← mix_get h i, ← mix_get h.symm i, e]
  by_cases hnm : n ≤ m
  · left
    refine List.ext_getElem? (fun i => ?_)
    rw [mix_get h.symm]
    by_cases h1 : i < m
    · rw [if_pos h1]
    · have := hi i
      rw [if_neg (by omega), if_neg h1] at this
      rw [if_neg h1, this]
  · right
    refine List.ext_getElem? (fun i => ?_)
    rw [mix_get h.symm]
    by_cases h1 : i < m
    · have := hi i
      rw [if_pos (by omega), if_pos h1] at this
      rw [if_pos h1, this]
    · rw [if_neg h1]
/-- a journal by the copies of its head -/
def Parts (J B0 B1 B2 : List Int) : Prop := ∃ T, J = B0 ++ (B1 ++ (B2 ++ T)) ∧ B0.length = 16 ∧ B1.length = 16 ∧ B2.length = 16 ∧ 16 ≤ T.length
theorem parts_of {J : List Int} (h : 64 ≤ J.length) : Parts J (J.take 16) ((J.drop 16).take 16) ((J.drop 32).take 16) := by
  refine ⟨J.drop 48, ?_, by simp; omega, by simp; omega, by simp; omega, by simp; omega⟩
  have e3 : J.drop 32 = (J.drop 32).take 16 ++ J.drop 48 := by
    conv => lhs; rw [← List.take_append_drop 16 (J.drop 32)]
    rw [List.drop_drop]
  have e2 : J.drop 16 = (J.drop 16).take 16 ++ J.drop 32 := by
    conv => lhs; rw [← List.take_append_drop 16 (J.drop 16)]
    rw [List.drop_drop]
  rw [← e3, ← e2, List.take_append_drop]
theorem parts_len {J B0 B1 B2 : List Int} (h : Parts J B0 B1 B2) : 64 ≤ J.length := by
  obtain ⟨T, rfl, h0, h1, h2, hT⟩ := h
  simp only [List.length_append]
  omega
theorem parts_eq {J B0 B1 B2 : List Int} (h : Parts J B0 B1 B2) : J.take 16 = B0 ∧ (J.drop 16).take 16 = B1 ∧ (J.drop 32).take 16 = B2 := by
  obtain ⟨T, rfl, h0, h1, h2, hT⟩ := h
  have d16 : (B0 ++ (B1 ++ (B2 ++ T))).drop 16 = B1 ++ (B2 ++ T) := by rw [← h0, List.drop_left]
  have d32 : (B0 ++ (B1 ++ (B2 ++ T))).drop 32 = B2 ++ T := by
    rw [show (32 : Nat) = 16 + 16 from rfl, ← List.drop_drop, d16, ← h1, List.drop_left]
  rw [d16, d32]
  exact ⟨List.take_left' h0, List.take_left' h1, List.take_left' h2⟩
/-- a part of a sealed head written over it -/
theorem parts_put {J B0 B1 B2 : List Int} (h : Parts J B0 B1 B2) (w : W4) (n : Nat) (hn : n ≤ 64) : Parts (Pl.put J 0 ((sealB w).take n)) (mixL n w.bytes B0) (mixL (n - 16) w.bytes B1) (mixL (n - 32) w.bytes B2) := by
  have hJ := parts_len h
  obtain ⟨T, rfl, h0, h1, h2, hT⟩ := h
  have hw := bytes_len w
  have hz : (zeros 16).length = 16 := List.length_replicate ..
  refine ⟨(zeros 16).take (n - 48) ++ T.drop (n - 48), ?_, by rw [mix_len (by omega), h0], by rw [mix_len (by omega), h1], by rw [mix_len (by omega), h2], by rw [List.length_append, List.length_take, List.length_drop]; omega⟩
  have hs : sealB w = w.bytes ++ (w.bytes ++ (w.bytes ++ zeros 16)) := by unfold sealB; simp only [List.append_assoc]
  have hl : ((sealB w).take n).length = n := by rw [List.length_take, seal_len]; omega
  unfold Pl.put
  rw [hl, List.take_zero, List.nil_append, Nat.zero_add, hs]
  unfold mixL
  rw [List.take_append, List.take_append, List.take_append, List.drop_append, List.drop_append, List.drop_append, hw, h0, h1, h2]
  rw [show n - 16 - 16 = n - 32 by omega, show n - 32 - 16 = n - 48 by omega]
  by_cases c1 : n ≤ 16
  · rw [show n - 16 = 0 by omega, show n - 32 = 0 by omega, show n - 48 = 0 by omega]
    simp
  · rw [List.drop_of_length_le (show B0.length ≤ n by omega)]
    by_cases c2 : n ≤ 32
    · rw [show n - 32 = 0 by omega, show n - 48 = 0 by omega]
      simp
    · rw [List.drop_of_length_le (show B1.length ≤ n - 16 by omega)]
      by_cases c3 : n ≤ 48
      · rw [show n - 48 = 0 by omega]
        simp
      · rw [List.drop_of_length_le (show B2.length ≤ n - 32 by omega)]
        simp
/-- a head that says w, and goes on saying it when w is written over it in part -/
def HSp (B0 B1 B2 : List Int) (w : W4) : Prop := (B0 = w.bytes ∧ B1 = w.bytes) ∨ (B2 = w.bytes ∧ ∀ n, mixL n w.bytes B0 = B1 → B1 = w.bytes)
def HS (J : List Int) (w : W4) : Prop := ∃ B0 B1 B2, Parts J B0 B1 B2 ∧ HSp B0 B1 B2 w
/-- a head sealed whole -/
def HW (J : List Int) (w : W4) : Prop := ∃ t, J = sealB w ++ t
theorem hw_parts {J : List Int} {w : W4} (h : HW J w) : Parts J w.bytes w.bytes w.bytes := by
  obtain ⟨t, rfl⟩ := h
  refine ⟨zeros 16 ++ t, by unfold sealB; simp only [List.append_assoc], rfl, rfl, rfl, ?_⟩
  rw [List.length_append]
  simp [zeros]
theorem hw_hs {J : List Int} {w : W4} (h : HW J w) : HS J w := ⟨_, _, _, hw_parts h, .inl ⟨rfl, rfl⟩⟩
theorem hs_len {J : List Int} {w : W4} (h : HS J w) : 64 ≤ J.length := by
  obtain ⟨_, _, _, hp, _⟩ := h
  exact parts_len hp
theorem hs_same {J : List Int} {w : W4} (h : HS J w) (n : Nat) (hn : n ≤ 64) : HS (Pl.put J 0 ((sealB w).take n)) w := by
  obtain ⟨B0, B1, B2, hp, hh⟩ := h
  refine ⟨_, _, _, parts_put hp w n hn, ?_⟩
  obtain ⟨T, _, h0, h1, h2, hT⟩ := hp
  have hw := bytes_len w
  rcases hh with ⟨rfl, rfl⟩ | ⟨rfl, hx⟩
  · exact .inl ⟨mix_self _ _, mix_self _ _⟩
  · by_cases c1 : n ≤ 16
    · refine .inr ⟨by rw [show n - 32 = 0 by omega, mix_zero], fun m hm => ?_⟩
      rw [show n - 16 = 0 by omega, mix_zero] at hm ⊢
      rw [mix_mix (by omega)] at hm
      exact hx _ hm
    · refine .inr ⟨mix_self _ _, fun m hm => ?_⟩
      rw [mix_all (n := n) (by omega) (by omega), mix_self] at hm
      exact hm.symm
theorem hs_other {J : List Int} {w : W4} (h : HW J w) (v : W4) (n : Nat) (hn : n ≤ 64) : HS (Pl.put J 0 ((sealB v).take n)) w ∨ HS (Pl.put J 0 ((sealB v).take n)) v := by
  have hp := parts_put (hw_parts h) v n hn
  have hw := bytes_len w
  have hv := bytes_len v
  by_cases c1 : n ≤ 16
  · left
    refine ⟨_, _, _, hp, .inr ⟨by rw [show n - 32 = 0 by omega, mix_zero], fun m _ => by rw [show n - 16 = 0 by omega, mix_zero]⟩⟩
  · have e0 : mixL n v.bytes w.bytes = v.bytes := mix_all (by omega) (by omega)
    by_cases c2 : n ≤ 32
    · by_cases q : mixL (n - 16) v.bytes w.bytes = v.bytes
      · right
        exact ⟨_, _, _, hp, .inl ⟨e0, q⟩⟩
      · left
        refine ⟨_, _, _, hp, .inr ⟨by rw [show n - 32 = 0 by omega, mix_zero], fun m hm => ?_⟩⟩
        rw [e0] at hm
        rcases mix_alike (by omega) hm with z | z
        · exact absurd z q
        · exact z
    · right
      exact ⟨_, _, _, hp, .inl ⟨e0, mix_all (by omega) (by omega)⟩⟩
theorem hs_says {J : List Int} {w : W4} (h : HS J w) (hw : W4Ok w) : says J = w := by
  have h64 := hs_len h
  obtain ⟨B0, B1, B2, hp, hh⟩ := h
  obtain ⟨e0, e1, e2⟩ := parts_eq hp
  obtain ⟨T, rfl, h0, h1, h2, hT⟩ := hp
  have hJ64 : (B0 ++ (B1 ++ (B2 ++ T))).take 64 = B0 ++ (B1 ++ (B2 ++ T.take 16)) := by
    rw [List.take_append, List.take_append, List.take_append, h0, h1, h2, List.take_of_length_le (by omega), List.take_of_length_le (by omega), List.take_of_length_le (by omega)]
  unfold says
  rw [if_neg (by omega), hJ64]
  unfold openB
  have d16 : (B0 ++ (B1 ++ (B2 ++ T.take 16))).drop 16 = B1 ++ (B2 ++ T.take 16) := by rw [← h0, List.drop_left]
  rw [d16, List.take_left' h0, List.take_left' h1]
  have hA : B0 = w.bytes → wordsAt (B0 ++ (B1 ++ (B2 ++ T.take 16))) 0 = w := fun q => by
    rw [q]
    exact wordsAt_bytes w hw [] _
  have hB : B2 = w.bytes → wordsAt (B0 ++ (B1 ++ (B2 ++ T.take 16))) 32 = w := fun q => by
    rw [q]
    have := wordsAt_bytes w hw (B0 ++ B1) (T.take 16)
    rw [List.length_append, h0, h1, List.append_assoc] at this
    exact this
  rcases hh with ⟨q0, q1⟩ | ⟨q2, hx⟩
  · rw [if_pos (q0.trans q1.symm)]
    exact hA q0
  · by_cases c : B0 = B1
    · rw [if_pos c]
      exact hA (c.trans (hx 0 (by rw [mix_zero]; exact c)))
    · rw [if_neg c]
      exact hB q2
end Go.Proofs.Ytegcbdfilkecpaa
/- The stand-in disk among a caller's own blocks: its lesser calls; no condition but on the counts. -/
namespace Go.Proofs.Ytegcbdfilkecpaa
open Go.RowKit

section
variable {S : Nat → Prop} {W0 w w' : World} {db : Nat} {p p' : Pl}
end
end Go.Proofs.Ytegcbdfilkecpaa
/- The journal: a disk that crashes and is started again: contracts; the way back in plain Lean. -/
namespace Go.Proofs.Ytegcbdfilkecpaa
open Go.RowKit

section
variable {S : Nat → Prop} {W0 w w' : World} {db : Nat} {p p' : Pl}
end
namespace Pl
/-- the way back: ways of crashing, one behind the other -/
def jup (p : Pl) (chs : List Int) : Pl := if p.down then p.restart chs else p
def jways : Pl → List (Int × List Int) → Pl × Bool
  | p, [] => ((p.jup []).jrecover.1, decide ((p.jup []).jrecover.2.2 = 0) && !(p.jup []).jrecover.1.jhot)
  | p, x :: r => if ((p.jup x.2).crashIn x.1).jrecover.2.2 ≠ 0 ∧ ((p.jup x.2).crashIn x.1).jrecover.2.2 ≠ 7 then (((p.jup x.2).crashIn x.1).jrecover.1, false) else jways (((p.jup x.2).crashIn x.1).jrecover.1.crashIn 0) r
end Pl
end Go.Proofs.Ytegcbdfilkecpaa
/- The journal in plain Lean on a disk that may crash: what each step makes of it; small files, room enough. -/
namespace Go.Proofs.Ytegcbdfilkecpaa

/-- what a write leaves pending -/
def pendW (l : List Int) (s : ByteArray) (a : Nat) (d : List Int) : List Cg := (if l.length < a + d.length then [⟨s, -1, ((a + d.length : Nat) : Int), []⟩] else []) ++ Pl.sectors s (wrL l a d) a (a + d.length)
/-- one step behind p: what it leaves -/
structure Stepd (p q : Pl) (E : Int) (sn : ByteArray → List Int) (pd : List Cg) : Prop where
  e : E = if p.crash = 1 then 7 else 0
  down : q.down = decide (p.crash = 1)
  cr : 0 ≤ q.crash
  room : q.room = p.room
  two : q.sum = (q.seen nmDb).length + (q.seen nmJn).length
  kept : q.kept = p.kept
  ksum : q.ksum = p.ksum
  seen : q.seen = sn
  pd : q.pd = pd
/-- what a truncation leaves pending -/
def pendT (l : List Int) (s : ByteArray) (n : Nat) : List Cg := if n = l.length then [] else [⟨s, -1, (n : Int), []⟩]
/-- a sync that is done -/
structure Synced (p q : Pl) (s : ByteArray) : Prop where
  down : q.down = false
  cr : 0 ≤ q.crash
  room : q.room = p.room
  two : q.sum = (q.seen nmDb).length + (q.seen nmJn).length
  kept : q.kept = upd p.kept s (p.seen s)
  ktwo : q.ksum = (q.kept nmDb).length + (q.kept nmJn).length
  seen : q.seen = p.seen
  pd : q.pd = p.pd.filter fun c => !decide (c.nm = s)
/-! ### what may become of a file -/
inductive Out : List Int → List Cg → List Int → Prop
  | nil (k : List Int) : Out k [] k
  | cons {k r : List Int} {c : Cg} {cs : List Cg} (ch : Int) : Out (Pl.made k c ch) cs r → Out k (c :: cs) r
theorem made_zero (k : List Int) (c : Cg) : Pl.made k c 0 = k := by unfold Pl.made; rw [if_pos (Int.le_refl 0)]
theorem out_stay : ∀ (cs : List Cg) (k : List Int), Out k cs k
  | [], k => .nil k
  | c :: cs, k => .cons 0 (by rw [made_zero]; exact out_stay cs k)
theorem survive_kept (s : ByteArray) : ∀ (cs : List Cg) (chs : List Int) (p : Pl), Out (p.kept s) (cs.filter fun c => decide (c.nm = s)) ((p.survive cs chs).kept s)
  | [], chs, p => by unfold Pl.survive; exact .nil _
  | c :: cs, [], p => by unfold Pl.survive; exact out_stay _ _
  | c :: cs, ch :: r, p => by
    unfold Pl.survive
    have ih := survive_kept s cs r (p.at_.setKept c.nm (Pl.made (p.kept c.nm) c ch))
    by_cases e : c.nm = s
    · rw [List.filter_cons, if_pos (by simpa using e)]
      refine .cons ch ?_
      have hk : (p.at_.setKept c.nm (Pl.made (p.kept c.nm) c ch)).kept s = Pl.made (p.kept s) c ch := by
        show upd p.kept c.nm (Pl.made (p.kept c.nm) c ch) s = _
        rw [e, upd_same]
      rwa [hk] at ih
    · rw [List.filter_cons, if_neg (by simpa using e)]
      have hk : (p.at_.setKept c.nm (Pl.made (p.kept c.nm) c ch)).kept s = p.kept s := upd_other _ _ (fun q => e q.symm)
      rwa [hk] at ih
/-- an invariant of a file's kept bytes, that every change keeps -/
theorem out_inv {I : List Int → Prop} : ∀ {cs : List Cg} {k r : List Int}, Out k cs r → I k → (∀ c ∈ cs, ∀ k ch, I k → I (Pl.made k c ch)) → I r
  | [], k, r, h, hk, _ => by cases h; exact hk
  | c :: cs, k, r, h, hk, hi => by
    cases h with
    | cons ch h2 => exact out_inv h2 (hi c (List.mem_cons_self ..) k ch hk) (fun c2 hc => hi c2 (List.mem_cons_of_mem _ hc))
end Go.Proofs.Ytegcbdfilkecpaa
/- The journal in plain Lean: a disk started again; what keeps a head, a body, a database. -/
namespace Go.Proofs.Ytegcbdfilkecpaa

theorem survive_room : ∀ (cs : List Cg) (chs : List Int) (p : Pl), (p.survive cs chs).room = p.room
  | [], chs, p => by unfold Pl.survive; rfl
  | c :: cs, [], p => by unfold Pl.survive; rfl
  | c :: cs, ch :: r, p => by
    unfold Pl.survive
    rw [survive_room cs r]
    rfl
/-! ### heads -/
theorem hs_ext {J J' : List Int} {w : W4} (h : HS J w) (e : J'.take 64 = J.take 64) : HS J' w := by
  have hl := hs_len h
  have hl' : 64 ≤ J'.length := by
    have := congrArg List.length e
    rw [List.length_take, List.length_take] at this
    omega
  obtain ⟨B0, B1, B2, hp, hh⟩ := h
  obtain ⟨e0, e1, e2⟩ := parts_eq hp
  have hp' := parts_of hl'
  have t : ∀ a, a + 16 ≤ 64 → (J'.drop a).take 16 = (J.drop a).take 16 := fun a ha => by
    have h1 : ∀ X : List Int, (X.drop a).take 16 = ((X.take 64).drop a).take 16 := fun X => by
      rw [List.drop_take, List.take_take, Nat.min_eq_left (by omega)]
    rw [h1 J', h1 J, e]
  have t0 : J'.take 16 = J.take 16 := t 0 (by omega)
  rw [t0, t 16 (by omega), t 32 (by omega), e0, e1, e2] at hp'
  exact ⟨B0, B1, B2, hp', hh⟩
theorem hw_zero {n : Nat} (hn : 64 ≤ n) : HW (zeros n) ⟨0, 0, 0, 0⟩ := by
  refine ⟨zeros (n - 64), ?_⟩
  have e : sealB ⟨0, 0, 0, 0⟩ = zeros 64 := by decide
  rw [e]
  unfold zeros
  rw [List.replicate_append_replicate, show 64 + (n - 64) = n by omega]
theorem sizedF_take {l : List Int} {n k : Nat} (hk : k ≤ n) (hl : k ≤ l.length) : (sizedF l n).take k = l.take k := by
  unfold sizedF
  split
  · rw [List.take_take, Nat.min_eq_left hk]
  · rw [List.take_append_of_le_length hl]
theorem put_take {l d : List Int} {a k : Nat} (hk : k ≤ a) : (Pl.put l a d).take k = l.take k ∨ l.length < a := by
  by_cases h : a ≤ l.length
  · left
    unfold Pl.put
    rw [List.append_assoc, List.take_append_of_le_length (by rw [List.length_take]; omega), List.take_take, Nat.min_eq_left hk]
  · exact .inr (by omega)
/-- how many bytes a choice lets by -/
theorem cut_le (ch : Int) : (if 1 < ch then (1 + (ch - 2) % 63).toNat else 64) ≤ 64 := by split <;> omega
theorem made_len_le {k : List Int} {c : Cg} {ch : Int} {B : Nat} (hB : k.length ≤ B) (hc : c.sec < 0 → c.n.toNat ≤ B) : (Pl.made k c ch).length ≤ B := by
  unfold Pl.made
  split
  · exact hB
  · split
    · rename_i h
      rw [sizedF_len]
      exact hc h
    · unfold Pl.put
      simp only [List.length_append, List.length_take, List.length_drop]
      omega
/-- a cold or hot head, or none yet -/
def Hd (J : List Int) (w : W4) : Prop := (J = [] ∧ w = ⟨0, 0, 0, 0⟩) ∨ HS J w
/-- a change of the journal that keeps its head -/
def JnC (w : W4) (c : Cg) : Prop := (c.sec < 0 → 64 ≤ c.n) ∧ (c.sec = 0 → c.s = sealB w)
theorem hd_made {J : List Int} {w : W4} {c : Cg} (hc : JnC w c) (ch : Int) (h : Hd J w) : Hd (Pl.made J c ch) w := by
  unfold Pl.made
  split
  · exact h
  · split
    · rename_i hs
      have hn := hc.1 hs
      right
      rcases h with ⟨rfl, rfl⟩ | h
      · have e : sizedF [] c.n.toNat = zeros c.n.toNat := by unfold sizedF; rw [if_neg (by simp; omega)]; simp [zeros]
        rw [e]
        exact hw_hs (hw_zero (by omega))
      · exact hs_ext h (sizedF_take (by omega) (hs_len h))
    · rename_i hs
      by_cases h0 : c.sec = 0
      · rw [hc.2 h0, h0]
        have hle := cut_le ch
        generalize (if 1 < ch then (1 + (ch - 2) % 63).toNat else 64) = n at hle ⊢
        rcases h with ⟨rfl, rfl⟩ | h
        · left
          exact ⟨by simp [Pl.put], rfl⟩
        · right
          have := hs_len h
          rw [show (0 : Int).toNat * 64 = 0 from rfl, Nat.sub_zero, List.take_take, Nat.min_eq_right (by omega)]
          exact hs_same h n hle
      · rcases h with ⟨rfl, rfl⟩ | h
        · left
          exact ⟨by simp [Pl.put], rfl⟩
        · right
          have hl := hs_len h
          refine hs_ext h ?_
          generalize hd : ((c.s.take (if 1 < ch then (1 + (ch - 2) % 63).toNat else 64)).take (J.length - c.sec.toNat * 64)) = d
          rcases put_take (l := J) (d := d) (a := c.sec.toNat * 64) (k := 64) (by omega) with e | e
          · exact e
          · have : d = [] := by rw [← hd, show J.length - c.sec.toNat * 64 = 0 by omega, List.take_zero]
            rw [this]
            unfold Pl.put
            rw [List.append_nil, List.length_nil, Nat.add_zero, List.take_append_drop]
end Go.Proofs.Ytegcbdfilkecpaa
