/- A region with several ways that end alike in two blocks and two values; a call, a value among the ready operations; no condition. -/
import Derived.Test.YtlcefenjlchaiaaDoorInto
namespace Go.Proofs.YtlcefenjlchaiaaDoor
open Go

def Into4 (F : Nat → Nat → Value → Value → Act) (G : World → Nat → Nat → Value → Value → Prop) : Exit → Act → World → Prop
  | .normal, a, w => ∃ g h u v, a = F g h u v ∧ G w g h u v
  | _, _, _ => False
theorem wp_into4 {P : Program} {c : Code} {Q : Exit → Act → World → Prop} {a : Act} {w : World} (F : Nat → Nat → Value → Value → Act) (G : World → Nat → Nat → Value → Value → Prop) (h : c.wp P (Into4 F G) a w) (k : ∀ g h u v w', G w' g h u v → Q .normal (F g h u v) w') : c.wp P Q a w :=
  Code.wp_mono (fun e a w q => by cases e <;> first | exact q.elim | (obtain ⟨g, h, u, v, rfl, hg⟩ := q; exact k g h u v _ hg)) h
theorem into4_of {F : Nat → Nat → Value → Value → Act} {G : World → Nat → Nat → Value → Value → Prop} {a : Act} {w : World} (g h : Nat) (u v : Value) (q : G w g h u v) (e : a = F g h u v) : Into4 F G .normal a w := ⟨g, h, u, v, e, q⟩

def Into2 (F : Nat → Nat → Act) (G : World → Nat → Nat → Prop) : Exit → Act → World → Prop
  | .normal, a, w => ∃ g h, a = F g h ∧ G w g h
  | _, _, _ => False
theorem wp_into2 {P : Program} {c : Code} {Q : Exit → Act → World → Prop} {a : Act} {w : World} (F : Nat → Nat → Act) (G : World → Nat → Nat → Prop) (h : c.wp P (Into2 F G) a w) (k : ∀ g h w', G w' g h → Q .normal (F g h) w') : c.wp P Q a w :=
  Code.wp_mono (fun e a w q => by cases e <;> first | exact q.elim | (obtain ⟨g, h, rfl, hg⟩ := q; exact k g h _ hg)) h
theorem into2_of {F : Nat → Nat → Act} {G : World → Nat → Nat → Prop} {a : Act} {w : World} (g h : Nat) (q : G w g h) (e : a = F g h) : Into2 F G .normal a w := ⟨g, h, e, q⟩

section
variable {P : Program} {ops : Array Oper} {Q : Exit → Act → World → Prop} {md : Region.Mode} {S : World → Prop} {fuel : Nat} {listed : Array Bool} {a : Act} {w : World} {i : Nat} {rs : List Nat}
variable {ds : Option Tmp} {op : Op} {ty : TypeId} {ps : String} {af : Array Edge} {gd : Option (Nat × Bool)}
/-- a call among the ready operations: what is known behind it is R -/
theorem AllReadyH.callR (R : Value → World → Prop) (ho : ops[i]? = some ⟨ds, op, ty, ps, af, gd⟩) (hw : Region.wanted ⟨ds, op, ty, ps, af, gd⟩ (yielded ops a.tmps) = true) (f : FuncId) (args : Array Value)
    (hr : (execOp a.eval ⟨ds, op, ty, ps, af, gd⟩).run P w = .ok (.enter f args) w) (hS : ∀ v w', R v w' → S w') (hc : Calls P f args w fun e w' => ∃ v, e = .returned v ∧ R v w')
    (hn : ∀ v w', R v w' → wpAnyH P md ops Q S fuel (listed.setIfInBounds i true) (a.put ds v) w')
    (hs : AllReadyH P md ops Q S fuel listed a w rs) : AllReadyH P md ops Q S fuel listed a w (i :: rs) :=
  AllReadyH.cons ho (fun K hK => by
    rw [if_pos hw]
    unfold Oper.wp
    rw [hr, Oper.upon_enter]
    refine hc.mono ?_
    rintro e w' ⟨v, rfl, h⟩
    exact hK.out _ _ (hS v w' h) (fun _ => hn v w' h)) hs
/-- an operation that yields a value and turns the world: what is known behind it is R -/
theorem AllReadyH.valR (R : World → Prop) (ho : ops[i]? = some ⟨ds, op, ty, ps, af, gd⟩) (hw : Region.wanted ⟨ds, op, ty, ps, af, gd⟩ (yielded ops a.tmps) = true) (v : Value) (w' : World)
    (hr : (execOp a.eval ⟨ds, op, ty, ps, af, gd⟩).run P w = .ok (.value v) w') (hS : ∀ w', R w' → S w') (h : R w')
    (hn : ∀ w', R w' → wpAnyH P md ops Q S fuel (listed.setIfInBounds i true) (a.put ds v) w')
    (hs : AllReadyH P md ops Q S fuel listed a w rs) : AllReadyH P md ops Q S fuel listed a w (i :: rs) :=
  AllReadyH.cons ho (fun K hK => by
    rw [if_pos hw]
    unfold Oper.wp
    rw [hr, Oper.upon_value]
    exact hK.out _ _ (hS w' h) (fun _ => hn w' h)) hs
theorem AllReadyH.storeL {tx : TypeId} {x y : Operand} (ho : ops[i]? = some ⟨none, .store tx x y, ty, ps, af, gd⟩)
    (hw : Region.wanted ⟨none, .store tx x y, ty, ps, af, gd⟩ (yielded ops a.tmps) = true) (b off : Nat) (cells : Array Value)
    (hx : a.eval x = .pointer (some ⟨b, off, none⟩)) (hy : a.eval y = .agg cells) (ht : w.there b off cells.size) (hi : (P.info? tx).map (·.size) = some cells.size) (h1 : cells.all (·.oneCell') = true)
    (hS : S (w.setCells b off cells.toList)) (hn : wpAnyH P md ops Q S fuel (listed.setIfInBounds i true) a (w.setCells b off cells.toList))
    (hs : AllReadyH P md ops Q S fuel listed a w rs) : AllReadyH P md ops Q S fuel listed a w (i :: rs) :=
  AllReadyH.cons ho (fun K hK => by rw [if_pos hw]; exact wp_store_mid tx x y rfl b off cells hx hy ht hi h1 (hK.out _ _ hS (fun _ => hn))) hs
theorem wpAnyH_takeL {v : Value} (hi : ops[i]? = some ⟨ds, op, ty, ps, af, gd⟩)
    (hs : Region.noSelect ops = true) (hf : Region.free md ops listed i = true) (hr : (Region.ready md ops listed).contains i = true)
    (hQ : ∀ c a w, Q (.panic c) (a.put ds v) w → Q (.panic c) a w) (hy : YieldsIf P ops S ⟨ds, op, ty, ps, af, gd⟩ v a) (hS : S w)
    (h : wpAnyH P md ops Q S fuel (listed.setIfInBounds i true) (a.put ds v) w) : wpAnyH P md ops Q S (fuel + 1) listed a w :=
  wpAnyH_take hi hs hf hr hQ hy hS h
end
end Go.Proofs.YtlcefenjlchaiaaDoor
