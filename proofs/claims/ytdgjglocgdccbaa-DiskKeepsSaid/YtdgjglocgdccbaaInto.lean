/- A region with several ways that end alike: they are brought to one form; a long store among the ready operations; no condition. -/
import Derived.Test.YtdgjglocgdccbaaLib
namespace Go.Proofs.Ytdgjglocgdccbaa
open Go

def Into (F : Nat → Act) (G : World → Nat → Prop) : Exit → Act → World → Prop
  | .normal, a, w => ∃ g, a = F g ∧ G w g
  | _, _, _ => False
theorem wp_into {P : Program} {c : Code} {Q : Exit → Act → World → Prop} {a : Act} {w : World} (F : Nat → Act) (G : World → Nat → Prop) (h : c.wp P (Into F G) a w) (k : ∀ g w', G w' g → Q .normal (F g) w') : c.wp P Q a w :=
  Code.wp_mono (fun e a w q => by cases e <;> first | exact q.elim | (obtain ⟨g, rfl, hg⟩ := q; exact k g _ hg)) h
theorem into_of {F : Nat → Act} {G : World → Nat → Prop} {a : Act} {w : World} (g : Nat) (h : G w g) (e : a = F g) : Into F G .normal a w := ⟨g, e, h⟩

theorem AllReadyH.store {P : Program} {ops : Array Oper} {Q : Exit → Act → World → Prop} {md : Region.Mode} {S : World → Prop} {fuel : Nat} {listed : Array Bool} {a : Act} {w : World} {i : Nat} {o : Oper} {rs : List Nat} (ho : ops[i]? = some o)
    (hw : Region.wanted o (yielded ops a.tmps) = true) (ty : TypeId) (x y : Operand) (hop : o.op = .store ty x y) (b off : Nat) (cells : Array Value)
    (hx : a.eval x = .pointer (some ⟨b, off, none⟩)) (hy : a.eval y = .agg cells) (ht : w.there b off cells.size) (hi : (P.info? ty).map (·.size) = some cells.size) (h1 : cells.all (·.oneCell') = true)
    (hS : S (w.setCells b off cells.toList)) (hn : wpAnyH P md ops Q S fuel (listed.setIfInBounds i true) (a.put o.dst undef) (w.setCells b off cells.toList))
    (hs : AllReadyH P md ops Q S fuel listed a w rs) : AllReadyH P md ops Q S fuel listed a w (i :: rs) :=
  AllReadyH.cons ho (fun K hK => by rw [if_pos hw]; exact wp_store_mid ty x y hop b off cells hx hy ht hi h1 (hK.out _ _ hS (fun _ => hn))) hs
end Go.Proofs.Ytdgjglocgdccbaa
