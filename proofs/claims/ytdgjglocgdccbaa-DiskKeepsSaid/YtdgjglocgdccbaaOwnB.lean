/- A slice of the call's own, its block; no condition. -/
import Derived.Test.YtdgjglocgdccbaaLib
namespace Go.Proofs.Ytdgjglocgdccbaa
open Go.RowKit

section
variable {w w' : World} {base base' n n' cap size size' : Nat} {e e' : TypeId} {A : Option Addr} {v v' : Value} {xs xs' : List Value} {S : Nat → Prop}
theorem own_keepB (h : w.ownsRow base e size v n xs) (k : Kp S w w') (hS : ∀ g, v.ownBlock = some g → ¬ S g) : w'.ownsRow base e size v n xs := by
  refine ⟨h.1, ?_⟩
  rcases h.2 with hn | ⟨g, cap, cur, rfl, hb, hg, rest⟩
  · exact .inl hn
  · exact .inr ⟨g, cap, cur, rfl, hb, k.lift hg (hS g rfl), rest⟩
theorem own_ne (h : w.ownsRow base e size v n xs) (h' : w.ownsRow base' e' size' v' n' xs') (hne : e ≠ e') : ∀ g, v.ownBlock = some g → v'.ownBlock ≠ some g := by
  intro g hg q
  rcases h.2 with ⟨rfl, _⟩ | ⟨g1, cap1, cur1, rfl, _, h1, _⟩
  · cases hg
  rcases h'.2 with ⟨rfl, _⟩ | ⟨g2, cap2, cur2, rfl, _, h2, _⟩
  · cases q
  simp only [Value.ownBlock, Option.some.injEq] at hg q
  subst hg
  subst q
  rw [h1] at h2
  simp only [Option.some.injEq, Obj.cells.injEq] at h2
  exact hne h2.2.1
theorem own_blk1 (h : w.ownsRow base e 1 (.slice A n cap) n xs) (hn : 0 < n) : ∃ g ds, A = some ⟨g, 0, none⟩ ∧ base ≤ g ∧ Blk w g e (xs ++ ds).toArray := by
  rcases h.2 with ⟨h0, _⟩ | ⟨g, cap', cur, hv, hb, hh, h1, h2, h3, h4⟩
  · cases h0; omega
  · simp only [Value.slice.injEq] at hv
    refine ⟨g, cur.toList.drop n, hv.1, hb, ?_⟩
    unfold Blk
    rw [hh]
    congr 2
    rw [Nat.mul_one] at h4
    rw [← h4, List.take_append_drop]
theorem own_blkN (h : w.ownsRow base e size (.slice A n cap) n xs) (hn : 0 < n) : ∃ g ds, A = some ⟨g, 0, none⟩ ∧ base ≤ g ∧ Blk w g e (xs ++ ds).toArray := by
  rcases h.2 with ⟨h0, _⟩ | ⟨g, cap', cur, hv, hb, hh, h1, h2, h3, h4⟩
  · cases h0; omega
  · simp only [Value.slice.injEq] at hv
    refine ⟨g, cur.toList.drop (n * size), hv.1, hb, ?_⟩
    unfold Blk
    rw [hh]
    congr 2
    rw [← h4, List.take_append_drop]
theorem own_form (h : w.ownsRow base e size (.slice A n cap) n xs) : (A = none ∧ n = 0 ∧ cap = 0) ∨ ∃ g, A = some ⟨g, 0, none⟩ := by
  rcases h.2 with ⟨h0, hn⟩ | ⟨g, cap', cur, hv, _⟩
  · injection h0 with h1 h2 h3
    exact .inl ⟨h1, hn, h3⟩
  · injection hv with h1
    exact .inr ⟨g, h1⟩
theorem own_cap (h : w.ownsRow base e size (.slice A n cap) n xs) : n ≤ cap := by
  rcases h.2 with ⟨h0, hn⟩ | ⟨g, cap', cur, hv, _, _, h1, _⟩
  · omega
  · simp only [Value.slice.injEq] at hv
    omega
theorem own_nil (h : w.ownsRow base e size (.slice A n cap) n xs) : A = none → n = 0 ∧ cap = 0 := by
  rintro rfl
  rcases h.2 with ⟨h0, _⟩ | ⟨g, cap', cur, hv, _⟩
  · cases h0; exact ⟨rfl, rfl⟩
  · cases hv
end
end Go.Proofs.Ytdgjglocgdccbaa
