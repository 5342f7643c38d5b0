/- How a script that comes in is read; no condition. -/
import Derived.Test.YtmkhhjpfchaopaaSame
import Derived.Test.YtmkhhjpfchaopaaOpen
namespace Go.Proofs.Ytmkhhjpfchaopaa
open Go.ChangeShapes Go.WideShapes Go.ChangeAt Go.RowKit

/-- an argument that is a script, read -/
theorem open_script {H : Type} {enc : TypeId × Value → H} {W : World} {spare : Nat → Bool} {held : Bool} {a0 : Option Addr} {len0 cap0 : Nat} {d0 : DataW H} {p0 : List MemPlace}
    (h0 : DataW.Trod enc Try.prog W 0 spare held 22 (.slice a0 len0 cap0) d0 p0) : len0 ≤ 9223372036854775807 ∧ Scr W a0 len0 := by
  obtain ⟨fuel, hf⟩ := h0
  rcases open_slice_fields Try.underlying22 Try.underlying32 (by kernel_rfl) (by kernel_rfl) hf with ⟨hcs, _⟩ | ⟨x, l, c, m, D, Pl, hcs, _, hl, hm, hmm, hx, hi⟩
  · simp [Value.cells] at hcs
    obtain ⟨rfl, rfl, rfl⟩ := hcs
    exact ⟨by omega, fun h => absurd h (by omega)⟩
  · simp [Value.cells] at hcs
    obtain ⟨rfl, rfl, rfl⟩ := hcs
    refine ⟨by unfold maxLen at hm; omega, fun hpos => ?_⟩
    have hlm : len0 ≤ m := by rw [hmm]; split <;> omega
    have hcells : ∀ k, k < len0 → ∃ d a c l : Int, W.cell? (x.add (k * 4)) = some (.int .i64 d) ∧ W.cell? (x.add (k * 4 + 1)) = some (.int .i64 a) ∧ W.cell? (x.add (k * 4 + 2)) = some (.int .i64 c) ∧ W.cell? (x.add (k * 4 + 3)) = some (.int .i64 l) := by
      intro k hk
      obtain ⟨ys, nn, _, _, _, hf4⟩ := hi k (by omega)
      obtain ⟨v0, y0, c0, _, t0⟩ := hf4 0 _ rfl
      obtain ⟨v1, y1, c1, _, t1⟩ := hf4 1 _ rfl
      obtain ⟨v2, y2, c2, _, t2⟩ := hf4 2 _ rfl
      obtain ⟨v3, y3, c3, _, t3⟩ := hf4 3 _ rfl
      obtain ⟨n0, e0, _, _⟩ := DataW.trod_int Try.underlying3 t0
      obtain ⟨n1, e1, _, _⟩ := DataW.trod_int Try.underlying3 t1
      obtain ⟨n2, e2, _, _⟩ := DataW.trod_int Try.underlying3 t2
      obtain ⟨n3, e3, _, _⟩ := DataW.trod_int Try.underlying3 t3
      simp only [List.cons.injEq, and_true] at e0 e1 e2 e3
      subst e0 e1 e2 e3
      exact ⟨n0, n1, n2, n3, c0, c1, c2, c3⟩
    obtain ⟨sb, so, sp⟩ := x
    have hspot : sp = none := by
      obtain ⟨_, _, _, _, c0, _⟩ := hcells 0 hpos
      simpa [Addr.add] using World.cell?_spot c0
    subst hspot
    refine ⟨sb, so, rfl, ?_, fun k hk => ?_⟩
    · obtain ⟨_, _, _, _, c0, _⟩ := hcells 0 hpos
      rw [add_mk] at c0
      exact block_lt_of_cell c0
    · obtain ⟨d, a, c, l, c0, c1, c2, c3⟩ := hcells k hk
      rw [add_mk] at c0 c1 c2 c3
      exact ⟨d, a, c, l, c0, c1, c2, c3⟩

end Go.Proofs.Ytmkhhjpfchaopaa
