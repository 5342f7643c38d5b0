/- How a list of changes that comes in is read; no condition. -/
import Derived.Test.YtdgjglocgdccbaaDkSteps
import Derived.Test.YtdgjglocgdccbaaOpen
import Derived.Test.YtdgjglocgdccbaaRowKit
namespace Go.Proofs.Ytdgjglocgdccbaa
open Go.ChangeShapes Go.WideShapes Go.ChangeAt Go.RowKit

theorem open_files {H : Type} {enc : TypeId × Value → H} {W : World} {spare : Nat → Bool} {held : Bool} {a0 : Option Addr} {len0 cap0 : Nat} {d0 : DataW H} {p0 : List MemPlace}
    (h0 : DataW.Trod enc Try.prog W 0 spare held 22 (.slice a0 len0 cap0) d0 p0) : ∃ L, Fls W a0 len0 L ∧ len0 ≤ 9223372036854775807 := by
  obtain ⟨fuel, hf⟩ := h0
  rcases open_slice_fields Try.underlying22 Try.underlying31 (by kernel_rfl) (by kernel_rfl) hf with ⟨hcs, _⟩ | ⟨x, l, c, m, D, Pl, hcs, _, hl, hm, hmm, hx, hi⟩
  · simp [Value.cells] at hcs
    obtain ⟨rfl, rfl, rfl⟩ := hcs
    exact ⟨[], ⟨rfl, by simp, fun h => absurd h (by omega)⟩, by omega⟩
  · simp [Value.cells] at hcs
    obtain ⟨rfl, rfl, rfl⟩ := hcs
    have hlm : len0 ≤ m := by rw [hmm]; split <;> omega
    have hcells : ∀ k, k < len0 → ∃ y : Int × ByteArray, W.cell? (x.add (k * 2)) = some (.int .i64 y.1) ∧ W.cell? (x.add (k * 2 + 1)) = some (.string y.2) ∧ y.2.size ≤ maxLen := by
      intro k hk
      obtain ⟨ys, nn, _, _, _, hf4⟩ := hi k (by omega)
      obtain ⟨v0, y0, c0, _, t0⟩ := hf4 0 _ rfl
      obtain ⟨v1, y1, c1, _, t1⟩ := hf4 1 _ rfl
      obtain ⟨n0, e0, _, _⟩ := DataW.trod_int Try.underlying3 t0
      obtain ⟨s1, e1, _, hs⟩ := DataW.trod_string Try.underlying9 t1
      simp only [List.cons.injEq, and_true] at e0 e1
      subst e0 e1
      exact ⟨(n0, s1), c0, c1, hs⟩
    have hL : ∃ L : List (Int × ByteArray), L.length = len0 ∧ ∀ k (h : k < L.length), W.cell? (x.add (k * 2)) = some (.int .i64 L[k].1) ∧ W.cell? (x.add (k * 2 + 1)) = some (.string L[k].2) ∧ L[k].2.size ≤ maxLen := by
      refine ⟨(List.range len0).pmap (fun k hk => Classical.choose (hcells k hk)) (fun k hk => by simpa using hk), by simp, ?_⟩
      intro k hk
      have hk' : k < len0 := by simpa using hk
      have := Classical.choose_spec (hcells k hk')
      simpa using this
    obtain ⟨L, hLl, hLc⟩ := hL
    refine ⟨L, ⟨hLl, ?_, fun hpos => ?_⟩, by unfold maxLen at hm; omega⟩
    · intro y hy
      obtain ⟨k, hk, rfl⟩ := List.getElem_of_mem hy
      exact (hLc k hk).2.2
    · obtain ⟨sb, so, sp⟩ := x
      have h00 := (hLc 0 (by omega)).1
      have hspot : sp = none := by
        simpa [Addr.add] using World.cell?_spot h00
      subst hspot
      refine ⟨sb, so, rfl, ?_, fun k hk => ?_⟩
      · rw [add_mk] at h00
        exact block_lt_of_cell h00
      · obtain ⟨c0, c1, _⟩ := hLc k hk
        rw [add_mk] at c0 c1
        exact ⟨c0, c1⟩
end Go.Proofs.Ytdgjglocgdccbaa
