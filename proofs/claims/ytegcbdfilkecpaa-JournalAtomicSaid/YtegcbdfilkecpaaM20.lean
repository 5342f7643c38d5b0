/- Texts of this proof, one behind the other: lemmas and contracts; each says its own conditions. -/
import Derived.Test.YtegcbdfilkecpaaM18
import Derived.Test.YtegcbdfilkecpaaM19
/- How a list of changes that comes in is read; no condition. -/
namespace Go.Proofs.Ytegcbdfilkecpaa
open Go.ChangeShapes Go.WideShapes Go.ChangeAt Go.RowKit Go.Deep

theorem u8_cell : Try.prog.cellsOf 5 = 1 := by kernel_rfl
theorem open_chs {H : Type} {enc : TypeId × Value → H} {W : World} {spare : Nat → Bool} {held : Bool} {a0 : Option Addr} {len0 cap0 : Nat} {d0 : DataW H} {p0 : List MemPlace}
    (h0 : DataW.Trod enc Try.prog W 0 spare held 35 (.slice a0 len0 cap0) d0 p0) : Chs W a0 len0 := by
  obtain ⟨fuel, hf⟩ := h0
  rcases open_slice_fields Try.underlying35 Try.underlying44 (by kernel_rfl) (by kernel_rfl) hf with ⟨hcs, _⟩ | ⟨x, l, c, m, D, Pl, hcs, _, hl, hm, hmm, hx, hi⟩
  · simp [Value.cells] at hcs
    obtain ⟨rfl, rfl, rfl⟩ := hcs
    exact fun k hk => absurd hk (by omega)
  · simp [Value.cells] at hcs
    obtain ⟨rfl, rfl, rfl⟩ := hcs
    have hlm : len0 ≤ m := by rw [hmm]; split <;> omega
    intro k hk
    obtain ⟨ys, nn, _, _, _, hf4⟩ := hi k (by omega)
    obtain ⟨v0, y0, c0, _, t0⟩ := hf4 0 _ rfl
    obtain ⟨v1, y1, c1, _, t1⟩ := hf4 1 _ rfl
    obtain ⟨n0, e0, _, _⟩ := DataW.trod_int Try.underlying3 t0
    simp only [List.cons.injEq, and_true] at e0
    subst e0
    obtain ⟨sb, so, sp⟩ := x
    have hspot : sp = none := by
      obtain ⟨ys', nn', _, _, _, hf4'⟩ := hi 0 (by omega)
      obtain ⟨v0', y0', c0', _, t0'⟩ := hf4' 0 _ rfl
      simpa [Addr.add] using World.cell?_spot c0'
    subst hspot
    rw [add_mk] at c0 c1
    rcases open_slice Try.underlying42 t1 with ⟨hcs, _⟩ | ⟨x2, l2, c2, m2, nn2, D2, Pl2, hcs, _, hl2, hm2, hmm2, hx2, hi2⟩
    · simp only [List.cons.injEq, and_true] at hcs
      subst hcs
      exact ⟨sb, so, n0, none, 0, 0, [], rfl, block_lt_of_cell c0, c0, c1, ⟨rfl, by simp, fun k y h => by cases h⟩, by omega⟩
    · simp only [List.cons.injEq, and_true] at hcs
      subst hcs
      have hlm2 : l2 ≤ m2 := by rw [hmm2]; split <;> omega
      have hcells : ∀ j, j < l2 → ∃ y : Int, W.cell? (x2.add j) = some (.int .u8 y) ∧ 0 ≤ y ∧ y < 256 := by
        intro j hj
        obtain ⟨cs', hc, ht'⟩ := hi2 j (by omega)
        rw [u8_cell, Nat.mul_one] at hc
        obtain ⟨b0, e0, _, wf⟩ := DataW.trod_int Try.underlying5 ht'
        subst e0
        obtain ⟨_, hcl, hat⟩ := World.cells?_some hc
        have := hat 0 (by omega)
        rw [show (x2.add j).add 0 = x2.add j from rfl] at this
        exact ⟨b0, this, by have := wf_u8 wf; omega⟩
      have hL : ∃ L : List Int, L.length = l2 ∧ ∀ j (h : j < L.length), W.cell? (x2.add j) = some (.int .u8 L[j]) ∧ 0 ≤ L[j] ∧ L[j] < 256 := by
        refine ⟨(List.range l2).pmap (fun j hj => Classical.choose (hcells j hj)) (fun j hj => by simpa using hj), by simp, ?_⟩
        intro j hj
        have hj' : j < l2 := by simpa using hj
        have := Classical.choose_spec (hcells j hj')
        simpa using this
      obtain ⟨L, hLl, hLc⟩ := hL
      refine ⟨sb, so, n0, some x2, l2, c2, L, rfl, block_lt_of_cell c0, c0, c1, ⟨hLl, fun y hy => ?_, fun j y hy => ?_⟩, by unfold maxLen at hm2; omega⟩
      · obtain ⟨j, hj, rfl⟩ := List.getElem_of_mem hy
        exact (hLc j hj).2
      · obtain ⟨hj, rfl⟩ := List.getElem?_eq_some_iff.1 hy
        have hc := (hLc j hj).1
        have hc0 := (hLc 0 (by omega)).1
        obtain ⟨tb, tn, tp⟩ := x2
        have hspot : tp = none := by
          simpa [Addr.add] using World.cell?_spot hc0
        subst hspot
        rw [add_mk] at hc
        exact ⟨tb, tn, rfl, block_lt_of_cell hc, hc⟩
end Go.Proofs.Ytegcbdfilkecpaa
