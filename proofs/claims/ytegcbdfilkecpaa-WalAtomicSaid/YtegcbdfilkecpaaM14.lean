/- Texts of this proof, one behind the other: lemmas and contracts; each says its own conditions. -/
import Derived.Test.YtegcbdfilkecpaaM3
import Derived.Test.YtegcbdfilkecpaaM13
/- How a list of numbers that comes in is read; no condition. -/
namespace Go.Proofs.Ytegcbdfilkecpaa
open Go.ChangeShapes Go.WideShapes Go.ChangeAt Go.RowKit Go.Deep

theorem one_cell : Try.prog.cellsOf 3 = 1 := by kernel_rfl
theorem open_nums {H : Type} {enc : TypeId × Value → H} {W : World} {spare : Nat → Bool} {held : Bool} {a0 : Option Addr} {len0 cap0 : Nat} {d0 : DataW H} {p0 : List MemPlace}
    (h0 : DataW.Trod enc Try.prog W 0 spare held 58 (.slice a0 len0 cap0) d0 p0) : ∃ L, Nums W a0 len0 L ∧ (∀ y ∈ L, -9223372036854775808 ≤ y ∧ y ≤ 9223372036854775807) ∧ len0 ≤ 9223372036854775807 := by
  obtain ⟨fuel, hf⟩ := h0
  rcases open_slice Try.underlying58 hf with ⟨hcs, _⟩ | ⟨x, l, c, m, nn, D, Pl, hcs, _, hl, hm, hmm, hx, hi⟩
  · simp [Value.cells] at hcs
    obtain ⟨rfl, rfl, rfl⟩ := hcs
    exact ⟨[], ⟨rfl, fun h => absurd h (by omega)⟩, by simp, by omega⟩
  · simp [Value.cells] at hcs
    obtain ⟨rfl, rfl, rfl⟩ := hcs
    have hlm : len0 ≤ m := by rw [hmm]; split <;> omega
    have hcells : ∀ k, k < len0 → ∃ y : Int, W.cell? (x.add k) = some (.int .i64 y) ∧ -9223372036854775808 ≤ y ∧ y ≤ 9223372036854775807 := by
      intro k hk
      obtain ⟨cs', hc, ht'⟩ := hi k (by omega)
      rw [one_cell, Nat.mul_one] at hc
      obtain ⟨n0, e0, _, wf⟩ := DataW.trod_int Try.underlying3 ht'
      subst e0
      obtain ⟨_, hcl, hat⟩ := World.cells?_some hc
      have := hat 0 (by omega)
      rw [show (x.add k).add 0 = x.add k from rfl] at this
      exact ⟨n0, this, wf_i64 wf⟩
    have hL : ∃ L : List Int, L.length = len0 ∧ ∀ k (h : k < L.length), W.cell? (x.add k) = some (.int .i64 L[k]) ∧ -9223372036854775808 ≤ L[k] ∧ L[k] ≤ 9223372036854775807 := by
      refine ⟨(List.range len0).pmap (fun k hk => Classical.choose (hcells k hk)) (fun k hk => by simpa using hk), by simp, ?_⟩
      intro k hk
      have hk' : k < len0 := by simpa using hk
      have := Classical.choose_spec (hcells k hk')
      simpa using this
    obtain ⟨L, hLl, hLc⟩ := hL
    refine ⟨L, ⟨hLl, fun hpos => ?_⟩, fun y hy => ?_, by unfold maxLen at hm; omega⟩
    · obtain ⟨sb, so, sp⟩ := x
      have h00 := (hLc 0 (by omega)).1
      have hspot : sp = none := by
        simpa [Addr.add] using World.cell?_spot h00
      subst hspot
      refine ⟨sb, so, rfl, ?_, fun k hk => ?_⟩
      · rw [add_mk] at h00
        exact block_lt_of_cell h00
      · have := (hLc k (by omega)).1
        rw [add_mk] at this
        rw [this, List.getD_eq_getElem?_getD, List.getElem?_eq_getElem (by omega)]
        rfl
    · obtain ⟨k, hk, rfl⟩ := List.getElem_of_mem hy
      exact (hLc k hk).2
end Go.Proofs.Ytegcbdfilkecpaa
