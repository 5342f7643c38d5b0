/- How a row of values that comes in is read; no condition. -/
import Derived.Test.YtlcefenjlchaiaaDoorRowKit
import Derived.Test.YtlcefenjlchaiaaDoorOpen
import Derived.Test.YtlcefenjlchaiaaDoorRcRow
namespace Go.Proofs.YtlcefenjlchaiaaDoor
open Go.ChangeShapes Go.WideShapes Go.ChangeAt Go.RowKit

theorem open_rvs {H : Type} {enc : TypeId × Value → H} {W : World} {spare : Nat → Bool} {held : Bool} {a0 : Option Addr} {len cap : Nat} {d : DataW H} {p : List MemPlace}
    (h0 : DataW.Trod enc Tryd.prog W 0 spare held 22 (.slice a0 len cap) d p) : ∃ vs : List RV, Rw W a0 len vs ∧ len ≤ 9223372036854775807 ∧ (a0 = none → len = 0 ∧ cap = 0) := by
  obtain ⟨fuel, hf⟩ := h0
  rcases open_slice_fields Tryd.underlying22 Tryd.underlying34 (by kernel_rfl) (by kernel_rfl) hf with ⟨hcs, _⟩ | ⟨x, l, c, m, D, Pl, hcs, _, hl, hm, hmm, hx, hi⟩
  · simp [Value.cells] at hcs
    obtain ⟨rfl, rfl, rfl⟩ := hcs
    exact ⟨[], ⟨rfl, fun v hv => by simp at hv, fun h => absurd h (by omega)⟩, by omega, fun _ => ⟨rfl, rfl⟩⟩
  · simp [Value.cells] at hcs
    obtain ⟨rfl, rfl, rfl⟩ := hcs
    have hlm : len ≤ m := by rw [hmm]; split <;> omega
    have hcells : ∀ k, k < len → ∃ v : RV, v.ok ∧ W.cell? (x.add (k * 3)) = some (.int .i64 v.k) ∧ W.cell? (x.add (k * 3 + 1)) = some (.int .i64 v.i) ∧ W.cell? (x.add (k * 3 + 2)) = some (.string v.s) := by
      intro k hk
      obtain ⟨ys, nn, _, _, _, hf4⟩ := hi k (by omega)
      obtain ⟨v0, y0, c0, _, t0⟩ := hf4 0 _ rfl
      obtain ⟨v1, y1, c1, _, t1⟩ := hf4 1 _ rfl
      obtain ⟨v2, y2, c2, _, t2⟩ := hf4 2 _ rfl
      obtain ⟨n0, e0, _, w0⟩ := DataW.trod_int Tryd.underlying32 t0
      obtain ⟨n1, e1, _, w1⟩ := DataW.trod_int Tryd.underlying2 t1
      obtain ⟨s2, e2, _, w2⟩ := DataW.trod_string Tryd.underlying9 t2
      simp only [List.cons.injEq, and_true] at e0 e1 e2
      subst e0 e1 e2
      have b0 := wf_i64 w0
      have b1 := wf_i64 w1
      exact ⟨⟨n0, n1, s2⟩, ⟨b0.1, b0.2, b1.1, b1.2, w2⟩, c0, c1, c2⟩
    have hch : ∃ f : Nat → RV, ∀ k, k < len → (f k).ok ∧ W.cell? (x.add (k * 3)) = some (.int .i64 (f k).k) ∧ W.cell? (x.add (k * 3 + 1)) = some (.int .i64 (f k).i) ∧ W.cell? (x.add (k * 3 + 2)) = some (.string (f k).s) := by
      refine ⟨fun k => if h : k < len then (hcells k h).choose else RV.nul, fun k hk => ?_⟩
      simp only [dif_pos hk]
      exact (hcells k hk).choose_spec
    obtain ⟨f, hfk⟩ := hch
    refine ⟨(List.range len).map f, ⟨by simp, fun v hv => ?_, fun hpos => ?_⟩, by unfold maxLen at hm; omega, (fun q => by cases q)⟩
    · rw [List.mem_map] at hv
      obtain ⟨k, hk, rfl⟩ := hv
      exact (hfk k (by simpa using hk)).1
    · obtain ⟨sb, so, sp⟩ := x
      have hspot : sp = none := by
        have c0 := (hfk 0 hpos).2.1
        simpa [Addr.add] using World.cell?_spot c0
      subst hspot
      refine ⟨sb, so, rfl, ?_, fun j hj => ?_⟩
      · have c0 := (hfk 0 hpos).2.1
        rw [add_mk] at c0
        exact block_lt_of_cell c0
      · obtain ⟨_, c0, c1, c2⟩ := hfk j hj
        rw [add_mk] at c0 c1 c2
        have e : ((List.range len).map f).getD j RV.nul = f j := by simp [hj]
        rw [e]
        exact ⟨c0, c1, c2⟩
end Go.Proofs.YtlcefenjlchaiaaDoor
