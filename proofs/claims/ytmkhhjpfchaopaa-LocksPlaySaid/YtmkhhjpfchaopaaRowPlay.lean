/- LocksPlay: for every script the call returns true and leaves its argument as it was; no condition. -/
import Derived.Test.YtmkhhjpfchaopaaPlay
import Derived.Test.YtmkhhjpfchaopaaOpen
import Derived.Test.YtmkhhjpfchaopaaRows
namespace Go.Proofs.Ytmkhhjpfchaopaa
open Go.ChangeShapes Go.WideShapes Go.ChangeAt Go.RowKit
set_option linter.unusedVariables false

theorem own : ownKnob Try.prog.godebug = none := by kernel_rfl
theorem laidOut : laidOutB Try.prog = true := by kernel_rfl

set_option maxRecDepth 100000 in
theorem play_lifted (os : Os) (started : os.Started) (H : Type) (enc : TypeId × Value → H) :
    ReturnsInHanded {} Try.checked os 3 .any (Rows.locksPlaySpec.pre6 enc Try.prog Try.f3 Rows.locksPlayRow.domain false) (Rows.locksPlaySpec.post enc Try.prog Try.f3 false true false false) := by
  refine returnsInHanded_of_change (C := Try.checked) own started (by kernel_rfl) Try.func3
    (ChangeSpec.witness6 (enc := enc) (C := Try.checked) false ⟨#[], #[.slice none 0 0], []⟩ 8 (by kernel_rfl) (by kernel_rfl) (by kernel_rfl) (by kernel_rfl)) ?_
  intro W base args ds gs before hval0 hW hcnd _
  have hval : ∀ (j : Nat) t v, Try.f3.params[j]? = some t → args[j]? = some v → Value.okWide Try.prog W .any base t v := hval0
  have hW' := hW
  obtain ⟨p, q, hA0, hV, rfl, hfz, hnd⟩ := hW
  have hA : DataW.TrodAll enc Try.prog W 0 (fun _ => true) true Try.f3.params.toList args.toList ds p := hA0
  rw [Try.params3] at hA hval
  obtain ⟨v0, vs0, d0, ds0, p0, q0, hargs, rfl, rfl, h0, r0⟩ := trodAll_cons hA
  obtain ⟨rfl, rfl, rfl⟩ := trodAll_nil r0
  obtain rfl : args = #[v0] := by cases args; simp_all
  obtain ⟨rfl, rfl⟩ := trodVars_none hV
  obtain ⟨a0, len0, cap0, rfl⟩ := okWide_slice Try.underlying22 (hval 0 22 v0 rfl rfl)
  have k0 := h0
  have lt0 : ∀ x ∈ p0, x.block < W.heap.size := by obtain ⟨m, hm⟩ := k0; exact DataW.trod_lt m _ _ _ hm
  obtain ⟨hlen, hS⟩ : len0 ≤ 9223372036854775807 ∧ Scr W a0 len0 := by
    obtain ⟨fuel, hf⟩ := h0
    rcases open_slice_fields Try.underlying22 Try.underlying32 (by kernel_rfl) (by kernel_rfl) hf with ⟨hcs, _⟩ | ⟨x, l, c, m, D, Pl, hcs, _, hl, hm, hmm, hx, hi⟩
    · simp [Value.cells] at hcs
      obtain ⟨rfl, rfl, rfl⟩ := hcs
      exact ⟨by omega, fun h => absurd h (by omega)⟩
    · simp [Value.cells] at hcs
      obtain ⟨rfl, rfl, rfl⟩ := hcs
      refine ⟨by unfold maxLen at hm; omega, fun hpos => ?_⟩
      have hlm : len0 ≤ m := by rw [hmm]; split <;> omega
      have hcells : ∀ k, k < len0 → ∃ d a c l : Int, W.cell? (x.add (k * 4)) = some (.int .i64 d) ∧ W.cell? (x.add (k * 4 + 1)) = some (.int .i64 a) ∧ W.cell? (x.add (k * 4 + 2)) = some (.int .i64 c) ∧ W.cell? (x.add (k * 4 + 3)) = some (.int .i64 l) := by
        intro k hk
        obtain ⟨ys, nn, _, _, _, hf4⟩ := hi k (by omega)
        obtain ⟨v0, y0, c0, _, t0⟩ := hf4 0 _ rfl
        obtain ⟨v1, y1, c1, _, t1⟩ := hf4 1 _ rfl
        obtain ⟨v2, y2, c2, _, t2⟩ := hf4 2 _ rfl
        obtain ⟨v3, y3, c3, _, t3⟩ := hf4 3 _ rfl
        obtain ⟨n0, e0, _, _⟩ := DataW.trod_int Try.underlying3 t0
        obtain ⟨n1, e1, _, _⟩ := DataW.trod_int Try.underlying3 t1
        obtain ⟨n2, e2, _, _⟩ := DataW.trod_int Try.underlying3 t2
        obtain ⟨n3, e3, _, _⟩ := DataW.trod_int Try.underlying3 t3
        simp only [List.cons.injEq, and_true] at e0 e1 e2 e3
        subst e0 e1 e2 e3
        exact ⟨n0, n1, n2, n3, c0, c1, c2, c3⟩
      obtain ⟨sb, so, sp⟩ := x
      have hspot : sp = none := by
        obtain ⟨_, _, _, _, c0, _⟩ := hcells 0 hpos
        simpa [Addr.add] using World.cell?_spot c0
      subst hspot
      refine ⟨sb, so, rfl, ?_, fun k hk => ?_⟩
      · obtain ⟨_, _, _, _, c0, _⟩ := hcells 0 hpos
        rw [add_mk] at c0
        exact block_lt_of_cell c0
      · obtain ⟨d, a, c, l, c0, c1, c2, c3⟩ := hcells k hk
        rw [add_mk] at c0 c1 c2 c3
        exact ⟨d, a, c, l, c0, c1, c2, c3⟩
  clear hA0 hval0
  refine (play_ok W a0 len0 cap0 hlen hS).mono fun e W' ⟨he, kp⟩ => ?_
  have bel := kp.none_below
  subst he
  exact ⟨_, rfl, _, _, _, [], _, [], hW', trodAll_mk1 (shut_bool Try.underlying4 _), (trodAll_cons_mk (Below.trod laidOut (by kernel_rfl) (of_decide_eq_true (by kernel_rfl)) k0 bel lt0) trodAll_mk0), rfl, bel.frame _, fun h => by cases h⟩

theorem play_holds : Rows.LocksPlaySaid :=
  OpenClaim.holds_of_wide 3 Try.f3 rfl rfl rfl rfl rfl rfl rfl ⟨rfl, rfl, rfl, rfl, rfl⟩ rfl rfl rfl rfl rfl (by kernel_rfl) Try.func3 (by kernel_rfl)
    (of_decide_eq_true (by kernel_rfl)) (by unfold Func.isWrapper; first | (rw [if_pos (by decide +kernel)]; kernel_rfl) | (rw [if_neg (by decide +kernel)]; exact ⟨rfl, rfl⟩))
    (fun os started H enc _ => play_lifted os started H enc)
#print axioms play_holds
end Go.Proofs.Ytmkhhjpfchaopaa
