/- Decode's deferred function: it takes a reader's panic back; no condition. -/
import Derived.Test.YtlcefenjlchaiaaDoorRcValue
namespace Go.Proofs.YtlcefenjlchaiaaDoor
open Go.RowKit

theorem assert_brk (w : World) : (Instr.typeAssert (.iface 47 (.agg #[])) 20 47 true).run Tryd.prog w = .ok (.tuple #[.agg #[], .bool true]) w := by kernel_rfl
theorem catch_brk (b2 b3 : Nat) (v : Value) (x : Int) (older : List PanicEntry) (w : World) (h2 : Blk w b2 22 #[v]) (h3 : Blk w b3 35 #[.int .i64 x]) (hv : v.oneCell' = true) (hne : b2 ≠ b3) :
    CallsD Tryd.prog 19 #[.pointer (some ⟨b2, 0, none⟩), .pointer (some ⟨b3, 0, none⟩)] (.panicking ({ v := brkV, recovered := false } :: older)) w fun e u' w' =>
      e = .returned (.tuple #[]) ∧ u' = .panicking ({ v := brkV, recovered := true } :: older) ∧ Kp (fun b => b = b2 ∨ b = b3) w w' ∧ Blk w' b2 22 #[.slice none 0 0] ∧ Blk w' b3 35 #[.int .i64 8] := by
  have H2 := Lib.hid h2
  have H3 := Lib.hid h3
  have l2 := h2.lt
  have l3 := h3.lt
  clear h2 h3
  refine callsD_of_wpS Tryd.func19 rfl fun c₀ cs hu => ?_
  apply wpS_seq
  apply wpS_region
  simp [wpOpsS, go_sem, recoverD, hu, Tryd.ntmps19, Exit.thenS]
  refine wpS_of_wp ?_
  change Code.wp _ _ _ { tmps := #[.pointer (some ⟨b2, 0, none⟩), .pointer (some ⟨b3, 0, none⟩), brkV, undef, undef, brkV, undef, undef, undef, undef, undef, undef, undef, undef, undef, undef], defers := [] } _
  have c2 : w.cell? ⟨b2, 0, none⟩ = some v := H2.out.cell 0
  have c3 : w.cell? ⟨b3, 0, none⟩ = some (.int .i64 x) := H3.out.cell 0
  have z2 := H2.out.frozen 0
  have z3 := H3.out.frozen 0
  unfold brkV
  have hta := assert_brk
  go_wp2_with fail
  refine ⟨rfl, _, rfl, .tuple #[], results_none rfl _ _ _, rfl, rfl, ?_, ?_, ?_⟩
  · exact (((Kp.refl _ _).setCell (p := ⟨b2, 0, none⟩) (.inr (.inl rfl)) _).setCell (p := ⟨b3, 0, none⟩) (.inr (.inr rfl)) _).alloc _
  · exact ((H2.out.set_ 0 (.slice none 0 0)).far (p := ⟨b3, 0, none⟩) hne _).alloc _
  · exact ((H3.out.far (p := ⟨b2, 0, none⟩) (fun q => hne q.symm) _).set_ 0 (.int .i64 8)).alloc _

theorem catch_idle (b2 b3 : Nat) (w : World) :
    CallsD Tryd.prog 19 #[.pointer (some ⟨b2, 0, none⟩), .pointer (some ⟨b3, 0, none⟩)] .returning w fun e u' w' => e = .returned (.tuple #[]) ∧ u' = .returning ∧ w' = w := by
  refine callsD_of_wpS Tryd.func19 rfl fun c₀ cs hu => ?_
  apply wpS_seq
  apply wpS_region
  simp [wpOpsS, go_sem, recoverD, hu, Tryd.ntmps19, Exit.thenS]
  refine wpS_of_wp ?_
  change Code.wp _ _ _ { tmps := #[.pointer (some ⟨b2, 0, none⟩), .pointer (some ⟨b3, 0, none⟩), .nilIface, undef, undef, .nilIface, undef, undef, undef, undef, undef, undef, undef, undef, undef, undef], defers := [] } _
  go_wp2_with fail
  cases c₀
  simp only at hu
  subst hu
  exact ⟨rfl, _, rfl, .tuple #[], results_none rfl _ _ _, rfl, rfl, rfl⟩
end Go.Proofs.YtlcefenjlchaiaaDoor
