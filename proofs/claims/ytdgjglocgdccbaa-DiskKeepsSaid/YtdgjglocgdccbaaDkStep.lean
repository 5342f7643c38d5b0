/- The stand-in disk: step; no condition. -/
import Derived.Test.YtdgjglocgdccbaaDkAt
namespace Go.Proofs.Ytdgjglocgdccbaa
open Go.RowKit

theorem onb_cells {w : World} {b g : Nat} {cs cs' : Array Value} {t t' : TypeId} (hb : Blk w b t cs) (hg : w.heap[g]? = some (.cells cs' t' (0, 0))) (hne : t ≠ t') : ¬ OnB b g := by
  rintro rfl
  exact blk_ne hb hg hne rfl
/-- only the disk's own cells turn -/
theorem Dk.numbers {n0 : Nat} {w w' : World} {x : Dd} (h : Dk n0 w x) (k : Kp (OnB x.db) w w') (room steps crash : Int) (down : Bool) (starts : Int)
    (hb : Blk w' x.db 64 #[.map (some x.mb), x.pv, .int .i64 room, .int .i64 steps, .int .i64 crash, .bool down, .int .i64 starts])
    (r0 : 0 ≤ room ∧ room ≤ 9223372036854775807) (c0 : 0 ≤ crash ∧ crash ≤ 9223372036854775807) :
    Dk n0 w' { x with room := room, steps := steps, crash := crash, down := down, starts := starts } := by
  obtain ⟨D, hD, hM⟩ := h.mp
  have hmb : ¬ OnB x.db x.mb := by
    intro q
    obtain ⟨es, cl, hm, _⟩ := hD
    have := h.blk
    unfold Blk at this
    rw [← show x.mb = x.db from q, hm] at this
    cases this
  exact { h with
    blk := hb
    mp := ⟨D, k.map hD hmb, hM⟩
    fls := fun e he => (h.fls e he).keep k (by obtain ⟨u, v, hb', _⟩ := (h.fls e he).blk; exact onb_cells h.blk hb' (by decide)) (fun g cs hc => onb_cells h.blk hc (by decide))
    pend := own_keepB h.pend k (fun g hg => by obtain ⟨cs, hc⟩ := own_type h.pend hg; exact onb_cells h.blk hc (by decide))
    r0 := r0
    c0 := c0 }
theorem Kp.setAt {S : Nat → Prop} {a w : World} (h : Kp S a w) {g : Nat} (hS : S g) (o : Nat) (u : Value) : Kp S a (w.setCell ⟨g, o, none⟩ u) := h.setCell (.inr hS) u
def stepF (x : Dd) : Dd := { x with steps := wrp (x.steps + 1), crash := if 0 < x.crash then x.crash - 1 else x.crash, down := if x.crash = 1 then true else x.down }
def stepE (x : Dd) : Int := if x.crash = 1 then 7 else 0
set_option maxRecDepth 100000 in
set_option maxHeartbeats 1600000 in
theorem step_ok (w : World) (n0 : Nat) (x : Dd) (h : Dk n0 w x) :
    Calls Try.prog 31 #[ptrV x.db] w fun e w' => e = .returned (.int .i64 (stepE x)) ∧ Dk n0 w' (stepF x) ∧ Kp (OnB x.db) w w' := by
  have H := Lib.hid h
  have HB := Lib.hid h.blk
  have c3 : w.cell? ⟨x.db, 3, none⟩ = some (.int .i64 x.steps) := by rw [h.blk.cell]; rfl
  have c4 : w.cell? ⟨x.db, 4, none⟩ = some (.int .i64 x.crash) := by rw [h.blk.cell]; rfl
  have c5 : w.cell? ⟨x.db, 5, none⟩ = some (.bool x.down) := by rw [h.blk.cell]; rfl
  have f3 := h.blk.frozen 3
  have f4 := h.blk.frozen 4
  have f5 := h.blk.frozen 5
  have hw2 : 0 < x.crash → IntKind.i64.wrap (x.crash - 1) = x.crash - 1 := fun hp => by rw [IntKind.wrap_i64]; have := h.c0; omega
  have hC := h.c0
  have hw1 : IntKind.i64.wrap (x.steps + 1) = wrp (x.steps + 1) := rfl
  clear h
  unfold ptrV
  rcases (show x.crash = 0 ∨ x.crash = 1 ∨ 1 < x.crash by omega) with hc | hc | hc
  · have HC := Lib.hid hc
    rw [hc] at c4
    clear hw2 hC hc
    go_enter Try.func31, Try.ntmps31
    go_wp2_with fail
    go_ret
    have e1 : stepF x = { x with room := x.room, steps := wrp (x.steps + 1), crash := 0, down := x.down, starts := x.starts } := by unfold stepF; simp [HC.out]
    have kp : Kp (OnB x.db) w (w.setCell ⟨x.db, 3, none⟩ (.int .i64 (wrp (x.steps + 1)))) := (Kp.refl (OnB x.db) w).setAt (show OnB x.db x.db from rfl) _ _
    refine ⟨by unfold stepE; simp [HC.out], ?_, kp⟩
    rw [e1]
    refine H.out.numbers kp _ _ _ _ _ ?_ H.out.r0 (by omega)
    have hb := HB.out.set_ 3 (.int .i64 (wrp (x.steps + 1)))
    simpa [diskCells, HC.out] using hb
  · have HC := Lib.hid hc
    have hw3 : IntKind.i64.wrap ((1 : Int) - 1) = 0 := by rw [IntKind.wrap_i64]; rfl
    rw [hc] at c4
    clear hw2 hC hc
    go_enter Try.func31, Try.ntmps31
    go_wp2_with fail
    go_ret
    have e1 : stepF x = { x with room := x.room, steps := wrp (x.steps + 1), crash := 0, down := true, starts := x.starts } := by unfold stepF; simp [HC.out]
    have kp : Kp (OnB x.db) w (((w.setCell ⟨x.db, 3, none⟩ (.int .i64 (wrp (x.steps + 1)))).setCell ⟨x.db, 4, none⟩ (.int .i64 0)).setCell ⟨x.db, 5, none⟩ (.bool true)) := (((Kp.refl (OnB x.db) w).setAt (show OnB x.db x.db from rfl) _ _).setAt (show OnB x.db x.db from rfl) _ _).setAt (show OnB x.db x.db from rfl) _ _
    refine ⟨by unfold stepE; simp [HC.out], ?_, kp⟩
    rw [e1]
    refine H.out.numbers kp _ _ _ _ _ ?_ H.out.r0 (by omega)
    have hb := ((HB.out.set_ 3 (.int .i64 (wrp (x.steps + 1)))).set_ 4 (.int .i64 0)).set_ 5 (.bool true)
    simpa [diskCells] using hb
  · have HC := Lib.hid hc
    have HCC := Lib.hid hC
    have hw3 := hw2 (by omega)
    have hp : (0 : Int) < x.crash := by omega
    have hq : ¬ x.crash - 1 = 0 := by omega
    have hq2 : (x.crash - 1 == 0) = false := by simpa using hq
    clear hw2 hC hc
    go_enter Try.func31, Try.ntmps31
    go_wp2_with fail
    go_ret
    have hne : ¬ x.crash = 1 := by have := HC.out; omega
    have e1 : stepF x = { x with room := x.room, steps := wrp (x.steps + 1), crash := x.crash - 1, down := x.down, starts := x.starts } := by unfold stepF; simp [hne, hp]
    have kp : Kp (OnB x.db) w ((w.setCell ⟨x.db, 3, none⟩ (.int .i64 (wrp (x.steps + 1)))).setCell ⟨x.db, 4, none⟩ (.int .i64 (x.crash - 1))) := ((Kp.refl (OnB x.db) w).setAt (show OnB x.db x.db from rfl) _ _).setAt (show OnB x.db x.db from rfl) _ _
    refine ⟨by unfold stepE; simp [hne], ?_, kp⟩
    rw [e1]
    refine H.out.numbers kp _ _ _ _ _ ?_ H.out.r0 (by have := HCC.out; omega)
    have hb := ((HB.out.set_ 3 (.int .i64 (wrp (x.steps + 1)))).set_ 4 (.int .i64 (x.crash - 1)))
    simpa [diskCells] using hb
end Go.Proofs.Ytdgjglocgdccbaa
