/- The answers that awake asks for, and RecordVarint; no condition. -/
import Derived.Test.YtlcefenjlchaiaaDoorRcDec
namespace Go.Proofs.YtlcefenjlchaiaaDoor
open Go.RowKit

def awVs : List RV := [⟨0, 0, ⟨#[]⟩⟩, ⟨1, 1, ⟨#[]⟩⟩, ⟨1, -2, ⟨#[]⟩⟩, ⟨1, 300, ⟨#[]⟩⟩, ⟨2, 0, ⟨#[97, 98]⟩⟩]
theorem aw_enc : encF awVs = (⟨#[5, 0, 10, 1, 2, 17, 254, 1, 44, 97, 98]⟩, 0) := by kernel_rfl
theorem aw_dec : decF ⟨#[1, 1, 0]⟩ = none := by kernel_rfl
theorem aw_put : putV 128 = ⟨#[129, 0]⟩ := by kernel_rfl
theorem aw_ok : ∀ v ∈ awVs, v.ok := by
  intro v hv
  simp only [awVs, List.mem_cons, List.not_mem_nil, or_false] at hv
  rcases hv with rfl | rfl | rfl | rfl | rfl <;> exact okk _ _ _ (by decide) (by decide) (by decide) (by decide) (by decide)
theorem rw_new (w : World) (vs : List RV) (t : TypeId) (hok : ∀ v ∈ vs, v.ok) : Rw (w.alloc (.cells (rvCells vs).toArray t)) (some ⟨w.heap.size, 0, none⟩) vs.length vs := by
  refine ⟨rfl, hok, fun _ => ⟨w.heap.size, 0, rfl, by simp, fun j hj => ?_⟩⟩
  have hb := Blk.new w t (rvCells vs).toArray
  have hg := rvCells_get vs [] j hj
  rw [List.append_nil] at hg
  rw [hb.cell, hb.cell, hb.cell]
  simp only [List.getElem?_toArray, Nat.zero_add]
  exact hg
set_option maxRecDepth 100000 in
set_option maxHeartbeats 1600000 in
theorem awake_ok (w : World) : Calls Tryd.prog 4 #[] w fun e w' => e = .returned (.bool true) ∧ Kp NoB w w' := by
  go_enter Tryd.func4, Tryd.ntmps4
  go_wp2_with (first
    | (go_at_call 11; go_must (refine (enc_ok _ _ 5 5 awVs (by omega) (rw_new w awVs _ aw_ok)).mono ?_); rw [aw_enc]; rintro en w2 ⟨rfl, hk2⟩; have HK2 := Lib.hid hk2; clear hk2)
    | (go_at_call 12; go_must (refine (dec_ok _ _ (by decide)).mono ?_); rw [aw_dec]; rintro en w3 ⟨hk3, rfl⟩; have HK3 := Lib.hid hk3; clear hk3)
    | (go_at_call 13; go_must (refine (put_ok _ 128 (by omega)).mono ?_); rw [aw_put]; rintro en w4 ⟨rfl, hk4⟩; have HK4 := Lib.hid hk4; clear hk4))
  go_ret
  exact ⟨rfl, ((((Kp.refl NoB w).alloc _).trans HK2.out (fun _ _ q => q)).trans HK3.out (fun _ _ q => q)).trans HK4.out (fun _ _ q => q)⟩
end Go.Proofs.YtlcefenjlchaiaaDoor
