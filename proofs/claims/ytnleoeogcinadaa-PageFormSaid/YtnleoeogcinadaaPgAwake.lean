/- The answers that awake asks for; no condition. -/
import Derived.Test.YtnleoeogcinadaaPgEq
namespace Go.Proofs.Ytnleoeogcinadaa
open Go.RowKit
attribute [local go_sem ↓] load26 store26 alloc26 build26 slice26lo eql26 neq26

def awXs : List ByteArray := [⟨#[97, 98]⟩, ⟨#[99]⟩]
def awL : List Int := layI 1 7 awXs
theorem awL_len : awL.length = 256 := by decide +kernel
theorem awL_new : newR 1 7 awXs = (bytesV awL, 0) := by
  unfold newR toldR
  rw [if_neg (by decide), if_neg (by decide), if_neg (by decide)]
  rfl
theorem awL_bytes : ∀ x ∈ awL, 0 ≤ x ∧ x < 256 := by decide +kernel
theorem awL_read : readF awL = some (1, 7, awXs) := by kernel_rfl
theorem awL_B : Bytes awL := ⟨awL_len, fun i => by
  unfold at_
  cases h : awL[i]? with
  | none => simp
  | some v => exact awL_bytes v (List.mem_of_getElem? h)⟩
theorem awXs_sl (w : World) : Sl (w.alloc (.cells #[.string ⟨#[97, 98]⟩, .string ⟨#[99]⟩] 9)) (some ⟨w.heap.size, 0, none⟩) 2 awXs := by
  refine ⟨rfl, fun _ => ⟨w.heap.size, 0, rfl, by simp, fun k hk => ?_⟩⟩
  have hb := Blk.new w 9 #[.string ⟨#[97, 98]⟩, .string ⟨#[99]⟩]
  rw [hb.cell]
  rcases (show k = 0 ∨ k = 1 by omega) with rfl | rfl <;> rfl
theorem awL_at : at_ awL 0 = 1 ∧ at_ awL 1 = 2 ∧ at_ awL 5 = 7 ∧ at_ awL 6 = 2 ∧ at_ awL 7 = 1 ∧ at_ awL 8 = 97 ∧ at_ awL 10 = 99 := by decide +kernel
theorem bytesV_at (l : List Int) (i : Nat) (hi : i < l.length) : (bytesV l)[i]? = some (.int .u8 (at_ l i)) := by
  unfold bytesV at_
  simp [hi]
theorem aw_ex : ∃ L : List Int, newR 1 7 awXs = (bytesV L, 0) ∧ Bytes L ∧ cellF (readF L) 2 = (ByteArray.empty, 4) ∧ roomF (readF L) = 245 ∧
    at_ L 0 = 1 ∧ at_ L 1 = 2 ∧ at_ L 5 = 7 ∧ at_ L 6 = 2 ∧ at_ L 7 = 1 ∧ at_ L 8 = 97 ∧ at_ L 10 = 99 :=
  ⟨awL, awL_new, awL_B, by rw [awL_read]; rfl, by rw [awL_read]; decide, awL_at⟩
/-- what the walk asks of a page in a block -/
theorem page_facts {w : World} {g : Nat} {t : TypeId} {L : List Int} (h : Blk w g t (bytesV L)) (hB : L.length = 256) : w.there g 0 256 ∧ readRow w g 0 256 = bytesV L :=
  ⟨h.thereAll 256 (by rw [bytesV_size, hB]), h.readAll 256 (by rw [bytesV_size, hB])⟩
theorem page_at {w : World} {g : Nat} {t : TypeId} {L : List Int} (h : Blk w g t (bytesV L)) (hB : L.length = 256) {i : Nat} {v : Int} (hi : i < 256) (hv : at_ L i = v) : w.cell? ⟨g, i, none⟩ = some (.int .u8 v) := by
  rw [h.cell, bytesV_at L i (by omega), hv]
set_option maxRecDepth 100000 in
set_option maxHeartbeats 1600000 in
theorem awake_ok (w : World) : Calls Try.prog 8 #[] w fun e w' => e = .returned (.bool true) ∧ Kp NoB w w' := by
  obtain ⟨L, l1, l2, l3, l4, a0, a1, a5, a6, a7, a8, a10⟩ := aw_ex
  have L1 := Lib.hid l1
  have L2 := Lib.hid l2
  have L3 := Lib.hid l3
  have L4 := Lib.hid l4
  have A := Lib.hid (show _ ∧ _ ∧ _ ∧ _ ∧ _ ∧ _ ∧ _ from ⟨a0, a1, a5, a6, a7, a8, a10⟩)
  have hon := bytesV_one L
  have hsz : (bytesV L).size = 256 := (by rw [bytesV_size, L2.out.len])
  clear l1 l2 l3 l4 a0 a1 a5 a6 a7 a8 a10
  go_enter Try.func8, Try.ntmps8
  go_wp2_with (first
    | (go_at_call 9; go_must (refine (new_ok _ 1 7 _ 2 2 awXs (by omega) (by decide) (awXs_sl _)).mono ?_); rintro e w2 hq; rw [L1.out] at hq; obtain ⟨rfl, hk2⟩ := hq; have HK2 := Lib.hid hk2; clear hk2; have hb := Blk.new w2 26 zero256; have th := hb.thereAll 256 zero256_size; have hb3 := hb.whole (bytesV L) (by rw [zero256_size, bytesV_size, L2.out.len]); have HB3 := Lib.hid hb3; obtain ⟨th3, rd3⟩ := page_facts hb3 L2.out.len; clear hb hb3)
    | (go_at_call 18; go_must (refine (Cell_ok _ L L2.out 2).mono ?_); rw [L3.out]; rintro e w3 ⟨rfl, hk3⟩; have HK3 := Lib.hid hk3; have hb4 := HB3.out.keep hk3 (fun q => q); have HB4 := Lib.hid hb4; obtain ⟨th4, rd4⟩ := page_facts hb4 L2.out.len; have q0 := page_at hb4 L2.out.len (by omega) A.out.1; have q1 := page_at hb4 L2.out.len (by omega) A.out.2.1; have q5 := page_at hb4 L2.out.len (by omega) A.out.2.2.1; have q6 := page_at hb4 L2.out.len (by omega) A.out.2.2.2.1; have q7 := page_at hb4 L2.out.len (by omega) A.out.2.2.2.2.1; have q8 := page_at hb4 L2.out.len (by omega) A.out.2.2.2.2.2.1; have q10 := page_at hb4 L2.out.len (by omega) A.out.2.2.2.2.2.2; clear hk3 hb4)
    | (go_at_call 17; go_must (refine (Room_ok _ L L2.out).mono ?_); rw [L4.out]; rintro e w4 ⟨rfl, hk4⟩; have HK4 := Lib.hid hk4; clear hk4))
  go_ret
  exact ⟨rfl, (((((Kp.refl NoB w).alloc _).trans HK2.out (fun _ _ q => q)).trans (Kp.setCells (S := NoB) (.inl (Nat.le_refl _)) _ _ _ ((Kp.refl NoB w2).alloc _)) (fun _ _ q => q)).trans HK3.out (fun _ _ q => q)).trans HK4.out (fun _ _ q => q)⟩
end Go.Proofs.Ytnleoeogcinadaa
