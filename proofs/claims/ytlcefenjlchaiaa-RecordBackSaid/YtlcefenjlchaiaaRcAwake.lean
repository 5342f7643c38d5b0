/- The answers that awake asks for, and RecordVarint; no condition. -/
import Derived.Test.YtlcefenjlchaiaaRcDec
namespace Go.Proofs.Ytlcefenjlchaiaa
open Go.RowKit

def awVs : List RV := [⟨0, 0, ⟨#[]⟩⟩, ⟨1, 1, ⟨#[]⟩⟩, ⟨1, -2, ⟨#[]⟩⟩, ⟨1, 300, ⟨#[]⟩⟩, ⟨2, 0, ⟨#[97, 98]⟩⟩]
theorem aw_enc : encF awVs = (⟨#[5, 0, 10, 1, 2, 17, 254, 1, 44, 97, 98]⟩, 0) := by kernel_rfl
theorem aw_dec : decF ⟨#[1, 1, 0]⟩ = none := by kernel_rfl
theorem aw_put : putV 128 = ⟨#[129, 0]⟩ := by kernel_rfl
theorem aw_ok : ∀ v ∈ awVs, v.ok := by
  intro v hv
  simp only [awVs, List.mem_cons, List.not_mem_nil, or_false] at hv
  rcases hv with rfl | rfl | rfl | rfl | rfl <;> exact okk _ _ _ (by decide) (by decide) (by decide) (by decide) (by decide)
theorem rw_new (w : World) (vs : List RV) (t : TypeId) (hok : ∀ v ∈ vs, v.ok) : Rw (w.alloc (.cells (rvCells vs).toArray t)) (some ⟨w.heap.size, 0, none⟩) vs.length vs := by
  refine ⟨rfl, hok, fun _ => ⟨w.heap.size, 0, rfl, by simp, fun j hj => ?_⟩⟩
  have hb := Blk.new w t (rvCells vs).toArray
  have hg := rvCells_get vs [] j hj
  rw [List.append_nil] at hg
  rw [hb.cell, hb.cell, hb.cell]
  simp only [List.getElem?_toArray, Nat.zero_add]
  exact hg
set_option maxRecDepth 100000 in
set_option maxHeartbeats 1600000 in
theorem awake_ok (w : World) : Calls Try.prog 11 #[] w fun e w' => e = .returned (.bool true) ∧ Kp NoB w w' := by
  go_enter Try.func11, Try.ntmps11
  go_wp2_with (first
    | (go_at_call 13; go_must (refine (enc_ok _ _ 5 5 awVs (by omega) (rw_new w awVs _ aw_ok)).mono ?_); rw [aw_enc]; rintro en w2 ⟨rfl, hk2⟩; have HK2 := Lib.hid hk2; clear hk2)
    | (go_at_call 16; go_must (refine (dec_ok _ _ (by decide)).mono ?_); rw [aw_dec]; rintro en w3 ⟨hk3, rfl⟩; have HK3 := Lib.hid hk3; clear hk3)
    | (go_at_call 9; go_must (refine (put_ok _ 128 (by omega)).mono ?_); rw [aw_put]; rintro en w4 ⟨rfl, hk4⟩; have HK4 := Lib.hid hk4; clear hk4))
  go_ret
  exact ⟨rfl, ((((Kp.refl NoB w).alloc _).trans HK2.out (fun _ _ q => q)).trans HK3.out (fun _ _ q => q)).trans HK4.out (fun _ _ q => q)⟩
set_option maxRecDepth 100000 in
set_option maxHeartbeats 1600000 in
theorem recordVarint_ok (w : World) (u : Int) (hu : 0 ≤ u ∧ u ≤ 18446744073709551615) (s : ByteArray) (hs : s.size ≤ 9223372036854775807) :
    Calls Try.prog 3 #[.int .u64 u, .string s] w fun e w' => e = .returned (.bool true) ∧ Kp NoB w w' := by
  obtain ⟨u, rfl⟩ := Int.eq_ofNat_of_zero_le hu.1
  have hu2 : u < 18446744073709551616 := by omega
  obtain ⟨p, hp⟩ : ∃ p, putV u = p := ⟨_, rfl⟩
  have HP := Lib.hid hp
  clear hp
  cases hv : varF s with
  | none =>
    have H1 := Lib.hid (show rvarR (varF s) = .tuple #[.int .u64 0, .int .i64 0] by rw [hv]; rfl)
    have H2 := Lib.hid (show varR (varF s) = .tuple #[.int .u64 0, .int .i64 0, .int .i64 8] by rw [hv]; rfl)
    clear hv
    go_enter Try.func3, Try.ntmps3
    go_wp2_with (first
      | (go_at_call 7; go_must (refine (varint_ok _ s hs).mono ?_); rw [H2.out]; rintro en w2 ⟨rfl, hk2⟩; have HK2 := Lib.hid hk2; clear hk2)
      | (go_at_call 8; go_must (refine (rvarint_ok _ s hs).mono ?_); rw [H1.out]; rintro en w3 ⟨rfl, hk3⟩; have HK3 := Lib.hid (HK2.out.trans hk3 (fun _ _ q => q)); clear hk3)
      | (go_at_call 9; go_must (refine (put_ok _ u hu2).mono ?_); rw [HP.out]; rintro en w4 ⟨rfl, hk4⟩; have HK4 := Lib.hid (HK3.out.trans hk4 (fun _ _ q => q)); clear hk4)
      | (go_at_call 10; go_must (refine (rput_ok _ u hu2).mono ?_); rw [HP.out]; rintro en w5 ⟨rfl, hk5⟩; have HK5 := Lib.hid (HK4.out.trans hk5 (fun _ _ q => q)); clear hk5)
      | (go_at_call 11; go_must (refine (awake_ok _).mono ?_); rintro en w6 ⟨rfl, hk6⟩; have HK6 := Lib.hid (HK5.out.trans hk6 (fun _ _ q => q)); clear hk6))
    go_ret
    exact ⟨rfl, HK6.out⟩
  | some q =>
    obtain ⟨x, n⟩ := q
    have hf := varF_facts s x n hv
    have hn0 : ((n : Int) == 0) = false := by rw [beq_eq_false_iff_ne]; omega
    have H1 := Lib.hid (show rvarR (varF s) = .tuple #[.int .u64 x, .int .i64 n] by rw [hv]; rfl)
    have H2 := Lib.hid (show varR (varF s) = .tuple #[.int .u64 x, .int .i64 n, .int .i64 0] by rw [hv]; rfl)
    clear hv hf
    go_enter Try.func3, Try.ntmps3
    go_wp2_with (first
      | (go_at_call 7; go_must (refine (varint_ok _ s hs).mono ?_); rw [H2.out]; rintro en w2 ⟨rfl, hk2⟩; have HK2 := Lib.hid hk2; clear hk2)
      | (go_at_call 8; go_must (refine (rvarint_ok _ s hs).mono ?_); rw [H1.out]; rintro en w3 ⟨rfl, hk3⟩; have HK3 := Lib.hid (HK2.out.trans hk3 (fun _ _ q => q)); clear hk3)
      | (go_at_call 9; go_must (refine (put_ok _ u hu2).mono ?_); rw [HP.out]; rintro en w4 ⟨rfl, hk4⟩; have HK4 := Lib.hid (HK3.out.trans hk4 (fun _ _ q => q)); clear hk4)
      | (go_at_call 10; go_must (refine (rput_ok _ u hu2).mono ?_); rw [HP.out]; rintro en w5 ⟨rfl, hk5⟩; have HK5 := Lib.hid (HK4.out.trans hk5 (fun _ _ q => q)); clear hk5)
      | (go_at_call 11; go_must (refine (awake_ok _).mono ?_); rintro en w6 ⟨rfl, hk6⟩; have HK6 := Lib.hid (HK5.out.trans hk6 (fun _ _ q => q)); clear hk6))
    go_ret
    exact ⟨rfl, HK6.out⟩
end Go.Proofs.Ytlcefenjlchaiaa
