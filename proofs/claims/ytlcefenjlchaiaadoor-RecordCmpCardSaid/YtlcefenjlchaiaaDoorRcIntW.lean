/- The program's and the reference's bytes of an integer; no condition. -/
import Derived.Test.YtlcefenjlchaiaaDoorRcInt
namespace Go.Proofs.YtlcefenjlchaiaaDoor
open Go.RowKit
attribute [local go_sem ↓] conv64

theorem byL_len : ∀ (n : Nat) (x : Int), (byL n x).length = n
  | 0, _ => rfl
  | n + 1, x => by simp [byL, byL_len n]
set_option maxRecDepth 100000 in
set_option maxHeartbeats 1600000 in
theorem integer_ok (w : World) (x0 : Int) (h1 : -9223372036854775808 ≤ x0) (h2 : x0 ≤ 9223372036854775807) : Calls Tryd.prog 32 #[.int .i64 x0] w fun e w' => e = .returned (.string (intB x0)) ∧ Kp NoB w w' := by
  obtain ⟨i0, hi0, hz0, hz1, hz2⟩ := info_parts infoB
  have HI0 := Lib.hid hi0
  have HZ0 := Lib.hid hz0
  have HZ1 := Lib.hid hz1
  have HZ2 := Lib.hid hz2
  clear hi0 hz0 hz1 hz2
  have HPL := Lib.hid (itl_len 8 x0)
  have H8 := Lib.hid (fit_8 x0 h1 h2)
  go_enter Tryd.func32, Tryd.ntmps32
  go_wp2_with fail
  go_loopw [0, 3, 4] (fun s b _ wr => ∃ (x : Int) (n f : Nat) (l : List Int), s = .int .i64 x ∧ PutS w b n l wr ∧ l ++ itl (f + 1) x = itl 8 x0 ∧ fitN (f + 1) x ∧ -9223372036854775808 ≤ x ∧ x ≤ 9223372036854775807) (fun s _ _ _ => (intOf s).natAbs)
  case atStart => exact ⟨x0, 0, 7, [], rfl, PutS.nil w, rfl, H8.out, h1, h2⟩
  case round =>
    obtain ⟨x, n, f, l, rfl, hS, hl, hf, hx1, hx2⟩ := hrel
    have HSk := Lib.hid hS
    have HL := Lib.hid hl
    have HF := Lib.hid hf
    have hblk := hS.kp.size
    have hln : l.length = n := by have := hS.own.1; simpa using this
    have hn8 : n ≤ 8 := by
      have h1 := congrArg List.length hl
      rw [List.length_append] at h1
      have := HPL.out
      omega
    have HLN := Lib.hid hln
    clear hS hl hln hf
    by_cases hq : x / 128 = 0 ∨ x / 128 = -1
    · have HLL := Lib.hid (show l ++ [x % 256] = itl 8 x0 by rw [← HL.out]; unfold itl; rw [if_pos hq])
      rcases hq with hq | hq
      · have hb : (x / 128 == 0) = true := by rw [beq_iff_eq]; exact hq
        clear hq
        go_wp2_with (first
          | (at_builtin; refine wpList_append_own _ rfl _ _ 55 rfl w.heap.size 5 i0 _ 1 1 Tryd.underlying55 HI0.out HZ0.out HZ1.out HZ2.out rfl (by omega) _ n (l.map (Value.int .u8)) rfl (HSk.out.al _) ⟨wr.heap.size, 0, none⟩ 1 1 [_] rfl rfl (cell_one_new _ _ _) (by simp [Value.oneCell']) (by unfold maxLen; omega) (by omega) (by simp; omega) ?_; intro v1 w1 hown1 hgrow1 _; obtain ⟨A1, cap1, rfl⟩ := own_slice hown1; have hS1 := HSk.out.step hgrow1 hown1 rfl; obtain ⟨g, ds, rfl, hg, hB⟩ := own_Blk hS1.own (by omega); have HB := Lib.hid hB; have HS1 := Lib.hid hS1; clear hown1 hgrow1 hS1 hB)
          | (go_at_call 22; go_must (refine (rev_ok _ g cap1 _ _ (l ++ [x % 256]) ds (by simp [HLN.out]) (by omega) HB.out).mono ?_); rintro e w2 ⟨rfl, hk2, hb2⟩; have HK2 := Lib.hid hk2; have hba := byAt_pre hb2 (show _ = n + 1 by simp [HLN.out]); have hbr := byRd_pre hb2 (show _ = n + 1 by simp [HLN.out]); clear hk2 hb2))
        go_ret
        exact ⟨by unfold intB; rw [← HLL.out]; simp, HS1.out.kp.trans HK2.out (fun i hi q => by unfold OnB at q; omega)⟩
      · have hb : (x / 128 == 0) = false := by rw [beq_eq_false_iff_ne]; omega
        have hb2 : (x / 128 == -1) = true := by rw [beq_iff_eq]; exact hq
        clear hq
        go_wp2_with (first
          | (at_builtin; refine wpList_append_own _ rfl _ _ 55 rfl w.heap.size 5 i0 _ 1 1 Tryd.underlying55 HI0.out HZ0.out HZ1.out HZ2.out rfl (by omega) _ n (l.map (Value.int .u8)) rfl (HSk.out.al _) ⟨wr.heap.size, 0, none⟩ 1 1 [_] rfl rfl (cell_one_new _ _ _) (by simp [Value.oneCell']) (by unfold maxLen; omega) (by omega) (by simp; omega) ?_; intro v1 w1 hown1 hgrow1 _; obtain ⟨A1, cap1, rfl⟩ := own_slice hown1; have hS1 := HSk.out.step hgrow1 hown1 rfl; obtain ⟨g, ds, rfl, hg, hB⟩ := own_Blk hS1.own (by omega); have HB := Lib.hid hB; have HS1 := Lib.hid hS1; clear hown1 hgrow1 hS1 hB)
          | (go_at_call 22; go_must (refine (rev_ok _ g cap1 _ _ (l ++ [x % 256]) ds (by simp [HLN.out]) (by omega) HB.out).mono ?_); rintro e w2 ⟨rfl, hk2, hb2⟩; have HK2 := Lib.hid hk2; have hba := byAt_pre hb2 (show _ = n + 1 by simp [HLN.out]); have hbr := byRd_pre hb2 (show _ = n + 1 by simp [HLN.out]); clear hk2 hb2))
        go_ret
        exact ⟨by unfold intB; rw [← HLL.out]; simp, HS1.out.kp.trans HK2.out (fun i hi q => by unfold OnB at q; omega)⟩
    · have hb : (x / 128 == 0) = false := by rw [beq_eq_false_iff_ne]; omega
      have hb2 : (x / 128 == -1) = false := by rw [beq_eq_false_iff_ne]; omega
      obtain ⟨f', rfl⟩ : ∃ f', f = f' + 1 := by
        cases f with
        | zero => exact absurd ((fit_one x).1 HF.out) hq
        | succ f' => exact ⟨f', rfl⟩
      have HLL := Lib.hid (show (l ++ [x % 256]) ++ itl (f' + 1) (x / 256) = itl 8 x0 by rw [← HL.out]; rw [List.append_assoc]; congr 1; (conv => rhs; (unfold itl; rw [if_neg hq])); rfl)
      have HF2 := Lib.hid ((fit_step (f' + 1) x (by omega)).2 HF.out)
      have hab : (x / 256).natAbs < x.natAbs := by omega
      have HAB := Lib.hid hab
      clear hq hab
      go_wp2_with (at_builtin; refine wpList_append_own _ rfl _ _ 55 rfl w.heap.size 5 i0 _ 1 1 Tryd.underlying55 HI0.out HZ0.out HZ1.out HZ2.out rfl (by omega) _ n (l.map (Value.int .u8)) rfl (HSk.out.al _) ⟨wr.heap.size, 0, none⟩ 1 1 [_] rfl rfl (cell_one_new _ _ _) (by simp [Value.oneCell']) (by unfold maxLen; omega) (by omega) (by simp; omega) ?_; intro v1 w1 hown1 hgrow1 _; have HS1 := Lib.hid (HSk.out.step hgrow1 hown1 rfl); clear hown1 hgrow1)
      exact ⟨⟨x / 256, n + 1, f', _, rfl, HS1.out, HLL.out, HF2.out, by omega, by omega⟩, HAB.out⟩

end Go.Proofs.YtlcefenjlchaiaaDoor
