/- The program's and the reference's bytes of an integer; no condition. -/
import Derived.Test.YtlcefenjlchaiaaRcInt
namespace Go.Proofs.Ytlcefenjlchaiaa
open Go.RowKit
attribute [local go_sem ↓] conv64

theorem byL_len : ∀ (n : Nat) (x : Int), (byL n x).length = n
  | 0, _ => rfl
  | n + 1, x => by simp [byL, byL_len n]
set_option maxRecDepth 100000 in
set_option maxHeartbeats 1600000 in
theorem integer_ok (w : World) (x0 : Int) (h1 : -9223372036854775808 ≤ x0) (h2 : x0 ≤ 9223372036854775807) : Calls Try.prog 31 #[.int .i64 x0] w fun e w' => e = .returned (.string (intB x0)) ∧ Kp NoB w w' := by
  obtain ⟨i0, hi0, hz0, hz1, hz2⟩ := info_parts infoB
  have HI0 := Lib.hid hi0
  have HZ0 := Lib.hid hz0
  have HZ1 := Lib.hid hz1
  have HZ2 := Lib.hid hz2
  clear hi0 hz0 hz1 hz2
  have HPL := Lib.hid (itl_len 8 x0)
  have H8 := Lib.hid (fit_8 x0 h1 h2)
  go_enter Try.func31, Try.ntmps31
  go_wp2_with fail
  go_loopw [0, 3, 4] (fun s b _ wr => ∃ (x : Int) (n f : Nat) (l : List Int), s = .int .i64 x ∧ PutS w b n l wr ∧ l ++ itl (f + 1) x = itl 8 x0 ∧ fitN (f + 1) x ∧ -9223372036854775808 ≤ x ∧ x ≤ 9223372036854775807) (fun s _ _ _ => (intOf s).natAbs)
  case atStart => exact ⟨x0, 0, 7, [], rfl, PutS.nil w, rfl, H8.out, h1, h2⟩
  case round =>
    obtain ⟨x, n, f, l, rfl, hS, hl, hf, hx1, hx2⟩ := hrel
    have HSk := Lib.hid hS
    have HL := Lib.hid hl
    have HF := Lib.hid hf
    have hblk := hS.kp.size
    have hln : l.length = n := by have := hS.own.1; simpa using this
    have hn8 : n ≤ 8 := by
      have h1 := congrArg List.length hl
      rw [List.length_append] at h1
      have := HPL.out
      omega
    have HLN := Lib.hid hln
    clear hS hl hln hf
    by_cases hq : x / 128 = 0 ∨ x / 128 = -1
    · have HLL := Lib.hid (show l ++ [x % 256] = itl 8 x0 by rw [← HL.out]; unfold itl; rw [if_pos hq])
      rcases hq with hq | hq
      · have hb : (x / 128 == 0) = true := by rw [beq_iff_eq]; exact hq
        clear hq
        go_wp2_with (first
          | (at_builtin; refine wpList_append_own _ rfl _ _ 43 rfl w.heap.size 5 i0 _ 1 1 Try.underlying43 HI0.out HZ0.out HZ1.out HZ2.out rfl (by omega) _ n (l.map (Value.int .u8)) rfl (HSk.out.al _) ⟨wr.heap.size, 0, none⟩ 1 1 [_] rfl rfl (cell_one_new _ _ _) (by simp [Value.oneCell']) (by unfold maxLen; omega) (by omega) (by simp; omega) ?_; intro v1 w1 hown1 hgrow1 _; obtain ⟨A1, cap1, rfl⟩ := own_slice hown1; have hS1 := HSk.out.step hgrow1 hown1 rfl; obtain ⟨g, ds, rfl, hg, hB⟩ := own_Blk hS1.own (by omega); have HB := Lib.hid hB; have HS1 := Lib.hid hS1; clear hown1 hgrow1 hS1 hB)
          | (go_at_call 21; go_must (refine (rev_ok _ g cap1 _ _ (l ++ [x % 256]) ds (by simp [HLN.out]) (by omega) HB.out).mono ?_); rintro e w2 ⟨rfl, hk2, hb2⟩; have HK2 := Lib.hid hk2; have hba := byAt_pre hb2 (show _ = n + 1 by simp [HLN.out]); have hbr := byRd_pre hb2 (show _ = n + 1 by simp [HLN.out]); clear hk2 hb2))
        go_ret
        exact ⟨by unfold intB; rw [← HLL.out]; simp, HS1.out.kp.trans HK2.out (fun i hi q => by unfold OnB at q; omega)⟩
      · have hb : (x / 128 == 0) = false := by rw [beq_eq_false_iff_ne]; omega
        have hb2 : (x / 128 == -1) = true := by rw [beq_iff_eq]; exact hq
        clear hq
        go_wp2_with (first
          | (at_builtin; refine wpList_append_own _ rfl _ _ 43 rfl w.heap.size 5 i0 _ 1 1 Try.underlying43 HI0.out HZ0.out HZ1.out HZ2.out rfl (by omega) _ n (l.map (Value.int .u8)) rfl (HSk.out.al _) ⟨wr.heap.size, 0, none⟩ 1 1 [_] rfl rfl (cell_one_new _ _ _) (by simp [Value.oneCell']) (by unfold maxLen; omega) (by omega) (by simp; omega) ?_; intro v1 w1 hown1 hgrow1 _; obtain ⟨A1, cap1, rfl⟩ := own_slice hown1; have hS1 := HSk.out.step hgrow1 hown1 rfl; obtain ⟨g, ds, rfl, hg, hB⟩ := own_Blk hS1.own (by omega); have HB := Lib.hid hB; have HS1 := Lib.hid hS1; clear hown1 hgrow1 hS1 hB)
          | (go_at_call 21; go_must (refine (rev_ok _ g cap1 _ _ (l ++ [x % 256]) ds (by simp [HLN.out]) (by omega) HB.out).mono ?_); rintro e w2 ⟨rfl, hk2, hb2⟩; have HK2 := Lib.hid hk2; have hba := byAt_pre hb2 (show _ = n + 1 by simp [HLN.out]); have hbr := byRd_pre hb2 (show _ = n + 1 by simp [HLN.out]); clear hk2 hb2))
        go_ret
        exact ⟨by unfold intB; rw [← HLL.out]; simp, HS1.out.kp.trans HK2.out (fun i hi q => by unfold OnB at q; omega)⟩
    · have hb : (x / 128 == 0) = false := by rw [beq_eq_false_iff_ne]; omega
      have hb2 : (x / 128 == -1) = false := by rw [beq_eq_false_iff_ne]; omega
      obtain ⟨f', rfl⟩ : ∃ f', f = f' + 1 := by
        cases f with
        | zero => exact absurd ((fit_one x).1 HF.out) hq
        | succ f' => exact ⟨f', rfl⟩
      have HLL := Lib.hid (show (l ++ [x % 256]) ++ itl (f' + 1) (x / 256) = itl 8 x0 by rw [← HL.out]; rw [List.append_assoc]; congr 1; (conv => rhs; (unfold itl; rw [if_neg hq])); rfl)
      have HF2 := Lib.hid ((fit_step (f' + 1) x (by omega)).2 HF.out)
      have hab : (x / 256).natAbs < x.natAbs := by omega
      have HAB := Lib.hid hab
      clear hq hab
      go_wp2_with (at_builtin; refine wpList_append_own _ rfl _ _ 43 rfl w.heap.size 5 i0 _ 1 1 Try.underlying43 HI0.out HZ0.out HZ1.out HZ2.out rfl (by omega) _ n (l.map (Value.int .u8)) rfl (HSk.out.al _) ⟨wr.heap.size, 0, none⟩ 1 1 [_] rfl rfl (cell_one_new _ _ _) (by simp [Value.oneCell']) (by unfold maxLen; omega) (by omega) (by simp; omega) ?_; intro v1 w1 hown1 hgrow1 _; have HS1 := Lib.hid (HSk.out.step hgrow1 hown1 rfl); clear hown1 hgrow1)
      exact ⟨⟨x / 256, n + 1, f', _, rfl, HS1.out, HLL.out, HF2.out, by omega, by omega⟩, HAB.out⟩

set_option maxRecDepth 100000 in
set_option maxHeartbeats 1600000 in
theorem rbytes_ok (w : World) (x0 : Int) (n : Nat) (h1 : -9223372036854775808 ≤ x0) (h2 : x0 ≤ 9223372036854775807) (hn : n ≤ 8) : Calls Try.prog 34 #[.int .i64 x0, .int .i64 n] w fun e w' => e = .returned (.string (strOf (byL n x0).reverse)) ∧ Kp NoB w w' := by
  have HPL := Lib.hid (byL_len n x0)
  go_enter Try.func34, Try.ntmps34
  go_wp2_with fail
  go_loopw [0, 5, 6] (fun s b i wr => ∃ (x : Int) (k : Nat) (l : List Int), k ≤ n ∧ i = .int .i64 k ∧ s = .int .i64 x ∧ b = .string (strOf l.reverse) ∧ Kp NoB w wr ∧ l ++ byL (n - k) x = byL n x0 ∧ -9223372036854775808 ≤ x ∧ x ≤ 9223372036854775807) (fun _ _ i _ => n - (intOf i).toNat)
  case atStart => exact ⟨x0, 0, [], by omega, rfl, rfl, by simp [strOf], Kp.refl _ _, rfl, h1, h2⟩
  case round =>
    obtain ⟨x, k, l, hk, rfl, rfl, rfl, hkp, hl, hx1, hx2⟩ := hrel
    have HK := Lib.hid hkp
    have HL := Lib.hid hl
    clear hkp hl
    by_cases hlt : k < n
    · have hcat : (strOf [x % 256]).size + (strOf l.reverse).size ≤ 9223372036854775807 := by
        have h1 := congrArg List.length HL.out
        rw [List.length_append, byL_len, byL_len] at h1
        rw [strOf_size, strOf_size, List.length_reverse]
        simp
        omega
      obtain ⟨b3, b4⟩ := new_by wr 5 (x % 256)
      go_wp2_with fail
      exact ⟨⟨x / 256, k + 1, l ++ [x % 256], by omega, by congr 1, rfl, by rw [strOf_cons]; simp, HK.out.alloc _, by rw [← HL.out, show n - k = (n - (k + 1)) + 1 by omega]; simp [byL], by omega, by omega⟩, by simp [intOf]; omega⟩
    · obtain rfl : k = n := by omega
      have HLL := Lib.hid (show l = byL k x0 by rw [← HL.out]; simp [byL])
      go_wp2_with fail
      go_ret
      exact ⟨by rw [HLL.out]; rfl, HK.out⟩
set_option maxRecDepth 100000 in
set_option maxHeartbeats 1600000 in
theorem rBytes_ok (w : World) (x0 : Int) (h1 : -9223372036854775808 ≤ x0) (h2 : x0 ≤ 9223372036854775807) : Calls Try.prog 32 #[.int .i64 x0] w fun e w' => e = .returned (.string (intB x0)) ∧ Kp NoB w w' := by
  go_enter Try.func32, Try.ntmps32
  go_wp2_with fail
  go_loopw [3, 4] (fun i _ wr => ∃ k : Nat, 1 ≤ k ∧ k ≤ 8 ∧ i = .int .i64 k ∧ wr = w ∧ ∀ m, 1 ≤ m → m < k → ¬ fitN m x0) (fun i _ _ => 8 - (intOf i).toNat)
  case atStart => exact ⟨1, by omega, by omega, rfl, rfl, fun m _ _ => by omega⟩
  case round =>
    obtain ⟨k, hk1, hk8, rfl, rfl, hm⟩ := hrel
    have HM := Lib.hid hm
    clear hm
    by_cases hlt : k < 8
    · by_cases hc : fitN k x0
      · have HB := Lib.hid (itl_by k 8 x0 hk1 hk8 hc HM.out)
        rcases hc with hc | hc
        · have b0 : (x0 / 2 ^ (8 * k - 1) == 0) = true := by rw [beq_iff_eq]; exact hc
          clear hc
          go_wp2_with (go_at_call 34; go_must (refine (rbytes_ok _ x0 k h1 h2 (by omega)).mono ?_); rintro e w2 ⟨rfl, hk2⟩; have HK2 := Lib.hid hk2; clear hk2)
          go_ret
          exact ⟨by unfold intB; rw [HB.out]; rfl, HK2.out⟩
        · have b0 : (x0 / 2 ^ (8 * k - 1) == 0) = false := by rw [beq_eq_false_iff_ne]; omega
          have b1 : (x0 / 2 ^ (8 * k - 1) == -1) = true := by rw [beq_iff_eq]; exact hc
          clear hc
          go_wp2_with (go_at_call 34; go_must (refine (rbytes_ok _ x0 k h1 h2 (by omega)).mono ?_); rintro e w2 ⟨rfl, hk2⟩; have HK2 := Lib.hid hk2; clear hk2)
          go_ret
          exact ⟨by unfold intB; rw [HB.out]; rfl, HK2.out⟩
      · have b0 : (x0 / 2 ^ (8 * k - 1) == 0) = false := by rw [beq_eq_false_iff_ne]; exact fun q => hc (.inl q)
        have b1 : (x0 / 2 ^ (8 * k - 1) == -1) = false := by rw [beq_eq_false_iff_ne]; exact fun q => hc (.inr q)
        have HM2 : Hid (∀ m, 1 ≤ m → m < k + 1 → ¬ fitN m x0) := Lib.hid (fun m g1 g2 => by
          rcases Nat.lt_or_ge m k with q | q
          · exact HM.out m g1 q
          · obtain rfl : m = k := by omega
            exact hc)
        clear hc
        go_wp2_with fail
        exact ⟨⟨k + 1, by omega, by omega, by congr 1, trivial, HM2.out⟩, by simp [intOf]; omega⟩
    · obtain rfl : k = 8 := by omega
      have HB := Lib.hid (itl_by 8 8 x0 (by omega) (by omega) (fit_8 x0 h1 h2) HM.out)
      go_wp2_with (go_at_call 34; go_must (refine (rbytes_ok _ x0 8 h1 h2 (by omega)).mono ?_); rintro e w2 ⟨rfl, hk2⟩; have HK2 := Lib.hid hk2; clear hk2)
      go_ret
      exact ⟨by unfold intB; rw [HB.out]; rfl, HK2.out⟩
end Go.Proofs.Ytlcefenjlchaiaa
