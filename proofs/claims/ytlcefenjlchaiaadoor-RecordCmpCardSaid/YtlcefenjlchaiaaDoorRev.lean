/- slices.Reverse of bytes that the call owns; no condition. -/
import Derived.Test.YtlcefenjlchaiaaDoorBy
import Derived.RegionTactic
import Derived.ChangeAlike
namespace Go.Proofs.YtlcefenjlchaiaaDoor
open Go.RowKit

/-- a list, the first i and the last i exchanged -/
def rvL (xs : List Int) (i : Nat) : List Int := (List.range xs.length).map fun q => if q < i ∨ xs.length ≤ q + i then xs.getD (xs.length - 1 - q) 0 else xs.getD q 0
theorem rvL_len (xs : List Int) (i : Nat) : (rvL xs i).length = xs.length := by simp [rvL]
theorem rvL_get (xs : List Int) (i q : Nat) (hq : q < xs.length) : (rvL xs i)[q]? = some (if q < i ∨ xs.length ≤ q + i then xs.getD (xs.length - 1 - q) 0 else xs.getD q 0) := by
  simp [rvL, hq]
theorem rvL_zero (xs : List Int) : rvL xs 0 = xs := by
  apply List.ext_getElem?
  intro q
  rcases Nat.lt_or_ge q xs.length with h | h
  · rw [rvL_get xs 0 q h, if_neg (by omega)]
    simp [h]
  · rw [List.getElem?_eq_none (by rw [rvL_len]; exact h), List.getElem?_eq_none h]
theorem rvL_end (xs : List Int) (i : Nat) (h2 : xs.length ≤ 2 * i + 1) (h1 : 2 * i ≤ xs.length) : rvL xs i = xs.reverse := by
  apply List.ext_getElem?
  intro q
  rcases Nat.lt_or_ge q xs.length with h | h
  · rw [rvL_get xs i q h, List.getElem?_reverse h]
    by_cases hc : q < i ∨ xs.length ≤ q + i
    · rw [if_pos hc]
      simp [show xs.length - 1 - q < xs.length by omega]
    · rw [if_neg hc]
      have : xs.length - 1 - q = q := by omega
      rw [this]
      simp [h]
  · rw [List.getElem?_eq_none (by rw [rvL_len]; exact h), List.getElem?_eq_none (by simpa using h)]
theorem rvL_step (xs : List Int) (i : Nat) (h : 2 * i + 1 < xs.length) : ((rvL xs i).set i (xs.getD (xs.length - 1 - i) 0)).set (xs.length - 1 - i) (xs.getD i 0) = rvL xs (i + 1) := by
  apply List.ext_getElem?
  intro q
  rcases Nat.lt_or_ge q xs.length with hq | hq
  · rw [rvL_get xs (i + 1) q hq, List.getElem?_set, List.getElem?_set, List.length_set, rvL_len]
    by_cases e1 : xs.length - 1 - i = q
    · subst e1
      rw [if_pos rfl, if_pos (by omega), if_pos (by omega)]
      congr 2
      omega
    · rw [if_neg e1]
      by_cases e2 : i = q
      · subst e2
        rw [if_pos rfl, if_pos (by omega), if_pos (by omega)]
      · rw [if_neg e2, rvL_get xs i q hq]
        by_cases hc : q < i ∨ xs.length ≤ q + i
        · rw [if_pos hc, if_pos (by omega)]
        · rw [if_neg hc, if_neg (by omega)]
  · rw [List.getElem?_eq_none (by simp [rvL_len]; omega), List.getElem?_eq_none (by simp [rvL_len]; omega)]

theorem bytes_get (l : List Int) (ds : List Value) (q : Nat) (hq : q < l.length) : ((l.map (Value.int .u8)) ++ ds).toArray[q]? = some (.int .u8 (l.getD q 0)) := by
  rw [List.getElem?_toArray, List.getElem?_append_left (by simpa using hq), List.getElem?_map]
  simp [hq]
theorem bytes_set (l : List Int) (ds : List Value) (q : Nat) (hq : q < l.length) (v : Int) : ((l.map (Value.int .u8)) ++ ds).toArray.setIfInBounds q (.int .u8 v) = (((l.set q v).map (Value.int .u8)) ++ ds).toArray := by
  rw [List.setIfInBounds_toArray, List.set_append_left _ _ (by simpa using hq), List.map_set]
set_option maxHeartbeats 1000000 in
theorem rev_ok (w : World) (g cap n : Nat) (t : TypeId) (xs : List Int) (ds : List Value) (hn : xs.length = n) (hm : n ≤ 9223372036854775807) (hb : Blk w g t (xs.map (Value.int .u8) ++ ds).toArray) :
    Calls Tryd.prog 22 #[.slice (some ⟨g, 0, none⟩) n cap] w fun e w' => e = .returned (.tuple #[]) ∧ Kp (OnB g) w w' ∧ Blk w' g t (xs.reverse.map (Value.int .u8) ++ ds).toArray := by
  have HN := Lib.hid hn
  have HB := Lib.hid hb
  clear hn hb
  go_enter Tryd.func22, Tryd.ntmps22
  go_wp2_with fail
  go_loopw [2, 3] (fun i j wr => ∃ k : Nat, 2 * k ≤ n + 1 ∧ i = .int .i64 k ∧ j = .int .i64 ((n : Int) - 1 - k) ∧ (2 * k ≤ n ∨ n = 0) ∧ Kp (OnB g) w wr ∧ Blk wr g t ((rvL xs k).map (Value.int .u8) ++ ds).toArray) (fun i _ _ => n - (intOf i).toNat)
  case atStart => exact ⟨0, by omega, rfl, by congr 1; omega, by omega, Kp.refl _ _, by rw [rvL_zero]; exact HB.out⟩
  case round =>
    obtain ⟨k, hk, rfl, rfl, hk2, hkp, hbk⟩ := hrel
    have HK := Lib.hid hkp
    have HBK := Lib.hid hbk
    clear hkp hbk
    by_cases hlt : 2 * k + 1 < n
    · obtain ⟨m, hm2⟩ : ∃ m : Nat, m = n - 1 - k := ⟨_, rfl⟩
      have hmk : ((n : Int) - 1 - k) = (m : Int) := by omega
      have hkm : k < m := by omega
      have hne : ¬ k = m := by omega
      have hne2 : ¬ m = k := by omega
      have hmn : m < n := by omega
      have hkn : k < n := by omega
      have hck : wr.cell? ⟨g, k, none⟩ = some (.int .u8 (xs.getD k 0)) := by
        rw [HBK.out.cell, bytes_get _ _ _ (by rw [rvL_len, HN.out]; omega)]
        rw [List.getD_eq_getElem?_getD, rvL_get xs k k (by rw [HN.out]; omega), if_neg (by rw [HN.out]; omega)]
        rfl
      have hcm : wr.cell? ⟨g, m, none⟩ = some (.int .u8 (xs.getD m 0)) := by
        rw [HBK.out.cell, bytes_get _ _ _ (by rw [rvL_len, HN.out]; omega)]
        rw [List.getD_eq_getElem?_getD, rvL_get xs k m (by rw [HN.out]; omega), if_neg (by rw [HN.out]; omega)]
        rfl
      have zk := HBK.out.frozen k
      have zm := HBK.out.frozen m
      have HM := Lib.hid hm2
      rw [hmk]
      obtain ⟨vk, hvk⟩ : ∃ v, xs.getD k 0 = v := ⟨_, rfl⟩
      obtain ⟨vm, hvm⟩ : ∃ v, xs.getD m 0 = v := ⟨_, rfl⟩
      rw [hvk] at hck
      rw [hvm] at hcm
      have HV := Lib.hid (show _ ∧ _ from ⟨hvk, hvm⟩)
      clear hm2 hmk hvk hvm
      go_wp2_with fail
      go_region
      all_goals (go_wp2_with fail)
      have B2 := (HBK.out.set_ k (.int .u8 vm)).set_ m (.int .u8 vk)
      rw [bytes_set _ _ _ (by rw [rvL_len, HN.out]; omega), bytes_set _ _ _ (by rw [List.length_set, rvL_len, HN.out]; omega), ← HV.out.1, ← HV.out.2, HM.out, ← HN.out, rvL_step xs k (by rw [HN.out]; omega)] at B2
      have hmm := HM.out
      refine ⟨⟨k + 1, by omega, by congr 1, by congr 1; omega, by omega, ?_, ?_⟩, by simp [intOf]; omega⟩
      · exact ((HK.out.setCell (p := ⟨g, k, none⟩) (.inr rfl) _).setCell (p := ⟨g, m, none⟩) (.inr rfl) _).drew
      · rw [← HV.out.1, ← HV.out.2, HM.out, ← HN.out]
        exact B2.drew
    · go_wp2_with fail
      go_end0
      refine ⟨rfl, HK.out, ?_⟩
      · rw [← rvL_end xs k (by rw [HN.out]; omega) (by rw [HN.out]; omega)]; exact HBK.out
end Go.Proofs.YtlcefenjlchaiaaDoor
