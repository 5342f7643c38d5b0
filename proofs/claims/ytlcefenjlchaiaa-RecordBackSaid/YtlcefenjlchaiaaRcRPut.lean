/- The reference's PutVarint: a number in its bytes; no condition. -/
import Derived.Test.YtlcefenjlchaiaaRcPut
namespace Go.Proofs.Ytlcefenjlchaiaa
open Go.RowKit
attribute [local go_sem ↓] conv64

theorem strOf_cons (x : Int) (l : List Int) : strOf [x] ++ strOf l = strOf (x :: l) := by
  unfold strOf
  simp [ByteArray.ext_iff]
theorem new_by (w : World) (t : TypeId) (x : Int) : byAt (w.alloc (.cells #[.int .u8 x] t)) w.heap.size 0 1 ∧ byRd (w.alloc (.cells #[.int .u8 x] t)) w.heap.size 0 1 = [x] := by
  have h := (Blk.new w t (bytesV [x]))
  have h1 := h.byAt 0 1 (by simp)
  have h2 := h.byRd 0 1 (by simp)
  simp only [bytesV, List.map_cons, List.map_nil] at h1 h2
  exact ⟨h1, by simpa using h2⟩

set_option maxRecDepth 100000 in
set_option maxHeartbeats 1600000 in
theorem rput_ok (w : World) (u : Nat) (hu : u < 18446744073709551616) : Calls Try.prog 10 #[.int .u64 u] w fun e w' => e = .returned (.string (putV u)) ∧ Kp NoB w w' := by
  have HPL := Lib.hid (putL_len u)
  by_cases hb : (u : Int) < 72057594037927936
  · have HP := Lib.hid (show putL u = ((u % 128 : Nat) : Int) :: tl7 10 (u / 128) by unfold putL big56; rw [if_pos (by omega)])
    obtain ⟨b1, b2⟩ := new_by w 5 ((u : Int) % 128)
    go_enter Try.func10, Try.ntmps10
    go_wp2_with fail
    go_outline
    go_loopw [0, 3] (fun s b wr => ∃ (v f : Nat) (l : List Int), s = .int .u64 v ∧ b = .string (strOf l.reverse) ∧ Kp NoB w wr ∧ l ++ tl7 f v = putL u ∧ v < 128 ^ f ∧ v < 18446744073709551616) (fun s _ _ => (intOf s).toNat)
    case atStart => exact ⟨u / 128, 10, [((u % 128 : Nat) : Int)], by simp, by simp, (Kp.refl _ _).alloc _, by rw [HP.out]; rfl, by omega, by omega⟩
    case round =>
      obtain ⟨v, f, l, rfl, rfl, hkp, hl, hvf, hv⟩ := hrel
      have HK := Lib.hid hkp
      have HL := Lib.hid hl
      clear hkp hl
      by_cases hlt : 0 < v
      · obtain ⟨f', rfl⟩ : ∃ f', f = f' + 1 := by
          cases f with
          | zero => simp at hvf; omega
          | succ f' => exact ⟨f', rfl⟩
        have HVF := Lib.hid (show v / 128 < 128 ^ f' from Nat.div_lt_of_lt_mul (by rw [Nat.pow_succ, Nat.mul_comm] at hvf; exact hvf))
        have hcat : (strOf [(v : Int) % 128 + 128]).size + (strOf l.reverse).size ≤ 9223372036854775807 := by
          have h1 := congrArg List.length HL.out
          rw [List.length_append] at h1
          have := HPL.out.2
          rw [strOf_size, strOf_size, List.length_reverse]
          simp
          omega
        obtain ⟨b3, b4⟩ := new_by wr 5 ((v : Int) % 128 + 128)
        clear hvf
        go_wp2_with fail
        exact ⟨⟨v / 128, f', l ++ [((v % 128 + 128 : Nat) : Int)], by simp, by rw [strOf_cons]; simp, HK.out.alloc _, by rw [← HL.out]; simp [tl7, show v ≠ 0 by omega], HVF.out, by omega⟩, by simp [intOf]; omega⟩
      · obtain rfl : v = 0 := by omega
        have HLL := Lib.hid (show l = putL u by rw [← HL.out]; cases f <;> simp [tl7])
        clear hvf
        go_wp2_with fail
        go_ret
        exact ⟨by rw [HLL.out]; rfl, HK.out⟩
  · have HP := Lib.hid (show putL u = ((u % 256 : Nat) : Int) :: tl8 8 (u / 256) by unfold putL big56; rw [if_neg (by omega)])
    obtain ⟨b1, b2⟩ := new_by w 5 ((u : Int) % 256)
    go_enter Try.func10, Try.ntmps10
    go_wp2_with fail
    go_loopw [0, 4, 5] (fun s b i wr => ∃ (k v : Nat) (l : List Int), k ≤ 8 ∧ i = .int .i64 k ∧ s = .int .u64 v ∧ b = .string (strOf l.reverse) ∧ Kp NoB w wr ∧ l ++ tl8 (8 - k) v = putL u ∧ v < 18446744073709551616) (fun _ _ i _ => 8 - (intOf i).toNat)
    case atStart => exact ⟨0, u / 256, [((u % 256 : Nat) : Int)], by omega, rfl, by simp, by simp, (Kp.refl _ _).alloc _, by rw [HP.out]; rfl, by omega⟩
    case round =>
      obtain ⟨k, v, l, hk, rfl, rfl, rfl, hkp, hl, hv⟩ := hrel
      have HK := Lib.hid hkp
      have HL := Lib.hid hl
      clear hkp hl
      by_cases hlt : k < 8
      · have hcat : (strOf [(v : Int) % 128 + 128]).size + (strOf l.reverse).size ≤ 9223372036854775807 := by
          have h1 := congrArg List.length HL.out
          rw [List.length_append] at h1
          have := HPL.out.2
          rw [strOf_size, strOf_size, List.length_reverse]
          simp
          omega
        obtain ⟨b3, b4⟩ := new_by wr 5 ((v : Int) % 128 + 128)
        go_wp2_with fail
        exact ⟨⟨k + 1, v / 128, l ++ [((v % 128 + 128 : Nat) : Int)], by omega, by congr 1, by simp, by rw [strOf_cons]; simp, HK.out.alloc _, by rw [← HL.out, show 8 - k = (8 - (k + 1)) + 1 by omega]; simp [tl8], by omega⟩, by simp [intOf]; omega⟩
      · obtain rfl : k = 8 := by omega
        have HLL := Lib.hid (show l = putL u by rw [← HL.out]; simp [tl8])
        go_wp2_with fail
        go_ret
        exact ⟨by rw [HLL.out]; rfl, HK.out⟩
end Go.Proofs.Ytlcefenjlchaiaa
