/- The program's Varint: the number with which a text begins; no condition. -/
import Derived.Test.YtlcefenjlchaiaaDoorRcScan
namespace Go.Proofs.YtlcefenjlchaiaaDoor
open Go.RowKit

def varR (q : Option (Nat × Nat)) : Value := match q with
  | none => .tuple #[.int .u64 0, .int .i64 0, .int .i64 8]
  | some (u, n) => .tuple #[.int .u64 u, .int .i64 n, .int .i64 0]
def shortR (u n : Nat) : Option (Nat × Nat) := if (putL u).length = n then some (u, n) else none
theorem putV_size (u : Nat) : (putV u).size = (putL u).length := by unfold putV; rw [strOf_size, List.length_reverse]
set_option maxHeartbeats 1000000 in
theorem shortest_ok (w : World) (u n : Nat) (hu : u < 18446744073709551616) (hn : n ≤ 9) : Calls Tryd.prog 43 #[.int .u64 u, .int .i64 n] w fun e w' => e = .returned (varR (shortR u n)) ∧ Kp NoB w w' := by
  have hs := putV_size u
  have hl := putL_len u
  by_cases h : (putL u).length = n
  · have HS := Lib.hid (show shortR u n = some (u, n) from if_pos h)
    rw [h] at hs
    obtain ⟨p, hp⟩ : ∃ p, putV u = p := ⟨_, rfl⟩
    have HP := Lib.hid hp
    rw [hp] at hs
    clear hp h
    go_enter Tryd.func43, Tryd.ntmps43
    go_wp2_with (go_at_call 13; go_must (refine (put_ok _ u hu).mono ?_); rw [HP.out]; rintro e w2 ⟨rfl, hk2⟩; have HK2 := Lib.hid hk2; clear hk2)
    go_ret3
    exact ⟨by rw [HS.out]; rfl, HK2.out⟩
  · have HS := Lib.hid (show shortR u n = none from if_neg h)
    have h2 : ((putV u).size : Int) ≠ n := by rw [hs]; omega
    obtain ⟨p, hp⟩ : ∃ p, putV u = p := ⟨_, rfl⟩
    have HP := Lib.hid hp
    rw [hp] at hs h2
    have hne : (((p.size : Int)) != (n : Int)) = true := by rw [bne_iff_ne]; exact h2
    have hsz : (p.size : Int) ≤ 11 := by omega
    clear hp h hs h2
    go_enter Tryd.func43, Tryd.ntmps43
    go_wp2_with (go_at_call 13; go_must (refine (put_ok _ u hu).mono ?_); rw [HP.out]; rintro e w2 ⟨rfl, hk2⟩; have HK2 := Lib.hid hk2; clear hk2)
    go_ret3
    exact ⟨by rw [HS.out]; rfl, HK2.out⟩
theorem shortest_at (w : World) (U N : Int) (u n : Nat) (hU : U = u) (hN : N = n) (hu : u < 18446744073709551616) (hn : n ≤ 9) : Calls Tryd.prog 43 #[.int .u64 U, .int .i64 N] w fun e w' => e = .returned (varR (shortR u n)) ∧ Kp NoB w w' := by
  subst hU hN
  exact shortest_ok w u n hu hn
theorem varR_cases (q : Option (Nat × Nat)) : ∃ a b c, varR q = .tuple #[.int .u64 a, .int .i64 b, .int .i64 c] := by
  rcases q with _ | ⟨u, n⟩
  · exact ⟨_, _, _, rfl⟩
  · exact ⟨_, _, _, rfl⟩
theorem or_u64 (m n i : Nat) (hi : n < 2 ^ i) (hm : m * 2 ^ i + n < 18446744073709551616) : bits BinOp.or IntKind.u64 ((m : Int) * ((2 ^ i : Nat) : Int)) n = ((m * 2 ^ i + n : Nat) : Int) := by
  have e : bits BinOp.or IntKind.u64 ((m : Int) * ((2 ^ i : Nat) : Int)) n = IntKind.u64.wrap ((BitVec.ofInt 64 ((m : Int) * ((2 ^ i : Nat) : Int)) ||| BitVec.ofInt 64 n).toNat) := rfl
  have e1 : BitVec.ofInt 64 ((m : Int) * ((2 ^ i : Nat) : Int)) = BitVec.ofNat 64 (m * 2 ^ i) := by
    rw [← Int.natCast_mul]
    exact BitVec.ofInt_natCast _ _
  have e2 : BitVec.ofInt 64 (n : Int) = BitVec.ofNat 64 n := BitVec.ofInt_natCast _ _
  rw [e, e1, e2, BitVec.toNat_or, BitVec.toNat_ofNat, BitVec.toNat_ofNat, Nat.mod_eq_of_lt (by omega), Nat.mod_eq_of_lt (by omega)]
  have h := Nat.shiftLeft_add_eq_or_of_lt (i := i) (b := n) hi m
  rw [Nat.shiftLeft_eq] at h
  rw [← h, IntKind.wrap_u64]
  omega
theorem natsOf_drop (s : ByteArray) (k : Nat) (h : k < s.size) : (natsOf s).drop k = s[k].toNat :: (natsOf s).drop (k + 1) := by
  have hl : k < (natsOf s).length := by simp [natsOf]; exact h
  rw [List.drop_eq_getElem_cons hl]
  congr 1
  simp [natsOf]
  rfl
theorem natsOf_lt (s : ByteArray) : ∀ b ∈ natsOf s, b < 256 := by
  intro b hb
  unfold natsOf at hb
  rw [List.mem_map] at hb
  obtain ⟨x, _, rfl⟩ := hb
  exact x.toNat_lt
theorem natsOf_len (s : ByteArray) : (natsOf s).length = s.size := by simp [natsOf]
set_option maxRecDepth 100000 in
set_option maxHeartbeats 1000000 in
theorem varint_ok (w : World) (s : ByteArray) (hs : s.size ≤ 9223372036854775807) : Calls Tryd.prog 33 #[.string s] w fun e w' => e = .returned (varR (varF s)) ∧ Kp NoB w w' := by
  go_enter Tryd.func33, Tryd.ntmps33
  go_wp2_with fail
  go_loopw [2, 3, 4, 5] (fun u n e b wr => ∃ (k v : Nat), k ≤ s.size ∧ k ≤ 8 ∧ n = .int .i64 k ∧ u = .int .u64 v ∧ v < 128 ^ k ∧ wr = w ∧ scanV 0 0 (natsOf s) = scanV k v ((natsOf s).drop k)) (fun _ n _ _ _ => s.size - (intOf n).toNat)
  case atStart => exact ⟨0, 0, by omega, by omega, rfl, rfl, by simp, rfl, by simp⟩
  case round =>
    obtain ⟨k, v, hk, hk8, rfl, rfl, hv, rfl, hsc⟩ := hrel
    have HS := Lib.hid hsc
    have hv8 : v < 72057594037927936 := Nat.lt_of_lt_of_le hv (Nat.le_trans (Nat.pow_le_pow_right (by omega) hk8) (by decide))
    have HV := Lib.hid hv
    clear hsc hv
    by_cases hlt : k < s.size
    · have HD := Lib.hid (natsOf_drop s k hlt)
      have hb := s[k].toNat_lt
      have hb0 : (0 : Int) ≤ (s[k].toNat : Int) := Int.natCast_nonneg _
      have hb1 : (s[k].toNat : Int) < 256 := by omega
      by_cases h8 : k = 8
      · subst h8
        have ho : bits BinOp.or IntKind.u64 ((v : Int) * 256) (s[8].toNat : Int) = (v : Int) * 256 + (s[8].toNat : Int) := by
          have := or_u64 v s[8].toNat 8 hb (by omega)
          simpa using this
        have HN := Lib.hid (show varF s = shortR (v * 256 + s[8].toNat) 9 by unfold varF shortR; rw [HS.out, HD.out]; simp [scanV])
        obtain ⟨a, b, c, he⟩ := varR_cases (shortR (v * 256 + s[8].toNat) 9)
        have HE := Lib.hid he
        clear he
        go_wp2_with (go_at_call 43; go_must (refine (shortest_at _ _ _ (v * 256 + s[8].toNat) 9 (by simp) rfl (by omega) (by omega)).mono ?_); rw [HE.out]; rintro e w2 ⟨rfl, hk2⟩; have HK2 := Lib.hid hk2; clear hk2)
        go_ret3
        exact ⟨by rw [HN.out, HE.out]; rfl, HK2.out⟩
      · have h9 : (((k : Int) + 1) == 9) = false := by rw [beq_eq_false_iff_ne]; omega
        have ha : bits BinOp.and IntKind.u8 (s[k].toNat : Int) 127 = (s[k].toNat : Int) % 128 := and127 _ hb0 hb1
        have ho : bits BinOp.or IntKind.u64 ((v : Int) * 128) ((s[k].toNat : Int) % 128) = (v : Int) * 128 + (s[k].toNat : Int) % 128 := by
          have := or_u64 v (s[k].toNat % 128) 7 (by omega) (by omega)
          simpa using this
        by_cases h128 : (s[k].toNat : Int) < 128
        · have HN := Lib.hid (show varF s = shortR (v * 128 + s[k].toNat % 128) (k + 1) by unfold varF shortR; rw [HS.out, HD.out]; simp [scanV, h8, show s[k].toNat < 128 by omega])
          obtain ⟨a, b, c, he⟩ := varR_cases (shortR (v * 128 + s[k].toNat % 128) (k + 1))
          have HE := Lib.hid he
          clear he
          go_wp2_with (go_at_call 43; go_must (refine (shortest_at _ _ _ (v * 128 + s[k].toNat % 128) (k + 1) (by simp) rfl (by omega) (by omega)).mono ?_); rw [HE.out]; rintro e w2 ⟨rfl, hk2⟩; have HK2 := Lib.hid hk2; clear hk2)
          go_ret3
          exact ⟨by rw [HN.out, HE.out]; rfl, HK2.out⟩
        · have HN := Lib.hid (show scanV 0 0 (natsOf s) = scanV (k + 1) (v * 128 + s[k].toNat % 128) ((natsOf s).drop (k + 1)) by rw [HS.out, HD.out]; simp [scanV, h8, show ¬ s[k].toNat < 128 by omega])
          go_wp2_with fail
          exact ⟨⟨k + 1, v * 128 + s[k].toNat % 128, by omega, by omega, by congr 1, by simp, by have := HV.out; rw [Nat.pow_succ]; omega, trivial, HN.out⟩, by simp [intOf]; omega⟩
    · have HN := Lib.hid (show varF s = none by unfold varF; rw [HS.out, List.drop_of_length_le (by rw [natsOf_len]; omega)]; rfl)
      go_wp2_with fail
      go_ret3
      exact ⟨by rw [HN.out]; rfl, Kp.refl _ _⟩
end Go.Proofs.YtlcefenjlchaiaaDoor
