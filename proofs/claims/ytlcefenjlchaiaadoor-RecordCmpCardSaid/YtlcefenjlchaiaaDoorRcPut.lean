/- The program's PutVarint: a number in its bytes; no condition. -/
import Derived.Test.YtlcefenjlchaiaaDoorRcMath
namespace Go.Proofs.YtlcefenjlchaiaaDoor
open Go.RowKit
attribute [local go_sem ↓] conv64

/-- in the midst of PutVarint -/
structure PutS (w : World) (v : Value) (n : Nat) (l : List Int) (W : World) : Prop where
  kp : Kp NoB w W
  own : W.ownsRow w.heap.size 5 1 v n (l.map (Value.int .u8))
theorem PutS.step {w W w1 : World} {v v1 : Value} {n : Nat} {l : List Int} (h : PutS w v n l W) {o : Obj} {x y : Int} (hg : (W.alloc o).grownBy w1 v.ownBlock) (ho : w1.ownsRow w.heap.size 5 1 v1 (n + 1) (l.map (Value.int .u8) ++ [Value.int .u8 x])) (e : x = y) : PutS w v1 (n + 1) (l ++ [y]) w1 := by
  subst e
  exact ⟨(h.kp.alloc o).own hg rfl h.own, by simpa using ho⟩
theorem PutS.al {w W : World} {v : Value} {n : Nat} {l : List Int} (h : PutS w v n l W) (o : Obj) : (W.alloc o).ownsRow w.heap.size 5 1 v n (l.map (Value.int .u8)) := own_keep h.own ((Kp.refl NoB W).alloc o) (fun _ _ _ q => q)
theorem PutS.nil (w : World) : PutS w (.slice none 0 0) 0 [] w := ⟨Kp.refl _ _, World.ownsRow_nil _ _ _ _⟩

set_option maxRecDepth 100000 in
set_option maxHeartbeats 1600000 in
theorem put_ok (w : World) (u : Nat) (hu : u < 18446744073709551616) : Calls Tryd.prog 13 #[.int .u64 u] w fun e w' => e = .returned (.string (putV u)) ∧ Kp NoB w w' := by
  obtain ⟨i0, hi0, hz0, hz1, hz2⟩ := info_parts infoB
  have HI0 := Lib.hid hi0
  have HZ0 := Lib.hid hz0
  have HZ1 := Lib.hid hz1
  have HZ2 := Lib.hid hz2
  clear hi0 hz0 hz1 hz2
  have HPL := Lib.hid (putL_len u)
  by_cases hb : (72057594037927936 : Int) ≤ u
  · have HP := Lib.hid (show putL u = ((u % 256 : Nat) : Int) :: tl8 8 (u / 256) by unfold putL big56; rw [if_neg (by omega)])
    go_enter Tryd.func13, Tryd.ntmps13
    go_wp2_with (at_builtin; refine wpList_append_own _ rfl _ _ 55 rfl w.heap.size 5 i0 _ 1 1 Tryd.underlying55 HI0.out HZ0.out HZ1.out HZ2.out rfl (by omega) _ 0 ([]) rfl ((PutS.nil w).al _) ⟨w.heap.size, 0, none⟩ 1 1 [_] rfl rfl (cell_one_new _ _ _) (by simp [Value.oneCell']) (by unfold maxLen; omega) (by omega) (by simp) ?_; intro v1 w1 hown1 hgrow1 _; have hS := (PutS.nil w).step hgrow1 hown1 rfl; have HS := Lib.hid hS; clear hown1 hgrow1 hS)
    go_loopw [0, 3, 13] (fun s b i wr => ∃ (k v : Nat) (l : List Int), k ≤ 8 ∧ i = .int .i64 k ∧ s = .int .u64 v ∧ PutS w b (k + 1) l wr ∧ l ++ tl8 (8 - k) v = putL u ∧ v < 18446744073709551616) (fun _ _ i _ => 8 - (intOf i).toNat)
    case atStart => exact ⟨0, u / 256, _, by omega, rfl, by simp, HS.out, by rw [HP.out]; simp, by omega⟩
    case round =>
      obtain ⟨k, v, l, hk, rfl, rfl, hS, hl, hv⟩ := hrel
      have HSk := Lib.hid hS
      have HL := Lib.hid hl
      have hblk := hS.kp.size
      clear hS hl
      by_cases hlt : k < 8
      · have hor : bits BinOp.or IntKind.u8 ((v : Int) % 256) 128 = ((v % 128 + 128 : Nat) : Int) := by rw [or128 _ (by omega) (by omega)]; omega
        have HOR := Lib.hid hor
        clear hor
        go_wp2_with (at_builtin; refine wpList_append_own _ rfl _ _ 55 rfl w.heap.size 5 i0 _ 1 1 Tryd.underlying55 HI0.out HZ0.out HZ1.out HZ2.out rfl (by omega) _ (k + 1) (l.map (Value.int .u8)) rfl (HSk.out.al _) ⟨wr.heap.size, 0, none⟩ 1 1 [_] rfl rfl (cell_one_new _ _ _) (by simp [Value.oneCell']) (by unfold maxLen; omega) (by omega) (by simp; omega) ?_; intro v1 w1 hown1 hgrow1 _; have HS1 := Lib.hid (HSk.out.step hgrow1 hown1 HOR.out); clear hown1 hgrow1)
        exact ⟨⟨k + 1, v / 128, _, by omega, by congr 1, by simp, HS1.out, by rw [← HL.out, show 8 - k = (8 - (k + 1)) + 1 by omega]; simp [tl8], by omega⟩, by simp [intOf]; omega⟩
      · obtain rfl : k = 8 := by omega
        have hlL : l = putL u := by rw [← HL.out]; simp [tl8]
        obtain ⟨A, cap, rfl⟩ := own_slice HSk.out.own
        obtain ⟨g, ds, rfl, hg, hB⟩ := own_Blk HSk.out.own (by omega)
        have HB := Lib.hid hB
        have HLL := Lib.hid hlL
        clear hB hlL
        go_wp2_with (go_at_call 22; go_must (refine (rev_ok _ g cap _ _ l ds (by have := HSk.out.own.1; simpa using this) (by omega) HB.out).mono ?_); rintro e w2 ⟨rfl, hk2, hb2⟩; have HK2 := Lib.hid hk2; have hba := byAt_pre hb2 (show _ = 9 by have := HSk.out.own.1; simpa using this); have hbr := byRd_pre hb2 (show _ = 9 by have := HSk.out.own.1; simpa using this); clear hk2 hb2)
        go_ret
        exact ⟨by rw [HLL.out]; rfl, HSk.out.kp.trans HK2.out (fun i hi q => by unfold OnB at q; omega)⟩
  · have hlt0 : (u : Int) < 72057594037927936 := by omega
    have HP := Lib.hid (show putL u = ((u % 128 : Nat) : Int) :: tl7 10 (u / 128) by unfold putL big56; rw [if_pos (by omega)])
    have HAN := Lib.hid (show bits BinOp.and IntKind.u8 ((u : Int) % 256) 127 = ((u % 128 : Nat) : Int) by rw [and127 _ (by omega) (by omega)]; omega)
    go_enter Tryd.func13, Tryd.ntmps13
    go_wp2_with (at_builtin; refine wpList_append_own _ rfl _ _ 55 rfl w.heap.size 5 i0 _ 1 1 Tryd.underlying55 HI0.out HZ0.out HZ1.out HZ2.out rfl (by omega) _ 0 ([]) rfl ((PutS.nil w).al _) ⟨w.heap.size, 0, none⟩ 1 1 [_] rfl rfl (cell_one_new _ _ _) (by simp [Value.oneCell']) (by unfold maxLen; omega) (by omega) (by simp) ?_; intro v1 w1 hown1 hgrow1 _; have hS := (PutS.nil w).step hgrow1 hown1 HAN.out; have HS := Lib.hid hS; clear hown1 hgrow1 hS)
    go_loopw [0, 3] (fun s b wr => ∃ (v n f : Nat) (l : List Int), s = .int .u64 v ∧ 1 ≤ n ∧ PutS w b n l wr ∧ l ++ tl7 f v = putL u ∧ v < 128 ^ f ∧ v < 18446744073709551616) (fun s _ _ => (intOf s).toNat)
    case atStart => exact ⟨u / 128, 1, 10, _, by simp, by omega, HS.out, by rw [HP.out]; simp, by omega, by omega⟩
    case round =>
      obtain ⟨v, n, f, l, rfl, hn1, hS, hl, hvf, hv⟩ := hrel
      have HSk := Lib.hid hS
      have HL := Lib.hid hl
      have hblk := hS.kp.size
      have hln : l.length = n := by have := hS.own.1; simpa using this
      have hn11 : n ≤ 11 := by
        have h1 := congrArg List.length hl
        rw [List.length_append] at h1
        have := HPL.out.2
        omega
      have HLN := Lib.hid hln
      clear hS hl hln
      by_cases hlt : 0 < v
      · obtain ⟨f', rfl⟩ : ∃ f', f = f' + 1 := by
          cases f with
          | zero => simp at hvf; omega
          | succ f' => exact ⟨f', rfl⟩
        have HVF := Lib.hid (show v / 128 < 128 ^ f' from Nat.div_lt_of_lt_mul (by rw [Nat.pow_succ, Nat.mul_comm] at hvf; exact hvf))
        have HOR := Lib.hid (show bits BinOp.or IntKind.u8 ((v : Int) % 256) 128 = ((v % 128 + 128 : Nat) : Int) by rw [or128 _ (by omega) (by omega)]; omega)
        clear hvf
        go_wp2_with (at_builtin; refine wpList_append_own _ rfl _ _ 55 rfl w.heap.size 5 i0 _ 1 1 Tryd.underlying55 HI0.out HZ0.out HZ1.out HZ2.out rfl (by omega) _ n (l.map (Value.int .u8)) rfl (HSk.out.al _) ⟨wr.heap.size, 0, none⟩ 1 1 [_] rfl rfl (cell_one_new _ _ _) (by simp [Value.oneCell']) (by unfold maxLen; omega) (by omega) (by simp; omega) ?_; intro v1 w1 hown1 hgrow1 _; have HS1 := Lib.hid (HSk.out.step hgrow1 hown1 HOR.out); clear hown1 hgrow1)
        exact ⟨⟨v / 128, n + 1, f', _, by simp, by omega, HS1.out, by rw [← HL.out]; simp [tl7, show v ≠ 0 by omega], HVF.out, by omega⟩, by simp [intOf]; omega⟩
      · obtain rfl : v = 0 := by omega
        have hlL : l = putL u := by rw [← HL.out]; cases f <;> simp [tl7]
        obtain ⟨A, cap, rfl⟩ := own_slice HSk.out.own
        obtain ⟨g, ds, rfl, hg, hB⟩ := own_Blk HSk.out.own (by omega)
        have HB := Lib.hid hB
        have HLL := Lib.hid hlL
        clear hB hlL hvf
        go_wp2_with (go_at_call 22; go_must (refine (rev_ok _ g cap _ _ l ds HLN.out (by omega) HB.out).mono ?_); rintro e w2 ⟨rfl, hk2, hb2⟩; have HK2 := Lib.hid hk2; have hba := byAt_pre hb2 (show _ = n by rw [List.length_reverse, HLN.out]); have hbr := byRd_pre hb2 (show _ = n by rw [List.length_reverse, HLN.out]); clear hk2 hb2)
        go_ret
        exact ⟨by rw [HLL.out]; rfl, HSk.out.kp.trans HK2.out (fun i hi q => by unfold OnB at q; omega)⟩
end Go.Proofs.YtlcefenjlchaiaaDoor
