/- The reference's Rank, Texts and Fold; no condition. -/
import Derived.Test.YtlcefenjlchaiaaDoorCmVal
import Derived.Test.YtlcefenjlchaiaaDoorRcPut
namespace Go.Proofs.YtlcefenjlchaiaaDoor
open Go.RowKit
theorem convNil (w : World) (ev : Operand → Value) (ds : Option Tmp) (x : Operand) (ty : TypeId) (ps : String) (af : Array Edge) (g : Option (Nat × Bool)) (h : ev x = .slice none 0 0) :
    (execOp ev ⟨ds, .convert 55 9 x, ty, ps, af, g⟩).run Tryd.prog w = .ok (.value (.string ⟨#[]⟩)) w := by
  simp only [execOp, h]
  kernel_rfl
attribute [local go_sem ↓] conv64 convNil

def rankI (k : Int) : Int := if k = 0 then 0 else if k = 1 then 1 else if k = 2 then 2 else 3
theorem rank_ok (w : World) (k : Int) : Calls Tryd.prog 29 #[.int .i64 k] w fun e w' => e = .returned (.int .i64 (rankI k)) ∧ w' = w := by
  by_cases h0 : k = 0
  · subst h0
    go_enter Tryd.func29, Tryd.ntmps29
    go_wp2
    go_ret
    exact ⟨rfl, rfl⟩
  · by_cases h1 : k = 1
    · subst h1
      go_enter Tryd.func29, Tryd.ntmps29
      go_wp2
      go_ret
      exact ⟨rfl, rfl⟩
    · by_cases h2 : k = 2
      · subst h2
        go_enter Tryd.func29, Tryd.ntmps29
        go_wp2
        go_ret
        exact ⟨rfl, rfl⟩
      · have b0 : (k == 0) = false := by simpa using h0
        have b1 : (k == 1) = false := by simpa using h1
        have b2 : (k == 2) = false := by simpa using h2
        have e : rankI k = 3 := by unfold rankI; rw [if_neg h0, if_neg h1, if_neg h2]
        rw [e]
        clear h0 h1 h2 e
        go_enter Tryd.func29, Tryd.ntmps29
        go_wp2
        go_ret
        exact ⟨rfl, rfl⟩
theorem rank_at (w : World) (k r : Int) (h : rankI k = r) : Calls Tryd.prog 29 #[.int .i64 k] w fun e w' => e = .returned (.int .i64 r) ∧ w' = w := by
  subst h
  exact rank_ok w k
theorem rtexts_ok (w : World) (x y : ByteArray) (d : Int) (hd : cmpB x.data.toList y.data.toList = d) :
    Calls Tryd.prog 30 #[.string x, .string y] w fun e w' => e = .returned (.int .i64 d) ∧ w = w' := by
  have hl : Op.bytesLess x.toList y.toList = decide (d = -1) := by rw [ByteArray.toList_eq, ByteArray.toList_eq, less_cmp, hd]
  have he : (x.toList == y.toList) = decide (d = 0) := by rw [ByteArray.toList_eq, ByteArray.toList_eq, eq_cmp, hd]
  rcases (hd ▸ cmpB_vals x.data.toList y.data.toList : d = 0 ∨ d = -1 ∨ d = 1) with h | h | h
  all_goals
    subst h
    have hl2 := hl
    have he2 := he
    simp only [decide_true, Int.reduceNeg, Int.reduceEq, decide_false] at hl2 he2
    clear hl he hd
    go_enter Tryd.func30, Tryd.ntmps30
    go_wp2
    go_ret
    exact ⟨rfl, rfl⟩
def foldS (c : Int) (s : ByteArray) : ByteArray := ⟨(fldB c s.data.toList).toArray⟩
theorem foldS_list (c : Int) (s : ByteArray) : (foldS c s).data.toList = fldB c s.data.toList := by simp [foldS]
theorem fold_plain (w : World) (s : ByteArray) (c : Int) (h1 : ¬ c = 1) (h2 : ¬ c = 2) : Calls Tryd.prog 31 #[.string s, .int .i64 c] w fun e w' => e = .returned (.string (foldS c s)) ∧ Kp NoB w w' := by
  have e : foldS c s = s := by unfold foldS fldB; rw [if_neg h2, if_neg h1]
  rw [e]
  have b1 : (c != 1) = true := by simpa using h1
  have b2 : (c == 2) = false := by simpa using h2
  clear e h1 h2
  go_enter Tryd.func31, Tryd.ntmps31
  go_wp2
  go_ret
  exact ⟨rfl, Kp.refl _ _⟩
theorem low_list (s : ByteArray) : strOf ((strI s).map lowI) = foldS 1 s := by
  unfold strOf strI foldS fldB
  rw [if_neg (by decide), if_pos rfl, List.map_map, List.map_map]
  congr 2
  apply List.map_congr_left
  intro b _
  simp only [Function.comp]
  rw [← lowB_toNat, Int.toNat_natCast, UInt8.ofNat_toNat]
set_option maxRecDepth 100000 in
set_option maxHeartbeats 1600000 in
theorem fold_low (w : World) (s : ByteArray) (hs : s.size ≤ 400) : Calls Tryd.prog 31 #[.string s, .int .i64 1] w fun e w' => e = .returned (.string (foldS 1 s)) ∧ Kp NoB w w' := by
  obtain ⟨i0, hi0, hz0, hz1, hz2⟩ := info_parts infoB
  have HI0 := Lib.hid hi0
  have HZ0 := Lib.hid hz0
  have HZ1 := Lib.hid hz1
  have HZ2 := Lib.hid hz2
  clear hi0 hz0 hz1 hz2
  go_enter Tryd.func31, Tryd.ntmps31
  go_wp2_with fail
  go_loopw [5, 6] (fun v i wr => ∃ (k : Nat) (l : List Int), k ≤ s.size ∧ i = .int .i64 k ∧ PutS w v k l wr ∧ l = ((strI s).map lowI).take k ∧ (k = 0 → v = .slice none 0 0)) (fun _ i _ => s.size - (intOf i).toNat)
  case atStart => exact ⟨0, [], by omega, rfl, PutS.nil w, by simp, fun _ => rfl⟩
  case round =>
    obtain ⟨k, l, hk, rfl, hS, hl, hnil⟩ := hrel
    have HSk := Lib.hid hS
    have HL := Lib.hid hl
    have HN := Lib.hid hnil
    have hblk := hS.kp.size
    clear hS hl hnil
    by_cases hlt : k < s.size
    · have hx := s[k].toNat_lt
      have HNEXT : Hid (l ++ [lowI (s[k].toNat : Int)] = ((strI s).map lowI).take (k + 1)) := Lib.hid (by
        have hlen : k < ((strI s).map lowI).length := by rw [List.length_map, strI_len]; exact hlt
        rw [List.take_succ_eq_append_getElem hlen, HL.out]
        congr 2
        simp [strI]
        rfl)
      obtain ⟨xb, hxb⟩ : ∃ xb : Int, (s[k].toNat : Int) = xb := ⟨_, rfl⟩
      have hb0 : 0 ≤ xb ∧ xb < 256 := by omega
      have hfin : ∀ (v1 : Value) (w1 : World), PutS w v1 (k + 1) (l ++ [lowI xb]) w1 → PutS w v1 (k + 1) (l ++ [lowI (s[k].toNat : Int)]) w1 := fun _ _ h => by rw [hxb]; exact h
      by_cases hu : 65 ≤ xb ∧ xb ≤ 90
      · have hlo : xb - 65 + 97 = lowI xb := by unfold lowI; rw [if_pos hu]; omega
        obtain ⟨u1, u2⟩ := hu
        have HLO := Lib.hid hlo
        have HXB := Lib.hid hxb
        have HFIN := Lib.hid hfin
        rw [← hxb] at u1 u2 hb0
        clear hlo hxb hfin
        go_wp2_with (at_builtin; refine wpList_append_own _ rfl _ _ 55 rfl w.heap.size 5 i0 _ 1 1 Tryd.underlying55 HI0.out HZ0.out HZ1.out HZ2.out rfl (by omega) _ k (l.map (Value.int .u8)) rfl (HSk.out.al _) ⟨wr.heap.size, 0, none⟩ 1 1 [_] rfl rfl (cell_one_new _ _ _) (by simp [Value.oneCell']) (by unfold maxLen; omega) (by omega) (by simp; omega) ?_; intro v1 w1 hown1 hgrow1 _; have HS1 := Lib.hid (HFIN.out _ _ (HSk.out.step hgrow1 hown1 (by rw [← HLO.out, ← HXB.out]))); clear hown1 hgrow1)
        exact ⟨⟨k + 1, _, by omega, by congr 1, HS1.out, HNEXT.out, fun h => by omega⟩, by simp [intOf]; omega⟩
      · have hlo : xb = lowI xb := by unfold lowI; rw [if_neg hu]
        have HLO := Lib.hid hlo
        have HXB := Lib.hid hxb
        have HFIN := Lib.hid hfin
        rcases (show xb < 65 ∨ (65 ≤ xb ∧ 90 < xb) by omega) with u1 | ⟨u1, u2⟩
        · have u3 : decide (65 ≤ xb) = false := decide_eq_false (by omega)
          rw [← hxb] at u1 hb0 u3
          clear hlo hxb hfin hu
          go_wp2_with (at_builtin; refine wpList_append_own _ rfl _ _ 55 rfl w.heap.size 5 i0 _ 1 1 Tryd.underlying55 HI0.out HZ0.out HZ1.out HZ2.out rfl (by omega) _ k (l.map (Value.int .u8)) rfl (HSk.out.al _) ⟨wr.heap.size, 0, none⟩ 1 1 [_] rfl rfl (cell_one_new _ _ _) (by simp [Value.oneCell']) (by unfold maxLen; omega) (by omega) (by simp; omega) ?_; intro v1 w1 hown1 hgrow1 _; have HS1 := Lib.hid (HFIN.out _ _ (HSk.out.step hgrow1 hown1 (by rw [← HLO.out, ← HXB.out]))); clear hown1 hgrow1)
          exact ⟨⟨k + 1, _, by omega, by congr 1, HS1.out, HNEXT.out, fun h => by omega⟩, by simp [intOf]; omega⟩
        · have u3 : decide (xb ≤ 90) = false := decide_eq_false (by omega)
          rw [← hxb] at u1 hb0 u2 u3
          clear hlo hxb hfin hu
          go_wp2_with (at_builtin; refine wpList_append_own _ rfl _ _ 55 rfl w.heap.size 5 i0 _ 1 1 Tryd.underlying55 HI0.out HZ0.out HZ1.out HZ2.out rfl (by omega) _ k (l.map (Value.int .u8)) rfl (HSk.out.al _) ⟨wr.heap.size, 0, none⟩ 1 1 [_] rfl rfl (cell_one_new _ _ _) (by simp [Value.oneCell']) (by unfold maxLen; omega) (by omega) (by simp; omega) ?_; intro v1 w1 hown1 hgrow1 _; have HS1 := Lib.hid (HFIN.out _ _ (HSk.out.step hgrow1 hown1 (by rw [← HLO.out, ← HXB.out]))); clear hown1 hgrow1)
          exact ⟨⟨k + 1, _, by omega, by congr 1, HS1.out, HNEXT.out, fun h => by omega⟩, by simp [intOf]; omega⟩
    · obtain rfl : k = s.size := by omega
      have hll : l = (strI s).map lowI := by rw [HL.out, List.take_of_length_le (by rw [List.length_map, strI_len]; exact Nat.le_refl _)]
      have HLL := Lib.hid hll
      have HR : Hid (strOf l = foldS 1 s) := Lib.hid (by rw [hll]; exact low_list s)
      clear hll
      by_cases h0 : s.size = 0
      · obtain rfl := HN.out h0
        have HR2 : Hid ((⟨#[]⟩ : ByteArray) = foldS 1 s) := Lib.hid (by
          rw [← HR.out, HLL.out]
          have : strI s = [] := List.eq_nil_of_length_eq_zero (by rw [strI_len]; exact h0)
          rw [this]
          rfl)
        have h0' := Lib.hid h0
        clear h0
        go_wp2_with fail
        go_ret
        exact ⟨by rw [← HR2.out]; rfl, HSk.out.kp⟩
      · obtain ⟨A, cap, rfl⟩ := own_slice HSk.out.own
        obtain ⟨g, ds, rfl, hg, hB⟩ := own_Blk HSk.out.own (by omega)
        have hln : l.length = s.size := by rw [HLL.out, List.length_map, strI_len]
        have hba := byAt_pre hB hln
        have hbr := byRd_pre hB hln
        clear hB hln
        go_wp2_with fail
        go_ret
        exact ⟨by rw [← HR.out]; rfl, HSk.out.kp⟩
set_option maxRecDepth 100000 in
set_option maxHeartbeats 2000000 in
theorem fold_trim (w : World) (s : ByteArray) (hs : s.size ≤ 400) : Calls Tryd.prog 31 #[.string s, .int .i64 2] w fun e w' => e = .returned (.string (foldS 2 s)) ∧ Kp NoB w w' := by
  go_enter Tryd.func31, Tryd.ntmps31
  go_wp2_with fail
  go_loop [0] (fun v => ∃ k : Nat, k ≤ s.size ∧ v = .string ⟨(s.data.toList.take k).toArray⟩ ∧ ∀ (j : Nat) b, k ≤ j → s.data.toList[j]? = some b → b = 32) (fun v => Lib.strSize v)
  case atStart =>
    refine ⟨s.size, Nat.le_refl _, ?_, fun j b hj hb => ?_⟩
    · rw [Lib.size_eq, List.take_length, Lib.mk_data]
    · have : s.data.toList.length ≤ j := by rw [← Lib.size_eq]; exact hj
      simp [List.getElem?_eq_none this] at hb
  case round =>
    obtain ⟨k, hk, rfl, hc⟩ := hrel
    have hkl : k ≤ s.data.toList.length := by rw [← Lib.size_eq]; exact hk
    have hts : (⟨(s.data.toList.take k).toArray⟩ : ByteArray).size = k := by rw [Lib.size_mk, List.length_take]; omega
    have hb0 : ∀ h, s.data.toList[k - 1]? = some ((⟨(s.data.toList.take k).toArray⟩ : ByteArray)[k - 1]'h) := by
      intro h
      rw [← Lib.getElem_mk (s.data.toList.take k) (k - 1) h, List.getElem?_take]
      rw [hts] at h
      rw [if_pos h]
    have hx1 : (⟨(s.data.toList.take k).toArray⟩ : ByteArray).extract 0 (k - 1) = ⟨(s.data.toList.take (k - 1)).toArray⟩ := by
      rw [Lib.extract_mk, List.drop_zero, List.take_take]
      congr 3
      omega
    have hK : Lib.Kept (∀ (j : Nat) b, k ≤ j → s.data.toList[j]? = some b → b = 32) := hc
    clear hc
    have hkl' : Lib.Kept (k ≤ s.data.toList.length) := hkl
    clear hkl
    generalize ht : (⟨(s.data.toList.take k).toArray⟩ : ByteArray) = t at hts hb0 hx1 ⊢
    have hK3 : Lib.Kept ((⟨(s.data.toList.take k).toArray⟩ : ByteArray) = t) := ht
    clear ht
    by_cases h0 : 0 < k
    · have h1 : k - 1 < t.size := by omega
      have hwr : ((k : Int) - 1 + 9223372036854775808) % 18446744073709551616 - 9223372036854775808 = ((k - 1 : Nat) : Int) := by omega
      have hbk := hb0 h1
      clear hb0
      by_cases heq : t[k - 1]'h1 = 32
      · have heq' : ((t[k - 1]'h1).toNat : Int) = 32 := by rw [heq]; rfl
        have hK2 : Lib.Kept (s.data.toList[k - 1]? = some (t[k - 1]'h1)) := hbk
        clear hbk
        go_wp2_with fail
        refine ⟨⟨k - 1, by omega, rfl, fun j b hj hb => ?_⟩, ?_⟩
        · by_cases e : j = k - 1
          · subst e
            have h2 : s.data.toList[k - 1]? = some (t[k - 1]'h1) := hK2
            have h3 : s.data.toList[k - 1]? = some b := by simpa using hb
            rw [h2] at h3
            rw [← Option.some.inj h3, heq]
          · exact hK j b (by omega) (by simpa using hb)
        · have hkl : k ≤ s.data.toList.length := hkl'
          rw [Lib.strSize_string, Lib.strSize_string, Lib.size_mk, List.length_take]
          omega
      · have hne' : ¬ ((t[k - 1]'h1).toNat : Int) = 32 := by
          intro e
          exact heq (UInt8.toNat_inj.1 (by exact_mod_cast e))
        have hbeq : (((t[k - 1]'h1).toNat : Int) == 32) = false := by simpa using hne'
        have hK2 : Lib.Kept (s.data.toList[k - 1]? = some (t[k - 1]'h1)) := hbk
        clear hbk
        go_wp2_with fail
        go_ret
        refine ⟨?_, Kp.refl _ _⟩
        have ht' : (⟨(s.data.toList.take k).toArray⟩ : ByteArray) = t := hK3
        show Ending.returned (Value.string t) = _
        unfold foldS fldB
        rw [if_pos rfl, Lib.trimRightB_take s.data.toList 32 k hkl' hK (fun b _ hb => by
          have h2 : s.data.toList[k - 1]? = some (t[k - 1]'h1) := hK2
          rw [h2] at hb
          rw [← Option.some.inj hb]
          exact heq), ht']
    · clear hb0
      go_wp2_with fail
      go_ret
      refine ⟨?_, Kp.refl _ _⟩
      have ht' : (⟨(s.data.toList.take k).toArray⟩ : ByteArray) = t := hK3
      show Ending.returned (Value.string t) = _
      unfold foldS fldB
      rw [if_pos rfl, Lib.trimRightB_take s.data.toList 32 k hkl' hK (fun b hk0 _ => absurd hk0 h0), ht']
theorem fold_ok (w : World) (s : ByteArray) (c : Int) (hs : s.size ≤ 400) : Calls Tryd.prog 31 #[.string s, .int .i64 c] w fun e w' => e = .returned (.string (foldS c s)) ∧ Kp NoB w w' := by
  by_cases h1 : c = 1
  · subst h1
    exact fold_low w s hs
  · by_cases h2 : c = 2
    · subst h2
      exact fold_trim w s hs
    · exact fold_plain w s c h1 h2
end Go.Proofs.YtlcefenjlchaiaaDoor
