/- look returns true where the two tables agree; no condition. -/
import Derived.Test.YtmkhhjpfchaopaaAwake
namespace Go.Proofs.Ytmkhhjpfchaopaa
open Go.RowKit

/-- the program's table (or none) and the reference's: what they hold -/
def TP (w : World) (tp : Option Addr) (is : Bool) (hs : List Int) : Prop :=
  (tp = none ∧ is = false ∧ hs = List.replicate 8 0) ∨ (∃ b, tp = some ⟨b, 0, none⟩ ∧ is = true ∧ Tab w b hs)
theorem TP.len {w : World} {tp : Option Addr} {is : Bool} {hs : List Int} (h : TP w tp is hs) : hs.length = 8 := by
  rcases h with ⟨_, _, rfl⟩ | ⟨b, _, _, h⟩
  · simp
  · exact h.1
theorem TP.keep {w w' : World} {S : Nat → Prop} {tp : Option Addr} {is : Bool} {hs : List Int} (h : TP w tp is hs) (k : Kp S w w') (hn : ∀ b, tp = some ⟨b, 0, none⟩ → ¬ S b) : TP w' tp is hs := by
  rcases h with h | ⟨b, hb, hi, h⟩
  · exact .inl h
  · exact .inr ⟨b, hb, hi, h.keep k (hn b hb)⟩
theorem hasI_nil (c : Int) : hasI (List.replicate 8 0) c = 0 := by
  unfold hasI
  split
  · rfl
  · simp
    grind

theorem has_any (w : World) (tp : Option Addr) (is : Bool) (hs : List Int) (c : Int) (h : TP w tp is hs) : Calls Try.prog 13 #[.pointer tp, .int .i64 c] w fun e w' => e = .returned (.int .i64 (hasI hs c)) ∧ w = w' := by
  rcases h with ⟨rfl, rfl, rfl⟩ | ⟨b, rfl, rfl, hT⟩
  · rw [hasI_nil]; exact has_nil w c
  · exact has_ok w b hs c hT
theorem has_at (w : World) (tp : Option Addr) (is : Bool) (hs : List Int) (k : Nat) (h : TP w tp is hs) (hk : k < 8) : Calls Try.prog 13 #[.pointer tp, .int .i64 k] w fun e w' => e = .returned (.int .i64 (hs.getD k 0)) ∧ w' = w :=
  (has_any w tp is hs k h).mono fun _ _ q => ⟨by rw [q.1]; congr 2; unfold hasI; rw [if_neg (by omega)]; simp, q.2.symm⟩
theorem has_z (w : World) (tp : Option Addr) (is : Bool) (hs : List Int) (c : Int) (h : TP w tp is hs) (hz : hasI hs c = 0) : Calls Try.prog 13 #[.pointer tp, .int .i64 c] w fun e w' => e = .returned (.int .i64 0) ∧ w = w' :=
  (has_any w tp is hs c h).mono fun _ _ q => ⟨by rw [q.1, hz], q.2⟩
def holdT (is : Bool) (hs : List Int) (l : Int) : List Nat := if is then holdI hs l else []
theorem holders_any (w : World) (tp : Option Addr) (is : Bool) (hs : List Int) (l : Int) (h : TP w tp is hs) : Calls Try.prog 14 #[.pointer tp, .int .i64 l] w fun e w' => ∃ v, e = .returned v ∧ w'.ownsRow w.heap.size 3 1 v (holdT is hs l).length (ints (holdT is hs l)) ∧ Kp NoB w w' := by
  rcases h with ⟨rfl, rfl, rfl⟩ | ⟨b, rfl, rfl, hT⟩
  · exact (holders_nil w l).mono fun _ w' q => ⟨_, q.1, ⟨rfl, .inl ⟨rfl, rfl⟩⟩, by rw [← q.2]; exact Kp.refl _ _⟩
  · exact holders_ok w b hs l hT

theorem holders_is (w : World) (tp : Option Addr) (is : Bool) (hs : List Int) (l : Int) (h : TP w tp is hs) (xs : List Nat) (N : Nat) (hx : holdT is hs l = xs) (hN : xs.length = N) : Calls Try.prog 14 #[.pointer tp, .int .i64 l] w fun e w' => ∃ A cap, e = .returned (.slice A N cap) ∧ w'.ownsRow w.heap.size 3 1 (.slice A N cap) N (ints xs) ∧ Kp NoB w w' :=
  (holders_any w tp is hs l h).mono fun e w' ⟨v, he, ho, hk⟩ => by
    obtain ⟨A, cap, rfl⟩ := own_slice ho
    rw [hx, hN] at ho he
    exact ⟨A, cap, he, ho, hk⟩
theorem holdK_lt (hs : List Int) (l : Int) (k n : Nat) (hk : k < n) (h : l ≤ hs[k]?.getD 0) : (holdK hs l k).length < (holdK hs l n).length ∧ (holdK hs l n)[(holdK hs l k).length]? = some k := by
  induction n with
  | zero => omega
  | succ n ih =>
    rcases Nat.lt_or_ge k n with q | q
    · obtain ⟨h1, h2⟩ := ih q
      by_cases hn : l ≤ hs[n]?.getD 0
      · rw [holdK_hit hs l n hn]
        exact ⟨by simp; omega, by rw [List.getElem?_append_left h1]; exact h2⟩
      · rw [holdK_skip hs l n (by omega)]; exact ⟨h1, h2⟩
    · obtain rfl : k = n := by omega
      rw [holdK_hit hs l k h]
      exact ⟨by simp, by simp⟩

set_option maxHeartbeats 3200000 in
theorem look_ok (w : World) (tp : Option Addr) (is : Bool) (hs : List Int) (c l : Int) (hTP : TP w tp is hs) :
    Calls Try.prog 12 #[.pointer tp, .agg (refCells is hs), .int .i64 c, .int .i64 l] w fun e w' => e = .returned (.bool true) ∧ Kp NoB w w' := by
  have HT := Lib.hid hTP
  have HBX : Hid (Blk (w.alloc (.cells (refCells is hs) 29)) w.heap.size 29 (refCells is hs)) := Lib.hid (Blk.new _ _ _)
  have H8 := Lib.hid hTP.len
  clear hTP
  go_enter Try.func12, Try.ntmps12
  go_wp2
  go_loopw [9] (fun i wr => ∃ k : Nat, k ≤ 8 ∧ i = .int .i64 k ∧ Kp NoB w wr ∧ Blk wr w.heap.size 29 (refCells is hs)) (fun i _ => 8 - (intOf i).toNat)
  case atStart => exact ⟨0, by omega, rfl, (Kp.refl _ _).alloc _, HBX.out⟩
  case round =>
    obtain ⟨k, hk, rfl, hkp, hbx⟩ := hrel
    have HBX' := Lib.hid hbx
    clear hbx
    have HT' := Lib.hid (HT.out.keep hkp (fun _ _ q => q))
    by_cases hlt : k < 8
    · have hc := RBlk.cell HBX'.out k (by rw [H8.out]; exact hlt)
      go_wp2
      go_quiet ((go_at_call 13; exact Calls.quiet_of_same (has_at _ tp is hs k (HT'.out.keep ((Kp.refl NoB _).drewN _) (fun _ _ q => q)) hlt)))
      go_wp2
      exact ⟨⟨k + 1, by omega, by congr 1, hkp.drewN _, HBX'.out⟩, by simp [intOf]; omega⟩
    · obtain rfl : k = 8 := by omega
      by_cases hin : is = true ∧ 0 ≤ l ∧ l ≤ 3
      · obtain ⟨rfl, hl0, hl3⟩ := hin
        have HX := Lib.hid (show holdT true hs l = holdK hs l 8 by unfold holdT holdI; rw [if_pos rfl, if_pos (by unfold wrongI; rw [if_neg (by omega)])])
        obtain ⟨N, hN⟩ : ∃ N, (holdK hs l 8).length = N := ⟨_, rfl⟩
        have hN8 : N ≤ 8 := by rw [← hN]; exact holdK_len hs l 8
        have HN := Lib.hid hN
        clear hN
        go_wp2_with (go_at_call 14; refine (holders_is _ _ _ _ _ HT'.out _ _ HX.out HN.out).mono ?_; rintro e w2 ⟨A, cap, rfl, hown, hk2⟩; have HOWN := Lib.hid hown; clear hown; have hb2 := (HBX'.out.keep hk2 (fun q => q)); have hc2 := RBlk.is hb2; have HB2 := Lib.hid hb2; clear hb2)
        go_loop [11, 12] (fun n o => ∃ k m : Nat, k ≤ 8 ∧ o = .int .i64 k ∧ n = .int .i64 m ∧ (holdK hs l k).length = m) (fun _ o => 8 - (intOf o).toNat)
        case atStart => exact ⟨0, 0, by omega, rfl, rfl, rfl⟩
        case round =>
          obtain ⟨k, m, hk8, rfl, rfl, hm⟩ := hrel
          have HM := Lib.hid hm
          clear hm
          by_cases hlt2 : k < 8
          · have hcell := RBlk.cell HB2.out k (by rw [H8.out]; exact hlt2)
            by_cases hle : l ≤ hs[k]?.getD 0
            · obtain ⟨q1, q2⟩ := holdK_lt hs l k 8 hlt2 hle
              rw [HM.out, HN.out] at q1
              rw [HM.out] at q2
              obtain ⟨g, rfl, hg1, hg2⟩ := own_at HOWN.out (by omega)
              have hcg : w2.cell? ⟨g, m, none⟩ = some (.int .i64 k) := by
                rw [HOWN.out.cellAt m (by omega)]
                simp [ints, q2]
              clear q2
              have hmm : ((m : Int) < N) := by omega
              go_wp2
              exact ⟨⟨k + 1, m + 1, by omega, by congr 1, by congr 1, by rw [holdK_hit _ _ _ hle, List.length_append, HM.out]; rfl⟩, by simp [intOf]; omega⟩
            · go_wp2
              exact ⟨⟨k + 1, m, by omega, by congr 1, rfl, by rw [holdK_skip _ _ _ (by omega), HM.out]⟩, by simp [intOf]; omega⟩
          · obtain rfl : k = 8 := by omega
            obtain rfl : m = N := by rw [← HM.out, HN.out]
            go_wp2
            go_loopw [13] (fun i wr => ∃ j : Nat, ∃ ys, j ≤ m ∧ i = .int .i64 j ∧ wr.ownsRow w.heap.size 3 1 (.slice A m cap) m ys ∧ Kp NoB w wr) (fun i _ => m - (intOf i).toNat)
            case atStart => exact ⟨0, _, by omega, rfl, HOWN.out.mono hkp.size, hkp.trans hk2 (fun _ _ q => q)⟩
            case round =>
              obtain ⟨j, ys, hj, rfl, how, hkr⟩ := hrel
              have hys : ys.length = m := by have := how.1; omega
              by_cases hjm : j < m
              · obtain ⟨g, rfl, hg1, hg2⟩ := own_at how (by omega)
                have hcg : wr.cell? ⟨g, j, none⟩ = some (ys[j]) := by
                  rw [how.cellAt j (by omega), List.getElem?_eq_getElem]
                have hfz := how.frozenAt j
                obtain ⟨y, hy⟩ : ∃ y, y = ys[j] := ⟨_, rfl⟩
                rw [← hy] at hcg
                clear hy
                have how2 := Lib.hid (how.stored j (.int .i64 77))
                have HHOW := Lib.hid how
                clear how
                have hji : (j : Int) < m := by omega
                go_wp2
                exact ⟨⟨j + 1, _, by omega, by congr 1, how2.out.1, Kp.setCell hkr (p := ⟨g, j, none⟩) (.inl hg1) _⟩, by simp [intOf]; omega⟩
              · obtain rfl : j = m := by omega
                have HT3 := Lib.hid (HT.out.keep hkr (fun _ _ q => q))
                by_cases hc : 0 ≤ c ∧ c < 8
                · obtain ⟨hc0, hc8⟩ := hc
                  go_wp2
                  go_ret
                  exact ⟨rfl, hkr⟩
                · have HHAS := Lib.hid (show hasI hs c = 0 by unfold hasI; rw [if_pos (by omega)])
                  rcases (show c < 0 ∨ (0 ≤ c ∧ 8 ≤ c) by omega) with hc | ⟨hc, hc'⟩
                  · go_wp2_with (go_at_call 13; refine (has_z _ _ _ _ _ HT3.out HHAS.out).mono ?_; rintro e w4 ⟨rfl, rfl⟩)
                    go_ret
                    exact ⟨rfl, hkr⟩
                  · go_wp2_with (go_at_call 13; refine (has_z _ _ _ _ _ HT3.out HHAS.out).mono ?_; rintro e w4 ⟨rfl, rfl⟩)
                    go_ret
                    exact ⟨rfl, hkr⟩
      · have HX := Lib.hid (show holdT is hs l = [] by
          unfold holdT holdI
          cases is
          · rfl
          · rw [if_pos rfl, if_neg (by unfold wrongI; rw [if_pos (by simp at hin; omega)]; decide)])
        have Hin := Lib.hid hin
        clear hin
        cases is
        · go_wp2_with (go_at_call 14; refine (holders_is _ _ _ _ _ HT'.out _ 0 HX.out rfl).mono ?_; rintro e w2 ⟨A, cap, rfl, hown, hk2⟩; have HOWN := Lib.hid hown; clear hown; have hb2 := (HBX'.out.keep hk2 (fun q => q)); have hc2 := RBlk.is hb2; have HB2 := Lib.hid hb2; clear hb2)
          go_ret
          exact ⟨rfl, hkp.trans hk2 (fun _ _ q => q)⟩
        · rcases (show l < 0 ∨ (0 ≤ l ∧ 3 < l) by have := Hin.out; simp at this; omega) with hl | ⟨hl, hl'⟩
          · go_wp2_with (go_at_call 14; refine (holders_is _ _ _ _ _ HT'.out _ 0 HX.out rfl).mono ?_; rintro e w2 ⟨A, cap, rfl, hown, hk2⟩; have HOWN := Lib.hid hown; clear hown; have hb2 := (HBX'.out.keep hk2 (fun q => q)); have hc2 := RBlk.is hb2; have HB2 := Lib.hid hb2; clear hb2)
            go_ret
            exact ⟨rfl, hkp.trans hk2 (fun _ _ q => q)⟩
          · go_wp2_with (go_at_call 14; refine (holders_is _ _ _ _ _ HT'.out _ 0 HX.out rfl).mono ?_; rintro e w2 ⟨A, cap, rfl, hown, hk2⟩; have HOWN := Lib.hid hown; clear hown; have hb2 := (HBX'.out.keep hk2 (fun q => q)); have hc2 := RBlk.is hb2; have HB2 := Lib.hid hb2; clear hb2)
            go_ret
            exact ⟨rfl, hkp.trans hk2 (fun _ _ q => q)⟩
end Go.Proofs.Ytmkhhjpfchaopaa
