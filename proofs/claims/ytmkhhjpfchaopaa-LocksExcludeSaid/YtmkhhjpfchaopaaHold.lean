/- What Holders answers; no condition. -/
import Derived.Test.YtmkhhjpfchaopaaMethods
namespace Go.Proofs.Ytmkhhjpfchaopaa
open Go.RowKit

/-- who holds a lock or more, among the first k -/
def holdK (hs : List Int) (l : Int) (k : Nat) : List Nat := (List.range k).filter fun o => decide (l ≤ hs.getD o 0)
theorem holdK_skip (hs : List Int) (l : Int) (k : Nat) (h : hs[k]?.getD 0 < l) : holdK hs l (k + 1) = holdK hs l k := by
  unfold holdK
  rw [List.range_succ, List.filter_append]
  simp [h]
theorem holdK_hit (hs : List Int) (l : Int) (k : Nat) (h : l ≤ hs[k]?.getD 0) : holdK hs l (k + 1) = holdK hs l k ++ [k] := by
  unfold holdK
  rw [List.range_succ, List.filter_append]
  simp [h]
theorem holdK_len (hs : List Int) (l : Int) (k : Nat) : (holdK hs l k).length ≤ k := by
  unfold holdK
  exact Nat.le_trans (List.length_filter_le _ _) (by simp)
def ints (l : List Nat) : List Value := l.map fun (n : Nat) => Value.int .i64 (n : Int)
theorem int_info : (Try.prog.info? 3).map (fun i => (i.zero, i.size, i.bytes)) = some (some (.int .i64 0), 1, 8) := by kernel_rfl

def holdI (hs : List Int) (l : Int) : List Nat := if wrongI 0 l = 0 then holdK hs l 8 else []

theorem holders_nil (w : World) (l : Int) : Calls Try.prog 14 #[.pointer none, .int .i64 l] w fun e w' => e = .returned (.slice none 0 0) ∧ w = w' := by
  go_enter Try.func14, Try.ntmps14
  go_wp2_with (go_at_call 15; refine (wrong_nil _ _ _).mono ?_; rintro e w' ⟨rfl, rfl⟩)
  go_ret
  exact ⟨rfl, rfl⟩

def HoldPost (w : World) (hs : List Int) (l : Int) (e : Ending) (w' : World) : Prop :=
  ∃ v, e = .returned v ∧ w'.ownsRow w.heap.size 3 1 v (holdI hs l).length (ints (holdI hs l)) ∧ Kp NoB w w'

set_option maxHeartbeats 800000 in
theorem holders_ok (w : World) (b : Nat) (hs : List Int) (l : Int) (hT : Tab w b hs) : Calls Try.prog 14 #[.pointer (some ⟨b, 0, none⟩), .int .i64 l] w (HoldPost w hs l) := by
  have hix : ∀ (k : Nat), k < 8 → ∀ w, (Instr.index 44 (.agg (hs.map (Value.int .i64)).toArray) (.int .i64 k)).run Try.prog w = .ok (.int .i64 (hs.getD k 0)) w := by
    intro k hk w
    obtain ⟨i, hi, hi1⟩ : ∃ i, Try.prog.info? 35 = some i ∧ i.size = 1 := ⟨_, rfl, by kernel_rfl⟩
    exact run_index_arr w 44 35 8 _ i Try.underlying44 Try.underlying35 rfl hi hi1 _ k hk _ (by simp [hT.1, hk])
  obtain ⟨i0, hi0, hz0, hz1, hz2⟩ := info_parts int_info
  have HT := Lib.hid hT
  have Hix := Lib.hid hix
  have HI := Lib.hid hi0
  have HZ0 := Lib.hid hz0
  have HZ1 := Lib.hid hz1
  have HZ2 := Lib.hid hz2
  clear hT hix hi0 hz0 hz1 hz2
  rcases wrongI_cases 0 l with ⟨h, hb⟩ | ⟨h, h0, h1, h2, h3⟩
  · have H := Lib.hid h
    clear h
    go_enter Try.func14, Try.ntmps14
    go_wp2_with (go_at_call 15; refine (wrong_bad _ _ _ _ _ HT.out H.out).mono ?_; rintro e w' ⟨rfl, rfl⟩)
    have e : holdI hs l = [] := by simp [holdI, H.out]
    go_ret
    exact ⟨_, rfl, by rw [e]; exact ⟨rfl, .inl ⟨rfl, rfl⟩⟩, Kp.refl _ _⟩
  · have HE := Lib.hid (show holdI hs l = holdK hs l 8 by simp [holdI, h])
    have H := Lib.hid h
    clear h
    go_enter Try.func14, Try.ntmps14
    go_wp2_with (first
      | (go_at_call 15; refine (wrong_fine _ _ _ _ _ HT.out H.out).mono ?_; rintro e w' ⟨rfl, rfl⟩)
      | (refine wpList_load_sub rfl 44 (.tmp 14) rfl b 0 rfl (hs.map (Value.int .i64)) _ HT.out.sub Try.underlying44 rfl ?c1 ?_))
    case c1 => rw [List.length_map, HT.out.1]; kernel_rfl
    go_loopw [5, 16] (fun v i wr => ∃ k : Nat, k ≤ 8 ∧ i = .int .i64 k ∧ wr.ownsRow w.heap.size 3 1 v (holdK hs l k).length (ints (holdK hs l k)) ∧ Kp NoB w wr) (fun _ i _ => 8 - (intOf i).toNat)
    case atStart => exact ⟨0, by omega, rfl, ⟨rfl, .inl ⟨rfl, rfl⟩⟩, Kp.refl _ _⟩
    case round =>
      obtain ⟨k, hk, rfl, hown, hkp⟩ := hrel
      by_cases hlt : k < 8
      · have hix := Hix.out k hlt
        have hlen := holdK_len hs l k
        go_wp2_with (at_builtin; refine wpList_append_own _ rfl _ _ 41 rfl w.heap.size 3 i0 (.int .i64 0) 1 8 Try.underlying41 HI.out HZ0.out HZ1.out HZ2.out rfl (by decide) _ _ _ rfl (hown.alloc _) ⟨wr.heap.size, 0, none⟩ 1 1 [.int .i64 (k : Int)] rfl rfl (cell_one_new _ _ _) (by simp [Value.oneCell']) (by unfold maxLen; omega) (by omega) (by have := hkp.size; simp; omega) ?_; intro v' w1 hown1 hgrow1 _)
        · exact ⟨⟨k + 1, by omega, by congr 1, by rw [holdK_hit _ _ _ ‹_›]; simpa [ints] using hown1, (hkp.alloc _).own hgrow1 rfl hown⟩, by simp [intOf]; omega⟩
        · exact ⟨⟨k + 1, by omega, by congr 1, by rw [holdK_skip _ _ _ ‹_›]; exact hown, hkp⟩, by simp [intOf]; omega⟩
      · obtain rfl : k = 8 := by omega
        go_wp2
        go_ret
        exact ⟨_, rfl, by rw [HE.out]; exact hown, hkp⟩
end Go.Proofs.Ytmkhhjpfchaopaa
