/- The stand-in disk: New, is, wrong, bytes, at; no condition but on the name's length. -/
import Derived.Test.YtdgjglocgdccbaaDkMem
namespace Go.Proofs.Ytdgjglocgdccbaa
open Go.RowKit

theorem mapNe (b : Nat) (w : World) : (binOp .neq 61 (.map (some b)) (.map none)).run Try.prog w = .ok (.bool true) w := by kernel_rfl
def NewPost (n0 : Nat) (w : World) (r : Int) (e : Ending) (w' : World) : Prop := ∃ db mb, e = .returned (ptrV db) ∧ Dk n0 w' ⟨db, mb, 0, .slice none 0 0, [], [], r, 0, 0, false, 0⟩ ∧ Kp NoB w w' ∧ w.heap.size ≤ db ∧ w.heap.size ≤ mb
theorem new_post (n0 : Nat) (w : World) (r : Int) (hr : 0 ≤ r ∧ r ≤ 9223372036854775807) (hn : n0 ≤ w.heap.size) : NewPost n0 w r (.returned (.pointer (some ⟨w.heap.size + 1, 0, none⟩))) ((w.alloc (.map #[] 0)).alloc (.cells #[.map (some w.heap.size), .slice none 0 0, .int .i64 r, .int .i64 0, .int .i64 0, .bool false, .int .i64 0] 64)) := by
  refine ⟨w.heap.size + 1, w.heap.size, by simp [ptrV], ?_, ((Kp.refl NoB w).alloc _).alloc _, by omega, by omega⟩
  exact
    { blk := by
        have := Blk.newAt (w.alloc (.map #[] 0)) 64 (diskCells ⟨w.heap.size + 1, w.heap.size, 0, .slice none 0 0, [], [], r, 0, 0, false, 0⟩) (w.heap.size + 1) (by simp)
        simpa [diskCells] using this
      mp := ⟨_, (World.ownsMap_made w Try.prog 9 Rp).alloc _, MpD.nil⟩
      names := List.Pairwise.nil
      fbs := List.Pairwise.nil
      fls := by simp
      pend := World.ownsRow_nil _ _ _ _
      b0 := by simp; omega
      b1 := hn
      b2 := by simp
      s64 := by simp
      r0 := hr
      c0 := by simp }
set_option maxRecDepth 100000 in
theorem new_ok (w : World) (r : Int) (hr : -9223372036854775808 ≤ r ∧ r ≤ 9223372036854775807) (n0 : Nat) (hn : n0 ≤ w.heap.size) :
    Calls Try.prog 9 #[.int .i64 r] w (NewPost n0 w (max 0 r)) := by
  have hmm := @run_makeMap Try.prog
  obtain ⟨m, hm⟩ : ∃ m, max 0 r = m := ⟨_, rfl⟩
  have HM := Lib.hid (show 0 ≤ m ∧ m ≤ 9223372036854775807 by omega)
  have HN := Lib.hid hn
  rw [hm]
  rcases (show r < 0 ∨ r = 0 ∨ 0 < r by omega) with h0 | rfl | h0
  · obtain rfl : 0 = m := by omega
    have hh : ¬ 0 ≤ r := by omega
    clear hn hm
    go_enter Try.func9, Try.ntmps9
    go_wp2_with fail
    all_goals
      go_ret
      exact new_post n0 w _ HM.out HN.out
  · obtain rfl : 0 = m := by omega
    clear hn hm
    go_enter Try.func9, Try.ntmps9
    go_wp2_with fail
    all_goals
      go_ret
      exact new_post n0 w _ HM.out HN.out
  · obtain rfl : r = m := by omega
    have hh : 0 ≤ r := by omega
    clear hn hm
    go_enter Try.func9, Try.ntmps9
    go_wp2_with fail
    all_goals
      go_ret
      exact new_post n0 w _ HM.out HN.out
set_option maxRecDepth 100000 in
theorem is_ok (w : World) (n0 : Nat) (x : Dd) (h : Dk n0 w x) : Calls Try.prog 29 #[ptrV x.db] w fun e w' => e = .returned (.bool true) ∧ w = w' := by
  have c0 : w.cell? ⟨x.db, 0, none⟩ = some (.map (some x.mb)) := by rw [h.blk.cell]; rfl
  have hne := mapNe
  unfold ptrV
  go_enter Try.func29, Try.ntmps29
  go_wp2_with fail
  go_ret
  exact ⟨rfl, rfl⟩
set_option maxRecDepth 100000 in
theorem wrong_ok (w : World) (n0 : Nat) (x : Dd) (h : Dk n0 w x) : Calls Try.prog 30 #[ptrV x.db] w fun e w' => e = .returned (.int .i64 (if x.down then 7 else 0)) ∧ w = w' := by
  have H := Lib.hid h
  have c5 : w.cell? ⟨x.db, 5, none⟩ = some (.bool x.down) := by rw [h.blk.cell]; rfl
  clear h
  obtain ⟨db, hdb⟩ : ∃ db, x.db = db := ⟨_, rfl⟩
  rw [hdb] at c5 ⊢
  have HD := Lib.hid hdb
  clear hdb
  unfold ptrV
  cases hd : x.down
  · rw [hd] at c5
    go_enter Try.func30, Try.ntmps30
    go_wp2_with (go_at_call 29; go_must (refine (show Calls _ _ #[ptrV db] _ _ by rw [← HD.out]; exact is_ok _ _ _ H.out).mono ?_); rintro e w2 ⟨rfl, rfl⟩)
    go_ret
    exact ⟨rfl, rfl⟩
  · rw [hd] at c5
    go_enter Try.func30, Try.ntmps30
    go_wp2_with (go_at_call 29; go_must (refine (show Calls _ _ #[ptrV db] _ _ by rw [← HD.out]; exact is_ok _ _ _ H.out).mono ?_); rintro e w2 ⟨rfl, rfl⟩)
    go_ret
    exact ⟨rfl, rfl⟩
set_option maxRecDepth 100000 in
theorem bytes_ok (w : World) (n0 : Nat) (x : Dd) (s : ByteArray) (hs : s.size ≤ maxLen) (h : Dk n0 w x) : Calls Try.prog 33 #[ptrV x.db, .string s] w fun e w' => ∃ A cap, e = .returned (.slice A (seenOf x.fs s).length cap) ∧ Bq w n0 (.slice A (seenOf x.fs s).length cap) (seenOf x.fs s) ∧ w' = w := by
  have c0 : w.cell? ⟨x.db, 0, none⟩ = some (.map (some x.mb)) := by rw [h.blk.cell]; rfl
  have hl := h.look s hs
  have HL := Lib.hid hl
  unfold ptrV
  cases hf : findF x.fs (kOf s) with
  | none =>
    have hv : seenOf x.fs s = [] := by unfold seenOf; rw [hf]
    rw [show foundV x.fs (kOf s) = .pointer none by unfold foundV; rw [hf]] at hl
    clear HL
    rw [hv]
    go_enter Try.func33, Try.ntmps33
    go_wp2_with fail
    go_ret
    exact ⟨none, 0, rfl, Bq.none _ _, rfl⟩
  | some e =>
    have hv : seenOf x.fs s = e.seen := by unfold seenOf; rw [hf]
    rw [show foundV x.fs (kOf s) = .pointer (some ⟨e.fb, 0, none⟩) by unfold foundV; rw [hf]; rfl] at hl
    obtain ⟨u, v, hb, hu, hq⟩ := (h.fls e (findF_some hf).1).blk
    obtain ⟨A, cap, rfl⟩ := hu.form
    have c1 : w.cell? ⟨e.fb, 0, none⟩ = some (.slice A e.seen.length cap) := by rw [hb.cell]; rfl
    have HU := Lib.hid hu
    clear HL hu hb hq
    rw [hv]
    go_enter Try.func33, Try.ntmps33
    go_wp2_with fail
    go_ret
    exact ⟨A, cap, rfl, HU.out, rfl⟩
end Go.Proofs.Ytdgjglocgdccbaa
