/- The stand-in disk: Write whole, and the small functions; no condition but on the texts' lengths and the counts. -/
import Derived.Test.YtdgjglocgdccbaaDkWr2
namespace Go.Proofs.Ytdgjglocgdccbaa
open Go.RowKit

theorem write_ok (w : World) (n0 : Nat) (x : Dd) (p : Pl) (s : ByteArray) (a : Int) (d : ByteArray) (h : Dk n0 w x) (hp : Of x p) (hs : s.size ≤ maxLen) (hds : d.size ≤ maxLen) (hn0 : n0 ≤ w.heap.size)
    (hm : p.nf < 1099511627776 - 10) (hpd : p.pd.length < 1099511627776 - 20000) :
    Calls Try.prog 11 #[ptrV x.db, .string s, .int .i64 a, .string d] w (WrPost n0 w x p s a (strI d)) := by
  rcases hd : p.down with _ | _
  · by_cases ha : a < 0
    · exact write_neg w n0 x p s a d h hp hd ha
    · by_cases hl : 1048576 < a ∨ 1048576 - a < d.size
      · exact write_long w n0 x p s a d h hp hd (by omega) hds hl
      · by_cases hz : d.size = 0
        · exact write_none w n0 x p s a d h hp hd (by omega) (by omega) hz
        · by_cases hf : p.fits s (max (a + d.size) (p.seen s).length) = 0
          · exact write_main w n0 x p s a a.toNat d h hp hs hd (by omega) (by omega) (by omega) hn0 hm hpd hf
          · exact write_full w n0 x p s a d h hp hs hd (by omega) (by omega) (by omega) hf
  · exact write_down w n0 x p s a d h hp hd

set_option maxRecDepth 100000 in
theorem len_ok (w : World) (n0 : Nat) (x : Dd) (p : Pl) (s : ByteArray) (h : Dk n0 w x) (hp : Of x p) (hs : s.size ≤ maxLen) :
    Calls Try.prog 15 #[ptrV x.db, .string s] w fun e w' => e = .returned (.int .i64 (p.len s)) ∧ w = w' := by
  have H := Lib.hid h
  have HP := Lib.hid hp
  have HS := Lib.hid hs
  have hd := h.blk
  have c5 : w.cell? ⟨x.db, 5, none⟩ = some (.bool p.down) := by rw [h.blk.cell, hp.down]; rfl
  obtain ⟨db, hdb⟩ : ∃ db, x.db = db := ⟨_, rfl⟩
  have HX := Lib.hid hdb
  obtain ⟨m, hm⟩ : ∃ m, (seenOf x.fs s).length = m := ⟨_, rfl⟩
  have HM := Lib.hid hm
  rw [hdb] at c5 ⊢
  rcases hdn : p.down with _ | _
  · have HDN := Lib.hid hdn
    rw [hdn] at c5
    clear h hp hs hd hdb hdn hm
    unfold ptrV
    go_enter Try.func15, Try.ntmps15
    go_wp2_with (first
      | (go_at_call 29; go_must (refine (show Calls _ _ #[ptrV db] _ _ by rw [← HX.out]; exact is_ok _ _ _ H.out).mono ?_); rintro e w2 ⟨rfl, rfl⟩)
      | (go_at_call 33; go_must (refine (show Calls _ _ #[ptrV db, .string s] _ _ by rw [← HX.out]; exact bytes_ok _ _ _ _ HS.out H.out).mono ?_); rintro e w3 ⟨B, cap, rfl, _, rfl⟩; rw [HM.out]))
    go_ret
    exact ⟨by unfold Pl.len; rw [HDN.out, ← HP.out.seen_eq, HM.out]; rfl, rfl⟩
  · have HDN := Lib.hid hdn
    rw [hdn] at c5
    clear h hp hs hd hdb hdn hm
    unfold ptrV
    go_enter Try.func15, Try.ntmps15
    go_wp2_with (go_at_call 29; go_must (refine (show Calls _ _ #[ptrV db] _ _ by rw [← HX.out]; exact is_ok _ _ _ H.out).mono ?_); rintro e w2 ⟨rfl, rfl⟩)
    go_ret
    exact ⟨by unfold Pl.len; rw [HDN.out]; rfl, rfl⟩
set_option maxRecDepth 100000 in
theorem setroom_ok (w : World) (n0 : Nat) (x : Dd) (p : Pl) (n : Int) (hn : -9223372036854775808 ≤ n ∧ n ≤ 9223372036854775807) (h : Dk n0 w x) (hp : Of x p) :
    Calls Try.prog 24 #[ptrV x.db, .int .i64 n] w fun e w' => e = .returned (.tuple #[]) ∧ To n0 w x (p.setRoom n) w' := by
  have H := Lib.hid h
  have HP := Lib.hid hp
  obtain ⟨db, hdb⟩ : ∃ db, x.db = db := ⟨_, rfl⟩
  have HX := Lib.hid hdb
  have c : w.cell? ⟨x.db, 2, none⟩ = some (.int .i64 x.room) := by rw [h.blk.cell]; rfl
  have z : w.frozen? ⟨x.db, 2, none⟩ = false := h.blk.frozen 2
  rw [hdb] at c z ⊢
  have fin : Hid (∀ m, max 0 n = m → To n0 w x (p.setRoom n) (w.setCell ⟨db, 2, none⟩ (.int .i64 m))) := Lib.hid (by
    rintro m hm
    have k : Kp (OnB x.db) w (w.setCell ⟨x.db, 2, none⟩ (.int .i64 m)) := (Kp.refl (OnB x.db) w).setAt rfl _ _
    have hb := H.out.blk.set_ 2 (.int .i64 m)
    rw [← HX.out]
    have hd := H.out.numbers k m x.steps x.crash x.down x.starts (by simpa [diskCells] using hb) (by omega) H.out.c0
    exact ⟨_, hd, { HP.out with room := by simp only [Pl.setRoom, hm] }, rfl, k.mono (fun _ _ q => .inl q), fun b hb => .inl hb⟩)
  clear h hp hdb
  unfold ptrV
  rcases (show n < 0 ∨ n = 0 ∨ 0 < n by omega) with h0 | rfl | h0
  · have hh : ¬ 0 ≤ n := by omega
    go_enter Try.func24, Try.ntmps24
    go_wp2_with (go_at_call 29; go_must (refine (show Calls _ _ #[ptrV db] _ _ by rw [← HX.out]; exact is_ok _ _ _ H.out).mono ?_); rintro e w2 ⟨rfl, rfl⟩)
    all_goals exact bodyPost_end (results_none rfl _ _ _) rfl ⟨rfl, fin.out _ (by omega)⟩
  · go_enter Try.func24, Try.ntmps24
    go_wp2_with (go_at_call 29; go_must (refine (show Calls _ _ #[ptrV db] _ _ by rw [← HX.out]; exact is_ok _ _ _ H.out).mono ?_); rintro e w2 ⟨rfl, rfl⟩)
    all_goals exact bodyPost_end (results_none rfl _ _ _) rfl ⟨rfl, fin.out _ (by omega)⟩
  · have hh : 0 ≤ n := by omega
    go_enter Try.func24, Try.ntmps24
    go_wp2_with (go_at_call 29; go_must (refine (show Calls _ _ #[ptrV db] _ _ by rw [← HX.out]; exact is_ok _ _ _ H.out).mono ?_); rintro e w2 ⟨rfl, rfl⟩)
    all_goals exact bodyPost_end (results_none rfl _ _ _) rfl ⟨rfl, fin.out _ (by omega)⟩
set_option maxRecDepth 100000 in
theorem crashin_ok (w : World) (n0 : Nat) (x : Dd) (p : Pl) (n : Int) (hn : -9223372036854775808 ≤ n ∧ n ≤ 9223372036854775807) (h : Dk n0 w x) (hp : Of x p) :
    Calls Try.prog 10 #[ptrV x.db, .int .i64 n] w fun e w' => e = .returned (.tuple #[]) ∧ To n0 w x (p.crashIn n) w' := by
  have H := Lib.hid h
  have HP := Lib.hid hp
  obtain ⟨db, hdb⟩ : ∃ db, x.db = db := ⟨_, rfl⟩
  have HX := Lib.hid hdb
  have c : w.cell? ⟨x.db, 4, none⟩ = some (.int .i64 x.crash) := by rw [h.blk.cell]; rfl
  have z : w.frozen? ⟨x.db, 4, none⟩ = false := h.blk.frozen 4
  rw [hdb] at c z ⊢
  have fin : Hid (∀ m, max 0 n = m → To n0 w x (p.crashIn n) (w.setCell ⟨db, 4, none⟩ (.int .i64 m))) := Lib.hid (by
    rintro m hm
    have k : Kp (OnB x.db) w (w.setCell ⟨x.db, 4, none⟩ (.int .i64 m)) := (Kp.refl (OnB x.db) w).setAt rfl _ _
    have hb := H.out.blk.set_ 4 (.int .i64 m)
    rw [← HX.out]
    have hd := H.out.numbers k x.room x.steps m x.down x.starts (by simpa [diskCells] using hb) H.out.r0 (by omega)
    exact ⟨_, hd, { HP.out with crash := by simp only [Pl.crashIn, hm] }, rfl, k.mono (fun _ _ q => .inl q), fun b hb => .inl hb⟩)
  clear h hp hdb
  unfold ptrV
  rcases (show n < 0 ∨ n = 0 ∨ 0 < n by omega) with h0 | rfl | h0
  · have hh : ¬ 0 ≤ n := by omega
    go_enter Try.func10, Try.ntmps10
    go_wp2_with (go_at_call 29; go_must (refine (show Calls _ _ #[ptrV db] _ _ by rw [← HX.out]; exact is_ok _ _ _ H.out).mono ?_); rintro e w2 ⟨rfl, rfl⟩)
    all_goals exact bodyPost_end (results_none rfl _ _ _) rfl ⟨rfl, fin.out _ (by omega)⟩
  · go_enter Try.func10, Try.ntmps10
    go_wp2_with (go_at_call 29; go_must (refine (show Calls _ _ #[ptrV db] _ _ by rw [← HX.out]; exact is_ok _ _ _ H.out).mono ?_); rintro e w2 ⟨rfl, rfl⟩)
    all_goals exact bodyPost_end (results_none rfl _ _ _) rfl ⟨rfl, fin.out _ (by omega)⟩
  · have hh : 0 ≤ n := by omega
    go_enter Try.func10, Try.ntmps10
    go_wp2_with (go_at_call 29; go_must (refine (show Calls _ _ #[ptrV db] _ _ by rw [← HX.out]; exact is_ok _ _ _ H.out).mono ?_); rintro e w2 ⟨rfl, rfl⟩)
    all_goals exact bodyPost_end (results_none rfl _ _ _) rfl ⟨rfl, fin.out _ (by omega)⟩
set_option maxRecDepth 100000 in
theorem crash_ok (w : World) (n0 : Nat) (x : Dd) (p : Pl) (h : Dk n0 w x) (hp : Of x p) :
    Calls Try.prog 20 #[ptrV x.db] w fun e w' => e = .returned (.tuple #[]) ∧ To n0 w x p.crashNow w' := by
  have H := Lib.hid h
  have HP := Lib.hid hp
  obtain ⟨db, hdb⟩ : ∃ db, x.db = db := ⟨_, rfl⟩
  have HX := Lib.hid hdb
  have c : w.cell? ⟨x.db, 5, none⟩ = some (.bool x.down) := by rw [h.blk.cell]; rfl
  have z : w.frozen? ⟨x.db, 5, none⟩ = false := h.blk.frozen 5
  rw [hdb] at c z ⊢
  have fin : Hid (To n0 w x p.crashNow (w.setCell ⟨db, 5, none⟩ (.bool true))) := Lib.hid (by
    have k : Kp (OnB x.db) w (w.setCell ⟨x.db, 5, none⟩ (.bool true)) := (Kp.refl (OnB x.db) w).setAt rfl _ _
    have hb := H.out.blk.set_ 5 (.bool true)
    rw [← HX.out]
    have hd := H.out.numbers k x.room x.steps x.crash true x.starts (by simpa [diskCells] using hb) H.out.r0 H.out.c0
    exact ⟨_, hd, { HP.out with down := rfl }, rfl, k.mono (fun _ _ q => .inl q), fun b hb => .inl hb⟩)
  clear h hp hdb
  unfold ptrV
  go_enter Try.func20, Try.ntmps20
  go_wp2_with (go_at_call 29; go_must (refine (show Calls _ _ #[ptrV db] _ _ by rw [← HX.out]; exact is_ok _ _ _ H.out).mono ?_); rintro e w2 ⟨rfl, rfl⟩)
  exact bodyPost_end (results_none rfl _ _ _) rfl ⟨rfl, fin.out⟩
set_option maxRecDepth 100000 in
theorem down_ok (w : World) (n0 : Nat) (x : Dd) (p : Pl) (h : Dk n0 w x) (hp : Of x p) :
    Calls Try.prog 12 #[ptrV x.db] w fun e w' => e = .returned (.bool p.down) ∧ w = w' := by
  have H := Lib.hid h
  obtain ⟨db, hdb⟩ : ∃ db, x.db = db := ⟨_, rfl⟩
  have HX := Lib.hid hdb
  have c : w.cell? ⟨x.db, 5, none⟩ = some (.bool p.down) := by rw [h.blk.cell, hp.down]; rfl
  rw [hdb] at c ⊢
  generalize p.down = dn at c ⊢
  clear h hp hdb
  unfold ptrV
  go_enter Try.func12, Try.ntmps12
  go_wp2_with (go_at_call 29; go_must (refine (show Calls _ _ #[ptrV db] _ _ by rw [← HX.out]; exact is_ok _ _ _ H.out).mono ?_); rintro e w2 ⟨rfl, rfl⟩)
  go_ret
  exact ⟨rfl, rfl⟩
set_option maxRecDepth 100000 in
theorem steps_ok (w : World) (n0 : Nat) (x : Dd) (p : Pl) (h : Dk n0 w x) (hp : Of x p) :
    Calls Try.prog 27 #[ptrV x.db] w fun e w' => e = .returned (.int .i64 p.steps) ∧ w = w' := by
  have H := Lib.hid h
  obtain ⟨db, hdb⟩ : ∃ db, x.db = db := ⟨_, rfl⟩
  have HX := Lib.hid hdb
  have c : w.cell? ⟨x.db, 3, none⟩ = some (.int .i64 p.steps) := by rw [h.blk.cell, hp.steps]; rfl
  rw [hdb] at c ⊢
  generalize p.steps = dn at c ⊢
  clear h hp hdb
  unfold ptrV
  go_enter Try.func27, Try.ntmps27
  go_wp2_with (go_at_call 29; go_must (refine (show Calls _ _ #[ptrV db] _ _ by rw [← HX.out]; exact is_ok _ _ _ H.out).mono ?_); rintro e w2 ⟨rfl, rfl⟩)
  go_ret
  exact ⟨rfl, rfl⟩
set_option maxRecDepth 100000 in
theorem starts_ok (w : World) (n0 : Nat) (x : Dd) (p : Pl) (h : Dk n0 w x) (hp : Of x p) :
    Calls Try.prog 28 #[ptrV x.db] w fun e w' => e = .returned (.int .i64 p.starts) ∧ w = w' := by
  have H := Lib.hid h
  obtain ⟨db, hdb⟩ : ∃ db, x.db = db := ⟨_, rfl⟩
  have HX := Lib.hid hdb
  have c : w.cell? ⟨x.db, 6, none⟩ = some (.int .i64 p.starts) := by rw [h.blk.cell, hp.starts]; rfl
  rw [hdb] at c ⊢
  generalize p.starts = dn at c ⊢
  clear h hp hdb
  unfold ptrV
  go_enter Try.func28, Try.ntmps28
  go_wp2_with (go_at_call 29; go_must (refine (show Calls _ _ #[ptrV db] _ _ by rw [← HX.out]; exact is_ok _ _ _ H.out).mono ?_); rintro e w2 ⟨rfl, rfl⟩)
  go_ret
  exact ⟨rfl, rfl⟩
set_option maxRecDepth 100000 in
theorem pending_ok (w : World) (n0 : Nat) (x : Dd) (p : Pl) (h : Dk n0 w x) (hp : Of x p) :
    Calls Try.prog 18 #[ptrV x.db] w fun e w' => e = .returned (.int .i64 (p.pd.length : Nat)) ∧ w = w' := by
  have H := Lib.hid h
  obtain ⟨db, hdb⟩ : ∃ db, x.db = db := ⟨_, rfl⟩
  have HX := Lib.hid hdb
  obtain ⟨A, cap, hpv⟩ := own_slice h.pend
  have c : w.cell? ⟨x.db, 1, none⟩ = some (.slice A p.pd.length cap) := by rw [h.blk.cell, hp.pd, ← hpv]; rfl
  rw [hdb] at c ⊢
  generalize p.pd.length = dn at c ⊢
  clear h hp hdb hpv
  unfold ptrV
  go_enter Try.func18, Try.ntmps18
  go_wp2_with (go_at_call 29; go_must (refine (show Calls _ _ #[ptrV db] _ _ by rw [← HX.out]; exact is_ok _ _ _ H.out).mono ?_); rintro e w2 ⟨rfl, rfl⟩)
  go_ret
  exact ⟨rfl, rfl⟩
end Go.Proofs.Ytdgjglocgdccbaa
