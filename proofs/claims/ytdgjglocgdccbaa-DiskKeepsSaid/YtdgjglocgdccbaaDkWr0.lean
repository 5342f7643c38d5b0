/- The stand-in disk: Write, refused; no condition but on the texts' lengths. -/
import Derived.Test.YtdgjglocgdccbaaDkLen
namespace Go.Proofs.Ytdgjglocgdccbaa
open Go.RowKit

theorem wrong_p (w : World) (n0 : Nat) (x : Dd) (p : Pl) (h : Dk n0 w x) (hp : Of x p) (d : Bool) (hd : p.down = d) : Calls Try.prog 30 #[ptrV x.db] w fun e w' => e = .returned (.int .i64 (if d then 7 else 0)) ∧ w = w' := by
  have := wrong_ok w n0 x h
  rw [← hp.down, hd] at this
  exact this
theorem step_p (w : World) (n0 : Nat) (x : Dd) (p : Pl) (h : Dk n0 w x) (hp : Of x p) :
    Calls Try.prog 31 #[ptrV x.db] w fun e w' => e = .returned (.int .i64 p.stepE) ∧ To n0 w x p.step w' :=
  (step_ok w n0 x h).mono fun e w' ⟨he, hd, hk⟩ => ⟨by rw [he]; unfold stepE Pl.stepE; rw [hp.crash], stepF x, hd, { hp with steps := by simp only [Pl.step, stepF, hp.steps], crash := by simp only [Pl.step, stepF, hp.crash], down := by simp only [Pl.step, stepF, hp.crash, hp.down] }, rfl, hk.mono (fun _ _ q => .inl q), fun b hb => .inl hb⟩
def WrPost (n0 : Nat) (w : World) (x : Dd) (p : Pl) (s : ByteArray) (a : Int) (d : List Int) (e : Ending) (w' : World) : Prop := e = .returned (.int .i64 (p.writeE s a d)) ∧ To n0 w x (p.write s a d) w'
set_option maxRecDepth 100000 in
set_option maxHeartbeats 800000 in
theorem write_down (w : World) (n0 : Nat) (x : Dd) (p : Pl) (s : ByteArray) (a : Int) (d : ByteArray) (h : Dk n0 w x) (hp : Of x p) (hd : p.down = true) :
    Calls Try.prog 11 #[ptrV x.db, .string s, .int .i64 a, .string d] w (WrPost n0 w x p s a (strI d)) := by
  have H := Lib.hid h
  have HP := Lib.hid hp
  have HD := Lib.hid hd
  obtain ⟨db, hdb⟩ : ∃ db, x.db = db := ⟨_, rfl⟩
  have HX := Lib.hid hdb
  rw [hdb]
  clear h hp hd hdb
  unfold ptrV
  go_enter Try.func11, Try.ntmps11
  go_wp2_with (go_at_call 30; go_must (refine (show Calls _ _ #[ptrV db] _ _ by rw [← HX.out]; exact wrong_p _ n0 x p H.out HP.out true HD.out).mono ?_); rintro e w2 ⟨rfl, rfl⟩)
  go_ret
  exact ⟨by unfold Pl.writeE; simp [HD.out], by unfold Pl.write; simp only [HD.out, true_or, if_true]; exact To.refl H.out HP.out⟩
set_option maxRecDepth 100000 in
set_option maxHeartbeats 800000 in
theorem write_neg (w : World) (n0 : Nat) (x : Dd) (p : Pl) (s : ByteArray) (a : Int) (d : ByteArray) (h : Dk n0 w x) (hp : Of x p) (hd : p.down = false) (ha : a < 0) :
    Calls Try.prog 11 #[ptrV x.db, .string s, .int .i64 a, .string d] w (WrPost n0 w x p s a (strI d)) := by
  have H := Lib.hid h
  have HP := Lib.hid hp
  have HD := Lib.hid hd
  obtain ⟨db, hdb⟩ : ∃ db, x.db = db := ⟨_, rfl⟩
  have HX := Lib.hid hdb
  rw [hdb]
  clear h hp hd hdb
  unfold ptrV
  go_enter Try.func11, Try.ntmps11
  go_wp2_with (go_at_call 30; go_must (refine (show Calls _ _ #[ptrV db] _ _ by rw [← HX.out]; exact wrong_p _ n0 x p H.out HP.out false HD.out).mono ?_); rintro e w2 ⟨rfl, rfl⟩)
  go_ret
  exact ⟨by unfold Pl.writeE; simp [HD.out, ha], by unfold Pl.write; simp only [HD.out, ha, true_or, or_true, if_true]; exact To.refl H.out HP.out⟩
set_option maxRecDepth 100000 in
set_option maxHeartbeats 800000 in
theorem write_long (w : World) (n0 : Nat) (x : Dd) (p : Pl) (s : ByteArray) (a : Int) (d : ByteArray) (h : Dk n0 w x) (hp : Of x p) (hd : p.down = false) (ha : 0 ≤ a) (hds : d.size ≤ maxLen) (hl : 1048576 < a ∨ 1048576 - a < d.size) :
    Calls Try.prog 11 #[ptrV x.db, .string s, .int .i64 a, .string d] w (WrPost n0 w x p s a (strI d)) := by
  have H := Lib.hid h
  have HP := Lib.hid hp
  have HD := Lib.hid hd
  have HL := Lib.hid hl
  obtain ⟨db, hdb⟩ : ∃ db, x.db = db := ⟨_, rfl⟩
  have HX := Lib.hid hdb
  rw [hdb]
  unfold maxLen at hds
  have hna : ¬ a < 0 := by omega
  have fin : ∀ w2, w = w2 → WrPost n0 w x p s a (strI d) (.returned (.int .i64 3)) w2 := by
    rintro w2 rfl
    have hl' := HL.out
    exact ⟨by unfold Pl.writeE; simp only [HD.out, strI_len]; rw [if_neg (by simp), if_neg hna, if_pos hl'], by unfold Pl.write; simp only [HD.out, strI_len]; rw [if_pos (.inr (.inr hl'))]; exact To.refl H.out HP.out⟩
  have FIN := Lib.hid fin
  clear h hp hd hdb hl fin
  unfold ptrV
  by_cases h1 : 1048576 < a
  · go_enter Try.func11, Try.ntmps11
    go_wp2_with (go_at_call 30; go_must (refine (show Calls _ _ #[ptrV db] _ _ by rw [← HX.out]; exact wrong_p _ n0 x p H.out HP.out false HD.out).mono ?_); rintro e w2 ⟨rfl, rfl⟩)
    go_ret
    exact FIN.out _ rfl
  · have h2 : 1048576 - a < d.size := by have := HL.out; omega
    go_enter Try.func11, Try.ntmps11
    go_wp2_with (go_at_call 30; go_must (refine (show Calls _ _ #[ptrV db] _ _ by rw [← HX.out]; exact wrong_p _ n0 x p H.out HP.out false HD.out).mono ?_); rintro e w2 ⟨rfl, rfl⟩)
    go_ret
    exact FIN.out _ rfl
set_option maxRecDepth 100000 in
set_option maxHeartbeats 800000 in
theorem write_none (w : World) (n0 : Nat) (x : Dd) (p : Pl) (s : ByteArray) (a : Int) (d : ByteArray) (h : Dk n0 w x) (hp : Of x p) (hd : p.down = false) (ha : 0 ≤ a) (ha2 : a ≤ 1048576) (hz : d.size = 0) :
    Calls Try.prog 11 #[ptrV x.db, .string s, .int .i64 a, .string d] w (WrPost n0 w x p s a (strI d)) := by
  obtain rfl : d = ⟨#[]⟩ := by
    cases d with | mk a => simp [ByteArray.size] at hz; simp [hz]
  have H := Lib.hid h
  have HP := Lib.hid hp
  have HD := Lib.hid hd
  obtain ⟨db, hdb⟩ : ∃ db, x.db = db := ⟨_, rfl⟩
  have HX := Lib.hid hdb
  rw [hdb]
  have hna : ¬ a < 0 := by omega
  have fin : ∀ w2, To n0 w x p.step w2 → WrPost n0 w x p s a (strI ⟨#[]⟩) (.returned (.int .i64 p.stepE)) w2 := by
    intro w2 h2
    have e0 : strI ⟨#[]⟩ = [] := rfl
    rw [e0]
    exact ⟨by unfold Pl.writeE; simp only [HD.out, List.length_nil]; rw [if_neg (by simp), if_neg hna, if_neg (by omega)]; simp, by unfold Pl.write; simp only [HD.out, List.length_nil]; rw [if_neg (by simp; omega)]; simpa using h2⟩
  have FIN := Lib.hid fin
  clear h hp hd hdb hz fin
  unfold ptrV
  go_enter Try.func11, Try.ntmps11
  go_wp2_with (first
    | (go_at_call 30; go_must (refine (show Calls _ _ #[ptrV db] _ _ by rw [← HX.out]; exact wrong_p _ n0 x p H.out HP.out false HD.out).mono ?_); rintro e w2 ⟨rfl, rfl⟩)
    | (go_at_call 31; go_must (refine (show Calls _ _ #[ptrV db] _ _ by rw [← HX.out]; exact step_p _ n0 x p H.out HP.out).mono ?_); rintro e w3 ⟨rfl, ht3⟩; have HT := Lib.hid ht3; clear ht3))
  go_ret
  exact FIN.out _ HT.out
end Go.Proofs.Ytdgjglocgdccbaa
