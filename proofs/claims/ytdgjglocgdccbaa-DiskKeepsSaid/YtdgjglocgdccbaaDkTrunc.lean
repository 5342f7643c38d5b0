/- The stand-in disk: Truncate; no condition but on the texts' lengths and the counts. -/
import Derived.Test.YtdgjglocgdccbaaDkRead
namespace Go.Proofs.Ytdgjglocgdccbaa
open Go.RowKit

def TrPost (n0 : Nat) (w : World) (x : Dd) (p : Pl) (s : ByteArray) (n : Int) (e : Ending) (w' : World) : Prop := e = .returned (.int .i64 (p.truncE s n)) ∧ To n0 w x (p.trunc s n) w'
theorem To.step {n0 : Nat} {w w1 w2 : World} {x x1 : Dd} {p2 : Pl} (h1 : To n0 w1 x1 p2 w2) (d1 : x1.db = x.db) (k : Kp x.O w w1) (o : ∀ b, x1.O b → x.O b ∨ w.heap.size ≤ b) : To n0 w x p2 w2 := h1.trans d1 k o
set_option maxRecDepth 100000 in
set_option maxHeartbeats 800000 in
theorem trunc_ok (w : World) (n0 : Nat) (x : Dd) (p : Pl) (s : ByteArray) (n : Int) (hnn : -9223372036854775808 ≤ n ∧ n ≤ 9223372036854775807) (h : Dk n0 w x) (hp : Of x p) (hs : s.size ≤ maxLen) (hn0 : n0 ≤ w.heap.size)
    (hm : p.nf < 1099511627776 - 10) (hpd : p.pd.length < 1099511627776 - 20000) :
    Calls Try.prog 25 #[ptrV x.db, .string s, .int .i64 n] w (TrPost n0 w x p s n) := by
  have H := Lib.hid h
  have HP := Lib.hid hp
  have HS := Lib.hid hs
  have HN0 := Lib.hid hn0
  have HM := Lib.hid hm
  have HPD := Lib.hid hpd
  obtain ⟨db, hdb⟩ : ∃ db, x.db = db := ⟨_, rfl⟩
  have HX := Lib.hid hdb
  rw [hdb]
  rcases hdn : p.down with _ | _
  · have HDN := Lib.hid hdn
    clear h hp hs hn0 hm hpd hdb hdn
    unfold ptrV
    by_cases hneg : n < 0
    · have fin : Hid (TrPost n0 w x p s n (.returned (.int .i64 2)) w) := Lib.hid (by
        refine ⟨?_, ?_⟩
        · unfold Pl.truncE; rw [HDN.out, if_neg (by simp), if_pos hneg]
        · unfold Pl.trunc; rw [if_pos (.inr (.inl hneg))]; exact To.refl H.out HP.out)
      go_enter Try.func25, Try.ntmps25
      go_wp2_with (go_at_call 30; go_must (refine (show Calls _ _ #[ptrV db] _ _ by rw [← HX.out]; exact wrong_p _ n0 x p H.out HP.out false HDN.out).mono ?_); rintro e w2 ⟨rfl, rfl⟩)
      go_ret
      exact fin.out
    · have h0 : 0 ≤ n := by omega
      obtain ⟨f, hf⟩ : ∃ f, p.fits s n = f := ⟨_, rfl⟩
      have HF := Lib.hid hf
      by_cases hfz : f = 0
      · subst hfz
        have hle : n ≤ 1048576 := by
          have := HF.out
          unfold Pl.fits at this
          split at this
          · omega
          · omega
        obtain ⟨m, hm⟩ : ∃ m : Nat, n = m := ⟨n.toNat, by omega⟩
        have HMM := Lib.hid hm
        have h1 : Hid (m ≤ 1048576) := Lib.hid (by omega)
        clear hf hm
        go_enter Try.func25, Try.ntmps25
        go_wp2_with (first
          | (go_at_call 30; go_must (refine (show Calls _ _ #[ptrV db] _ _ by rw [← HX.out]; exact wrong_p _ n0 x p H.out HP.out false HDN.out).mono ?_); rintro e w2 ⟨rfl, rfl⟩)
          | (go_at_call 32; go_must (refine (show Calls _ _ #[ptrV db, .string s, .int .i64 _] _ _ by rw [← HX.out]; exact fits_ok _ n0 x p s n HS.out (by omega) H.out HP.out).mono ?_); rintro e w4 ⟨rfl, hk4⟩; rw [HF.out]; have HK4 := Lib.hid hk4; have HD4 := Lib.hid (H.out.keep hk4 (fun _ _ q => q) (fun _ _ _ q => q)); clear hk4)
          | (go_at_call 34; go_must (refine (show Calls _ _ #[ptrV db, .string s, .int .i64 n] _ _ by rw [← HX.out, HMM.out]; exact length_ok _ n0 x p s m HS.out (by have := HM.out; omega) (by have := HPD.out; omega) h1.out (Nat.le_trans HN0.out HK4.out.size) HD4.out HP.out).mono ?_); rintro e w5 ⟨rfl, x5, hd5, hp5, hx5, hk5, ho5⟩; have HD5 := Lib.hid hd5; have HP5 := Lib.hid hp5; have HX5 := Lib.hid hx5; have HK5 := Lib.hid hk5; have HO5 := Lib.hid ho5; clear hd5 hp5 hx5 hk5 ho5)
          | (go_at_call 31; go_must (refine (show Calls _ _ #[ptrV db] _ _ by rw [← HX.out, ← HX5.out]; exact step_p _ n0 x5 _ HD5.out HP5.out).mono ?_); rintro e w6 ⟨rfl, ht6⟩; have HT6 := Lib.hid ht6; clear ht6))
        go_ret
        have ecr : (p.length s m).crash = p.crash := by unfold Pl.length; split <;> rfl
        have hT := (HT6.out.trans HX5.out HK5.out HO5.out).quiet HK4.out H.out
        refine ⟨?_, ?_⟩
        · unfold Pl.truncE
          rw [HDN.out, if_neg (by simp), if_neg (by omega), HF.out, if_neg (by simp)]
          simp only [Pl.stepE, ecr]
          rfl
        · unfold Pl.trunc
          rw [HDN.out, HF.out, if_neg (by simp; omega), show n.toNat = m by have := HMM.out; omega]
          exact hT
      · have HFZ := Lib.hid hfz
        have hfb : (f != 0) = true := by simpa using hfz
        have hfb2 : (f == 0) = false := by simpa using hfz
        clear hf hfz
        go_enter Try.func25, Try.ntmps25
        go_wp2_with (first
          | (go_at_call 30; go_must (refine (show Calls _ _ #[ptrV db] _ _ by rw [← HX.out]; exact wrong_p _ n0 x p H.out HP.out false HDN.out).mono ?_); rintro e w2 ⟨rfl, rfl⟩)
          | (go_at_call 32; go_must (refine (show Calls _ _ #[ptrV db, .string s, .int .i64 _] _ _ by rw [← HX.out]; exact fits_ok _ n0 x p s n HS.out (by omega) H.out HP.out).mono ?_); rintro e w4 ⟨rfl, hk4⟩; rw [HF.out]; have HK4 := Lib.hid hk4; have HD4 := Lib.hid (H.out.keep hk4 (fun _ _ q => q) (fun _ _ _ q => q)); clear hk4))
        go_ret
        refine ⟨?_, ?_⟩
        · unfold Pl.truncE
          rw [HDN.out, if_neg (by simp), if_neg (by omega), HF.out, if_pos HFZ.out]
          rfl
        · unfold Pl.trunc
          rw [HF.out, if_pos (.inr (.inr HFZ.out))]
          exact (To.refl HD4.out HP.out).quiet HK4.out H.out
  · have HDN := Lib.hid hdn
    have fin : Hid (TrPost n0 w x p s n (.returned (.int .i64 7)) w) := Lib.hid (by
      refine ⟨?_, ?_⟩
      · unfold Pl.truncE; rw [HDN.out]; rfl
      · unfold Pl.trunc; rw [HDN.out, if_pos (.inl rfl)]; exact To.refl H.out HP.out)
    clear h hp hs hn0 hm hpd hdb hdn
    unfold ptrV
    go_enter Try.func25, Try.ntmps25
    go_wp2_with (go_at_call 30; go_must (refine (show Calls _ _ #[ptrV db] _ _ by rw [← HX.out]; exact wrong_p _ n0 x p H.out HP.out true HDN.out).mono ?_); rintro e w2 ⟨rfl, rfl⟩)
    go_ret
    exact fin.out
end Go.Proofs.Ytdgjglocgdccbaa
