/- The stand-in disk: Write, no room; no condition but on the texts' lengths. -/
import Derived.Test.YtdgjglocgdccbaaDkWr0
namespace Go.Proofs.Ytdgjglocgdccbaa
open Go.RowKit

theorem str_empty1 (s : ByteArray) : s.toList.isEmpty = decide (s.size = 0) := by
  have h : s.toList = s.data.toList := ByteArray.toList_eq s
  rw [h]
  have : s.size = s.data.toList.length := by simp
  rw [this]
  cases s.data.toList <;> simp
theorem str_empty0 {d : ByteArray} (h : 0 < d.size) : d.toList.isEmpty = false := by
  rw [str_empty1]
  exact decide_eq_false (by omega)
set_option maxRecDepth 100000 in
set_option maxHeartbeats 800000 in
theorem write_full (w : World) (n0 : Nat) (x : Dd) (p : Pl) (s : ByteArray) (a : Int) (d : ByteArray) (h : Dk n0 w x) (hp : Of x p) (hs : s.size ≤ maxLen) (hd : p.down = false) (ha : 0 ≤ a) (ha2 : a + d.size ≤ 1048576) (hz : 0 < d.size)
    (hf : p.fits s (max (a + d.size) (p.seen s).length) ≠ 0) :
    Calls Try.prog 11 #[ptrV x.db, .string s, .int .i64 a, .string d] w (WrPost n0 w x p s a (strI d)) := by
  have H := Lib.hid h
  have HP := Lib.hid hp
  have HD := Lib.hid hd
  have HS := Lib.hid hs
  obtain ⟨db, hdb⟩ : ∃ db, x.db = db := ⟨_, rfl⟩
  have HX := Lib.hid hdb
  rw [hdb]
  have hna : ¬ a < 0 := by omega
  have ha3 : ¬ 1048576 < a := by omega
  have ha4 : ¬ 1048576 - a < d.size := by omega
  obtain ⟨f, hff⟩ : ∃ f, p.fits s (max (a + d.size) (p.seen s).length) = f := ⟨_, rfl⟩
  rw [hff] at hf
  have HF := Lib.hid hff
  have hf2 : (f != 0) = true := by simpa using hf
  have HF2 := Lib.hid hf
  obtain ⟨was, hwas⟩ : ∃ m, (seenOf x.fs s).length = m := ⟨_, rfl⟩
  have hwl := seen_le h s
  rw [hwas] at hwl
  have HW := Lib.hid hwas
  have hne := str_empty0 hz
  have HMX := Lib.hid (show (a + d.size < was → p.fits s was = f) ∧ (was ≤ a + d.size → p.fits s (a + d.size) = f) by
    rw [← HP.out.seen_eq, HW.out] at HF
    exact ⟨fun q => by rw [← HF.out, Int.max_eq_right (by omega)], fun q => by rw [← HF.out, Int.max_eq_left (by omega)]⟩)
  clear h hp hd hdb hff hf hs hwas
  unfold ptrV
  go_enter Try.func11, Try.ntmps11
  go_wp2_with (first
    | (go_at_call 30; go_must (refine (show Calls _ _ #[ptrV db] _ _ by rw [← HX.out]; exact wrong_p _ n0 x p H.out HP.out false HD.out).mono ?_); rintro e w2 ⟨rfl, rfl⟩)
    | (go_at_call 33; go_must (refine (show Calls _ _ #[ptrV db, .string s] _ _ by rw [← HX.out]; exact bytes_ok _ _ _ _ HS.out H.out).mono ?_); rintro e w3 ⟨B, cap, rfl, _, rfl⟩; rw [HW.out])
    | (go_at_call 32; go_must (refine (show Calls _ _ #[ptrV db, .string s, .int .i64 _] _ _ by rw [← HX.out]; exact fits_ok _ n0 x p s _ HS.out (by omega) H.out HP.out).mono ?_); rintro e w4 ⟨rfl, hk4⟩; (first | rw [HMX.out.1 (by omega)] | rw [HMX.out.2 (by omega)]); have HK4 := Lib.hid hk4; clear hk4))
  all_goals
    go_ret
    refine ⟨?_, ?_⟩
    · unfold Pl.writeE
      simp only [HD.out, strI_len]
      rw [if_neg (by simp), if_neg (by omega), if_neg (by omega), if_neg (by rw [← List.length_eq_zero_iff, strI_len]; omega), HF.out, if_pos HF2.out]
      rfl
    · unfold Pl.write
      simp only [HD.out, strI_len]
      rw [if_neg (by simp; omega), if_neg (by rw [← List.length_eq_zero_iff, strI_len]; omega), HF.out, if_pos HF2.out]
      exact (To.refl (H.out.keep HK4.out (fun _ _ q => q) (fun _ _ _ q => q)) HP.out).quiet HK4.out H.out
end Go.Proofs.Ytdgjglocgdccbaa
