/- RecordDecode: the walk of the law; no condition. -/
import Derived.Test.YtlcefenjlchaiaaRcRDec
namespace Go.Proofs.Ytlcefenjlchaiaa
open Go.RowKit

theorem DecPost.noneR {w w' : World} {e : Ending} (h : DecPost w none e w') : e = .returned (.tuple #[.slice none 0 0, .int .i64 8]) ∧ Kp NoB w w' := ⟨h.2, h.1⟩
theorem DecPost.someR {w w' : World} {e : Ending} {vs : List RV} (h : DecPost w (some vs) e w') : ∃ A cap, e = .returned (.tuple #[.slice A vs.length cap, .int .i64 0]) ∧ Rw w' A vs.length vs ∧ (A = none → vs.length = 0 ∧ cap = 0) ∧ Kp NoB w w' := by
  obtain ⟨k, A, cap, e1, e2, e3⟩ := h
  exact ⟨A, cap, e1, e2, e3, k⟩
theorem Rw.nil (w : World) (A : Option Addr) : Rw w A 0 [] := ⟨rfl, fun v hv => by simp at hv, fun h => by omega⟩
theorem encF_ok {vs : List RV} {p : ByteArray} (h : encF vs = (p, 0)) : vs.all RV.may = true ∧ vs.length ≤ 16 ∧ (headK vs vs.length).size + (bodyK vs vs.length).size ≤ 4000 ∧ p = headK vs vs.length ++ bodyK vs vs.length := by
  unfold encF at h
  split at h
  · injection h with _ h; exact absurd h (by decide)
  · rename_i h1
    split at h
    · injection h with _ h; exact absurd h (by decide)
    · split at h
      · injection h with _ h; exact absurd h (by decide)
      · injection h with h _
        exact ⟨by simpa using h1, by omega, by omega, h.symm⟩
theorem decF_enc {s : ByteArray} {vs : List RV} (h : decF s = some vs) : encF vs = (s, 0) := by
  unfold decF at h
  split at h
  · cases h
  · split at h
    · cases h
    · split at h
      · cases h
      · split at h
        · cases h
        · split at h
          · rename_i he
            injection h with h
            rw [← h]; exact he
          · cases h
theorem decF_len {s : ByteArray} {vs : List RV} (h : decF s = some vs) : vs.length ≤ 16 := (encF_ok (decF_enc h)).2.1
set_option maxRecDepth 100000 in
set_option maxHeartbeats 1600000 in
theorem recordDecode_ok (w : World) (s : ByteArray) (hs : s.size ≤ 9223372036854775807) :
    Calls Try.prog 5 #[.string s] w fun e w' => e = .returned (.bool true) ∧ Kp NoB w w' := by
  obtain ⟨r, hr⟩ : ∃ r, decF s = r := ⟨_, rfl⟩
  have HR := Lib.hid hr
  rcases r with _ | vs
  · clear hr
    go_enter Try.func5, Try.ntmps5
    go_wp2_with (first
      | (go_at_call 16; go_must (refine (dec_ok _ s hs).mono ?_); rw [HR.out]; rintro en w2 hq; obtain ⟨rfl, hk2⟩ := hq.noneR; have HK2 := Lib.hid hk2; clear hq hk2)
      | (go_at_call 17; go_must (refine (rdec_ok _ s hs).mono ?_); rw [HR.out]; rintro en w3 hq; obtain ⟨rfl, hk3⟩ := hq.noneR; have HK3 := Lib.hid (HK2.out.trans hk3 (fun _ _ q => q)); clear hq hk3)
      | (go_at_call 18; go_must (refine (rsame_ok _ none none 0 0 0 0 [] [] (by omega) (by omega) (Rw.nil _ _) (Rw.nil _ _)).mono ?_); rw [sameB_self]; rintro en w4 ⟨rfl, hk4⟩; have HK4 := Lib.hid (HK3.out.trans hk4 (fun _ _ q => q)); clear hk4)
      | (go_at_call 11; go_must (refine (awake_ok _).mono ?_); rintro en w5 ⟨rfl, hk5⟩; have HK5 := Lib.hid (HK4.out.trans hk5 (fun _ _ q => q)); clear hk5))
    go_ret
    exact ⟨rfl, HK5.out⟩
  · have hl := decF_len hr
    clear hr
    go_enter Try.func5, Try.ntmps5
    go_wp2_with (first
      | (go_at_call 16; go_must (refine (dec_ok _ s hs).mono ?_); rw [HR.out]; rintro en w2 hq; obtain ⟨A, cap, rfl, hR, _, hk2⟩ := hq.someR; have HK2 := Lib.hid hk2; have HR2 := Lib.hid hR; clear hq hk2 hR)
      | (go_at_call 17; go_must (refine (rdec_ok _ s hs).mono ?_); rw [HR.out]; rintro en w3 hq; obtain ⟨B, cap', rfl, hR, _, hk3⟩ := hq.someR; have HK3 := Lib.hid (HK2.out.trans hk3 (fun _ _ q => q)); have HR3 := Lib.hid hR; have HR23 := Lib.hid (HR2.out.keep hk3); clear hq hk3 hR)
      | (go_at_call 18; go_must (refine (rsame_ok _ A B vs.length vs.length cap cap' vs vs (by omega) (by omega) HR23.out HR3.out).mono ?_); rw [sameB_self]; rintro en w4 ⟨rfl, hk4⟩; have HK4 := Lib.hid (HK3.out.trans hk4 (fun _ _ q => q)); clear hk4)
      | (go_at_call 11; go_must (refine (awake_ok _).mono ?_); rintro en w5 ⟨rfl, hk5⟩; have HK5 := Lib.hid (HK4.out.trans hk5 (fun _ _ q => q)); clear hk5))
    go_ret
    exact ⟨rfl, HK5.out⟩
end Go.Proofs.Ytlcefenjlchaiaa
