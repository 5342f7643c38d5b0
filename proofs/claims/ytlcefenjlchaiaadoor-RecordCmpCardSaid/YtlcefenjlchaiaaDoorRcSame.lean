/- Two rows held against each other, field by field: the reference's Same and slices.Equal; no condition. -/
import Derived.Test.YtlcefenjlchaiaaDoorRcAwake
namespace Go.Proofs.YtlcefenjlchaiaaDoor
open Go.RowKit

theorem RV.ext' {a b : RV} (h1 : a.k = b.k) (h2 : a.i = b.i) (h3 : a.s = b.s) : a = b := by
  cases a; cases b; simp_all
noncomputable def sameB (a b : List RV) : Bool := @decide (a = b) (Classical.propDecidable _)
theorem sameB_self (a : List RV) : sameB a a = true := by unfold sameB; simp
theorem sameB_iff (a b : List RV) : sameB a b = true ↔ a = b := by unfold sameB; simp
theorem sameB_len (a b : List RV) (h : a.length ≠ b.length) : sameB a b = false := by
  cases h2 : sameB a b
  · rfl
  · exact absurd (congrArg List.length ((sameB_iff a b).1 h2)) h
theorem sameB_at (a b : List RV) (k : Nat) (h : a.getD k RV.nul ≠ b.getD k RV.nul) : sameB a b = false := by
  cases h2 : sameB a b
  · rfl
  · rw [(sameB_iff a b).1 h2] at h
    exact absurd rfl h
theorem sameB_all (a b : List RV) (hl : a.length = b.length) (h : ∀ k, k < a.length → a.getD k RV.nul = b.getD k RV.nul) : sameB a b = true := by
  rw [sameB_iff]
  apply List.ext_getElem hl
  intro i h1 h2
  have := h i h1
  simpa [h1, h2] using this
set_option maxRecDepth 100000 in
set_option maxHeartbeats 4000000 in
theorem rsame_ok (w : World) (A B : Option Addr) (n m cap cap' : Nat) (a b : List RV) (hn : n ≤ 9223372036854775807) (hm : m ≤ 9223372036854775807) (hA : Rw w A n a) (hB : Rw w B m b) :
    Calls Tryd.prog 9 #[.slice A n cap, .slice B m cap'] w fun e w' => e = .returned (.bool (sameB a b)) ∧ Kp NoB w w' := by
  have HA := Lib.hid hA
  have HB := Lib.hid hB
  clear hA hB
  obtain ⟨r, hr⟩ : ∃ r, sameB a b = r := ⟨_, rfl⟩
  have HR := Lib.hid hr
  rw [hr]
  clear hr
  by_cases hnm : (n : Int) = m
  · obtain rfl : n = m := by omega
    go_enter Tryd.func9, Tryd.ntmps9
    go_wp2_with fail
    go_loopw [5] (fun i wr => ∃ k : Nat, k ≤ n ∧ i = .int .i64 k ∧ Kp NoB w wr ∧ ∀ j, j < k → a.getD j RV.nul = b.getD j RV.nul) (fun i _ => n - (intOf i).toNat)
    case atStart => exact ⟨0, by omega, rfl, Kp.refl _ _, fun j hj => by omega⟩
    case round =>
      obtain ⟨k, hk, rfl, hkp, hj⟩ := hrel
      have HK := Lib.hid hkp
      have HJ := Lib.hid hj
      clear hkp hj
      by_cases hlt : k < n
      · obtain ⟨g, o, rfl, hg, hc⟩ := (HA.out.keep HK.out).at_ (by omega)
        obtain ⟨g', o', rfl, hg', hc'⟩ := (HB.out.keep HK.out).at_ (by omega)
        obtain ⟨c0, c1, c2⟩ := hc k hlt
        obtain ⟨d0, d1, d2⟩ := hc' k hlt
        obtain ⟨v, hv⟩ : ∃ v, a.getD k RV.nul = v := ⟨_, rfl⟩
        obtain ⟨u, hu⟩ : ∃ v, b.getD k RV.nul = v := ⟨_, rfl⟩
        rw [hv] at c0 c1 c2
        rw [hu] at d0 d1 d2
        have HV := Lib.hid hv
        have HU := Lib.hid hu
        clear hc hc' hv hu
        by_cases e1 : v.k = u.k
        · by_cases e2 : v.i = u.i
          · by_cases e3 : v.s = u.s
            · have HJ2 : Hid (∀ j, j < k + 1 → a.getD j RV.nul = b.getD j RV.nul) := Lib.hid (fun j hj => by
                rcases Nat.lt_or_ge j k with q | q
                · exact HJ.out j q
                · obtain rfl : j = k := by omega
                  rw [HV.out, HU.out]; exact RV.ext' e1 e2 e3)
              rw [e1] at c0
              rw [e2] at c1
              rw [e3] at c2
              clear e1 e2 e3
              go_wp2_with fail
              go_quiet (fail)
              go_wp2_with fail
              exact ⟨⟨k + 1, by omega, by congr 1, HK.out.drewN _, HJ2.out⟩, by simp [intOf]; omega⟩
            · have HF := Lib.hid (sameB_at a b k (by rw [HV.out, HU.out]; intro q; exact e3 (by rw [q])))
              have b3 : (v.s.toList == u.s.toList) = false := str_ne e3
              rw [e1] at c0
              rw [e2] at c1
              clear e1 e2 e3
              go_wp2_with fail
              go_quiet (fail)
              go_wp2_with fail
              go_ret
              exact ⟨by rw [← HR.out, HF.out]; rfl, HK.out.drewN _⟩
          · have HF := Lib.hid (sameB_at a b k (by rw [HV.out, HU.out]; intro q; exact e2 (by rw [q])))
            have b2 : (v.i == u.i) = false := beq_eq_false_iff_ne.2 e2
            rw [e1] at c0
            clear e1 e2
            go_wp2_with fail
            go_quiet (fail)
            go_wp2_with fail
            go_ret
            exact ⟨by rw [← HR.out, HF.out]; rfl, HK.out.drewN _⟩
        · have HF := Lib.hid (sameB_at a b k (by rw [HV.out, HU.out]; intro q; exact e1 (by rw [q])))
          have b1 : (v.k == u.k) = false := beq_eq_false_iff_ne.2 e1
          clear e1
          go_wp2_with fail
          go_quiet (fail)
          go_wp2_with fail
          go_ret
          exact ⟨by rw [← HR.out, HF.out]; rfl, HK.out.drewN _⟩
      · obtain rfl : k = n := by omega
        have HF := Lib.hid (sameB_all a b (by rw [HA.out.len, HB.out.len]) (fun j hj => HJ.out j (by rw [← HA.out.len]; exact hj)))
        go_wp2_with fail
        go_ret
        exact ⟨by rw [← HR.out, HF.out]; rfl, HK.out⟩
  · have hb : ((n : Int) != m) = true := by rw [bne_iff_ne]; exact hnm
    have HF := Lib.hid (sameB_len a b (by rw [HA.out.len, HB.out.len]; omega))
    clear hnm
    go_enter Tryd.func9, Tryd.ntmps9
    go_wp2_with fail
    go_ret
    exact ⟨by rw [← HR.out, HF.out]; rfl, Kp.refl _ _⟩
set_option maxRecDepth 100000 in
set_option maxHeartbeats 4000000 in
theorem equal_ok (w : World) (A B : Option Addr) (n m cap cap' : Nat) (a b : List RV) (hn : n ≤ 9223372036854775807) (hm : m ≤ 9223372036854775807) (hA : Rw w A n a) (hB : Rw w B m b) :
    Calls Tryd.prog 16 #[.slice A n cap, .slice B m cap'] w fun e w' => e = .returned (.bool (sameB a b)) ∧ Kp NoB w w' := by
  have HA := Lib.hid hA
  have HB := Lib.hid hB
  clear hA hB
  obtain ⟨r, hr⟩ : ∃ r, sameB a b = r := ⟨_, rfl⟩
  have HR := Lib.hid hr
  rw [hr]
  clear hr
  by_cases hnm : (n : Int) = m
  · obtain rfl : n = m := by omega
    go_enter Tryd.func16, Tryd.ntmps16
    go_wp2_with fail
    go_loopw [5, 13] (fun _ i wr => ∃ k : Nat, k ≤ n ∧ i = .int .i64 k ∧ Kp NoB w wr ∧ ∀ j, j < k → a.getD j RV.nul = b.getD j RV.nul) (fun _ i _ => n - (intOf i).toNat)
    case atStart => exact ⟨0, by omega, rfl, Kp.refl _ _, fun j hj => by omega⟩
    case round =>
      obtain ⟨k, hk, rfl, hkp, hj⟩ := hrel
      have HK := Lib.hid hkp
      have HJ := Lib.hid hj
      clear hkp hj
      by_cases hlt : k < n
      · obtain ⟨g, o, rfl, hg, hc⟩ := (HA.out.keep HK.out).at_ (by omega)
        obtain ⟨g', o', rfl, hg', hc'⟩ := (HB.out.keep HK.out).at_ (by omega)
        obtain ⟨c0, c1, c2⟩ := hc k hlt
        obtain ⟨d0, d1, d2⟩ := hc' k hlt
        obtain ⟨v, hv⟩ : ∃ v, a.getD k RV.nul = v := ⟨_, rfl⟩
        obtain ⟨u, hu⟩ : ∃ v, b.getD k RV.nul = v := ⟨_, rfl⟩
        rw [hv] at c0 c1 c2
        rw [hu] at d0 d1 d2
        have HV := Lib.hid hv
        have HU := Lib.hid hu
        clear hc hc' hv hu
        by_cases e1 : v.k = u.k
        · by_cases e2 : v.i = u.i
          · by_cases e3 : v.s = u.s
            · have HJ2 : Hid (∀ j, j < k + 1 → a.getD j RV.nul = b.getD j RV.nul) := Lib.hid (fun j hj => by
                rcases Nat.lt_or_ge j k with q | q
                · exact HJ.out j q
                · obtain rfl : j = k := by omega
                  rw [HV.out, HU.out]; exact RV.ext' e1 e2 e3)
              rw [e1] at c0
              rw [e2] at c1
              rw [e3] at c2
              clear e1 e2 e3
              go_wp2_with fail
              go_quiet (fail)
              go_wp2_with fail
              exact ⟨⟨k + 1, by omega, by congr 1, HK.out.drewN _, HJ2.out⟩, by simp [intOf]; omega⟩
            · have HF := Lib.hid (sameB_at a b k (by rw [HV.out, HU.out]; intro q; exact e3 (by rw [q])))
              have b3 : (v.s.toList == u.s.toList) = false := str_ne e3
              rw [e1] at c0
              rw [e2] at c1
              clear e1 e2 e3
              go_wp2_with fail
              go_quiet (fail)
              go_wp2_with fail
              go_ret
              exact ⟨by rw [← HR.out, HF.out]; rfl, HK.out.drewN _⟩
          · have HF := Lib.hid (sameB_at a b k (by rw [HV.out, HU.out]; intro q; exact e2 (by rw [q])))
            have b2 : (v.i == u.i) = false := beq_eq_false_iff_ne.2 e2
            rw [e1] at c0
            clear e1 e2
            go_wp2_with fail
            go_quiet (fail)
            go_wp2_with fail
            go_ret
            exact ⟨by rw [← HR.out, HF.out]; rfl, HK.out.drewN _⟩
        · have HF := Lib.hid (sameB_at a b k (by rw [HV.out, HU.out]; intro q; exact e1 (by rw [q])))
          have b1 : (v.k == u.k) = false := beq_eq_false_iff_ne.2 e1
          clear e1
          go_wp2_with fail
          go_quiet (fail)
          go_wp2_with fail
          go_ret
          exact ⟨by rw [← HR.out, HF.out]; rfl, HK.out.drewN _⟩
      · obtain rfl : k = n := by omega
        have HF := Lib.hid (sameB_all a b (by rw [HA.out.len, HB.out.len]) (fun j hj => HJ.out j (by rw [← HA.out.len]; exact hj)))
        go_wp2_with fail
        go_ret
        exact ⟨by rw [← HR.out, HF.out]; rfl, HK.out⟩
  · have hb : ((n : Int) != m) = true := by rw [bne_iff_ne]; exact hnm
    have HF := Lib.hid (sameB_len a b (by rw [HA.out.len, HB.out.len]; omega))
    clear hnm
    go_enter Tryd.func16, Tryd.ntmps16
    go_wp2_with fail
    go_ret
    exact ⟨by rw [← HR.out, HF.out]; rfl, Kp.refl _ _⟩
theorem same_ok (w : World) (A B : Option Addr) (n m cap cap' : Nat) (a b : List RV) (hn : n ≤ 9223372036854775807) (hm : m ≤ 9223372036854775807) (hA : Rw w A n a) (hB : Rw w B m b) :
    Calls Tryd.prog 8 #[.slice A n cap, .slice B m cap'] w fun e w' => e = .returned (.bool (sameB a b)) ∧ Kp NoB w w' := by
  have HA := Lib.hid hA
  have HB := Lib.hid hB
  clear hA hB
  obtain ⟨r, hr⟩ : ∃ r, sameB a b = r := ⟨_, rfl⟩
  have HR := Lib.hid hr
  rw [hr]
  clear hr
  go_enter Tryd.func8, Tryd.ntmps8
  go_wp2_with (go_at_call 16; go_must (refine (equal_ok _ A B n m cap cap' a b hn hm HA.out HB.out).mono ?_); rw [HR.out]; rintro en w2 ⟨rfl, hk2⟩; have HK2 := Lib.hid hk2; clear hk2)
  go_ret
  exact ⟨rfl, HK2.out⟩
end Go.Proofs.YtlcefenjlchaiaaDoor
