/- RecordCmp: the walk of the law; condition: the orders' list takes fewer than 2^47 bytes. -/
import Derived.Test.YtlcefenjlchaiaaDoorCmRows
import Derived.Test.YtlcefenjlchaiaaDoorRcEncLaw
namespace Go.Proofs.YtlcefenjlchaiaaDoor
open Go.RowKit

theorem infoOrd : (Tryd.prog.info? 29).map (fun i => (i.zero, i.size, i.bytes)) = some (some (.agg #[.int .i64 0, .bool false]), 2, 16) := by kernel_rfl
set_option maxRecDepth 100000 in
set_option maxHeartbeats 6400000 in
theorem recordCmp_ok (w : World) (A B C : Option Addr) (n m p cap cap' cap2 : Nat) (a b : List RV) (os : List OV) (hn : n ≤ 9223372036854775807) (hm : m ≤ 9223372036854775807) (hp : p * 16 ≤ 140737488351232)
    (hnA : A = none → n = 0 ∧ cap = 0) (hnB : B = none → m = 0 ∧ cap' = 0) (hnC : C = none → p = 0 ∧ cap2 = 0) (hA : Rw w A n a) (hB : Rw w B m b) (hO : Ow w C p os) :
    Calls Tryd.prog 3 #[.slice A n cap, .slice B m cap', .slice C p cap2] w fun e w' => e = .returned (.bool true) ∧ Kp NoB w w' := by
  have HA := Lib.hid hA
  have HB := Lib.hid hB
  have HO := Lib.hid hO
  have NA := Lib.hid hnA
  have NB := Lib.hid hnB
  have NC := Lib.hid hnC
  clear hA hB hO hnA hnB hnC
  by_cases hbig : (2000 : Int) < n ∨ (2000 : Int) < m
  · rcases (show (2000 : Int) < n ∨ (¬ (2000 : Int) < n ∧ (2000 : Int) < m) by omega) with h1 | ⟨h1, h2⟩
    · clear hbig
      go_enter Tryd.func3, Tryd.ntmps3
      go_wp2_with (go_at_call 4; go_must (refine (awake_ok _).mono ?_); rintro e w2 ⟨rfl, hk2⟩; have HK2 := Lib.hid hk2; clear hk2)
      go_ret
      exact ⟨rfl, HK2.out⟩
    · clear hbig
      go_enter Tryd.func3, Tryd.ntmps3
      go_wp2_with (go_at_call 4; go_must (refine (awake_ok _).mono ?_); rintro e w2 ⟨rfl, hk2⟩; have HK2 := Lib.hid hk2; clear hk2)
      go_ret
      exact ⟨rfl, HK2.out⟩
  · have hn2 : ¬ (2000 : Int) < n := fun q => hbig (.inl q)
    have hm2 : ¬ (2000 : Int) < m := fun q => hbig (.inr q)
    have hn3 : n ≤ 2000 := by omega
    have hm3 : m ≤ 2000 := by omega
    obtain ⟨j0, hj0, hy0, hy1, hy2⟩ := info_parts infoOrd
    have HJ0 := Lib.hid hj0
    have HY0 := Lib.hid hy0
    have HY1 := Lib.hid hy1
    have HY2 := Lib.hid hy2
    obtain ⟨r, hr⟩ : ∃ r, rcmp a b os = r := ⟨_, rfl⟩
    have HR := Lib.hid hr
    obtain ⟨z, hz⟩ : ∃ z, sameB a b = z := ⟨_, rfl⟩
    have HZ := Lib.hid hz
    clear hbig hj0 hy0 hy1 hy2 hr hz
    go_enter Tryd.func3, Tryd.ntmps3
    go_wp2_with (first
      | (have hG := HK2; clear hG; go_at_call 5; go_must (refine (own_ok _ B m cap' b hm3 NB.out (HB.out.keep HK2.out)).mono ?_); rintro e w3 ⟨hk3, B2, c2, rfl, hc2, ho2⟩; have HK3 := Lib.hid (HK2.out.trans hk3 (fun _ _ q => q)); have HO3 := Lib.hid (HO2.out.keep hk3); have HP3 := Lib.hid (show Own w3 w2.heap.size B2 m c2 b from ⟨HB.out.len, hc2, HB.out.ok, ho2⟩); have HOWN : Hid ((w3.alloc (.cells #[] 29)).ownsRow w3.heap.size 29 2 (.slice (some ⟨w3.heap.size, 0, none⟩) 0 0) 0 []) := Lib.hid ⟨rfl, .inr ⟨w3.heap.size, 0, #[], rfl, Nat.le_refl _, heap_alloc_new _ _, Nat.le_refl _, by simp, rfl, rfl⟩⟩; clear hk3 ho2)
      | (go_at_call 5; go_must (refine (own_ok _ A n cap a hn3 NA.out HA.out).mono ?_); rintro e w2 ⟨hk2, B1, c1, rfl, hc1, ho1⟩; have HK2 := Lib.hid hk2; have HO2 := Lib.hid (show Own w2 w.heap.size B1 n c1 a from ⟨HA.out.len, hc1, HA.out.ok, ho1⟩); clear hk2 ho1)
      | (at_builtin; refine wpList_append_srcN rfl _ _ 23 rfl w3.heap.size 29 j0 _ 2 16 Tryd.underlying23 HJ0.out HY0.out HY1.out HY2.out rfl (by omega) _ 0 [] rfl HOWN.out C p cap2 (ovCells os) rfl NC.out (by rw [ovCells_len, HO.out.len]; omega) (ov_src (HO.out.keep (HK3.out.trans ((Kp.refl NoB w3).alloc _) (fun _ _ q => q)))) (ov_one os) (by unfold maxLen; omega) (by omega) (by simp) ?_; intro v4 w4 hown4 hgrow4; rw [Nat.zero_add, List.nil_append] at hown4; obtain ⟨C2, c3, rfl⟩ := own_slice hown4; have hk4 := (((Kp.refl NoB w3).alloc _).own (v := .slice (some ⟨w3.heap.size, 0, none⟩) 0 0) hgrow4 rfl HOWN.out); have HK4 := Lib.hid (HK3.out.trans hk4 (fun _ _ q => q)); have HO4 := Lib.hid (HO3.out.keep hk4); have HP4 := Lib.hid (HP3.out.keep hk4); have HC4 := Lib.hid (ov_of_own hown4 HO.out.ok); clear hown4 hgrow4 hk4)
      | (go_at_call 6; go_must (refine (pcmp_ok _ B1 B2 C2 n m p c1 c2 c3 a b os hn hm (by omega) HO4.out.rw HP4.out.rw HC4.out).mono ?_); rw [HR.out]; rintro e w5 ⟨rfl, hk5⟩; have HK5 := Lib.hid (HK4.out.trans hk5 (fun _ _ q => q)); have HO5 := Lib.hid (HO4.out.keep hk5); have HP5 := Lib.hid (HP4.out.keep hk5); have HC5 := Lib.hid (HC4.out.keep hk5); clear hk5))
    go_loopw [11] (fun i wr => ∃ k : Nat, k ≤ p ∧ i = .int .i64 k ∧ Kp NoB w5 wr) (fun i _ => p - (intOf i).toNat)
    case atStart => exact ⟨0, by omega, rfl, Kp.refl _ _⟩
    case round =>
      obtain ⟨k, hk, rfl, hkp⟩ := hrel
      have HK := Lib.hid (HK5.out.trans hkp (fun _ _ q => q))
      have HKL := Lib.hid hkp
      clear hkp
      by_cases hlt : k < p
      · obtain ⟨g, o, rfl, hg, hc⟩ := (HO.out.keep HK.out).at_ (by omega)
        obtain ⟨g', o', rfl, hg', hc'⟩ := (HC5.out.keep HKL.out).at_ (by omega)
        obtain ⟨c0, c1⟩ := hc k hlt
        obtain ⟨d0, d1⟩ := hc' k hlt
        clear hc hc'
        go_wp2_with fail
        go_quiet (fail)
        go_wp2_with fail
        exact ⟨⟨k + 1, by omega, by congr 1, HKL.out.drewN _⟩, by simp [intOf]; omega⟩
      · obtain rfl : k = p := by omega
        have HOW := Lib.hid (HO5.out.keep HKL.out)
        have HPW := Lib.hid (HP5.out.keep HKL.out)
        go_wp2_with (first
          | (have hG := HK6; clear hG; first
              | (have hG := HK7; clear hG; first
                  | (have hG := HK8; clear hG; first
                      | (have hG := HK9; clear hG; first
                          | (go_at_call 4; go_must (refine (awake_ok _).mono ?_); rintro e w11 ⟨rfl, hk11⟩; have HK11 := Lib.hid (HK10.out.trans hk11 (fun _ _ q => q)); clear hk11)
                          | (go_at_call 10; go_must (refine (kept_ok _ _ B B2 m cap' c2 b hm3 (HB.out.keep HK9.out) (HPW.out.keep HK9L.out)).mono ?_); rintro e w10 ⟨rfl, hk10⟩; have HK10 := Lib.hid (HK9.out.trans hk10 (fun _ _ q => q)); clear hk10))
                      | (go_at_call 10; go_must (refine (kept_ok _ _ A B1 n cap c1 a hn3 (HA.out.keep HK8.out) (HOW.out.keep HK8L.out)).mono ?_); rintro e w9 ⟨rfl, hk9⟩; have HK9 := Lib.hid (HK8.out.trans hk9 (fun _ _ q => q)); have HK9L := Lib.hid (HK8L.out.trans hk9 (fun _ _ q => q)); clear hk9))
                  | (go_at_call 9; go_must (refine (rsame_ok _ A B n m cap cap' a b hn hm (HA.out.keep HK7.out) (HB.out.keep HK7.out)).mono ?_); rw [HZ.out]; rintro e w8 ⟨rfl, hk8⟩; have HK8 := Lib.hid (HK7.out.trans hk8 (fun _ _ q => q)); have HK8L := Lib.hid (HK7L.out.trans hk8 (fun _ _ q => q)); clear hk8))
              | (go_at_call 8; go_must (refine (same_ok _ B1 B2 n m c1 c2 a b hn hm (HOW.out.keep HK6L.out).rw (HPW.out.keep HK6L.out).rw).mono ?_); rw [HZ.out]; rintro e w7 ⟨rfl, hk7⟩; have HK7 := Lib.hid (HK6.out.trans hk7 (fun _ _ q => q)); have HK7L := Lib.hid (HK6L.out.trans hk7 (fun _ _ q => q)); clear hk7))
          | (go_at_call 7; go_must (refine (rcmp_ok _ A B C n m k cap cap' cap2 a b os hn hm (by omega) (HA.out.keep HK.out) (HB.out.keep HK.out) (HO.out.keep HK.out)).mono ?_); rw [HR.out]; rintro e w6 ⟨rfl, hk6⟩; have HK6 := Lib.hid (HK.out.trans hk6 (fun _ _ q => q)); have HK6L := Lib.hid hk6; clear hk6))
        go_ret
        exact ⟨rfl, HK11.out⟩
end Go.Proofs.YtlcefenjlchaiaaDoor
