/- Texts of this proof, one behind the other: lemmas and contracts; each says its own conditions. -/
import Derived.Test.YtegcbdfilkecpaaM1
import Derived.Test.YtegcbdfilkecpaaM5
import Derived.Test.YtegcbdfilkecpaaM12
import Derived.ProofKit
import Derived.OpenShut
import Derived.ShutString
import Derived.ChangeOld
import Derived.Deep.Slices
import Derived.Deep.Fields
import Derived.ChangeSame
import Derived.Test.YtegcbdfilkecpaaRows
import Derived.SliceStrings
import Derived.DataShut
import Derived.SizedLaws
/- The law of the disks' play, as a whole; no condition but on the steps in memory. -/
namespace Go.Proofs.Ytegcbdfilkecpaa
open Go.RowKit

set_option maxRecDepth 100000 in
set_option maxHeartbeats 4000000 in
theorem dplays_ok (w : World) (A : Option Addr) (n cap : Nat) (L : List DOp) (hL : DOps w A n L) : Calls Try.prog 7 #[.slice A n cap] w fun e w' => e = .returned (.bool true) ∧ Kp NoB w w' := by
  by_cases hbig : 60 < n
  · have hb : (60 : Int) < (n : Int) := by omega
    clear hL
    go_enter Try.func7, Try.ntmps7
    go_wp2_with (go_at_call 32; go_must (refine (awake_ok _).mono ?_); rintro e w8 ⟨rfl, hk8⟩; have HK8 := Lib.hid hk8; clear hk8)
    go_ret
    exact ⟨rfl, HK8.out⟩
  · have hb : ¬ (60 : Int) < (n : Int) := by omega
    have HL := Lib.hid hL
    clear hL
    go_enter Try.func7, Try.ntmps7
    go_wp2_with fail
    refine (new_q w 1000 (by omega)).mono ?_
    rintro e w1 ⟨db, rfl, h1⟩
    have H1 := Lib.hid h1
    clear h1
    unfold ptrV
    go_wp2_with fail
    have hb3 : Blk (w1.alloc (.cells #[ptrV db, .pointer none] 69)) w1.heap.size 69 #[ptrV db, .pointer none] := Blk.new _ _ _
    have hk3 : Kp NoB w1 (w1.alloc (.cells #[ptrV db, .pointer none] 69)) := (Kp.refl NoB w1).alloc _
    unfold ptrV at hb3 hk3
    generalize hg3 : w1.heap.size = g3 at hb3 ⊢
    generalize (w1.alloc (.cells #[.pointer (some ⟨db, 0, none⟩), .pointer none] 69)) = w2 at hb3 hk3 ⊢
    have HB3 := Lib.hid hb3
    have HK3 := Lib.hid hk3
    have HG3 := Lib.hid hg3
    clear hb3 hk3 hg3
    refine (newR_ok w2 1000 (by omega)).mono ?_
    rintro e w3 ⟨d, rfl, hr, hk⟩
    obtain ⟨p0, hp0⟩ : ∃ p0, Pl.new 1000 = p0 := ⟨_, rfl⟩
    rw [hp0] at hr H1 ⊢
    have HR := Lib.hid hr
    have HK := Lib.hid hk
    have HP0 := Lib.hid hp0
    clear hr hk hp0
    unfold rdV
    go_upto_region 5 with fail
    have hb4 : Blk (w3.alloc (.cells (rdC d p0 ++ rdZ) 70)) w3.heap.size 70 (rdC d p0 ++ rdZ) := Blk.new _ _ _
    have hk4 : Kp NoB w3 (w3.alloc (.cells (rdC d p0 ++ rdZ) 70)) := (Kp.refl NoB w3).alloc _
    have hap : rdC d p0 ++ rdZ = #[.bool true, .bool p0.down, .slice d.fA d.fn d.fc, .slice d.pA d.pn d.pc, .int .i64 p0.room, .int .i64 p0.steps, .int .i64 p0.crash, .int .i64 p0.starts, .bool false, .bool false, .slice none 0 0, .slice none 0 0, .int .i64 0, .int .i64 0, .int .i64 0, .int .i64 0] := rfl
    rw [hap] at hb4 hk4
    generalize hg4 : w3.heap.size = g4 at hb4 ⊢
    generalize (w3.alloc (.cells #[.bool true, .bool p0.down, .slice d.fA d.fn d.fc, .slice d.pA d.pn d.pc, .int .i64 p0.room, .int .i64 p0.steps, .int .i64 p0.crash, .int .i64 p0.starts, .bool false, .bool false, .slice none 0 0, .slice none 0 0, .int .i64 0, .int .i64 0, .int .i64 0, .int .i64 0] 70)) = w4 at hb4 hk4 ⊢
    have hst : ∃ S0 S1, DpS w w4 g3 g4 (60 * 20000 + 600000000000) S0 S1 (ptrV db) (.pointer none) (rdC d p0) rdZ := by
      have hkk := (HK3.out.trans HK.out (fun _ _ q => q)).trans hk4 (fun _ _ q => q)
      have hq := H1.out.keep hkk
      obtain ⟨S', hq', hS', hdk⟩ := hq.baseT
      have hsm : p0.sm (60 * 20000 + 600000000000) := by rw [← HP0.out]; unfold Pl.sm; show 0 + 0 + _ < _; omega
      exact ⟨S', fun _ => False, { s0 := .inr ⟨db, p0, d, rfl, rfl, hq', HR.out.keep hk4, hdk, hsm⟩, s1 := (.inl ⟨rfl, rfl, fun _ q => q⟩), dis := (fun _ _ q => q), ge0 := (fun b q => (hS' b q).elim (fun z => z.elim) id), ge1 := (fun _ q => q.elim), b3 := HB3.out.keep (HK.out.trans hk4 (fun _ _ q => q)) (fun q => q), b4 := (by rw [hap]; exact hb4), n3 := n3_of, n4 := n4_of, h3 := (by rw [← HG3.out]; exact H1.out.kp.size), h4 := (by have h5 := H1.out.kp.size; have h6 := HK3.out.size; have h7 := HK.out.size; omega), kp := H1.out.kp.trans hkk (fun _ _ q => q) }⟩
    have HST := Lib.hid hst
    clear hb4 hk4 hap hg4 hst HB3 HK3 HG3 HR HK H1 HP0
    go_wp2_with fail
    go_loopw [5] (fun v5 wr => DyRel w n g3 g4 v5 wr) (fun v _ => n - (intOf v).toNat)
    case atStart =>
      obtain ⟨S0, S1, h⟩ := HST.out
      exact ⟨0, S0, S1, _, _, _, _, rfl, Nat.zero_le _, h⟩
    case round =>
      obtain ⟨wq, rfl⟩ : ∃ wq, wq = wr := ⟨_, rfl⟩
      obtain ⟨k, S0, S1, v0, v1, c0, c1, rfl, hk, hs⟩ := hrel
      have HS := Lib.hid hs
      clear hs HST
      by_cases hlt : k < n
      · have hkk : (k : Int) < (n : Int) := by omega
        obtain ⟨x, hx⟩ : ∃ x, L[k]? = some x := ⟨_, List.getElem?_eq_getElem (by rw [HL.out.1]; exact hlt)⟩
        obtain ⟨g, o, CA, cn, cc, rfl, hg, hc, hO⟩ := HL.out.2 k x hx
        have HO := Lib.hid hO
        have f : ∀ j v, (dopV x CA cn cc)[j]? = some v → wq.cell? ⟨g, o + k * 7 + j, none⟩ = some v := fun j v hj => (HS.out.kp.cell hg (fun q => q)).trans (hc j v hj)
        have d0 : wq.cell? ⟨g, o + k * 7, none⟩ = some (.int .i64 x.do_) := f 0 _ rfl
        have d1 := f 1 (.int .i64 x.a) rfl
        have d2 := f 2 (.int .i64 x.at_) rfl
        have d3 := f 3 (.int .i64 x.n) rfl
        have d4 := f 4 (.string x.name) rfl
        have d5 := f 5 (.string x.data) rfl
        have d6 := f 6 (.slice CA cn cc) rfl
        clear f hc hO hx hg
        go_upto_region 9 with fail
        have hb6 : Blk (wq.alloc (.cells (dopV x CA cn cc) 72)) wq.heap.size 72 (dopV x CA cn cc) := Blk.new _ _ _
        have hk6 : Kp NoB wq (wq.alloc (.cells (dopV x CA cn cc) 72)) := (Kp.refl NoB wq).alloc _
        unfold dopV at hb6 hk6
        generalize hg6 : wq.heap.size = g6 at hb6 ⊢
        generalize (wq.alloc (.cells #[.int .i64 x.do_, .int .i64 x.a, .int .i64 x.at_, .int .i64 x.n, .string x.name, .string x.data, .slice CA cn cc] 72)) = w3 at hb6 hk6 ⊢
        have HB6 := Lib.hid (show Blk w3 g6 72 (dopV x CA cn cc) from hb6)
        have HKX := Lib.hid hk6
        have HST := Lib.hid (HS.out.keep hk6)
        clear d0 d1 d2 d3 d4 d5 d6 hb6 hk6 hg6
        obtain ⟨o0, o1, o2, o3, o4, o5, o6⟩ := dopC7 HB6.out
        obtain ⟨a, ha, hbit⟩ := and1 x.a
        go_upto_region 10 with fail
        by_cases hA : ((3000 : Int) < (x.data.size : Int)) ∨ ((5000 : Int) < x.at_ ∧ x.at_ ≤ 1048576) ∨ ((5000 : Int) < x.n ∧ x.n ≤ 1048576 ∧ x.do_ = 3)
        · have HKP := Lib.hid HST.out.kp
          by_cases h1 : (3000 : Int) < (x.data.size : Int)
          · go_wp2_with (go_at_call 32; go_must (refine (awake_ok _).mono ?_); rintro e w8 ⟨rfl, hk8⟩; have HK8 := Lib.hid hk8; clear hk8)
            go_ret
            exact ⟨rfl, HKP.out.trans HK8.out (fun _ _ q => q)⟩
          · rcases hA with hA | hA | hA
            · exact absurd hA h1
            · obtain ⟨h2, h3⟩ := hA
              go_wp2_with (go_at_call 32; go_must (refine (awake_ok _).mono ?_); rintro e w8 ⟨rfl, hk8⟩; have HK8 := Lib.hid hk8; clear hk8)
              go_ret
              exact ⟨rfl, HKP.out.trans HK8.out (fun _ _ q => q)⟩
            · obtain ⟨h4, h5, h6⟩ := hA
              rw [h6] at o0
              by_cases h2 : (5000 : Int) < x.at_
              · by_cases h3 : x.at_ ≤ 1048576
                · go_wp2_with (go_at_call 32; go_must (refine (awake_ok _).mono ?_); rintro e w8 ⟨rfl, hk8⟩; have HK8 := Lib.hid hk8; clear hk8)
                  go_ret
                  exact ⟨rfl, HKP.out.trans HK8.out (fun _ _ q => q)⟩
                · go_wp2_with (go_at_call 32; go_must (refine (awake_ok _).mono ?_); rintro e w8 ⟨rfl, hk8⟩; have HK8 := Lib.hid hk8; clear hk8)
                  go_ret
                  exact ⟨rfl, HKP.out.trans HK8.out (fun _ _ q => q)⟩
              · go_wp2_with (go_at_call 32; go_must (refine (awake_ok _).mono ?_); rintro e w8 ⟨rfl, hk8⟩; have HK8 := Lib.hid hk8; clear hk8)
                go_ret
                exact ⟨rfl, HKP.out.trans HK8.out (fun _ _ q => q)⟩
        · have h1 : ¬ (3000 : Int) < (x.data.size : Int) := fun q => hA (.inl q)
          apply wp_intoU
          · by_cases h2 : (5000 : Int) < x.at_
            · have h3 : ¬ x.at_ ≤ 1048576 := fun q => hA (.inr (.inl ⟨h2, q⟩))
              by_cases h4 : (5000 : Int) < x.n
              · by_cases h5 : x.n ≤ 1048576
                · have h6 : (x.do_ == 3) = false := by
                    have : ¬ x.do_ = 3 := fun q => hA (.inr (.inr ⟨h4, h5, q⟩))
                    simpa using this
                  go_wp2_with fail
                  exact intoU_of (by kernel_rfl)
                · go_wp2_with fail
                  exact intoU_of (by kernel_rfl)
              · go_wp2_with fail
                exact intoU_of (by kernel_rfl)
            · by_cases h4 : (5000 : Int) < x.n
              · by_cases h5 : x.n ≤ 1048576
                · have h6 : (x.do_ == 3) = false := by
                    have : ¬ x.do_ = 3 := fun q => hA (.inr (.inr ⟨h4, h5, q⟩))
                    simpa using this
                  go_wp2_with fail
                  exact intoU_of (by kernel_rfl)
                · go_wp2_with fail
                  exact intoU_of (by kernel_rfl)
              · go_wp2_with fail
                exact intoU_of (by kernel_rfl)
          · intro u
            simp only [fillU, List.setIfInBounds_toArray, List.set_cons_zero, List.set_cons_succ]
            clear h1 hA
            have HUB : Hid (∀ b, S0 b → w.heap.size ≤ b) := Lib.hid HST.out.ge0
            obtain ⟨q0, q1, q2, qk2, ql2, q3, qk3, ql3, q4, q5, q6, q7, rfl⟩ := HST.out.s0.form
            obtain ⟨r0, r1, r2, rk2, rl2, r3, rk3, rl3, r4, r5, r6, r7, rfl⟩ := HST.out.s1.form
            have HT : Hid (DpT w w3 g3 g4 ((60 - k) * 20000 + 600000000000) #[v0, v1] #[.bool q0, .bool q1, .slice q2 qk2 ql2, .slice q3 qk3 ql3, .int .i64 q4, .int .i64 q5, .int .i64 q6, .int .i64 q7, .bool r0, .bool r1, .slice r2 rk2 rl2, .slice r3 rk3 rl3, .int .i64 r4, .int .i64 r5, .int .i64 r6, .int .i64 r7] S0 S1 v0 v1 #[.bool q0, .bool q1, .slice q2 qk2 ql2, .slice q3 qk3 ql3, .int .i64 q4, .int .i64 q5, .int .i64 q6, .int .i64 q7] #[.bool r0, .bool r1, .slice r2 rk2 rl2, .slice r3 rk3 rl3, .int .i64 r4, .int .i64 r5, .int .i64 r6, .int .i64 r7]) := Lib.hid HST.out
            clear HST HUB
            obtain ⟨e0, e1⟩ : w3.cell? ⟨g3, 0, none⟩ = some v0 ∧ w3.cell? ⟨g3, 1, none⟩ = some v1 := ⟨HT.out.b3.cell 0, HT.out.b3.cell 1⟩
            have ef0 := HT.out.b3.frozen 0
            have ef1 := HT.out.b3.frozen 1
            have hg3l := HT.out.b3.lt
            rcases ha with rfl | rfl
            · simp only [Int.natCast_zero]
              by_cases hd0 : x.do_ = 0
              · rw [hd0] at o0
                clear hd0 hbit
                go_wp2_with fail
                refine (new_q w3 x.n HO.out.rn).mono ?_
                rintro e w5 ⟨db', rfl, h1⟩
                have hk5 : Kp NoB w3 w5 := h1.kp
                have HT5 := Lib.hid (HT.out.keep hk5)
                have HB65 := Lib.hid (HB6.out.keep hk5 (fun q => q))
                obtain ⟨S', hq', hS', hdk'⟩ := h1.baseT
                have HQ6 := Lib.hid (dq_g3 hq' hdk' HT5.out.b3 (by decide) (by decide) 0 (ptrV db'))
                have HSL : Hid (∀ b, S' b → w3.heap.size ≤ b) := Lib.hid (fun b q => (hS' b q).elim (fun z => z.elim) id)
                have HT6 := Lib.hid (HT5.out.st3 0 (ptrV db') (fun s q => by cases q))
                have HB66 : Hid (Blk (w5.setCell ⟨g3, 0, none⟩ (ptrV db')) g6 72 (dopV x CA cn cc)) := Lib.hid (HB65.out.far (p := ⟨g3, 0, none⟩) (blk_ne HB65.out HT5.out.b3 (by decide)) _)
                clear h1 hq' hS' hdk' e0 e1 ef0 ef1 hg3l o0 o1 o2 o3 o4 o5 o6 hk5
                obtain ⟨e0, e1⟩ : w5.cell? ⟨g3, 0, none⟩ = some v0 ∧ w5.cell? ⟨g3, 1, none⟩ = some v1 := ⟨HT5.out.b3.cell 0, HT5.out.b3.cell 1⟩
                have ef0 := HT5.out.b3.frozen 0
                have ef1 := HT5.out.b3.frozen 1
                have hg3l := HT5.out.b3.lt
                obtain ⟨o0, o1, o2, o3, o4, o5, o6⟩ := dopC7 HB65.out
                unfold ptrV
                go_wp2_with fail
                unfold ptrV at HT6 HQ6 HB66
                generalize (w5.setCell ⟨g3, 0, none⟩ (.pointer (some ⟨db', 0, none⟩))) = w6 at HT6 HQ6 HB66 ⊢
                clear e0 e1 ef0 ef1 hg3l o0 o1 o2 o3 o4 o5 o6 HB65 HT5
                refine (newR_ok w6 x.n HO.out.rn).mono ?_
                rintro e w7 ⟨d', rfl, hr', hk7⟩
                have HS7 := Lib.hid (SlOk.made (m := (60 - k) * 20000 + 600000000000) (HQ6.out.1.base1 hk7) hr' (fun b q => (HQ6.out.2 b q).keepS hk7 (HQ6.out.1.lt b q) (fun z => z)) (by omega))
                have HT7 := Lib.hid ((HT6.out.keep hk7).new0 HS7.out (fun b q z => by have h1 := HSL.out b q; have h2 := HT.out.s1.lt b z; omega) (fun b q => Nat.le_trans HT.out.kp.size (HSL.out b q)))
                clear hr' hk7 HQ6 HT6 HB66
                obtain ⟨p', hp'⟩ : ∃ p', Pl.new x.n = p' := ⟨_, rfl⟩
                rw [hp'] at HT7 HS7 ⊢
                obtain ⟨f0, f1, f2, f3, f4, f5, f6, f7⟩ : w7.cell? ⟨g4, 0, none⟩ = some (.bool q0) ∧ w7.cell? ⟨g4, 1, none⟩ = some (.bool q1) ∧ w7.cell? ⟨g4, 2, none⟩ = some (.slice q2 qk2 ql2) ∧ w7.cell? ⟨g4, 3, none⟩ = some (.slice q3 qk3 ql3) ∧ w7.cell? ⟨g4, 4, none⟩ = some (.int .i64 q4) ∧ w7.cell? ⟨g4, 5, none⟩ = some (.int .i64 q5) ∧ w7.cell? ⟨g4, 6, none⟩ = some (.int .i64 q6) ∧ w7.cell? ⟨g4, 7, none⟩ = some (.int .i64 q7) := ⟨HT7.out.b4.cell 0, HT7.out.b4.cell 1, HT7.out.b4.cell 2, HT7.out.b4.cell 3, HT7.out.b4.cell 4, HT7.out.b4.cell 5, HT7.out.b4.cell 6, HT7.out.b4.cell 7⟩
                obtain ⟨f8, f9, f10, f11, f12, f13, f14, f15⟩ : w7.cell? ⟨g4, 8, none⟩ = some (.bool r0) ∧ w7.cell? ⟨g4, 9, none⟩ = some (.bool r1) ∧ w7.cell? ⟨g4, 10, none⟩ = some (.slice r2 rk2 rl2) ∧ w7.cell? ⟨g4, 11, none⟩ = some (.slice r3 rk3 rl3) ∧ w7.cell? ⟨g4, 12, none⟩ = some (.int .i64 r4) ∧ w7.cell? ⟨g4, 13, none⟩ = some (.int .i64 r5) ∧ w7.cell? ⟨g4, 14, none⟩ = some (.int .i64 r6) ∧ w7.cell? ⟨g4, 15, none⟩ = some (.int .i64 r7) := ⟨HT7.out.b4.cell 8, HT7.out.b4.cell 9, HT7.out.b4.cell 10, HT7.out.b4.cell 11, HT7.out.b4.cell 12, HT7.out.b4.cell 13, HT7.out.b4.cell 14, HT7.out.b4.cell 15⟩
                have hg4l := HT7.out.b4.lt
                obtain ⟨z0, z1, z2, z3, z4, z5, z6, z7⟩ : w7.frozen? ⟨g4, 0 + 0, none⟩ = false ∧ w7.frozen? ⟨g4, 0 + 1, none⟩ = false ∧ w7.frozen? ⟨g4, 0 + 2, none⟩ = false ∧ w7.frozen? ⟨g4, 0 + 3, none⟩ = false ∧ w7.frozen? ⟨g4, 0 + 4, none⟩ = false ∧ w7.frozen? ⟨g4, 0 + 5, none⟩ = false ∧ w7.frozen? ⟨g4, 0 + 6, none⟩ = false ∧ w7.frozen? ⟨g4, 0 + 7, none⟩ = false := ⟨HT7.out.b4.frozen _, HT7.out.b4.frozen _, HT7.out.b4.frozen _, HT7.out.b4.frozen _, HT7.out.b4.frozen _, HT7.out.b4.frozen _, HT7.out.b4.frozen _, HT7.out.b4.frozen _⟩
                simp only [Nat.reduceAdd] at z0 z1 z2 z3 z4 z5 z6 z7
                unfold rdV
                go_wp2_with fail
                have HT8 := ((HT7.out.st4 (xa := []) (xb := [.bool q0, .bool q1, .slice q2 qk2 ql2, .slice q3 qk3 ql3, .int .i64 q4, .int .i64 q5, .int .i64 q6, .int .i64 q7]) (xd := [.bool r0, .bool r1, .slice r2 rk2 rl2, .slice r3 rk3 rl3, .int .i64 r4, .int .i64 r5, .int .i64 r6, .int .i64 r7]) 0 (rdC d' p').toList rfl rfl rfl HS7.out.nostr.2).mono (m' := (60 - (k + 1)) * 20000 + 600000000000) (by omega))
                exact ⟨⟨k + 1, S', S1, ptrV db', v1, rdC d' p', #[.bool r0, .bool r1, .slice r2 rk2 rl2, .slice r3 rk3 rl3, .int .i64 r4, .int .i64 r5, .int .i64 r6, .int .i64 r7], by congr 1, by omega, HT8⟩, by simp [intOf]; omega⟩
              by_cases hd9 : x.do_ = 9
              · rw [hd9] at o0
                clear hd0 hd9 hbit
                go_wp2_with fail
                refine (cpy_any S0 w3 v0 _ _ HT.out.s0).mono ?_
                rintro e w5 ⟨v', S', rfl, hs5, hk5, hS'⟩
                obtain ⟨pc, rfl⟩ := hs5.ptr
                have HV := Lib.hid hs5.nostr.1
                have HT5 := Lib.hid ((HT.out.keep hk5).new1 hs5 (fun b q z => by have h1 := hS' b q; have h2 := HT.out.s0.lt b z; omega) (fun b q => Nat.le_trans HT.out.kp.size (hS' b q)))
                have HT6 := Lib.hid (HT5.out.st3 1 (.pointer pc) HV.out)
                have HN := Lib.hid HT.out.s0.nostr.2
                clear hs5 hS' hk5 e0 e1 ef0 ef1 hg3l
                obtain ⟨e0, e1⟩ : w5.cell? ⟨g3, 0, none⟩ = some v0 ∧ w5.cell? ⟨g3, 1, none⟩ = some v1 := ⟨HT5.out.b3.cell 0, HT5.out.b3.cell 1⟩
                have ef0 := HT5.out.b3.frozen 0
                have ef1 := HT5.out.b3.frozen 1
                have hg3l := HT5.out.b3.lt
                go_upto_region 22 with fail
                generalize (w5.setCell ⟨g3, 1, none⟩ (.pointer pc)) = w6 at HT6 ⊢
                clear e0 e1 ef0 ef1 hg3l HT5
                obtain ⟨f0, f1, f2, f3, f4, f5, f6, f7⟩ : w6.cell? ⟨g4, 0, none⟩ = some (.bool q0) ∧ w6.cell? ⟨g4, 1, none⟩ = some (.bool q1) ∧ w6.cell? ⟨g4, 2, none⟩ = some (.slice q2 qk2 ql2) ∧ w6.cell? ⟨g4, 3, none⟩ = some (.slice q3 qk3 ql3) ∧ w6.cell? ⟨g4, 4, none⟩ = some (.int .i64 q4) ∧ w6.cell? ⟨g4, 5, none⟩ = some (.int .i64 q5) ∧ w6.cell? ⟨g4, 6, none⟩ = some (.int .i64 q6) ∧ w6.cell? ⟨g4, 7, none⟩ = some (.int .i64 q7) := ⟨HT6.out.b4.cell 0, HT6.out.b4.cell 1, HT6.out.b4.cell 2, HT6.out.b4.cell 3, HT6.out.b4.cell 4, HT6.out.b4.cell 5, HT6.out.b4.cell 6, HT6.out.b4.cell 7⟩
                obtain ⟨f8, f9, f10, f11, f12, f13, f14, f15⟩ : w6.cell? ⟨g4, 8, none⟩ = some (.bool r0) ∧ w6.cell? ⟨g4, 9, none⟩ = some (.bool r1) ∧ w6.cell? ⟨g4, 10, none⟩ = some (.slice r2 rk2 rl2) ∧ w6.cell? ⟨g4, 11, none⟩ = some (.slice r3 rk3 rl3) ∧ w6.cell? ⟨g4, 12, none⟩ = some (.int .i64 r4) ∧ w6.cell? ⟨g4, 13, none⟩ = some (.int .i64 r5) ∧ w6.cell? ⟨g4, 14, none⟩ = some (.int .i64 r6) ∧ w6.cell? ⟨g4, 15, none⟩ = some (.int .i64 r7) := ⟨HT6.out.b4.cell 8, HT6.out.b4.cell 9, HT6.out.b4.cell 10, HT6.out.b4.cell 11, HT6.out.b4.cell 12, HT6.out.b4.cell 13, HT6.out.b4.cell 14, HT6.out.b4.cell 15⟩
                have hg4l := HT6.out.b4.lt
                obtain ⟨z0, z1, z2, z3, z4, z5, z6, z7⟩ : w6.frozen? ⟨g4, 8 + 0, none⟩ = false ∧ w6.frozen? ⟨g4, 8 + 1, none⟩ = false ∧ w6.frozen? ⟨g4, 8 + 2, none⟩ = false ∧ w6.frozen? ⟨g4, 8 + 3, none⟩ = false ∧ w6.frozen? ⟨g4, 8 + 4, none⟩ = false ∧ w6.frozen? ⟨g4, 8 + 5, none⟩ = false ∧ w6.frozen? ⟨g4, 8 + 6, none⟩ = false ∧ w6.frozen? ⟨g4, 8 + 7, none⟩ = false := ⟨HT6.out.b4.frozen _, HT6.out.b4.frozen _, HT6.out.b4.frozen _, HT6.out.b4.frozen _, HT6.out.b4.frozen _, HT6.out.b4.frozen _, HT6.out.b4.frozen _, HT6.out.b4.frozen _⟩
                simp only [Nat.reduceAdd] at z0 z1 z2 z3 z4 z5 z6 z7
                go_wp2_with fail
                have HT8 := ((HT6.out.st4 (xa := [.bool q0, .bool q1, .slice q2 qk2 ql2, .slice q3 qk3 ql3, .int .i64 q4, .int .i64 q5, .int .i64 q6, .int .i64 q7]) (xb := [.bool r0, .bool r1, .slice r2 rk2 rl2, .slice r3 rk3 rl3, .int .i64 r4, .int .i64 r5, .int .i64 r6, .int .i64 r7]) (xd := []) 8 [.bool q0, .bool q1, .slice q2 qk2 ql2, .slice q3 qk3 ql3, .int .i64 q4, .int .i64 q5, .int .i64 q6, .int .i64 q7] rfl rfl rfl HN.out).mono (m' := (60 - (k + 1)) * 20000 + 600000000000) (by omega))
                exact ⟨⟨k + 1, S0, S', v0, .pointer pc, #[.bool q0, .bool q1, .slice q2 qk2 ql2, .slice q3 qk3 ql3, .int .i64 q4, .int .i64 q5, .int .i64 q6, .int .i64 q7], #[.bool q0, .bool q1, .slice q2 qk2 ql2, .slice q3 qk3 ql3, .int .i64 q4, .int .i64 q5, .int .i64 q6, .int .i64 q7], by congr 1, by omega, HT8⟩, by simp [intOf]; omega⟩
              have hn0 : (x.do_ == 0) = false := by simpa using hd0
              have hn9 : (x.do_ == 9) = false := by simpa using hd9
              clear hd0 hd9 hbit
              go_upto_region 13 with fail
              have hkn : k < 60 := by omega
              have HM : Hid (DpT w w3 g3 g4 ((60 - (k + 1)) * 20000 + 600000000000 + 20000) #[v0, v1] #[.bool q0, .bool q1, .slice q2 qk2 ql2, .slice q3 qk3 ql3, .int .i64 q4, .int .i64 q5, .int .i64 q6, .int .i64 q7, .bool r0, .bool r1, .slice r2 rk2 rl2, .slice r3 rk3 rl3, .int .i64 r4, .int .i64 r5, .int .i64 r6, .int .i64 r7] S0 S1 v0 v1 #[.bool q0, .bool q1, .slice q2 qk2 ql2, .slice q3 qk3 ql3, .int .i64 q4, .int .i64 q5, .int .i64 q6, .int .i64 q7] #[.bool r0, .bool r1, .slice r2 rk2 rl2, .slice r3 rk3 rl3, .int .i64 r4, .int .i64 r5, .int .i64 r6, .int .i64 r7]) := Lib.hid (HT.out.mono (by omega))
              have HO2 := HO.out
              have hN3 := HT.out.no3.1
              have hN4 := HT.out.no4.1
              have hN6 : ¬ S0 g6 := fun q => HT.out.s0.dk g6 q _ _ HB6.out (by decide)
              have hslt := HT.out.s0.lt
              have hslt2 := HT.out.s1.lt
              apply wp_intoC (G := fun W' g8 c' => Blk W' g8 56 c' ∧ ∃ S', DpT w W' g3 g4 ((60 - (k + 1)) * 20000 + 600000000000) #[v0, v1] #[.bool q0, .bool q1, .slice q2 qk2 ql2, .slice q3 qk3 ql3, .int .i64 q4, .int .i64 q5, .int .i64 q6, .int .i64 q7, .bool r0, .bool r1, .slice r2 rk2 rl2, .slice r3 rk3 rl3, .int .i64 r4, .int .i64 r5, .int .i64 r6, .int .i64 r7] S' S1 v0 v1 c' #[.bool r0, .bool r1, .slice r2 rk2 rl2, .slice r3 rk3 rl3, .int .i64 r4, .int .i64 r5, .int .i64 r6, .int .i64 r7])
              · refine wp_region_held_drew (S := fun V => Kp S0 w3 V) (by kernel_rfl) (Kp.refl S0 w3).drew (fun hHeld => ?_)
                have k0 : Kp NoB w3 w3.drew := (Kp.refl NoB w3).drew
                have m0 : Kp S0 w3 w3.drew := (Kp.refl S0 w3).drew
                generalize w3.drew = V0 at k0 m0 hHeld ⊢
                refine tkS (i := 0) (v := (.int .i64 0)) rfl (Or.inl ⟨by rfl, fun w' hq => by go_simp⟩) m0 ?_
                simp only [Act.put, skA, skB, skC]
                refine tkS (i := 1) (v := (.pointer (some ⟨g3, 0, none⟩))) rfl (Or.inl ⟨by rfl, fun w' hq => by go_simp⟩) m0 ?_
                simp only [Act.put, skA, skB, skC]
                refine tkS (i := 2) (v := v0) rfl (Or.inl ⟨by rfl, fun w' hq => by have ec := (HT.out.b3.keep hq hN3).cell 0; have ec' : w'.cell? ⟨g3, 0, none⟩ = some v0 := ec; go_simp⟩) m0 ?_
                simp only [Act.put, skA, skB, skC]
                refine tkS (i := 3) (v := (.int .i64 0)) rfl (Or.inl ⟨by rfl, fun w' hq => by go_simp⟩) m0 ?_
                simp only [Act.put, skA, skB, skC]
                refine tkS (i := 4) (v := (.pointer (some ⟨g4, 0, none⟩))) rfl (Or.inl ⟨by rfl, fun w' hq => by go_simp⟩) m0 ?_
                simp only [Act.put, skA, skB, skC]
                refine tkS (i := 5) (v := (.agg #[.bool q0, .bool q1, .slice q2 qk2 ql2, .slice q3 qk3 ql3, .int .i64 q4, .int .i64 q5, .int .i64 q6, .int .i64 q7])) rfl (Or.inl ⟨by rfl, fun w' hq => by have hh := HT.out.b4.keep hq hN4; have f0 := hh.cell (0 + 0); have f1 := hh.cell (0 + 1); have f2 := hh.cell (0 + 2); have f3 := hh.cell (0 + 3); have f4 := hh.cell (0 + 4); have f5 := hh.cell (0 + 5); have f6 := hh.cell (0 + 6); have f7 := hh.cell (0 + 7); simp at f0 f1 f2 f3 f4 f5 f6 f7; go_simp⟩) m0 ?_
                simp only [Act.put, skA, skB, skC]
                refine tkS (i := 6) (v := (.agg (dopV x CA cn cc))) rfl (Or.inl ⟨by rfl, fun w' hq => by obtain ⟨o0, o1, o2, o3, o4, o5, o6⟩ := dopC7 (HB6.out.keep hq hN6); unfold dopV; go_simp⟩) m0 ?_
                simp only [Act.put, skA, skB, skC]
                refine wpAnyH_ready (rs := [7, 11]) (by kernel_rfl) (by simp) ?_
                refine AllReadyH.callR (fun y W' => ∃ c' S', y = .tuple #[.agg c', .bool true] ∧ SlOk S' W' v0 c' ((60 - (k + 1)) * 20000 + 600000000000) ∧ Kp S0 V0 W' ∧ ∀ b, S' b → S0 b ∨ V0.heap.size ≤ b) rfl (by rfl) 34 #[v0, .agg #[.bool q0, .bool q1, .slice q2 qk2 ql2, .slice q3 qk3 ql3, .int .i64 q4, .int .i64 q5, .int .i64 q6, .int .i64 q7], .agg (dopV x CA cn cc)] (by first | (go_simp; done) | (go_simp; rfl)) (fun _ _ ⟨_, _, _, _, q, _⟩ => (k0.mono (fun _ _ z => z.elim)).trans q (fun _ _ z => z)) ((dany S0 V0 v0 _ ((60 - (k + 1)) * 20000 + 600000000000) x CA cn cc (HM.out.s0.keepN k0) (by omega) (HO2.ok (HT.out.kp.trans k0 (fun _ _ q => q)) HT.out.ge0)).mono (by rintro e w19 ⟨c', S', rfl, h1, h2, h3⟩; exact ⟨_, rfl, c', S', rfl, h1, h2, h3⟩)) ?_ ?_
                · rintro y W1 ⟨c', S', rfl, hs1, k1', hS'⟩
                  have k1 : Kp S0 w3 W1 := m0.trans k1' (fun _ _ q => q)
                  have hT1 := HM.out.keep k0 |>.step0 (m' := (60 - (k + 1)) * 20000 + 600000000000) (by omega) hs1 k1' hS'
                  simp only [Act.put, skA, skB, skC]
                  refine tkS (i := 8) (v := (.tuple #[.agg c', .bool true])) rfl (Or.inl ⟨by rfl, fun w' hq => by go_simp⟩) k1 ?_
                  simp only [Act.put, skA, skB, skC]
                  refine tkS (i := 9) (v := (.agg c')) rfl (Or.inl ⟨by rfl, fun w' hq => by go_simp⟩) k1 ?_
                  simp only [Act.put, skA, skB, skC]
                  refine tkS (i := 10) (v := (.bool true)) rfl (Or.inl ⟨by rfl, fun w' hq => by go_simp⟩) k1 ?_
                  simp only [Act.put, skA, skB, skC]
                  refine wpAnyH_ready (rs := [11]) (by kernel_rfl) (by simp) ?_
                  refine AllReadyH.valR (fun W' => W' = W1.alloc (.cells rdZ 56)) rfl (by rfl) _ _ (allocRd W1 _ _ _ _ _ _) (fun W' e => by rw [e]; exact k1.alloc _) rfl ?_ AllReadyH.nil
                  rintro _ rfl
                  have hb8 : Blk (W1.alloc (.cells rdZ 56)) W1.heap.size 56 rdZ := Blk.new _ _ _
                  have hk8 : Kp NoB W1 (W1.alloc (.cells rdZ 56)) := (Kp.refl NoB W1).alloc _
                  have hl8 : W1.heap.size < (W1.alloc (.cells rdZ 56)).heap.size := by simp
                  generalize W1.alloc (.cells rdZ 56) = W2 at hb8 hk8 hl8 ⊢
                  obtain ⟨g8, hg8⟩ : ∃ g8, W1.heap.size = g8 := ⟨_, rfl⟩
                  have HG8 := Lib.hid hg8
                  rw [hg8] at hb8 hl8 ⊢
                  clear hg8
                  have hT2 := hT1.keep hk8
                  have k2 := k1.trans hk8 (fun _ _ q => q.elim)
                  have hg83 : w3.heap.size ≤ g8 := by have h1 := HG8.out; have h2 := k1.size; omega
                  have hgw : w.heap.size ≤ g8 := Nat.le_trans HT.out.kp.size hg83
                  have hn0 : ¬ S' g8 := fun q => by have h1 := HG8.out; have h2 := hT1.s0.lt g8 q; omega
                  have hn1 : ¬ S1 g8 := fun q => by have h1 := HG8.out; have h2 := hT1.s1.lt g8 q; omega
                  try simp only [Act.put, skA, skB, skC]
                  refine wpAnyH_ready (rs := [12]) (by kernel_rfl) (by simp) ?_
                  have hbe := hb8.whole c' (by rw [hs1.size]; rfl)
                  have hT3 := hT2.stB hb8 rdZ_str hn0 hn1 hgw c'.toList
                  have mm : Kp S0 w3 (W2.setCells g8 0 c'.toList) := Kp.setCells (S := S0) (.inl hg83) _ _ _ k2
                  refine AllReadyH.storeL rfl (by rfl) g8 0 c' rfl rfl (hb8.thereAll _ (by rw [hs1.size]; rfl)) (by rw [hs1.size]; exact infoRd) hs1.ones mm ?_ AllReadyH.nil
                  generalize W2.setCells g8 0 c'.toList = W3 at hbe hT3 mm ⊢
                  refine tkS (i := 13) (v := (.bool true)) rfl (Or.inl ⟨by rfl, fun w' hq => by go_simp⟩) mm ?_
                  simp only [Act.put, skA, skB, skC]
                  refine wpAnyH_done (by kernel_rfl) ?_ _
                  exact intoC_of g8 c' ⟨hbe, S', hT3⟩ rfl
                · refine AllReadyH.valR (fun W' => W' = V0.alloc (.cells rdZ 56)) rfl (by rfl) _ _ (allocRd V0 _ _ _ _ _ _) (fun W' e => by rw [e]; exact m0.alloc _) rfl ?_ AllReadyH.nil
                  rintro _ rfl
                  have hb8 : Blk (V0.alloc (.cells rdZ 56)) V0.heap.size 56 rdZ := Blk.new _ _ _
                  have hk8 : Kp NoB V0 (V0.alloc (.cells rdZ 56)) := (Kp.refl NoB V0).alloc _
                  have hl8 : V0.heap.size < (V0.alloc (.cells rdZ 56)).heap.size := by simp
                  generalize V0.alloc (.cells rdZ 56) = U0 at hb8 hk8 hl8 ⊢
                  obtain ⟨g8, hg8⟩ : ∃ g8, V0.heap.size = g8 := ⟨_, rfl⟩
                  have HG8 := Lib.hid hg8
                  rw [hg8] at hb8 hl8 ⊢
                  clear hg8
                  simp only [Act.put, skA, skB, skC]
                  refine wpAnyH_ready (rs := [7]) (by kernel_rfl) (by simp) ?_
                  have kU := k0.trans hk8 (fun _ _ q => q)
                  have hg83 : w3.heap.size ≤ g8 := by have h1 := HG8.out; have h2 := k0.size; omega
                  have hgw : w.heap.size ≤ g8 := Nat.le_trans HT.out.kp.size hg83
                  refine AllReadyH.callR (fun y W' => ∃ c' S', y = .tuple #[.agg c', .bool true] ∧ SlOk S' W' v0 c' ((60 - (k + 1)) * 20000 + 600000000000) ∧ Kp S0 U0 W' ∧ ∀ b, S' b → S0 b ∨ U0.heap.size ≤ b) rfl (by rfl) 34 #[v0, .agg #[.bool q0, .bool q1, .slice q2 qk2 ql2, .slice q3 qk3 ql3, .int .i64 q4, .int .i64 q5, .int .i64 q6, .int .i64 q7], .agg (dopV x CA cn cc)] (by first | (go_simp; done) | (go_simp; rfl)) (fun _ _ ⟨_, _, _, _, q, _⟩ => (kU.mono (fun _ _ z => z.elim)).trans q (fun _ _ z => z)) ((dany S0 U0 v0 _ ((60 - (k + 1)) * 20000 + 600000000000) x CA cn cc (HM.out.s0.keepN kU) (by omega) (HO2.ok (HT.out.kp.trans kU (fun _ _ q => q)) HT.out.ge0)).mono (by rintro e w19 ⟨c', S', rfl, h1, h2, h3⟩; exact ⟨_, rfl, c', S', rfl, h1, h2, h3⟩)) ?_ AllReadyH.nil
                  rintro y W2 ⟨c', S', rfl, hs1, k1', hS'⟩
                  have k2 : Kp S0 w3 W2 := (kU.mono (fun _ _ z => z.elim)).trans k1' (fun _ _ q => q)
                  have hT2 := HM.out.keep kU |>.step0 (m' := (60 - (k + 1)) * 20000 + 600000000000) (by omega) hs1 k1' hS'
                  have hb8 := hb8.keep k1' (fun q => by have h1 := hslt g8 q; omega)
                  have hnx : ¬ S' g8 := fun q => by rcases hS' g8 q with z | z; have h1 := hslt g8 z; omega; omega
                  have hny : ¬ S1 g8 := fun q => by have h1 := hslt2 g8 q; omega
                  have hn0 : ¬ S' g8 := by assumption
                  have hn1 : ¬ S1 g8 := by assumption
                  simp only [Act.put, skA, skB, skC]
                  refine tkS (i := 8) (v := (.tuple #[.agg c', .bool true])) rfl (Or.inl ⟨by rfl, fun w' hq => by go_simp⟩) k2 ?_
                  simp only [Act.put, skA, skB, skC]
                  refine tkS (i := 9) (v := (.agg c')) rfl (Or.inl ⟨by rfl, fun w' hq => by go_simp⟩) k2 ?_
                  simp only [Act.put, skA, skB, skC]
                  refine tkS (i := 10) (v := (.bool true)) rfl (Or.inl ⟨by rfl, fun w' hq => by go_simp⟩) k2 ?_
                  simp only [Act.put, skA, skB, skC]
                  try simp only [Act.put, skA, skB, skC]
                  refine wpAnyH_ready (rs := [12]) (by kernel_rfl) (by simp) ?_
                  have hbe := hb8.whole c' (by rw [hs1.size]; rfl)
                  have hT3 := hT2.stB hb8 rdZ_str hn0 hn1 hgw c'.toList
                  have mm : Kp S0 w3 (W2.setCells g8 0 c'.toList) := Kp.setCells (S := S0) (.inl hg83) _ _ _ k2
                  refine AllReadyH.storeL rfl (by rfl) g8 0 c' rfl rfl (hb8.thereAll _ (by rw [hs1.size]; rfl)) (by rw [hs1.size]; exact infoRd) hs1.ones mm ?_ AllReadyH.nil
                  generalize W2.setCells g8 0 c'.toList = W3 at hbe hT3 mm ⊢
                  refine tkS (i := 13) (v := (.bool true)) rfl (Or.inl ⟨by rfl, fun w' hq => by go_simp⟩) mm ?_
                  simp only [Act.put, skA, skB, skC]
                  refine wpAnyH_done (by kernel_rfl) ?_ _
                  exact intoC_of g8 c' ⟨hbe, S', hT3⟩ rfl
              · rintro g8 c' w5 ⟨hb8, S', hT⟩
                obtain ⟨t0, t1, t2, tk2, tl2, t3, tk3, tl3, t4, t5, t6, t7, rfl⟩ := hT.s0.form
                have HT7 := Lib.hid hT
                have HB8 := Lib.hid hb8
                have HS8 := Lib.hid hT.s0.nostr.2
                clear hT hb8 hN3 hN4 hN6 hslt hslt2 HO2 HM e0 e1 ef0 ef1 hg3l o0 o1 o2 o3 o4 o5 o6
                obtain ⟨a0, a1, a2, a3, a4, a5, a6, a7⟩ := HB8.out.c8
                have ha8 := HB8.out.lt
                have hne8 : g4 ≠ g8 := blk_ne HT7.out.b4 HB8.out (by decide)
                obtain ⟨f0, f1, f2, f3, f4, f5, f6, f7⟩ : w5.cell? ⟨g4, 0, none⟩ = some (.bool q0) ∧ w5.cell? ⟨g4, 1, none⟩ = some (.bool q1) ∧ w5.cell? ⟨g4, 2, none⟩ = some (.slice q2 qk2 ql2) ∧ w5.cell? ⟨g4, 3, none⟩ = some (.slice q3 qk3 ql3) ∧ w5.cell? ⟨g4, 4, none⟩ = some (.int .i64 q4) ∧ w5.cell? ⟨g4, 5, none⟩ = some (.int .i64 q5) ∧ w5.cell? ⟨g4, 6, none⟩ = some (.int .i64 q6) ∧ w5.cell? ⟨g4, 7, none⟩ = some (.int .i64 q7) := ⟨HT7.out.b4.cell 0, HT7.out.b4.cell 1, HT7.out.b4.cell 2, HT7.out.b4.cell 3, HT7.out.b4.cell 4, HT7.out.b4.cell 5, HT7.out.b4.cell 6, HT7.out.b4.cell 7⟩
                obtain ⟨f8, f9, f10, f11, f12, f13, f14, f15⟩ : w5.cell? ⟨g4, 8, none⟩ = some (.bool r0) ∧ w5.cell? ⟨g4, 9, none⟩ = some (.bool r1) ∧ w5.cell? ⟨g4, 10, none⟩ = some (.slice r2 rk2 rl2) ∧ w5.cell? ⟨g4, 11, none⟩ = some (.slice r3 rk3 rl3) ∧ w5.cell? ⟨g4, 12, none⟩ = some (.int .i64 r4) ∧ w5.cell? ⟨g4, 13, none⟩ = some (.int .i64 r5) ∧ w5.cell? ⟨g4, 14, none⟩ = some (.int .i64 r6) ∧ w5.cell? ⟨g4, 15, none⟩ = some (.int .i64 r7) := ⟨HT7.out.b4.cell 8, HT7.out.b4.cell 9, HT7.out.b4.cell 10, HT7.out.b4.cell 11, HT7.out.b4.cell 12, HT7.out.b4.cell 13, HT7.out.b4.cell 14, HT7.out.b4.cell 15⟩
                have hg4l := HT7.out.b4.lt
                obtain ⟨z0, z1, z2, z3, z4, z5, z6, z7⟩ : w5.frozen? ⟨g4, 0 + 0, none⟩ = false ∧ w5.frozen? ⟨g4, 0 + 1, none⟩ = false ∧ w5.frozen? ⟨g4, 0 + 2, none⟩ = false ∧ w5.frozen? ⟨g4, 0 + 3, none⟩ = false ∧ w5.frozen? ⟨g4, 0 + 4, none⟩ = false ∧ w5.frozen? ⟨g4, 0 + 5, none⟩ = false ∧ w5.frozen? ⟨g4, 0 + 6, none⟩ = false ∧ w5.frozen? ⟨g4, 0 + 7, none⟩ = false := ⟨HT7.out.b4.frozen _, HT7.out.b4.frozen _, HT7.out.b4.frozen _, HT7.out.b4.frozen _, HT7.out.b4.frozen _, HT7.out.b4.frozen _, HT7.out.b4.frozen _, HT7.out.b4.frozen _⟩
                simp only [Nat.reduceAdd] at z0 z1 z2 z3 z4 z5 z6 z7
                go_wp2_with fail
                have HT8 := HT7.out.st4 (xa := []) (xb := [.bool q0, .bool q1, .slice q2 qk2 ql2, .slice q3 qk3 ql3, .int .i64 q4, .int .i64 q5, .int .i64 q6, .int .i64 q7]) (xd := [.bool r0, .bool r1, .slice r2 rk2 rl2, .slice r3 rk3 rl3, .int .i64 r4, .int .i64 r5, .int .i64 r6, .int .i64 r7]) 0 [.bool t0, .bool t1, .slice t2 tk2 tl2, .slice t3 tk3 tl3, .int .i64 t4, .int .i64 t5, .int .i64 t6, .int .i64 t7] rfl rfl rfl HS8.out
                exact ⟨⟨k + 1, S', S1, v0, v1, #[.bool t0, .bool t1, .slice t2 tk2 tl2, .slice t3 tk3 tl3, .int .i64 t4, .int .i64 t5, .int .i64 t6, .int .i64 t7], #[.bool r0, .bool r1, .slice r2 rk2 rl2, .slice r3 rk3 rl3, .int .i64 r4, .int .i64 r5, .int .i64 r6, .int .i64 r7], by congr 1, by omega, HT8⟩, by simp [intOf]; omega⟩
            · simp only [Int.natCast_one]
              by_cases hd0 : x.do_ = 0
              · rw [hd0] at o0
                clear hd0 hbit
                go_wp2_with fail
                refine (new_q w3 x.n HO.out.rn).mono ?_
                rintro e w5 ⟨db', rfl, h1⟩
                have hk5 : Kp NoB w3 w5 := h1.kp
                have HT5 := Lib.hid (HT.out.keep hk5)
                have HB65 := Lib.hid (HB6.out.keep hk5 (fun q => q))
                obtain ⟨S', hq', hS', hdk'⟩ := h1.baseT
                have HQ6 := Lib.hid (dq_g3 hq' hdk' HT5.out.b3 (by decide) (by decide) 1 (ptrV db'))
                have HSL : Hid (∀ b, S' b → w3.heap.size ≤ b) := Lib.hid (fun b q => (hS' b q).elim (fun z => z.elim) id)
                have HT6 := Lib.hid (HT5.out.st3 1 (ptrV db') (fun s q => by cases q))
                have HB66 : Hid (Blk (w5.setCell ⟨g3, 1, none⟩ (ptrV db')) g6 72 (dopV x CA cn cc)) := Lib.hid (HB65.out.far (p := ⟨g3, 1, none⟩) (blk_ne HB65.out HT5.out.b3 (by decide)) _)
                clear h1 hq' hS' hdk' e0 e1 ef0 ef1 hg3l o0 o1 o2 o3 o4 o5 o6 hk5
                obtain ⟨e0, e1⟩ : w5.cell? ⟨g3, 0, none⟩ = some v0 ∧ w5.cell? ⟨g3, 1, none⟩ = some v1 := ⟨HT5.out.b3.cell 0, HT5.out.b3.cell 1⟩
                have ef0 := HT5.out.b3.frozen 0
                have ef1 := HT5.out.b3.frozen 1
                have hg3l := HT5.out.b3.lt
                obtain ⟨o0, o1, o2, o3, o4, o5, o6⟩ := dopC7 HB65.out
                unfold ptrV
                go_wp2_with fail
                unfold ptrV at HT6 HQ6 HB66
                generalize (w5.setCell ⟨g3, 1, none⟩ (.pointer (some ⟨db', 0, none⟩))) = w6 at HT6 HQ6 HB66 ⊢
                clear e0 e1 ef0 ef1 hg3l o0 o1 o2 o3 o4 o5 o6 HB65 HT5
                refine (newR_ok w6 x.n HO.out.rn).mono ?_
                rintro e w7 ⟨d', rfl, hr', hk7⟩
                have HS7 := Lib.hid (SlOk.made (m := (60 - k) * 20000 + 600000000000) (HQ6.out.1.base1 hk7) hr' (fun b q => (HQ6.out.2 b q).keepS hk7 (HQ6.out.1.lt b q) (fun z => z)) (by omega))
                have HT7 := Lib.hid ((HT6.out.keep hk7).new1 HS7.out (fun b q z => by have h1 := HSL.out b q; have h2 := HT.out.s0.lt b z; omega) (fun b q => Nat.le_trans HT.out.kp.size (HSL.out b q)))
                clear hr' hk7 HQ6 HT6 HB66
                obtain ⟨p', hp'⟩ : ∃ p', Pl.new x.n = p' := ⟨_, rfl⟩
                rw [hp'] at HT7 HS7 ⊢
                obtain ⟨f0, f1, f2, f3, f4, f5, f6, f7⟩ : w7.cell? ⟨g4, 0, none⟩ = some (.bool q0) ∧ w7.cell? ⟨g4, 1, none⟩ = some (.bool q1) ∧ w7.cell? ⟨g4, 2, none⟩ = some (.slice q2 qk2 ql2) ∧ w7.cell? ⟨g4, 3, none⟩ = some (.slice q3 qk3 ql3) ∧ w7.cell? ⟨g4, 4, none⟩ = some (.int .i64 q4) ∧ w7.cell? ⟨g4, 5, none⟩ = some (.int .i64 q5) ∧ w7.cell? ⟨g4, 6, none⟩ = some (.int .i64 q6) ∧ w7.cell? ⟨g4, 7, none⟩ = some (.int .i64 q7) := ⟨HT7.out.b4.cell 0, HT7.out.b4.cell 1, HT7.out.b4.cell 2, HT7.out.b4.cell 3, HT7.out.b4.cell 4, HT7.out.b4.cell 5, HT7.out.b4.cell 6, HT7.out.b4.cell 7⟩
                obtain ⟨f8, f9, f10, f11, f12, f13, f14, f15⟩ : w7.cell? ⟨g4, 8, none⟩ = some (.bool r0) ∧ w7.cell? ⟨g4, 9, none⟩ = some (.bool r1) ∧ w7.cell? ⟨g4, 10, none⟩ = some (.slice r2 rk2 rl2) ∧ w7.cell? ⟨g4, 11, none⟩ = some (.slice r3 rk3 rl3) ∧ w7.cell? ⟨g4, 12, none⟩ = some (.int .i64 r4) ∧ w7.cell? ⟨g4, 13, none⟩ = some (.int .i64 r5) ∧ w7.cell? ⟨g4, 14, none⟩ = some (.int .i64 r6) ∧ w7.cell? ⟨g4, 15, none⟩ = some (.int .i64 r7) := ⟨HT7.out.b4.cell 8, HT7.out.b4.cell 9, HT7.out.b4.cell 10, HT7.out.b4.cell 11, HT7.out.b4.cell 12, HT7.out.b4.cell 13, HT7.out.b4.cell 14, HT7.out.b4.cell 15⟩
                have hg4l := HT7.out.b4.lt
                obtain ⟨z0, z1, z2, z3, z4, z5, z6, z7⟩ : w7.frozen? ⟨g4, 8 + 0, none⟩ = false ∧ w7.frozen? ⟨g4, 8 + 1, none⟩ = false ∧ w7.frozen? ⟨g4, 8 + 2, none⟩ = false ∧ w7.frozen? ⟨g4, 8 + 3, none⟩ = false ∧ w7.frozen? ⟨g4, 8 + 4, none⟩ = false ∧ w7.frozen? ⟨g4, 8 + 5, none⟩ = false ∧ w7.frozen? ⟨g4, 8 + 6, none⟩ = false ∧ w7.frozen? ⟨g4, 8 + 7, none⟩ = false := ⟨HT7.out.b4.frozen _, HT7.out.b4.frozen _, HT7.out.b4.frozen _, HT7.out.b4.frozen _, HT7.out.b4.frozen _, HT7.out.b4.frozen _, HT7.out.b4.frozen _, HT7.out.b4.frozen _⟩
                simp only [Nat.reduceAdd] at z0 z1 z2 z3 z4 z5 z6 z7
                unfold rdV
                go_wp2_with fail
                have HT8 := ((HT7.out.st4 (xa := [.bool q0, .bool q1, .slice q2 qk2 ql2, .slice q3 qk3 ql3, .int .i64 q4, .int .i64 q5, .int .i64 q6, .int .i64 q7]) (xb := [.bool r0, .bool r1, .slice r2 rk2 rl2, .slice r3 rk3 rl3, .int .i64 r4, .int .i64 r5, .int .i64 r6, .int .i64 r7]) (xd := []) 8 (rdC d' p').toList rfl rfl rfl HS7.out.nostr.2).mono (m' := (60 - (k + 1)) * 20000 + 600000000000) (by omega))
                exact ⟨⟨k + 1, S0, S', v0, ptrV db', #[.bool q0, .bool q1, .slice q2 qk2 ql2, .slice q3 qk3 ql3, .int .i64 q4, .int .i64 q5, .int .i64 q6, .int .i64 q7], rdC d' p', by congr 1, by omega, HT8⟩, by simp [intOf]; omega⟩
              by_cases hd9 : x.do_ = 9
              · rw [hd9] at o0
                clear hd0 hd9 hbit
                go_wp2_with fail
                refine (cpy_any S1 w3 v1 _ _ HT.out.s1).mono ?_
                rintro e w5 ⟨v', S', rfl, hs5, hk5, hS'⟩
                obtain ⟨pc, rfl⟩ := hs5.ptr
                have HV := Lib.hid hs5.nostr.1
                have HT5 := Lib.hid ((HT.out.keep hk5).new0 hs5 (fun b q z => by have h1 := hS' b q; have h2 := HT.out.s1.lt b z; omega) (fun b q => Nat.le_trans HT.out.kp.size (hS' b q)))
                have HT6 := Lib.hid (HT5.out.st3 0 (.pointer pc) HV.out)
                have HN := Lib.hid HT.out.s1.nostr.2
                clear hs5 hS' hk5 e0 e1 ef0 ef1 hg3l
                obtain ⟨e0, e1⟩ : w5.cell? ⟨g3, 0, none⟩ = some v0 ∧ w5.cell? ⟨g3, 1, none⟩ = some v1 := ⟨HT5.out.b3.cell 0, HT5.out.b3.cell 1⟩
                have ef0 := HT5.out.b3.frozen 0
                have ef1 := HT5.out.b3.frozen 1
                have hg3l := HT5.out.b3.lt
                go_upto_region 22 with fail
                generalize (w5.setCell ⟨g3, 0, none⟩ (.pointer pc)) = w6 at HT6 ⊢
                clear e0 e1 ef0 ef1 hg3l HT5
                obtain ⟨f0, f1, f2, f3, f4, f5, f6, f7⟩ : w6.cell? ⟨g4, 0, none⟩ = some (.bool q0) ∧ w6.cell? ⟨g4, 1, none⟩ = some (.bool q1) ∧ w6.cell? ⟨g4, 2, none⟩ = some (.slice q2 qk2 ql2) ∧ w6.cell? ⟨g4, 3, none⟩ = some (.slice q3 qk3 ql3) ∧ w6.cell? ⟨g4, 4, none⟩ = some (.int .i64 q4) ∧ w6.cell? ⟨g4, 5, none⟩ = some (.int .i64 q5) ∧ w6.cell? ⟨g4, 6, none⟩ = some (.int .i64 q6) ∧ w6.cell? ⟨g4, 7, none⟩ = some (.int .i64 q7) := ⟨HT6.out.b4.cell 0, HT6.out.b4.cell 1, HT6.out.b4.cell 2, HT6.out.b4.cell 3, HT6.out.b4.cell 4, HT6.out.b4.cell 5, HT6.out.b4.cell 6, HT6.out.b4.cell 7⟩
                obtain ⟨f8, f9, f10, f11, f12, f13, f14, f15⟩ : w6.cell? ⟨g4, 8, none⟩ = some (.bool r0) ∧ w6.cell? ⟨g4, 9, none⟩ = some (.bool r1) ∧ w6.cell? ⟨g4, 10, none⟩ = some (.slice r2 rk2 rl2) ∧ w6.cell? ⟨g4, 11, none⟩ = some (.slice r3 rk3 rl3) ∧ w6.cell? ⟨g4, 12, none⟩ = some (.int .i64 r4) ∧ w6.cell? ⟨g4, 13, none⟩ = some (.int .i64 r5) ∧ w6.cell? ⟨g4, 14, none⟩ = some (.int .i64 r6) ∧ w6.cell? ⟨g4, 15, none⟩ = some (.int .i64 r7) := ⟨HT6.out.b4.cell 8, HT6.out.b4.cell 9, HT6.out.b4.cell 10, HT6.out.b4.cell 11, HT6.out.b4.cell 12, HT6.out.b4.cell 13, HT6.out.b4.cell 14, HT6.out.b4.cell 15⟩
                have hg4l := HT6.out.b4.lt
                obtain ⟨z0, z1, z2, z3, z4, z5, z6, z7⟩ : w6.frozen? ⟨g4, 0 + 0, none⟩ = false ∧ w6.frozen? ⟨g4, 0 + 1, none⟩ = false ∧ w6.frozen? ⟨g4, 0 + 2, none⟩ = false ∧ w6.frozen? ⟨g4, 0 + 3, none⟩ = false ∧ w6.frozen? ⟨g4, 0 + 4, none⟩ = false ∧ w6.frozen? ⟨g4, 0 + 5, none⟩ = false ∧ w6.frozen? ⟨g4, 0 + 6, none⟩ = false ∧ w6.frozen? ⟨g4, 0 + 7, none⟩ = false := ⟨HT6.out.b4.frozen _, HT6.out.b4.frozen _, HT6.out.b4.frozen _, HT6.out.b4.frozen _, HT6.out.b4.frozen _, HT6.out.b4.frozen _, HT6.out.b4.frozen _, HT6.out.b4.frozen _⟩
                simp only [Nat.reduceAdd] at z0 z1 z2 z3 z4 z5 z6 z7
                go_wp2_with fail
                have HT8 := ((HT6.out.st4 (xa := []) (xb := [.bool q0, .bool q1, .slice q2 qk2 ql2, .slice q3 qk3 ql3, .int .i64 q4, .int .i64 q5, .int .i64 q6, .int .i64 q7]) (xd := [.bool r0, .bool r1, .slice r2 rk2 rl2, .slice r3 rk3 rl3, .int .i64 r4, .int .i64 r5, .int .i64 r6, .int .i64 r7]) 0 [.bool r0, .bool r1, .slice r2 rk2 rl2, .slice r3 rk3 rl3, .int .i64 r4, .int .i64 r5, .int .i64 r6, .int .i64 r7] rfl rfl rfl HN.out).mono (m' := (60 - (k + 1)) * 20000 + 600000000000) (by omega))
                exact ⟨⟨k + 1, S', S1, .pointer pc, v1, #[.bool r0, .bool r1, .slice r2 rk2 rl2, .slice r3 rk3 rl3, .int .i64 r4, .int .i64 r5, .int .i64 r6, .int .i64 r7], #[.bool r0, .bool r1, .slice r2 rk2 rl2, .slice r3 rk3 rl3, .int .i64 r4, .int .i64 r5, .int .i64 r6, .int .i64 r7], by congr 1, by omega, HT8⟩, by simp [intOf]; omega⟩
              have hn0 : (x.do_ == 0) = false := by simpa using hd0
              have hn9 : (x.do_ == 9) = false := by simpa using hd9
              clear hd0 hd9 hbit
              go_upto_region 13 with fail
              have hkn : k < 60 := by omega
              have HM : Hid (DpT w w3 g3 g4 ((60 - (k + 1)) * 20000 + 600000000000 + 20000) #[v0, v1] #[.bool q0, .bool q1, .slice q2 qk2 ql2, .slice q3 qk3 ql3, .int .i64 q4, .int .i64 q5, .int .i64 q6, .int .i64 q7, .bool r0, .bool r1, .slice r2 rk2 rl2, .slice r3 rk3 rl3, .int .i64 r4, .int .i64 r5, .int .i64 r6, .int .i64 r7] S0 S1 v0 v1 #[.bool q0, .bool q1, .slice q2 qk2 ql2, .slice q3 qk3 ql3, .int .i64 q4, .int .i64 q5, .int .i64 q6, .int .i64 q7] #[.bool r0, .bool r1, .slice r2 rk2 rl2, .slice r3 rk3 rl3, .int .i64 r4, .int .i64 r5, .int .i64 r6, .int .i64 r7]) := Lib.hid (HT.out.mono (by omega))
              have HO2 := HO.out
              have hN3 := HT.out.no3.2
              have hN4 := HT.out.no4.2
              have hN6 : ¬ S1 g6 := fun q => HT.out.s1.dk g6 q _ _ HB6.out (by decide)
              have hslt := HT.out.s1.lt
              have hslt2 := HT.out.s0.lt
              apply wp_intoC (G := fun W' g8 c' => Blk W' g8 56 c' ∧ ∃ S', DpT w W' g3 g4 ((60 - (k + 1)) * 20000 + 600000000000) #[v0, v1] #[.bool q0, .bool q1, .slice q2 qk2 ql2, .slice q3 qk3 ql3, .int .i64 q4, .int .i64 q5, .int .i64 q6, .int .i64 q7, .bool r0, .bool r1, .slice r2 rk2 rl2, .slice r3 rk3 rl3, .int .i64 r4, .int .i64 r5, .int .i64 r6, .int .i64 r7] S0 S' v0 v1 #[.bool q0, .bool q1, .slice q2 qk2 ql2, .slice q3 qk3 ql3, .int .i64 q4, .int .i64 q5, .int .i64 q6, .int .i64 q7] c')
              · refine wp_region_held_drew (S := fun V => Kp S1 w3 V) (by kernel_rfl) (Kp.refl S1 w3).drew (fun hHeld => ?_)
                have k0 : Kp NoB w3 w3.drew := (Kp.refl NoB w3).drew
                have m0 : Kp S1 w3 w3.drew := (Kp.refl S1 w3).drew
                generalize w3.drew = V0 at k0 m0 hHeld ⊢
                refine tkS (i := 0) (v := (.int .i64 1)) rfl (Or.inl ⟨by rfl, fun w' hq => by go_simp⟩) m0 ?_
                simp only [Act.put, skA, skB, skC]
                refine tkS (i := 1) (v := (.pointer (some ⟨g3, 1, none⟩))) rfl (Or.inl ⟨by rfl, fun w' hq => by go_simp⟩) m0 ?_
                simp only [Act.put, skA, skB, skC]
                refine tkS (i := 2) (v := v1) rfl (Or.inl ⟨by rfl, fun w' hq => by have ec := (HT.out.b3.keep hq hN3).cell 1; have ec' : w'.cell? ⟨g3, 1, none⟩ = some v1 := ec; go_simp⟩) m0 ?_
                simp only [Act.put, skA, skB, skC]
                refine tkS (i := 3) (v := (.int .i64 1)) rfl (Or.inl ⟨by rfl, fun w' hq => by go_simp⟩) m0 ?_
                simp only [Act.put, skA, skB, skC]
                refine tkS (i := 4) (v := (.pointer (some ⟨g4, 8, none⟩))) rfl (Or.inl ⟨by rfl, fun w' hq => by go_simp⟩) m0 ?_
                simp only [Act.put, skA, skB, skC]
                refine tkS (i := 5) (v := (.agg #[.bool r0, .bool r1, .slice r2 rk2 rl2, .slice r3 rk3 rl3, .int .i64 r4, .int .i64 r5, .int .i64 r6, .int .i64 r7])) rfl (Or.inl ⟨by rfl, fun w' hq => by have hh := HT.out.b4.keep hq hN4; have f0 := hh.cell (8 + 0); have f1 := hh.cell (8 + 1); have f2 := hh.cell (8 + 2); have f3 := hh.cell (8 + 3); have f4 := hh.cell (8 + 4); have f5 := hh.cell (8 + 5); have f6 := hh.cell (8 + 6); have f7 := hh.cell (8 + 7); simp at f0 f1 f2 f3 f4 f5 f6 f7; go_simp⟩) m0 ?_
                simp only [Act.put, skA, skB, skC]
                refine tkS (i := 6) (v := (.agg (dopV x CA cn cc))) rfl (Or.inl ⟨by rfl, fun w' hq => by obtain ⟨o0, o1, o2, o3, o4, o5, o6⟩ := dopC7 (HB6.out.keep hq hN6); unfold dopV; go_simp⟩) m0 ?_
                simp only [Act.put, skA, skB, skC]
                refine wpAnyH_ready (rs := [7, 11]) (by kernel_rfl) (by simp) ?_
                refine AllReadyH.callR (fun y W' => ∃ c' S', y = .tuple #[.agg c', .bool true] ∧ SlOk S' W' v1 c' ((60 - (k + 1)) * 20000 + 600000000000) ∧ Kp S1 V0 W' ∧ ∀ b, S' b → S1 b ∨ V0.heap.size ≤ b) rfl (by rfl) 34 #[v1, .agg #[.bool r0, .bool r1, .slice r2 rk2 rl2, .slice r3 rk3 rl3, .int .i64 r4, .int .i64 r5, .int .i64 r6, .int .i64 r7], .agg (dopV x CA cn cc)] (by first | (go_simp; done) | (go_simp; rfl)) (fun _ _ ⟨_, _, _, _, q, _⟩ => (k0.mono (fun _ _ z => z.elim)).trans q (fun _ _ z => z)) ((dany S1 V0 v1 _ ((60 - (k + 1)) * 20000 + 600000000000) x CA cn cc (HM.out.s1.keepN k0) (by omega) (HO2.ok (HT.out.kp.trans k0 (fun _ _ q => q)) HT.out.ge1)).mono (by rintro e w19 ⟨c', S', rfl, h1, h2, h3⟩; exact ⟨_, rfl, c', S', rfl, h1, h2, h3⟩)) ?_ ?_
                · rintro y W1 ⟨c', S', rfl, hs1, k1', hS'⟩
                  have k1 : Kp S1 w3 W1 := m0.trans k1' (fun _ _ q => q)
                  have hT1 := HM.out.keep k0 |>.step1 (m' := (60 - (k + 1)) * 20000 + 600000000000) (by omega) hs1 k1' hS'
                  simp only [Act.put, skA, skB, skC]
                  refine tkS (i := 8) (v := (.tuple #[.agg c', .bool true])) rfl (Or.inl ⟨by rfl, fun w' hq => by go_simp⟩) k1 ?_
                  simp only [Act.put, skA, skB, skC]
                  refine tkS (i := 9) (v := (.agg c')) rfl (Or.inl ⟨by rfl, fun w' hq => by go_simp⟩) k1 ?_
                  simp only [Act.put, skA, skB, skC]
                  refine tkS (i := 10) (v := (.bool true)) rfl (Or.inl ⟨by rfl, fun w' hq => by go_simp⟩) k1 ?_
                  simp only [Act.put, skA, skB, skC]
                  refine wpAnyH_ready (rs := [11]) (by kernel_rfl) (by simp) ?_
                  refine AllReadyH.valR (fun W' => W' = W1.alloc (.cells rdZ 56)) rfl (by rfl) _ _ (allocRd W1 _ _ _ _ _ _) (fun W' e => by rw [e]; exact k1.alloc _) rfl ?_ AllReadyH.nil
                  rintro _ rfl
                  have hb8 : Blk (W1.alloc (.cells rdZ 56)) W1.heap.size 56 rdZ := Blk.new _ _ _
                  have hk8 : Kp NoB W1 (W1.alloc (.cells rdZ 56)) := (Kp.refl NoB W1).alloc _
                  have hl8 : W1.heap.size < (W1.alloc (.cells rdZ 56)).heap.size := by simp
                  generalize W1.alloc (.cells rdZ 56) = W2 at hb8 hk8 hl8 ⊢
                  obtain ⟨g8, hg8⟩ : ∃ g8, W1.heap.size = g8 := ⟨_, rfl⟩
                  have HG8 := Lib.hid hg8
                  rw [hg8] at hb8 hl8 ⊢
                  clear hg8
                  have hT2 := hT1.keep hk8
                  have k2 := k1.trans hk8 (fun _ _ q => q.elim)
                  have hg83 : w3.heap.size ≤ g8 := by have h1 := HG8.out; have h2 := k1.size; omega
                  have hgw : w.heap.size ≤ g8 := Nat.le_trans HT.out.kp.size hg83
                  have hn0 : ¬ S0 g8 := fun q => by have h1 := HG8.out; have h2 := hT1.s0.lt g8 q; omega
                  have hn1 : ¬ S' g8 := fun q => by have h1 := HG8.out; have h2 := hT1.s1.lt g8 q; omega
                  try simp only [Act.put, skA, skB, skC]
                  refine wpAnyH_ready (rs := [12]) (by kernel_rfl) (by simp) ?_
                  have hbe := hb8.whole c' (by rw [hs1.size]; rfl)
                  have hT3 := hT2.stB hb8 rdZ_str hn0 hn1 hgw c'.toList
                  have mm : Kp S1 w3 (W2.setCells g8 0 c'.toList) := Kp.setCells (S := S1) (.inl hg83) _ _ _ k2
                  refine AllReadyH.storeL rfl (by rfl) g8 0 c' rfl rfl (hb8.thereAll _ (by rw [hs1.size]; rfl)) (by rw [hs1.size]; exact infoRd) hs1.ones mm ?_ AllReadyH.nil
                  generalize W2.setCells g8 0 c'.toList = W3 at hbe hT3 mm ⊢
                  refine tkS (i := 13) (v := (.bool true)) rfl (Or.inl ⟨by rfl, fun w' hq => by go_simp⟩) mm ?_
                  simp only [Act.put, skA, skB, skC]
                  refine wpAnyH_done (by kernel_rfl) ?_ _
                  exact intoC_of g8 c' ⟨hbe, S', hT3⟩ rfl
                · refine AllReadyH.valR (fun W' => W' = V0.alloc (.cells rdZ 56)) rfl (by rfl) _ _ (allocRd V0 _ _ _ _ _ _) (fun W' e => by rw [e]; exact m0.alloc _) rfl ?_ AllReadyH.nil
                  rintro _ rfl
                  have hb8 : Blk (V0.alloc (.cells rdZ 56)) V0.heap.size 56 rdZ := Blk.new _ _ _
                  have hk8 : Kp NoB V0 (V0.alloc (.cells rdZ 56)) := (Kp.refl NoB V0).alloc _
                  have hl8 : V0.heap.size < (V0.alloc (.cells rdZ 56)).heap.size := by simp
                  generalize V0.alloc (.cells rdZ 56) = U0 at hb8 hk8 hl8 ⊢
                  obtain ⟨g8, hg8⟩ : ∃ g8, V0.heap.size = g8 := ⟨_, rfl⟩
                  have HG8 := Lib.hid hg8
                  rw [hg8] at hb8 hl8 ⊢
                  clear hg8
                  simp only [Act.put, skA, skB, skC]
                  refine wpAnyH_ready (rs := [7]) (by kernel_rfl) (by simp) ?_
                  have kU := k0.trans hk8 (fun _ _ q => q)
                  have hg83 : w3.heap.size ≤ g8 := by have h1 := HG8.out; have h2 := k0.size; omega
                  have hgw : w.heap.size ≤ g8 := Nat.le_trans HT.out.kp.size hg83
                  refine AllReadyH.callR (fun y W' => ∃ c' S', y = .tuple #[.agg c', .bool true] ∧ SlOk S' W' v1 c' ((60 - (k + 1)) * 20000 + 600000000000) ∧ Kp S1 U0 W' ∧ ∀ b, S' b → S1 b ∨ U0.heap.size ≤ b) rfl (by rfl) 34 #[v1, .agg #[.bool r0, .bool r1, .slice r2 rk2 rl2, .slice r3 rk3 rl3, .int .i64 r4, .int .i64 r5, .int .i64 r6, .int .i64 r7], .agg (dopV x CA cn cc)] (by first | (go_simp; done) | (go_simp; rfl)) (fun _ _ ⟨_, _, _, _, q, _⟩ => (kU.mono (fun _ _ z => z.elim)).trans q (fun _ _ z => z)) ((dany S1 U0 v1 _ ((60 - (k + 1)) * 20000 + 600000000000) x CA cn cc (HM.out.s1.keepN kU) (by omega) (HO2.ok (HT.out.kp.trans kU (fun _ _ q => q)) HT.out.ge1)).mono (by rintro e w19 ⟨c', S', rfl, h1, h2, h3⟩; exact ⟨_, rfl, c', S', rfl, h1, h2, h3⟩)) ?_ AllReadyH.nil
                  rintro y W2 ⟨c', S', rfl, hs1, k1', hS'⟩
                  have k2 : Kp S1 w3 W2 := (kU.mono (fun _ _ z => z.elim)).trans k1' (fun _ _ q => q)
                  have hT2 := HM.out.keep kU |>.step1 (m' := (60 - (k + 1)) * 20000 + 600000000000) (by omega) hs1 k1' hS'
                  have hb8 := hb8.keep k1' (fun q => by have h1 := hslt g8 q; omega)
                  have hnx : ¬ S' g8 := fun q => by rcases hS' g8 q with z | z; have h1 := hslt g8 z; omega; omega
                  have hny : ¬ S0 g8 := fun q => by have h1 := hslt2 g8 q; omega
                  have hn0 : ¬ S0 g8 := by assumption
                  have hn1 : ¬ S' g8 := by assumption
                  simp only [Act.put, skA, skB, skC]
                  refine tkS (i := 8) (v := (.tuple #[.agg c', .bool true])) rfl (Or.inl ⟨by rfl, fun w' hq => by go_simp⟩) k2 ?_
                  simp only [Act.put, skA, skB, skC]
                  refine tkS (i := 9) (v := (.agg c')) rfl (Or.inl ⟨by rfl, fun w' hq => by go_simp⟩) k2 ?_
                  simp only [Act.put, skA, skB, skC]
                  refine tkS (i := 10) (v := (.bool true)) rfl (Or.inl ⟨by rfl, fun w' hq => by go_simp⟩) k2 ?_
                  simp only [Act.put, skA, skB, skC]
                  try simp only [Act.put, skA, skB, skC]
                  refine wpAnyH_ready (rs := [12]) (by kernel_rfl) (by simp) ?_
                  have hbe := hb8.whole c' (by rw [hs1.size]; rfl)
                  have hT3 := hT2.stB hb8 rdZ_str hn0 hn1 hgw c'.toList
                  have mm : Kp S1 w3 (W2.setCells g8 0 c'.toList) := Kp.setCells (S := S1) (.inl hg83) _ _ _ k2
                  refine AllReadyH.storeL rfl (by rfl) g8 0 c' rfl rfl (hb8.thereAll _ (by rw [hs1.size]; rfl)) (by rw [hs1.size]; exact infoRd) hs1.ones mm ?_ AllReadyH.nil
                  generalize W2.setCells g8 0 c'.toList = W3 at hbe hT3 mm ⊢
                  refine tkS (i := 13) (v := (.bool true)) rfl (Or.inl ⟨by rfl, fun w' hq => by go_simp⟩) mm ?_
                  simp only [Act.put, skA, skB, skC]
                  refine wpAnyH_done (by kernel_rfl) ?_ _
                  exact intoC_of g8 c' ⟨hbe, S', hT3⟩ rfl
              · rintro g8 c' w5 ⟨hb8, S', hT⟩
                obtain ⟨t0, t1, t2, tk2, tl2, t3, tk3, tl3, t4, t5, t6, t7, rfl⟩ := hT.s1.form
                have HT7 := Lib.hid hT
                have HB8 := Lib.hid hb8
                have HS8 := Lib.hid hT.s1.nostr.2
                clear hT hb8 hN3 hN4 hN6 hslt hslt2 HO2 HM e0 e1 ef0 ef1 hg3l o0 o1 o2 o3 o4 o5 o6
                obtain ⟨a0, a1, a2, a3, a4, a5, a6, a7⟩ := HB8.out.c8
                have ha8 := HB8.out.lt
                have hne8 : g4 ≠ g8 := blk_ne HT7.out.b4 HB8.out (by decide)
                obtain ⟨f0, f1, f2, f3, f4, f5, f6, f7⟩ : w5.cell? ⟨g4, 0, none⟩ = some (.bool q0) ∧ w5.cell? ⟨g4, 1, none⟩ = some (.bool q1) ∧ w5.cell? ⟨g4, 2, none⟩ = some (.slice q2 qk2 ql2) ∧ w5.cell? ⟨g4, 3, none⟩ = some (.slice q3 qk3 ql3) ∧ w5.cell? ⟨g4, 4, none⟩ = some (.int .i64 q4) ∧ w5.cell? ⟨g4, 5, none⟩ = some (.int .i64 q5) ∧ w5.cell? ⟨g4, 6, none⟩ = some (.int .i64 q6) ∧ w5.cell? ⟨g4, 7, none⟩ = some (.int .i64 q7) := ⟨HT7.out.b4.cell 0, HT7.out.b4.cell 1, HT7.out.b4.cell 2, HT7.out.b4.cell 3, HT7.out.b4.cell 4, HT7.out.b4.cell 5, HT7.out.b4.cell 6, HT7.out.b4.cell 7⟩
                obtain ⟨f8, f9, f10, f11, f12, f13, f14, f15⟩ : w5.cell? ⟨g4, 8, none⟩ = some (.bool r0) ∧ w5.cell? ⟨g4, 9, none⟩ = some (.bool r1) ∧ w5.cell? ⟨g4, 10, none⟩ = some (.slice r2 rk2 rl2) ∧ w5.cell? ⟨g4, 11, none⟩ = some (.slice r3 rk3 rl3) ∧ w5.cell? ⟨g4, 12, none⟩ = some (.int .i64 r4) ∧ w5.cell? ⟨g4, 13, none⟩ = some (.int .i64 r5) ∧ w5.cell? ⟨g4, 14, none⟩ = some (.int .i64 r6) ∧ w5.cell? ⟨g4, 15, none⟩ = some (.int .i64 r7) := ⟨HT7.out.b4.cell 8, HT7.out.b4.cell 9, HT7.out.b4.cell 10, HT7.out.b4.cell 11, HT7.out.b4.cell 12, HT7.out.b4.cell 13, HT7.out.b4.cell 14, HT7.out.b4.cell 15⟩
                have hg4l := HT7.out.b4.lt
                obtain ⟨z0, z1, z2, z3, z4, z5, z6, z7⟩ : w5.frozen? ⟨g4, 8 + 0, none⟩ = false ∧ w5.frozen? ⟨g4, 8 + 1, none⟩ = false ∧ w5.frozen? ⟨g4, 8 + 2, none⟩ = false ∧ w5.frozen? ⟨g4, 8 + 3, none⟩ = false ∧ w5.frozen? ⟨g4, 8 + 4, none⟩ = false ∧ w5.frozen? ⟨g4, 8 + 5, none⟩ = false ∧ w5.frozen? ⟨g4, 8 + 6, none⟩ = false ∧ w5.frozen? ⟨g4, 8 + 7, none⟩ = false := ⟨HT7.out.b4.frozen _, HT7.out.b4.frozen _, HT7.out.b4.frozen _, HT7.out.b4.frozen _, HT7.out.b4.frozen _, HT7.out.b4.frozen _, HT7.out.b4.frozen _, HT7.out.b4.frozen _⟩
                simp only [Nat.reduceAdd] at z0 z1 z2 z3 z4 z5 z6 z7
                go_wp2_with fail
                have HT8 := HT7.out.st4 (xa := [.bool q0, .bool q1, .slice q2 qk2 ql2, .slice q3 qk3 ql3, .int .i64 q4, .int .i64 q5, .int .i64 q6, .int .i64 q7]) (xb := [.bool r0, .bool r1, .slice r2 rk2 rl2, .slice r3 rk3 rl3, .int .i64 r4, .int .i64 r5, .int .i64 r6, .int .i64 r7]) (xd := []) 8 [.bool t0, .bool t1, .slice t2 tk2 tl2, .slice t3 tk3 tl3, .int .i64 t4, .int .i64 t5, .int .i64 t6, .int .i64 t7] rfl rfl rfl HS8.out
                exact ⟨⟨k + 1, S0, S', v0, v1, #[.bool q0, .bool q1, .slice q2 qk2 ql2, .slice q3 qk3 ql3, .int .i64 q4, .int .i64 q5, .int .i64 q6, .int .i64 q7], #[.bool t0, .bool t1, .slice t2 tk2 tl2, .slice t3 tk3 tl3, .int .i64 t4, .int .i64 t5, .int .i64 t6, .int .i64 t7], by congr 1, by omega, HT8⟩, by simp [intOf]; omega⟩
      · have hkk : ¬ (k : Int) < (n : Int) := by omega
        obtain ⟨q0, q1, q2, qk2, ql2, q3, qk3, ql3, q4, q5, q6, q7, rfl⟩ := HS.out.s0.form
        obtain ⟨r0, r1, r2, rk2, rl2, r3, rk3, rl3, r4, r5, r6, r7, rfl⟩ := HS.out.s1.form
        have HT : Hid (DpT w wq g3 g4 ((60 - k) * 20000 + 600000000000) #[v0, v1] #[.bool q0, .bool q1, .slice q2 qk2 ql2, .slice q3 qk3 ql3, .int .i64 q4, .int .i64 q5, .int .i64 q6, .int .i64 q7, .bool r0, .bool r1, .slice r2 rk2 rl2, .slice r3 rk3 rl3, .int .i64 r4, .int .i64 r5, .int .i64 r6, .int .i64 r7] S0 S1 v0 v1 #[.bool q0, .bool q1, .slice q2 qk2 ql2, .slice q3 qk3 ql3, .int .i64 q4, .int .i64 q5, .int .i64 q6, .int .i64 q7] #[.bool r0, .bool r1, .slice r2 rk2 rl2, .slice r3 rk3 rl3, .int .i64 r4, .int .i64 r5, .int .i64 r6, .int .i64 r7]) := Lib.hid HS.out
        clear HS
        obtain ⟨e0, e1⟩ : wq.cell? ⟨g3, 0, none⟩ = some v0 ∧ wq.cell? ⟨g3, 1, none⟩ = some v1 := ⟨HT.out.b3.cell 0, HT.out.b3.cell 1⟩
        have ef0 := HT.out.b3.frozen 0
        have ef1 := HT.out.b3.frozen 1
        have hg3l := HT.out.b3.lt
        obtain ⟨f0, f1, f2, f3, f4, f5, f6, f7⟩ : wq.cell? ⟨g4, 0, none⟩ = some (.bool q0) ∧ wq.cell? ⟨g4, 1, none⟩ = some (.bool q1) ∧ wq.cell? ⟨g4, 2, none⟩ = some (.slice q2 qk2 ql2) ∧ wq.cell? ⟨g4, 3, none⟩ = some (.slice q3 qk3 ql3) ∧ wq.cell? ⟨g4, 4, none⟩ = some (.int .i64 q4) ∧ wq.cell? ⟨g4, 5, none⟩ = some (.int .i64 q5) ∧ wq.cell? ⟨g4, 6, none⟩ = some (.int .i64 q6) ∧ wq.cell? ⟨g4, 7, none⟩ = some (.int .i64 q7) := ⟨HT.out.b4.cell 0, HT.out.b4.cell 1, HT.out.b4.cell 2, HT.out.b4.cell 3, HT.out.b4.cell 4, HT.out.b4.cell 5, HT.out.b4.cell 6, HT.out.b4.cell 7⟩
        obtain ⟨f8, f9, f10, f11, f12, f13, f14, f15⟩ : wq.cell? ⟨g4, 8, none⟩ = some (.bool r0) ∧ wq.cell? ⟨g4, 9, none⟩ = some (.bool r1) ∧ wq.cell? ⟨g4, 10, none⟩ = some (.slice r2 rk2 rl2) ∧ wq.cell? ⟨g4, 11, none⟩ = some (.slice r3 rk3 rl3) ∧ wq.cell? ⟨g4, 12, none⟩ = some (.int .i64 r4) ∧ wq.cell? ⟨g4, 13, none⟩ = some (.int .i64 r5) ∧ wq.cell? ⟨g4, 14, none⟩ = some (.int .i64 r6) ∧ wq.cell? ⟨g4, 15, none⟩ = some (.int .i64 r7) := ⟨HT.out.b4.cell 8, HT.out.b4.cell 9, HT.out.b4.cell 10, HT.out.b4.cell 11, HT.out.b4.cell 12, HT.out.b4.cell 13, HT.out.b4.cell 14, HT.out.b4.cell 15⟩
        have hg4l := HT.out.b4.lt
        obtain ⟨z0, z1, z2, z3, z4, z5, z6, z7⟩ : wq.frozen? ⟨g4, 0 + 0, none⟩ = false ∧ wq.frozen? ⟨g4, 0 + 1, none⟩ = false ∧ wq.frozen? ⟨g4, 0 + 2, none⟩ = false ∧ wq.frozen? ⟨g4, 0 + 3, none⟩ = false ∧ wq.frozen? ⟨g4, 0 + 4, none⟩ = false ∧ wq.frozen? ⟨g4, 0 + 5, none⟩ = false ∧ wq.frozen? ⟨g4, 0 + 6, none⟩ = false ∧ wq.frozen? ⟨g4, 0 + 7, none⟩ = false := ⟨HT.out.b4.frozen _, HT.out.b4.frozen _, HT.out.b4.frozen _, HT.out.b4.frozen _, HT.out.b4.frozen _, HT.out.b4.frozen _, HT.out.b4.frozen _, HT.out.b4.frozen _⟩
        simp only [Nat.reduceAdd] at z0 z1 z2 z3 z4 z5 z6 z7
        go_wp2_with fail
        refine (look_any HT.out.s0 (by omega)).mono ?_
        rintro e w5 ⟨rfl, hk5⟩
        have HT5 := Lib.hid (HT.out.keep hk5)
        clear hk5 HT e0 e1 ef0 ef1 hg3l f0 f1 f2 f3 f4 f5 f6 f7 f8 f9 f10 f11 f12 f13 f14 f15 hg4l z0 z1 z2 z3 z4 z5 z6 z7
        obtain ⟨e0, e1⟩ : w5.cell? ⟨g3, 0, none⟩ = some v0 ∧ w5.cell? ⟨g3, 1, none⟩ = some v1 := ⟨HT5.out.b3.cell 0, HT5.out.b3.cell 1⟩
        have ef0 := HT5.out.b3.frozen 0
        have ef1 := HT5.out.b3.frozen 1
        have hg3l := HT5.out.b3.lt
        obtain ⟨f0, f1, f2, f3, f4, f5, f6, f7⟩ : w5.cell? ⟨g4, 0, none⟩ = some (.bool q0) ∧ w5.cell? ⟨g4, 1, none⟩ = some (.bool q1) ∧ w5.cell? ⟨g4, 2, none⟩ = some (.slice q2 qk2 ql2) ∧ w5.cell? ⟨g4, 3, none⟩ = some (.slice q3 qk3 ql3) ∧ w5.cell? ⟨g4, 4, none⟩ = some (.int .i64 q4) ∧ w5.cell? ⟨g4, 5, none⟩ = some (.int .i64 q5) ∧ w5.cell? ⟨g4, 6, none⟩ = some (.int .i64 q6) ∧ w5.cell? ⟨g4, 7, none⟩ = some (.int .i64 q7) := ⟨HT5.out.b4.cell 0, HT5.out.b4.cell 1, HT5.out.b4.cell 2, HT5.out.b4.cell 3, HT5.out.b4.cell 4, HT5.out.b4.cell 5, HT5.out.b4.cell 6, HT5.out.b4.cell 7⟩
        obtain ⟨f8, f9, f10, f11, f12, f13, f14, f15⟩ : w5.cell? ⟨g4, 8, none⟩ = some (.bool r0) ∧ w5.cell? ⟨g4, 9, none⟩ = some (.bool r1) ∧ w5.cell? ⟨g4, 10, none⟩ = some (.slice r2 rk2 rl2) ∧ w5.cell? ⟨g4, 11, none⟩ = some (.slice r3 rk3 rl3) ∧ w5.cell? ⟨g4, 12, none⟩ = some (.int .i64 r4) ∧ w5.cell? ⟨g4, 13, none⟩ = some (.int .i64 r5) ∧ w5.cell? ⟨g4, 14, none⟩ = some (.int .i64 r6) ∧ w5.cell? ⟨g4, 15, none⟩ = some (.int .i64 r7) := ⟨HT5.out.b4.cell 8, HT5.out.b4.cell 9, HT5.out.b4.cell 10, HT5.out.b4.cell 11, HT5.out.b4.cell 12, HT5.out.b4.cell 13, HT5.out.b4.cell 14, HT5.out.b4.cell 15⟩
        have hg4l := HT5.out.b4.lt
        obtain ⟨z0, z1, z2, z3, z4, z5, z6, z7⟩ : w5.frozen? ⟨g4, 0 + 0, none⟩ = false ∧ w5.frozen? ⟨g4, 0 + 1, none⟩ = false ∧ w5.frozen? ⟨g4, 0 + 2, none⟩ = false ∧ w5.frozen? ⟨g4, 0 + 3, none⟩ = false ∧ w5.frozen? ⟨g4, 0 + 4, none⟩ = false ∧ w5.frozen? ⟨g4, 0 + 5, none⟩ = false ∧ w5.frozen? ⟨g4, 0 + 6, none⟩ = false ∧ w5.frozen? ⟨g4, 0 + 7, none⟩ = false := ⟨HT5.out.b4.frozen _, HT5.out.b4.frozen _, HT5.out.b4.frozen _, HT5.out.b4.frozen _, HT5.out.b4.frozen _, HT5.out.b4.frozen _, HT5.out.b4.frozen _, HT5.out.b4.frozen _⟩
        simp only [Nat.reduceAdd] at z0 z1 z2 z3 z4 z5 z6 z7
        go_wp2_with fail
        refine (look_any HT5.out.s1 (by omega)).mono ?_
        rintro e w6 ⟨rfl, hk6⟩
        have HKP := Lib.hid (HT5.out.kp.trans hk6 (fun _ _ q => q))
        clear hk6 HT5 e0 e1 ef0 ef1 hg3l f0 f1 f2 f3 f4 f5 f6 f7 f8 f9 f10 f11 f12 f13 f14 f15 hg4l z0 z1 z2 z3 z4 z5 z6 z7
        go_wp2_with (go_at_call 32; go_must (refine (awake_ok _).mono ?_); rintro e w8 ⟨rfl, hk8⟩; have HK8 := Lib.hid hk8; clear hk8)
        go_ret
        exact ⟨rfl, HKP.out.trans HK8.out (fun _ _ q => q)⟩
end Go.Proofs.Ytegcbdfilkecpaa
/- How an argument that is a slice of structs is read; no condition. -/
namespace Go.Proofs.Ytegcbdfilkecpaa
open Go.ChangeShapes Go.WideShapes Go.Deep
section
variable {H : Type} {enc : TypeId × Value → H} {P : Program} {w : World} {base : Nat} {spare : Nat → Bool} {held : Bool}
theorem open_slice_fields {t e : TypeId} {fs : Array Field} {fuel : Nat} {cs : List Value} {x : DataW H × List MemPlace} (ht : P.underlying t = some (.slice e)) (he : P.underlying e = some (.struct fs))
    (hone : oneCellFields P fs = true) (hC : P.cellsOf e = fs.size) (h : DataW.trod enc P w base spare held fuel t cs = some x) :
    (cs = [.slice none 0 0] ∧ x = (.nil, [])) ∨
    ∃ (a : Addr) (len cap m : Nat) (D : Nat → DataW H) (Pl : Nat → List MemPlace), cs = [.slice (some a) len cap] ∧ base ≤ a.block ∧ len ≤ cap ∧ cap ≤ maxLen ∧ m = (if spare a.block then cap else len) ∧
      x = (.slice ((List.range len).map D) ((List.range (m - len)).map fun j => D (len + j)), MemPlace.row a (m * fs.size) ++ (List.range m).flatMap Pl) ∧
      ∀ i, i < m → ∃ (ys : List (DataW H × List MemPlace)) (n : Nat), D i = .agg (ys.map (·.1)) ∧ Pl i = ys.flatMap (·.2) ∧ ys.length = fs.size ∧
        ∀ (j : Nat) (f : Field), fs[j]? = some f → ∃ (v : Value) (y : DataW H × List MemPlace), w.cell? (a.add (i * fs.size + j)) = some v ∧ ys[j]? = some y ∧ DataW.trod enc P w base spare held n f.type [v] = some y := by
  rcases open_slice ht h with h0 | ⟨a, len, cap, m, n, D, Pl, hcs, hb, hl, hm, hmm, hx, hi⟩
  · exact .inl h0
  · refine .inr ⟨a, len, cap, m, D, Pl, hcs, hb, hl, hm, hmm, by rw [hC] at hx; exact hx, fun i him => ?_⟩
    obtain ⟨cs', hc, ht'⟩ := hi i him
    rw [hC] at hc
    obtain ⟨ys, n', hn', hy, hlen, hyl, hf⟩ := DataW.trod_struct he ht'
    obtain ⟨_, hcl, hat⟩ := World.cells?_some hc
    simp only [Prod.mk.injEq] at hy
    refine ⟨ys, n', hy.1, hy.2, hyl, fun j f hj => ?_⟩
    obtain ⟨ho, hk⟩ := hone_of hone j f hj
    have hjl : j < fs.size := (Array.getElem?_eq_some_iff.1 hj).1
    have hcell := hat j hjl
    have hv : cs'[j]? = some (cs'[j]'(by omega)) := List.getElem?_eq_getElem (by omega)
    have h1 := hf j f hj
    rw [ho, hk] at h1
    have hone' : (cs'.drop j).take 1 = [cs'[j]'(by omega)] := by
      rw [List.drop_eq_getElem_cons (by omega)]
      rfl
    rw [hone'] at h1
    have hys : ys[j]? = some (ys[j]'(by omega)) := List.getElem?_eq_getElem (by omega)
    refine ⟨_, _, ?_, hys, h1.trans hys⟩
    rw [← Go.Deep.add_add, hcell, hv]
end
end Go.Proofs.Ytegcbdfilkecpaa
/- How arguments that come in are read: numbers, texts, lists of texts, arrays of bytes; no condition. -/
namespace Go.Proofs.Ytegcbdfilkecpaa
open Go.ChangeShapes Go.WideShapes Go.ChangeAt Go.RowKit

section
variable {H : Type} {enc : TypeId × Value → H} {P : Program} {W : World} {spare : Nat → Bool} {held : Bool} {t e : TypeId} {d : DataW H} {p : List MemPlace}
theorem wf_i64 {n : Int} (h : (Lit.int .i64 n).wf = true) : -9223372036854775808 ≤ n ∧ n ≤ 9223372036854775807 := (Lit.wf_int_iff .i64 n).1 h
theorem trod_lt' {v : Value} (h : DataW.Trod enc P W 0 spare held t v d p) : ∀ x ∈ p, x.block < W.heap.size := by obtain ⟨m, hm⟩ := h; exact DataW.trod_lt m _ _ _ hm
end
end Go.Proofs.Ytegcbdfilkecpaa
/- How a row of steps that comes in is read, with the room that its lists take; no condition. -/
namespace Go.Proofs.Ytegcbdfilkecpaa
open Go.ChangeShapes Go.WideShapes Go.ChangeAt Go.RowKit Go.Deep

theorem cellsID : Try.prog.cellsOf 3 = 1 := by kernel_rfl
theorem bytesID : Try.prog.bytesOf 3 = 8 := by kernel_rfl
section
variable {H : Type} {enc : TypeId × Value → H} {W : World} {spare : Nat → Bool} {held : Bool}
theorem open_numsD {fuel : Nat} {v : Value} {y : DataW H × List MemPlace} (h : DataW.trod enc Try.prog W 0 spare held fuel 58 [v] = some y) :
    ∃ (A : Option Addr) (n c : Nat) (l : List Int), v = .slice A n c ∧ Nums W A n l ∧ (∀ x ∈ l, -9223372036854775808 ≤ x ∧ x ≤ 9223372036854775807) ∧ (A = none → n = 0 ∧ c = 0) ∧ ((∃ N ∈ y.1.weights Try.prog 58, n * 8 ≤ N) ∨ n = 0) := by
  rcases open_slice Try.underlying58 h with ⟨hcs, _⟩ | ⟨x2, l2, c2, m2, nn2, D2, Pl2, hcs, _, hl2, hm2, hmm2, hx2, hi2⟩
  · simp only [List.cons.injEq, and_true] at hcs
    exact ⟨none, 0, 0, [], hcs, ⟨rfl, fun q => absurd q (by omega)⟩, by simp, fun _ => ⟨rfl, rfl⟩, .inr rfl⟩
  · simp only [List.cons.injEq, and_true] at hcs
    have hlm2 : l2 ≤ m2 := by rw [hmm2]; split <;> omega
    have hnums : ∀ j, j < l2 → ∃ y : Int, W.cell? (x2.add j) = some (.int .i64 y) ∧ -9223372036854775808 ≤ y ∧ y ≤ 9223372036854775807 := by
      intro j hj
      obtain ⟨cs', hc, ht'⟩ := hi2 j (by omega)
      rw [cellsID, Nat.mul_one] at hc
      obtain ⟨b0, e0, _, wf⟩ := DataW.trod_int Try.underlying3 ht'
      subst e0
      obtain ⟨_, hcl, hat⟩ := World.cells?_some hc
      have := hat 0 (by omega)
      rw [show (x2.add j).add 0 = x2.add j from rfl] at this
      exact ⟨b0, this, wf_i64 wf⟩
    have hL : ∃ L : List Int, L.length = l2 ∧ ∀ j (h : j < L.length), W.cell? (x2.add j) = some (.int .i64 L[j]) ∧ -9223372036854775808 ≤ L[j] ∧ L[j] ≤ 9223372036854775807 := by
      refine ⟨(List.range l2).pmap (fun j hj => Classical.choose (hnums j hj)) (fun j hj => by simpa using hj), by simp, ?_⟩
      intro j hj
      have hj' : j < l2 := by simpa using hj
      have := Classical.choose_spec (hnums j hj')
      simpa using this
    obtain ⟨L, hLl, hLc⟩ := hL
    refine ⟨some x2, l2, c2, L, hcs, ⟨hLl, fun hpos => ?_⟩, fun y hy => ?_, (fun q => by cases q), .inl ?_⟩
    · have hc0 := (hLc 0 (by omega)).1
      obtain ⟨tb, tn, tp⟩ := x2
      have hspot : tp = none := by
        simpa [Addr.add] using World.cell?_spot hc0
      subst hspot
      refine ⟨tb, tn, rfl, ?_, fun j hj => ?_⟩
      · rw [add_mk] at hc0
        exact block_lt_of_cell hc0
      · have := (hLc j (by omega)).1
        rw [add_mk] at this
        rw [this, List.getD_eq_getElem?_getD, List.getElem?_eq_getElem (show j < L.length by omega)]
        rfl
    · obtain ⟨j, hj, rfl⟩ := List.getElem_of_mem hy
      exact (hLc j hj).2
    · rw [hx2]
      refine ⟨(l2 + (m2 - l2)) * 8, ?_, by rw [Nat.add_mul]; omega⟩
      have hu := Try.underlying58
      unfold DataW.weights
      simp [hu, bytesID]
theorem mem_weightsAll {P : Program} {e : TypeId} : ∀ {ds : List (DataW H)} {d : DataW H} {n : Nat}, d ∈ ds → n ∈ d.weights P e → n ∈ DataW.weightsAll P e ds
  | x :: r, d, n, hd, hn => by
    unfold DataW.weightsAll
    rcases List.mem_cons.1 hd with q | q
    · exact List.mem_append.2 (.inl (q ▸ hn))
    · exact List.mem_append.2 (.inr (mem_weightsAll q hn))
  | [], _, _, hd, _ => by cases hd
theorem open_dops {a0 : Option Addr} {len0 cap0 : Nat} {d0 : DataW H} {p0 : List MemPlace} (h0 : DataW.Trod enc Try.prog W 0 spare held 68 (.slice a0 len0 cap0) d0 p0) (hz : ∀ n ∈ d0.weights Try.prog 68, n ≤ reachBytes) : ∃ L, DOps W a0 len0 L := by
  obtain ⟨fuel, hf⟩ := h0
  rcases open_slice_fields Try.underlying68 Try.underlying72 (by kernel_rfl) (by kernel_rfl) hf with ⟨hcs, _⟩ | ⟨x, l, c, m, D, Pl, hcs, _, hl, hm, hmm, hx, hi⟩
  · simp [Value.cells] at hcs
    obtain ⟨rfl, rfl, rfl⟩ := hcs
    exact ⟨[], rfl, fun k x hk => by cases hk⟩
  · simp [Value.cells] at hcs
    obtain ⟨rfl, rfl, rfl⟩ := hcs
    have hlm : len0 ≤ m := by rw [hmm]; split <;> omega
    have hcells : ∀ k, k < len0 → ∃ (y : DOp) (CA : Option Addr) (cn cc : Nat), DopM W y CA cn cc ∧ ∀ j v, (dopV y CA cn cc)[j]? = some v → W.cell? (x.add (k * 7 + j)) = some v := by
      intro k hk
      obtain ⟨ys, nn, hD, hP, hyl, hf4⟩ := hi k (by omega)
      obtain ⟨v0, y0, c0, _, t0⟩ := hf4 0 _ rfl
      obtain ⟨v1, y1, c1, _, t1⟩ := hf4 1 _ rfl
      obtain ⟨v2, y2, c2, _, t2⟩ := hf4 2 _ rfl
      obtain ⟨v3, y3, c3, _, t3⟩ := hf4 3 _ rfl
      obtain ⟨v4, y4, c4, _, t4⟩ := hf4 4 _ rfl
      obtain ⟨v5, y5, c5, _, t5⟩ := hf4 5 _ rfl
      obtain ⟨v6, y6, c6, z6, t6⟩ := hf4 6 _ rfl
      obtain ⟨n0, e0, _, wf0⟩ := DataW.trod_int Try.underlying3 t0
      obtain ⟨n1, e1, _, wf1⟩ := DataW.trod_int Try.underlying3 t1
      obtain ⟨n2, e2, _, wf2⟩ := DataW.trod_int Try.underlying3 t2
      obtain ⟨n3, e3, _, wf3⟩ := DataW.trod_int Try.underlying3 t3
      obtain ⟨s4, e4, _, hs4⟩ := DataW.trod_string Try.underlying9 t4
      obtain ⟨s5, e5, _, hs5⟩ := DataW.trod_string Try.underlying9 t5
      simp only [List.cons.injEq, and_true] at e0 e1 e2 e3 e4 e5
      obtain ⟨CA, cn, cc, chs, rfl, hch, hcr, hcnil, hw⟩ := open_numsD t6
      subst e0 e1 e2 e3 e4 e5
      have hcb : cn * 8 ≤ 140737488355328 := by
        rcases hw with ⟨N, hN, hle⟩ | rfl
        · have hmem : N ∈ d0.weights Try.prog 68 := by
            have hd0 : d0 = .slice ((List.range len0).map D) ((List.range (m - len0)).map fun j => D (len0 + j)) := congrArg Prod.fst hx
            rw [hd0]
            have hu := Try.underlying68
            have hus := Try.underlying72
            have h1 : N ∈ (D k).weights Try.prog 72 := by
              rw [hD]
              unfold DataW.weights
              simp only [hus]
              exact DataW.weights_mem_each (j := 6) (t := 58) (d := y6.1) rfl (by rw [List.getElem?_map, z6]; rfl) N hN
            unfold DataW.weights
            simp only [hu]
            refine List.mem_cons_of_mem _ (List.mem_append.2 (.inl ?_))
            exact mem_weightsAll (d := D k) (List.mem_map.2 ⟨k, List.mem_range.2 hk, rfl⟩) h1
          have := hz N hmem
          have h2 : reachBytes ≤ 140737488355328 := by decide
          omega
        · omega
      refine ⟨⟨n0, n1, n2, n3, s4, s5, chs⟩, CA, cn, cc, ⟨hch, hcnil, hcr, hcb, wf_i64 wf3, wf_i64 wf2, hs4, hs5⟩, fun j v hj => ?_⟩
      have hj7 : j < 7 := (Array.getElem?_eq_some_iff.1 hj).1
      rcases (by omega : j = 0 ∨ j = 1 ∨ j = 2 ∨ j = 3 ∨ j = 4 ∨ j = 5 ∨ j = 6) with rfl | rfl | rfl | rfl | rfl | rfl | rfl
      · exact c0.trans hj
      · exact c1.trans hj
      · exact c2.trans hj
      · exact c3.trans hj
      · exact c4.trans hj
      · exact c5.trans hj
      · exact c6.trans hj
    have hL : ∃ L : List DOp, L.length = len0 ∧ ∀ k (h : k < L.length), ∃ (CA : Option Addr) (cn cc : Nat), DopM W L[k] CA cn cc ∧ ∀ j v, (dopV L[k] CA cn cc)[j]? = some v → W.cell? (x.add (k * 7 + j)) = some v := by
      refine ⟨(List.range len0).pmap (fun k hk => Classical.choose (hcells k hk)) (fun k hk => by simpa using hk), by simp, ?_⟩
      intro k hk
      have hk' : k < len0 := by simpa using hk
      have := Classical.choose_spec (hcells k hk')
      simpa using this
    obtain ⟨L, hLl, hLc⟩ := hL
    refine ⟨L, hLl, fun k y hy => ?_⟩
    obtain ⟨hk, rfl⟩ := List.getElem?_eq_some_iff.1 hy
    obtain ⟨CA, cn, cc, hO, hc⟩ := hLc k hk
    obtain ⟨sb, so, sp⟩ := x
    have hspot : sp = none := by
      obtain ⟨CA', cn', cc', hO', hc'⟩ := hLc 0 (by omega)
      simpa [Addr.add] using World.cell?_spot (hc' 0 _ rfl)
    subst hspot
    have h00 := hc 0 _ rfl
    rw [add_mk] at h00
    exact ⟨sb, so, CA, cn, cc, rfl, block_lt_of_cell h00, fun j v hj => by
      have := hc j v hj
      rw [add_mk, ← Nat.add_assoc] at this
      exact this, hO⟩
end
end Go.Proofs.Ytegcbdfilkecpaa
