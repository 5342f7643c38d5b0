/- DiskSteps: for every list of changes and every number the call returns true and leaves its arguments as they were; no condition. -/
import Derived.Test.YtdgjglocgdccbaaDkStepsP
import Derived.Test.YtdgjglocgdccbaaDkAwake
namespace Go.Proofs.Ytdgjglocgdccbaa
open Go.RowKit

/-- a list of changes in memory: places and texts -/
def Fls (w : World) (A : Option Addr) (n : Nat) (L : List (Int × ByteArray)) : Prop :=
  L.length = n ∧ (∀ x ∈ L, x.2.size ≤ maxLen) ∧ (0 < n → ∃ g o, A = some ⟨g, o, none⟩ ∧ g < w.heap.size ∧ ∀ k (h : k < L.length), w.cell? ⟨g, o + k * 2, none⟩ = some (.int .i64 L[k].1) ∧ w.cell? ⟨g, o + k * 2 + 1, none⟩ = some (.string L[k].2))
theorem Fls.keep {w w' : World} {A : Option Addr} {n : Nat} {L : List (Int × ByteArray)} (h : Fls w A n L) (k : Kp NoB w w') : Fls w' A n L :=
  ⟨h.1, h.2.1, fun hn => by
    obtain ⟨g, o, e, hg, hc⟩ := h.2.2 hn
    exact ⟨g, o, e, Nat.lt_of_lt_of_le hg k.size, fun j hj => ⟨(k.cell hg (fun q => q)).trans (hc j hj).1, (k.cell hg (fun q => q)).trans (hc j hj).2⟩⟩⟩
def longB (L : List (Int × ByteArray)) : Bool := L.any fun x => decide (2000 < x.2.size)
theorem longB_take {L : List (Int × ByteArray)} (h : longB L = false) {x : Int × ByteArray} (hx : x ∈ L) : x.2.size ≤ 2000 := by
  unfold longB at h
  rw [List.any_eq_false] at h
  have := h x hx
  simpa using this
def LongRel (L : List (Int × ByteArray)) (v : Value) : Prop := ∃ k : Nat, v = .int .i64 (k : Int) ∧ k ≤ L.length ∧ longB (L.take k) = false
set_option maxRecDepth 100000 in
set_option maxHeartbeats 400000 in
theorem long_ok (w : World) (A : Option Addr) (n cap : Nat) (L : List (Int × ByteArray)) (hn : n ≤ 9223372036854775807) (h : Fls w A n L) :
    Calls Try.prog 7 #[.slice A n cap] w fun e w' => e = .returned (.bool (longB L)) ∧ w = w' := by
  have H := Lib.hid h
  have HL := Lib.hid h.1
  clear h
  go_enter Try.func7, Try.ntmps7
  go_wp2_with fail
  go_loop [3] (fun v => LongRel L v) (fun v => n - (intOf v).toNat)
  case atStart => exact ⟨0, rfl, Nat.zero_le _, rfl⟩
  case round =>
    obtain ⟨k, rfl, hk, hlk⟩ := hrel
    have HK := Lib.hid hk
    have HLK := Lib.hid hlk
    clear hk hlk
    by_cases hlt : k < n
    · obtain ⟨g, o, rfl, hg, hc⟩ := H.out.2.2 (by omega)
      have hkl : k < L.length := by have := HL.out; omega
      obtain ⟨c0, c1⟩ := hc k hkl
      obtain ⟨x, hx⟩ : ∃ x, L[k] = x := ⟨_, rfl⟩
      rw [hx] at c0 c1
      have hxs := H.out.2.1 x (by rw [← hx]; exact List.getElem_mem hkl)
      have HX : Hid (L[k]? = some x) := Lib.hid (by rw [List.getElem?_eq_getElem hkl, hx])
      have htk : L.take (k + 1) = L.take k ++ [x] := by rw [List.take_add_one, HX.out]; rfl
      have HTK := Lib.hid htk
      have hkk : (k : Int) < (n : Int) := by omega
      unfold maxLen at hxs
      clear hx hc hkl htk
      by_cases hb : 2000 < x.2.size
      · have hbb : (2000 : Int) < (x.2.size : Int) := by omega
        have fin : Hid (longB L = true) := Lib.hid (by
          unfold longB
          rw [List.any_eq_true]
          exact ⟨x, List.mem_of_getElem? HX.out, by simpa using hb⟩)
        go_wp2_with fail
        go_ret
        exact ⟨by rw [fin.out]; rfl, rfl⟩
      · have hbb : ¬ (2000 : Int) < (x.2.size : Int) := by omega
        go_wp2_with fail
        go_round
        case rel => exact ⟨k + 1, by go_num, by have := HL.out; omega, by rw [HTK.out]; unfold longB; rw [List.any_append]; have := HLK.out; unfold longB at this; rw [this]; simpa using hb⟩
        case measure => simp [intOf]; omega
    · have hkk : ¬ (k : Int) < (n : Int) := by omega
      have fin : Hid (longB L = false) := Lib.hid (by
        have := HLK.out
        rwa [List.take_of_length_le (by have := HL.out; omega)] at this)
      go_wp2_with fail
      go_ret
      exact ⟨by rw [fin.out]; rfl, rfl⟩
def nmX : ByteArray := ⟨#[120]⟩
theorem strX : strI nmX = [120] := by kernel_rfl
theorem szX : nmX.size ≤ maxLen := by unfold maxLen; decide
def SRel (W : World) (db : Nat) (c : Int) (n : Nat) (v6 v7 : Value) (wr : World) : Prop :=
  ∃ (i : Nat) (p : Pl), v7 = .int .i64 (i : Int) ∧ v6 = .bool (decide (1 ≤ c ∧ c ≤ (i : Int))) ∧ i ≤ n ∧ StI c i p ∧ Da W wr db p
set_option maxRecDepth 100000 in
set_option maxHeartbeats 1600000 in
theorem steps_law (w : World) (A : Option Addr) (n cap : Nat) (c : Int) (L : List (Int × ByteArray)) (hn : n ≤ 9223372036854775807) (hc : -9223372036854775808 ≤ c ∧ c ≤ 9223372036854775807) (h : Fls w A n L) :
    Calls Try.prog 3 #[.slice A n cap, .int .i64 c] w fun e w' => e = .returned (.bool true) ∧ Kp NoB w w' := by
  have H := Lib.hid h
  have HN := Lib.hid hn
  have HLen := Lib.hid h.1
  clear h
  by_cases h20 : 20 < n
  · have g1 : (20 : Int) < (n : Int) := by omega
    go_enter Try.func3, Try.ntmps3
    go_wp2_with (first
      | (go_at_call 7; go_must (refine (long_ok w A n cap L HN.out H.out).mono ?_); rintro e w2 ⟨rfl, rfl⟩)
      | (go_at_call 8; go_must (refine (awake_ok _).mono ?_); rintro e w4 ⟨rfl, hk4⟩; have HK4 := Lib.hid hk4; clear hk4))
    go_ret
    exact ⟨rfl, HK4.out⟩
  · have g1 : ¬ (20 : Int) < (n : Int) := by omega
    cases hlb : longB L with
    | true =>
      have HLB := Lib.hid hlb
      clear hlb
      go_enter Try.func3, Try.ntmps3
      go_wp2_with (first
        | (go_at_call 7; go_must (refine (long_ok w A n cap L HN.out H.out).mono ?_); rintro e w2 ⟨rfl, rfl⟩; rw [HLB.out])
        | (go_at_call 8; go_must (refine (awake_ok _).mono ?_); rintro e w4 ⟨rfl, hk4⟩; have HK4 := Lib.hid hk4; clear hk4))
      go_ret
      exact ⟨rfl, HK4.out⟩
    | false =>
      have HLB := Lib.hid hlb
      clear hlb
      go_enter Try.func3, Try.ntmps3
      go_wp2_with (first
        | (go_at_call 7; go_must (refine (long_ok w A n cap L HN.out H.out).mono ?_); rintro e w2 ⟨rfl, rfl⟩; rw [HLB.out])
        | (go_at_call 9; go_must (refine (new_d w w 200000 (by omega) (Kp.refl _ _)).mono ?_); rintro e w1 ⟨db, rfl, h1⟩; have H1 := Lib.hid h1; clear h1)
        | (go_at_call 10; go_must (refine (crashin_d H1.out c hc).mono ?_); rintro e w2 ⟨rfl, h2⟩; have H2 := Lib.hid h2; clear h2))
      go_loopw [6, 7] (fun v6 v7 wr => SRel w db c n v6 v7 wr) (fun _ v7 _ => n - (intOf v7).toNat)
      case atStart => exact ⟨0, _, rfl, by congr 1; symm; simp; omega, Nat.zero_le _, StI.start c, H2.out⟩
      case round =>
        obtain ⟨i, p, rfl, rfl, hi, hst, hda⟩ := hrel
        have HST := Lib.hid hst
        have HDA := Lib.hid hda
        have hin20 : i ≤ 20 := by omega
        clear hst hda
        by_cases hlt : i < n
        · obtain ⟨g, o, rfl, hg, hcc⟩ := H.out.2.2 (by omega)
          have hil : i < L.length := by have := HLen.out; omega
          obtain ⟨d0, d1⟩ := hcc i hil
          obtain ⟨x, hx⟩ : ∃ x, L[i] = x := ⟨_, rfl⟩
          rw [hx] at d0 d1
          have c0 := (HDA.out.kp.cell hg (fun q => q)).trans d0
          have c1 := (HDA.out.kp.cell hg (fun q => q)).trans d1
          have HG := Lib.hid hg
          have D0 := Lib.hid d0
          have D1 := Lib.hid d1
          clear hg d0 d1
          have hxm : x ∈ L := by rw [← hx]; exact List.getElem_mem hil
          have hxs := longB_take HLB.out hxm
          have hwr := HST.out.write (bits BinOp.and IntKind.i64 x.1 4095) (strI x.2) (and4095 x.1) (by rw [strI_len]; exact hxs)
          have HWR := Lib.hid hwr
          have HXS : Hid (x.2.size ≤ maxLen) := Lib.hid (by unfold maxLen; omega)
          have HNF : Hid (p.nf < 1099511627776 - 10 ∧ p.pd.length < 1099511627776 - 20000) := Lib.hid (by have := HST.out.nf; have := HST.out.pd; omega)
          have hii : (i : Int) < (n : Int) := by omega
          clear hcc hil hx hxm hxs hwr
          rcases (show (1 ≤ c ∧ c ≤ (i : Int) + 1) ∨ ¬ 1 ≤ c ∨ (1 ≤ c ∧ ¬ c ≤ (i : Int) + 1) by omega) with ⟨hc1, hc2⟩ | hc1 | ⟨hc1, hc2⟩
          · skip
            have he : p.writeE nmF (bits BinOp.and IntKind.i64 x.1 4095) (strI x.2) = 7 := by rw [HWR.out.1]; exact if_pos (by omega)
            have hpd : (p.write nmF (bits BinOp.and IntKind.i64 x.1 4095) (strI x.2)).down = true := by rw [HWR.out.2.down]; simp; omega
            have hdec : decide (1 ≤ c ∧ c ≤ ((i + 1 : Nat) : Int)) = true := by simp; omega
            have HE := Lib.hid he
            have HPD := Lib.hid hpd
            have HDEC := Lib.hid hdec
            clear he hpd hdec
            go_upto_region 9 with fail
            go_region_held3 (fun w' => w'.cell? ⟨g, o + i * 2, none⟩ = some (.int .i64 x.1) ∧ w'.cell? ⟨g, o + i * 2 + 1, none⟩ = some (.string x.2))
              (first | exact ⟨c0, c1⟩ | exact ⟨e0, e1⟩ | go_keep)
              (first
                | (go_at_call 11; go_must (refine (write_d (HDA.out.keep ((Kp.refl NoB wr).drew)) nmF (bits BinOp.and IntKind.i64 x.1 4095) x.2 sz4.1 HXS.out HNF.out.1 HNF.out.2).mono ?_); rintro e w3 ⟨rfl, h3⟩; rw [HE.out]; have H3 := Lib.hid h3; have e0 := (h3.kp.cell HG.out (fun q => q)).trans D0.out; have e1 := (h3.kp.cell HG.out (fun q => q)).trans D1.out; clear h3))
            clear e0 e1 c0 c1
            go_wp2_with (go_at_call 12; go_must (refine (down_d H3.out).mono ?_); rintro e w4 ⟨rfl, rfl⟩; rw [HPD.out])
            go_roundw
            case rel => exact ⟨i + 1, _, by go_num, (by rw [HDEC.out]; first | done | rfl | (congr 1; simp; omega)), by omega, HWR.out.2, H3.out⟩
            case measure => simp [intOf]; omega
          · skip
            have he : p.writeE nmF (bits BinOp.and IntKind.i64 x.1 4095) (strI x.2) = 0 := by rw [HWR.out.1]; exact if_neg (by omega)
            have hpd : (p.write nmF (bits BinOp.and IntKind.i64 x.1 4095) (strI x.2)).down = false := by rw [HWR.out.2.down]; simp; omega
            have hdec : decide (1 ≤ c ∧ c ≤ ((i + 1 : Nat) : Int)) = false := by simp; omega
            have HE := Lib.hid he
            have HPD := Lib.hid hpd
            have HDEC := Lib.hid hdec
            clear he hpd hdec
            go_upto_region 9 with fail
            go_region_held3 (fun w' => w'.cell? ⟨g, o + i * 2, none⟩ = some (.int .i64 x.1) ∧ w'.cell? ⟨g, o + i * 2 + 1, none⟩ = some (.string x.2))
              (first | exact ⟨c0, c1⟩ | exact ⟨e0, e1⟩ | go_keep)
              (first
                | (go_at_call 11; go_must (refine (write_d (HDA.out.keep ((Kp.refl NoB wr).drew)) nmF (bits BinOp.and IntKind.i64 x.1 4095) x.2 sz4.1 HXS.out HNF.out.1 HNF.out.2).mono ?_); rintro e w3 ⟨rfl, h3⟩; rw [HE.out]; have H3 := Lib.hid h3; have e0 := (h3.kp.cell HG.out (fun q => q)).trans D0.out; have e1 := (h3.kp.cell HG.out (fun q => q)).trans D1.out; clear h3))
            clear e0 e1 c0 c1
            go_wp2_with (go_at_call 12; go_must (refine (down_d H3.out).mono ?_); rintro e w4 ⟨rfl, rfl⟩; rw [HPD.out])
            go_roundw
            case rel => exact ⟨i + 1, _, by go_num, (by rw [HDEC.out]; first | done | rfl | (congr 1; simp; omega)), by omega, HWR.out.2, H3.out⟩
            case measure => simp [intOf]; omega
          · skip
            have he : p.writeE nmF (bits BinOp.and IntKind.i64 x.1 4095) (strI x.2) = 0 := by rw [HWR.out.1]; exact if_neg (by omega)
            have hpd : (p.write nmF (bits BinOp.and IntKind.i64 x.1 4095) (strI x.2)).down = false := by rw [HWR.out.2.down]; simp; omega
            have hdec : decide (1 ≤ c ∧ c ≤ ((i + 1 : Nat) : Int)) = false := by simp; omega
            have HE := Lib.hid he
            have HPD := Lib.hid hpd
            have HDEC := Lib.hid hdec
            clear he hpd hdec
            go_upto_region 9 with fail
            go_region_held3 (fun w' => w'.cell? ⟨g, o + i * 2, none⟩ = some (.int .i64 x.1) ∧ w'.cell? ⟨g, o + i * 2 + 1, none⟩ = some (.string x.2))
              (first | exact ⟨c0, c1⟩ | exact ⟨e0, e1⟩ | go_keep)
              (first
                | (go_at_call 11; go_must (refine (write_d (HDA.out.keep ((Kp.refl NoB wr).drew)) nmF (bits BinOp.and IntKind.i64 x.1 4095) x.2 sz4.1 HXS.out HNF.out.1 HNF.out.2).mono ?_); rintro e w3 ⟨rfl, h3⟩; rw [HE.out]; have H3 := Lib.hid h3; have e0 := (h3.kp.cell HG.out (fun q => q)).trans D0.out; have e1 := (h3.kp.cell HG.out (fun q => q)).trans D1.out; clear h3))
            clear e0 e1 c0 c1
            go_wp2_with (go_at_call 12; go_must (refine (down_d H3.out).mono ?_); rintro e w4 ⟨rfl, rfl⟩; rw [HPD.out])
            go_roundw
            case rel => exact ⟨i + 1, _, by go_num, (by rw [HDEC.out]; first | done | rfl | (congr 1; simp; omega)), by omega, HWR.out.2, H3.out⟩
            case measure => simp [intOf]; omega
        · have hii : ¬ (i : Int) < (n : Int) := by omega
          by_cases hcr : 1 ≤ c ∧ c ≤ (i : Int)
          · obtain ⟨hre, hup⟩ := HST.out.again hin20 hcr
            have hd : p.down = true := by rw [HST.out.down]; simpa using hcr
            have HRE := Lib.hid hre
            have HRD : Hid (strOf (p.read nmF 0 1) = ⟨#[]⟩ ∧ p.readE 0 1 = 7) := Lib.hid (by
              have e1 : p.readE 0 1 = 7 := by unfold Pl.readE; rw [hd]; rfl
              refine ⟨?_, e1⟩
              unfold Pl.read
              rw [e1]
              rfl)
            have HSY : Hid (p.syncE = 7 ∧ p.sync nmF = p) := Lib.hid ⟨by unfold Pl.syncE; rw [hd]; rfl, by unfold Pl.sync; rw [hd]; rfl⟩
            have HLE : Hid (p.len nmF = 0) := Lib.hid (by unfold Pl.len; rw [hd]; rfl)
            have HNP : Hid (p.nf < 1099511627776 - 10 ∧ p.pd.length < 1099511627776 - 20000 ∧ p.nf + p.pd.length < 1099511627776 - 10) := Lib.hid (by have := HST.out.nf; have := HST.out.pd; omega)
            obtain ⟨Q, hQ⟩ : ∃ Q, p.restart [] = Q := ⟨_, rfl⟩
            rw [hQ] at hup
            have HUP := Lib.hid hup
            have HQQ := Lib.hid hQ
            have HL0 := Lib.hid HUP.out.last
            have HNF : Hid (Q.nf < 1099511627776 - 10 ∧ Q.pd.length < 1099511627776 - 20000) := Lib.hid (by have := HUP.out.nf; have := HUP.out.pd; omega)
            have HNF2 : Hid ((Q.write nmF 0 [120]).nf < 1099511627776 - 10 ∧ (Q.write nmF 0 [120]).pd.length < 1099511627776 - 20000) := Lib.hid (by have := HL0.out.2.2.1; have := HL0.out.2.2.2; omega)
            obtain ⟨hc1, hc2⟩ := hcr
            clear hre hup hd hQ
            go_wp2_with (first
              | (go_at_call 13; go_must (refine (read_d HDA.out nmF 0 1 sz4.1 (by omega) (by omega)).mono ?_); rw [HRD.out.1, HRD.out.2]; rintro e w3 ⟨rfl, h3⟩; have H3 := Lib.hid h3; clear h3)
              | (go_at_call 11; go_must (refine (write_d HQ.out nmF 0 nmX sz4.1 szX HNF.out.1 HNF.out.2).mono ?_); rw [strX]; rintro e w7 ⟨rfl, h7⟩; rw [HL0.out.1]; have H7 := Lib.hid h7; clear h7)
              | (have hG := H7; clear hG; go_at_call 14; go_must (refine (sync_d H7.out nmF sz4.1 HNF2.out.1 HNF2.out.2).mono ?_); rintro e w8 ⟨rfl, h8⟩; rw [HL0.out.2.1]; have H8 := Lib.hid h8; clear h8)
              | (go_at_call 14; go_must (refine (sync_d H3.out nmF sz4.1 HNP.out.1 HNP.out.2.1).mono ?_); rw [HSY.out.1, HSY.out.2]; rintro e w4 ⟨rfl, h4⟩; have H4 := Lib.hid h4; clear h4)
              | (go_at_call 15; go_must (refine (len_d H4.out nmF sz4.1).mono ?_); rintro e w5 ⟨rfl, rfl⟩; rw [HLE.out])
              | (go_at_call 16; go_must (refine (restart_d H4.out none 0 0 [] (Nums.nil _) (fun _ _ q => by cases q) (fun _ q => by cases q) (by omega) HNP.out.2.2).mono ?_); rw [HQQ.out]; rintro e w6 ⟨rfl, h6⟩; rw [HRE.out]; have HQ := Lib.hid h6; clear h6)
              | (go_at_call 8; go_must (refine (awake_ok _).mono ?_); rintro e w9 ⟨rfl, hk9⟩; have HK9 := Lib.hid hk9; clear hk9))
            go_ret
            exact ⟨rfl, H8.out.kp.trans HK9.out (fun _ _ q => q)⟩
          · have hup := HST.out.up hin20 hcr
            obtain ⟨Q, hQ⟩ : ∃ Q, p.crashIn 0 = Q := ⟨_, rfl⟩
            rw [hQ] at hup
            have HUP := Lib.hid hup
            have HQQ := Lib.hid hQ
            have HL0 := Lib.hid HUP.out.last
            have HNF : Hid (Q.nf < 1099511627776 - 10 ∧ Q.pd.length < 1099511627776 - 20000) := Lib.hid (by have := HUP.out.nf; have := HUP.out.pd; omega)
            have HNF2 : Hid ((Q.write nmF 0 [120]).nf < 1099511627776 - 10 ∧ (Q.write nmF 0 [120]).pd.length < 1099511627776 - 20000) := Lib.hid (by have := HL0.out.2.2.1; have := HL0.out.2.2.2; omega)
            clear hup hQ
            have arm : True := trivial
            rcases (show ¬ 1 ≤ c ∨ (1 ≤ c ∧ ¬ c ≤ (i : Int)) by omega) with hc1 | ⟨hc1, hc2⟩
            all_goals
              go_wp2_with (first
                | (go_at_call 10; go_must (refine (crashin_d HDA.out 0 (by omega)).mono ?_); rw [HQQ.out]; rintro e w6 ⟨rfl, h6⟩; have HQ := Lib.hid h6; clear h6)
                | (go_at_call 11; go_must (refine (write_d HQ.out nmF 0 nmX sz4.1 szX HNF.out.1 HNF.out.2).mono ?_); rw [strX]; rintro e w7 ⟨rfl, h7⟩; rw [HL0.out.1]; have H7 := Lib.hid h7; clear h7)
                | (have hG := H7; clear hG; go_at_call 14; go_must (refine (sync_d H7.out nmF sz4.1 HNF2.out.1 HNF2.out.2).mono ?_); rintro e w8 ⟨rfl, h8⟩; rw [HL0.out.2.1]; have H8 := Lib.hid h8; clear h8)
                | (go_at_call 8; go_must (refine (awake_ok _).mono ?_); rintro e w9 ⟨rfl, hk9⟩; have HK9 := Lib.hid hk9; clear hk9))
              go_ret
              exact ⟨rfl, H8.out.kp.trans HK9.out (fun _ _ q => q)⟩
end Go.Proofs.Ytdgjglocgdccbaa
