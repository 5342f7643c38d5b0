/- Texts of this proof, one behind the other: lemmas and contracts; each says its own conditions. -/
import Derived.Test.YtegcbdfilkecpaaM1
import Derived.Test.YtegcbdfilkecpaaM7
import Derived.Test.YtegcbdfilkecpaaM13
import Derived.Test.YtegcbdfilkecpaaM15
import Derived.Test.YtegcbdfilkecpaaM18
import Derived.ProofKit
import Derived.OpenShut
import Derived.ShutString
import Derived.ChangeOld
import Derived.Deep.Slices
import Derived.Deep.Fields
import Derived.ChangeSame
import Derived.Test.YtegcbdfilkecpaaRows
import Derived.SliceStrings
import Derived.DataShut
/- The journal: the way back, crashing on the way; condition: at most 6 crashes. -/
namespace Go.Proofs.Ytegcbdfilkecpaa
open Go.RowKit

theorem survive_nf : ∀ (cs : List Cg) (chs : List Int) (p : Pl), (p.survive cs chs).nf ≤ p.nf + cs.length
  | [], chs, p => by unfold Pl.survive; exact Nat.le_refl _
  | c :: cs, [], p => by unfold Pl.survive; exact Nat.le_add_right _ _
  | c :: cs, ch :: r, p => by
    unfold Pl.survive
    have h := survive_nf cs r (p.at_.setKept c.nm (Pl.made (p.kept c.nm) c ch))
    have e : (p.at_.setKept c.nm (Pl.made (p.kept c.nm) c ch)).nf = p.nf + 1 := rfl
    rw [e] at h
    rw [List.length_cons]
    omega
theorem sm_restart {p : Pl} {k : Nat} (chs : List Int) (h : p.sm k) : (p.restart chs).sm k := by
  unfold Pl.restart
  split
  · have h1 := survive_nf p.pd chs p
    unfold Pl.sm at h ⊢
    show (p.survive p.pd chs).nf + ([] : List Cg).length + k < _
    rw [List.length_nil]
    omega
  · exact h
theorem sm_jup {p : Pl} {k : Nat} (chs : List Int) (h : p.sm k) : (p.jup chs).sm k := by
  unfold Pl.jup
  split
  · exact sm_restart chs h
  · exact h
theorem sm_crashIn {p : Pl} {k : Nat} (n : Int) (h : p.sm k) : (p.crashIn n).sm k := h
theorem Nums.keepN {w w' : World} {A : Option Addr} {n : Nat} {xs : List Int} (h : Nums w A n xs) (k : Kp NoB w w') : Nums w' A n xs := h.keep k (fun _ _ _ q => q)
theorem Nums.keep2 {S : Nat → Prop} {w w' : World} {A : Option Addr} {n : Nat} {xs : List Int} (h : Nums w A n xs) (k : Kp S w w') (hS : ∀ g o, A = some ⟨g, o, none⟩ → 0 < n → ¬ S g) : Nums w' A n xs :=
  ⟨h.1, fun hn => by
    obtain ⟨g, o, e, hg, hc⟩ := h.2 hn
    exact ⟨g, o, e, Nat.lt_of_lt_of_le hg k.size, fun j hj => (k.cell hg (hS g o e hn)).trans (hc j hj)⟩⟩
theorem Nums.lt {w : World} {A : Option Addr} {n : Nat} {xs : List Int} (h : Nums w A n xs) {g o : Nat} (e : A = some ⟨g, o, none⟩) (hn : 0 < n) : g < w.heap.size := by
  obtain ⟨g', o', e', hg, _⟩ := h.2 hn
  rw [e] at e'
  injection e' with e'
  injection e' with e1 e2
  omega
def BaRel (S : Nat → Prop) (W0 : World) (n db : Nat) (L : List (Int × List Int)) (R : Pl × Bool) (v5 : Value) (wr : World) : Prop := ∃ (k : Nat) (q : Pl), v5 = .int .i64 (k : Int) ∧ k ≤ n ∧ Dq S W0 wr db q ∧ q.jways (L.drop k) = R ∧ q.sm ((7 - k) * 90000000)
set_option maxRecDepth 100000 in
set_option maxHeartbeats 4000000 in
theorem back_q (S : Nat → Prop) (Wo W0 w : World) (db : Nat) (p : Pl) (h : Dq S W0 w db p) (ko : Kp NoB Wo W0) (hSo : ∀ b, S b → Wo.heap.size ≤ b) (A : Option Addr) (n cap : Nat) (L : List (Int × List Int)) (hL : Wys Wo A n L) (hn : n ≤ 6) (hm : p.sm 700000000) :
    Calls Try.prog 25 #[ptrV db, .slice A n cap] w fun e w' => e = .returned (.bool (p.jways L).2) ∧ Dq S W0 w' db (p.jways L).1 := by
  have H := Lib.hid h
  have HL := Lib.hid hL
  have LL := Lib.hid hL.1
  have HM := Lib.hid hm
  have KO := Lib.hid ko
  have SO := Lib.hid (fun g (hg : g < Wo.heap.size) (z : S g) => (absurd (hSo g z) (by omega) : False))
  obtain ⟨R, hR⟩ : ∃ R, p.jways L = R := ⟨_, rfl⟩
  have HR := Lib.hid hR
  rw [hR]
  clear h hL hm hR ko hSo
  unfold ptrV
  go_enter Try.func25, Try.ntmps25
  go_wp2_with fail
  go_loopw [5] (fun v5 wr => BaRel S W0 n db L R v5 wr) (fun v _ => n - (intOf v).toNat)
  case atStart => exact ⟨0, p, rfl, by omega, H.out, by rw [List.drop_zero]; exact HR.out, sm_mono HM.out (by omega)⟩
  case round =>
    obtain ⟨wq, rfl⟩ : ∃ wq, wq = wr := ⟨_, rfl⟩
    obtain ⟨k, q, rfl, hk, hq, hqr, hsm⟩ := hrel
    have HQ := Lib.hid hq
    have HQR := Lib.hid hqr
    have HSM := Lib.hid hsm
    clear hq hqr hsm
    by_cases hlt : k < n
    · have hkk : (k : Int) < (n : Int) := by omega
      obtain ⟨x, hx⟩ : ∃ x, L[k]? = some x := ⟨_, List.getElem?_eq_getElem (by have := LL.out; omega)⟩
      have hdr : L.drop k = x :: L.drop (k + 1) := by
        obtain ⟨hk2, hx2⟩ := List.getElem?_eq_some_iff.1 hx
        rw [List.drop_eq_getElem_cons hk2, hx2]
      obtain ⟨hx1, hx2, g, o, Ab, nb, cb, e, hg, hc0, hc1, hnum, hnb⟩ := HL.out.2 k x hx
      subst e
      have HX1 := Lib.hid hx1
      have HX2 := Lib.hid hx2
      have HNUM := Lib.hid hnum
      have HNL := Lib.hid (fun g o (e : Ab = some ⟨g, o, none⟩) (hp : 0 < nb) => (⟨Nat.lt_of_lt_of_le (hnum.lt e hp) KO.out.size, SO.out g (hnum.lt e hp)⟩ : g < W0.heap.size ∧ ¬ S g))
      have HNB := Lib.hid hnb
      have HDR := Lib.hid hdr
      have HC0 := Lib.hid hc0
      have HC1 := Lib.hid hc1
      have HG := Lib.hid hg
      clear hx hdr hx1 hx2 hnum hnb hc0 hc1 hg
      have hqk := HQ.out.kp
      have c0 : wq.cell? ⟨g, o + k * 2, none⟩ = some (.int .i64 x.1) := (hqk.cell (Nat.lt_of_lt_of_le HG.out KO.out.size) (SO.out _ HG.out)).trans ((KO.out.cell HG.out (fun z => z)).trans HC0.out)
      have c1 : wq.cell? ⟨g, o + k * 2 + 1, none⟩ = some (.slice Ab nb cb) := (hqk.cell (Nat.lt_of_lt_of_le HG.out KO.out.size) (SO.out _ HG.out)).trans ((KO.out.cell HG.out (fun z => z)).trans HC1.out)
      clear hqk
      go_wp2_with fail
      rcases hdn : q.down with _ | _
      · refine (show Calls _ _ #[ptrV db] _ _ from down_q HQ.out).mono ?_
        rintro e w2 ⟨rfl, rfl⟩
        rw [hdn]
        have HJ : Hid (Dq S W0 wq db (q.jup x.2)) := Lib.hid (by unfold Pl.jup; rw [hdn]; exact HQ.out)
        go_wp2_with fail
        have HSJ := Lib.hid (sm_jup x.2 HSM.out)
        refine (show Calls _ _ #[ptrV db, .int .i64 x.1] _ _ from crashin_q HJ.out x.1 HX1.out).mono ?_
        rintro e w4 ⟨rfl, h4⟩
        have H4 := Lib.hid h4
        clear h4
        go_wp2_with fail
        refine (show Calls _ _ #[ptrV db] _ _ from recover_q0 H4.out (sm_mono (sm_crashIn _ HSJ.out) (by omega))).mono ?_
        rintro e w5 ⟨rfl, h5⟩
        have hsm5 : (((q.jup x.2).crashIn x.1).jrecover.1).sm ((7 - (k + 1)) * 90000000) := sm_recover (sm_mono (sm_crashIn _ HSJ.out) (by omega))
        have hw : Hid (R = if ((q.jup x.2).crashIn x.1).jrecover.2.2 ≠ 0 ∧ ((q.jup x.2).crashIn x.1).jrecover.2.2 ≠ 7 then (((q.jup x.2).crashIn x.1).jrecover.1, false) else ((((q.jup x.2).crashIn x.1).jrecover.1).crashIn 0).jways (L.drop (k + 1))) := Lib.hid (by
          rw [← HQR.out, HDR.out]
          rfl)
        obtain ⟨a, ha⟩ : ∃ a, ((q.jup x.2).crashIn x.1).jrecover = a := ⟨_, rfl⟩
        rw [ha] at h5 hsm5 hw ⊢
        obtain ⟨a1, B, E⟩ := a
        have H5 := Lib.hid h5
        have HS5 := Lib.hid hsm5
        clear h5 hsm5 ha
        by_cases e0 : E = 0
        · subst e0
          have hw2 : Hid (R = (a1.crashIn 0).jways (L.drop (k + 1))) := Lib.hid (by rw [hw.out]; simp)
          clear hw
          go_wp2_with fail
          refine (show Calls _ _ #[ptrV db, .int .i64 0] _ _ from crashin_q H5.out 0 (by omega)).mono ?_
          rintro e w6 ⟨rfl, h6⟩
          have H6 := Lib.hid h6
          clear h6
          go_wp2_with fail
          exact ⟨⟨k + 1, _, by congr 1, by omega, H6.out, hw2.out.symm, HS5.out⟩, by simp [intOf]; omega⟩
        · by_cases e7 : E = 7
          · subst e7
            have hw2 : Hid (R = (a1.crashIn 0).jways (L.drop (k + 1))) := Lib.hid (by rw [hw.out]; simp)
            clear hw
            go_wp2_with fail
            refine (show Calls _ _ #[ptrV db, .int .i64 0] _ _ from crashin_q H5.out 0 (by omega)).mono ?_
            rintro e w6 ⟨rfl, h6⟩
            have H6 := Lib.hid h6
            clear h6
            go_wp2_with fail
            exact ⟨⟨k + 1, _, by congr 1, by omega, H6.out, hw2.out.symm, HS5.out⟩, by simp [intOf]; omega⟩
          · have hw2 : Hid (R = (a1, false)) := Lib.hid (by rw [hw.out, if_pos ⟨e0, e7⟩])
            clear hw
            have n0 : (E != 0) = true := by simpa using e0
            have n1 : (E == 0) = false := by simpa using e0
            have n2 : (E != 7) = true := by simpa using e7
            have n3 : (E == 7) = false := by simpa using e7
            go_wp2_with fail
            go_ret
            rw [hw2.out]
            exact ⟨rfl, H5.out⟩
      · refine (show Calls _ _ #[ptrV db] _ _ from down_q HQ.out).mono ?_
        rintro e w2 ⟨rfl, rfl⟩
        rw [hdn]
        go_wp2_with fail
        refine (show Calls _ _ #[ptrV db, .slice Ab nb cb] _ _ from restart_q HQ.out Ab nb cb x.2 ((HNUM.out.keepN KO.out).keep2 HQ.out.kp (fun g o e hp => (HNL.out g o e hp).2)) HNL.out HX2.out HNB.out (sm_mono HSM.out (by omega))).mono ?_
        rintro e w3 ⟨rfl, h3⟩
        rw [show q.restartE = 0 by unfold Pl.restartE; rw [hdn]; rfl]
        have HJ : Hid (Dq S W0 w3 db (q.jup x.2)) := Lib.hid (by unfold Pl.jup; rw [hdn]; exact h3)
        clear h3
        have hqk := HJ.out.kp
        have c0 : w3.cell? ⟨g, o + k * 2, none⟩ = some (.int .i64 x.1) := (hqk.cell (Nat.lt_of_lt_of_le HG.out KO.out.size) (SO.out _ HG.out)).trans ((KO.out.cell HG.out (fun z => z)).trans HC0.out)
        clear hqk
        go_wp2_with fail
        have HSJ := Lib.hid (sm_jup x.2 HSM.out)
        refine (show Calls _ _ #[ptrV db, .int .i64 x.1] _ _ from crashin_q HJ.out x.1 HX1.out).mono ?_
        rintro e w4 ⟨rfl, h4⟩
        have H4 := Lib.hid h4
        clear h4
        go_wp2_with fail
        refine (show Calls _ _ #[ptrV db] _ _ from recover_q0 H4.out (sm_mono (sm_crashIn _ HSJ.out) (by omega))).mono ?_
        rintro e w5 ⟨rfl, h5⟩
        have hsm5 : (((q.jup x.2).crashIn x.1).jrecover.1).sm ((7 - (k + 1)) * 90000000) := sm_recover (sm_mono (sm_crashIn _ HSJ.out) (by omega))
        have hw : Hid (R = if ((q.jup x.2).crashIn x.1).jrecover.2.2 ≠ 0 ∧ ((q.jup x.2).crashIn x.1).jrecover.2.2 ≠ 7 then (((q.jup x.2).crashIn x.1).jrecover.1, false) else ((((q.jup x.2).crashIn x.1).jrecover.1).crashIn 0).jways (L.drop (k + 1))) := Lib.hid (by
          rw [← HQR.out, HDR.out]
          rfl)
        obtain ⟨a, ha⟩ : ∃ a, ((q.jup x.2).crashIn x.1).jrecover = a := ⟨_, rfl⟩
        rw [ha] at h5 hsm5 hw ⊢
        obtain ⟨a1, B, E⟩ := a
        have H5 := Lib.hid h5
        have HS5 := Lib.hid hsm5
        clear h5 hsm5 ha
        by_cases e0 : E = 0
        · subst e0
          have hw2 : Hid (R = (a1.crashIn 0).jways (L.drop (k + 1))) := Lib.hid (by rw [hw.out]; simp)
          clear hw
          go_wp2_with fail
          refine (show Calls _ _ #[ptrV db, .int .i64 0] _ _ from crashin_q H5.out 0 (by omega)).mono ?_
          rintro e w6 ⟨rfl, h6⟩
          have H6 := Lib.hid h6
          clear h6
          go_wp2_with fail
          exact ⟨⟨k + 1, _, by congr 1, by omega, H6.out, hw2.out.symm, HS5.out⟩, by simp [intOf]; omega⟩
        · by_cases e7 : E = 7
          · subst e7
            have hw2 : Hid (R = (a1.crashIn 0).jways (L.drop (k + 1))) := Lib.hid (by rw [hw.out]; simp)
            clear hw
            go_wp2_with fail
            refine (show Calls _ _ #[ptrV db, .int .i64 0] _ _ from crashin_q H5.out 0 (by omega)).mono ?_
            rintro e w6 ⟨rfl, h6⟩
            have H6 := Lib.hid h6
            clear h6
            go_wp2_with fail
            exact ⟨⟨k + 1, _, by congr 1, by omega, H6.out, hw2.out.symm, HS5.out⟩, by simp [intOf]; omega⟩
          · have hw2 : Hid (R = (a1, false)) := Lib.hid (by rw [hw.out, if_pos ⟨e0, e7⟩])
            clear hw
            have n0 : (E != 0) = true := by simpa using e0
            have n1 : (E == 0) = false := by simpa using e0
            have n2 : (E != 7) = true := by simpa using e7
            have n3 : (E == 7) = false := by simpa using e7
            go_wp2_with fail
            go_ret
            rw [hw2.out]
            exact ⟨rfl, H5.out⟩
    · have hkk : ¬ (k : Int) < (n : Int) := by omega
      obtain rfl : k = n := by omega
      go_wp2_with fail
      rcases hdn : q.down with _ | _
      · refine (show Calls _ _ #[ptrV db] _ _ from down_q HQ.out).mono ?_
        rintro e w2 ⟨rfl, rfl⟩
        rw [hdn]
        have HJ : Hid (Dq S W0 wq db (q.jup [])) := Lib.hid (by unfold Pl.jup; rw [hdn]; exact HQ.out)
        go_wp2_with fail
        have HSJ := Lib.hid (sm_jup [] HSM.out)
        have HRR : Hid (R = ((q.jup []).jrecover.1, decide ((q.jup []).jrecover.2.2 = 0) && !(q.jup []).jrecover.1.jhot)) := Lib.hid (by
          rw [← HQR.out, List.drop_of_length_le (by rw [LL.out]; exact Nat.le_refl _)]
          rfl)
        refine (show Calls _ _ #[ptrV db] _ _ from recover_q0 HJ.out (sm_mono HSJ.out (by omega))).mono ?_
        rintro e w5 ⟨rfl, h5⟩
        obtain ⟨a, ha⟩ : ∃ a, (q.jup []).jrecover = a := ⟨_, rfl⟩
        rw [ha] at h5 HRR ⊢
        obtain ⟨a1, B, E⟩ := a
        have H5 := Lib.hid h5
        clear h5 ha
        by_cases e0 : E = 0
        · subst e0
          go_wp2_with fail
          refine (show Calls _ _ #[ptrV db] _ _ from hot_q H5.out).mono ?_
          rintro e w6 ⟨rfl, hk6⟩
          have H6 := Lib.hid (H5.out.keep hk6)
          clear hk6
          rcases hjh : a1.jhot with _ | _
          · go_wp2_with fail
            go_ret
            rw [HRR.out]
            exact ⟨by simp [hjh], H6.out⟩
          · go_wp2_with fail
            go_ret
            rw [HRR.out]
            exact ⟨by simp [hjh], H6.out⟩
        · have n1 : (E == 0) = false := by simpa using e0
          go_wp2_with fail
          go_ret
          rw [HRR.out]
          exact ⟨by simp [e0], H5.out⟩
      · refine (show Calls _ _ #[ptrV db] _ _ from down_q HQ.out).mono ?_
        rintro e w2 ⟨rfl, rfl⟩
        rw [hdn]
        go_wp2_with fail
        refine (show Calls _ _ #[ptrV db, .slice none 0 0] _ _ from restart_q HQ.out none 0 0 [] ⟨rfl, fun h => absurd h (by omega)⟩ (fun g o e => by cases e) (by simp) (by omega) (sm_mono HSM.out (by omega))).mono ?_
        rintro e w3 ⟨rfl, h3⟩
        rw [show q.restartE = 0 by unfold Pl.restartE; rw [hdn]; rfl]
        have HJ : Hid (Dq S W0 w3 db (q.jup [])) := Lib.hid (by unfold Pl.jup; rw [hdn]; exact h3)
        clear h3
        go_wp2_with fail
        have HSJ := Lib.hid (sm_jup [] HSM.out)
        have HRR : Hid (R = ((q.jup []).jrecover.1, decide ((q.jup []).jrecover.2.2 = 0) && !(q.jup []).jrecover.1.jhot)) := Lib.hid (by
          rw [← HQR.out, List.drop_of_length_le (by rw [LL.out]; exact Nat.le_refl _)]
          rfl)
        refine (show Calls _ _ #[ptrV db] _ _ from recover_q0 HJ.out (sm_mono HSJ.out (by omega))).mono ?_
        rintro e w5 ⟨rfl, h5⟩
        obtain ⟨a, ha⟩ : ∃ a, (q.jup []).jrecover = a := ⟨_, rfl⟩
        rw [ha] at h5 HRR ⊢
        obtain ⟨a1, B, E⟩ := a
        have H5 := Lib.hid h5
        clear h5 ha
        by_cases e0 : E = 0
        · subst e0
          go_wp2_with fail
          refine (show Calls _ _ #[ptrV db] _ _ from hot_q H5.out).mono ?_
          rintro e w6 ⟨rfl, hk6⟩
          have H6 := Lib.hid (H5.out.keep hk6)
          clear hk6
          rcases hjh : a1.jhot with _ | _
          · go_wp2_with fail
            go_ret
            rw [HRR.out]
            exact ⟨by simp [hjh], H6.out⟩
          · go_wp2_with fail
            go_ret
            rw [HRR.out]
            exact ⟨by simp [hjh], H6.out⟩
        · have n1 : (E == 0) = false := by simpa using e0
          go_wp2_with fail
          go_ret
          rw [HRR.out]
          exact ⟨by simp [e0], H5.out⟩
end Go.Proofs.Ytegcbdfilkecpaa
/- JournalAtomic: the function walked, over what a plain law says of its states (AtF); no condition but on the arguments in memory. -/
namespace Go.Proofs.Ytegcbdfilkecpaa
open Go.RowKit

/-- what is left behind a commit that may have crashed: whatever the way back, one of two lists of pages -/
def fallen (p : Pl) : Pl := if (p.crashIn 0).down then p.crashIn 0 else (p.crashIn 0).crashNow
def Fin (p : Pl) (a b : List (List Int)) : Prop := ∀ L, ((fallen p).jways L).2 = true ∧ ((fallen p).jways L).1.jcount ≤ 4096 ∧
  (allPg (((fallen p).jways L).1.seen nmDb) ((fallen p).jways L).1.jcount = a ∨ allPg (((fallen p).jways L).1.seen nmDb) ((fallen p).jways L).1.jcount = b)
/-- what the plain law must say -/
structure AtF (AtI : Pl → Nat → Prop) : Prop where
  new : AtI (Pl.new 100000) 0
  fin0 : Fin (Pl.new 100000) [] []
  cnt : ∀ p s, AtI p s → p.jcount = s
  stp : ∀ (p : Pl) (s N : Nat) (bs : List Int), AtI p s → s ≤ 15 → N ≤ 15 → (∀ y ∈ bs, (0 : Int) ≤ y ∧ y < 256) → (p.jcommit (N : Int) (chPgs bs s N)).2 = 0 ∧ AtI (p.jcommit (N : Int) (chPgs bs s N)).1 N
  lst : ∀ (p : Pl) (s N : Nat) (bs : List Int) (c : Int), AtI p s → s ≤ 15 → N ≤ 15 → (∀ y ∈ bs, (0 : Int) ≤ y ∧ y < 256) →
    (((p.crashIn c).jcommit (N : Int) (chPgs bs s N)).2 = 0 ∧ Fin ((p.crashIn c).jcommit (N : Int) (chPgs bs s N)).1 (afterL (allPg (p.seen nmDb) s) N (chPgs bs s N)) (afterL (allPg (p.seen nmDb) s) N (chPgs bs s N))) ∨
    (((p.crashIn c).jcommit (N : Int) (chPgs bs s N)).2 = 7 ∧ Fin ((p.crashIn c).jcommit (N : Int) (chPgs bs s N)).1 (allPg (p.seen nmDb) s) (afterL (allPg (p.seen nmDb) s) N (chPgs bs s N)))
/-- a list of pages in memory, away from S -/
def RwS (S : Nat → Prop) (wr : World) (v : Value) (l : List (List Int)) : Prop := ∃ A m c, v = .slice A m c ∧ RawsAt wr A m l ∧ rawOk l ∧ m ≤ 5000 ∧ ∀ g o, A = some ⟨g, o, none⟩ → 0 < m → ¬ S g
theorem RwS.keep {S S' : Nat → Prop} {w w' : World} {v : Value} {l : List (List Int)} (h : RwS S w v l) (k : Kp S w w') (hS : ∀ b, S' b → S b ∨ w.heap.size ≤ b) : RwS S' w' v l := by
  obtain ⟨A, m, c, rfl, hr, ok, hm, hA⟩ := h
  refine ⟨A, m, c, rfl, hr.keepS k hA, ok, hm, fun g o e hp z => ?_⟩
  rcases hS g z with q | q
  · exact hA g o e hp q
  · obtain ⟨g', o', t, cs, e', hb, hs, hc⟩ := hr.2.2 hp
    rw [e] at e'
    injection e' with e'
    injection e' with e1 e2
    have := hb.lt
    omega
def JaRel (AtI : Pl → Nat → Prop) (w : World) (n db : Nat) (v8 v9 v10 : Value) (wr : World) : Prop := ∃ (k : Nat) (p : Pl), v10 = .int .i64 (k : Int) ∧ k ≤ n ∧ p.sm ((10 - k) * 400000000 + 1000000000) ∧
  ((k < n ∧ Dq (fun _ => False) w wr db p ∧ ∃ s, s ≤ 15 ∧ AtI p s) ∨
   (k = n ∧ ∃ S WAS NOW, Dq S wr wr db p ∧ Kp NoB w wr ∧ (∀ b, S b → w.heap.size ≤ b) ∧ RwS S wr v8 WAS ∧ RwS S wr v9 NOW ∧ Fin p WAS NOW))
attribute [local go_sem ↓] load26 store26 alloc26 build26 eql26
set_option maxRecDepth 100000 in
set_option maxHeartbeats 4000000 in
theorem jatom_ok (AtI : Pl → Nat → Prop) (F : AtF AtI) (w : World) (A : Option Addr) (n cap : Nat) (hL : Chs w A n) (at_ : Int) (hat : -9223372036854775808 ≤ at_ ∧ at_ ≤ 9223372036854775807) (B : Option Addr) (m bcap : Nat) (L : List (Int × List Int)) (hW : Wys w B m L) :
    Calls Try.prog 5 #[.slice A n cap, .int .i64 at_, .slice B m bcap] w fun e w' => e = .returned (.bool true) ∧ Kp NoB w w' := by
  have HF := Lib.hid F
  have HL := Lib.hid hL
  have HAT := Lib.hid hat
  have HW := Lib.hid hW
  clear F hL hat hW
  by_cases hbig : 10 < n
  · have hb : (10 : Int) < (n : Int) := by omega
    go_enter Try.func5, Try.ntmps5
    go_wp2_with (go_at_call 16; go_must (refine (jawake_ok _).mono ?_); rintro e w8 ⟨rfl, hk8⟩; have HK8 := Lib.hid hk8; clear hk8)
    go_ret
    exact ⟨rfl, HK8.out⟩
  · have hb : ¬ (10 : Int) < (n : Int) := by omega
    by_cases hbig2 : 6 < m
    · have hb2 : (6 : Int) < (m : Int) := by omega
      go_enter Try.func5, Try.ntmps5
      go_wp2_with (go_at_call 16; go_must (refine (jawake_ok _).mono ?_); rintro e w8 ⟨rfl, hk8⟩; have HK8 := Lib.hid hk8; clear hk8)
      go_ret
      exact ⟨rfl, HK8.out⟩
    · have hb2 : ¬ (6 : Int) < (m : Int) := by omega
      go_enter Try.func5, Try.ntmps5
      go_wp2_with fail
      refine (new_q w 100000 (by omega)).mono ?_
      rintro e w1 ⟨db, rfl, h1⟩
      have H1 := Lib.hid h1
      clear h1
      unfold ptrV
      go_wp2_with fail
      go_loopw [8, 9, 10] (fun v8 v9 v10 wr => JaRel AtI w n db v8 v9 v10 wr) (fun _ _ v _ => n - (intOf v).toNat)
      case atStart =>
        refine ⟨0, Pl.new 100000, rfl, by omega, by unfold Pl.sm; show 0 + 0 + _ < _; omega, ?_⟩
        by_cases h0 : 0 < n
        · exact .inl ⟨h0, H1.out, 0, by omega, HF.out.new⟩
        · obtain ⟨S', hq', hS'⟩ := H1.out.base
          have hnil : RwS S' w1 (.slice none 0 0) [] := ⟨none, 0, 0, rfl, ⟨rfl, ⟨by simp, fun h => absurd h (by omega)⟩⟩, (fun b hb => by cases hb), by omega, fun g o e => by cases e⟩
          exact .inr ⟨by omega, S', [], [], hq', H1.out.kp, fun b hb => by rcases hS' b hb with q | q; exact q.elim; exact q, hnil, hnil, HF.out.fin0⟩
      case round =>
        obtain ⟨wq, rfl⟩ : ∃ wq, wq = wr := ⟨_, rfl⟩
        obtain ⟨k, p, rfl, hk, hsm, hcase⟩ := hrel
        have HSM := Lib.hid hsm
        clear hsm
        by_cases hlt : k < n
        · have hkk : (k : Int) < (n : Int) := by omega
          rcases hcase with ⟨_, hq, s, hs, hI⟩ | ⟨e, _⟩
          · have HQ := Lib.hid hq
            have HI := Lib.hid hI
            have HS := Lib.hid hs
            clear hq hI hs
            go_wp2_with fail
            have hcnt := HF.out.cnt p s HI.out
            refine (show Calls _ _ #[ptrV db] _ _ from tell_q HQ.out (by rw [hcnt]; have := HS.out; omega)).mono ?_
            rintro e w2 ⟨v, rfl, how, hk2⟩
            rw [hcnt] at how
            obtain ⟨A1, c1, rfl, hraw, hnone, hge1⟩ := raws_own2 how (s := s) (by simp [allPg])
            have HROK := Lib.hid how.2
            have HRAW := Lib.hid hraw
            have HNONE := Lib.hid hnone
            have HGE1 := Lib.hid hge1
            have HK2 := Lib.hid hk2
            obtain ⟨g, o, C, Ab, nb, cb, bs, e, hg, hc0, hc1, hbs, hnb⟩ := (HL.out.keep (HQ.out.kp.trans hk2 (fun _ _ q => q))) k hlt
            subst e
            have HBS := Lib.hid hbs
            have HNB := Lib.hid hnb
            clear hcnt how hraw hnone hge1 hk2 hbs hnb
            go_wp2_with fail
            refine (pages_q w2 C Ab nb cb bs HBS.out HNB.out s (by have := HS.out; omega)).mono ?_
            rintro e w3 ⟨N, v, hN, rfl, hown, hk3⟩
            obtain ⟨mm, hm⟩ : ∃ mm, (chPgs bs s N).length = mm := ⟨_, rfl⟩
            have hmN : mm ≤ N := by rw [← hm]; exact chPgs_len bs s N
            obtain ⟨A2, c2, rfl, hpg, hge2⟩ := pgs_own2 hown hm
            have HN := Lib.hid hN
            have HM := Lib.hid hm
            have HMN := Lib.hid hmN
            have HPG := Lib.hid hpg
            have HGE2 := Lib.hid hge2
            have HK3 := Lib.hid hk3
            have HOKL := Lib.hid (chPgs_ok HBS.out.2.1 (old := s) hN)
            clear hN hm hmN hpg hge2 hk3 hown hg hc0 hc1
            go_wp2_with fail
            refine (after_q w3 A1 A2 s mm c1 c2 (allPg (p.seen nmDb) s) (chPgs bs s N) N (HRAW.out.keep HK3.out) HNONE.out HROK.out HPG.out (fun x hx => ⟨HOKL.out x hx, chPgs_n hx⟩) (by have := HS.out; omega) (by have := HMN.out; have := HN.out; omega) (by have := HN.out; omega)).mono ?_
            rintro e w4 ⟨v, rfl, how4, hk4⟩
            obtain ⟨A3, c3, rfl, hraw4, -, hge3⟩ := raws_own2 how4 (s := N) (by unfold afterL; rw [fold_len, padPg_len])
            have HROK3 := Lib.hid how4.2
            have HRAW3 := Lib.hid hraw4
            have HGE3 := Lib.hid hge3
            have HK4 := Lib.hid hk4
            clear how4 hraw4 hge3 hk4
            -- the disk's blocks now
            obtain ⟨S3, hq3, hS3⟩ := HQ.out.base
            have hlt3 := hq3.lt
            have hk24 := HK2.out.trans (HK3.out.trans HK4.out (fun _ _ q => q)) (fun _ _ q => q)
            have hs23 : wq.heap.size ≤ w2.heap.size := HK2.out.size
            have hs34 : w2.heap.size ≤ w3.heap.size := HK3.out.size
            have rw1 : RwS S3 w4 (.slice A1 s c1) (allPg (p.seen nmDb) s) := ⟨A1, s, c1, rfl, (HRAW.out.keep HK3.out).keep HK4.out, HROK.out, by have := HS.out; omega, fun g o e _ q => by have h1 := HGE1.out g o e; have h2 := hlt3 g q; omega⟩
            have rw3 : RwS S3 w4 (.slice A3 N c3) (afterL (allPg (p.seen nmDb) s) N (chPgs bs s N)) := ⟨A3, N, c3, rfl, HRAW3.out, HROK3.out, by have := HN.out; omega, fun g o e _ q => by have h1 := HGE3.out g o e; have h2 := hlt3 g q; omega⟩
            have hpg4 : PgsAt w4 A2 mm (chPgs bs s N) := HPG.out.keep HK4.out
            have hap4 : Apart S3 A2 mm := fun g o e _ q => by have h1 := HGE2.out g o e; have h2 := hlt3 g q; omega
            have hb4 := hq3.base1 hk24
            have HB4 := Lib.hid hb4
            have RW1 := Lib.hid rw1
            have RW3 := Lib.hid rw3
            have HPG4 := Lib.hid hpg4
            have HAP4 := Lib.hid hap4
            have HS3 := Lib.hid hS3
            have HKW := Lib.hid (HQ.out.kp.trans hk24 (fun _ _ q => q))
            have hcnt := HF.out.cnt p s HI.out
            have HCNT := Lib.hid hcnt
            clear hq3 hS3 hlt3 hk24 hs23 hs34 rw1 rw3 hpg4 hap4 hb4 hcnt HRAW HRAW3 HPG HGE1 HGE2 HGE3
            by_cases hlast : k + 1 = n
            · have hl1 : ((k : Int) + 1 == (n : Int)) = true := by simp; omega
              have HLAST := Lib.hid hlast
              have HL2 := Lib.hid (show ¬ k + 1 < n by omega)
              clear hlast
              go_wp2_with fail
              clear hl1 hkk hlt hk
              refine (show Calls _ _ #[ptrV db, .int .i64 at_] _ _ from crashin_q HB4.out at_ HAT.out).mono ?_
              rintro e w5 ⟨rfl, h5⟩
              have hk5 := h5.kp
              have h5w := Dq.tr (w0 := w) h5 HKW.out HS3.out (fun b q => q.elim)
              obtain ⟨S5, hq5, hS5⟩ := h5.base
              have hS5w : ∀ b, S5 b → (fun _ => False) b ∨ w.heap.size ≤ b := fun b q => by
                rcases hS5 b q with z | z
                · exact HS3.out b z
                · have := HKW.out.size; exact .inr (by omega)
              have HQ5 := Lib.hid hq5
              have RW15 := Lib.hid (RW1.out.keep hk5 hS5)
              have RW35 := Lib.hid (RW3.out.keep hk5 hS5)
              have HPG5 : Hid (PgsAt w5 A2 mm (chPgs bs s N)) := Lib.hid (Rows.keepS HPG4.out hk5 HAP4.out)
              have HAP5 : Hid (Apart S5 A2 mm) := Lib.hid (fun g o e hp q => by
                rcases hS5 g q with z | z
                · exact HAP4.out g o e hp z
                · have := HPG4.out.lt e hp; omega)
              have HK5 := Lib.hid h5w.kp
              have HS5 := Lib.hid hS5w
              clear h5 hk5 h5w hq5 hS5 hS5w
              go_wp2_with fail
              have hcm := commit_q HQ5.out (N : Int) (by have := HN.out; omega) A2 mm c2 _ HPG5.out HAP5.out HOKL.out (by have := HMN.out; have := HN.out; omega) (sm_crashIn at_ (sm_mono HSM.out (by omega)))
              refine (show Calls _ _ #[ptrV db, .int .i64 (N : Int), .slice A2 mm c2] _ _ from hcm).mono ?_
              clear hcm
              rintro e w6 ⟨rfl, h6⟩
              have hk6 := h6.kp
              have h6w := Dq.tr (w0 := w) h6 HK5.out HS5.out (fun b q => q.elim)
              obtain ⟨S6, hq6, hS6⟩ := h6.base
              have hS6w : ∀ b, S6 b → w.heap.size ≤ b := fun b q => by
                rcases hS6 b q with z | z
                · rcases HS5.out b z with y | y
                  · exact y.elim
                  · exact y
                · have := HK5.out.size; omega
              have hsmq := sm_commit (p := p.crashIn at_) (k := (10 - (k + 1)) * 400000000 + 1000000000) (c := N) (l := chPgs bs s N) HCNT.out (by have := HS.out; omega) (by rw [HM.out]; have := HMN.out; have := HN.out; omega) (sm_crashIn at_ (sm_mono HSM.out (by omega)))
              have HQ6 := Lib.hid hq6
              have RW16 := Lib.hid (RW15.out.keep hk6 hS6)
              have RW36 := Lib.hid (RW35.out.keep hk6 hS6)
              have HK6 := Lib.hid h6w.kp
              have HS6 := Lib.hid hS6w
              have HSMQ := Lib.hid hsmq
              clear h6 hk6 h6w hq6 hS6 hS6w hsmq
              rcases HF.out.lst p s N bs at_ HI.out HS.out HN.out HBS.out.2.1 with ⟨e0, hf⟩ | ⟨e7, hf⟩
              · rw [e0]
                have HFN := Lib.hid hf
                clear hf e0
                go_wp2_with fail
                exact ⟨⟨k + 1, _, by congr 1, by omega, HSMQ.out, .inr ⟨HLAST.out, S6, _, _, HQ6.out, HK6.out, HS6.out, RW36.out, RW36.out, HFN.out⟩⟩, by simp [intOf]; omega⟩
              · rw [e7]
                have HFN := Lib.hid hf
                clear hf e7
                go_upto_region 16 with fail
                have hl2 := HL2.out
                have hl3 : decide ((k : Int) + 1 < (n : Int)) = false := decide_eq_false (by omega)
                have hl4 : ((k : Int) + 1 < (n : Int)) = False := eq_false (by omega)
                clear hl2
                have hkb : (k : Int) ≤ 9 := by have := HLAST.out; omega
                have hw : IntKind.i64.wrap ((k : Int) + 1) = (k : Int) + 1 := by rw [IntKind.wrap_i64]; omega
                clear hl3
                go_upto_region 7 with fail
                clear hl4
                go_wp2_with fail
                exact ⟨⟨k + 1, _, by congr 1, by omega, HSMQ.out, .inr ⟨HLAST.out, S6, _, _, HQ6.out, HK6.out, HS6.out, RW16.out, RW36.out, HFN.out⟩⟩, by simp [intOf]; omega⟩
            · have hl1 : ((k : Int) + 1 == (n : Int)) = false := by simp; omega
              have hl2 : (k : Int) + 1 < (n : Int) := by omega
              go_wp2_with fail
              have hcm := commit_q HB4.out (N : Int) (by have := HN.out; omega) A2 mm c2 _ HPG4.out HAP4.out HOKL.out (by have := HMN.out; have := HN.out; omega) (sm_mono HSM.out (by omega))
              refine (show Calls _ _ #[ptrV db, .int .i64 (N : Int), .slice A2 mm c2] _ _ from hcm).mono ?_
              clear hcm
              rintro e w5 ⟨rfl, h5⟩
              obtain ⟨e0, hI2⟩ := HF.out.stp p s N bs HI.out HS.out HN.out HBS.out.2.1
              rw [e0]
              have h6 := Dq.tr (w0 := w) h5 HKW.out HS3.out (fun b q => q.elim)
              have hsmq := sm_commit (k := (10 - (k + 1)) * 400000000 + 1000000000) (c := N) (l := chPgs bs s N) HCNT.out (by have := HS.out; omega) (by rw [HM.out]; have := HMN.out; have := HN.out; omega) (sm_mono HSM.out (by omega))
              have H6 := Lib.hid h6
              have HSMQ := Lib.hid hsmq
              have HI2 := Lib.hid hI2
              clear h5 h6 hsmq hI2 e0
              go_wp2_with fail
              exact ⟨⟨k + 1, _, by congr 1, by omega, HSMQ.out, .inl ⟨by omega, H6.out, N, HN.out, HI2.out⟩⟩, by simp [intOf]; omega⟩
          · omega
        · have hkk : ¬ (k : Int) < (n : Int) := by omega
          rcases hcase with ⟨e, _⟩ | ⟨e, S, WAS, NOW, hq, hkw, hS, hr8, hr9, hfin⟩
          · omega
          · subst e
            obtain ⟨A8, m8, c8, rfl, hraw8, ok8, hm8, ap8⟩ := hr8
            obtain ⟨A9, m9, c9, rfl, hraw9, ok9, hm9, ap9⟩ := hr9
            have HQE := Lib.hid hq
            have HKW := Lib.hid hkw
            have HSS := Lib.hid hS
            have HFIN := Lib.hid hfin
            have HRAW8 := Lib.hid hraw8
            have HOK8 := Lib.hid ok8
            have HM8 := Lib.hid hm8
            have HAP8 := Lib.hid ap8
            have HRAW9 := Lib.hid hraw9
            have HOK9 := Lib.hid ok9
            have HM9 := Lib.hid hm9
            have HAP9 := Lib.hid ap9
            clear hq hkw hS hfin hraw8 ok8 hm8 ap8 hraw9 ok9 hm9 ap9
            go_wp2_with fail
            refine (show Calls _ _ #[ptrV db, .int .i64 0] _ _ from crashin_q HQE.out 0 (by omega)).mono ?_
            rintro e wa ⟨rfl, ha⟩
            have HA := Lib.hid ha
            clear ha
            go_wp2_with fail
            refine (show Calls _ _ #[ptrV db] _ _ from down_q HA.out).mono ?_
            rintro e w2 ⟨rfl, rfl⟩
            rcases hdn : (p.crashIn 0).down with _ | _
            · go_wp2_with fail
              refine (show Calls _ _ #[ptrV db] _ _ from crash_q HA.out).mono ?_
              rintro e wz ⟨rfl, hz⟩
              have HZ : Hid (Dq S wq wz db (fallen p)) := Lib.hid (by unfold fallen; rw [hdn]; exact hz)
              clear hz
              go_wp2_with fail
              have hsmz : (fallen p).sm 700000000 := by unfold fallen; split <;> exact sm_mono HSM.out (by omega)
              refine (show Calls _ _ #[ptrV db, .slice B m bcap] _ _ from back_q S w wq _ db (fallen p) HZ.out HKW.out HSS.out B m bcap L HW.out (by omega) hsmz).mono ?_
              rintro e wb ⟨rfl, hb9⟩
              obtain ⟨ht, hc, hor⟩ := HFIN.out L
              rw [ht]
              obtain ⟨z, hz⟩ : ∃ z, ((fallen p).jways L).1 = z := ⟨_, rfl⟩
              rw [hz] at hb9 hc hor
              have HB9 := Lib.hid hb9
              have HC9 := Lib.hid hc
              have HOR := Lib.hid hor
              clear ht hz hb9 hc hor hsmz
              go_wp2_with fail
              refine (show Calls _ _ #[ptrV db] _ _ from tell_q HB9.out HC9.out).mono ?_
              rintro e wc ⟨v, rfl, how, hkc⟩
              obtain ⟨GOT, hG⟩ : ∃ G, allPg (z.seen nmDb) z.jcount = G := ⟨_, rfl⟩
              have hgl : GOT.length ≤ 4096 := by rw [← hG]; have := HC9.out; simp [allPg]; omega
              obtain ⟨mg, hmg⟩ : ∃ mg, GOT.length = mg := ⟨_, rfl⟩
              rw [hG] at how
              obtain ⟨Ag, cg, rfl, hrawg, -, -⟩ := raws_own2 how hmg
              have hor := HOR.out
              rw [hG] at hor
              rw [hmg] at hgl
              have hks := HB9.out.kp.trans hkc (fun _ _ q => q.elim)
              have hkw := (Dq.tr (w0 := w) (HB9.out.keep hkc) HKW.out (fun b q => .inr (HSS.out b q)) (fun b q => q.elim)).kp
              have HOKG := Lib.hid how.2
              have HRG := Lib.hid hrawg
              have HR8 := Lib.hid (HRAW8.out.keepS hks HAP8.out)
              have HR9 := Lib.hid (HRAW9.out.keepS hks HAP9.out)
              have HKC := Lib.hid hkw
              clear how hrawg hks hkw hkc hG hmg
              go_wp2_with fail
              refine (same_q wc Ag A8 mg m8 cg c8 GOT WAS HRG.out HR8.out HOKG.out HOK8.out (by omega) (by have := HM8.out; omega)).mono ?_
              rintro e wd ⟨rfl, hkd⟩
              have HKD := Lib.hid hkd
              clear hkd
              by_cases hgw : GOT = WAS
              · rw [decide_eq_true hgw]
                go_wp2_with (go_at_call 16; go_must (refine (jawake_ok _).mono ?_); rintro e w8 ⟨rfl, hk8⟩; have HK8 := Lib.hid hk8; clear hk8)
                go_ret
                exact ⟨rfl, HKC.out.trans (HKD.out.trans HK8.out (fun _ _ q => q)) (fun _ _ q => q)⟩
              · rw [decide_eq_false hgw]
                have hgn : GOT = NOW := hor.resolve_left hgw
                go_wp2_with fail
                refine (same_q wd Ag A9 mg m9 cg c9 GOT NOW (HRG.out.keep HKD.out) (HR9.out.keep HKD.out) HOKG.out HOK9.out (by omega) (by have := HM9.out; omega)).mono ?_
                rintro e we ⟨rfl, hke⟩
                have HKE := Lib.hid hke
                clear hke
                rw [decide_eq_true hgn]
                go_wp2_with (go_at_call 16; go_must (refine (jawake_ok _).mono ?_); rintro e w8 ⟨rfl, hk8⟩; have HK8 := Lib.hid hk8; clear hk8)
                go_ret
                exact ⟨rfl, HKC.out.trans (HKD.out.trans (HKE.out.trans HK8.out (fun _ _ q => q)) (fun _ _ q => q)) (fun _ _ q => q)⟩
            · have HZ : Hid (Dq S wq wa db (fallen p)) := Lib.hid (by unfold fallen; rw [hdn]; exact HA.out)
              go_wp2_with fail
              have hsmz : (fallen p).sm 700000000 := by unfold fallen; split <;> exact sm_mono HSM.out (by omega)
              refine (show Calls _ _ #[ptrV db, .slice B m bcap] _ _ from back_q S w wq _ db (fallen p) HZ.out HKW.out HSS.out B m bcap L HW.out (by omega) hsmz).mono ?_
              rintro e wb ⟨rfl, hb9⟩
              obtain ⟨ht, hc, hor⟩ := HFIN.out L
              rw [ht]
              obtain ⟨z, hz⟩ : ∃ z, ((fallen p).jways L).1 = z := ⟨_, rfl⟩
              rw [hz] at hb9 hc hor
              have HB9 := Lib.hid hb9
              have HC9 := Lib.hid hc
              have HOR := Lib.hid hor
              clear ht hz hb9 hc hor hsmz
              go_wp2_with fail
              refine (show Calls _ _ #[ptrV db] _ _ from tell_q HB9.out HC9.out).mono ?_
              rintro e wc ⟨v, rfl, how, hkc⟩
              obtain ⟨GOT, hG⟩ : ∃ G, allPg (z.seen nmDb) z.jcount = G := ⟨_, rfl⟩
              have hgl : GOT.length ≤ 4096 := by rw [← hG]; have := HC9.out; simp [allPg]; omega
              obtain ⟨mg, hmg⟩ : ∃ mg, GOT.length = mg := ⟨_, rfl⟩
              rw [hG] at how
              obtain ⟨Ag, cg, rfl, hrawg, -, -⟩ := raws_own2 how hmg
              have hor := HOR.out
              rw [hG] at hor
              rw [hmg] at hgl
              have hks := HB9.out.kp.trans hkc (fun _ _ q => q.elim)
              have hkw := (Dq.tr (w0 := w) (HB9.out.keep hkc) HKW.out (fun b q => .inr (HSS.out b q)) (fun b q => q.elim)).kp
              have HOKG := Lib.hid how.2
              have HRG := Lib.hid hrawg
              have HR8 := Lib.hid (HRAW8.out.keepS hks HAP8.out)
              have HR9 := Lib.hid (HRAW9.out.keepS hks HAP9.out)
              have HKC := Lib.hid hkw
              clear how hrawg hks hkw hkc hG hmg
              go_wp2_with fail
              refine (same_q wc Ag A8 mg m8 cg c8 GOT WAS HRG.out HR8.out HOKG.out HOK8.out (by omega) (by have := HM8.out; omega)).mono ?_
              rintro e wd ⟨rfl, hkd⟩
              have HKD := Lib.hid hkd
              clear hkd
              by_cases hgw : GOT = WAS
              · rw [decide_eq_true hgw]
                go_wp2_with (go_at_call 16; go_must (refine (jawake_ok _).mono ?_); rintro e w8 ⟨rfl, hk8⟩; have HK8 := Lib.hid hk8; clear hk8)
                go_ret
                exact ⟨rfl, HKC.out.trans (HKD.out.trans HK8.out (fun _ _ q => q)) (fun _ _ q => q)⟩
              · rw [decide_eq_false hgw]
                have hgn : GOT = NOW := hor.resolve_left hgw
                go_wp2_with fail
                refine (same_q wd Ag A9 mg m9 cg c9 GOT NOW (HRG.out.keep HKD.out) (HR9.out.keep HKD.out) HOKG.out HOK9.out (by omega) (by have := HM9.out; omega)).mono ?_
                rintro e we ⟨rfl, hke⟩
                have HKE := Lib.hid hke
                clear hke
                rw [decide_eq_true hgn]
                go_wp2_with (go_at_call 16; go_must (refine (jawake_ok _).mono ?_); rintro e w8 ⟨rfl, hk8⟩; have HK8 := Lib.hid hk8; clear hk8)
                go_ret
                exact ⟨rfl, HKC.out.trans (HKD.out.trans (HKE.out.trans HK8.out (fun _ _ q => q)) (fun _ _ q => q)) (fun _ _ q => q)⟩
end Go.Proofs.Ytegcbdfilkecpaa
/- The journal in plain Lean: what JournalAtomic's walk asks of its states. -/
namespace Go.Proofs.Ytegcbdfilkecpaa

theorem stay_rec2 {p : Pl} (h : p.crash = 0) : p.jrecover.1.crash = 0 ∧ p.jrecover.1.down = p.down := by
  unfold Pl.jrecover
  split
  · exact ⟨h, rfl⟩
  · split
    · exact ⟨h, rfl⟩
    · split
      · exact ⟨h, rfl⟩
      · exact stay_run _ h
theorem stay_commit {p : Pl} (h : p.crash = 0) (c : Int) (l : List Pg) : (p.jcommit c l).1.crash = 0 ∧ (p.jcommit c l).1.down = p.down := by
  have h1 := stay_run (p.jfirst c l) h
  have h2 := stay_run (secondS c l) h1.1
  have h3 := stay_rec2 h2.1
  unfold Pl.jcommit
  dsimp only
  split
  · exact ⟨h, rfl⟩
  · split
    · exact ⟨h, rfl⟩
    · split
      · exact ⟨h, rfl⟩
      · split
        · exact h1
        · split
          · split
            · exact ⟨h3.1, h3.2.trans (h2.2.trans h1.2)⟩
            · exact ⟨h3.1, h3.2.trans (h2.2.trans h1.2)⟩
          · exact ⟨h2.1, h2.2.trans h1.2⟩
theorem fell_now {p : Pl} (h : Pre p) : Fell (p.crashIn 0).crashNow :=
  ⟨rfl, h.lv.room, h.lv.ktwo, h.lv.klen, h.nm, h.dl.same2 rfl rfl, h.jl.same2 rfl rfl⟩
theorem pages_of {n : List Int} {N : Nat} {q : Pl} (hd : q.down = false) (hn : Pgd n N) (e : q.seen nmDb = n) : q.jcount = N ∧ allPg (q.seen nmDb) q.jcount = allPg n N := by
  have hc := count_of (s := N) hd (by rw [e]; exact hn)
  exact ⟨hc, by rw [hc, e]⟩
/-- behind a crash on the way -/
theorem fin_cr {s N : Nat} {ao : List Pg} {o n : List Int} (hc : Cm s ao o n) (hN : N ≤ 15) (hn : Pgd n N) {p : Pl} (h : CrG s ao o n p) : Fin p (allPg o s) (allPg n N) := by
  have ho : Pgd o s := hc.po
  have hs := hc.hs
  intro L
  unfold fallen
  have hd : (p.crashIn 0).down = true := h.1.down
  rw [if_pos hd]
  obtain ⟨r0, r1, r2, r3⟩ := ways_ok hc L (p := p.crashIn 0) (.inr ⟨fell_in h.1 0, h.2⟩) rfl
  refine ⟨r0, ?_, ?_⟩
  · rcases r3 with e | e
    · rw [(pages_of r1.lv.up ho e).1]; omega
    · rw [(pages_of r1.lv.up hn e).1]; omega
  · rcases r3 with e | e
    · exact .inl (pages_of r1.lv.up ho e).2
    · exact .inr (pages_of r1.lv.up hn e).2
/-- behind a crash of a disk at rest -/
theorem fin_at {s : Nat} {p : Pl} (h : AtJ p s) : Fin p (allPg (p.seen nmDb) s) (allPg (p.seen nmDb) s) := by
  have hs := h.hs
  have hc : Cm s [] (p.seen nmDb) (p.seen nmDb) := ⟨h.hs, h.po, rfl, by simp, by simp, by simp, Fix.refl _ _⟩
  have hcr : CrG s [] (p.seen nmDb) (p.seen nmDb) (p.crashIn 0).crashNow := by
    refine ⟨fell_now h.pre, ?_⟩
    intro D J h1 h2
    have e1 : D = p.seen nmDb := (h.still (fun D => D = p.seen nmDb) rfl).fo D h1
    have e2 : J = p.kept nmJn := by
      have h3 : Out (p.kept nmJn) (chg p nmJn) J := h2
      rw [h.cj] at h3
      exact out_nil h3
    exact .inl ⟨by rw [e2, h.kj]; exact h.cold, .inl e1⟩
  intro L
  unfold fallen
  have hd : (p.crashIn 0).down = false := h.pre.lv.up
  rw [hd, if_neg (by decide)]
  obtain ⟨r0, r1, r2, r3⟩ := ways_ok hc L (p := (p.crashIn 0).crashNow) (.inr hcr) rfl
  have r3 : ((p.crashIn 0).crashNow.jways L).1.seen nmDb = p.seen nmDb := by
    rcases r3 with e | e
    · exact e
    · exact e
  have hp := pages_of r1.lv.up h.po r3
  exact ⟨r0, by rw [hp.1]; omega, .inl hp.2⟩
theorem at_in {p : Pl} {s : Nat} (h : AtJ p s) (c : Int) : AtJ (p.crashIn c) s :=
  ⟨pre_in h.pre c, h.hs, h.po, h.cold, h.kd, fun I hI => (h.still I hI).same2 rfl rfl, h.kj, h.cj⟩
def AtI (p : Pl) (s : Nat) : Prop := AtJ p s ∧ p.crash = 0
theorem at_new : AtJ (Pl.new 100000) 0 := by
  have h0 : ∀ I : List Int → Prop, ∀ s, I [] → FI (Pl.new 100000) s I := fun I s hI => fi_empty rfl hI
  refine ⟨⟨⟨rfl, Int.le_refl 0, rfl, rfl, rfl, fun s => Nat.zero_le _, fun s => Nat.zero_le _⟩, fun c hc => (by cases hc), h0 (fun D => D.length ≤ capOf nmDb) _ (Nat.zero_le _), h0 (fun D => D.length ≤ capOf nmJn) _ (Nat.zero_le _)⟩, by omega, rfl, ⟨⟨0, 0, 0, 0⟩, w4zero, rfl, .inl ⟨rfl, rfl⟩⟩, rfl, fun I hI => h0 I _ hI, rfl, rfl⟩
theorem at_f : AtF AtI := by
  refine ⟨⟨at_new, rfl⟩, fin_at at_new, fun p s h => count_of h.1.pre.lv.up h.1.po, ?_, ?_⟩
  · intro p s N bs h hs hN hbs
    have hb : ∀ x ∈ chPgs bs s N, x.b.length = 256 := fun x hx => (chPgs_ok hbs hN x hx).1
    have hst := stay_commit h.2 (N : Int) (chPgs bs s N)
    rcases at_commit h.1 hN (fit_ch bs s N hN) hb with ⟨_, _, _, ⟨r0, r1, _⟩ | ⟨_, r1⟩⟩
    · exact ⟨r0, r1, hst.1⟩
    · have := r1.1.down
      rw [hst.2, h.1.pre.lv.up] at this
      cases this
  · intro p s N bs c h hs hN hbs
    have hb : ∀ x ∈ chPgs bs s N, x.b.length = 256 := fun x hx => (chPgs_ok hbs hN x hx).1
    obtain ⟨hc, hn, hpg, hr⟩ := at_commit (at_in h.1 c) hN (fit_ch bs s N hN) hb
    have he : afterL (allPg (p.seen nmDb) s) N (chPgs bs s N) = allPg (newDb (p.seen nmDb) N (chPgs bs s N)) N := after_all _ _ bs s N hpg
    rw [he]
    rcases hr with ⟨r0, r1, r2⟩ | ⟨r0, r1⟩
    · left
      refine ⟨r0, ?_⟩
      have := fin_at r1
      rw [r2] at this
      exact this
    · exact .inr ⟨r0, fin_cr hc hN hn r1⟩
end Go.Proofs.Ytegcbdfilkecpaa
/- How an argument that is a slice of structs is read; no condition. -/
namespace Go.Proofs.Ytegcbdfilkecpaa
open Go.ChangeShapes Go.WideShapes Go.Deep
section
variable {H : Type} {enc : TypeId × Value → H} {P : Program} {w : World} {base : Nat} {spare : Nat → Bool} {held : Bool}
theorem open_slice_fields {t e : TypeId} {fs : Array Field} {fuel : Nat} {cs : List Value} {x : DataW H × List MemPlace} (ht : P.underlying t = some (.slice e)) (he : P.underlying e = some (.struct fs))
    (hone : oneCellFields P fs = true) (hC : P.cellsOf e = fs.size) (h : DataW.trod enc P w base spare held fuel t cs = some x) :
    (cs = [.slice none 0 0] ∧ x = (.nil, [])) ∨
    ∃ (a : Addr) (len cap m : Nat) (D : Nat → DataW H) (Pl : Nat → List MemPlace), cs = [.slice (some a) len cap] ∧ base ≤ a.block ∧ len ≤ cap ∧ cap ≤ maxLen ∧ m = (if spare a.block then cap else len) ∧
      x = (.slice ((List.range len).map D) ((List.range (m - len)).map fun j => D (len + j)), MemPlace.row a (m * fs.size) ++ (List.range m).flatMap Pl) ∧
      ∀ i, i < m → ∃ (ys : List (DataW H × List MemPlace)) (n : Nat), D i = .agg (ys.map (·.1)) ∧ Pl i = ys.flatMap (·.2) ∧ ys.length = fs.size ∧
        ∀ (j : Nat) (f : Field), fs[j]? = some f → ∃ (v : Value) (y : DataW H × List MemPlace), w.cell? (a.add (i * fs.size + j)) = some v ∧ ys[j]? = some y ∧ DataW.trod enc P w base spare held n f.type [v] = some y := by
  rcases open_slice ht h with h0 | ⟨a, len, cap, m, n, D, Pl, hcs, hb, hl, hm, hmm, hx, hi⟩
  · exact .inl h0
  · refine .inr ⟨a, len, cap, m, D, Pl, hcs, hb, hl, hm, hmm, by rw [hC] at hx; exact hx, fun i him => ?_⟩
    obtain ⟨cs', hc, ht'⟩ := hi i him
    rw [hC] at hc
    obtain ⟨ys, n', hn', hy, hlen, hyl, hf⟩ := DataW.trod_struct he ht'
    obtain ⟨_, hcl, hat⟩ := World.cells?_some hc
    simp only [Prod.mk.injEq] at hy
    refine ⟨ys, n', hy.1, hy.2, hyl, fun j f hj => ?_⟩
    obtain ⟨ho, hk⟩ := hone_of hone j f hj
    have hjl : j < fs.size := (Array.getElem?_eq_some_iff.1 hj).1
    have hcell := hat j hjl
    have hv : cs'[j]? = some (cs'[j]'(by omega)) := List.getElem?_eq_getElem (by omega)
    have h1 := hf j f hj
    rw [ho, hk] at h1
    have hone' : (cs'.drop j).take 1 = [cs'[j]'(by omega)] := by
      rw [List.drop_eq_getElem_cons (by omega)]
      rfl
    rw [hone'] at h1
    have hys : ys[j]? = some (ys[j]'(by omega)) := List.getElem?_eq_getElem (by omega)
    refine ⟨_, _, ?_, hys, h1.trans hys⟩
    rw [← Go.Deep.add_add, hcell, hv]
end
end Go.Proofs.Ytegcbdfilkecpaa
/- How arguments that come in are read: numbers, texts, lists of texts, arrays of bytes; no condition. -/
namespace Go.Proofs.Ytegcbdfilkecpaa
open Go.ChangeShapes Go.WideShapes Go.ChangeAt Go.RowKit

section
variable {H : Type} {enc : TypeId × Value → H} {P : Program} {W : World} {spare : Nat → Bool} {held : Bool} {t e : TypeId} {d : DataW H} {p : List MemPlace}
theorem open_wf {k : IntKind} {n : Int} (hu : P.underlying t = some (.int k)) (h : DataW.Trod enc P W 0 spare held t (.int k n) d p) : (Lit.int k n).wf = true := by
  obtain ⟨fuel, hf⟩ := h
  obtain ⟨m, e1, _, wf⟩ := DataW.trod_int hu hf
  simp [Value.cells] at e1
  subst e1
  exact wf
theorem wf_u8 {n : Int} (h : (Lit.int .u8 n).wf = true) : 0 ≤ n ∧ n ≤ 255 := (Lit.wf_int_iff .u8 n).1 h
theorem wf_u32 {n : Int} (h : (Lit.int .u32 n).wf = true) : 0 ≤ n ∧ n ≤ 4294967295 := (Lit.wf_int_iff .u32 n).1 h
theorem wf_u64 {n : Int} (h : (Lit.int .u64 n).wf = true) : 0 ≤ n ∧ n ≤ 18446744073709551615 := (Lit.wf_int_iff .u64 n).1 h
theorem wf_i64 {n : Int} (h : (Lit.int .i64 n).wf = true) : -9223372036854775808 ≤ n ∧ n ≤ 9223372036854775807 := (Lit.wf_int_iff .i64 n).1 h
theorem open_str {s : ByteArray} (hu : P.underlying t = some .string) (h : DataW.Trod enc P W 0 spare held t (.string s) d p) : s.size ≤ 9223372036854775807 := by
  obtain ⟨fuel, hf⟩ := h
  obtain ⟨s', e1, _, hs⟩ := DataW.trod_string hu hf
  simp [Value.cells] at e1
  subst e1
  exact hs
theorem trod_lt' {v : Value} (h : DataW.Trod enc P W 0 spare held t v d p) : ∀ x ∈ p, x.block < W.heap.size := by obtain ⟨m, hm⟩ := h; exact DataW.trod_lt m _ _ _ hm
theorem open_strs {a0 : Option Addr} {len cap : Nat} (hu : P.underlying t = some (.slice e)) (he : P.underlying e = some .string) (hc : P.cellsOf e = 1) (h : DataW.Trod enc P W 0 spare held t (.slice a0 len cap) d p) :
    ∃ xs : List ByteArray, Sl W a0 len xs ∧ len ≤ 9223372036854775807 ∧ (a0 = none → len = 0 ∧ cap = 0) ∧ ∀ c ∈ xs, c.size ≤ 9223372036854775807 := by
  obtain ⟨fuel, hf⟩ := h
  rcases open_strings hu he hc hf with ⟨hcs, hx⟩ | ⟨a, len', cap', ss, hcs, _, hl, hm, hz, hx, hcell, hsz⟩
  · simp [Value.cells] at hcs
    obtain ⟨rfl, rfl, rfl⟩ := hcs
    exact ⟨[], ⟨rfl, fun h => absurd h (by omega)⟩, by omega, fun _ => ⟨rfl, rfl⟩, fun c hc => by simp at hc⟩
  · simp [Value.cells] at hcs
    obtain ⟨rfl, rfl, rfl⟩ := hcs
    have hlm : len ≤ ss.length := by rw [hz]; split <;> omega
    refine ⟨ss.take len, ⟨by simp; omega, fun h0 => ?_⟩, by unfold maxLen at hm; omega, (fun q => by cases q), fun c hc => hsz c (List.mem_of_mem_take hc)⟩
    obtain ⟨b, off, spot⟩ := a
    have hspot : spot = none := by simpa [Addr.add] using World.cell?_spot (hcell 0 (by omega))
    subst hspot
    refine ⟨b, off, rfl, ?_, fun k hk => ?_⟩
    · have := hcell 0 (by omega)
      rw [add_mk] at this
      exact block_lt_of_cell this
    · have := hcell k (by omega)
      rw [add_mk] at this
      rw [this]
      simp [List.getElem?_take_of_lt hk]
theorem DataW.trod_array {n fuel : Nat} {cs : List Value} {x : DataW H × List MemPlace} {base : Nat} (ht : P.underlying t = some (.array n e)) (h : DataW.trod enc P W base spare held fuel t cs = some x) :
    ∃ m, fuel = m + 1 ∧ cs.length = P.cellsOf t ∧ ∀ i, i < n → ∃ y, DataW.trod enc P W base spare held m e ((cs.drop (i * P.cellsOf e)).take (P.cellsOf e)) = some y := by
  cases fuel with
  | zero => simp [DataW.trod] at h
  | succ m =>
    unfold DataW.trod at h
    rw [ht] at h
    split at h <;> simp_all
    obtain ⟨hl, xs, hp, hd⟩ := h
    intro i hi
    have h1 := mapM_some_get hp i i (by simp [hi])
    have h2 := mapM_some_length hp
    simp at h2
    exact ⟨_, _, h1.trans (List.getElem?_eq_getElem (by omega))⟩
theorem open_row {n : Nat} {k : IntKind} {v : Value} (ht : P.underlying t = some (.array n e)) (he : P.underlying e = some (.int k)) (hc : P.cellsOf t = n) (hce : P.cellsOf e = 1) (hn : n ≠ 1) (h : DataW.Trod enc P W 0 spare held t v d p) :
    ∃ l : List Int, l.length = n ∧ v = .agg (l.map (Value.int k)).toArray ∧ ∀ x ∈ l, (Lit.int k x).wf = true := by
  obtain ⟨fuel, hf⟩ := h
  obtain ⟨m, _, hl, hi⟩ := DataW.trod_array ht hf
  rw [hc] at hl
  have hv : ∃ cs, v = .agg cs := by
    cases v <;> first | exact ⟨_, rfl⟩ | (simp [Value.cells] at hl; omega)
  obtain ⟨cs, rfl⟩ := hv
  simp only [Value.cells] at hl hi
  have hsz : cs.size = n := by simpa using hl
  have each : ∀ i, i < n → ∃ x : Int, cs[i]? = some (.int k x) ∧ (Lit.int k x).wf = true := by
    intro i hin
    obtain ⟨y, hy⟩ := hi i hin
    rw [hce, Nat.mul_one] at hy
    obtain ⟨x, e1, _, wf⟩ := DataW.trod_int he hy
    refine ⟨x, ?_, wf⟩
    have : (cs.toList.drop i)[0]? = some (.int k x) := by
      have := congrArg (fun l => l[0]?) e1
      simpa [List.getElem?_take] using this
    simpa using this
  refine ⟨cs.toList.map (fun v => match v with | .int _ x => x | _ => 0), by simp [hsz], ?_, ?_⟩
  · congr 1
    apply Array.ext_getElem?
    intro i
    simp only [List.map_map, List.getElem?_toArray, List.getElem?_map, Array.getElem?_toList]
    rcases Nat.lt_or_ge i n with q | q
    · obtain ⟨x, hx, _⟩ := each i q
      rw [hx]; rfl
    · rw [Array.getElem?_eq_none (by omega)]; rfl
  · intro x hx
    obtain ⟨i, hi', rfl⟩ := List.getElem_of_mem hx
    have hi2 : i < n := by simpa [hsz] using hi'
    obtain ⟨x, hx, wf⟩ := each i hi2
    have h3 : (cs.toList.map (fun v => match v with | .int _ x => x | _ => (0 : Int)))[i]? = some x := by
      rw [List.getElem?_map, Array.getElem?_toList, hx]; rfl
    rw [List.getElem?_eq_getElem (by simpa using hi')] at h3
    simp only [Option.some.injEq] at h3
    rw [h3]
    exact wf
end
end Go.Proofs.Ytegcbdfilkecpaa
/- How a list of crashes that comes in is read; no condition. -/
namespace Go.Proofs.Ytegcbdfilkecpaa
open Go.ChangeShapes Go.WideShapes Go.ChangeAt Go.RowKit Go.Deep

theorem int_cell : Try.prog.cellsOf 3 = 1 := by kernel_rfl
/-- one crash of the list -/
def WyAt (W : World) (x : Int × List Int) (c0 c1 : Value) : Prop := c0 = .int .i64 x.1 ∧ (-9223372036854775808 ≤ x.1 ∧ x.1 ≤ 9223372036854775807) ∧ (∀ y ∈ x.2, -9223372036854775808 ≤ y ∧ y ≤ 9223372036854775807) ∧
  ∃ (Ab : Option Addr) (nb cb : Nat), c1 = .slice Ab nb cb ∧ Nums W Ab nb x.2 ∧ nb ≤ 9223372036854775807
theorem open_wys {H : Type} {enc : TypeId × Value → H} {W : World} {spare : Nat → Bool} {held : Bool} {a0 : Option Addr} {len0 cap0 : Nat} {d0 : DataW H} {p0 : List MemPlace}
    (h0 : DataW.Trod enc Try.prog W 0 spare held 48 (.slice a0 len0 cap0) d0 p0) : ∃ L, Wys W a0 len0 L := by
  obtain ⟨fuel, hf⟩ := h0
  rcases open_slice_fields Try.underlying48 Try.underlying123 (by kernel_rfl) (by kernel_rfl) hf with ⟨hcs, _⟩ | ⟨x, l, c, m, D, Pl, hcs, _, hl, hm, hmm, hx, hi⟩
  · simp [Value.cells] at hcs
    obtain ⟨rfl, rfl, rfl⟩ := hcs
    exact ⟨[], rfl, fun k x hk => by cases hk⟩
  · simp [Value.cells] at hcs
    obtain ⟨rfl, rfl, rfl⟩ := hcs
    have hlm : len0 ≤ m := by rw [hmm]; split <;> omega
    have hcells : ∀ k, k < len0 → ∃ (y : Int × List Int) (c0 c1 : Value), WyAt W y c0 c1 ∧ W.cell? (x.add (k * 2)) = some c0 ∧ W.cell? (x.add (k * 2 + 1)) = some c1 := by
      intro k hk
      obtain ⟨ys, nn, _, _, _, hf4⟩ := hi k (by omega)
      obtain ⟨v0, y0, c0, _, t0⟩ := hf4 0 _ rfl
      obtain ⟨v1, y1, c1, _, t1⟩ := hf4 1 _ rfl
      obtain ⟨n0, e0, _, wf0⟩ := DataW.trod_int Try.underlying3 t0
      simp only [List.cons.injEq, and_true] at e0
      subst e0
      rcases open_slice Try.underlying58 t1 with ⟨hcs, _⟩ | ⟨x2, l2, c2, m2, nn2, D2, Pl2, hcs, _, hl2, hm2, hmm2, hx2, hi2⟩
      · simp only [List.cons.injEq, and_true] at hcs
        subst hcs
        exact ⟨(n0, []), _, _, ⟨rfl, wf_i64 wf0, by simp, none, 0, 0, rfl, ⟨rfl, fun h => absurd h (by omega)⟩, by omega⟩, c0, c1⟩
      · simp only [List.cons.injEq, and_true] at hcs
        subst hcs
        have hlm2 : l2 ≤ m2 := by rw [hmm2]; split <;> omega
        have hnums : ∀ j, j < l2 → ∃ y : Int, W.cell? (x2.add j) = some (.int .i64 y) ∧ -9223372036854775808 ≤ y ∧ y ≤ 9223372036854775807 := by
          intro j hj
          obtain ⟨cs', hc, ht'⟩ := hi2 j (by omega)
          rw [int_cell, Nat.mul_one] at hc
          obtain ⟨b0, e0, _, wf⟩ := DataW.trod_int Try.underlying3 ht'
          subst e0
          obtain ⟨_, hcl, hat⟩ := World.cells?_some hc
          have := hat 0 (by omega)
          rw [show (x2.add j).add 0 = x2.add j from rfl] at this
          exact ⟨b0, this, wf_i64 wf⟩
        have hL : ∃ L : List Int, L.length = l2 ∧ ∀ j (h : j < L.length), W.cell? (x2.add j) = some (.int .i64 L[j]) ∧ -9223372036854775808 ≤ L[j] ∧ L[j] ≤ 9223372036854775807 := by
          refine ⟨(List.range l2).pmap (fun j hj => Classical.choose (hnums j hj)) (fun j hj => by simpa using hj), by simp, ?_⟩
          intro j hj
          have hj' : j < l2 := by simpa using hj
          have := Classical.choose_spec (hnums j hj')
          simpa using this
        obtain ⟨L, hLl, hLc⟩ := hL
        refine ⟨(n0, L), _, _, ⟨rfl, wf_i64 wf0, fun y hy => ?_, some x2, l2, c2, rfl, ⟨hLl, fun hpos => ?_⟩, by unfold maxLen at hm2; omega⟩, c0, c1⟩
        · obtain ⟨j, hj, rfl⟩ := List.getElem_of_mem hy
          exact (hLc j hj).2
        · have hc0 := (hLc 0 (by omega)).1
          obtain ⟨tb, tn, tp⟩ := x2
          have hspot : tp = none := by
            simpa [Addr.add] using World.cell?_spot hc0
          subst hspot
          refine ⟨tb, tn, rfl, ?_, fun j hj => ?_⟩
          · rw [add_mk] at hc0
            exact block_lt_of_cell hc0
          · have := (hLc j (by omega)).1
            rw [add_mk] at this
            rw [this, List.getD_eq_getElem?_getD, List.getElem?_eq_getElem (show j < L.length by omega)]
            rfl
    have hL : ∃ L : List (Int × List Int), L.length = len0 ∧ ∀ k (h : k < L.length), ∃ c0 c1, WyAt W L[k] c0 c1 ∧ W.cell? (x.add (k * 2)) = some c0 ∧ W.cell? (x.add (k * 2 + 1)) = some c1 := by
      refine ⟨(List.range len0).pmap (fun k hk => Classical.choose (hcells k hk)) (fun k hk => by simpa using hk), by simp, ?_⟩
      intro k hk
      have hk' : k < len0 := by simpa using hk
      have := Classical.choose_spec (hcells k hk')
      simpa using this
    obtain ⟨L, hLl, hLc⟩ := hL
    refine ⟨L, hLl, fun k y hy => ?_⟩
    obtain ⟨hk, rfl⟩ := List.getElem?_eq_some_iff.1 hy
    obtain ⟨c0, c1, ⟨rfl, r1, r2, Ab, nb, cb, rfl, hnum, hnb⟩, h0, h1⟩ := hLc k hk
    obtain ⟨sb, so, sp⟩ := x
    have hspot : sp = none := by
      obtain ⟨ys', nn', _, _, _, hf4'⟩ := hi 0 (by omega)
      obtain ⟨v0', y0', c0', _, t0'⟩ := hf4' 0 _ rfl
      simpa [Addr.add] using World.cell?_spot c0'
    subst hspot
    rw [add_mk] at h0 h1
    exact ⟨r1, r2, sb, so, Ab, nb, cb, rfl, block_lt_of_cell h0, h0, h1, hnum, hnb⟩
end Go.Proofs.Ytegcbdfilkecpaa
