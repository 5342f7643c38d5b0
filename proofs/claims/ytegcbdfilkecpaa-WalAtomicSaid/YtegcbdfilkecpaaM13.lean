/- Texts of this proof, one behind the other: lemmas and contracts; each says its own conditions. -/
import Derived.Test.YtegcbdfilkecpaaM1
import Derived.Test.YtegcbdfilkecpaaM4
import Derived.Test.YtegcbdfilkecpaaM12
import Derived.ProofKit
import Derived.OpenShut
import Derived.ShutString
import Derived.ChangeOld
import Derived.Deep.Slices
import Derived.Deep.Fields
import Derived.ChangeSame
import Derived.Test.YtegcbdfilkecpaaRows
import Derived.SliceStrings
import Derived.DataShut
/- WalAtomic: the function walked; no condition but on the arguments in memory. -/
namespace Go.Proofs.Ytegcbdfilkecpaa
open Go.RowKit

/-- a row of changes of the caller -/
def ChsW (w : World) (A : Option Addr) (n : Nat) : Prop := ∀ k, k < n → ∃ (g o : Nat) (hm : Bool) (C : Int) (Ab : Option Addr) (nb cb : Nat) (bs : List Int), A = some ⟨g, o, none⟩ ∧ g < w.heap.size ∧ w.cell? ⟨g, o + k * 3, none⟩ = some (.bool hm) ∧ w.cell? ⟨g, o + k * 3 + 1, none⟩ = some (.int .i64 C) ∧ w.cell? ⟨g, o + k * 3 + 2, none⟩ = some (.slice Ab nb cb) ∧ Bs w Ab nb bs ∧ nb ≤ 9223372036854775807
theorem ChsW.keep {w w' : World} {A : Option Addr} {n : Nat} (h : ChsW w A n) (k : Kp NoB w w') : ChsW w' A n := fun j hj => by
  obtain ⟨g, o, hm, C, Ab, nb, cb, bs, e, hg, h0, h1, h2, hb, hn⟩ := h j hj
  exact ⟨g, o, hm, C, Ab, nb, cb, bs, e, Nat.lt_of_lt_of_le hg k.size, (k.cell hg (fun q => q)).trans h0, (k.cell hg (fun q => q)).trans h1, (k.cell hg (fun q => q)).trans h2, hb.keep k, hn⟩
/-- a disk among the caller's blocks, its base now -/
structure StW (S : Nat → Prop) (w w1 : World) (db : Nat) (p : Pl) : Prop where
  dq : Dq S w1 w1 db p
  kw : Kp NoB w w1
  sw : ∀ b, S b → w.heap.size ≤ b
theorem StW.next {S : Nat → Prop} {w w1 w2 : World} {db : Nat} {p q : Pl} (h : StW S w w1 db p) (h2 : Dq S w1 w2 db q) : ∃ S', StW S' w w2 db q ∧ Kp S w1 w2 ∧ (∀ b, S' b → S b ∨ w1.heap.size ≤ b) := by
  obtain ⟨S', hq, hS⟩ := h2.base
  refine ⟨S', ⟨hq, (Dq.tr (w0 := w) h2 h.kw (fun b q => .inr (h.sw b q)) (fun b (q : False) => q.elim)).kp, fun b q => ?_⟩, h2.kp, hS⟩
  rcases hS b q with z | z
  · exact h.sw b z
  · have := h.kw.size; omega
theorem StW.keep {S : Nat → Prop} {w w1 w2 : World} {db : Nat} {p : Pl} (h : StW S w w1 db p) (k : Kp NoB w1 w2) : StW S w w2 db p :=
  ⟨h.dq.base1 k, h.kw.trans k (fun _ _ q => q), h.sw⟩
theorem StW.out {S : Nat → Prop} {w w1 : World} {db : Nat} {p : Pl} (h : StW S w w1 db p) : Dq (fun _ => False) w w1 db p :=
  Dq.tr (w0 := w) h.dq h.kw (fun b q => .inr (h.sw b q)) (fun b q => q.elim)
theorem StW.of {w w1 : World} {db : Nat} {p : Pl} (h : Dq (fun _ => False) w w1 db p) : ∃ S, StW S w w1 db p := by
  obtain ⟨S', hq, hS⟩ := h.base
  exact ⟨S', hq, h.kp, fun b q => by rcases hS b q with z | z; exact z.elim; exact z⟩
/-- what is told is a list away from the disk's blocks -/
theorem StW.told {S : Nat → Prop} {w w1 w2 : World} {db : Nat} {p : Pl} {v : Value} {l : List (List Int)} (h : StW S w w1 db p) (k : Kp NoB w1 w2) (ho : OwnRaw w2 w1.heap.size v l) (hl : l.length ≤ 5000) : RwS S w2 v l := by
  obtain ⟨A, c, rfl, hraw, _, hge⟩ := raws_own2 ho rfl
  exact ⟨A, l.length, c, rfl, hraw, ho.2, hl, fun g o e _ q => by
    have h1 := hge g o e
    have h2 := h.dq.lt g q
    omega⟩
theorem RwS.keepN {S : Nat → Prop} {w w' : World} {v : Value} {l : List (List Int)} (h : RwS S w v l) (k : Kp NoB w w') : RwS S w' v l := h.keep (k.mono (fun _ _ q => q.elim)) (fun _ q => .inl q)
theorem RwS.at_ {S : Nat → Prop} {w : World} {A : Option Addr} {m c : Nat} {l : List (List Int)} (h : RwS S w (.slice A m c) l) : RawsAt w A m l ∧ rawOk l ∧ m ≤ 5000 := by
  obtain ⟨A', m', c', e, hr, ok, hm, _⟩ := h
  injection e with e1 e2 e3
  subst e1; subst e2
  exact ⟨hr, ok, hm⟩
def WaRel (w : World) (n db : Nat) (v8 : Value) (wr : World) : Prop := ∃ (k : Nat) (p : Pl) (V : List (List Int)), v8 = .int .i64 (k : Int) ∧ k ≤ n ∧ Dq (fun _ => False) w wr db p ∧ AtV p V k ∧ p.sm ((10 - k) * 400000000 + 400000000)
theorem nums_drop {w : World} {g o n t : Nat} {L : List Int} (h : Nums w (some ⟨g, o, none⟩) n L) (ht : t ≤ n) : Nums w (some ⟨g, o + t, none⟩) (n - t) (L.drop t) := by
  refine ⟨by rw [List.length_drop, h.1], fun hn => ?_⟩
  obtain ⟨g', o', e, hg, hc⟩ := h.2 (by omega)
  injection e with e
  injection e with e1 e2 e3
  subst e1; subst e2
  refine ⟨g, o + t, rfl, hg, fun k hk => ?_⟩
  have := hc (t + k) (by omega)
  rw [show o + t + k = o + (t + k) by omega, this]
  simp [List.getD_eq_getElem?_getD, List.getElem?_drop]
attribute [local go_sem ↓] load26 store26 alloc26 build26 eql26
set_option maxRecDepth 100000 in
set_option maxHeartbeats 1000000 in
theorem watom_ok (w : World) (A : Option Addr) (n cap : Nat) (hL : ChsW w A n) (B : Option Addr) (nt tcap : Nat) (T : List Int) (hT : Nums w B nt T) (hTr : ∀ y ∈ T, -9223372036854775808 ≤ y ∧ y ≤ 9223372036854775807) (hnt : nt ≤ 9223372036854775807)
    (B2 : Option Addr) (m mcap : Nat) (L : List Int) (hL2 : Nums w B2 m L) (hLr : ∀ y ∈ L, -9223372036854775808 ≤ y ∧ y ≤ 9223372036854775807) (hm : m ≤ 9223372036854775807) (hmc : m ≤ mcap) (hmc2 : mcap ≤ 9223372036854775807) :
    Calls Try.prog 10 #[.slice A n cap, .slice B nt tcap, .slice B2 m mcap] w fun e w' => e = .returned (.bool true) ∧ Kp NoB w w' := by
  have HL := Lib.hid hL
  have HT := Lib.hid hT
  have HTR := Lib.hid hTr
  have HL2 := Lib.hid hL2
  have HLR := Lib.hid hLr
  have HM := Lib.hid hm
  have HNT := Lib.hid hnt
  clear hL hT hTr hL2 hLr hm hnt
  by_cases hbig : 10 < n
  · have hb : (10 : Int) < (n : Int) := by omega
    go_enter Try.func10, Try.ntmps10
    go_wp2_with (go_at_call 36; go_must (refine (wawake_ok _).mono ?_); rintro e w8 ⟨rfl, hk8⟩; have HK8 := Lib.hid hk8; clear hk8)
    go_ret
    exact ⟨rfl, HK8.out⟩
  · have hb : ¬ (10 : Int) < (n : Int) := by omega
    go_enter Try.func10, Try.ntmps10
    go_wp2_with fail
    refine (new_q w 200000 (by omega)).mono ?_
    rintro e w1 ⟨db, rfl, h1⟩
    have H1 := Lib.hid h1
    clear h1
    unfold ptrV
    go_wp2_with fail
    go_loopw [8] (fun v8 wr => WaRel w n db v8 wr) (fun v _ => n - (intOf v).toNat)
    case atStart => exact ⟨0, Pl.new 200000, [], rfl, by omega, H1.out, atv_new, by unfold Pl.sm; show 0 + 0 + _ < _; omega⟩
    case round =>
      obtain ⟨wq, rfl⟩ : ∃ wq, wq = wr := ⟨_, rfl⟩
      obtain ⟨k, p, V, rfl, hk, hq, hI, hsm⟩ := hrel
      obtain ⟨S, hst⟩ := StW.of hq
      have HST := Lib.hid hst
      have HI := Lib.hid hI
      have HSM := Lib.hid hsm
      clear hq hst hI hsm
      by_cases hlt : k < n
      · have hkk : (k : Int) < (n : Int) := by omega
        go_wp2_with fail
        refine (show Calls _ _ #[ptrV db] _ _ from wmark_q HST.out.dq).mono ?_
        rintro e w2 ⟨rfl, hk2⟩
        obtain ⟨f1, f2, f3, f4, f5⟩ := atv_facts HI.out
        rw [f3]
        have HF4 := Lib.hid f4
        have HF5 := Lib.hid f5
        have HST2 := Lib.hid (HST.out.keep hk2)
        clear f1 f2 f3 f4 f5 hk2
        dsimp only
        go_wp2_with fail
        refine (show Calls _ _ #[ptrV db, .int .i64 p.wmark.1] _ _ from wtell_q HST2.out.dq p.wmark.1).mono ?_
        rintro e w3 ⟨v, rfl, how, hk3⟩
        rw [HF4.out] at how
        obtain ⟨A1, s, c1, rfl, hraw, hrok, hs5, hap⟩ := HST2.out.told hk3 how (by have := HF5.out; omega)
        have RW3 := Lib.hid (show RwS S w3 (.slice A1 s c1) V from ⟨A1, s, c1, rfl, hraw, hrok, hs5, hap⟩)
        have HST3 := Lib.hid (HST2.out.keep hk3)
        clear how hraw hrok hs5 hap hk3
        by_cases hct : k < nt
        · have hctt : (k : Int) < (nt : Int) := by omega
          obtain ⟨g1, o1, e, hg1, hc1⟩ := HT.out.2 (by omega)
          subst e
          have ct := (HST3.out.kw.cell hg1 (fun q => q)).trans (hc1 k hct)
          obtain ⟨x, hx⟩ : ∃ x, T.getD k 0 = x := ⟨_, rfl⟩
          rw [hx] at ct
          have hxr := HTR.out x (by rw [← hx, List.getD_eq_getElem?_getD, List.getElem?_eq_getElem (by have := HT.out.1; omega)]; exact List.getElem_mem _)
          have HXR := Lib.hid hxr
          clear hx hxr hg1 hc1
          go_wp2_with fail
          refine (show Calls _ _ #[ptrV db, .int .i64 x] _ _ from crashin_q HST3.out.dq x HXR.out).mono ?_
          rintro e w4 ⟨rfl, h4⟩
          obtain ⟨S4, hst4, hk4, hS4⟩ := HST3.out.next h4
          have HST4 := Lib.hid hst4
          have RW4 := Lib.hid (RW3.out.keep hk4 hS4)
          have HI4 := Lib.hid (atv_in HI.out x)
          have HSM4 : Hid ((p.crashIn x).sm ((10 - k) * 400000000 + 400000000)) := Lib.hid HSM.out
          clear h4 hst4 hk4 hS4 ct
          generalize p.crashIn x = p4 at *
          obtain ⟨g, o, hm, C, Ab, nb, cb, bs, e, hg, hc0, hc1, hc2, hbs, hnb⟩ := (HL.out.keep HST4.out.kw) k hlt
          subst e
          have HBS := Lib.hid hbs
          have HNB := Lib.hid hnb
          have HBR := Lib.hid hbs.2.1
          clear hbs hnb hg
          go_wp2_with fail
          refine (show Calls _ _ #[ptrV db, .agg #[.bool hm, .int .i64 C, .slice Ab nb cb]] _ _ from do_q HST4.out.dq hm C Ab nb cb bs HBS.out HNB.out (atv_facts HI4.out).2.1 (sm_mono HSM4.out (by omega))).mono ?_
          rintro e w5 ⟨q, E, NOW, v5, S5, hr, rfl, hq5, hk5, hS5, hrw5⟩
          have hst5 : StW S5 w w5 db q := ⟨hq5, (HST4.out.kw).trans hk5 (fun b hb2 q => by have := HST4.out.sw b q; omega), fun b q => by
            rcases hS5 b q with z | z
            · exact HST4.out.sw b z
            · have := HST4.out.kw.size; omega⟩
          have hrv5 := RW4.out.keep hk5 hS5
          obtain ⟨hsmq, hlaw⟩ := do_law (a := (10 - (k + 1)) * 400000000 + 400000000) HI4.out (by omega) HBR.out (sm_mono HSM4.out (by omega)) hr
          have HST5 := Lib.hid hst5
          have RV5 := Lib.hid hrv5
          obtain ⟨A5, s5, c5, rfl, hraw5, hrok5, hs55, hap5⟩ := hrw5
          have RW5 := Lib.hid (show RwS S5 w5 (.slice A5 s5 c5) NOW from ⟨A5, s5, c5, rfl, hraw5, hrok5, hs55, hap5⟩)
          have HSMQ := Lib.hid hsmq
          have HLAW := Lib.hid hlaw
          clear hr hq5 hk5 hS5 hst5 hrv5 hsmq hlaw hraw5 hrok5 hs55 hap5 hc0 hc1 hc2
          dsimp only
          go_wp2_with fail
          refine (show Calls _ _ #[ptrV db, .int .i64 0] _ _ from crashin_q HST5.out.dq 0 (by omega)).mono ?_
          rintro e w6 ⟨rfl, h6⟩
          obtain ⟨S6, hst6, hk6, hS6⟩ := HST5.out.next h6
          have HST6 := Lib.hid hst6
          have RV6 := Lib.hid (RV5.out.keep hk6 hS6)
          have RW6 := Lib.hid (RW5.out.keep hk6 hS6)
          clear h6 hst6 hk6 hS6
          rcases HLAW.out with ⟨rfl, hI5⟩ | ⟨rfl, hdn, hag⟩
          · have HI6 := Lib.hid (atv_in hI5 0)
            have HSM6 : Hid ((q.crashIn 0).sm ((10 - (k + 1)) * 400000000 + 400000000)) := Lib.hid HSMQ.out
            clear hI5
            go_wp2_with fail
            refine (show Calls _ _ #[ptrV db] _ _ from down_q HST6.out.dq).mono ?_
            rintro e w6' ⟨rfl, rfl⟩
            rw [(atv_facts HI6.out).1]
            go_wp2_with fail
            obtain ⟨q6, hq6⟩ : ∃ q6, q.crashIn 0 = q6 := ⟨_, rfl⟩
            rw [hq6] at HST6 HI6 HSM6
            clear hq6
            have RX6 := RW6
            have HI7 := HI6
            have HST7 := HST6
            have HSM7 := HSM6

            refine (show Calls _ _ #[ptrV db] _ _ from wmark_q HST7.out.dq).mono ?_
            rintro e w8 ⟨rfl, hk8⟩
            obtain ⟨f1, f2, f3, f4, f5⟩ := atv_facts HI7.out
            rw [f3]
            have HF4' := Lib.hid f4
            have HF5' := Lib.hid f5
            have HST8 := Lib.hid (HST7.out.keep hk8)
            have HK8 := Lib.hid hk8
            clear f1 f2 f3 f4 f5 hk8
            dsimp only
            go_wp2_with fail
            refine (show Calls _ _ #[ptrV db, .int .i64 q6.wmark.1] _ _ from wtell_q HST8.out.dq q6.wmark.1).mono ?_
            rintro e w9 ⟨v, rfl, how, hk9⟩
            rw [HF4'.out] at how
            obtain ⟨A9, s9, c9, rfl, hraw9, hrok9, hs9, hap9⟩ := HST8.out.told hk9 how (by have := HF5'.out; omega)
            have HRAW9 := Lib.hid hraw9
            have HROK9 := Lib.hid hrok9
            have HS9 := Lib.hid hs9
            have HST9 := Lib.hid (HST8.out.keep hk9)
            have HK79 := Lib.hid (HK8.out.trans hk9 (fun _ _ q => q))
            clear how hraw9 hrok9 hs9 hap9 hk9
            go_wp2_with fail

            have RR9 := HRAW9.out
            have RB := (RW6.out.keepN HK79.out)
            refine (wsame_q w9 A9 A5 s9 s5 c9 c5 NOW NOW RR9 RB.at_.1 HROK9.out RB.at_.2.1 (by have := HS9.out; omega) (by have := RB.at_.2.2; omega)).mono ?_
            rintro e w10 ⟨rfl, hks⟩
            rw [decide_eq_true rfl]
            have HKS := Lib.hid hks
            clear hks RR9 RB
            go_wp2_with fail
            exact ⟨⟨k + 1, q6, NOW, by congr 1, by omega, (HST9.out.keep HKS.out).out, HI7.out, HSM7.out⟩, by simp [intOf]; omega⟩
          · have hdn6 : (q.crashIn 0).down = true := hdn
            have HAG := Lib.hid (hag 0)
            have HSM6 : Hid ((q.crashIn 0).sm ((10 - (k + 1)) * 400000000 + 400000000)) := Lib.hid HSMQ.out
            clear hag hdn
            go_wp2_with fail
            refine (show Calls _ _ #[ptrV db] _ _ from down_q HST6.out.dq).mono ?_
            rintro e w6' ⟨rfl, rfl⟩
            rw [hdn6]
            obtain ⟨q6, hq6⟩ : ∃ q6, q.crashIn 0 = q6 := ⟨_, rfl⟩
            rw [hq6] at HST6 hdn6 HAG HSM6
            clear hq6
            have hre : q6.restartE = 0 := by unfold Pl.restartE; rw [hdn6]; rfl
            by_cases hm0 : 0 < m
            · have hmm : (0 : Int) < (m : Int) := by omega
              have hmm0 : ((m : Int) == 0) = false := by simp; omega
              have hmm1 : ¬ (m : Int) = 0 := by omega
              obtain ⟨g2, o2, e, hg2, hc2⟩ := HL2.out.2 hm0
              subst e
              obtain ⟨t, ht⟩ : ∃ t, k % m = t := ⟨_, rfl⟩
              have htm : t < m := by rw [← ht]; exact Nat.mod_lt _ hm0
              have hmod : Int.tmod (k : Int) (m : Int) = (t : Int) := by rw [← ht]; rfl
              have hti : (t : Int) ≤ (m : Int) := by omega
              have ht0 : (0 : Int) ≤ (t : Int) := by omega
              have HTM := Lib.hid htm
              have hne : ¬ mcap = t := by omega
              have hne2 : ¬ (mcap : Int) = (t : Int) := by omega
              clear ht hc2 hmm1
              go_wp2_with fail
              refine (show Calls _ _ #[ptrV db, .slice (some ⟨g2, o2 + t, none⟩) (m - t) (mcap - t)] _ _ from restart_q HST6.out.dq (some ⟨g2, o2 + t, none⟩) (m - t) (mcap - t) (L.drop t) ((nums_drop HL2.out (Nat.le_of_lt HTM.out)).keep HST6.out.kw (fun _ _ _ q => q)) (fun g o e hp => by injection e with e; injection e with e1 e2; subst e1; exact ⟨Nat.lt_of_lt_of_le hg2 HST6.out.kw.size, fun q => by have := HST6.out.sw _ q; omega⟩) (fun y hy => HLR.out y (List.mem_of_mem_drop hy)) (by have := HM.out; omega) (sm_mono HSM6.out (by omega))).mono ?_
              rintro e w7 ⟨rfl, h7⟩
              rw [hre]
              obtain ⟨S7, hst7, hk7, hS7⟩ := HST6.out.next h7
              have HST7 := Lib.hid hst7
              have RV7 := Lib.hid (RV6.out.keep hk7 hS7)
              have RW7 := Lib.hid (RW6.out.keep hk7 hS7)
              have HSM7 := Lib.hid (sm_restart (L.drop t) HSM6.out)
              have HAG7 := Lib.hid (HAG.out (L.drop t))
              clear h7 hst7 hk7 hS7
              go_wp2_with fail
              obtain ⟨q7, hq7⟩ : ∃ q7, q6.restart (L.drop t) = q7 := ⟨_, rfl⟩
              rw [hq7] at HST7 HSM7 HAG7
              clear hq7
              rcases HAG7.out with hv | hv
              · have HI7 := Lib.hid hv
                clear hv
                refine (show Calls _ _ #[ptrV db] _ _ from wmark_q HST7.out.dq).mono ?_
                rintro e w8 ⟨rfl, hk8⟩
                obtain ⟨f1, f2, f3, f4, f5⟩ := atv_facts HI7.out
                rw [f3]
                have HF4' := Lib.hid f4
                have HF5' := Lib.hid f5
                have HST8 := Lib.hid (HST7.out.keep hk8)
                have HK8 := Lib.hid hk8
                clear f1 f2 f3 f4 f5 hk8
                dsimp only
                go_wp2_with fail
                refine (show Calls _ _ #[ptrV db, .int .i64 q7.wmark.1] _ _ from wtell_q HST8.out.dq q7.wmark.1).mono ?_
                rintro e w9 ⟨v, rfl, how, hk9⟩
                rw [HF4'.out] at how
                obtain ⟨A9, s9, c9, rfl, hraw9, hrok9, hs9, hap9⟩ := HST8.out.told hk9 how (by have := HF5'.out; omega)
                have HRAW9 := Lib.hid hraw9
                have HROK9 := Lib.hid hrok9
                have HS9 := Lib.hid hs9
                have HST9 := Lib.hid (HST8.out.keep hk9)
                have HK79 := Lib.hid (HK8.out.trans hk9 (fun _ _ q => q))
                clear how hraw9 hrok9 hs9 hap9 hk9
                go_wp2_with fail
                have RR9 := HRAW9.out
                have RB := (RV7.out.keepN HK79.out)
                refine (wsame_q w9 A9 A1 s9 s c9 c1 V V RR9 RB.at_.1 HROK9.out RB.at_.2.1 (by have := HS9.out; omega) (by have := RB.at_.2.2; omega)).mono ?_
                rintro e w10 ⟨rfl, hks⟩
                rw [decide_eq_true rfl]
                have HKS := Lib.hid hks
                clear hks RR9 RB
                go_wp2_with fail
                exact ⟨⟨k + 1, q7, V, by congr 1, by omega, (HST9.out.keep HKS.out).out, HI7.out, HSM7.out⟩, by simp [intOf]; omega⟩
              · have HI7 := Lib.hid hv
                clear hv
                refine (show Calls _ _ #[ptrV db] _ _ from wmark_q HST7.out.dq).mono ?_
                rintro e w8 ⟨rfl, hk8⟩
                obtain ⟨f1, f2, f3, f4, f5⟩ := atv_facts HI7.out
                rw [f3]
                have HF4' := Lib.hid f4
                have HF5' := Lib.hid f5
                have HST8 := Lib.hid (HST7.out.keep hk8)
                have HK8 := Lib.hid hk8
                clear f1 f2 f3 f4 f5 hk8
                dsimp only
                go_wp2_with fail
                refine (show Calls _ _ #[ptrV db, .int .i64 q7.wmark.1] _ _ from wtell_q HST8.out.dq q7.wmark.1).mono ?_
                rintro e w9 ⟨v, rfl, how, hk9⟩
                rw [HF4'.out] at how
                obtain ⟨A9, s9, c9, rfl, hraw9, hrok9, hs9, hap9⟩ := HST8.out.told hk9 how (by have := HF5'.out; omega)
                have HRAW9 := Lib.hid hraw9
                have HROK9 := Lib.hid hrok9
                have HS9 := Lib.hid hs9
                have HST9 := Lib.hid (HST8.out.keep hk9)
                have HK79 := Lib.hid (HK8.out.trans hk9 (fun _ _ q => q))
                clear how hraw9 hrok9 hs9 hap9 hk9
                go_wp2_with fail
                have RR9 := HRAW9.out
                have RB := (RV7.out.keepN HK79.out)
                refine (wsame_q w9 A9 A1 s9 s c9 c1 NOW V RR9 RB.at_.1 HROK9.out RB.at_.2.1 (by have := HS9.out; omega) (by have := RB.at_.2.2; omega)).mono ?_
                rintro e w10 ⟨rfl, hks⟩
                have HKS := Lib.hid hks
                clear hks RR9 RB
                by_cases hvn : NOW = V
                · rw [decide_eq_true hvn]
                  go_wp2_with fail
                  exact ⟨⟨k + 1, q7, NOW, by congr 1, by omega, (HST9.out.keep HKS.out).out, HI7.out, HSM7.out⟩, by simp [intOf]; omega⟩
                · rw [decide_eq_false hvn]
                  go_wp2_with fail
                  have RR9 := HRAW9.out.keep HKS.out
                  have RB := ((RW7.out.keepN HK79.out).keepN HKS.out)
                  refine (wsame_q w10 A9 A5 s9 s5 c9 c5 NOW NOW RR9 RB.at_.1 HROK9.out RB.at_.2.1 (by have := HS9.out; omega) (by have := RB.at_.2.2; omega)).mono ?_
                  rintro e w11 ⟨rfl, hkt⟩
                  rw [decide_eq_true rfl]
                  have HKT := Lib.hid hkt
                  clear hkt RR9 RB
                  go_wp2_with fail
                  exact ⟨⟨k + 1, q7, NOW, by congr 1, by omega, ((HST9.out.keep HKS.out).keep HKT.out).out, HI7.out, HSM7.out⟩, by simp [intOf]; omega⟩
            · have hmm : ¬ (0 : Int) < (m : Int) := by omega
              obtain rfl : m = 0 := by omega
              rcases B2 with _ | ⟨g2, o2, sp⟩
              · by_cases hne : mcap = 0
                · subst hne
                  go_wp2_with fail
                  refine (show Calls _ _ #[ptrV db, .slice _ 0 _] _ _ from restart_q HST6.out.dq _ 0 _ L (HL2.out.keep HST6.out.kw (fun _ _ _ q => q)) (fun g o e hp => absurd hp (Nat.lt_irrefl 0)) HLR.out (by have := HM.out; omega) (sm_mono HSM6.out (by omega))).mono ?_
                  rintro e w7 ⟨rfl, h7⟩
                  rw [hre]
                  obtain ⟨S7, hst7, hk7, hS7⟩ := HST6.out.next h7
                  have HST7 := Lib.hid hst7
                  have RV7 := Lib.hid (RV6.out.keep hk7 hS7)
                  have RW7 := Lib.hid (RW6.out.keep hk7 hS7)
                  have HSM7 := Lib.hid (sm_restart L HSM6.out)
                  have HAG7 := Lib.hid (HAG.out L)
                  clear h7 hst7 hk7 hS7
                  go_wp2_with fail
                  obtain ⟨q7, hq7⟩ : ∃ q7, q6.restart L = q7 := ⟨_, rfl⟩
                  rw [hq7] at HST7 HSM7 HAG7
                  clear hq7
                  rcases HAG7.out with hv | hv
                  · have HI7 := Lib.hid hv
                    clear hv
                    refine (show Calls _ _ #[ptrV db] _ _ from wmark_q HST7.out.dq).mono ?_
                    rintro e w8 ⟨rfl, hk8⟩
                    obtain ⟨f1, f2, f3, f4, f5⟩ := atv_facts HI7.out
                    rw [f3]
                    have HF4' := Lib.hid f4
                    have HF5' := Lib.hid f5
                    have HST8 := Lib.hid (HST7.out.keep hk8)
                    have HK8 := Lib.hid hk8
                    clear f1 f2 f3 f4 f5 hk8
                    dsimp only
                    go_wp2_with fail
                    refine (show Calls _ _ #[ptrV db, .int .i64 q7.wmark.1] _ _ from wtell_q HST8.out.dq q7.wmark.1).mono ?_
                    rintro e w9 ⟨v, rfl, how, hk9⟩
                    rw [HF4'.out] at how
                    obtain ⟨A9, s9, c9, rfl, hraw9, hrok9, hs9, hap9⟩ := HST8.out.told hk9 how (by have := HF5'.out; omega)
                    have HRAW9 := Lib.hid hraw9
                    have HROK9 := Lib.hid hrok9
                    have HS9 := Lib.hid hs9
                    have HST9 := Lib.hid (HST8.out.keep hk9)
                    have HK79 := Lib.hid (HK8.out.trans hk9 (fun _ _ q => q))
                    clear how hraw9 hrok9 hs9 hap9 hk9
                    go_wp2_with fail
                    have RR9 := HRAW9.out
                    have RB := (RV7.out.keepN HK79.out)
                    refine (wsame_q w9 A9 A1 s9 s c9 c1 V V RR9 RB.at_.1 HROK9.out RB.at_.2.1 (by have := HS9.out; omega) (by have := RB.at_.2.2; omega)).mono ?_
                    rintro e w10 ⟨rfl, hks⟩
                    rw [decide_eq_true rfl]
                    have HKS := Lib.hid hks
                    clear hks RR9 RB
                    go_wp2_with fail
                    exact ⟨⟨k + 1, q7, V, by congr 1, by omega, (HST9.out.keep HKS.out).out, HI7.out, HSM7.out⟩, by simp [intOf]; omega⟩
                  · have HI7 := Lib.hid hv
                    clear hv
                    refine (show Calls _ _ #[ptrV db] _ _ from wmark_q HST7.out.dq).mono ?_
                    rintro e w8 ⟨rfl, hk8⟩
                    obtain ⟨f1, f2, f3, f4, f5⟩ := atv_facts HI7.out
                    rw [f3]
                    have HF4' := Lib.hid f4
                    have HF5' := Lib.hid f5
                    have HST8 := Lib.hid (HST7.out.keep hk8)
                    have HK8 := Lib.hid hk8
                    clear f1 f2 f3 f4 f5 hk8
                    dsimp only
                    go_wp2_with fail
                    refine (show Calls _ _ #[ptrV db, .int .i64 q7.wmark.1] _ _ from wtell_q HST8.out.dq q7.wmark.1).mono ?_
                    rintro e w9 ⟨v, rfl, how, hk9⟩
                    rw [HF4'.out] at how
                    obtain ⟨A9, s9, c9, rfl, hraw9, hrok9, hs9, hap9⟩ := HST8.out.told hk9 how (by have := HF5'.out; omega)
                    have HRAW9 := Lib.hid hraw9
                    have HROK9 := Lib.hid hrok9
                    have HS9 := Lib.hid hs9
                    have HST9 := Lib.hid (HST8.out.keep hk9)
                    have HK79 := Lib.hid (HK8.out.trans hk9 (fun _ _ q => q))
                    clear how hraw9 hrok9 hs9 hap9 hk9
                    go_wp2_with fail
                    have RR9 := HRAW9.out
                    have RB := (RV7.out.keepN HK79.out)
                    refine (wsame_q w9 A9 A1 s9 s c9 c1 NOW V RR9 RB.at_.1 HROK9.out RB.at_.2.1 (by have := HS9.out; omega) (by have := RB.at_.2.2; omega)).mono ?_
                    rintro e w10 ⟨rfl, hks⟩
                    have HKS := Lib.hid hks
                    clear hks RR9 RB
                    by_cases hvn : NOW = V
                    · rw [decide_eq_true hvn]
                      go_wp2_with fail
                      exact ⟨⟨k + 1, q7, NOW, by congr 1, by omega, (HST9.out.keep HKS.out).out, HI7.out, HSM7.out⟩, by simp [intOf]; omega⟩
                    · rw [decide_eq_false hvn]
                      go_wp2_with fail
                      have RR9 := HRAW9.out.keep HKS.out
                      have RB := ((RW7.out.keepN HK79.out).keepN HKS.out)
                      refine (wsame_q w10 A9 A5 s9 s5 c9 c5 NOW NOW RR9 RB.at_.1 HROK9.out RB.at_.2.1 (by have := HS9.out; omega) (by have := RB.at_.2.2; omega)).mono ?_
                      rintro e w11 ⟨rfl, hkt⟩
                      rw [decide_eq_true rfl]
                      have HKT := Lib.hid hkt
                      clear hkt RR9 RB
                      go_wp2_with fail
                      exact ⟨⟨k + 1, q7, NOW, by congr 1, by omega, ((HST9.out.keep HKS.out).keep HKT.out).out, HI7.out, HSM7.out⟩, by simp [intOf]; omega⟩
                · have hne2 : ¬ (mcap : Int) = 0 := by omega
                  go_wp2_with fail
                  refine (show Calls _ _ #[ptrV db, .slice _ 0 _] _ _ from restart_q HST6.out.dq _ 0 _ L (HL2.out.keep HST6.out.kw (fun _ _ _ q => q)) (fun g o e hp => absurd hp (Nat.lt_irrefl 0)) HLR.out (by have := HM.out; omega) (sm_mono HSM6.out (by omega))).mono ?_
                  rintro e w7 ⟨rfl, h7⟩
                  rw [hre]
                  obtain ⟨S7, hst7, hk7, hS7⟩ := HST6.out.next h7
                  have HST7 := Lib.hid hst7
                  have RV7 := Lib.hid (RV6.out.keep hk7 hS7)
                  have RW7 := Lib.hid (RW6.out.keep hk7 hS7)
                  have HSM7 := Lib.hid (sm_restart L HSM6.out)
                  have HAG7 := Lib.hid (HAG.out L)
                  clear h7 hst7 hk7 hS7
                  go_wp2_with fail
                  obtain ⟨q7, hq7⟩ : ∃ q7, q6.restart L = q7 := ⟨_, rfl⟩
                  rw [hq7] at HST7 HSM7 HAG7
                  clear hq7
                  rcases HAG7.out with hv | hv
                  · have HI7 := Lib.hid hv
                    clear hv
                    refine (show Calls _ _ #[ptrV db] _ _ from wmark_q HST7.out.dq).mono ?_
                    rintro e w8 ⟨rfl, hk8⟩
                    obtain ⟨f1, f2, f3, f4, f5⟩ := atv_facts HI7.out
                    rw [f3]
                    have HF4' := Lib.hid f4
                    have HF5' := Lib.hid f5
                    have HST8 := Lib.hid (HST7.out.keep hk8)
                    have HK8 := Lib.hid hk8
                    clear f1 f2 f3 f4 f5 hk8
                    dsimp only
                    go_wp2_with fail
                    refine (show Calls _ _ #[ptrV db, .int .i64 q7.wmark.1] _ _ from wtell_q HST8.out.dq q7.wmark.1).mono ?_
                    rintro e w9 ⟨v, rfl, how, hk9⟩
                    rw [HF4'.out] at how
                    obtain ⟨A9, s9, c9, rfl, hraw9, hrok9, hs9, hap9⟩ := HST8.out.told hk9 how (by have := HF5'.out; omega)
                    have HRAW9 := Lib.hid hraw9
                    have HROK9 := Lib.hid hrok9
                    have HS9 := Lib.hid hs9
                    have HST9 := Lib.hid (HST8.out.keep hk9)
                    have HK79 := Lib.hid (HK8.out.trans hk9 (fun _ _ q => q))
                    clear how hraw9 hrok9 hs9 hap9 hk9
                    go_wp2_with fail
                    have RR9 := HRAW9.out
                    have RB := (RV7.out.keepN HK79.out)
                    refine (wsame_q w9 A9 A1 s9 s c9 c1 V V RR9 RB.at_.1 HROK9.out RB.at_.2.1 (by have := HS9.out; omega) (by have := RB.at_.2.2; omega)).mono ?_
                    rintro e w10 ⟨rfl, hks⟩
                    rw [decide_eq_true rfl]
                    have HKS := Lib.hid hks
                    clear hks RR9 RB
                    go_wp2_with fail
                    exact ⟨⟨k + 1, q7, V, by congr 1, by omega, (HST9.out.keep HKS.out).out, HI7.out, HSM7.out⟩, by simp [intOf]; omega⟩
                  · have HI7 := Lib.hid hv
                    clear hv
                    refine (show Calls _ _ #[ptrV db] _ _ from wmark_q HST7.out.dq).mono ?_
                    rintro e w8 ⟨rfl, hk8⟩
                    obtain ⟨f1, f2, f3, f4, f5⟩ := atv_facts HI7.out
                    rw [f3]
                    have HF4' := Lib.hid f4
                    have HF5' := Lib.hid f5
                    have HST8 := Lib.hid (HST7.out.keep hk8)
                    have HK8 := Lib.hid hk8
                    clear f1 f2 f3 f4 f5 hk8
                    dsimp only
                    go_wp2_with fail
                    refine (show Calls _ _ #[ptrV db, .int .i64 q7.wmark.1] _ _ from wtell_q HST8.out.dq q7.wmark.1).mono ?_
                    rintro e w9 ⟨v, rfl, how, hk9⟩
                    rw [HF4'.out] at how
                    obtain ⟨A9, s9, c9, rfl, hraw9, hrok9, hs9, hap9⟩ := HST8.out.told hk9 how (by have := HF5'.out; omega)
                    have HRAW9 := Lib.hid hraw9
                    have HROK9 := Lib.hid hrok9
                    have HS9 := Lib.hid hs9
                    have HST9 := Lib.hid (HST8.out.keep hk9)
                    have HK79 := Lib.hid (HK8.out.trans hk9 (fun _ _ q => q))
                    clear how hraw9 hrok9 hs9 hap9 hk9
                    go_wp2_with fail
                    have RR9 := HRAW9.out
                    have RB := (RV7.out.keepN HK79.out)
                    refine (wsame_q w9 A9 A1 s9 s c9 c1 NOW V RR9 RB.at_.1 HROK9.out RB.at_.2.1 (by have := HS9.out; omega) (by have := RB.at_.2.2; omega)).mono ?_
                    rintro e w10 ⟨rfl, hks⟩
                    have HKS := Lib.hid hks
                    clear hks RR9 RB
                    by_cases hvn : NOW = V
                    · rw [decide_eq_true hvn]
                      go_wp2_with fail
                      exact ⟨⟨k + 1, q7, NOW, by congr 1, by omega, (HST9.out.keep HKS.out).out, HI7.out, HSM7.out⟩, by simp [intOf]; omega⟩
                    · rw [decide_eq_false hvn]
                      go_wp2_with fail
                      have RR9 := HRAW9.out.keep HKS.out
                      have RB := ((RW7.out.keepN HK79.out).keepN HKS.out)
                      refine (wsame_q w10 A9 A5 s9 s5 c9 c5 NOW NOW RR9 RB.at_.1 HROK9.out RB.at_.2.1 (by have := HS9.out; omega) (by have := RB.at_.2.2; omega)).mono ?_
                      rintro e w11 ⟨rfl, hkt⟩
                      rw [decide_eq_true rfl]
                      have HKT := Lib.hid hkt
                      clear hkt RR9 RB
                      go_wp2_with fail
                      exact ⟨⟨k + 1, q7, NOW, by congr 1, by omega, ((HST9.out.keep HKS.out).keep HKT.out).out, HI7.out, HSM7.out⟩, by simp [intOf]; omega⟩
              · by_cases hne : mcap = 0
                · subst hne
                  go_wp2_with fail
                  refine (show Calls _ _ #[ptrV db, .slice _ 0 _] _ _ from restart_q HST6.out.dq _ 0 _ L (HL2.out.keep HST6.out.kw (fun _ _ _ q => q)) (fun g o e hp => absurd hp (Nat.lt_irrefl 0)) HLR.out (by have := HM.out; omega) (sm_mono HSM6.out (by omega))).mono ?_
                  rintro e w7 ⟨rfl, h7⟩
                  rw [hre]
                  obtain ⟨S7, hst7, hk7, hS7⟩ := HST6.out.next h7
                  have HST7 := Lib.hid hst7
                  have RV7 := Lib.hid (RV6.out.keep hk7 hS7)
                  have RW7 := Lib.hid (RW6.out.keep hk7 hS7)
                  have HSM7 := Lib.hid (sm_restart L HSM6.out)
                  have HAG7 := Lib.hid (HAG.out L)
                  clear h7 hst7 hk7 hS7
                  go_wp2_with fail
                  obtain ⟨q7, hq7⟩ : ∃ q7, q6.restart L = q7 := ⟨_, rfl⟩
                  rw [hq7] at HST7 HSM7 HAG7
                  clear hq7
                  rcases HAG7.out with hv | hv
                  · have HI7 := Lib.hid hv
                    clear hv
                    refine (show Calls _ _ #[ptrV db] _ _ from wmark_q HST7.out.dq).mono ?_
                    rintro e w8 ⟨rfl, hk8⟩
                    obtain ⟨f1, f2, f3, f4, f5⟩ := atv_facts HI7.out
                    rw [f3]
                    have HF4' := Lib.hid f4
                    have HF5' := Lib.hid f5
                    have HST8 := Lib.hid (HST7.out.keep hk8)
                    have HK8 := Lib.hid hk8
                    clear f1 f2 f3 f4 f5 hk8
                    dsimp only
                    go_wp2_with fail
                    refine (show Calls _ _ #[ptrV db, .int .i64 q7.wmark.1] _ _ from wtell_q HST8.out.dq q7.wmark.1).mono ?_
                    rintro e w9 ⟨v, rfl, how, hk9⟩
                    rw [HF4'.out] at how
                    obtain ⟨A9, s9, c9, rfl, hraw9, hrok9, hs9, hap9⟩ := HST8.out.told hk9 how (by have := HF5'.out; omega)
                    have HRAW9 := Lib.hid hraw9
                    have HROK9 := Lib.hid hrok9
                    have HS9 := Lib.hid hs9
                    have HST9 := Lib.hid (HST8.out.keep hk9)
                    have HK79 := Lib.hid (HK8.out.trans hk9 (fun _ _ q => q))
                    clear how hraw9 hrok9 hs9 hap9 hk9
                    go_wp2_with fail
                    have RR9 := HRAW9.out
                    have RB := (RV7.out.keepN HK79.out)
                    refine (wsame_q w9 A9 A1 s9 s c9 c1 V V RR9 RB.at_.1 HROK9.out RB.at_.2.1 (by have := HS9.out; omega) (by have := RB.at_.2.2; omega)).mono ?_
                    rintro e w10 ⟨rfl, hks⟩
                    rw [decide_eq_true rfl]
                    have HKS := Lib.hid hks
                    clear hks RR9 RB
                    go_wp2_with fail
                    exact ⟨⟨k + 1, q7, V, by congr 1, by omega, (HST9.out.keep HKS.out).out, HI7.out, HSM7.out⟩, by simp [intOf]; omega⟩
                  · have HI7 := Lib.hid hv
                    clear hv
                    refine (show Calls _ _ #[ptrV db] _ _ from wmark_q HST7.out.dq).mono ?_
                    rintro e w8 ⟨rfl, hk8⟩
                    obtain ⟨f1, f2, f3, f4, f5⟩ := atv_facts HI7.out
                    rw [f3]
                    have HF4' := Lib.hid f4
                    have HF5' := Lib.hid f5
                    have HST8 := Lib.hid (HST7.out.keep hk8)
                    have HK8 := Lib.hid hk8
                    clear f1 f2 f3 f4 f5 hk8
                    dsimp only
                    go_wp2_with fail
                    refine (show Calls _ _ #[ptrV db, .int .i64 q7.wmark.1] _ _ from wtell_q HST8.out.dq q7.wmark.1).mono ?_
                    rintro e w9 ⟨v, rfl, how, hk9⟩
                    rw [HF4'.out] at how
                    obtain ⟨A9, s9, c9, rfl, hraw9, hrok9, hs9, hap9⟩ := HST8.out.told hk9 how (by have := HF5'.out; omega)
                    have HRAW9 := Lib.hid hraw9
                    have HROK9 := Lib.hid hrok9
                    have HS9 := Lib.hid hs9
                    have HST9 := Lib.hid (HST8.out.keep hk9)
                    have HK79 := Lib.hid (HK8.out.trans hk9 (fun _ _ q => q))
                    clear how hraw9 hrok9 hs9 hap9 hk9
                    go_wp2_with fail
                    have RR9 := HRAW9.out
                    have RB := (RV7.out.keepN HK79.out)
                    refine (wsame_q w9 A9 A1 s9 s c9 c1 NOW V RR9 RB.at_.1 HROK9.out RB.at_.2.1 (by have := HS9.out; omega) (by have := RB.at_.2.2; omega)).mono ?_
                    rintro e w10 ⟨rfl, hks⟩
                    have HKS := Lib.hid hks
                    clear hks RR9 RB
                    by_cases hvn : NOW = V
                    · rw [decide_eq_true hvn]
                      go_wp2_with fail
                      exact ⟨⟨k + 1, q7, NOW, by congr 1, by omega, (HST9.out.keep HKS.out).out, HI7.out, HSM7.out⟩, by simp [intOf]; omega⟩
                    · rw [decide_eq_false hvn]
                      go_wp2_with fail
                      have RR9 := HRAW9.out.keep HKS.out
                      have RB := ((RW7.out.keepN HK79.out).keepN HKS.out)
                      refine (wsame_q w10 A9 A5 s9 s5 c9 c5 NOW NOW RR9 RB.at_.1 HROK9.out RB.at_.2.1 (by have := HS9.out; omega) (by have := RB.at_.2.2; omega)).mono ?_
                      rintro e w11 ⟨rfl, hkt⟩
                      rw [decide_eq_true rfl]
                      have HKT := Lib.hid hkt
                      clear hkt RR9 RB
                      go_wp2_with fail
                      exact ⟨⟨k + 1, q7, NOW, by congr 1, by omega, ((HST9.out.keep HKS.out).keep HKT.out).out, HI7.out, HSM7.out⟩, by simp [intOf]; omega⟩
                · have hne2 : ¬ (mcap : Int) = 0 := by omega
                  go_wp2_with fail
                  refine (show Calls _ _ #[ptrV db, .slice _ 0 _] _ _ from restart_q HST6.out.dq _ 0 _ L (HL2.out.keep HST6.out.kw (fun _ _ _ q => q)) (fun g o e hp => absurd hp (Nat.lt_irrefl 0)) HLR.out (by have := HM.out; omega) (sm_mono HSM6.out (by omega))).mono ?_
                  rintro e w7 ⟨rfl, h7⟩
                  rw [hre]
                  obtain ⟨S7, hst7, hk7, hS7⟩ := HST6.out.next h7
                  have HST7 := Lib.hid hst7
                  have RV7 := Lib.hid (RV6.out.keep hk7 hS7)
                  have RW7 := Lib.hid (RW6.out.keep hk7 hS7)
                  have HSM7 := Lib.hid (sm_restart L HSM6.out)
                  have HAG7 := Lib.hid (HAG.out L)
                  clear h7 hst7 hk7 hS7
                  go_wp2_with fail
                  obtain ⟨q7, hq7⟩ : ∃ q7, q6.restart L = q7 := ⟨_, rfl⟩
                  rw [hq7] at HST7 HSM7 HAG7
                  clear hq7
                  rcases HAG7.out with hv | hv
                  · have HI7 := Lib.hid hv
                    clear hv
                    refine (show Calls _ _ #[ptrV db] _ _ from wmark_q HST7.out.dq).mono ?_
                    rintro e w8 ⟨rfl, hk8⟩
                    obtain ⟨f1, f2, f3, f4, f5⟩ := atv_facts HI7.out
                    rw [f3]
                    have HF4' := Lib.hid f4
                    have HF5' := Lib.hid f5
                    have HST8 := Lib.hid (HST7.out.keep hk8)
                    have HK8 := Lib.hid hk8
                    clear f1 f2 f3 f4 f5 hk8
                    dsimp only
                    go_wp2_with fail
                    refine (show Calls _ _ #[ptrV db, .int .i64 q7.wmark.1] _ _ from wtell_q HST8.out.dq q7.wmark.1).mono ?_
                    rintro e w9 ⟨v, rfl, how, hk9⟩
                    rw [HF4'.out] at how
                    obtain ⟨A9, s9, c9, rfl, hraw9, hrok9, hs9, hap9⟩ := HST8.out.told hk9 how (by have := HF5'.out; omega)
                    have HRAW9 := Lib.hid hraw9
                    have HROK9 := Lib.hid hrok9
                    have HS9 := Lib.hid hs9
                    have HST9 := Lib.hid (HST8.out.keep hk9)
                    have HK79 := Lib.hid (HK8.out.trans hk9 (fun _ _ q => q))
                    clear how hraw9 hrok9 hs9 hap9 hk9
                    go_wp2_with fail
                    have RR9 := HRAW9.out
                    have RB := (RV7.out.keepN HK79.out)
                    refine (wsame_q w9 A9 A1 s9 s c9 c1 V V RR9 RB.at_.1 HROK9.out RB.at_.2.1 (by have := HS9.out; omega) (by have := RB.at_.2.2; omega)).mono ?_
                    rintro e w10 ⟨rfl, hks⟩
                    rw [decide_eq_true rfl]
                    have HKS := Lib.hid hks
                    clear hks RR9 RB
                    go_wp2_with fail
                    exact ⟨⟨k + 1, q7, V, by congr 1, by omega, (HST9.out.keep HKS.out).out, HI7.out, HSM7.out⟩, by simp [intOf]; omega⟩
                  · have HI7 := Lib.hid hv
                    clear hv
                    refine (show Calls _ _ #[ptrV db] _ _ from wmark_q HST7.out.dq).mono ?_
                    rintro e w8 ⟨rfl, hk8⟩
                    obtain ⟨f1, f2, f3, f4, f5⟩ := atv_facts HI7.out
                    rw [f3]
                    have HF4' := Lib.hid f4
                    have HF5' := Lib.hid f5
                    have HST8 := Lib.hid (HST7.out.keep hk8)
                    have HK8 := Lib.hid hk8
                    clear f1 f2 f3 f4 f5 hk8
                    dsimp only
                    go_wp2_with fail
                    refine (show Calls _ _ #[ptrV db, .int .i64 q7.wmark.1] _ _ from wtell_q HST8.out.dq q7.wmark.1).mono ?_
                    rintro e w9 ⟨v, rfl, how, hk9⟩
                    rw [HF4'.out] at how
                    obtain ⟨A9, s9, c9, rfl, hraw9, hrok9, hs9, hap9⟩ := HST8.out.told hk9 how (by have := HF5'.out; omega)
                    have HRAW9 := Lib.hid hraw9
                    have HROK9 := Lib.hid hrok9
                    have HS9 := Lib.hid hs9
                    have HST9 := Lib.hid (HST8.out.keep hk9)
                    have HK79 := Lib.hid (HK8.out.trans hk9 (fun _ _ q => q))
                    clear how hraw9 hrok9 hs9 hap9 hk9
                    go_wp2_with fail
                    have RR9 := HRAW9.out
                    have RB := (RV7.out.keepN HK79.out)
                    refine (wsame_q w9 A9 A1 s9 s c9 c1 NOW V RR9 RB.at_.1 HROK9.out RB.at_.2.1 (by have := HS9.out; omega) (by have := RB.at_.2.2; omega)).mono ?_
                    rintro e w10 ⟨rfl, hks⟩
                    have HKS := Lib.hid hks
                    clear hks RR9 RB
                    by_cases hvn : NOW = V
                    · rw [decide_eq_true hvn]
                      go_wp2_with fail
                      exact ⟨⟨k + 1, q7, NOW, by congr 1, by omega, (HST9.out.keep HKS.out).out, HI7.out, HSM7.out⟩, by simp [intOf]; omega⟩
                    · rw [decide_eq_false hvn]
                      go_wp2_with fail
                      have RR9 := HRAW9.out.keep HKS.out
                      have RB := ((RW7.out.keepN HK79.out).keepN HKS.out)
                      refine (wsame_q w10 A9 A5 s9 s5 c9 c5 NOW NOW RR9 RB.at_.1 HROK9.out RB.at_.2.1 (by have := HS9.out; omega) (by have := RB.at_.2.2; omega)).mono ?_
                      rintro e w11 ⟨rfl, hkt⟩
                      rw [decide_eq_true rfl]
                      have HKT := Lib.hid hkt
                      clear hkt RR9 RB
                      go_wp2_with fail
                      exact ⟨⟨k + 1, q7, NOW, by congr 1, by omega, ((HST9.out.keep HKS.out).keep HKT.out).out, HI7.out, HSM7.out⟩, by simp [intOf]; omega⟩
        · have hctt : ¬ (k : Int) < (nt : Int) := by omega
          have HST4 := HST3
          have RW4 := RW3
          have HI4 := HI
          have HSM4 := HSM
          obtain ⟨g, o, hm, C, Ab, nb, cb, bs, e, hg, hc0, hc1, hc2, hbs, hnb⟩ := (HL.out.keep HST4.out.kw) k hlt
          subst e
          have HBS := Lib.hid hbs
          have HNB := Lib.hid hnb
          have HBR := Lib.hid hbs.2.1
          clear hbs hnb hg
          go_wp2_with fail
          refine (show Calls _ _ #[ptrV db, .agg #[.bool hm, .int .i64 C, .slice Ab nb cb]] _ _ from do_q HST4.out.dq hm C Ab nb cb bs HBS.out HNB.out (atv_facts HI4.out).2.1 (sm_mono HSM4.out (by omega))).mono ?_
          rintro e w5 ⟨q, E, NOW, v5, S5, hr, rfl, hq5, hk5, hS5, hrw5⟩
          have hst5 : StW S5 w w5 db q := ⟨hq5, (HST4.out.kw).trans hk5 (fun b hb2 q => by have := HST4.out.sw b q; omega), fun b q => by
            rcases hS5 b q with z | z
            · exact HST4.out.sw b z
            · have := HST4.out.kw.size; omega⟩
          have hrv5 := RW4.out.keep hk5 hS5
          obtain ⟨hsmq, hlaw⟩ := do_law (a := (10 - (k + 1)) * 400000000 + 400000000) HI4.out (by omega) HBR.out (sm_mono HSM4.out (by omega)) hr
          have HST5 := Lib.hid hst5
          have RV5 := Lib.hid hrv5
          obtain ⟨A5, s5, c5, rfl, hraw5, hrok5, hs55, hap5⟩ := hrw5
          have RW5 := Lib.hid (show RwS S5 w5 (.slice A5 s5 c5) NOW from ⟨A5, s5, c5, rfl, hraw5, hrok5, hs55, hap5⟩)
          have HSMQ := Lib.hid hsmq
          have HLAW := Lib.hid hlaw
          clear hr hq5 hk5 hS5 hst5 hrv5 hsmq hlaw hraw5 hrok5 hs55 hap5 hc0 hc1 hc2
          dsimp only
          go_wp2_with fail
          refine (show Calls _ _ #[ptrV db, .int .i64 0] _ _ from crashin_q HST5.out.dq 0 (by omega)).mono ?_
          rintro e w6 ⟨rfl, h6⟩
          obtain ⟨S6, hst6, hk6, hS6⟩ := HST5.out.next h6
          have HST6 := Lib.hid hst6
          have RV6 := Lib.hid (RV5.out.keep hk6 hS6)
          have RW6 := Lib.hid (RW5.out.keep hk6 hS6)
          clear h6 hst6 hk6 hS6
          rcases HLAW.out with ⟨rfl, hI5⟩ | ⟨rfl, hdn, hag⟩
          · have HI6 := Lib.hid (atv_in hI5 0)
            have HSM6 : Hid ((q.crashIn 0).sm ((10 - (k + 1)) * 400000000 + 400000000)) := Lib.hid HSMQ.out
            clear hI5
            go_wp2_with fail
            refine (show Calls _ _ #[ptrV db] _ _ from down_q HST6.out.dq).mono ?_
            rintro e w6' ⟨rfl, rfl⟩
            rw [(atv_facts HI6.out).1]
            go_wp2_with fail
            obtain ⟨q6, hq6⟩ : ∃ q6, q.crashIn 0 = q6 := ⟨_, rfl⟩
            rw [hq6] at HST6 HI6 HSM6
            clear hq6
            have RX6 := RW6
            have HI7 := HI6
            have HST7 := HST6
            have HSM7 := HSM6

            refine (show Calls _ _ #[ptrV db] _ _ from wmark_q HST7.out.dq).mono ?_
            rintro e w8 ⟨rfl, hk8⟩
            obtain ⟨f1, f2, f3, f4, f5⟩ := atv_facts HI7.out
            rw [f3]
            have HF4' := Lib.hid f4
            have HF5' := Lib.hid f5
            have HST8 := Lib.hid (HST7.out.keep hk8)
            have HK8 := Lib.hid hk8
            clear f1 f2 f3 f4 f5 hk8
            dsimp only
            go_wp2_with fail
            refine (show Calls _ _ #[ptrV db, .int .i64 q6.wmark.1] _ _ from wtell_q HST8.out.dq q6.wmark.1).mono ?_
            rintro e w9 ⟨v, rfl, how, hk9⟩
            rw [HF4'.out] at how
            obtain ⟨A9, s9, c9, rfl, hraw9, hrok9, hs9, hap9⟩ := HST8.out.told hk9 how (by have := HF5'.out; omega)
            have HRAW9 := Lib.hid hraw9
            have HROK9 := Lib.hid hrok9
            have HS9 := Lib.hid hs9
            have HST9 := Lib.hid (HST8.out.keep hk9)
            have HK79 := Lib.hid (HK8.out.trans hk9 (fun _ _ q => q))
            clear how hraw9 hrok9 hs9 hap9 hk9
            go_wp2_with fail

            have RR9 := HRAW9.out
            have RB := (RW6.out.keepN HK79.out)
            refine (wsame_q w9 A9 A5 s9 s5 c9 c5 NOW NOW RR9 RB.at_.1 HROK9.out RB.at_.2.1 (by have := HS9.out; omega) (by have := RB.at_.2.2; omega)).mono ?_
            rintro e w10 ⟨rfl, hks⟩
            rw [decide_eq_true rfl]
            have HKS := Lib.hid hks
            clear hks RR9 RB
            go_wp2_with fail
            exact ⟨⟨k + 1, q6, NOW, by congr 1, by omega, (HST9.out.keep HKS.out).out, HI7.out, HSM7.out⟩, by simp [intOf]; omega⟩
          · have hdn6 : (q.crashIn 0).down = true := hdn
            have HAG := Lib.hid (hag 0)
            have HSM6 : Hid ((q.crashIn 0).sm ((10 - (k + 1)) * 400000000 + 400000000)) := Lib.hid HSMQ.out
            clear hag hdn
            go_wp2_with fail
            refine (show Calls _ _ #[ptrV db] _ _ from down_q HST6.out.dq).mono ?_
            rintro e w6' ⟨rfl, rfl⟩
            rw [hdn6]
            obtain ⟨q6, hq6⟩ : ∃ q6, q.crashIn 0 = q6 := ⟨_, rfl⟩
            rw [hq6] at HST6 hdn6 HAG HSM6
            clear hq6
            have hre : q6.restartE = 0 := by unfold Pl.restartE; rw [hdn6]; rfl
            by_cases hm0 : 0 < m
            · have hmm : (0 : Int) < (m : Int) := by omega
              have hmm0 : ((m : Int) == 0) = false := by simp; omega
              have hmm1 : ¬ (m : Int) = 0 := by omega
              obtain ⟨g2, o2, e, hg2, hc2⟩ := HL2.out.2 hm0
              subst e
              obtain ⟨t, ht⟩ : ∃ t, k % m = t := ⟨_, rfl⟩
              have htm : t < m := by rw [← ht]; exact Nat.mod_lt _ hm0
              have hmod : Int.tmod (k : Int) (m : Int) = (t : Int) := by rw [← ht]; rfl
              have hti : (t : Int) ≤ (m : Int) := by omega
              have ht0 : (0 : Int) ≤ (t : Int) := by omega
              have HTM := Lib.hid htm
              have hne : ¬ mcap = t := by omega
              have hne2 : ¬ (mcap : Int) = (t : Int) := by omega
              clear ht hc2 hmm1
              go_wp2_with fail
              refine (show Calls _ _ #[ptrV db, .slice (some ⟨g2, o2 + t, none⟩) (m - t) (mcap - t)] _ _ from restart_q HST6.out.dq (some ⟨g2, o2 + t, none⟩) (m - t) (mcap - t) (L.drop t) ((nums_drop HL2.out (Nat.le_of_lt HTM.out)).keep HST6.out.kw (fun _ _ _ q => q)) (fun g o e hp => by injection e with e; injection e with e1 e2; subst e1; exact ⟨Nat.lt_of_lt_of_le hg2 HST6.out.kw.size, fun q => by have := HST6.out.sw _ q; omega⟩) (fun y hy => HLR.out y (List.mem_of_mem_drop hy)) (by have := HM.out; omega) (sm_mono HSM6.out (by omega))).mono ?_
              rintro e w7 ⟨rfl, h7⟩
              rw [hre]
              obtain ⟨S7, hst7, hk7, hS7⟩ := HST6.out.next h7
              have HST7 := Lib.hid hst7
              have RV7 := Lib.hid (RV6.out.keep hk7 hS7)
              have RW7 := Lib.hid (RW6.out.keep hk7 hS7)
              have HSM7 := Lib.hid (sm_restart (L.drop t) HSM6.out)
              have HAG7 := Lib.hid (HAG.out (L.drop t))
              clear h7 hst7 hk7 hS7
              go_wp2_with fail
              obtain ⟨q7, hq7⟩ : ∃ q7, q6.restart (L.drop t) = q7 := ⟨_, rfl⟩
              rw [hq7] at HST7 HSM7 HAG7
              clear hq7
              rcases HAG7.out with hv | hv
              · have HI7 := Lib.hid hv
                clear hv
                refine (show Calls _ _ #[ptrV db] _ _ from wmark_q HST7.out.dq).mono ?_
                rintro e w8 ⟨rfl, hk8⟩
                obtain ⟨f1, f2, f3, f4, f5⟩ := atv_facts HI7.out
                rw [f3]
                have HF4' := Lib.hid f4
                have HF5' := Lib.hid f5
                have HST8 := Lib.hid (HST7.out.keep hk8)
                have HK8 := Lib.hid hk8
                clear f1 f2 f3 f4 f5 hk8
                dsimp only
                go_wp2_with fail
                refine (show Calls _ _ #[ptrV db, .int .i64 q7.wmark.1] _ _ from wtell_q HST8.out.dq q7.wmark.1).mono ?_
                rintro e w9 ⟨v, rfl, how, hk9⟩
                rw [HF4'.out] at how
                obtain ⟨A9, s9, c9, rfl, hraw9, hrok9, hs9, hap9⟩ := HST8.out.told hk9 how (by have := HF5'.out; omega)
                have HRAW9 := Lib.hid hraw9
                have HROK9 := Lib.hid hrok9
                have HS9 := Lib.hid hs9
                have HST9 := Lib.hid (HST8.out.keep hk9)
                have HK79 := Lib.hid (HK8.out.trans hk9 (fun _ _ q => q))
                clear how hraw9 hrok9 hs9 hap9 hk9
                go_wp2_with fail
                have RR9 := HRAW9.out
                have RB := (RV7.out.keepN HK79.out)
                refine (wsame_q w9 A9 A1 s9 s c9 c1 V V RR9 RB.at_.1 HROK9.out RB.at_.2.1 (by have := HS9.out; omega) (by have := RB.at_.2.2; omega)).mono ?_
                rintro e w10 ⟨rfl, hks⟩
                rw [decide_eq_true rfl]
                have HKS := Lib.hid hks
                clear hks RR9 RB
                go_wp2_with fail
                exact ⟨⟨k + 1, q7, V, by congr 1, by omega, (HST9.out.keep HKS.out).out, HI7.out, HSM7.out⟩, by simp [intOf]; omega⟩
              · have HI7 := Lib.hid hv
                clear hv
                refine (show Calls _ _ #[ptrV db] _ _ from wmark_q HST7.out.dq).mono ?_
                rintro e w8 ⟨rfl, hk8⟩
                obtain ⟨f1, f2, f3, f4, f5⟩ := atv_facts HI7.out
                rw [f3]
                have HF4' := Lib.hid f4
                have HF5' := Lib.hid f5
                have HST8 := Lib.hid (HST7.out.keep hk8)
                have HK8 := Lib.hid hk8
                clear f1 f2 f3 f4 f5 hk8
                dsimp only
                go_wp2_with fail
                refine (show Calls _ _ #[ptrV db, .int .i64 q7.wmark.1] _ _ from wtell_q HST8.out.dq q7.wmark.1).mono ?_
                rintro e w9 ⟨v, rfl, how, hk9⟩
                rw [HF4'.out] at how
                obtain ⟨A9, s9, c9, rfl, hraw9, hrok9, hs9, hap9⟩ := HST8.out.told hk9 how (by have := HF5'.out; omega)
                have HRAW9 := Lib.hid hraw9
                have HROK9 := Lib.hid hrok9
                have HS9 := Lib.hid hs9
                have HST9 := Lib.hid (HST8.out.keep hk9)
                have HK79 := Lib.hid (HK8.out.trans hk9 (fun _ _ q => q))
                clear how hraw9 hrok9 hs9 hap9 hk9
                go_wp2_with fail
                have RR9 := HRAW9.out
                have RB := (RV7.out.keepN HK79.out)
                refine (wsame_q w9 A9 A1 s9 s c9 c1 NOW V RR9 RB.at_.1 HROK9.out RB.at_.2.1 (by have := HS9.out; omega) (by have := RB.at_.2.2; omega)).mono ?_
                rintro e w10 ⟨rfl, hks⟩
                have HKS := Lib.hid hks
                clear hks RR9 RB
                by_cases hvn : NOW = V
                · rw [decide_eq_true hvn]
                  go_wp2_with fail
                  exact ⟨⟨k + 1, q7, NOW, by congr 1, by omega, (HST9.out.keep HKS.out).out, HI7.out, HSM7.out⟩, by simp [intOf]; omega⟩
                · rw [decide_eq_false hvn]
                  go_wp2_with fail
                  have RR9 := HRAW9.out.keep HKS.out
                  have RB := ((RW7.out.keepN HK79.out).keepN HKS.out)
                  refine (wsame_q w10 A9 A5 s9 s5 c9 c5 NOW NOW RR9 RB.at_.1 HROK9.out RB.at_.2.1 (by have := HS9.out; omega) (by have := RB.at_.2.2; omega)).mono ?_
                  rintro e w11 ⟨rfl, hkt⟩
                  rw [decide_eq_true rfl]
                  have HKT := Lib.hid hkt
                  clear hkt RR9 RB
                  go_wp2_with fail
                  exact ⟨⟨k + 1, q7, NOW, by congr 1, by omega, ((HST9.out.keep HKS.out).keep HKT.out).out, HI7.out, HSM7.out⟩, by simp [intOf]; omega⟩
            · have hmm : ¬ (0 : Int) < (m : Int) := by omega
              obtain rfl : m = 0 := by omega
              rcases B2 with _ | ⟨g2, o2, sp⟩
              · by_cases hne : mcap = 0
                · subst hne
                  go_wp2_with fail
                  refine (show Calls _ _ #[ptrV db, .slice _ 0 _] _ _ from restart_q HST6.out.dq _ 0 _ L (HL2.out.keep HST6.out.kw (fun _ _ _ q => q)) (fun g o e hp => absurd hp (Nat.lt_irrefl 0)) HLR.out (by have := HM.out; omega) (sm_mono HSM6.out (by omega))).mono ?_
                  rintro e w7 ⟨rfl, h7⟩
                  rw [hre]
                  obtain ⟨S7, hst7, hk7, hS7⟩ := HST6.out.next h7
                  have HST7 := Lib.hid hst7
                  have RV7 := Lib.hid (RV6.out.keep hk7 hS7)
                  have RW7 := Lib.hid (RW6.out.keep hk7 hS7)
                  have HSM7 := Lib.hid (sm_restart L HSM6.out)
                  have HAG7 := Lib.hid (HAG.out L)
                  clear h7 hst7 hk7 hS7
                  go_wp2_with fail
                  obtain ⟨q7, hq7⟩ : ∃ q7, q6.restart L = q7 := ⟨_, rfl⟩
                  rw [hq7] at HST7 HSM7 HAG7
                  clear hq7
                  rcases HAG7.out with hv | hv
                  · have HI7 := Lib.hid hv
                    clear hv
                    refine (show Calls _ _ #[ptrV db] _ _ from wmark_q HST7.out.dq).mono ?_
                    rintro e w8 ⟨rfl, hk8⟩
                    obtain ⟨f1, f2, f3, f4, f5⟩ := atv_facts HI7.out
                    rw [f3]
                    have HF4' := Lib.hid f4
                    have HF5' := Lib.hid f5
                    have HST8 := Lib.hid (HST7.out.keep hk8)
                    have HK8 := Lib.hid hk8
                    clear f1 f2 f3 f4 f5 hk8
                    dsimp only
                    go_wp2_with fail
                    refine (show Calls _ _ #[ptrV db, .int .i64 q7.wmark.1] _ _ from wtell_q HST8.out.dq q7.wmark.1).mono ?_
                    rintro e w9 ⟨v, rfl, how, hk9⟩
                    rw [HF4'.out] at how
                    obtain ⟨A9, s9, c9, rfl, hraw9, hrok9, hs9, hap9⟩ := HST8.out.told hk9 how (by have := HF5'.out; omega)
                    have HRAW9 := Lib.hid hraw9
                    have HROK9 := Lib.hid hrok9
                    have HS9 := Lib.hid hs9
                    have HST9 := Lib.hid (HST8.out.keep hk9)
                    have HK79 := Lib.hid (HK8.out.trans hk9 (fun _ _ q => q))
                    clear how hraw9 hrok9 hs9 hap9 hk9
                    go_wp2_with fail
                    have RR9 := HRAW9.out
                    have RB := (RV7.out.keepN HK79.out)
                    refine (wsame_q w9 A9 A1 s9 s c9 c1 V V RR9 RB.at_.1 HROK9.out RB.at_.2.1 (by have := HS9.out; omega) (by have := RB.at_.2.2; omega)).mono ?_
                    rintro e w10 ⟨rfl, hks⟩
                    rw [decide_eq_true rfl]
                    have HKS := Lib.hid hks
                    clear hks RR9 RB
                    go_wp2_with fail
                    exact ⟨⟨k + 1, q7, V, by congr 1, by omega, (HST9.out.keep HKS.out).out, HI7.out, HSM7.out⟩, by simp [intOf]; omega⟩
                  · have HI7 := Lib.hid hv
                    clear hv
                    refine (show Calls _ _ #[ptrV db] _ _ from wmark_q HST7.out.dq).mono ?_
                    rintro e w8 ⟨rfl, hk8⟩
                    obtain ⟨f1, f2, f3, f4, f5⟩ := atv_facts HI7.out
                    rw [f3]
                    have HF4' := Lib.hid f4
                    have HF5' := Lib.hid f5
                    have HST8 := Lib.hid (HST7.out.keep hk8)
                    have HK8 := Lib.hid hk8
                    clear f1 f2 f3 f4 f5 hk8
                    dsimp only
                    go_wp2_with fail
                    refine (show Calls _ _ #[ptrV db, .int .i64 q7.wmark.1] _ _ from wtell_q HST8.out.dq q7.wmark.1).mono ?_
                    rintro e w9 ⟨v, rfl, how, hk9⟩
                    rw [HF4'.out] at how
                    obtain ⟨A9, s9, c9, rfl, hraw9, hrok9, hs9, hap9⟩ := HST8.out.told hk9 how (by have := HF5'.out; omega)
                    have HRAW9 := Lib.hid hraw9
                    have HROK9 := Lib.hid hrok9
                    have HS9 := Lib.hid hs9
                    have HST9 := Lib.hid (HST8.out.keep hk9)
                    have HK79 := Lib.hid (HK8.out.trans hk9 (fun _ _ q => q))
                    clear how hraw9 hrok9 hs9 hap9 hk9
                    go_wp2_with fail
                    have RR9 := HRAW9.out
                    have RB := (RV7.out.keepN HK79.out)
                    refine (wsame_q w9 A9 A1 s9 s c9 c1 NOW V RR9 RB.at_.1 HROK9.out RB.at_.2.1 (by have := HS9.out; omega) (by have := RB.at_.2.2; omega)).mono ?_
                    rintro e w10 ⟨rfl, hks⟩
                    have HKS := Lib.hid hks
                    clear hks RR9 RB
                    by_cases hvn : NOW = V
                    · rw [decide_eq_true hvn]
                      go_wp2_with fail
                      exact ⟨⟨k + 1, q7, NOW, by congr 1, by omega, (HST9.out.keep HKS.out).out, HI7.out, HSM7.out⟩, by simp [intOf]; omega⟩
                    · rw [decide_eq_false hvn]
                      go_wp2_with fail
                      have RR9 := HRAW9.out.keep HKS.out
                      have RB := ((RW7.out.keepN HK79.out).keepN HKS.out)
                      refine (wsame_q w10 A9 A5 s9 s5 c9 c5 NOW NOW RR9 RB.at_.1 HROK9.out RB.at_.2.1 (by have := HS9.out; omega) (by have := RB.at_.2.2; omega)).mono ?_
                      rintro e w11 ⟨rfl, hkt⟩
                      rw [decide_eq_true rfl]
                      have HKT := Lib.hid hkt
                      clear hkt RR9 RB
                      go_wp2_with fail
                      exact ⟨⟨k + 1, q7, NOW, by congr 1, by omega, ((HST9.out.keep HKS.out).keep HKT.out).out, HI7.out, HSM7.out⟩, by simp [intOf]; omega⟩
                · have hne2 : ¬ (mcap : Int) = 0 := by omega
                  go_wp2_with fail
                  refine (show Calls _ _ #[ptrV db, .slice _ 0 _] _ _ from restart_q HST6.out.dq _ 0 _ L (HL2.out.keep HST6.out.kw (fun _ _ _ q => q)) (fun g o e hp => absurd hp (Nat.lt_irrefl 0)) HLR.out (by have := HM.out; omega) (sm_mono HSM6.out (by omega))).mono ?_
                  rintro e w7 ⟨rfl, h7⟩
                  rw [hre]
                  obtain ⟨S7, hst7, hk7, hS7⟩ := HST6.out.next h7
                  have HST7 := Lib.hid hst7
                  have RV7 := Lib.hid (RV6.out.keep hk7 hS7)
                  have RW7 := Lib.hid (RW6.out.keep hk7 hS7)
                  have HSM7 := Lib.hid (sm_restart L HSM6.out)
                  have HAG7 := Lib.hid (HAG.out L)
                  clear h7 hst7 hk7 hS7
                  go_wp2_with fail
                  obtain ⟨q7, hq7⟩ : ∃ q7, q6.restart L = q7 := ⟨_, rfl⟩
                  rw [hq7] at HST7 HSM7 HAG7
                  clear hq7
                  rcases HAG7.out with hv | hv
                  · have HI7 := Lib.hid hv
                    clear hv
                    refine (show Calls _ _ #[ptrV db] _ _ from wmark_q HST7.out.dq).mono ?_
                    rintro e w8 ⟨rfl, hk8⟩
                    obtain ⟨f1, f2, f3, f4, f5⟩ := atv_facts HI7.out
                    rw [f3]
                    have HF4' := Lib.hid f4
                    have HF5' := Lib.hid f5
                    have HST8 := Lib.hid (HST7.out.keep hk8)
                    have HK8 := Lib.hid hk8
                    clear f1 f2 f3 f4 f5 hk8
                    dsimp only
                    go_wp2_with fail
                    refine (show Calls _ _ #[ptrV db, .int .i64 q7.wmark.1] _ _ from wtell_q HST8.out.dq q7.wmark.1).mono ?_
                    rintro e w9 ⟨v, rfl, how, hk9⟩
                    rw [HF4'.out] at how
                    obtain ⟨A9, s9, c9, rfl, hraw9, hrok9, hs9, hap9⟩ := HST8.out.told hk9 how (by have := HF5'.out; omega)
                    have HRAW9 := Lib.hid hraw9
                    have HROK9 := Lib.hid hrok9
                    have HS9 := Lib.hid hs9
                    have HST9 := Lib.hid (HST8.out.keep hk9)
                    have HK79 := Lib.hid (HK8.out.trans hk9 (fun _ _ q => q))
                    clear how hraw9 hrok9 hs9 hap9 hk9
                    go_wp2_with fail
                    have RR9 := HRAW9.out
                    have RB := (RV7.out.keepN HK79.out)
                    refine (wsame_q w9 A9 A1 s9 s c9 c1 V V RR9 RB.at_.1 HROK9.out RB.at_.2.1 (by have := HS9.out; omega) (by have := RB.at_.2.2; omega)).mono ?_
                    rintro e w10 ⟨rfl, hks⟩
                    rw [decide_eq_true rfl]
                    have HKS := Lib.hid hks
                    clear hks RR9 RB
                    go_wp2_with fail
                    exact ⟨⟨k + 1, q7, V, by congr 1, by omega, (HST9.out.keep HKS.out).out, HI7.out, HSM7.out⟩, by simp [intOf]; omega⟩
                  · have HI7 := Lib.hid hv
                    clear hv
                    refine (show Calls _ _ #[ptrV db] _ _ from wmark_q HST7.out.dq).mono ?_
                    rintro e w8 ⟨rfl, hk8⟩
                    obtain ⟨f1, f2, f3, f4, f5⟩ := atv_facts HI7.out
                    rw [f3]
                    have HF4' := Lib.hid f4
                    have HF5' := Lib.hid f5
                    have HST8 := Lib.hid (HST7.out.keep hk8)
                    have HK8 := Lib.hid hk8
                    clear f1 f2 f3 f4 f5 hk8
                    dsimp only
                    go_wp2_with fail
                    refine (show Calls _ _ #[ptrV db, .int .i64 q7.wmark.1] _ _ from wtell_q HST8.out.dq q7.wmark.1).mono ?_
                    rintro e w9 ⟨v, rfl, how, hk9⟩
                    rw [HF4'.out] at how
                    obtain ⟨A9, s9, c9, rfl, hraw9, hrok9, hs9, hap9⟩ := HST8.out.told hk9 how (by have := HF5'.out; omega)
                    have HRAW9 := Lib.hid hraw9
                    have HROK9 := Lib.hid hrok9
                    have HS9 := Lib.hid hs9
                    have HST9 := Lib.hid (HST8.out.keep hk9)
                    have HK79 := Lib.hid (HK8.out.trans hk9 (fun _ _ q => q))
                    clear how hraw9 hrok9 hs9 hap9 hk9
                    go_wp2_with fail
                    have RR9 := HRAW9.out
                    have RB := (RV7.out.keepN HK79.out)
                    refine (wsame_q w9 A9 A1 s9 s c9 c1 NOW V RR9 RB.at_.1 HROK9.out RB.at_.2.1 (by have := HS9.out; omega) (by have := RB.at_.2.2; omega)).mono ?_
                    rintro e w10 ⟨rfl, hks⟩
                    have HKS := Lib.hid hks
                    clear hks RR9 RB
                    by_cases hvn : NOW = V
                    · rw [decide_eq_true hvn]
                      go_wp2_with fail
                      exact ⟨⟨k + 1, q7, NOW, by congr 1, by omega, (HST9.out.keep HKS.out).out, HI7.out, HSM7.out⟩, by simp [intOf]; omega⟩
                    · rw [decide_eq_false hvn]
                      go_wp2_with fail
                      have RR9 := HRAW9.out.keep HKS.out
                      have RB := ((RW7.out.keepN HK79.out).keepN HKS.out)
                      refine (wsame_q w10 A9 A5 s9 s5 c9 c5 NOW NOW RR9 RB.at_.1 HROK9.out RB.at_.2.1 (by have := HS9.out; omega) (by have := RB.at_.2.2; omega)).mono ?_
                      rintro e w11 ⟨rfl, hkt⟩
                      rw [decide_eq_true rfl]
                      have HKT := Lib.hid hkt
                      clear hkt RR9 RB
                      go_wp2_with fail
                      exact ⟨⟨k + 1, q7, NOW, by congr 1, by omega, ((HST9.out.keep HKS.out).keep HKT.out).out, HI7.out, HSM7.out⟩, by simp [intOf]; omega⟩
              · by_cases hne : mcap = 0
                · subst hne
                  go_wp2_with fail
                  refine (show Calls _ _ #[ptrV db, .slice _ 0 _] _ _ from restart_q HST6.out.dq _ 0 _ L (HL2.out.keep HST6.out.kw (fun _ _ _ q => q)) (fun g o e hp => absurd hp (Nat.lt_irrefl 0)) HLR.out (by have := HM.out; omega) (sm_mono HSM6.out (by omega))).mono ?_
                  rintro e w7 ⟨rfl, h7⟩
                  rw [hre]
                  obtain ⟨S7, hst7, hk7, hS7⟩ := HST6.out.next h7
                  have HST7 := Lib.hid hst7
                  have RV7 := Lib.hid (RV6.out.keep hk7 hS7)
                  have RW7 := Lib.hid (RW6.out.keep hk7 hS7)
                  have HSM7 := Lib.hid (sm_restart L HSM6.out)
                  have HAG7 := Lib.hid (HAG.out L)
                  clear h7 hst7 hk7 hS7
                  go_wp2_with fail
                  obtain ⟨q7, hq7⟩ : ∃ q7, q6.restart L = q7 := ⟨_, rfl⟩
                  rw [hq7] at HST7 HSM7 HAG7
                  clear hq7
                  rcases HAG7.out with hv | hv
                  · have HI7 := Lib.hid hv
                    clear hv
                    refine (show Calls _ _ #[ptrV db] _ _ from wmark_q HST7.out.dq).mono ?_
                    rintro e w8 ⟨rfl, hk8⟩
                    obtain ⟨f1, f2, f3, f4, f5⟩ := atv_facts HI7.out
                    rw [f3]
                    have HF4' := Lib.hid f4
                    have HF5' := Lib.hid f5
                    have HST8 := Lib.hid (HST7.out.keep hk8)
                    have HK8 := Lib.hid hk8
                    clear f1 f2 f3 f4 f5 hk8
                    dsimp only
                    go_wp2_with fail
                    refine (show Calls _ _ #[ptrV db, .int .i64 q7.wmark.1] _ _ from wtell_q HST8.out.dq q7.wmark.1).mono ?_
                    rintro e w9 ⟨v, rfl, how, hk9⟩
                    rw [HF4'.out] at how
                    obtain ⟨A9, s9, c9, rfl, hraw9, hrok9, hs9, hap9⟩ := HST8.out.told hk9 how (by have := HF5'.out; omega)
                    have HRAW9 := Lib.hid hraw9
                    have HROK9 := Lib.hid hrok9
                    have HS9 := Lib.hid hs9
                    have HST9 := Lib.hid (HST8.out.keep hk9)
                    have HK79 := Lib.hid (HK8.out.trans hk9 (fun _ _ q => q))
                    clear how hraw9 hrok9 hs9 hap9 hk9
                    go_wp2_with fail
                    have RR9 := HRAW9.out
                    have RB := (RV7.out.keepN HK79.out)
                    refine (wsame_q w9 A9 A1 s9 s c9 c1 V V RR9 RB.at_.1 HROK9.out RB.at_.2.1 (by have := HS9.out; omega) (by have := RB.at_.2.2; omega)).mono ?_
                    rintro e w10 ⟨rfl, hks⟩
                    rw [decide_eq_true rfl]
                    have HKS := Lib.hid hks
                    clear hks RR9 RB
                    go_wp2_with fail
                    exact ⟨⟨k + 1, q7, V, by congr 1, by omega, (HST9.out.keep HKS.out).out, HI7.out, HSM7.out⟩, by simp [intOf]; omega⟩
                  · have HI7 := Lib.hid hv
                    clear hv
                    refine (show Calls _ _ #[ptrV db] _ _ from wmark_q HST7.out.dq).mono ?_
                    rintro e w8 ⟨rfl, hk8⟩
                    obtain ⟨f1, f2, f3, f4, f5⟩ := atv_facts HI7.out
                    rw [f3]
                    have HF4' := Lib.hid f4
                    have HF5' := Lib.hid f5
                    have HST8 := Lib.hid (HST7.out.keep hk8)
                    have HK8 := Lib.hid hk8
                    clear f1 f2 f3 f4 f5 hk8
                    dsimp only
                    go_wp2_with fail
                    refine (show Calls _ _ #[ptrV db, .int .i64 q7.wmark.1] _ _ from wtell_q HST8.out.dq q7.wmark.1).mono ?_
                    rintro e w9 ⟨v, rfl, how, hk9⟩
                    rw [HF4'.out] at how
                    obtain ⟨A9, s9, c9, rfl, hraw9, hrok9, hs9, hap9⟩ := HST8.out.told hk9 how (by have := HF5'.out; omega)
                    have HRAW9 := Lib.hid hraw9
                    have HROK9 := Lib.hid hrok9
                    have HS9 := Lib.hid hs9
                    have HST9 := Lib.hid (HST8.out.keep hk9)
                    have HK79 := Lib.hid (HK8.out.trans hk9 (fun _ _ q => q))
                    clear how hraw9 hrok9 hs9 hap9 hk9
                    go_wp2_with fail
                    have RR9 := HRAW9.out
                    have RB := (RV7.out.keepN HK79.out)
                    refine (wsame_q w9 A9 A1 s9 s c9 c1 NOW V RR9 RB.at_.1 HROK9.out RB.at_.2.1 (by have := HS9.out; omega) (by have := RB.at_.2.2; omega)).mono ?_
                    rintro e w10 ⟨rfl, hks⟩
                    have HKS := Lib.hid hks
                    clear hks RR9 RB
                    by_cases hvn : NOW = V
                    · rw [decide_eq_true hvn]
                      go_wp2_with fail
                      exact ⟨⟨k + 1, q7, NOW, by congr 1, by omega, (HST9.out.keep HKS.out).out, HI7.out, HSM7.out⟩, by simp [intOf]; omega⟩
                    · rw [decide_eq_false hvn]
                      go_wp2_with fail
                      have RR9 := HRAW9.out.keep HKS.out
                      have RB := ((RW7.out.keepN HK79.out).keepN HKS.out)
                      refine (wsame_q w10 A9 A5 s9 s5 c9 c5 NOW NOW RR9 RB.at_.1 HROK9.out RB.at_.2.1 (by have := HS9.out; omega) (by have := RB.at_.2.2; omega)).mono ?_
                      rintro e w11 ⟨rfl, hkt⟩
                      rw [decide_eq_true rfl]
                      have HKT := Lib.hid hkt
                      clear hkt RR9 RB
                      go_wp2_with fail
                      exact ⟨⟨k + 1, q7, NOW, by congr 1, by omega, ((HST9.out.keep HKS.out).keep HKT.out).out, HI7.out, HSM7.out⟩, by simp [intOf]; omega⟩
                · have hne2 : ¬ (mcap : Int) = 0 := by omega
                  go_wp2_with fail
                  refine (show Calls _ _ #[ptrV db, .slice _ 0 _] _ _ from restart_q HST6.out.dq _ 0 _ L (HL2.out.keep HST6.out.kw (fun _ _ _ q => q)) (fun g o e hp => absurd hp (Nat.lt_irrefl 0)) HLR.out (by have := HM.out; omega) (sm_mono HSM6.out (by omega))).mono ?_
                  rintro e w7 ⟨rfl, h7⟩
                  rw [hre]
                  obtain ⟨S7, hst7, hk7, hS7⟩ := HST6.out.next h7
                  have HST7 := Lib.hid hst7
                  have RV7 := Lib.hid (RV6.out.keep hk7 hS7)
                  have RW7 := Lib.hid (RW6.out.keep hk7 hS7)
                  have HSM7 := Lib.hid (sm_restart L HSM6.out)
                  have HAG7 := Lib.hid (HAG.out L)
                  clear h7 hst7 hk7 hS7
                  go_wp2_with fail
                  obtain ⟨q7, hq7⟩ : ∃ q7, q6.restart L = q7 := ⟨_, rfl⟩
                  rw [hq7] at HST7 HSM7 HAG7
                  clear hq7
                  rcases HAG7.out with hv | hv
                  · have HI7 := Lib.hid hv
                    clear hv
                    refine (show Calls _ _ #[ptrV db] _ _ from wmark_q HST7.out.dq).mono ?_
                    rintro e w8 ⟨rfl, hk8⟩
                    obtain ⟨f1, f2, f3, f4, f5⟩ := atv_facts HI7.out
                    rw [f3]
                    have HF4' := Lib.hid f4
                    have HF5' := Lib.hid f5
                    have HST8 := Lib.hid (HST7.out.keep hk8)
                    have HK8 := Lib.hid hk8
                    clear f1 f2 f3 f4 f5 hk8
                    dsimp only
                    go_wp2_with fail
                    refine (show Calls _ _ #[ptrV db, .int .i64 q7.wmark.1] _ _ from wtell_q HST8.out.dq q7.wmark.1).mono ?_
                    rintro e w9 ⟨v, rfl, how, hk9⟩
                    rw [HF4'.out] at how
                    obtain ⟨A9, s9, c9, rfl, hraw9, hrok9, hs9, hap9⟩ := HST8.out.told hk9 how (by have := HF5'.out; omega)
                    have HRAW9 := Lib.hid hraw9
                    have HROK9 := Lib.hid hrok9
                    have HS9 := Lib.hid hs9
                    have HST9 := Lib.hid (HST8.out.keep hk9)
                    have HK79 := Lib.hid (HK8.out.trans hk9 (fun _ _ q => q))
                    clear how hraw9 hrok9 hs9 hap9 hk9
                    go_wp2_with fail
                    have RR9 := HRAW9.out
                    have RB := (RV7.out.keepN HK79.out)
                    refine (wsame_q w9 A9 A1 s9 s c9 c1 V V RR9 RB.at_.1 HROK9.out RB.at_.2.1 (by have := HS9.out; omega) (by have := RB.at_.2.2; omega)).mono ?_
                    rintro e w10 ⟨rfl, hks⟩
                    rw [decide_eq_true rfl]
                    have HKS := Lib.hid hks
                    clear hks RR9 RB
                    go_wp2_with fail
                    exact ⟨⟨k + 1, q7, V, by congr 1, by omega, (HST9.out.keep HKS.out).out, HI7.out, HSM7.out⟩, by simp [intOf]; omega⟩
                  · have HI7 := Lib.hid hv
                    clear hv
                    refine (show Calls _ _ #[ptrV db] _ _ from wmark_q HST7.out.dq).mono ?_
                    rintro e w8 ⟨rfl, hk8⟩
                    obtain ⟨f1, f2, f3, f4, f5⟩ := atv_facts HI7.out
                    rw [f3]
                    have HF4' := Lib.hid f4
                    have HF5' := Lib.hid f5
                    have HST8 := Lib.hid (HST7.out.keep hk8)
                    have HK8 := Lib.hid hk8
                    clear f1 f2 f3 f4 f5 hk8
                    dsimp only
                    go_wp2_with fail
                    refine (show Calls _ _ #[ptrV db, .int .i64 q7.wmark.1] _ _ from wtell_q HST8.out.dq q7.wmark.1).mono ?_
                    rintro e w9 ⟨v, rfl, how, hk9⟩
                    rw [HF4'.out] at how
                    obtain ⟨A9, s9, c9, rfl, hraw9, hrok9, hs9, hap9⟩ := HST8.out.told hk9 how (by have := HF5'.out; omega)
                    have HRAW9 := Lib.hid hraw9
                    have HROK9 := Lib.hid hrok9
                    have HS9 := Lib.hid hs9
                    have HST9 := Lib.hid (HST8.out.keep hk9)
                    have HK79 := Lib.hid (HK8.out.trans hk9 (fun _ _ q => q))
                    clear how hraw9 hrok9 hs9 hap9 hk9
                    go_wp2_with fail
                    have RR9 := HRAW9.out
                    have RB := (RV7.out.keepN HK79.out)
                    refine (wsame_q w9 A9 A1 s9 s c9 c1 NOW V RR9 RB.at_.1 HROK9.out RB.at_.2.1 (by have := HS9.out; omega) (by have := RB.at_.2.2; omega)).mono ?_
                    rintro e w10 ⟨rfl, hks⟩
                    have HKS := Lib.hid hks
                    clear hks RR9 RB
                    by_cases hvn : NOW = V
                    · rw [decide_eq_true hvn]
                      go_wp2_with fail
                      exact ⟨⟨k + 1, q7, NOW, by congr 1, by omega, (HST9.out.keep HKS.out).out, HI7.out, HSM7.out⟩, by simp [intOf]; omega⟩
                    · rw [decide_eq_false hvn]
                      go_wp2_with fail
                      have RR9 := HRAW9.out.keep HKS.out
                      have RB := ((RW7.out.keepN HK79.out).keepN HKS.out)
                      refine (wsame_q w10 A9 A5 s9 s5 c9 c5 NOW NOW RR9 RB.at_.1 HROK9.out RB.at_.2.1 (by have := HS9.out; omega) (by have := RB.at_.2.2; omega)).mono ?_
                      rintro e w11 ⟨rfl, hkt⟩
                      rw [decide_eq_true rfl]
                      have HKT := Lib.hid hkt
                      clear hkt RR9 RB
                      go_wp2_with fail
                      exact ⟨⟨k + 1, q7, NOW, by congr 1, by omega, ((HST9.out.keep HKS.out).keep HKT.out).out, HI7.out, HSM7.out⟩, by simp [intOf]; omega⟩
      · have hkk : ¬ (k : Int) < (n : Int) := by omega
        go_wp2_with (go_at_call 36; go_must (refine (wawake_ok _).mono ?_); rintro e w8 ⟨rfl, hk8⟩; have HK8 := Lib.hid hk8; clear hk8)
        go_ret
        exact ⟨rfl, HST.out.kw.trans HK8.out (fun _ _ q => q)⟩
end Go.Proofs.Ytegcbdfilkecpaa
/- How an argument that is a slice of structs is read; no condition. -/
namespace Go.Proofs.Ytegcbdfilkecpaa
open Go.ChangeShapes Go.WideShapes Go.Deep
section
variable {H : Type} {enc : TypeId × Value → H} {P : Program} {w : World} {base : Nat} {spare : Nat → Bool} {held : Bool}
theorem open_slice_fields {t e : TypeId} {fs : Array Field} {fuel : Nat} {cs : List Value} {x : DataW H × List MemPlace} (ht : P.underlying t = some (.slice e)) (he : P.underlying e = some (.struct fs))
    (hone : oneCellFields P fs = true) (hC : P.cellsOf e = fs.size) (h : DataW.trod enc P w base spare held fuel t cs = some x) :
    (cs = [.slice none 0 0] ∧ x = (.nil, [])) ∨
    ∃ (a : Addr) (len cap m : Nat) (D : Nat → DataW H) (Pl : Nat → List MemPlace), cs = [.slice (some a) len cap] ∧ base ≤ a.block ∧ len ≤ cap ∧ cap ≤ maxLen ∧ m = (if spare a.block then cap else len) ∧
      x = (.slice ((List.range len).map D) ((List.range (m - len)).map fun j => D (len + j)), MemPlace.row a (m * fs.size) ++ (List.range m).flatMap Pl) ∧
      ∀ i, i < m → ∃ (ys : List (DataW H × List MemPlace)) (n : Nat), D i = .agg (ys.map (·.1)) ∧ Pl i = ys.flatMap (·.2) ∧ ys.length = fs.size ∧
        ∀ (j : Nat) (f : Field), fs[j]? = some f → ∃ (v : Value) (y : DataW H × List MemPlace), w.cell? (a.add (i * fs.size + j)) = some v ∧ ys[j]? = some y ∧ DataW.trod enc P w base spare held n f.type [v] = some y := by
  rcases open_slice ht h with h0 | ⟨a, len, cap, m, n, D, Pl, hcs, hb, hl, hm, hmm, hx, hi⟩
  · exact .inl h0
  · refine .inr ⟨a, len, cap, m, D, Pl, hcs, hb, hl, hm, hmm, by rw [hC] at hx; exact hx, fun i him => ?_⟩
    obtain ⟨cs', hc, ht'⟩ := hi i him
    rw [hC] at hc
    obtain ⟨ys, n', hn', hy, hlen, hyl, hf⟩ := DataW.trod_struct he ht'
    obtain ⟨_, hcl, hat⟩ := World.cells?_some hc
    simp only [Prod.mk.injEq] at hy
    refine ⟨ys, n', hy.1, hy.2, hyl, fun j f hj => ?_⟩
    obtain ⟨ho, hk⟩ := hone_of hone j f hj
    have hjl : j < fs.size := (Array.getElem?_eq_some_iff.1 hj).1
    have hcell := hat j hjl
    have hv : cs'[j]? = some (cs'[j]'(by omega)) := List.getElem?_eq_getElem (by omega)
    have h1 := hf j f hj
    rw [ho, hk] at h1
    have hone' : (cs'.drop j).take 1 = [cs'[j]'(by omega)] := by
      rw [List.drop_eq_getElem_cons (by omega)]
      rfl
    rw [hone'] at h1
    have hys : ys[j]? = some (ys[j]'(by omega)) := List.getElem?_eq_getElem (by omega)
    refine ⟨_, _, ?_, hys, h1.trans hys⟩
    rw [← Go.Deep.add_add, hcell, hv]
end
end Go.Proofs.Ytegcbdfilkecpaa
/- How arguments that come in are read: numbers, texts, lists of texts, arrays of bytes; no condition. -/
namespace Go.Proofs.Ytegcbdfilkecpaa
open Go.ChangeShapes Go.WideShapes Go.ChangeAt Go.RowKit

section
variable {H : Type} {enc : TypeId × Value → H} {P : Program} {W : World} {spare : Nat → Bool} {held : Bool} {t e : TypeId} {d : DataW H} {p : List MemPlace}
theorem wf_u8 {n : Int} (h : (Lit.int .u8 n).wf = true) : 0 ≤ n ∧ n ≤ 255 := (Lit.wf_int_iff .u8 n).1 h
theorem wf_i64 {n : Int} (h : (Lit.int .i64 n).wf = true) : -9223372036854775808 ≤ n ∧ n ≤ 9223372036854775807 := (Lit.wf_int_iff .i64 n).1 h
theorem trod_lt' {v : Value} (h : DataW.Trod enc P W 0 spare held t v d p) : ∀ x ∈ p, x.block < W.heap.size := by obtain ⟨m, hm⟩ := h; exact DataW.trod_lt m _ _ _ hm
end
end Go.Proofs.Ytegcbdfilkecpaa
/- How a list of changes that comes in is read; no condition. -/
namespace Go.Proofs.Ytegcbdfilkecpaa
open Go.ChangeShapes Go.WideShapes Go.ChangeAt Go.RowKit Go.Deep

theorem u8_cellW : Try.prog.cellsOf 5 = 1 := by kernel_rfl
theorem open_chsW {H : Type} {enc : TypeId × Value → H} {W : World} {spare : Nat → Bool} {held : Bool} {a0 : Option Addr} {len0 cap0 : Nat} {d0 : DataW H} {p0 : List MemPlace}
    (h0 : DataW.Trod enc Try.prog W 0 spare held 77 (.slice a0 len0 cap0) d0 p0) : ChsW W a0 len0 := by
  obtain ⟨fuel, hf⟩ := h0
  rcases open_slice_fields Try.underlying77 Try.underlying81 (by kernel_rfl) (by kernel_rfl) hf with ⟨hcs, _⟩ | ⟨x, l, c, m, D, Pl, hcs, _, hl, hm, hmm, hx, hi⟩
  · simp [Value.cells] at hcs
    obtain ⟨rfl, rfl, rfl⟩ := hcs
    exact fun k hk => absurd hk (by omega)
  · simp [Value.cells] at hcs
    obtain ⟨rfl, rfl, rfl⟩ := hcs
    have hlm : len0 ≤ m := by rw [hmm]; split <;> omega
    intro k hk
    obtain ⟨ys, nn, _, _, _, hf4⟩ := hi k (by omega)
    obtain ⟨v0, y0, c0, _, t0⟩ := hf4 0 _ rfl
    obtain ⟨v1, y1, c1, _, t1⟩ := hf4 1 _ rfl
    obtain ⟨v2, y2, cc2, _, t2⟩ := hf4 2 _ rfl
    obtain ⟨b0, eb0, _⟩ := DataW.trod_bool Try.underlying4 t0
    simp only [List.cons.injEq, and_true] at eb0
    subst eb0
    obtain ⟨n0, e0, _, _⟩ := DataW.trod_int Try.underlying3 t1
    simp only [List.cons.injEq, and_true] at e0
    subst e0
    obtain ⟨sb, so, sp⟩ := x
    have hspot : sp = none := by
      obtain ⟨ys', nn', _, _, _, hf4'⟩ := hi 0 (by omega)
      obtain ⟨v0', y0', c0', _, t0'⟩ := hf4' 0 _ rfl
      simpa [Addr.add] using World.cell?_spot c0'
    subst hspot
    rw [add_mk] at c0 c1 cc2
    rcases open_slice Try.underlying42 t2 with ⟨hcs, _⟩ | ⟨x2, l2, c2, m2, nn2, D2, Pl2, hcs, _, hl2, hm2, hmm2, hx2, hi2⟩
    · simp only [List.cons.injEq, and_true] at hcs
      subst hcs
      exact ⟨sb, so, b0, n0, none, 0, 0, [], rfl, block_lt_of_cell c0, c0, c1, cc2, ⟨rfl, by simp, fun k y h => by cases h⟩, by omega⟩
    · simp only [List.cons.injEq, and_true] at hcs
      subst hcs
      have hlm2 : l2 ≤ m2 := by rw [hmm2]; split <;> omega
      have hcells : ∀ j, j < l2 → ∃ y : Int, W.cell? (x2.add j) = some (.int .u8 y) ∧ 0 ≤ y ∧ y < 256 := by
        intro j hj
        obtain ⟨cs', hc, ht'⟩ := hi2 j (by omega)
        rw [u8_cellW, Nat.mul_one] at hc
        obtain ⟨b9, e0, _, wf⟩ := DataW.trod_int Try.underlying5 ht'
        subst e0
        obtain ⟨_, hcl, hat⟩ := World.cells?_some hc
        have := hat 0 (by omega)
        rw [show (x2.add j).add 0 = x2.add j from rfl] at this
        exact ⟨b9, this, by have := wf_u8 wf; omega⟩
      have hL : ∃ L : List Int, L.length = l2 ∧ ∀ j (h : j < L.length), W.cell? (x2.add j) = some (.int .u8 L[j]) ∧ 0 ≤ L[j] ∧ L[j] < 256 := by
        refine ⟨(List.range l2).pmap (fun j hj => Classical.choose (hcells j hj)) (fun j hj => by simpa using hj), by simp, ?_⟩
        intro j hj
        have hj' : j < l2 := by simpa using hj
        have := Classical.choose_spec (hcells j hj')
        simpa using this
      obtain ⟨L, hLl, hLc⟩ := hL
      refine ⟨sb, so, b0, n0, some x2, l2, c2, L, rfl, block_lt_of_cell c0, c0, c1, cc2, ⟨hLl, fun y hy => ?_, fun j y hy => ?_⟩, by unfold maxLen at hm2; omega⟩
      · obtain ⟨j, hj, rfl⟩ := List.getElem_of_mem hy
        exact (hLc j hj).2
      · obtain ⟨hj, rfl⟩ := List.getElem?_eq_some_iff.1 hy
        have hc := (hLc j hj).1
        have hc0 := (hLc 0 (by omega)).1
        obtain ⟨tb, tn, tp⟩ := x2
        have hspot : tp = none := by
          simpa [Addr.add] using World.cell?_spot hc0
        subst hspot
        rw [add_mk] at hc
        exact ⟨tb, tn, rfl, block_lt_of_cell hc, hc⟩
theorem open_numsC {H : Type} {enc : TypeId × Value → H} {W : World} {spare : Nat → Bool} {held : Bool} {a0 : Option Addr} {len0 cap0 : Nat} {d0 : DataW H} {p0 : List MemPlace}
    (h0 : DataW.Trod enc Try.prog W 0 spare held 58 (.slice a0 len0 cap0) d0 p0) : len0 ≤ cap0 ∧ cap0 ≤ 9223372036854775807 := by
  obtain ⟨fuel, hf⟩ := h0
  rcases open_slice Try.underlying58 hf with ⟨hcs, _⟩ | ⟨x, l, c, m, nn, D, Pl, hcs, _, hl, hm, hmm, hx, hi⟩
  · simp [Value.cells] at hcs
    obtain ⟨rfl, rfl, rfl⟩ := hcs
    exact ⟨Nat.le_refl _, by omega⟩
  · simp [Value.cells] at hcs
    obtain ⟨rfl, rfl, rfl⟩ := hcs
    exact ⟨hl, by unfold maxLen at hm; omega⟩
end Go.Proofs.Ytegcbdfilkecpaa
/- DiskSteps in plain Lean: writes to one file; no condition. -/
namespace Go.Proofs.Ytegcbdfilkecpaa
open Go

/-- the disk's state behind i writes, a crash told at c -/
structure StI (c : Int) (i : Nat) (p : Pl) : Prop where
  down : p.down = decide (1 ≤ c ∧ c ≤ i)
  crash : p.crash = if 1 ≤ c ∧ (i : Int) < c then c - i else 0
  room : p.room = 200000
  len : (p.seen nmF).length ≤ 6095
  sum : p.sum = (p.seen nmF).length
  kept : p.kept nmF = [] ∧ p.ksum = 0
  nf : p.nf ≤ 2 * i
  pd : p.pd.length ≤ 200 * i
theorem put_len2 (l d : List Int) (a : Nat) (h : a + d.length ≤ l.length) : (Pl.put l a d).length = l.length := by unfold Pl.put; simp; omega
theorem length_props (p : Pl) (s : ByteArray) (n : Nat) :
    (p.length s n).seen = upd p.seen s (sizedF (p.seen s) n) ∧ (p.length s n).kept = p.kept ∧ (p.length s n).sum = p.sum - (p.seen s).length + n ∧ (p.length s n).ksum = p.ksum ∧ (p.length s n).nf = p.nf + 1 ∧ (p.length s n).pd.length ≤ p.pd.length + 1 ∧
    (p.length s n).room = p.room ∧ (p.length s n).steps = p.steps ∧ (p.length s n).crash = p.crash ∧ (p.length s n).down = p.down ∧ (p.length s n).starts = p.starts := by
  unfold Pl.length
  split
  · rename_i h
    subst h
    refine ⟨by rw [sizedF_self, upd_self]; rfl, rfl, by simp only [Pl.at_]; omega, rfl, rfl, by simp [Pl.at_], rfl, rfl, rfl, rfl, rfl⟩
  · refine ⟨rfl, rfl, ?_, rfl, rfl, by simp [Pl.pend, Pl.setSeen, Pl.at_], rfl, rfl, rfl, rfl, rfl⟩
    simp only [Pl.pend, Pl.setSeen, Pl.at_, sizedF_len]
theorem sectors_lenD (s : ByteArray) (l : List Int) (a e : Nat) : (Pl.sectors s l a e).length = (e + 63) / 64 - a / 64 := by unfold Pl.sectors; simp
/-- a file behind a write -/
def wrote (l : List Int) (a : Nat) (d : List Int) : List Int := Pl.put (if l.length < a + d.length then sizedF l (a + d.length) else l) a d
theorem wrote_len (l : List Int) (a : Nat) (d : List Int) : (wrote l a d).length = max l.length (a + d.length) := by
  unfold wrote
  split
  · rw [put_len2 _ _ _ (by rw [sizedF_len]; omega), sizedF_len]; omega
  · rw [put_len2 _ _ _ (by omega)]; omega
theorem write1_props (p : Pl) (s : ByteArray) (a : Nat) (d : List Int) :
    (p.write1 s a d).seen = upd p.seen s (wrote (p.seen s) a d) ∧ (p.write1 s a d).kept = p.kept ∧ (p.write1 s a d).sum = p.sum - (p.seen s).length + (max (p.seen s).length (a + d.length) : Nat) ∧ (p.write1 s a d).ksum = p.ksum ∧ (p.write1 s a d).nf ≤ p.nf + 2 ∧
    (p.write1 s a d).pd.length ≤ p.pd.length + 2 + (a + d.length + 63) / 64 ∧ (p.write1 s a d).room = p.room ∧ (p.write1 s a d).steps = p.step.steps ∧ (p.write1 s a d).crash = p.step.crash ∧ (p.write1 s a d).down = p.step.down ∧ (p.write1 s a d).starts = p.starts := by
  by_cases h : (p.seen s).length < a + d.length
  · obtain ⟨h1, h2, h3, h4, h5, h6, h7, h8, h9, h10, h11⟩ := length_props p s (a + d.length)
    have hs : (p.length s (a + d.length)).seen s = sizedF (p.seen s) (a + d.length) := by rw [h1, upd_same]
    have hw : Pl.put (sizedF (p.seen s) (a + d.length)) a d = wrote (p.seen s) a d := by unfold wrote; rw [if_pos h]
    have hl := wrote_len (p.seen s) a d
    refine ⟨?_, ?_, ?_, ?_, ?_, ?_, ?_, ?_, ?_, ?_, ?_⟩ <;> simp only [Pl.write1, if_pos h, Pl.step, Pl.pend, Pl.setSeen, Pl.at_, hs, hw]
    · rw [h1, upd_upd]
    · exact h2
    · rw [h3, sizedF_len, hl]; omega
    · exact h4
    · omega
    · rw [List.length_append, sectors_lenD]; omega
    · exact h7
    · rw [h8]
    · rw [h9]
    · rw [h9, h10]
    · exact h11
  · have hw : Pl.put (p.seen s) a d = wrote (p.seen s) a d := by unfold wrote; rw [if_neg h]
    have hl := wrote_len (p.seen s) a d
    refine ⟨?_, ?_, ?_, ?_, ?_, ?_, ?_, ?_, ?_, ?_, ?_⟩ <;> simp only [Pl.write1, if_neg h, Pl.step, Pl.pend, Pl.setSeen, Pl.at_, hw]
    · rw [hl]
    · omega
    · rw [List.length_append, sectors_lenD]; omega
theorem StI.write {c : Int} {i : Nat} {p : Pl} (h : StI c i p) (a : Int) (d : List Int) (ha : 0 ≤ a ∧ a ≤ 4095) (hd : d.length ≤ 2000) :
    p.writeE nmF a d = (if 1 ≤ c ∧ c ≤ (i : Int) + 1 then 7 else 0) ∧ StI c (i + 1) (p.write nmF a d) := by
  have hl := h.len
  by_cases hdn : 1 ≤ c ∧ c ≤ i
  · have hdown : p.down = true := by rw [h.down]; simpa using hdn
    refine ⟨by unfold Pl.writeE; rw [hdown, if_pos rfl, if_pos (by omega)], ?_⟩
    have e : p.write nmF a d = p := by unfold Pl.write; rw [if_pos (.inl hdown)]
    rw [e]
    exact { h with
      down := by rw [hdown]; symm; simp; omega
      crash := by rw [h.crash, if_neg (by omega), if_neg (by push_cast; omega)]
      nf := by have := h.nf; omega
      pd := by have := h.pd; omega }
  · have hdown : p.down = false := by rw [h.down]; simpa using hdn
    have hse : p.stepE = if 1 ≤ c ∧ c ≤ (i : Int) + 1 then 7 else 0 := by
      unfold Pl.stepE
      rw [h.crash]
      by_cases h1 : 1 ≤ c ∧ (i : Int) < c
      · rw [if_pos h1]
        by_cases h2 : c - i = 1
        · rw [if_pos h2, if_pos (by omega)]
        · rw [if_neg h2, if_neg (by omega)]
      · rw [if_neg h1, if_neg (by omega), if_neg (by omega)]
    have sc : p.step.crash = if 1 ≤ c ∧ ((i + 1 : Nat) : Int) < c then c - ((i + 1 : Nat) : Int) else 0 := by
      simp only [Pl.step, h.crash]
      by_cases h1 : 1 ≤ c ∧ (i : Int) < c
      · rw [if_pos h1, if_pos (by omega)]
        by_cases h2 : ((i + 1 : Nat) : Int) < c
        · rw [if_pos ⟨h1.1, h2⟩]; omega
        · rw [if_neg (by omega)]; omega
      · rw [if_neg h1, if_neg (by omega), if_neg (by omega)]
    have sd : p.step.down = decide (1 ≤ c ∧ c ≤ ((i + 1 : Nat) : Int)) := by
      simp only [Pl.step, h.crash, hdown]
      by_cases h1 : 1 ≤ c ∧ (i : Int) < c
      · rw [if_pos h1]
        by_cases h2 : c - i = 1
        · rw [if_pos h2]; symm; simp; omega
        · rw [if_neg h2]; symm; simp; omega
      · rw [if_neg h1, if_neg (by omega)]; symm; simp; omega
    by_cases hd0 : d = []
    · subst hd0
      refine ⟨?_, ?_⟩
      · unfold Pl.writeE
        rw [hdown, if_neg (by simp), if_neg (by omega), if_neg (by simp; omega), if_pos rfl, hse]
      · have e : p.write nmF a [] = p.step := by
          unfold Pl.write
          rw [if_neg (by simp [hdown]; omega), if_pos rfl]
        rw [e]
        exact
          { down := sd
            crash := sc
            room := h.room
            len := h.len
            sum := h.sum
            kept := h.kept
            nf := by have := h.nf; simp only [Pl.step]; omega
            pd := by have := h.pd; simp only [Pl.step]; omega }
    · have hfit : p.fits nmF (max (a + d.length) (p.seen nmF).length) = 0 := by
        unfold Pl.fits
        rw [if_neg (by omega), if_neg]
        rintro ⟨h1, h2⟩
        rw [h.sum, h.room, wrp_id (by omega)] at h2
        omega
      refine ⟨?_, ?_⟩
      · unfold Pl.writeE
        rw [hdown, if_neg (by simp), if_neg (by omega), if_neg (by omega), if_neg hd0, hfit, if_neg (by simp), hse]
      · have e : p.write nmF a d = p.write1 nmF a.toNat d := by
          unfold Pl.write
          rw [if_neg (by simp [hdown]; omega), if_neg hd0, hfit, if_neg (by simp)]
        rw [e]
        obtain ⟨h1, h2, h3, h4, h5, h6, h7, h8, h9, h10, h11⟩ := write1_props p nmF a.toNat d
        have hlen : ((p.write1 nmF a.toNat d).seen nmF).length = max (p.seen nmF).length (a.toNat + d.length) := by rw [h1, upd_same, wrote_len]
        exact
          { down := by rw [h10]; exact sd
            crash := by rw [h9]; exact sc
            room := by rw [h7]; exact h.room
            len := by rw [hlen]; omega
            sum := by rw [h3, hlen, h.sum]; omega
            kept := by rw [h2, h4]; exact h.kept
            nf := by have := h.nf; omega
            pd := by have := h.pd; omega }
/-- the last answers: a disk that is up and has no crash told -/
structure UpI (p : Pl) : Prop where
  down : p.down = false
  crash : p.crash = 0
  room : p.room = 200000
  len : (p.seen nmF).length ≤ 6095
  sum : p.sum = (p.seen nmF).length
  nf : p.nf ≤ 100000
  pd : p.pd.length ≤ 100000
theorem UpI.last {p : Pl} (h : UpI p) : p.writeE nmF 0 [120] = 0 ∧ (p.write nmF 0 [120]).syncE = 0 ∧ (p.write nmF 0 [120]).nf ≤ 100002 ∧ (p.write nmF 0 [120]).pd.length ≤ 100100 := by
  have hl := h.len
  have hse : p.stepE = 0 := by unfold Pl.stepE; rw [h.crash]; rfl
  have hfit : p.fits nmF (max (0 + (([120] : List Int).length : Int)) (p.seen nmF).length) = 0 := by
    unfold Pl.fits
    simp only [List.length_cons, List.length_nil]
    rw [if_neg (by omega), if_neg]
    rintro ⟨h1, h2⟩
    rw [h.sum, h.room, wrp_id (by omega)] at h2
    omega
  have e : p.write nmF 0 [120] = p.write1 nmF 0 [120] := by
    unfold Pl.write
    rw [if_neg (by simp [h.down]), if_neg (by simp), hfit, if_neg (by simp)]
    rfl
  obtain ⟨h1, h2, h3, h4, h5, h6, h7, h8, h9, h10, h11⟩ := write1_props p nmF 0 [120]
  refine ⟨?_, ?_, ?_, ?_⟩
  · unfold Pl.writeE
    rw [h.down, if_neg (by simp), if_neg (by omega), if_neg (by simp), if_neg (by simp), hfit, if_neg (by simp), hse]
  · rw [e]
    unfold Pl.syncE Pl.stepE
    rw [h10, h9]
    simp [Pl.step, h.crash, h.down]
  · rw [e]; have := h.nf; omega
  · rw [e]; have := h.pd; simp at h6; omega
theorem StI.up {c : Int} {i : Nat} {p : Pl} (h : StI c i p) (hi : i ≤ 20) (hc : ¬ (1 ≤ c ∧ c ≤ i)) : UpI (p.crashIn 0) where
  down := by show p.down = false; rw [h.down]; simpa using hc
  crash := rfl
  room := h.room
  len := h.len
  sum := h.sum
  nf := by have := h.nf; show p.nf ≤ _; omega
  pd := by have := h.pd; show p.pd.length ≤ _; omega
theorem StI.again {c : Int} {i : Nat} {p : Pl} (h : StI c i p) (hi : i ≤ 20) (hc : 1 ≤ c ∧ c ≤ i) : p.restartE = 0 ∧ UpI (p.restart []) := by
  have hd : p.down = true := by rw [h.down]; simpa using hc
  refine ⟨by unfold Pl.restartE; rw [hd]; rfl, ?_⟩
  have e : p.survive p.pd [] = p := by cases p.pd <;> rfl
  unfold Pl.restart
  rw [hd, if_pos rfl, e]
  exact
    { down := rfl
      crash := rfl
      room := h.room
      len := by show (p.kept nmF).length ≤ _; rw [h.kept.1]; simp
      sum := by show p.ksum = ((p.kept nmF).length : Nat); rw [h.kept.1, h.kept.2]; rfl
      nf := by have := h.nf; show p.nf ≤ _; omega
      pd := by simp }
end Go.Proofs.Ytegcbdfilkecpaa
/- The stand-in disk: the answers that every law asks at its end; no condition. -/
namespace Go.Proofs.Ytegcbdfilkecpaa
open Go.RowKit

theorem sz4 : nmF.size ≤ maxLen ∧ awX.size ≤ maxLen ∧ awY.size ≤ maxLen := by unfold maxLen; decide
end Go.Proofs.Ytegcbdfilkecpaa
/- DiskSteps: for every list of changes and every number the call returns true and leaves its arguments as they were; no condition. -/
namespace Go.Proofs.Ytegcbdfilkecpaa
open Go.RowKit

/-- a list of changes in memory: places and texts -/
def Fls (w : World) (A : Option Addr) (n : Nat) (L : List (Int × ByteArray)) : Prop :=
  L.length = n ∧ (∀ x ∈ L, x.2.size ≤ maxLen) ∧ (0 < n → ∃ g o, A = some ⟨g, o, none⟩ ∧ g < w.heap.size ∧ ∀ k (h : k < L.length), w.cell? ⟨g, o + k * 2, none⟩ = some (.int .i64 L[k].1) ∧ w.cell? ⟨g, o + k * 2 + 1, none⟩ = some (.string L[k].2))
theorem Fls.keep {w w' : World} {A : Option Addr} {n : Nat} {L : List (Int × ByteArray)} (h : Fls w A n L) (k : Kp NoB w w') : Fls w' A n L :=
  ⟨h.1, h.2.1, fun hn => by
    obtain ⟨g, o, e, hg, hc⟩ := h.2.2 hn
    exact ⟨g, o, e, Nat.lt_of_lt_of_le hg k.size, fun j hj => ⟨(k.cell hg (fun q => q)).trans (hc j hj).1, (k.cell hg (fun q => q)).trans (hc j hj).2⟩⟩⟩
end Go.Proofs.Ytegcbdfilkecpaa
/- How a list of changes that comes in is read; no condition. -/
namespace Go.Proofs.Ytegcbdfilkecpaa
open Go.ChangeShapes Go.WideShapes Go.ChangeAt Go.RowKit

end Go.Proofs.Ytegcbdfilkecpaa
