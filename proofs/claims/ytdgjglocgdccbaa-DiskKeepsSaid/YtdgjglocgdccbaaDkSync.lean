/- The stand-in disk: Sync; no condition but on the texts' lengths and the counts. -/
import Derived.Test.YtdgjglocgdccbaaDkDelF
namespace Go.Proofs.Ytdgjglocgdccbaa
open Go.RowKit

def SyPost (n0 : Nat) (w : World) (x : Dd) (p : Pl) (s : ByteArray) (e : Ending) (w' : World) : Prop := e = .returned (.int .i64 p.syncE) ∧ To n0 w x (p.sync s) w'
/-- the changes put anew, the disk's cell stored -/
theorem Dk.pendAll {n0 : Nat} {w w1 : World} {x : Dd} (h : Dk n0 w x) (k : Kp NoB w w1) (pv : Value) (pd : List Cg) (ho : w1.ownsRow w.heap.size 79 67 pv pd.length (cgCells pd)) (hn : n0 ≤ w.heap.size) (hs : ∀ c ∈ pd, CgOk c) :
    Dk n0 (w1.setCell ⟨x.db, 1, none⟩ pv) { x with pv := pv, pd := pd } ∧ Kp x.O w (w1.setCell ⟨x.db, 1, none⟩ pv) ∧ ∀ b, ({ x with pv := pv, pd := pd } : Dd).O b → x.O b ∨ w.heap.size ≤ b := by
  have hB : Blk w1 x.db 64 (diskCells x) := h.blk.keep k (fun q => q)
  have k2 : Kp (fun b => b = x.db ∨ x.pv.ownBlock = some b) w (w1.setCell ⟨x.db, 1, none⟩ pv) := (k.mono (S' := fun b => b = x.db ∨ x.pv.ownBlock = some b) (fun _ _ q => q.elim)).setAt (.inl rfl) _ _
  refine ⟨h.pended k2 pv pd (by
    have := hB.set_ 1 pv
    simpa [diskCells] using this) (by
    refine own_keepB (ho.mono hn) ((Kp.refl (OnB x.db) w1).setAt rfl 1 pv) (fun g hg' q => ?_)
    have := (ho.lt g hg').1
    have h2 := h.blk.lt
    rw [show g = x.db from q] at this
    omega) hs, k2.pendO, O_pend (w := w) (fun b hb => .inr (ho.lt b hb).1)⟩
set_option maxRecDepth 100000 in
set_option maxHeartbeats 800000 in
theorem sync_ok (w : World) (n0 : Nat) (x : Dd) (p : Pl) (s : ByteArray) (h : Dk n0 w x) (hp : Of x p) (hs : s.size ≤ maxLen) (hn0 : n0 ≤ w.heap.size)
    (hm : p.nf < 1099511627776 - 10) (hpd : p.pd.length < 1099511627776 - 20000) :
    Calls Try.prog 14 #[ptrV x.db, .string s] w (SyPost n0 w x p s) := by
  have kb : Kp NoB w (w.alloc (.cells #[.string s] 9)) := (Kp.refl NoB w).alloc _
  have hb0 : Blk (w.alloc (.cells #[.string s] 9)) w.heap.size 9 #[.string s] := Blk.new _ _ _
  have h1 := h.keep kb (fun _ _ q => q) (fun _ _ _ q => q)
  have H := Lib.hid h1
  have H0 := Lib.hid h
  have HP := Lib.hid hp
  have HS := Lib.hid hs
  have HN0 := Lib.hid (show n0 ≤ (w.alloc (.cells #[.string s] 9)).heap.size from Nat.le_trans hn0 kb.size)
  have HM := Lib.hid hm
  have HPD := Lib.hid hpd
  have HKB := Lib.hid kb
  have HB0 := Lib.hid hb0
  obtain ⟨db, hdb⟩ : ∃ db, x.db = db := ⟨_, rfl⟩
  have HX := Lib.hid hdb
  rw [hdb]
  obtain ⟨B, hBB⟩ : ∃ B, w.heap.size = B := ⟨_, rfl⟩
  have HBB := Lib.hid hBB
  unfold ptrV
  rcases hdn : p.down with _ | _
  · have HDN := Lib.hid hdn
    rcases (show p.stepE = 0 ∨ p.stepE = 7 by unfold Pl.stepE; split <;> omega) with hst | hst
    · have HST := Lib.hid hst
      clear h hp hs hn0 hm hpd hdb hdn kb hb0 h1 hst hBB
      go_enter Try.func14, Try.ntmps14
      go_wp2_with (go_at_call 30; go_must (refine (show Calls _ _ #[ptrV db] _ _ by rw [← HX.out]; exact wrong_p _ n0 x p H.out HP.out false HDN.out).mono ?_); rintro e w2 ⟨rfl, rfl⟩)
      refine (show Calls _ _ #[ptrV db] _ _ by rw [← HX.out]; exact step_p _ n0 x p H.out HP.out).mono ?_
      rintro e w1 ⟨rfl, x1, hd1, hp1, hx1, hk1, ho1⟩
      rw [HST.out]
      have HD1 := Lib.hid hd1
      have HP1 := Lib.hid hp1
      have HX1 : Hid (x1.db = db) := Lib.hid (hx1.trans HX.out)
      have HX1' := Lib.hid hx1
      have HK1 := Lib.hid hk1
      have HO1 := Lib.hid ho1
      have hB1 : Blk w1 w.heap.size 9 #[.string s] := HB0.out.keep hk1 (fun q => by have := H0.out.lt _ q; omega)
      have HB1 := Lib.hid hB1
      have cB1 : w1.cell? ⟨w.heap.size, 0, none⟩ = some (.string s) := by rw [hB1.cell]; rfl
      clear hd1 hp1 hx1 hk1 ho1 hB1
      go_wp2_with fail
      refine (show Calls _ _ #[ptrV db, .string s] _ _ by rw [← HX1.out]; exact at_ok _ n0 x1 s HS.out (by have h1 : x1.mn ≤ p.nf := HP1.out.nf; have := HM.out; omega) (Nat.le_trans HN0.out HK1.out.size) HD1.out).mono ?_
      rintro e w5 ⟨e0, m2, rfl, hd5, hm5, hnm5, hsn5, hkp5, hk5, hfb5⟩
      have HD5 := Lib.hid hd5
      have HE5 := Lib.hid (show e0.nm = s ∧ e0.seen = p.seen s ∧ e0.kept = p.kept s from ⟨hnm5, by rw [hsn5, HP1.out.seen_eq]; rfl, by rw [hkp5, HP1.out.kept_eq]; rfl⟩)
      have HK5 := Lib.hid hk5
      have HF0 := Lib.hid (findF_some (show findF (putF x1.fs e0) (kOf e0.nm) = some e0 by rw [putF_find, if_pos rfl])).1
      have HO5 := Lib.hid (O_at (m := m2) HD1.out hk5 hfb5)
      have HQ5 := Lib.hid (HP1.out.at_ e0 m2 hm5 (by rw [hsn5, hnm5]) (by rw [hkp5, hnm5]))
      obtain ⟨u, v, hb, hu, hv⟩ := (hd5.fls e0 HF0.out).blk
      obtain ⟨A5, cap5, rfl⟩ := hu.form
      obtain ⟨Av, capv, rfl⟩ := hv.form
      have HB5 := Lib.hid hb
      have HU5 := Lib.hid hu
      obtain ⟨L, hL⟩ : ∃ L, e0.seen.length = L := ⟨_, rfl⟩
      obtain ⟨L2, hL2⟩ : ∃ L, e0.kept.length = L := ⟨_, rfl⟩
      have HLL := Lib.hid hL
      obtain ⟨fb, hfb⟩ : ∃ fb, e0.fb = fb := ⟨_, rfl⟩
      have HFB := Lib.hid hfb
      have c5 : w5.cell? ⟨fb, 0, none⟩ = some (.slice A5 L cap5) := by rw [← hfb, hb.cell, ← hL]; rfl
      have c6 : w5.cell? ⟨fb, 1, none⟩ = some (.slice Av L2 capv) := by rw [← hfb, hb.cell, ← hL2]; rfl
      have z6 : w5.frozen? ⟨fb, 1, none⟩ = false := by rw [← hfb]; exact hb.frozen 1
      rw [show ptrV e0.fb = .pointer (some ⟨fb, 0, none⟩) by rw [hfb]; rfl]
      clear hb hu hv hd5 hm5 hnm5 hsn5 hkp5 hk5 hfb5 hfb hL hL2
      go_upto_region 8 with fail
      have hk56 : Kp (OnB fb) w5 (w5.setCell ⟨fb, 1, none⟩ (.slice A5 L cap5)) := (Kp.refl (OnB fb) w5).setAt rfl _ _
      have hb6 : Blk (w5.setCell ⟨fb, 1, none⟩ (.slice A5 L cap5)) fb 75 #[.slice A5 L cap5, .slice A5 L cap5] := by
        have := HB5.out.set_ 1 (.slice A5 L cap5)
        rw [HFB.out, HLL.out] at this
        exact this
      have hd6 := HD5.out.refile HF0.out (by rw [HFB.out]; exact hk56) { e0 with kept := e0.seen } rfl rfl ⟨⟨.slice A5 L cap5, .slice A5 L cap5, by rw [← HFB.out] at hb6 ⊢; exact hb6, by have := HU5.out.keep hk56 (fun g cs' hc q => onb_cells HB5.out hc (by decide) (by rw [HFB.out]; exact q)); rw [HLL.out] at this; exact this, by have := HU5.out.keep hk56 (fun g cs' hc q => onb_cells HB5.out hc (by decide) (by rw [HFB.out]; exact q)); rw [HLL.out] at this; exact this⟩, (HD5.out.fls e0 HF0.out).ls, (HD5.out.fls e0 HF0.out).ls⟩
      generalize w5.setCell ⟨fb, 1, none⟩ (.slice A5 L cap5) = w6 at hk56 hd6 ⊢
      obtain ⟨x3, hx3⟩ : ∃ x3 : Dd, ({ x1 with fs := putF (putF x1.fs e0) { e0 with kept := e0.seen }, mn := m2 } : Dd) = x3 := ⟨_, rfl⟩
      have HX3 : Hid (x3.db = db ∧ x3.pv = x1.pv ∧ x3.pd = p.pd) := Lib.hid (by rw [← hx3]; exact ⟨HX1.out, rfl, HP1.out.pd.symm⟩)
      have HQ3 : Hid (Of x3 (p.step.at_.setKept s (p.seen s))) := Lib.hid (by
        have := HQ5.out.setKept { e0 with kept := e0.seen } (by simp only [seenOf_put, upd_same])
        rw [hx3] at this
        have e2 := HE5.out.1
        have e3 := HE5.out.2.1
        simp only [e2, e3] at this
        exact this)
      have HD3 : Hid (Dk n0 w6 x3) := Lib.hid (by rw [← hx3]; exact hd6)
      have HO3 : Hid (Kp x.O (w.alloc (.cells #[.string s] 9)) w6 ∧ ∀ b, x3.O b → x.O b ∨ (w.alloc (.cells #[.string s] 9)).heap.size ≤ b) := Lib.hid (by
        have o3 : ∀ b, x3.O b → x1.O b ∨ w1.heap.size ≤ b := fun b hb => HO5.out.2 b (O_put (x := { x1 with fs := putF x1.fs e0, mn := m2 }) (e := { e0 with kept := e0.seen }) ⟨e0, HF0.out, rfl⟩ b (by rw [hx3]; exact hb))
        have k5 : Kp x1.O w1 w6 := HO5.out.1.trans hk56 (fun i hi q => by
          rcases HO5.out.2 i (.inr (.inr (.inr ⟨e0, HF0.out, by rw [HFB.out]; exact q⟩))) with q | q
          · exact q
          · omega)
        refine ⟨HK1.out.trans k5 (fun i hi q => ?_), fun b hb => ?_⟩
        · rcases HO1.out i q with q | q
          · exact q
          · omega
        · rcases o3 b hb with q | q
          · exact HO1.out b q
          · exact .inr (Nat.le_trans HK1.out.size q))
      have hB6 : Blk w6 w.heap.size 9 #[.string s] := HB0.out.keep HO3.out.1 (fun q => by have := H0.out.lt _ q; omega)
      have HB6 := Lib.hid hB6
      have HN6 := Lib.hid (Nat.le_trans HN0.out HO3.out.1.size)
      obtain ⟨pl, hpl⟩ : ∃ pl, p.pd.length = pl := ⟨_, rfl⟩
      have HPL := Lib.hid hpl
      have hpf := own_slice HD3.out.pend
      simp only [HX3.out.2.2, hpl] at hpf
      obtain ⟨Ap, kp, hpv⟩ := hpf
      have HPV := Lib.hid hpv
      have c1 : w6.cell? ⟨db, 1, none⟩ = some (.slice Ap pl kp) := by rw [← HX3.out.1, HD3.out.blk.cell, ← hpv]; rfl
      clear hk56 hb6 hd6 hx3 hB6 hpl hpv c5 c6 z6
      go_wp2_with fail
      refine (cloneCg_ok w6 n0 Ap pl kp p.pd HPL.out (by have := HPD.out; rw [HPL.out] at this; omega) (by rw [← HX3.out.2.2]; exact HD3.out.s64) (by have := HD3.out.pend; rw [HX3.out.2.2, HPL.out, HPV.out] at this; exact this)).mono ?_
      rintro e w7 ⟨A7, c7, rfl, ho7, hk7⟩
      rw [HPL.out] at ho7 ⊢
      have HO7 := Lib.hid ho7
      have HK7 := Lib.hid hk7
      clear ho7 hk7
      go_wp2_with fail
      refine (del_ok w7 w6.heap.size w.heap.size s A7 pl c7 p.pd HPL.out (by have := HPD.out; rw [HPL.out] at this; omega) (by rw [← HX3.out.2.2]; exact HD3.out.s64) HO7.out (HB6.out.keep HK7.out (fun q => q))).mono ?_
      rintro e w8 ⟨A8, k8, c8, rfl, ho8, hl8, hk8, hown8⟩
      have k68 : Kp NoB w6 w8 := HK7.out.trans hk8 (fun i hi q => by have := (HO7.out.lt i q).1; omega)
      have HK68 := Lib.hid k68
      have HALL := Lib.hid (HD3.out.pendAll k68 (.slice A8 k8 c8) (p.pd.filter (notB s)) (by rw [hl8]; exact ho8) HN6.out (fun c hc => HD3.out.s64 c (by rw [HX3.out.2.2]; exact (List.mem_filter.1 hc).1)))
      have c8' : w8.cell? ⟨db, 1, none⟩ = some (.slice Ap pl kp) := by rw [k68.cell (by rw [← HX3.out.1]; exact HD3.out.blk.lt) (fun q => q)]; exact c1
      have z8 : w8.frozen? ⟨db, 1, none⟩ = false := by rw [← HX3.out.1]; exact (HD3.out.blk.keep k68 (fun q => q)).frozen 1
      clear ho8 hl8 hk8 hown8 k68 c1
      go_wp2_with fail
      go_ret
      have hall := HALL.out
      have hT : To n0 (w.alloc (.cells #[.string s] 9)) x { p.step.at_.setKept s (p.seen s) with pd := p.pd.filter (notB s) } (w8.setCell ⟨x3.db, 1, none⟩ (.slice A8 k8 c8)) := by
        refine ⟨_, hall.1, { HQ3.out with pd := rfl }, HX3.out.1.trans HX.out.symm, HO3.out.1.trans hall.2.1 (fun i hi q => ?_), fun b hb => ?_⟩
        · rcases HO3.out.2 i q with q | q
          · exact q
          · omega
        · rcases hall.2.2 b hb with q | q
          · exact HO3.out.2 b q
          · exact .inr (Nat.le_trans HO3.out.1.size q)
      refine ⟨?_, ?_⟩
      · unfold Pl.syncE; rw [HDN.out, HST.out]; rfl
      · unfold Pl.sync; rw [HDN.out, HST.out]; simp only [Bool.false_eq_true, if_false]; rw [if_neg (by omega), ← HX3.out.1]; exact hT.quiet HKB.out H0.out
    · have HST := Lib.hid hst
      clear h hp hs hn0 hm hpd hdb hdn kb hb0 h1 hst hBB
      go_enter Try.func14, Try.ntmps14
      go_wp2_with (first
        | (go_at_call 30; go_must (refine (show Calls _ _ #[ptrV db] _ _ by rw [← HX.out]; exact wrong_p _ n0 x p H.out HP.out false HDN.out).mono ?_); rintro e w2 ⟨rfl, rfl⟩)
        | (go_at_call 31; go_must (refine (show Calls _ _ #[ptrV db] _ _ by rw [← HX.out]; exact step_p _ n0 x p H.out HP.out).mono ?_); rintro e w1 ⟨rfl, ht1⟩; rw [HST.out]; have HT1 := Lib.hid ht1; clear ht1))
      go_ret
      refine ⟨?_, ?_⟩
      · unfold Pl.syncE; rw [HDN.out, HST.out]; rfl
      · unfold Pl.sync; rw [HDN.out, HST.out]; simp only [Bool.false_eq_true, if_false]; rw [if_pos (by omega)]; exact HT1.out.quiet HKB.out H0.out
  · have HDN := Lib.hid hdn
    clear h hp hs hn0 hm hpd hdb hdn kb hb0 h1 hBB
    go_enter Try.func14, Try.ntmps14
    go_wp2_with (go_at_call 30; go_must (refine (show Calls _ _ #[ptrV db] _ _ by rw [← HX.out]; exact wrong_p _ n0 x p H.out HP.out true HDN.out).mono ?_); rintro e w2 ⟨rfl, rfl⟩)
    go_ret
    refine ⟨?_, ?_⟩
    · unfold Pl.syncE; rw [HDN.out]; rfl
    · unfold Pl.sync; rw [HDN.out]; exact (To.refl H.out HP.out).quiet HKB.out H0.out
end Go.Proofs.Ytdgjglocgdccbaa
