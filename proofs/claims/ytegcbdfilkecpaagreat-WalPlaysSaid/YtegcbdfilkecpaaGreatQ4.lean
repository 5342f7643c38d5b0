/- Texts of this proof, one behind the other: lemmas and contracts; each says its own conditions. -/
import Derived.Test.YtegcbdfilkecpaaGreatQ1
import Derived.Test.YtegcbdfilkecpaaGreatQ3
namespace Go.Proofs.YtegcbdfilkecpaaGreat
section
open Go.RowKit
def SyPost (n0 : Nat) (w : World) (x : Dd) (p : Pl) (s : ByteArray) (e : Ending) (w' : World) : Prop := e = .returned (.int .i64 p.syncE) ∧ To n0 w x (p.sync s) w'
theorem Dk.pendAll {n0 : Nat} {w w1 : World} {x : Dd} (h : Dk n0 w x) (k : Kp NoB w w1) (pv : Value) (pd : List Cg) (ho : w1.ownsRow w.heap.size 121 67 pv pd.length (cgCells pd)) (hn : n0 ≤ w.heap.size) (hs : ∀ c ∈ pd, CgOk c) :
  Dk n0 (w1.setCell ⟨x.db, 1, none⟩ pv) { x with pv := pv, pd := pd } ∧ Kp x.O w (w1.setCell ⟨x.db, 1, none⟩ pv) ∧ ∀ b, ({ x with pv := pv, pd := pd } : Dd).O b → x.O b ∨ w.heap.size ≤ b := by
 have hB : Blk w1 x.db 55 (diskCells x) := h.blk.keep k (fun q => q)
 have k2 : Kp (fun b => b = x.db ∨ x.pv.ownBlock = some b) w (w1.setCell ⟨x.db, 1, none⟩ pv) := (k.mono (S' := fun b => b = x.db ∨ x.pv.ownBlock = some b) (fun _ _ q => q.elim)).setAt (.inl rfl) _ _
 refine ⟨h.pended k2 pv pd (by
  have := hB.set_ 1 pv
  simpa [diskCells] using this) (by
  refine own_keepB (ho.mono hn) ((Kp.refl (OnB x.db) w1).setAt rfl 1 pv) (fun g hg' q => ?_)
  have := (ho.lt g hg').1
  have h2 := h.blk.lt
  rw [show g = x.db from q] at this
  omega) hs, k2.pendO, O_pend (w := w) (fun b hb => .inr (ho.lt b hb).1)⟩
set_option maxRecDepth 100000 in
set_option maxHeartbeats 800000 in
theorem sync_ok (w : World) (n0 : Nat) (x : Dd) (p : Pl) (s : ByteArray) (h : Dk n0 w x) (hp : Of x p) (hs : s.size ≤ maxLen) (hn0 : n0 ≤ w.heap.size)
  (hm : p.nf < 1099511627776 - 10) (hpd : p.pd.length < 1099511627776 - 20000) :
  Calls Tryz.prog 52 #[ptrV x.db, .string s] w (SyPost n0 w x p s) := by
 have kb : Kp NoB w (w.alloc (.cells #[.string s] 9)) := (Kp.refl NoB w).alloc _
 have hb0 : Blk (w.alloc (.cells #[.string s] 9)) w.heap.size 9 #[.string s] := Blk.new _ _ _
 have h1 := h.keep kb (fun _ _ q => q) (fun _ _ _ q => q)
 have H := zh h1
 have H0 := zh h
 have HP := zh hp
 have HS := zh hs
 have HN0 := zh (show n0 ≤ (w.alloc (.cells #[.string s] 9)).heap.size from Nat.le_trans hn0 kb.size)
 have HM := zh hm
 have HPD := zh hpd
 have HKB := zh kb
 have HB0 := zh hb0
 obtain ⟨db, hdb⟩ : ∃ db, x.db = db := ⟨_, rfl⟩
 have HX := zh hdb
 rw [hdb]
 obtain ⟨B, hBB⟩ : ∃ B, w.heap.size = B := ⟨_, rfl⟩
 have HBB := zh hBB
 unfold ptrV
 rcases hdn : p.down with _ | _
 ·have HDN := zh hdn
  rcases (show p.stepE = 0 ∨ p.stepE = 7 by unfold Pl.stepE; split <;> omega) with hst | hst
  ·have HST := zh hst
   clear h hp hs hn0 hm hpd hdb hdn kb hb0 h1 hst hBB
   go_enter Tryz.func52, Tryz.ntmps52
   go_wp2_with (go_at_call 28; go_must (refine (show Calls _ _ #[ptrV db] _ _ by rw [← HX.out]; exact wrong_p _ n0 x p H.out HP.out false HDN.out).mono ?_); rintro e w2 ⟨rfl, rfl⟩)
   refine (show Calls _ _ #[ptrV db] _ _ by rw [← HX.out]; exact step_p _ n0 x p H.out HP.out).mono ?_
   rintro e w1 ⟨rfl, x1, hd1, hp1, hx1, hk1, ho1⟩
   rw [HST.out]
   have HD1 := zh hd1
   have HP1 := zh hp1
   have HX1 : Hid (x1.db = db) := zh (hx1.trans HX.out)
   have HX1' := zh hx1
   have HK1 := zh hk1
   have HO1 := zh ho1
   have hB1 : Blk w1 w.heap.size 9 #[.string s] := HB0.out.keep hk1 (fun q => by have := H0.out.lt _ q; omega)
   have HB1 := zh hB1
   have cB1 : w1.cell? ⟨w.heap.size, 0, none⟩ = some (.string s) := by rw [hB1.cell]; rfl
   clear hd1 hp1 hx1 hk1 ho1 hB1
   go_wp2_with fail
   refine (show Calls _ _ #[ptrV db, .string s] _ _ by rw [← HX1.out]; exact at_ok _ n0 x1 s HS.out (by have h1 : x1.mn ≤ p.nf := HP1.out.nf; have := HM.out; omega) (Nat.le_trans HN0.out HK1.out.size) HD1.out).mono ?_
   rintro e w5 ⟨e0, m2, rfl, hd5, hm5, hnm5, hsn5, hkp5, hk5, hfb5⟩
   have HD5 := zh hd5
   have HE5 := zh (show e0.nm = s ∧ e0.seen = p.seen s ∧ e0.kept = p.kept s from ⟨hnm5, by rw [hsn5, HP1.out.seen_eq]; rfl, by rw [hkp5, HP1.out.kept_eq]; rfl⟩)
   have HK5 := zh hk5
   have HF0 := zh (findF_some (show findF (putF x1.fs e0) (kOf e0.nm) = some e0 by rw [putF_find, if_pos rfl])).1
   have HO5 := zh (O_at (m := m2) HD1.out hk5 hfb5)
   have HQ5 := zh (HP1.out.at_ e0 m2 hm5 (by rw [hsn5, hnm5]) (by rw [hkp5, hnm5]))
   obtain ⟨u, v, hb, hu, hv⟩ := (hd5.fls e0 HF0.out).blk
   obtain ⟨A5, cap5, rfl⟩ := hu.form
   obtain ⟨Av, capv, rfl⟩ := hv.form
   have HB5 := zh hb
   have HU5 := zh hu
   obtain ⟨L, hL⟩ : ∃ L, e0.seen.length = L := ⟨_, rfl⟩
   obtain ⟨L2, hL2⟩ : ∃ L, e0.kept.length = L := ⟨_, rfl⟩
   have HLL := zh hL
   obtain ⟨fb, hfb⟩ : ∃ fb, e0.fb = fb := ⟨_, rfl⟩
   have HFB := zh hfb
   have c5 : w5.cell? ⟨fb, 0, none⟩ = some (.slice A5 L cap5) := by rw [← hfb, hb.cell, ← hL]; rfl
   have c6 : w5.cell? ⟨fb, 1, none⟩ = some (.slice Av L2 capv) := by rw [← hfb, hb.cell, ← hL2]; rfl
   have z6 : w5.frozen? ⟨fb, 1, none⟩ = false := by rw [← hfb]; exact hb.frozen 1
   rw [show ptrV e0.fb = .pointer (some ⟨fb, 0, none⟩) by rw [hfb]; rfl]
   clear hb hu hv hd5 hm5 hnm5 hsn5 hkp5 hk5 hfb5 hfb hL hL2
   go_upto_region 8 with fail
   have hk56 : Kp (OnB fb) w5 (w5.setCell ⟨fb, 1, none⟩ (.slice A5 L cap5)) := (Kp.refl (OnB fb) w5).setAt rfl _ _
   have hb6 : Blk (w5.setCell ⟨fb, 1, none⟩ (.slice A5 L cap5)) fb 128 #[.slice A5 L cap5, .slice A5 L cap5] := by
    have := HB5.out.set_ 1 (.slice A5 L cap5)
    rw [HFB.out, HLL.out] at this
    exact this
   have hd6 := HD5.out.refile HF0.out (by rw [HFB.out]; exact hk56) { e0 with kept := e0.seen } rfl rfl ⟨⟨.slice A5 L cap5, .slice A5 L cap5, by rw [← HFB.out] at hb6 ⊢; exact hb6, by have := HU5.out.keep hk56 (fun g cs' hc q => onb_cells HB5.out hc (by decide) (by rw [HFB.out]; exact q)); rw [HLL.out] at this; exact this, by have := HU5.out.keep hk56 (fun g cs' hc q => onb_cells HB5.out hc (by decide) (by rw [HFB.out]; exact q)); rw [HLL.out] at this; exact this⟩, (HD5.out.fls e0 HF0.out).ls, (HD5.out.fls e0 HF0.out).ls⟩
   generalize w5.setCell ⟨fb, 1, none⟩ (.slice A5 L cap5) = w6 at hk56 hd6 ⊢
   obtain ⟨x3, hx3⟩ : ∃ x3 : Dd, ({ x1 with fs := putF (putF x1.fs e0) { e0 with kept := e0.seen }, mn := m2 } : Dd) = x3 := ⟨_, rfl⟩
   have HX3 : Hid (x3.db = db ∧ x3.pv = x1.pv ∧ x3.pd = p.pd) := zh (by rw [← hx3]; exact ⟨HX1.out, rfl, HP1.out.pd.symm⟩)
   have HQ3 : Hid (Of x3 (p.step.at_.setKept s (p.seen s))) := zh (by
    have := HQ5.out.setKept { e0 with kept := e0.seen } (by simp only [seenOf_put, upd_same])
    rw [hx3] at this
    have e2 := HE5.out.1
    have e3 := HE5.out.2.1
    simp only [e2, e3] at this
    exact this)
   have HD3 : Hid (Dk n0 w6 x3) := zh (by rw [← hx3]; exact hd6)
   have HO3 : Hid (Kp x.O (w.alloc (.cells #[.string s] 9)) w6 ∧ ∀ b, x3.O b → x.O b ∨ (w.alloc (.cells #[.string s] 9)).heap.size ≤ b) := zh (by
    have o3 : ∀ b, x3.O b → x1.O b ∨ w1.heap.size ≤ b := fun b hb => HO5.out.2 b (O_put (x := { x1 with fs := putF x1.fs e0, mn := m2 }) (e := { e0 with kept := e0.seen }) ⟨e0, HF0.out, rfl⟩ b (by rw [hx3]; exact hb))
    have k5 : Kp x1.O w1 w6 := HO5.out.1.trans hk56 (fun i hi q => by
     rcases HO5.out.2 i (.inr (.inr (.inr ⟨e0, HF0.out, by rw [HFB.out]; exact q⟩))) with q | q
     ·exact q
     ·omega)
    refine ⟨HK1.out.trans k5 (fun i hi q => ?_), fun b hb => ?_⟩
    ·rcases HO1.out i q with q | q
     ·exact q
     ·omega
    ·rcases o3 b hb with q | q
     ·exact HO1.out b q
     ·exact .inr (Nat.le_trans HK1.out.size q))
   have hB6 : Blk w6 w.heap.size 9 #[.string s] := HB0.out.keep HO3.out.1 (fun q => by have := H0.out.lt _ q; omega)
   have HB6 := zh hB6
   have HN6 := zh (Nat.le_trans HN0.out HO3.out.1.size)
   obtain ⟨pl, hpl⟩ : ∃ pl, p.pd.length = pl := ⟨_, rfl⟩
   have HPL := zh hpl
   have hpf := own_slice HD3.out.pend
   simp only [HX3.out.2.2, hpl] at hpf
   obtain ⟨Ap, kp, hpv⟩ := hpf
   have HPV := zh hpv
   have c1 : w6.cell? ⟨db, 1, none⟩ = some (.slice Ap pl kp) := by rw [← HX3.out.1, HD3.out.blk.cell, ← hpv]; rfl
   clear hk56 hb6 hd6 hx3 hB6 hpl hpv c5 c6 z6
   go_wp2_with fail
   refine (cloneCg_ok w6 n0 Ap pl kp p.pd HPL.out (by have := HPD.out; rw [HPL.out] at this; omega) (by rw [← HX3.out.2.2]; exact HD3.out.s64) (by have := HD3.out.pend; rw [HX3.out.2.2, HPL.out, HPV.out] at this; exact this)).mono ?_
   rintro e w7 ⟨A7, c7, rfl, ho7, hk7⟩
   rw [HPL.out] at ho7 ⊢
   have HO7 := zh ho7
   have HK7 := zh hk7
   clear ho7 hk7
   go_wp2_with fail
   refine (del_ok w7 w6.heap.size w.heap.size s A7 pl c7 p.pd HPL.out (by have := HPD.out; rw [HPL.out] at this; omega) (by rw [← HX3.out.2.2]; exact HD3.out.s64) HO7.out (HB6.out.keep HK7.out (fun q => q))).mono ?_
   rintro e w8 ⟨A8, k8, c8, rfl, ho8, hl8, hk8, hown8⟩
   have k68 : Kp NoB w6 w8 := HK7.out.trans hk8 (fun i hi q => by have := (HO7.out.lt i q).1; omega)
   have HK68 := zh k68
   have HALL := zh (HD3.out.pendAll k68 (.slice A8 k8 c8) (p.pd.filter (notB s)) (by rw [hl8]; exact ho8) HN6.out (fun c hc => HD3.out.s64 c (by rw [HX3.out.2.2]; exact (List.mem_filter.1 hc).1)))
   have c8' : w8.cell? ⟨db, 1, none⟩ = some (.slice Ap pl kp) := by rw [k68.cell (by rw [← HX3.out.1]; exact HD3.out.blk.lt) (fun q => q)]; exact c1
   have z8 : w8.frozen? ⟨db, 1, none⟩ = false := by rw [← HX3.out.1]; exact (HD3.out.blk.keep k68 (fun q => q)).frozen 1
   clear ho8 hl8 hk8 hown8 k68 c1
   go_wp2_with fail
   go_ret
   have hall := HALL.out
   have hT : To n0 (w.alloc (.cells #[.string s] 9)) x { p.step.at_.setKept s (p.seen s) with pd := p.pd.filter (notB s) } (w8.setCell ⟨x3.db, 1, none⟩ (.slice A8 k8 c8)) := by
    refine ⟨_, hall.1, { HQ3.out with pd := rfl }, HX3.out.1.trans HX.out.symm, HO3.out.1.trans hall.2.1 (fun i hi q => ?_), fun b hb => ?_⟩
    ·rcases HO3.out.2 i q with q | q
     ·exact q
     ·omega
    ·rcases hall.2.2 b hb with q | q
     ·exact HO3.out.2 b q
     ·exact .inr (Nat.le_trans HO3.out.1.size q)
   refine ⟨?_, ?_⟩
   ·unfold Pl.syncE; rw [HDN.out, HST.out]; rfl
   ·unfold Pl.sync; rw [HDN.out, HST.out]; simp only [Bool.false_eq_true, if_false]; rw [if_neg (by omega), ← HX3.out.1]; exact hT.quiet HKB.out H0.out
  ·have HST := zh hst
   clear h hp hs hn0 hm hpd hdb hdn kb hb0 h1 hst hBB
   go_enter Tryz.func52, Tryz.ntmps52
   go_wp2_with (first
    | (go_at_call 28; go_must (refine (show Calls _ _ #[ptrV db] _ _ by rw [← HX.out]; exact wrong_p _ n0 x p H.out HP.out false HDN.out).mono ?_); rintro e w2 ⟨rfl, rfl⟩)
    | (go_at_call 66; go_must (refine (show Calls _ _ #[ptrV db] _ _ by rw [← HX.out]; exact step_p _ n0 x p H.out HP.out).mono ?_); rintro e w1 ⟨rfl, ht1⟩; rw [HST.out]; have HT1 := zh ht1; clear ht1))
   go_ret
   refine ⟨?_, ?_⟩
   ·unfold Pl.syncE; rw [HDN.out, HST.out]; rfl
   ·unfold Pl.sync; rw [HDN.out, HST.out]; simp only [Bool.false_eq_true, if_false]; rw [if_pos (by omega)]; exact HT1.out.quiet HKB.out H0.out
 ·have HDN := zh hdn
  clear h hp hs hn0 hm hpd hdb hdn kb hb0 h1 hBB
  go_enter Tryz.func52, Tryz.ntmps52
  go_wp2_with (go_at_call 28; go_must (refine (show Calls _ _ #[ptrV db] _ _ by rw [← HX.out]; exact wrong_p _ n0 x p H.out HP.out true HDN.out).mono ?_); rintro e w2 ⟨rfl, rfl⟩)
  go_ret
  refine ⟨?_, ?_⟩
  ·unfold Pl.syncE; rw [HDN.out]; rfl
  ·unfold Pl.sync; rw [HDN.out]; exact (To.refl H.out HP.out).quiet HKB.out H0.out
end
section
open Go.RowKit
def SvPost (n0 : Nat) (w : World) (x : Dd) (e : Fe) (c : Cg) (ch : Int) (w' : World) : Prop := Dk n0 w' { x with fs := putF x.fs { e with kept := Pl.made e.kept c ch } } ∧ Kp (OnB e.fb) w w'
theorem put_nil (l : List Int) (a : Nat) : Pl.put l a [] = l := by unfold Pl.put; simp
theorem Dk.keepE {n0 : Nat} {w w' : World} {x : Dd} (h : Dk n0 w x) {e : Fe} (he : e ∈ x.fs) (k : Kp NoB w w') : Dk n0 w' { x with fs := putF x.fs e } := by
 have : putF x.fs e = x.fs := putF_self (h.names.find he)
 rw [this]
 exact h.keep k (fun _ _ q => q) (fun _ _ _ q => q)
theorem surv_fin {n0 fb : Nat} {w W w2 : World} {x : Dd} {e : Fe} {u v v' : Value} {l : List Int} (h : Dk n0 W x) (he : e ∈ x.fs) (hfb : e.fb = fb) (kb : Kp NoB w W) (k : Kp NoB W w2) (hb : Blk W e.fb 128 #[u, v]) (hb2 : Blk w2 fb 128 #[u, v])
  (hu : Bq W n0 u e.seen) (hq : Bq w2 n0 v' l) (hls : e.seen.length ≤ 1048576) (hlk : l.length ≤ 1048576) :
  Dk n0 (w2.setCell ⟨fb, 1, none⟩ v') { x with fs := putF x.fs { e with kept := l } } ∧ Kp (OnB e.fb) w (w2.setCell ⟨fb, 1, none⟩ v') := by
 subst hfb
 have k2 : Kp (OnB e.fb) W (w2.setCell ⟨e.fb, 1, none⟩ v') := (k.mono (S' := OnB e.fb) (fun _ _ q => q.elim)).setAt rfl _ _
 have ks : Kp (OnB e.fb) w2 (w2.setCell ⟨e.fb, 1, none⟩ v') := (Kp.refl (OnB e.fb) w2).setAt rfl _ _
 have hb3 : Blk (w2.setCell ⟨e.fb, 1, none⟩ v') e.fb 128 #[u, v'] := by
  have := hb2.set_ 1 v'
  simpa using this
 exact ⟨h.refile he k2 { e with kept := l } rfl rfl ⟨⟨u, v', hb3, hu.keep k2 (fun g cs' hc q => onb_cells hb hc (by decide) q), hq.keep ks (fun g cs' hc q => onb_cells hb2 hc (by decide) q)⟩, hls, hlk⟩, (kb.mono (fun _ _ q => q.elim)).trans k2 (fun _ _ q => q)⟩
set_option maxRecDepth 100000 in
set_option maxHeartbeats 800000 in
theorem survive_ok (w : World) (n0 : Nat) (x : Dd) (e : Fe) (c : Cg) (ch : Int) (hch : -9223372036854775808 ≤ ch ∧ ch ≤ 9223372036854775807) (h : Dk n0 w x) (he : e ∈ x.fs) (hc : CgOk c) (hn0 : n0 ≤ w.heap.size) :
  Calls Tryz.prog 62 #[ptrV e.fb, .agg (cgA c.nm c.sec c.n (pad64 c.s)), .int .i64 ch] w fun r w' => r = .returned (.tuple #[]) ∧ SvPost n0 w x e c ch w' := by
 have kb : Kp NoB w (w.alloc (.cells (cgA c.nm c.sec c.n (pad64 c.s)) 121)) := (Kp.refl NoB w).alloc _
 have hb0 : Blk (w.alloc (.cells (cgA c.nm c.sec c.n (pad64 c.s)) 121)) w.heap.size 121 (cgA c.nm c.sec c.n (pad64 c.s)) := Blk.new _ _ _
 have HKB := zh kb
 have HB0 := zh hb0
 have H0 := zh h
 have H := zh (h.keep kb (fun _ _ q => q) (fun _ _ _ q => q))
 have HE := zh he
 have HC := zh hc
 have HN0 := zh (Nat.le_trans hn0 kb.size)
 obtain ⟨u, v, hb, hu, hv⟩ := (H.out.fls e he).blk
 obtain ⟨Av, capv, rfl⟩ := hv.form
 obtain ⟨fb, hfb⟩ : ∃ fb, e.fb = fb := ⟨_, rfl⟩
 have HFB := zh hfb
 obtain ⟨L, hL⟩ : ∃ L, e.kept.length = L := ⟨_, rfl⟩
 have HLL := zh hL
 rw [hL] at hv hb
 have HB := zh hb
 have HU := zh hu
 have HV := zh hv
 have hLk : L ≤ 1048576 := by rw [← hL]; exact (h.fls e he).lk
 have c1 : (w.alloc (.cells (cgA c.nm c.sec c.n (pad64 c.s)) 121)).cell? ⟨fb, 1, none⟩ = some (.slice Av L capv) := by rw [← hfb, hb.cell]; rfl
 have z1 : (w.alloc (.cells (cgA c.nm c.sec c.n (pad64 c.s)) 121)).frozen? ⟨fb, 1, none⟩ = false := by rw [← hfb]; exact hb.frozen 1
 have s1 : (w.alloc (.cells (cgA c.nm c.sec c.n (pad64 c.s)) 121)).cell? ⟨w.heap.size, 1, none⟩ = some (.int .i64 c.sec) := by rw [hb0.cell]; rfl
 have s2 : (w.alloc (.cells (cgA c.nm c.sec c.n (pad64 c.s)) 121)).cell? ⟨w.heap.size, 2, none⟩ = some (.int .i64 c.n) := by rw [hb0.cell]; rfl
 rw [show ptrV e.fb = .pointer (some ⟨fb, 0, none⟩) by rw [hfb]; rfl]
 by_cases h1 : ch ≤ 0
 ·have fin : Hid (SvPost n0 w x e c ch (w.alloc (.cells (cgA c.nm c.sec c.n (pad64 c.s)) 121))) := zh (by
   unfold SvPost Pl.made
   rw [if_pos h1]
   exact ⟨h.keepE he kb, kb.mono (fun _ _ q => q.elim)⟩)
  clear kb hb0 h he hc hn0 hb hu hv hfb hL s1 s2 c1 z1
  go_enter Tryz.func62, Tryz.ntmps62
  go_wp2_with fail
  exact bodyPost_ret (results_none rfl _ _ _) rfl ⟨rfl, fin.out⟩
 ·rcases hc.kind with ⟨hs0, hsec, hcn0, hcn1⟩ | ⟨hs64, hsec0, hsec1, hn⟩
  ·obtain ⟨n, hn⟩ : ∃ n : Nat, c.n = n := ⟨c.n.toNat, by omega⟩
   have HNN := zh hn
   have HN1 : Hid (n ≤ 1048576) := zh (by omega)
   have HSEC := zh hsec
   have H1 := zh h1
   obtain ⟨B0, hB0⟩ : ∃ B0, w.heap.size = B0 := ⟨_, rfl⟩
   have HB00 := zh hB0
   clear kb hb0 h he hc hn0 hb hu hv hfb hL hs0 hsec hcn0 hcn1 hn s1 s2 c1 z1
   go_enter Tryz.func62, Tryz.ntmps62
   go_upto_region 1 with fail
   generalize hWW : w.alloc (.cells (cgA c.nm c.sec c.n (pad64 c.s)) 121) = W at *
   have HWW := zh hWW
   have hb0 := HB0.out
   rw [hB0] at hb0
   have s1 : W.cell? ⟨B0, 1, none⟩ = some (.int .i64 c.sec) := by rw [hb0.cell]; rfl
   have s2 : W.cell? ⟨B0, 2, none⟩ = some (.int .i64 c.n) := by rw [hb0.cell]; rfl
   have hb := HB.out
   rw [HFB.out] at hb
   have c1 : W.cell? ⟨fb, 1, none⟩ = some (.slice Av L capv) := by rw [hb.cell]; rfl
   rw [HSEC.out] at s1
   rw [HNN.out] at s2
   clear hWW hB0 hb0 hb
   go_upto_region 3 with fail
   go_region_law (first
    | (go_simp; go_at_call 105; go_must (refine (grow_ok W.drew n0 fb 1 _ Av L capv e.kept n HLL.out hLk HN1.out (by have := HN0.out; exact this) (by have := HB.out.drew; rw [HFB.out] at this; exact this) rfl HV.out.drew).mono ?_); rintro r w2 ⟨rfl, B, c2', hb2, hq2, hk2⟩; have HB2 := zh hb2; have HQ2 := zh hq2; have HK2 := zh hk2; clear hb2 hq2 hk2)
    | go_simp)
   go_wp2_with fail
   have hd2 := H.out.refile HE.out (w' := w2) (by rw [HFB.out]; exact (Kp.refl _ W).drew.trans HK2.out (fun _ _ q => q)) { e with kept := sizedF e.kept n } rfl rfl ⟨⟨u, .slice B n c2', by have := HB2.out; rw [← HFB.out] at this; simpa using this, HU.out.keep ((Kp.refl _ W).drew.trans HK2.out (fun _ _ q => q)) (fun g cs' hc q => onb_cells HB.out hc (by decide) (by rw [HFB.out]; exact q)), by simp only [sizedF_len]; exact HQ2.out⟩, (H0.out.fls e HE.out).ls, by simp only [sizedF_len]; exact HN1.out⟩
   exact bodyPost_ret (results_none rfl _ _ _) rfl ⟨rfl, by
    unfold SvPost Pl.made
    rw [if_neg (by have := H1.out; omega), if_pos (by rw [HSEC.out]; omega), HNN.out]
    exact ⟨hd2, by rw [HFB.out]; exact (HKB.out.mono (fun _ _ q => q.elim)).trans ((Kp.refl (OnB fb) W).drew.trans HK2.out (fun _ _ q => q)) (fun _ _ q => q)⟩⟩
  ·obtain ⟨nn, hnn⟩ : ∃ nn : Nat, (if 1 < ch then (1 + (ch - 2) % 63).toNat else 64) = nn := ⟨_, rfl⟩
   have hnn1 : 1 ≤ nn ∧ nn ≤ 64 := by
    rw [← hnn]
    split <;> omega
   obtain ⟨at_, hat⟩ : ∃ a : Nat, c.sec.toNat * 64 = a := ⟨_, rfl⟩
   have hat1 : c.sec * 64 = (at_ : Int) := by omega
   have hw1 : IntKind.i64.wrap (c.sec * 64) = (at_ : Int) := by rw [IntKind.wrap_i64]; omega
   have hns : ¬ c.sec < 0 := by omega
   obtain ⟨sc, hsc⟩ : ∃ sc, c.sec = sc := ⟨_, rfl⟩
   have HSC := zh hsc
   rw [hsc] at hw1 hns hat1 hsec0 hsec1
   have HNN := zh hnn
   have HAT := zh hat
   have HS64 := zh hs64
   have H1 := zh h1
   obtain ⟨B0, hB0⟩ : ∃ B0, w.heap.size = B0 := ⟨_, rfl⟩
   have HB00 := zh hB0
   have hfin : ∀ cs : List Int, cs = (c.s.take nn).take (e.kept.length - at_) → Pl.made e.kept c ch = Pl.put e.kept at_ cs := by
    rintro cs rfl
    unfold Pl.made
    rw [if_neg h1, if_neg (by omega), hnn, hat]
   have HFIN := zh hfin
   clear kb hb0 h he hc hn0 hb hu hv hfb hL hs64 hn s1 s2 c1 z1 hnn hat hsc hfin
   by_cases hc1 : 1 < ch
   ·have e1 : 1 + (ch - 2) % 63 = (nn : Int) := by have := HNN.out; rw [if_pos hc1] at this; omega
    have e0 : 0 ≤ ch - 2 := by omega
    have e3 : IntKind.i64.wrap (ch - 2) = ch - 2 := by rw [IntKind.wrap_i64]; omega
    go_enter Tryz.func62, Tryz.ntmps62
    go_upto_region 1 with fail
    have hWb := HB0.out
    rw [hB0] at hWb
    have HWB := zh hWb
    generalize hWW : w.alloc (.cells (cgA c.nm c.sec c.n (pad64 c.s)) 121) = W at *
    have HWW := zh hWW
    have s1 : W.cell? ⟨B0, 1, none⟩ = some (.int .i64 sc) := by rw [HWB.out.cell, ← HSC.out]; rfl
    have hb := HB.out
    rw [HFB.out] at hb
    have c1 : W.cell? ⟨fb, 1, none⟩ = some (.slice Av L capv) := by rw [hb.cell]; rfl
    have z1 : W.frozen? ⟨fb, 1, none⟩ = false := hb.frozen 1
    have HFL := zh hb.lt
    have HBF := zh hb
    have HWL := zh HWB.out.lt
    clear hWW hb hB0 hWb
    go_wp2_with fail
    refine (clone_ok W n0 Av L capv e.kept HLL.out.symm (by rw [HLL.out]; omega) HV.out).mono ?_
    rintro r w1 ⟨B1, k1, rfl, hq1, hk1⟩
    rw [HLL.out] at hq1 ⊢
    have c2 : w1.cell? ⟨fb, 1, none⟩ = some (.slice Av L capv) := by rw [hk1.cell HFL.out (fun q => q)]; exact c1
    have z2 : w1.frozen? ⟨fb, 1, none⟩ = false := (HBF.out.keep hk1 (fun q => q)).frozen 1
    have HBF1 := zh (HBF.out.keep hk1 (fun q => q))
    have HK1 := zh hk1
    have HQ1 := zh hq1
    by_cases hlt : at_ < L
    ·obtain ⟨g1, ds1, rfl, hg1, hb1⟩ := own_blk1 (by have := hq1.own; rw [HLL.out] at this; exact this) (by omega)
     have hcap1 : L ≤ k1 := own_cap (by have := hq1.own; rw [HLL.out] at this; exact this)
     have HG1 := zh hg1
     have h1 : (at_ : Int) < (L : Int) := by omega
     have h2 : ¬ k1 = at_ := by omega
     have h3 : at_ ≤ k1 := by omega
     have h4 : at_ ≤ L := by omega
     have h5 : (at_ : Int) ≤ (L : Int) := by omega
     have h6 : (nn : Int) ≤ 64 := by omega
     have h7 : nn ≤ 64 := by omega
     obtain ⟨cs, hcs⟩ : ∃ cs, ((c.s.take nn).take (L - at_)).map (Value.int .u8) = cs := ⟨_, rfl⟩
     have HCS := zh hcs
     have HCSL : Hid (cs.length = Nat.min nn (L - at_)) := zh (by rw [← hcs, List.length_map, List.length_take, List.length_take, HS64.out, Nat.min_eq_left (show nn ≤ 64 by omega)]; exact Nat.min_comm _ _)
     have HSRC : Hid (∀ j v, cs[j]? = some v → w1.drew.cell? ((⟨B0, 3, none⟩ : Addr).add j) = some v) := zh (by
      intro j v hj
      rw [add_mk]
      have hB := (HWB.out.keep HK1.out (fun q => q))
      have : w1.drew.cell? ⟨B0, 3 + j, none⟩ = w1.cell? ⟨B0, 3 + j, none⟩ := rfl
      rw [this, hB.cell]
      rw [← HCS.out, List.getElem?_map, List.getElem?_take] at hj
      split at hj
      ·rw [List.getElem?_take] at hj
       split at hj
       ·unfold cgA cgL
        rw [pad64_full HS64.out]
        simp only [List.getElem?_toArray]
        rw [show 3 + j = j + 1 + 1 + 1 by omega]
        simp only [List.getElem?_cons_succ, List.getElem?_map]
        exact hj
       ·cases hj
      ·cases hj)
     have HTH : Hid (w1.drew.there g1 at_ cs.length) := zh (hb1.drew.there (by rw [HCSL.out]; have hmm : Nat.min nn (L - at_) ≤ L - at_ := Nat.min_le_right _ _; simp only [List.size_toArray, List.length_append, List.length_map, HLL.out]; omega))
     have HONE : Hid (∀ v ∈ cs, v.oneCell' = true) := zh (by rw [← HCS.out]; exact u8_one _)
     have HGF : Hid (fb ≠ g1) := zh (by have := HFL.out; omega)
     clear hb1 hcs c1 z1 hq1 hg1
     go_upto_region 10 with fail
     go_region_law (first
      | (refine step_copyC rfl (.tmp 43) (.tmp 46) 68 68 rfl 5 Tryz.underlying68 infoU8 g1 at_ (L - at_) (k1 - at_) ⟨B0, 3, none⟩ nn 64 cs (by go_simp) (by go_simp) HCSL.out HSRC.out HTH.out HONE.out ?_)
      | go_simp)
     have hq2 : Bq (w1.drew.setCells g1 at_ cs) W.heap.size (.slice (some ⟨g1, 0, none⟩) L k1) (Pl.put e.kept at_ ((c.s.take nn).take (L - at_))) := by
      rw [← HCS.out]
      refine bq_write HQ1.out.drew HLL.out at_ _ ?_ ?_
      ·rw [HLL.out, List.length_take, List.length_take, HS64.out]; omega
      ·intro y hy; exact HC.out.rng y (List.mem_of_mem_take (List.mem_of_mem_take hy))
     have hk2 : Kp NoB W (w1.drew.setCells g1 at_ cs) := Kp.setCells (.inl HG1.out) _ _ _ HK1.out.drew
     have hbf2 : Blk (w1.drew.setCells g1 at_ cs) fb 128 #[u, .slice Av L capv] := Blk.farCells HGF.out _ _ _ HBF1.out.drew
     generalize w1.drew.setCells g1 at_ cs = w2 at hq2 hk2 hbf2 ⊢
     have c3 : w2.cell? ⟨fb, 1, none⟩ = some (.slice Av L capv) := by rw [hbf2.cell]; rfl
     have z3 : w2.frozen? ⟨fb, 1, none⟩ = false := hbf2.frozen 1
     have HQ2 := zh hq2
     have HK2 := zh hk2
     have HBF2 := zh hbf2
     have HF := zh (HFIN.out _ rfl)
     clear hq2 hk2 hbf2 c2 z2
     go_wp2_with fail
     refine bodyPost_end (results_none rfl _ _ _) rfl ⟨rfl, ?_⟩
     unfold SvPost
     rw [HF.out, HLL.out]
     have hn0 := HN0.out
     have hpl : (Pl.put e.kept at_ ((c.s.take nn).take (L - at_))).length ≤ 1048576 := by
      rw [put_len (by rw [HLL.out, List.length_take, List.length_take, HS64.out]; omega), HLL.out]; exact hLk
     exact surv_fin H.out HE.out HFB.out HKB.out HK2.out HB.out HBF2.out HU.out (HQ2.out.mono hn0) (H0.out.fls e HE.out).ls hpl
    ·have h1 : ¬ (at_ : Int) < (L : Int) := by omega
     have HF := zh (HFIN.out [] (by rw [HLL.out, show L - at_ = 0 by omega]; simp))
     clear hq1 c1 z1
     go_wp2_with fail
     refine bodyPost_end (results_none rfl _ _ _) rfl ⟨rfl, ?_⟩
     unfold SvPost
     rw [HF.out, put_nil]
     exact surv_fin H.out HE.out HFB.out HKB.out HK1.out HB.out HBF1.out HU.out (HQ1.out.mono HN0.out) (H0.out.fls e HE.out).ls (by rw [HLL.out]; exact hLk)
   ·have e1 : nn = 64 := by have := HNN.out; rw [if_neg hc1] at this; omega
    subst e1
    go_enter Tryz.func62, Tryz.ntmps62
    go_upto_region 1 with fail
    have hWb := HB0.out
    rw [hB0] at hWb
    have HWB := zh hWb
    generalize hWW : w.alloc (.cells (cgA c.nm c.sec c.n (pad64 c.s)) 121) = W at *
    have HWW := zh hWW
    have s1 : W.cell? ⟨B0, 1, none⟩ = some (.int .i64 sc) := by rw [HWB.out.cell, ← HSC.out]; rfl
    have hb := HB.out
    rw [HFB.out] at hb
    have c1 : W.cell? ⟨fb, 1, none⟩ = some (.slice Av L capv) := by rw [hb.cell]; rfl
    have z1 : W.frozen? ⟨fb, 1, none⟩ = false := hb.frozen 1
    have HFL := zh hb.lt
    have HBF := zh hb
    have HWL := zh HWB.out.lt
    clear hWW hb hB0 hWb
    go_wp2_with fail
    refine (clone_ok W n0 Av L capv e.kept HLL.out.symm (by rw [HLL.out]; omega) HV.out).mono ?_
    rintro r w1 ⟨B1, k1, rfl, hq1, hk1⟩
    rw [HLL.out] at hq1 ⊢
    have c2 : w1.cell? ⟨fb, 1, none⟩ = some (.slice Av L capv) := by rw [hk1.cell HFL.out (fun q => q)]; exact c1
    have z2 : w1.frozen? ⟨fb, 1, none⟩ = false := (HBF.out.keep hk1 (fun q => q)).frozen 1
    have HBF1 := zh (HBF.out.keep hk1 (fun q => q))
    have HK1 := zh hk1
    have HQ1 := zh hq1
    by_cases hlt : at_ < L
    ·obtain ⟨g1, ds1, rfl, hg1, hb1⟩ := own_blk1 (by have := hq1.own; rw [HLL.out] at this; exact this) (by omega)
     have hcap1 : L ≤ k1 := own_cap (by have := hq1.own; rw [HLL.out] at this; exact this)
     have HG1 := zh hg1
     have h1 : (at_ : Int) < (L : Int) := by omega
     have h2 : ¬ k1 = at_ := by omega
     have h3 : at_ ≤ k1 := by omega
     have h4 : at_ ≤ L := by omega
     have h5 : (at_ : Int) ≤ (L : Int) := by omega
     have h6 : (64 : Int) ≤ 64 := by omega
     have h7 : 64 ≤ 64 := by omega
     obtain ⟨cs, hcs⟩ : ∃ cs, ((c.s.take 64).take (L - at_)).map (Value.int .u8) = cs := ⟨_, rfl⟩
     have HCS := zh hcs
     have HCSL : Hid (cs.length = Nat.min 64 (L - at_)) := zh (by rw [← hcs, List.length_map, List.length_take, List.length_take, HS64.out, Nat.min_eq_left (show 64 ≤ 64 by omega)]; exact Nat.min_comm _ _)
     have HSRC : Hid (∀ j v, cs[j]? = some v → w1.drew.cell? ((⟨B0, 3, none⟩ : Addr).add j) = some v) := zh (by
      intro j v hj
      rw [add_mk]
      have hB := (HWB.out.keep HK1.out (fun q => q))
      have : w1.drew.cell? ⟨B0, 3 + j, none⟩ = w1.cell? ⟨B0, 3 + j, none⟩ := rfl
      rw [this, hB.cell]
      rw [← HCS.out, List.getElem?_map, List.getElem?_take] at hj
      split at hj
      ·rw [List.getElem?_take] at hj
       split at hj
       ·unfold cgA cgL
        rw [pad64_full HS64.out]
        simp only [List.getElem?_toArray]
        rw [show 3 + j = j + 1 + 1 + 1 by omega]
        simp only [List.getElem?_cons_succ, List.getElem?_map]
        exact hj
       ·cases hj
      ·cases hj)
     have HTH : Hid (w1.drew.there g1 at_ cs.length) := zh (hb1.drew.there (by rw [HCSL.out]; have hmm : Nat.min 64 (L - at_) ≤ L - at_ := Nat.min_le_right _ _; simp only [List.size_toArray, List.length_append, List.length_map, HLL.out]; omega))
     have HONE : Hid (∀ v ∈ cs, v.oneCell' = true) := zh (by rw [← HCS.out]; exact u8_one _)
     have HGF : Hid (fb ≠ g1) := zh (by have := HFL.out; omega)
     clear hb1 hcs c1 z1 hq1 hg1
     go_upto_region 10 with fail
     go_region_law (first
      | (refine step_copyC rfl (.tmp 43) (.tmp 46) 68 68 rfl 5 Tryz.underlying68 infoU8 g1 at_ (L - at_) (k1 - at_) ⟨B0, 3, none⟩ 64 64 cs (by go_simp) (by go_simp) HCSL.out HSRC.out HTH.out HONE.out ?_)
      | go_simp)
     have hq2 : Bq (w1.drew.setCells g1 at_ cs) W.heap.size (.slice (some ⟨g1, 0, none⟩) L k1) (Pl.put e.kept at_ ((c.s.take 64).take (L - at_))) := by
      rw [← HCS.out]
      refine bq_write HQ1.out.drew HLL.out at_ _ ?_ ?_
      ·rw [HLL.out, List.length_take, List.length_take, HS64.out]; omega
      ·intro y hy; exact HC.out.rng y (List.mem_of_mem_take (List.mem_of_mem_take hy))
     have hk2 : Kp NoB W (w1.drew.setCells g1 at_ cs) := Kp.setCells (.inl HG1.out) _ _ _ HK1.out.drew
     have hbf2 : Blk (w1.drew.setCells g1 at_ cs) fb 128 #[u, .slice Av L capv] := Blk.farCells HGF.out _ _ _ HBF1.out.drew
     generalize w1.drew.setCells g1 at_ cs = w2 at hq2 hk2 hbf2 ⊢
     have c3 : w2.cell? ⟨fb, 1, none⟩ = some (.slice Av L capv) := by rw [hbf2.cell]; rfl
     have z3 : w2.frozen? ⟨fb, 1, none⟩ = false := hbf2.frozen 1
     have HQ2 := zh hq2
     have HK2 := zh hk2
     have HBF2 := zh hbf2
     have HF := zh (HFIN.out _ rfl)
     clear hq2 hk2 hbf2 c2 z2
     go_wp2_with fail
     refine bodyPost_end (results_none rfl _ _ _) rfl ⟨rfl, ?_⟩
     unfold SvPost
     rw [HF.out, HLL.out]
     have hn0 := HN0.out
     have hpl : (Pl.put e.kept at_ ((c.s.take 64).take (L - at_))).length ≤ 1048576 := by
      rw [put_len (by rw [HLL.out, List.length_take, List.length_take, HS64.out]; omega), HLL.out]; exact hLk
     exact surv_fin H.out HE.out HFB.out HKB.out HK2.out HB.out HBF2.out HU.out (HQ2.out.mono hn0) (H0.out.fls e HE.out).ls hpl
    ·have h1 : ¬ (at_ : Int) < (L : Int) := by omega
     have HF := zh (HFIN.out [] (by rw [HLL.out, show L - at_ = 0 by omega]; simp))
     clear hq1 c1 z1
     go_wp2_with fail
     refine bodyPost_end (results_none rfl _ _ _) rfl ⟨rfl, ?_⟩
     unfold SvPost
     rw [HF.out, put_nil]
     exact surv_fin H.out HE.out HFB.out HKB.out HK1.out HB.out HBF1.out HU.out (HQ1.out.mono HN0.out) (H0.out.fls e HE.out).ls (by rw [HLL.out]; exact hLk)
end
section
open Go.RowKit
def Nums (w : World) (A : Option Addr) (n : Nat) (xs : List Int) : Prop :=
 xs.length = n ∧ (0 < n → ∃ g o, A = some ⟨g, o, none⟩ ∧ g < w.heap.size ∧ ∀ k, k < n → w.cell? ⟨g, o + k, none⟩ = some (.int .i64 (xs.getD k 0)))
theorem Nums.keep {S : Nat → Prop} {w w' : World} {A : Option Addr} {n : Nat} {xs : List Int} (h : Nums w A n xs) (k : Kp S w w') (hS : ∀ g o, A = some ⟨g, o, none⟩ → ¬ S g) : Nums w' A n xs :=
 ⟨h.1, fun hn => by
  obtain ⟨g, o, e, hg, hc⟩ := h.2 hn
  exact ⟨g, o, e, Nat.lt_of_lt_of_le hg k.size, fun j hj => (k.cell hg (hS g o e)).trans (hc j hj)⟩⟩
theorem survive_snoc (p : Pl) : ∀ (cs : List Cg) (chs : List Int), cs.length = chs.length → ∀ (c : Cg) (ch : Int), p.survive (cs ++ [c]) (chs ++ [ch]) = ((p.survive cs chs).at_).setKept c.nm (Pl.made ((p.survive cs chs).kept c.nm) c ch) := by
 intro cs
 induction cs generalizing p with
 | nil =>
  intro chs h c ch
  have : chs = [] := List.eq_nil_of_length_eq_zero (by simpa using h.symm)
  subst this
  simp [Pl.survive]
 | cons x cs ih =>
  intro chs h c ch
  cases chs with
  | nil => simp at h
  | cons y chs =>
   simp only [List.cons_append, Pl.survive]
   exact ih _ chs (by simpa using h) c ch
theorem survive_more (p : Pl) : ∀ (cs ds : List Cg) (chs : List Int), chs.length ≤ cs.length → p.survive (cs ++ ds) chs = p.survive cs chs := by
 intro cs
 induction cs generalizing p with
 | nil =>
  intro ds chs h
  have : chs = [] := List.eq_nil_of_length_eq_zero (by simpa using h)
  subst this
  cases ds <;> simp [Pl.survive]
 | cons x cs ih =>
  intro ds chs h
  cases chs with
  | nil => simp [Pl.survive]
  | cons y chs =>
   simp only [List.cons_append, Pl.survive]
   exact ih _ ds chs (by simpa using h)
theorem survive_take (p : Pl) : ∀ (cs : List Cg) (chs : List Int), p.survive cs (chs.take cs.length) = p.survive cs chs := by
 intro cs
 induction cs generalizing p with
 | nil => intro chs; cases chs <;> simp [Pl.survive]
 | cons x cs ih =>
  intro chs
  cases chs with
  | nil => simp [Pl.survive]
  | cons y chs =>
   simp only [List.length_cons, List.take_succ_cons, Pl.survive]
   exact ih _ chs
theorem survive_pd (p : Pl) : ∀ (cs : List Cg) (chs : List Int), (p.survive cs chs).pd = p.pd ∧ (p.survive cs chs).nf ≤ p.nf + cs.length ∧ (p.survive cs chs).starts = p.starts ∧ (p.survive cs chs).room = p.room ∧ (p.survive cs chs).steps = p.steps ∧ (p.survive cs chs).crash = p.crash ∧ (p.survive cs chs).down = p.down := by
 intro cs
 induction cs generalizing p with
 | nil => intro chs; cases chs <;> simp [Pl.survive]
 | cons x cs ih =>
  intro chs
  cases chs with
  | nil => simp [Pl.survive]
  | cons y chs =>
   simp only [Pl.survive]
   obtain ⟨h1, h2, h3, h4, h5, h6, h7⟩ := ih (p.at_.setKept x.nm (Pl.made (p.kept x.nm) x y)) chs
   refine ⟨h1, ?_, h3, h4, h5, h6, h7⟩
   simp only [List.length_cons]
   have : (p.at_.setKept x.nm (Pl.made (p.kept x.nm) x y)).nf = p.nf + 1 := rfl
   omega
theorem survive_next (p : Pl) (pd : List Cg) (chs : List Int) (i : Nat) (c : Cg) (hc : pd[i]? = some c) :
  (∀ ch, chs[i]? = some ch → p.survive (pd.take (i + 1)) (chs.take (i + 1)) = ((p.survive (pd.take i) (chs.take i)).at_).setKept c.nm (Pl.made ((p.survive (pd.take i) (chs.take i)).kept c.nm) c ch)) ∧
  (chs.length ≤ i → p.survive (pd.take (i + 1)) (chs.take (i + 1)) = p.survive (pd.take i) (chs.take i)) := by
 have hi : i < pd.length := (List.getElem?_eq_some_iff.1 hc).1
 refine ⟨fun ch hch => ?_, fun hle => ?_⟩
 ·have hi2 : i < chs.length := (List.getElem?_eq_some_iff.1 hch).1
  rw [List.take_add_one, hc, List.take_add_one, hch]
  exact survive_snoc p _ _ (by simp; omega) c ch
 ·rw [List.take_of_length_le (l := chs) (i := i + 1) (by omega), List.take_of_length_le (l := chs) (i := i) hle, List.take_add_one, hc]
  exact survive_more p _ _ _ (by rw [List.length_take]; omega)
def turnF (left : List UInt8 → Bool) (fs : List Fe) : List Fe := fs.map fun e => if left (kOf e.nm) then e else { e with seen := e.kept }
theorem turnF_step {fs : List Fe} (hn : Names fs) {left : List UInt8 → Bool} {e : Fe} (he : e ∈ fs) :
  putF (turnF left fs) { e with seen := e.kept } = turnF (fun z => left z && !(z == kOf e.nm)) fs := by
 induction fs with
 | nil => simp at he
 | cons y r ih =>
  obtain ⟨h1, h2⟩ := List.pairwise_cons.1 hn
  have hnm : kOf (if left (kOf y.nm) then y else { y with seen := y.kept }).nm = kOf y.nm := by split <;> rfl
  rcases List.mem_cons.1 he with rfl | he'
  ·simp only [turnF, List.map_cons, putF]
   rw [if_pos (by split <;> rfl)]
   have : (left (kOf e.nm) && !(kOf e.nm == kOf e.nm)) = false := by simp
   simp only [this, Bool.false_eq_true, if_false]
   congr 1
   apply List.map_congr_left
   intro z hz
   have h3 := h1 z hz
   have : (kOf z.nm == kOf e.nm) = false := by simpa using fun q => h3 q.symm
   simp only [this, Bool.not_false, Bool.and_true]
  ·have h3 := h1 e he'
   simp only [turnF, List.map_cons, putF]
   rw [if_neg (by rw [hnm]; exact h3)]
   have : (kOf y.nm == kOf e.nm) = false := by simpa using h3
   simp only [this, Bool.not_false, Bool.and_true]
   congr 1
   exact ih h2 he'
theorem turnF_all (fs : List Fe) : turnF (fun _ => true) fs = fs := by unfold turnF; simp
theorem turnF_none {left : List UInt8 → Bool} {fs : List Fe} (h : ∀ k, left k = false) : turnF left fs = fs.map fun e => { e with seen := e.kept } := by unfold turnF; simp [h]
theorem turnF_same {l l' : List UInt8 → Bool} {fs : List Fe} (h : ∀ e ∈ fs, l (kOf e.nm) = l' (kOf e.nm)) : turnF l fs = turnF l' fs := by
 unfold turnF
 apply List.map_congr_left
 intro e he
 rw [h e he]
theorem seenOf_kept (fs : List Fe) : seenOf (fs.map fun e => { e with seen := e.kept }) = keptOf fs ∧ keptOf (fs.map fun e => { e with seen := e.kept }) = keptOf fs ∧ allSum (fs.map fun e => { e with seen := e.kept }) = allKept fs ∧ allKept (fs.map fun e => { e with seen := e.kept }) = allKept fs := by
 refine ⟨?_, ?_, ?_, ?_⟩
 ·funext s
  induction fs with
  | nil => rfl
  | cons y r ih =>
   rw [List.map_cons, seenOf_cons, keptOf_cons, ih]
 ·funext s
  induction fs with
  | nil => rfl
  | cons y r ih =>
   rw [List.map_cons, keptOf_cons, keptOf_cons, ih]
 ·unfold allSum allKept
  rw [List.map_map]
  rfl
 ·unfold allKept
  rw [List.map_map]
  rfl
theorem Dk.reset {n0 : Nat} {w w' : World} {x : Dd} (h : Dk n0 w x) (k : Kp (OnB x.db) w w') (starts : Int)
  (hb : Blk w' x.db 55 #[.map (some x.mb), .slice none 0 0, .int .i64 x.room, .int .i64 0, .int .i64 0, .bool false, .int .i64 starts]) :
  Dk n0 w' { x with pv := .slice none 0 0, pd := [], steps := 0, crash := 0, down := false, starts := starts } := by
 obtain ⟨D, hD, hM⟩ := h.mp
 have hmb : ¬ OnB x.db x.mb := by
  intro q
  obtain ⟨es, cl, hm, _⟩ := hD
  have := h.blk
  unfold Blk at this
  rw [← show x.mb = x.db from q, hm] at this
  cases this
 exact { h with
  blk := hb
  mp := ⟨D, k.map hD hmb, hM⟩
  fls := fun e he => (h.fls e he).keep k (by obtain ⟨u, v, hb', _⟩ := (h.fls e he).blk; exact onb_cells h.blk hb' (by decide)) (fun g cs hc => onb_cells h.blk hc (by decide))
  pend := World.ownsRow_nil _ _ _ _
  s64 := by simp
  c0 := by simp }
end
section
open Go.RowKit
attribute [local go_sem ↓] loadCg storeCg allocCg
def RePost (n0 : Nat) (w : World) (x : Dd) (p : Pl) (chs : List Int) (e : Ending) (w' : World) : Prop := e = .returned (.int .i64 p.restartE) ∧ To n0 w x (p.restart chs) w'
def ReRel (n0 : Nat) (w : World) (x : Dd) (p : Pl) (chs : List Int) (v : Value) (wr : World) : Prop :=
 ∃ (i : Nat) (xi : Dd), v = .int .i64 (i : Int) ∧ i ≤ p.pd.length ∧ Dk n0 wr xi ∧ Of xi (p.survive (p.pd.take i) (chs.take i)) ∧ xi.pv = x.pv ∧ xi.db = x.db ∧ xi.mb = x.mb ∧ Kp x.O w wr ∧ ∀ b, xi.O b → x.O b ∨ w.heap.size ≤ b
def Re2Rel (n0 : Nat) (w : World) (x : Dd) (r : Nat) (D : DataW Value) (wr : World) : Prop :=
 ∃ (left : Lit → Bool) (cnt : Nat), wr.ranges Tryz.prog 9 Rp x.mb r x.mn D left cnt ∧ Dk n0 wr { x with fs := turnF (fun k => left (.string k)) x.fs } ∧ Kp x.O w wr
theorem grown_of {w w' : World} {g : Nat} (k : Kp (OnB g) w w') : w.grownBy w' (some g) := ⟨k.os, k.tape, k.output, k.size, fun i hi hne => k.block i hi (fun q => hne (by rw [show i = g from q]))⟩
theorem Of.turn {x : Dd} {q : Pl} (h : Of x q) (s : Int) : Of { x with fs := x.fs.map fun e => { e with seen := e.kept }, pv := .slice none 0 0, pd := [], steps := 0, crash := 0, down := false, starts := s } { q with seen := q.kept, sum := q.ksum, pd := [], steps := 0, crash := 0, down := false, starts := s } :=
 {seen := by rw [(seenOf_kept x.fs).1]; exact h.kept
  kept := by rw [(seenOf_kept x.fs).2.1]; exact h.kept
  sum := by rw [(seenOf_kept x.fs).2.2.1]; exact h.ksum
  ksum := by rw [(seenOf_kept x.fs).2.2.2]; exact h.ksum
  nf := h.nf
  pd := rfl
  room := h.room
  steps := rfl
  crash := rfl
  down := rfl
  starts := rfl }
theorem turnF_mem {left : List UInt8 → Bool} {fs : List Fe} {e : Fe} (h : e ∈ turnF left fs) : ∃ e' ∈ fs, e'.fb = e.fb ∧ e'.nm = e.nm ∧ (left (kOf e.nm) = true → e = e') := by
 unfold turnF at h
 obtain ⟨e', he, rfl⟩ := List.mem_map.1 h
 by_cases hl : left (kOf e'.nm) = true
 ·refine ⟨e', he, ?_⟩
  simp [hl]
 ·refine ⟨e', he, ?_⟩
  simp [hl]
theorem findF_turn (left : List UInt8 → Bool) (fs : List Fe) (k : List UInt8) : (findF (turnF left fs) k).map (·.fb) = (findF fs k).map (·.fb) := by
 induction fs with
 | nil => rfl
 | cons y r ih =>
  unfold findF turnF at *
  rw [List.map_cons]
  have hnm : kOf (if left (kOf y.nm) then y else { y with seen := y.kept }).nm = kOf y.nm := by split <;> rfl
  have hfb : (if left (kOf y.nm) then y else { y with seen := y.kept }).fb = y.fb := by split <;> rfl
  rw [List.find?_cons, List.find?_cons, hnm]
  by_cases h : kOf y.nm = k
  ·subst h
   simp only [beq_self_eq_true, Option.map_some]
   rw [hfb]
  ·have : (kOf y.nm == k) = false := by simpa using h
   simp only [this]
   exact ih
theorem Dk.noIter {n0 : Nat} {w : World} {x : Dd} (h : Dk n0 w x) {r : Nat} {since : Nat} {seen : List Nat} {b : Option Nat} {c0 : Nat} (hr : ∃ o, w.heap[r]? = some o ∧ (∀ cs t f, o ≠ .cells cs t f) ∧ (∀ es c, o ≠ .map es c)) : (∀ b, x.O b → b ≠ r) ∧ ∀ g cs, w.heap[g]? = some (.cells cs 5 (0, 0)) → g ≠ r := by
 obtain ⟨o, hro, hnc, hnm⟩ := hr
 have cc : ∀ g cs t f, w.heap[g]? = some (.cells cs t f) → g ≠ r := by
  rintro g cs t f hg rfl
  rw [hro] at hg
  exact hnc _ _ _ (Option.some.inj hg)
 refine ⟨?_, fun g cs hg => cc g cs _ _ hg⟩
 rintro b (rfl | rfl | hb | ⟨e, he, rfl⟩)
 ·exact cc _ _ _ _ h.blk
 ·obtain ⟨D, ⟨es, cl, hb, _⟩, _⟩ := h.mp
  rintro rfl
  rw [hro] at hb
  exact hnm _ _ (Option.some.inj hb)
 ·obtain ⟨cs', hc⟩ := own_type h.pend hb
  exact cc _ _ _ _ hc
 ·obtain ⟨u, v, hb, _⟩ := (h.fls e he).blk
  exact cc _ _ _ _ hb
set_option maxRecDepth 100000 in
theorem restart_up (w : World) (n0 : Nat) (x : Dd) (p : Pl) (A : Option Addr) (n cap : Nat) (chs : List Int) (h : Dk n0 w x) (hp : Of x p) (hd : p.down = false) :
  Calls Tryz.prog 23 #[ptrV x.db, .slice A n cap] w (RePost n0 w x p chs) := by
 have H := zh h
 have HP := zh hp
 have HD := zh hd
 obtain ⟨db, hdb⟩ : ∃ db, x.db = db := ⟨_, rfl⟩
 have HX := zh hdb
 have c : w.cell? ⟨x.db, 5, none⟩ = some (.bool false) := by rw [h.blk.cell, ← hd, hp.down]; rfl
 rw [hdb] at c ⊢
 clear h hp hdb hd
 unfold ptrV
 go_enter Tryz.func23, Tryz.ntmps23
 go_wp2_with (go_at_call 27; go_must (refine (show Calls _ _ #[ptrV db] _ _ by rw [← HX.out]; exact is_ok _ _ _ H.out).mono ?_); rintro e w2 ⟨rfl, rfl⟩)
 go_ret
 exact ⟨by unfold Pl.restartE; rw [HD.out]; rfl, by unfold Pl.restart; rw [HD.out]; exact To.refl H.out HP.out⟩
set_option maxRecDepth 100000 in
set_option maxHeartbeats 1600000 in
theorem restart_main (w : World) (n0 : Nat) (x : Dd) (p : Pl) (A : Option Addr) (n cap : Nat) (chs : List Int) (h : Dk n0 w x) (hp : Of x p) (hd : p.down = true) (hc : Nums w A n chs) (hA : ∀ g o, A = some ⟨g, o, none⟩ → 0 < n → ¬ x.O g) (hch : ∀ y ∈ chs, -9223372036854775808 ≤ y ∧ y ≤ 9223372036854775807)
  (hn63 : n ≤ 9223372036854775807) (hm : p.nf + p.pd.length < 1099511627776 - 10) (hn0 : n0 ≤ w.heap.size) :
  Calls Tryz.prog 23 #[ptrV x.db, .slice A n cap] w (RePost n0 w x p chs) := by
 have H := zh h
 have HP := zh hp
 have HD := zh hd
 have HC := zh hc
 have HA := zh hA
 have HCH := zh hch
 have HM := zh hm
 have HN0 := zh hn0
 obtain ⟨db, hdb⟩ : ∃ db, x.db = db := ⟨_, rfl⟩
 have HX := zh hdb
 have c5 : w.cell? ⟨x.db, 5, none⟩ = some (.bool true) := by rw [h.blk.cell, ← hd, hp.down]; rfl
 obtain ⟨pl, hpl⟩ : ∃ pl, p.pd.length = pl := ⟨_, rfl⟩
 have HPL := zh hpl
 obtain ⟨Ap, kp, hpv⟩ := own_slice h.pend
 rw [← hp.pd, hpl] at hpv
 have HPV := zh hpv
 have c1 : w.cell? ⟨x.db, 1, none⟩ = some (.slice Ap pl kp) := by rw [h.blk.cell, ← hpv]; rfl
 have hplb : pl < 1099511627776 := by omega
 have HOK : Hid (∀ c ∈ p.pd, CgOk c) := zh (by rw [hp.pd]; exact h.s64)
 rw [hdb] at c5 c1 ⊢
 clear h hp hd hc hA hch hm hn0 hdb hpl hpv
 unfold ptrV
 go_enter Tryz.func23, Tryz.ntmps23
 go_wp2_with (go_at_call 27; go_must (refine (show Calls _ _ #[ptrV db] _ _ by rw [← HX.out]; exact is_ok _ _ _ H.out).mono ?_); rintro e w2 ⟨rfl, rfl⟩)
 go_loopw [24] (fun v wr => ReRel n0 w x p chs v wr) (fun v _ => pl - (intOf v).toNat)
 case atStart => exact ⟨0, x, rfl, Nat.zero_le _, H.out, by simpa [Pl.survive] using HP.out, rfl, rfl, rfl, Kp.refl _ _, fun b hb => .inl hb⟩
 case round =>
  obtain ⟨i, xi, rfl, hi, hdk, hof, hpv, hdb, hmb, hkp, ho⟩ := hrel
  have HI := zh hi
  have HDK := zh hdk
  have HOF := zh hof
  have HPVI := zh hpv
  have HDB := zh hdb
  have HMB := zh hmb
  have HKP := zh hkp
  have HO := zh ho
  clear hi hdk hof hpv hdb hmb hkp ho c1 c5
  by_cases hlt : i < pl
  ·have hpdi : xi.pd = p.pd := by rw [← HOF.out.pd]; exact (survive_pd p _ _).1
   have hrow : wr.ownsRow n0 121 67 (.slice Ap pl kp) pl (cgCells p.pd) := by
    have := HDK.out.pend
    rw [hpdi, HPVI.out, HPV.out, HPL.out] at this
    exact this
   obtain ⟨g, ds, rfl, hg, hb⟩ := own_blkN hrow (by omega)
   obtain ⟨t0, r0⟩ := cg_at hb HOK.out i (by have := HPL.out; omega)
   obtain ⟨c, hc, hcm⟩ := cg_eta p.pd i (by have := HPL.out; omega)
   rw [hc] at r0
   have HC' : Hid (p.pd[i]? = some c) := zh (by rw [List.getElem?_eq_getElem (by have := HPL.out; omega), hc])
   have hck := HOK.out c hcm
   have HCK := zh hck
   have hii : (i : Int) < (pl : Int) := by omega
   have hzb : Blk (wr.alloc (.cells (cgA ⟨#[]⟩ 0 0 (zeros 64)) 121)) wr.heap.size 121 (cgA ⟨#[]⟩ 0 0 (zeros 64)) := Blk.new _ _ _
   have t1 := hzb.thereAll 67 (by rw [cgA_size]; rfl)
   have on1 : ones (cgA c.nm c.sec c.n (pad64 c.s)) := cgA_ones _ _ _ _
   have sz1 : (cgA c.nm c.sec c.n (pad64 c.s)).size = 67 := by rw [cgA_size, hck.pad]
   clear hpdi hrow hb hc hcm hck hzb
   by_cases hin : i < n
   ·have hin2 : (i : Int) < (n : Int) := by omega
    obtain ⟨gc, oc, rfl, hgc, hcc⟩ := HC.out.2 (by omega)
    have hci := hcc i hin
    obtain ⟨ch, hche⟩ : ∃ ch, chs.getD i 0 = ch := ⟨_, rfl⟩
    rw [hche] at hci
    have HCHE : Hid (chs[i]? = some ch) := zh (by
     have := HC.out.1
     rw [List.getElem?_eq_getElem (by omega), ← hche, List.getD_eq_getElem?_getD, List.getElem?_eq_getElem (by omega)]
     rfl)
    have HCR : Hid (-9223372036854775808 ≤ ch ∧ ch ≤ 9223372036854775807) := zh (HCH.out ch (List.mem_of_getElem? HCHE.out))
    have HGC := zh hgc
    have HIN := zh hin
    have HCI := zh hci
    clear hgc hcc hci hche
    go_upto_region 9 with fail
    obtain ⟨g8, hg8⟩ : ∃ g8, wr.heap.size = g8 := ⟨_, rfl⟩
    have HG8 := zh hg8
    have hb8 : Blk ((wr.alloc (.cells (cgA ⟨#[]⟩ 0 0 (zeros 64)) 121)).setCells wr.heap.size 0 (cgA c.nm c.sec c.n (pad64 c.s)).toList) wr.heap.size 121 (cgA c.nm c.sec c.n (pad64 c.s)) := (Blk.new wr 121 _).whole _ (by rw [cgA_size, cgA_size, HCK.out.pad]; rfl)
    have hk8 : Kp NoB wr ((wr.alloc (.cells (cgA ⟨#[]⟩ 0 0 (zeros 64)) 121)).setCells wr.heap.size 0 (cgA c.nm c.sec c.n (pad64 c.s)).toList) := Kp.setCells (.inl (Nat.le_refl _)) _ _ _ ((Kp.refl NoB wr).alloc _)
    rw [hg8] at hb8 hk8 ⊢
    generalize (wr.alloc (.cells (cgA ⟨#[]⟩ 0 0 (zeros 64)) 121)).setCells g8 0 (cgA c.nm c.sec c.n (pad64 c.s)).toList = w8 at hb8 hk8 ⊢
    have HB8 := zh hb8
    have HK8 := zh hk8
    have HD8 := zh (HDK.out.keep hk8 (fun _ _ q => q) (fun _ _ _ q => q))
    have hk08 : Kp x.O w w8 := HKP.out.trans hk8 (fun _ _ q => q.elim)
    have HK08 := zh hk08
    have s0 : w8.cell? ⟨g8, 0, none⟩ = some (.string c.nm) := by rw [hb8.cell]; rfl
    have s1 := hb8.thereAll 67 (by rw [cgA_size, HCK.out.pad])
    have s2 := hb8.readAll 67 (by rw [cgA_size, HCK.out.pad])
    have s3 : w8.cell? ⟨gc, oc + i, none⟩ = some (.int .i64 ch) := by rw [hk08.cell HGC.out (HA.out gc oc rfl (Nat.zero_lt_of_lt HIN.out))]; exact HCI.out
    clear hg8 hb8 hk8 hk08 t0 r0 t1 on1 sz1
    go_region_held3 (fun w' => w'.cell? ⟨g8, 0, none⟩ = some (.string c.nm) ∧ w'.there g8 0 67 ∧ readRow w' g8 0 67 = cgA c.nm c.sec c.n (pad64 c.s) ∧ w'.cell? ⟨gc, oc + i, none⟩ = some (.int .i64 ch))
     (first | exact ⟨s0, s1, s2, s3⟩ | exact ⟨v0, v1, v2, v3⟩ | exact ⟨y0, y1, y2, y3⟩ | go_keep)
     (first
      | (go_at_call 61; go_must (refine (show Calls _ _ #[ptrV db, .string c.nm] _ _ by rw [← HX.out, ← HDB.out]; exact at_ok _ n0 xi c.nm HCK.out.nl (by have := HOF.out.nf; have := (survive_pd p (p.pd.take i) (chs.take i)).2.1; have := HM.out; have := HPL.out; simp only [List.length_take] at *; omega) (by exact Nat.le_trans HN0.out HK08.out.size) (HD8.out.keep ((Kp.refl NoB w8).drew) (fun _ _ q => q) (fun _ _ _ q => q))).mono ?_); rintro e w9 ⟨e0, m2, rfl, hd9, hm9, hnm9, hsn9, hkp9, hk9, hfb9⟩; have HD9 := zh hd9; have hk9' := (Kp.refl (OnB xi.mb) w8).drew.trans hk9 (fun _ _ q => q); have HK9 := zh hk9'; have HF0 := zh (findF_some (show findF (putF xi.fs e0) (kOf e0.nm) = some e0 by rw [putF_find, if_pos rfl])).1; have HO9 := zh (O_at (m := m2) HD8.out hk9' hfb9); have HQ9 := zh (HOF.out.at_ e0 m2 hm9 (by rw [hsn9, hnm9]) (by rw [hkp9, hnm9])); have HE9 := zh (show e0.nm = c.nm ∧ e0.kept = keptOf xi.fs c.nm from ⟨hnm9, hkp9⟩); have n8 : ¬ OnB xi.mb g8 := (fun q => by have h1 := H.out.lt x.mb (.inr (.inl rfl)); have h2 := HKP.out.size; have h3 : g8 = xi.mb := q; have h4 := HMB.out; have h5 := HG8.out; omega); have nc : ¬ OnB xi.mb gc := (fun q => HA.out gc oc rfl (Nat.zero_lt_of_lt HIN.out) (.inr (.inl (by rw [← HMB.out]; exact q)))); have v0 := (hk9'.cell HB8.out.lt n8).trans s0; have v1 := there_congr (hk9'.block g8 HB8.out.lt n8) s1; have v2 := (readRow_congr (hk9'.block g8 HB8.out.lt n8)).trans s2; have v3 := (hk9'.cell (Nat.lt_of_lt_of_le HGC.out HK08.out.size) nc).trans s3; clear hd9 hm9 hnm9 hsn9 hkp9 hk9 hfb9 hk9' n8 nc)
      | (go_at_call 62; go_must (refine (survive_ok w9 n0 _ e0 c ch HCR.out HD9.out HF0.out HCK.out (Nat.le_trans HN0.out (Nat.le_trans HK08.out.size HK9.out.size))).mono ?_); rintro r w10 ⟨rfl, hd10, hk10⟩; have HD10 := zh hd10; have HK10 := zh hk10; have hO9 := HO9.out.2 e0.fb (.inr (.inr (.inr ⟨e0, HF0.out, rfl⟩))); have n8' : ¬ OnB e0.fb g8 := (fun q => by have h3 : g8 = e0.fb := q; have h5 := HG8.out; have h6 := HB8.out.lt; exact hO9.elim (fun q2 => by have h7 := HDK.out.lt _ q2; omega) (fun q2 => by omega)); have nc' : ¬ OnB e0.fb gc := (fun q => by have h3 : gc = e0.fb := q; have h6 := HGC.out; have h7 := HK08.out.size; exact hO9.elim (fun q2 => (HO.out _ q2).elim (fun q3 => HA.out gc oc rfl (Nat.zero_lt_of_lt HIN.out) (by rw [h3]; exact q3)) (fun q3 => by omega)) (fun q2 => by omega)); have g8l := Nat.lt_of_lt_of_le HB8.out.lt HK9.out.size; have y0 := (hk10.cell g8l n8').trans v0; have y1 := there_congr (hk10.block g8 g8l n8') v1; have y2 := (readRow_congr (hk10.block g8 g8l n8')).trans v2; have y3 := (hk10.cell (Nat.lt_of_lt_of_le HGC.out (Nat.le_trans HK08.out.size HK9.out.size)) nc').trans v3; clear hd10 hk10 hO9 n8' nc' g8l))
    go_wp2_with fail
    have hkf : Kp x.O w w10 := (HK08.out.trans (HO9.out.1.trans HK10.out (fun b hb q => by
      rcases HO9.out.2 b (.inr (.inr (.inr ⟨e0, HF0.out, q⟩))) with q | q
      ·exact q
      ·omega)) (fun b hb q => by
     rcases HO.out b q with q | q
     ·exact q
     ·omega))
    refine ⟨⟨i + 1, { xi with fs := putF (putF xi.fs e0) { e0 with kept := Pl.made e0.kept c ch }, mn := m2 }, by go_num, by have := HPL.out; omega, HD10.out, ?_, HPVI.out, HDB.out, HMB.out, hkf, ?_⟩, by simp [intOf]; omega⟩
    ·rw [(survive_next p p.pd chs i c HC'.out).1 ch HCHE.out]
     have := HQ9.out.setKept { e0 with kept := Pl.made e0.kept c ch } (by simp only [seenOf_put, upd_same])
     have e1 := HE9.out.1
     have e2 := HE9.out.2
     rw [HOF.out.kept_eq] at e2
     simp only [e1, e2] at this ⊢
     exact this
    ·intro b hb
     have h1 := O_put (x := { xi with fs := putF xi.fs e0, mn := m2 }) (e := { e0 with kept := Pl.made e0.kept c ch }) ⟨e0, HF0.out, rfl⟩ b hb
     rcases HO9.out.2 b h1 with q | q
     ·exact HO.out b q
     ·exact .inr (Nat.le_trans HK08.out.size q)
   ·have hin2 : ¬ (i : Int) < (n : Int) := by omega
    have kz : Kp NoB wr ((wr.alloc (.cells (cgA ⟨#[]⟩ 0 0 (zeros 64)) 121)).setCells wr.heap.size 0 (cgA c.nm c.sec c.n (pad64 c.s)).toList) := Kp.setCells (.inl (Nat.le_refl _)) _ _ _ ((Kp.refl NoB wr).alloc _)
    have KZ := zh kz
    clear kz
    go_wp2_with fail
    have kz := KZ.out
    refine ⟨⟨i + 1, xi, by go_num, by have := HPL.out; omega, ?_, ?_, HPVI.out, HDB.out, HMB.out, ?_, HO.out⟩, by simp [intOf]; omega⟩
    ·exact HDK.out.keep kz (fun _ _ q => q) (fun _ _ _ q => q)
    ·rw [(survive_next p p.pd chs i c HC'.out).2 (by have := HC.out.1; omega)]; exact HOF.out
    ·exact HKP.out.trans kz (fun _ _ q => q.elim)
  ·have hii : ¬ (i : Int) < (pl : Int) := by omega
   have eip : i = pl := by have := HI.out; have := HPL.out; omega
   have HP1 : Hid (Of xi (p.survive p.pd chs)) := zh (by
    have := HOF.out
    rw [eip, ← HPL.out, List.take_length, survive_take] at this
    exact this)
   obtain ⟨D, hD, hM⟩ := HDK.out.mp
   have HDm := zh hD
   have HMm := zh hM
   have c0 : wr.cell? ⟨db, 0, none⟩ = some (.map (some xi.mb)) := by rw [← HX.out, ← HDB.out, HDK.out.blk.cell]; rfl
   obtain ⟨w1, hw1⟩ : ∃ w1 : World, w1 = wr := ⟨_, rfl⟩
   subst hw1
   clear hD hM
   go_wp2_with (at_range; refine wpList_range_own _ rfl _ 52 rfl 9 122 keyed Tryz.underlying52 Rp xi.mb xi.mn D rfl HDm.out ?_; intro w0 hrg0 hg0 hs0)
   go_loopw [8] (fun _ wr => Re2Rel n0 w1 xi w1.heap.size D wr) (fun _ wr => wr.rangeLeft xi.mb w1.heap.size)
   case atStart =>
    have hk0 : Kp xi.O w1 w0 := (Kp.refl _ w1).grown hg0 (by simp)
    refine ⟨Maps.has D, Maps.size D, hrg0, ?_, hk0⟩
    have : turnF (fun k => Maps.has D (.string k)) xi.fs = xi.fs := by
     rw [turnF_same (l' := fun _ => true) (fun e he => by rw [HMm.out.has, HDK.out.names.find he]; rfl), turnF_all]
    rw [this]
    exact HDK.out.keep ((Kp.refl NoB w1).grown hg0 (by simp)) (fun _ _ q => q) (fun _ _ _ q => q)
   case round =>
    obtain ⟨left, cnt, hrg, hdk, hkp⟩ := hrel
    have HRG := zh hrg
    have HDT := zh hdk
    have HKT := zh hkp
    clear hdk hkp hrg0 hg0 hs0 hii hlt c0 eip
    go_wp2_with (at_next; refine wpList_next_ranges _ rfl _ rfl 9 keyed Rp Value.string Value.pointer (fun key kl hk => keyS_inv hk) (fun v y hv => by obtain ⟨p, rfl, _⟩ := Rp_inv hv; exact ⟨p, rfl⟩) xi.mb w1.heap.size xi.mn D left cnt rfl hrg ?_ ?_)
    ·intro _ hl0
     have hfs := turnF_none (fs := xi.fs) (left := fun k => left (.string k)) (fun k => hl0 _)
     have HFS := zh hfs
     have hb := HDT.out.blk
     have HB := zh hb
     have d3 : wr.cell? ⟨db, 3, none⟩ = some (.int .i64 xi.steps) := by rw [← HX.out, ← HDB.out, hb.cell]; rfl
     have d1 : wr.cell? ⟨db, 1, none⟩ = some (.slice Ap pl kp) := by rw [← HX.out, ← HDB.out, hb.cell, ← HPV.out, ← HPVI.out]; rfl
     have d4 : wr.cell? ⟨db, 4, none⟩ = some (.int .i64 xi.crash) := by rw [← HX.out, ← HDB.out, hb.cell]; rfl
     have d5 : wr.cell? ⟨db, 5, none⟩ = some (.bool xi.down) := by rw [← HX.out, ← HDB.out, hb.cell]; rfl
     have d6 : wr.cell? ⟨db, 6, none⟩ = some (.int .i64 xi.starts) := by rw [← HX.out, ← HDB.out, hb.cell]; rfl
     have z1 : wr.frozen? ⟨db, 1, none⟩ = false := by rw [← HX.out, ← HDB.out]; exact hb.frozen 1
     have z3 : wr.frozen? ⟨db, 3, none⟩ = false := by rw [← HX.out, ← HDB.out]; exact hb.frozen 3
     have z4 : wr.frozen? ⟨db, 4, none⟩ = false := by rw [← HX.out, ← HDB.out]; exact hb.frozen 4
     have z5 : wr.frozen? ⟨db, 5, none⟩ = false := by rw [← HX.out, ← HDB.out]; exact hb.frozen 5
     have z6 : wr.frozen? ⟨db, 6, none⟩ = false := by rw [← HX.out, ← HDB.out]; exact hb.frozen 6
     have hws : IntKind.i64.wrap (xi.starts + 1) = wrp (xi.starts + 1) := rfl
     clear hl0 hfs hb hrg
     go_wp2_with fail
     go_ret
     have hbF := ((((HB.out.set_ 1 (.slice none 0 0)).set_ 3 (.int .i64 0)).set_ 4 (.int .i64 0)).set_ 5 (.bool false)).set_ 6 (.int .i64 (wrp (xi.starts + 1)))
     have kF := (((((Kp.refl (OnB xi.db) wr).setAt (show OnB xi.db xi.db from rfl) 1 (.slice none 0 0)).setAt (show OnB xi.db xi.db from rfl) 3 (.int .i64 0)).setAt (show OnB xi.db xi.db from rfl) 4 (.int .i64 0)).setAt (show OnB xi.db xi.db from rfl) 5 (.bool false)).setAt (show OnB xi.db xi.db from rfl) 6 (.int .i64 (wrp (xi.starts + 1)))
     have hF := HDT.out.reset kF (wrp (xi.starts + 1)) (by simpa [diskCells] using hbF)
     rw [HFS.out] at hF
     have edb : xi.db = db := HDB.out.trans HX.out
     have kT : Kp x.O w wr := HKP.out.trans HKT.out (fun b hb q => by
      rcases HO.out b q with q | q
      ·exact q
      ·omega)
     have kFin := kT.trans kF (S' := OnB xi.db) (fun b _ q => .inl (by rw [← HDB.out]; exact q))
     have eres : p.restart chs = { p.survive p.pd chs with seen := (p.survive p.pd chs).kept, sum := (p.survive p.pd chs).ksum, pd := [], steps := 0, crash := 0, down := false, starts := wrp (xi.starts + 1) } := by
      unfold Pl.restart
      rw [HD.out]
      have e1 := HP1.out.starts
      rw [(survive_pd p p.pd chs).2.2.1] at e1
      simp only [if_true, e1]
     refine ⟨by unfold Pl.restartE; rw [HD.out]; rfl, ?_⟩
     rw [eres, ← edb]
     refine ⟨_, hF, HP1.out.turn _, HDB.out, kFin, fun b hb => ?_⟩
     rcases hb with q | q | q | ⟨e, he, rfl⟩
     ·exact HO.out b (.inl q)
     ·exact HO.out b (.inr (.inl q))
     ·cases q
     ·obtain ⟨e', he', rfl⟩ := List.mem_map.1 he
      exact HO.out _ (.inr (.inr (.inr ⟨e', he', rfl⟩)))
    ·intro x1 c kl a b w3 cnt3 hkey hlk hv hat hrg3 hlt hg3 hs3 hen
     have hM' : MpD D (turnF (fun k => left (.string k)) xi.fs) := HMm.out.same (fun k => findF_turn _ _ _)
     obtain ⟨e1, he1, rfl, rfl, B, cp, ce⟩ := next_fact HDT.out hM' (Kp.refl NoB wr) hkey hv hat
     obtain ⟨e, he, hfbe, hnme, hee⟩ := turnF_mem (left := fun k => left (.string k)) (fs := xi.fs) he1
     obtain rfl := hee hlk
     obtain ⟨u, v, hb, hu, hq⟩ := (HDT.out.fls e1 he1).blk
     obtain ⟨Au, cu, rfl⟩ := hu.form
     obtain ⟨Av, cv, rfl⟩ := hq.form
     obtain ⟨fb, hfb⟩ : ∃ fb, e1.fb = fb := ⟨_, rfl⟩
     obtain ⟨L, hL⟩ : ∃ L, e1.seen.length = L := ⟨_, rfl⟩
     obtain ⟨L2, hL2⟩ : ∃ L2, e1.kept.length = L2 := ⟨_, rfl⟩
     have hit : ∃ o, wr.heap[w1.heap.size]? = some o ∧ (∀ cs t f, o ≠ .cells cs t f) ∧ (∀ es c, o ≠ .map es c) := by
      obtain ⟨es, clock, since, seen, c0, _, _, _, _, hr, _⟩ := hrg
      exact ⟨_, hr, (fun _ _ _ q => by cases q), (fun _ _ q => by cases q)⟩
     have hnoi := HDT.out.noIter (since := 0) (seen := []) (b := none) (c0 := 0) hit
     have k3 : Kp (OnB w1.heap.size) wr w3 := (Kp.refl _ wr).grown hg3 (fun k hk => .inr (by injection hk with hk; exact hk.symm))
     have HD3 := zh (HDT.out.keep k3 hnoi.1 hnoi.2)
     have hb3 : Blk w3 e1.fb 128 #[.slice Au e1.seen.length cu, .slice Av e1.kept.length cv] := hb.keep k3 (hnoi.1 _ (.inr (.inr (.inr ⟨e1, he1, rfl⟩))))
     have hq3 : Bq w3 n0 (.slice Av e1.kept.length cv) e1.kept := hq.keep k3 (fun g cs hg => hnoi.2 g cs hg)
     have HB3 := zh hb3
     have HQ3 := zh hq3
     have HE := zh he
     have HE1 := zh he1
     have HR3 := zh hrg3
     have HLT := zh hlt
     have HK3 := zh k3
     have HLK := zh hlk
     have c5 : w3.cell? ⟨fb, 0, none⟩ = some (.slice Au L cu) := by rw [← hfb, hb3.cell, ← hL]; rfl
     have c6 : w3.cell? ⟨fb, 1, none⟩ = some (.slice Av L2 cv) := by rw [← hfb, hb3.cell, ← hL2]; rfl
     have z5 : w3.frozen? ⟨fb, 0, none⟩ = false := by rw [← hfb]; exact hb3.frozen 0
     have hfn : fb ≠ w1.heap.size := by rw [← hfb]; exact hnoi.1 _ (.inr (.inr (.inr ⟨e1, he1, rfl⟩)))
     have HFN := zh hfn
     have HFB := zh hfb
     have HL2 := zh hL2
     rw [hfb] at hen
     clear hkey hlk hv hat hrg3 hlt hg3 hs3 he he1 hfbe hnme hee hu hq hb hit hnoi k3 hb3 hq3 hM' hfn hrg ce hfb hL hL2
     go_wp2_with fail
     have kst : Kp (OnB e1.fb) w3 (w3.setCell ⟨fb, 0, none⟩ (.slice Av L2 cv)) := (Kp.refl _ w3).setAt (show OnB e1.fb fb from HFB.out.symm) 0 _
     have hbN : Blk (w3.setCell ⟨fb, 0, none⟩ (.slice Av L2 cv)) e1.fb 128 #[.slice Av L2 cv, .slice Av L2 cv] := by
      have := HB3.out.set_ 0 (.slice Av L2 cv)
      rw [← HFB.out]
      rw [HL2.out] at this
      exact this
     have hqN : Bq (w3.setCell ⟨fb, 0, none⟩ (.slice Av L2 cv)) n0 (.slice Av L2 cv) e1.kept := by
      have := HQ3.out.keep kst (fun g cs hg q => onb_cells HB3.out hg (by decide) q)
      rw [HL2.out] at this
      exact this
     have hlk9 : e1.kept.length ≤ 1048576 := (HDK.out.fls e1 HE.out).lk
     have hdN := HD3.out.refile HE1.out kst { e1 with seen := e1.kept } rfl rfl ⟨⟨_, _, hbN, hqN, hqN⟩, hlk9, hlk9⟩
     have est := turnF_step (left := fun k => left (.string k)) HDK.out.names HE.out
     refine ⟨⟨_, cnt3, HR3.out.kept (grown_of kst) ?_ ?_, ?_, ?_⟩, ?_⟩
     ·intro q
      obtain ⟨u, v, hbb, _⟩ := (HDK.out.fls e1 HE.out).blk
      obtain ⟨D2, ⟨es, cl, hmb, _⟩, _⟩ := HDK.out.mp
      injection q with q
      unfold Blk at hbb
      rw [← q, hmb] at hbb
      cases hbb
     ·intro q
      injection q with q
      exact HFN.out (by rw [← HFB.out, ← q])
     ·simp only [est] at hdN
      exact hdN
     ·refine (HKT.out.trans HK3.out (fun b hb q => absurd hb (by rw [show b = w1.heap.size from q]; omega))).trans kst (fun b _ q => .inr (.inr (.inr ⟨e1, HE.out, q⟩)))
     ·rw [(HR3.out.kept (grown_of kst) ?_ ?_).left_eq, HRG.out.left_eq]
      ·exact HLT.out
      ·intro q
       obtain ⟨u, v, hbb, _⟩ := (HDK.out.fls e1 HE.out).blk
       obtain ⟨D2, ⟨es, cl, hmb, _⟩, _⟩ := HDK.out.mp
       injection q with q
       unfold Blk at hbb
       rw [← q, hmb] at hbb
       cases hbb
      ·intro q
       injection q with q
       exact HFN.out (by rw [← HFB.out, ← q])
theorem restart_ok (w : World) (n0 : Nat) (x : Dd) (p : Pl) (A : Option Addr) (n cap : Nat) (chs : List Int) (h : Dk n0 w x) (hp : Of x p) (hc : Nums w A n chs) (hA : ∀ g o, A = some ⟨g, o, none⟩ → 0 < n → ¬ x.O g) (hch : ∀ y ∈ chs, -9223372036854775808 ≤ y ∧ y ≤ 9223372036854775807)
  (hn63 : n ≤ 9223372036854775807) (hm : p.nf + p.pd.length < 1099511627776 - 10) (hn0 : n0 ≤ w.heap.size) :
  Calls Tryz.prog 23 #[ptrV x.db, .slice A n cap] w (RePost n0 w x p chs) := by
 rcases hd : p.down with _ | _
 ·exact restart_up w n0 x p A n cap chs h hp hd
 ·exact restart_main w n0 x p A n cap chs h hp hd hc hA hch hn63 hm hn0
end
section
open Go.RowKit
def Da (W0 w : World) (db : Nat) (p : Pl) : Prop := ∃ x, x.db = db ∧ Dk W0.heap.size w x ∧ Of x p ∧ Kp NoB W0 w ∧ ∀ b, x.O b → W0.heap.size ≤ b
theorem Da.keep {W0 w w' : World} {db : Nat} {p : Pl} (h : Da W0 w db p) (k : Kp NoB w w') : Da W0 w' db p := by
 obtain ⟨x, e, hd, hp, hk, ho⟩ := h
 exact ⟨x, e, hd.keep k (fun _ _ q => q) (fun _ _ _ q => q), hp, hk.trans k (fun _ _ q => q), ho⟩
theorem Da.kp {W0 w : World} {db : Nat} {p : Pl} (h : Da W0 w db p) : Kp NoB W0 w := by
 obtain ⟨x, e, hd, hp, hk, ho⟩ := h
 exact hk
section
variable {W0 w : World} {db : Nat} {p : Pl}
end
theorem Nums.nil (w : World) : Nums w none 0 [] := ⟨rfl, fun h => absurd h (by omega)⟩
end
section
open Go.RowKit
def Dq (S : Nat → Prop) (W0 w : World) (db : Nat) (p : Pl) : Prop := ∃ x, x.db = db ∧ Dk 0 w x ∧ Of x p ∧ Kp S W0 w ∧ (∀ b, x.O b → S b ∨ W0.heap.size ≤ b) ∧ ∀ b, S b → b < W0.heap.size
section
variable {S : Nat → Prop} {W0 w w' : World} {db : Nat} {p p' : Pl}
theorem Dq.kp (h : Dq S W0 w db p) : Kp S W0 w := by
 obtain ⟨x, e, hd, hp, hk, ho, hs⟩ := h
 exact hk
theorem Dq.lt (h : Dq S W0 w db p) : ∀ b, S b → b < W0.heap.size := by
 obtain ⟨x, e, hd, hp, hk, ho, hs⟩ := h
 exact hs
theorem Dq.keep (h : Dq S W0 w db p) (k : Kp NoB w w') : Dq S W0 w' db p := by
 obtain ⟨x, e, hd, hp, hk, ho, hs⟩ := h
 exact ⟨x, e, hd.keep k (fun _ _ q => q) (fun _ _ _ q => q), hp, hk.trans k (fun _ _ q => q.elim), ho, hs⟩
theorem Dq.base (h : Dq S W0 w db p) : ∃ S', Dq S' w w db p ∧ (∀ b, S' b → S b ∨ W0.heap.size ≤ b) := by
 obtain ⟨x, e, hd, hp, hk, ho, hs⟩ := h
 exact ⟨x.O, ⟨x, e, hd, hp, Kp.refl _ _, fun b q => .inl q, hd.lt⟩, ho⟩
theorem Dq.base1 (h : Dq S w w db p) (k : Kp NoB w w') : Dq S w' w' db p := by
 obtain ⟨x, e, hd, hp, hk, ho, hs⟩ := h
 refine ⟨x, e, hd.keep k (fun _ _ q => q) (fun _ _ _ q => q), hp, Kp.refl _ _, fun b hb => ?_, fun b hb => Nat.lt_of_lt_of_le (hs b hb) k.size⟩
 rcases ho b hb with q | q
 ·exact .inl q
 ·have := hd.lt b hb
  omega
theorem Dq.tr {S' : Nat → Prop} {w0 : World} (h : Dq S' w w' db p') (k : Kp S W0 w) (hS : ∀ b, S' b → S b ∨ W0.heap.size ≤ b) (hs : ∀ b, S b → b < W0.heap.size) : Dq S W0 w' db p' := by
 obtain ⟨x, e, hd, hp, hk, ho, _⟩ := h
 refine ⟨x, e, hd, hp, k.trans hk (fun b hb q => ?_), fun b hb => ?_, hs⟩
 ·rcases hS b q with q | q
  ·exact q
  ·omega
 ·rcases ho b hb with q | q
  ·exact hS b q
  ·exact .inr (Nat.le_trans k.size q)
theorem Dq.up (h : Dq S w' w' db p) (k : Kp NoB w w') (hs : ∀ b, S b → b < w.heap.size) {w2 : World} (h2 : Dq S w' w2 db p') : Dq S w w2 db p' :=
 Dq.tr (w0 := w) h2 (k.mono (fun _ _ q => q.elim)) (fun _ q => .inl q) hs
theorem dq_of {x : Dd} {n0 : Nat} (hd : x.db = db) (hk : Kp S W0 w) (ho : ∀ b, x.O b → S b ∨ W0.heap.size ≤ b) (hs : ∀ b, S b → b < W0.heap.size) (h : To 0 w x p' w') : Dq S W0 w' db p' := by
 obtain ⟨x', hd', hp, e, k, o⟩ := h
 refine ⟨x', e.trans hd, hd', hp, hk.trans k (fun i hi q => ?_), fun b hb => ?_, hs⟩
 ·rcases ho i q with q | q
  ·exact q
  ·omega
 ·rcases o b hb with q | q
  ·exact ho b q
  ·exact .inr (Nat.le_trans hk.size q)
theorem new_q (w : World) (r : Int) (hr : -9223372036854775808 ≤ r ∧ r ≤ 9223372036854775807) :
  Calls Tryz.prog 5 #[.int .i64 r] w fun e w' => ∃ db, e = .returned (ptrV db) ∧ Dq (fun _ => False) w w' db (Pl.new r) :=
 (new_ok w r hr 0 (Nat.zero_le _)).mono fun e w' ⟨db, mb, he, hd, k, h1, h2⟩ => ⟨db, he, _, rfl, hd, ⟨rfl, rfl, rfl, rfl, Nat.le_refl _, rfl, rfl, rfl, rfl, rfl, rfl⟩, k, by
  refine ⟨?_, fun b q => q.elim⟩
  rintro b (rfl | rfl | q | ⟨e, he, rfl⟩)
  ·exact .inr h1
  ·exact .inr h2
  ·cases q
  ·cases he⟩
theorem write_q (h : Dq S W0 w db p) (s : ByteArray) (a : Int) (d : ByteArray) (hs : s.size ≤ maxLen) (hds : d.size ≤ maxLen) (hm : p.sm 20000) :
  Calls Tryz.prog 25 #[ptrV db, .string s, .int .i64 a, .string d] w fun e w' => e = .returned (.int .i64 (p.writeE s a (strI d))) ∧ Dq S W0 w' db (p.write s a (strI d)) := by
 obtain ⟨x, rfl, hd, hp, hk, ho, hz⟩ := h
 unfold Pl.sm at hm
 exact (write_ok w _ x p s a d hd hp hs hds (Nat.zero_le _) (by omega) (by omega)).mono fun e w' ⟨he, ht⟩ => ⟨he, dq_of (n0 := 0) rfl hk ho hz ht⟩
theorem trunc_q (h : Dq S W0 w db p) (s : ByteArray) (n : Int) (hn : -9223372036854775808 ≤ n ∧ n ≤ 9223372036854775807) (hs : s.size ≤ maxLen) (hm : p.sm 20000) :
  Calls Tryz.prog 50 #[ptrV db, .string s, .int .i64 n] w fun e w' => e = .returned (.int .i64 (p.truncE s n)) ∧ Dq S W0 w' db (p.trunc s n) := by
 obtain ⟨x, rfl, hd, hp, hk, ho, hz⟩ := h
 unfold Pl.sm at hm
 exact (trunc_ok w _ x p s n hn hd hp hs (Nat.zero_le _) (by omega) (by omega)).mono fun e w' ⟨he, ht⟩ => ⟨he, dq_of (n0 := 0) rfl hk ho hz ht⟩
theorem sync_q (h : Dq S W0 w db p) (s : ByteArray) (hs : s.size ≤ maxLen) (hm : p.sm 20000) :
  Calls Tryz.prog 52 #[ptrV db, .string s] w fun e w' => e = .returned (.int .i64 p.syncE) ∧ Dq S W0 w' db (p.sync s) := by
 obtain ⟨x, rfl, hd, hp, hk, ho, hz⟩ := h
 unfold Pl.sm at hm
 exact (sync_ok w _ x p s hd hp hs (Nat.zero_le _) (by omega) (by omega)).mono fun e w' ⟨he, ht⟩ => ⟨he, dq_of (n0 := 0) rfl hk ho hz ht⟩
theorem read_q (h : Dq S W0 w db p) (s : ByteArray) (a n : Int) (hs : s.size ≤ maxLen) (ha : -9223372036854775808 ≤ a ∧ a ≤ 9223372036854775807) (hn : -9223372036854775808 ≤ n ∧ n ≤ 9223372036854775807) :
  Calls Tryz.prog 9 #[ptrV db, .string s, .int .i64 a, .int .i64 n] w fun e w' => e = .returned (.tuple #[.string (strOf (p.read s a n)), .int .i64 (p.readE a n)]) ∧ Kp NoB w w' := by
 obtain ⟨x, rfl, hd, hp, hk, ho, hz⟩ := h
 exact read_ok w _ x p s a n ha hn hd hp hs
theorem len_q (h : Dq S W0 w db p) (s : ByteArray) (hs : s.size ≤ maxLen) : Calls Tryz.prog 109 #[ptrV db, .string s] w fun e w' => e = .returned (.int .i64 (p.len s)) ∧ w = w' := by
 obtain ⟨x, rfl, hd, hp, hk, ho, hz⟩ := h
 exact len_ok w _ x p s hd hp hs
theorem Dq.seen_le (h : Dq S W0 w db p) (s : ByteArray) : (p.seen s).length ≤ 1048576 := by
 obtain ⟨x, rfl, hd, hp, hk, ho, hz⟩ := h
 rw [hp.seen]
 exact Go.Proofs.YtegcbdfilkecpaaGreat.seen_le hd s
theorem Dq.seen_rng (h : Dq S W0 w db p) (s : ByteArray) : ∀ y ∈ p.seen s, 0 ≤ y ∧ y < 256 := by
 obtain ⟨x, rfl, hd, hp, hk, ho, hz⟩ := h
 rw [hp.seen]
 unfold seenOf
 split
 ·rename_i e hf
  obtain ⟨u, v, _, hu, _⟩ := (hd.fls e (findF_some hf).1).blk
  exact hu.rng
 ·simp
end
end
section
open Go.RowKit
def zero256 : Array Value := bytesV (zeros 256)
theorem zero256_eq : zero256 = bytesV (zeros 256) := rfl
theorem info26 : (Tryz.prog.info? 46).map (·.size) = some 256 := by kernel_rfl
theorem zeroValue26 (w : World) : (zeroValue 46).run Tryz.prog w = .ok (.agg zero256) w := by kernel_rfl
theorem load26 (w : World) (ev : Operand → Value) (ds : Option Tmp) (x : Operand) (ty : TypeId) (ps : String) (af : Array Edge) (g : Option (Nat × Bool)) (h : thereP w (ev x) 256) :
  (execOp ev ⟨ds, .load 46 x, ty, ps, af, g⟩).run Tryz.prog w = .ok (.value (.agg (readP w (ev x) 256))) w := execLoad_P Tryz.underlying46 rfl info26 w ev ds x ty ps af g h
theorem store26 (w : World) (ev : Operand → Value) (ds : Option Tmp) (x y : Operand) (ty : TypeId) (ps : String) (af : Array Edge) (g : Option (Nat × Bool)) (hv : aggOK (ev y) 256) (h : thereP w (ev x) 256) :
  (execOp ev ⟨ds, .store 46 x y, ty, ps, af, g⟩).run Tryz.prog w = .ok .skip (setP w (ev x) (ev y)) := execStore_P info26 w ev ds x y ty ps af g hv h
theorem alloc26 (w : World) (ev : Operand → Value) (ds : Option Tmp) (ty : TypeId) (ps : String) (af : Array Edge) (g : Option (Nat × Bool)) :
  (execOp ev ⟨ds, .alloc 46, ty, ps, af, g⟩).run Tryz.prog w = .ok (.value (.pointer (some ⟨w.heap.size, 0, none⟩))) (w.alloc (.cells zero256 46)) := by
 simp only [execOp, Instr.alloc, Sem.run_bind, zeroValue26, Result.andThen_ok]
 rfl
theorem build26 (w : World) (ev : Operand → Value) (ds : Option Tmp) (ty : TypeId) (ps : String) (af : Array Edge) (g : Option (Nat × Bool)) :
  (execOp ev ⟨ds, .build 46 #[], ty, ps, af, g⟩).run Tryz.prog w = .ok (.value (.agg zero256)) w := by
 kernel_rfl
theorem slice26lo (w : World) (ev : Operand → Value) (ds : Option Tmp) (x lo : Operand) (ty : TypeId) (ps : String) (af : Array Edge) (g : Option (Nat × Bool)) (h : sliceOK (ev x) (ev lo) (.int .i64 (256 : Nat)) 256) :
  (execOp ev ⟨ds, .slice 46 x (some lo) none none, ty, ps, af, g⟩).run Tryz.prog w = .ok (.value (sliceV (ev x) (ev lo) (.int .i64 (256 : Nat)) 256)) w := execSlice_lo Tryz.underlying46 infoU8 w ev ds x lo ty ps af g h
theorem slice26lohi (w : World) (ev : Operand → Value) (ds : Option Tmp) (x lo hi : Operand) (ty : TypeId) (ps : String) (af : Array Edge) (g : Option (Nat × Bool)) (h : sliceOK (ev x) (ev lo) (ev hi) 256) :
  (execOp ev ⟨ds, .slice 46 x (some lo) (some hi) none, ty, ps, af, g⟩).run Tryz.prog w = .ok (.value (sliceV (ev x) (ev lo) (ev hi) 256)) w := execSlice_lohi Tryz.underlying46 infoU8 w ev ds x lo hi ty ps af g h
end
section
open Go.RowKit
theorem Blk.top {W : World} {g : Nat} {t : TypeId} {cs : Array Value} (e : W.heap.size = g) : Blk (W.alloc (.cells cs t)) g t cs := e ▸ Blk.new W t cs
theorem infoRd : (Tryz.prog.info? 29).map (·.size) = some 8 := by kernel_rfl
theorem infoRf : (Tryz.prog.info? 72).map (·.size) = some 3 := by kernel_rfl
structure Rfile where
 nm : ByteArray
 seen : List Int
 kept : List Int
def rfCells (f : Rfile) : List Value := [.string f.nm, .string (strOf f.seen), .string (strOf f.kept)]
def rcCells (c : Cg) : List Value := [.string c.nm, .int .i64 c.sec, .int .i64 c.n, .string (strOf c.s)]
def NotDk (t : TypeId) : Prop := t ≠ 55 ∧ t ≠ 128 ∧ t ≠ 121
instance (t : TypeId) : Decidable (NotDk t) := by unfold NotDk; infer_instance
def Rows (w : World) (A : Option Addr) (n : Nat) (sz : Nat) (xs : List (List Value)) : Prop :=
 xs.length = n ∧ (∀ x ∈ xs, x.length = sz) ∧ (0 < n → ∃ g o, ∃ t : { t : TypeId // NotDk t }, ∃ cs, A = some ⟨g, o, none⟩ ∧ Blk w g t.1 cs ∧ o + n * sz ≤ cs.size ∧ ∀ k (h : k < xs.length) j (hj : j < sz), cs[o + k * sz + j]? = xs[k][j]?)
theorem Rows.keep {w w' : World} {A : Option Addr} {n sz : Nat} {xs : List (List Value)} (h : Rows w A n sz xs) (k : Kp NoB w w') : Rows w' A n sz xs :=
 ⟨h.1, h.2.1, fun hn => by
  obtain ⟨g, o, t, cs, e, hb, hs, hc⟩ := h.2.2 hn
  exact ⟨g, o, t, cs, e, hb.keep k (fun q => q), hs, hc⟩⟩
theorem Rows.cell {w : World} {A : Option Addr} {n sz : Nat} {xs : List (List Value)} (h : Rows w A n sz xs) {k : Nat} {x : List Value} (hk : xs[k]? = some x) : ∃ g o, A = some ⟨g, o, none⟩ ∧ g < w.heap.size ∧ ∀ j v, x[j]? = some v → w.cell? ⟨g, o + k * sz + j, none⟩ = some v := by
 obtain ⟨hk', rfl⟩ := List.getElem?_eq_some_iff.1 hk
 obtain ⟨g, o, t, cs, e, hb, hs, hc⟩ := h.2.2 (by have := h.1; omega)
 refine ⟨g, o, e, hb.lt, fun j v hj => ?_⟩
 have hjl : j < sz := by
  rw [← h.2.1 _ (List.getElem_mem hk')]
  exact (List.getElem?_eq_some_iff.1 hj).1
 rw [hb.cell, hc k hk' j hjl]
 exact hj
structure Rd where
 fA : Option Addr
 fn : Nat
 fc : Nat
 fs : List Rfile
 pA : Option Addr
 pn : Nat
 pc : Nat
def rdV (d : Rd) (p : Pl) : Value := .agg #[.bool true, .bool p.down, .slice d.fA d.fn d.fc, .slice d.pA d.pn d.pc, .int .i64 p.room, .int .i64 p.steps, .int .i64 p.crash, .int .i64 p.starts]
def findR (fs : List Rfile) (s : ByteArray) : Option Rfile := fs.find? fun f => decide (f.nm = s)
def seenR (fs : List Rfile) (s : ByteArray) : List Int := match findR fs s with | some f => f.seen | none => []
def keptR (fs : List Rfile) (s : ByteArray) : List Int := match findR fs s with | some f => f.kept | none => []
def sumR (fs : List Rfile) : Int := (fs.map fun f => (f.seen.length : Int)).sum
def ksumR (fs : List Rfile) : Int := (fs.map fun f => (f.kept.length : Int)).sum
structure RfOk (f : Rfile) : Prop where
 nl : f.nm.size ≤ maxLen
 srng : ∀ y ∈ f.seen, 0 ≤ y ∧ y < 256
 krng : ∀ y ∈ f.kept, 0 ≤ y ∧ y < 256
 sl : f.seen.length ≤ 1048576
 kl : f.kept.length ≤ 1048576
structure Rf (w : World) (d : Rd) (p : Pl) : Prop where
 files : Rows w d.fA d.fn 3 (d.fs.map rfCells)
 pend : Rows w d.pA d.pn 4 (p.pd.map rcCells)
 fnil : d.fA = none → d.fn = 0 ∧ d.fc = 0
 pnil : d.pA = none → d.pn = 0 ∧ d.pc = 0
 fok : ∀ f ∈ d.fs, RfOk f
 cok : ∀ c ∈ p.pd, CgOk c
 names : d.fs.Pairwise fun x y => x.nm ≠ y.nm
 seen : p.seen = seenR d.fs
 kept : p.kept = keptR d.fs
 sum : p.sum = sumR d.fs
 ksum : p.ksum = ksumR d.fs
 nf : d.fn ≤ p.nf
 room : 0 ≤ p.room ∧ p.room ≤ 9223372036854775807
 steps : -9223372036854775808 ≤ p.steps ∧ p.steps ≤ 9223372036854775807
 crash : 0 ≤ p.crash ∧ p.crash ≤ 9223372036854775807
 starts : -9223372036854775808 ≤ p.starts ∧ p.starts ≤ 9223372036854775807
theorem Rf.keep {w w' : World} {d : Rd} {p : Pl} (h : Rf w d p) (k : Kp NoB w w') : Rf w' d p := { h with files := h.files.keep k, pend := h.pend.keep k }
theorem Rf.fl {w : World} {d : Rd} {p : Pl} (h : Rf w d p) : d.fs.length = d.fn := by have := h.files.1; simpa using this
theorem Rf.pl {w : World} {d : Rd} {p : Pl} (h : Rf w d p) : p.pd.length = d.pn := by have := h.pend.1; simpa using this
set_option maxRecDepth 100000 in
theorem rwrong_ok (w : World) (d : Rd) (p : Pl) (h : Rf w d p) :
  Calls Tryz.prog 70 #[rdV d p] w fun e w' => e = .returned (.int .i64 p.wrong) ∧ Kp NoB w w' := by
 unfold rdV Pl.wrong
 generalize p.down = dn
 cases dn
 all_goals
  go_enter Tryz.func70, Tryz.ntmps70
  go_wp2_with fail
  go_ret
  exact ⟨rfl, (Kp.refl NoB w).alloc _⟩
end
section
open Go.RowKit
set_option maxRecDepth 100000 in
set_option maxHeartbeats 800000 in
theorem rstep_ok (w : World) (d : Rd) (p : Pl) (h : Rf w d p) :
  Calls Tryz.prog 71 #[rdV d p] w fun e w' => e = .returned (.tuple #[rdV d p.step, .int .i64 p.stepE]) ∧ Kp NoB w w' := by
 have hc := h.crash
 have hw1 : IntKind.i64.wrap (p.steps + 1) = wrp (p.steps + 1) := rfl
 unfold rdV Pl.stepE Pl.step
 clear h
 generalize p.down = dn
 generalize p.crash = cr at hc
 rcases (show cr = 0 ∨ cr = 1 ∨ 1 < cr by omega) with rfl | rfl | c1
 ·simp only [show ¬ (0 : Int) = 1 by omega, show ¬ (0 : Int) < 0 by omega, if_false]
  go_enter Tryz.func71, Tryz.ntmps71
  go_wp2_with fail
  refine bodyPost_ret (ret_cell_tmp rfl _ _ _ _ _ _ rfl (Blk.top (by simp)) Tryz.underlying29 rfl (by exact infoRd) _ rfl) rfl ⟨rfl, ((Kp.refl NoB w).alloc _).alloc _⟩
 ·simp only [show (0 : Int) < 1 by omega, if_true]
  go_enter Tryz.func71, Tryz.ntmps71
  go_wp2_with fail
  refine bodyPost_ret (ret_cell_tmp rfl _ _ _ _ _ _ rfl (Blk.top (by simp)) Tryz.underlying29 rfl (by exact infoRd) _ rfl) rfl ⟨rfl, ((Kp.refl NoB w).alloc _).alloc _⟩
 ·have c2 : 0 < cr := by omega
  have c3 : ¬ cr = 1 := by omega
  have c4 : ¬ cr - 1 = 0 := by omega
  have hw2 : IntKind.i64.wrap (cr - 1) = cr - 1 := by rw [IntKind.wrap_i64]; omega
  simp only [c2, c3, if_true, if_false]
  go_enter Tryz.func71, Tryz.ntmps71
  go_wp2_with fail
  refine bodyPost_ret (ret_cell_tmp rfl _ _ _ _ _ _ rfl (Blk.top (by simp)) Tryz.underlying29 rfl (by exact infoRd) _ rfl) rfl ⟨rfl, ((Kp.refl NoB w).alloc _).alloc _⟩
def findI (fs : List Rfile) (s : ByteArray) : Int := match fs.findIdx? fun f => decide (f.nm = s) with | some i => i | none => -1
def FindRel (fs : List Rfile) (s : ByteArray) (v : Value) : Prop := ∃ k : Nat, v = .int .i64 (k : Int) ∧ k ≤ fs.length ∧ ∀ f ∈ fs.take k, f.nm ≠ s
theorem findI_at {fs : List Rfile} {s : ByteArray} {k : Nat} {f : Rfile} (h : ∀ x ∈ fs.take k, x.nm ≠ s) (hf : fs[k]? = some f) (he : f.nm = s) : findI fs s = k ∧ findR fs s = some f := by
 obtain ⟨hk, rfl⟩ := List.getElem?_eq_some_iff.1 hf
 have hn : ∀ j (hj : j < k), (decide (fs[j].nm = s)) = false := fun j hj => by
  have := h fs[j] (List.mem_of_getElem? (i := j) (by rw [List.getElem?_take_of_lt hj, List.getElem?_eq_getElem (by omega)]))
  simpa using this
 have e : (fs.findIdx? fun f => decide (f.nm = s)) = some k := by
  rw [List.findIdx?_eq_some_iff_getElem]
  exact ⟨hk, by simpa using he, fun j hj => by have := hn j hj; simpa using this⟩
 constructor
 ·unfold findI
  rw [e]
 ·unfold findR
  rw [List.find?_eq_some_iff_getElem]
  exact ⟨by simpa using he, k, hk, rfl, fun j hj => by have := hn j hj; simpa using this⟩
theorem findI_none {fs : List Rfile} {s : ByteArray} (h : ∀ x ∈ fs, x.nm ≠ s) : findI fs s = -1 ∧ findR fs s = none := by
 constructor
 ·unfold findI
  rw [List.findIdx?_eq_none_iff.2 (fun x hx => by simpa using h x hx)]
 ·unfold findR
  rw [List.find?_eq_none]
  intro x hx
  simpa using h x hx
set_option maxRecDepth 100000 in
set_option maxHeartbeats 800000 in
theorem find_raw (w : World) (A : Option Addr) (n c : Nat) (fs : List Rfile) (b0 b1 : Bool) (pA : Option Addr) (pn pc : Nat) (x4 x5 x6 x7 : Int) (s : ByteArray) (hF : Rows w A n 3 (fs.map rfCells)) (hn : n ≤ 9223372036854775807) :
  Calls Tryz.prog 30 #[.agg #[.bool b0, .bool b1, .slice A n c, .slice pA pn pc, .int .i64 x4, .int .i64 x5, .int .i64 x6, .int .i64 x7], .string s] w fun e w' => e = .returned (.int .i64 (findI fs s)) ∧ Kp NoB w w' := by
 have HF := zh hF
 have HFL : Hid (fs.length = n) := zh (by have := hF.1; simpa using this)
 have HN := zh hn
 clear hF hn
 go_enter Tryz.func30, Tryz.ntmps30
 go_wp2_with fail
 go_loop [5] (fun v => FindRel fs s v) (fun v => n - (intOf v).toNat)
 case atStart => exact ⟨0, rfl, Nat.zero_le _, by simp⟩
 case round =>
  obtain ⟨k, rfl, hk, hlk⟩ := hrel
  have HK := zh hk
  have HLK := zh hlk
  clear hk hlk
  by_cases hlt : k < n
  ·have hkl : k < fs.length := by have := HFL.out; omega
   obtain ⟨f, hf⟩ : ∃ f, fs[k] = f := ⟨_, rfl⟩
   have hfk : fs[k]? = some f := by rw [List.getElem?_eq_getElem hkl, hf]
   have HFK := zh hfk
   obtain ⟨g, o, rfl, hg, hc⟩ := HF.out.cell (k := k) (x := rfCells f) (by rw [List.getElem?_map, hfk]; rfl)
   have c0 := hc 0 _ rfl
   rw [Nat.add_zero] at c0
   have hkk : (k : Int) < (n : Int) := by omega
   have hnn := HN.out
   clear hc hf hfk hkl
   by_cases he : f.nm = s
   ·have hb := str_eqB f.nm s
    rw [decide_eq_true he] at hb
    have HE := zh (findI_at HLK.out HFK.out he).1
    clear he
    go_wp2_with fail
    go_ret
    exact ⟨by rw [HE.out]; rfl, (Kp.refl NoB w).alloc _⟩
   ·have hb := str_eqB f.nm s
    rw [decide_eq_false he] at hb
    have HE := zh he
    clear he
    go_wp2_with fail
    go_round
    case rel => exact ⟨k + 1, by go_num, by have := HFL.out; omega, fun x hx => by
     rw [List.take_add_one, HFK.out] at hx
     rcases List.mem_append.1 hx with q | q
     ·exact HLK.out x q
     ·simp only [Option.toList_some, List.mem_singleton] at q
      rw [q]
      exact HE.out⟩
    case measure => simp [intOf]; omega
  ·have hlt' : ¬ (k : Int) < (n : Int) := by omega
   go_wp2_with fail
   go_ret
   exact ⟨by rw [(findI_none (fun x hx => HLK.out x (by rw [List.take_of_length_le (by have := HFL.out; omega)]; exact hx))).1]; rfl, (Kp.refl NoB w).alloc _⟩
end
end Go.Proofs.YtegcbdfilkecpaaGreat
