/- The stand-in disk: Copy, its walk; condition: fewer than 2^40 files and changes. -/
import Derived.Test.YtdgjglocgdccbaaDkCopy
namespace Go.Proofs.Ytdgjglocgdccbaa
open Go.RowKit

attribute [local go_sem ↓] loadDk storeDk allocDk loadFe storeFe allocFe
def W5 (w : World) (n0 : Nat) (w5 : World) (g : Nat) (e : Fe) : Prop := w.heap.size ≤ g ∧ g < w5.heap.size ∧ ∃ u v, Blk w5 g 75 #[u, v] ∧ Bq w5 n0 u e.seen ∧ Bq w5 n0 v e.kept
def CpRel (n0 : Nat) (W : World) (x : Dd) (ob m1 r : Nat) (D : DataW Value) (wr : World) : Prop :=
  ∃ (left : Lit → Bool) (cnt : Nat) (nb : List UInt8 → Nat) (D' : DataW Value), wr.ranges Try.prog 9 Rp x.mb r x.mn D left cnt ∧ wr.ownsMap Try.prog 9 Rp m1 x.mn D' ∧ MpD D' (cpF (fun k => left (.string k)) nb x.fs) ∧
    (∀ e ∈ x.fs, left (.string (kOf e.nm)) = false → W.heap.size ≤ nb (kOf e.nm) ∧ nb (kOf e.nm) < wr.heap.size ∧ ∃ u v, Blk wr (nb (kOf e.nm)) 75 #[u, v] ∧ Bq wr n0 u e.seen ∧ Bq wr n0 v e.kept) ∧
    (∀ e ∈ x.fs, ∀ e' ∈ x.fs, left (.string (kOf e.nm)) = false → left (.string (kOf e'.nm)) = false → kOf e.nm ≠ kOf e'.nm → nb (kOf e.nm) ≠ nb (kOf e'.nm)) ∧
    Blk wr ob 64 #[.map (some m1), x.pv, .int .i64 x.room, .int .i64 x.steps, .int .i64 x.crash, .bool x.down, .int .i64 x.starts] ∧ Kp NoB W wr
theorem cpF_nm (left : List UInt8 → Bool) (nb : List UInt8 → Nat) (e : Fe) : (if left (kOf e.nm) then e else { e with fb := nb (kOf e.nm) } : Fe).nm = e.nm ∧ (if left (kOf e.nm) then e else { e with fb := nb (kOf e.nm) } : Fe).seen = e.seen ∧ (if left (kOf e.nm) then e else { e with fb := nb (kOf e.nm) } : Fe).kept = e.kept := by split <;> exact ⟨rfl, rfl, rfl⟩
theorem Of.cp {x : Dd} {p : Pl} (h : Of x p) (ob m1 : Nat) (pv : Value) (left : List UInt8 → Bool) (nb : List UInt8 → Nat) : Of { x with db := ob, mb := m1, pv := pv, fs := cpF left nb x.fs } p :=
  { h with
    seen := by
      rw [h.seen]
      funext s
      unfold seenOf
      simp only [cpF_find]
      cases findF x.fs (kOf s) with
      | none => rfl
      | some e => exact (cpF_nm left nb e).2.1.symm
    kept := by
      rw [h.kept]
      funext s
      unfold keptOf
      simp only [cpF_find]
      cases findF x.fs (kOf s) with
      | none => rfl
      | some e => exact (cpF_nm left nb e).2.2.symm
    sum := by
      rw [h.sum]
      unfold allSum cpF
      rw [List.map_map]
      congr 2
      apply List.map_congr_left
      intro e _
      simp only [Function.comp]
      rw [(cpF_nm left nb e).2.1]
    ksum := by
      rw [h.ksum]
      unfold allKept cpF
      rw [List.map_map]
      congr 2
      apply List.map_congr_left
      intro e _
      simp only [Function.comp]
      rw [(cpF_nm left nb e).2.2] }
def CpPost (n0 : Nat) (w : World) (p : Pl) (e : Ending) (w' : World) : Prop := ∃ y, e = .returned (ptrV y.db) ∧ Dk n0 w' y ∧ Of y p ∧ (∀ b, y.O b → w.heap.size ≤ b) ∧ Kp NoB w w'
set_option maxRecDepth 100000 in
set_option maxHeartbeats 1600000 in
theorem copy_ok (w : World) (n0 : Nat) (x : Dd) (p : Pl) (h : Dk n0 w x) (hp : Of x p) (hn0 : n0 ≤ w.heap.size) (hm : p.nf < 1099511627776) (hpd : p.pd.length < 1099511627776) :
    Calls Try.prog 19 #[ptrV x.db] w (CpPost n0 w p) := by
  have H := Lib.hid h
  have HP := Lib.hid hp
  have HN0 := Lib.hid hn0
  have HM := Lib.hid hm
  have HPD := Lib.hid hpd
  obtain ⟨db, hdb⟩ : ∃ db, x.db = db := ⟨_, rfl⟩
  have HX := Lib.hid hdb
  obtain ⟨D, ⟨es, clock, hmb, F, hes, hD⟩, hM⟩ := h.mp
  have HOWN : Hid (w.ownsMap Try.prog 9 Rp x.mb x.mn D) := Lib.hid ⟨es, clock, hmb, F, hes, hD⟩
  have HMM := Lib.hid hM
  have HMB := Lib.hid hmb
  have hb := h.blk
  rw [hdb] at hb
  have HB := Lib.hid hb
  have t0 := hb.thereAll 7 rfl
  have r0 := hb.readAll 7 rfl
  have on0 : ones (diskCells x) := by
    have hs := own_slice h.pend
    obtain ⟨A, c, e⟩ := hs
    unfold ones diskCells
    rw [e]
    simp [Value.oneCell']
  have sz0 : (diskCells x).size = 7 := rfl
  have hz : Blk (w.alloc (.cells zeroDk 64)) w.heap.size 64 zeroDk := Blk.new _ _ _
  have t1 := hz.thereAll 7 rfl
  rw [hdb]
  clear h hp hn0 hm hpd hdb hmb F hes hD hM hb hz
  unfold ptrV
  go_enter Try.func19, Try.ntmps19
  go_upto_region 4 with (go_at_call 29; go_must (refine (show Calls _ _ #[ptrV db] _ _ by rw [← HX.out]; exact is_ok _ _ _ H.out).mono ?_); rintro e w2 ⟨rfl, rfl⟩)
  obtain ⟨ob, hob⟩ : ∃ ob, w.heap.size = ob := ⟨_, rfl⟩
  have HOB := Lib.hid hob
  have hb1 : Blk ((w.alloc (.cells zeroDk 64)).setCells w.heap.size 0 (diskCells x).toList) w.heap.size 64 (diskCells x) := (Blk.new w 64 zeroDk).whole _ rfl
  have hk1 : Kp NoB w ((w.alloc (.cells zeroDk 64)).setCells w.heap.size 0 (diskCells x).toList) := Kp.setCells (.inl (Nat.le_refl _)) _ _ _ ((Kp.refl NoB w).alloc _)
  rw [hob] at hb1 hk1 ⊢
  generalize (w.alloc (.cells zeroDk 64)).setCells ob 0 (diskCells x).toList = w1 at hb1 hk1 ⊢
  have HB1 := Lib.hid hb1
  have HK1 := Lib.hid hk1
  have HD1 := Lib.hid (H.out.keep hk1 (fun _ _ q => q) (fun _ _ _ q => q))
  have c0 : w1.cell? ⟨db, 0, none⟩ = some (.map (some x.mb)) := by rw [hk1.cell HB.out.lt (fun q => q), HB.out.cell]; rfl
  have HMB1 : Hid (w1.heap[x.mb]? = some (.map es clock)) := Lib.hid (hk1.lift HMB.out (fun q => q))
  clear hob hb1 hk1 t0 r0 on0 sz0 t1
  go_wp2_with fail
  refine (mclone_ok w1 x.mb es clock HMB1.out).mono ?_
  rintro e w2 ⟨rfl, hw2⟩
  have hk2 : Kp NoB w1 w2 := by rw [hw2]; exact (Kp.refl NoB w1).alloc _
  have hown2 : w2.ownsMap Try.prog 9 Rp w1.heap.size x.mn D := by
    obtain ⟨es', clock', hb', F', hs', hD'⟩ := HOWN.out
    have := HMB.out
    rw [hb'] at this
    simp only [Option.some.injEq, Obj.map.injEq] at this
    obtain ⟨rfl, rfl⟩ := this
    exact ⟨es', clock', by rw [hw2]; exact heap_alloc_new w1 _, F', hs', hD'⟩
  obtain ⟨m1, hm1⟩ : ∃ m1, w1.heap.size = m1 := ⟨_, rfl⟩
  have HM1 := Lib.hid hm1
  rw [hm1] at hown2 ⊢
  have HOWN2 := Lib.hid hown2
  have HK2 := Lib.hid hk2
  have d0 : w2.cell? ⟨ob, 0, none⟩ = some (.map (some x.mb)) := by rw [hk2.cell HB1.out.lt (fun q => q), HB1.out.cell]; rfl
  have z0 : w2.frozen? ⟨ob, 0, none⟩ = false := (HB1.out.keep hk2 (fun q => q)).frozen 0
  have HB2 := Lib.hid (HB1.out.keep hk2 (fun q => q))
  have HD2 := Lib.hid (HD1.out.keep hk2 (fun _ _ q => q) (fun _ _ _ q => q))
  clear hw2 hk2 hown2 hm1 c0
  go_upto_region 5 with fail
  have hb3 := HB2.out.set_ 0 (.map (some m1))
  have hk3 : Kp NoB w (w2.setCell ⟨ob, 0, none⟩ (.map (some m1))) := (HK1.out.trans HK2.out (fun _ _ q => q)).setCell (p := ⟨ob, 0, none⟩) (.inl (by rw [HOB.out]; exact Nat.le_refl _)) _
  have ks : Kp (OnB ob) w2 (w2.setCell ⟨ob, 0, none⟩ (.map (some m1))) := (Kp.refl (OnB ob) w2).setAt rfl _ _
  have hobm : m1 ≠ ob := by have := HB1.out.lt; have := HM1.out; omega
  have hown3 : (w2.setCell ⟨ob, 0, none⟩ (.map (some m1))).ownsMap Try.prog 9 Rp m1 x.mn D := ks.map HOWN2.out (fun q => hobm q)
  generalize w2.setCell ⟨ob, 0, none⟩ (.map (some m1)) = w3 at hb3 hk3 hown3 ⊢
  have HB3 : Hid (Blk w3 ob 64 #[.map (some m1), x.pv, .int .i64 x.room, .int .i64 x.steps, .int .i64 x.crash, .bool x.down, .int .i64 x.starts]) := Lib.hid (by simpa [diskCells] using hb3)
  have HK3 := Lib.hid hk3
  have HOWN3 := Lib.hid hown3
  have HD3 := Lib.hid (H.out.keep hk3 (fun _ _ q => q) (fun _ _ _ q => q))
  have HDm := Lib.hid (hk3.map HOWN.out (fun q => q))
  have c0 : w3.cell? ⟨db, 0, none⟩ = some (.map (some x.mb)) := by rw [hk3.cell HB.out.lt (fun q => q), HB.out.cell]; rfl
  clear hb3 hk3 hown3 ks d0 z0 hobm
  go_wp2_with (at_range; refine wpList_range_own _ rfl _ 61 rfl 9 69 keyed Try.underlying61 Rp x.mb x.mn D rfl HDm.out ?_; intro w4 hrg0 hg0 hs0)
  go_frame
  go_loopw [5] (fun _ wr => CpRel n0 w x ob m1 w3.heap.size D wr) (fun _ wr => wr.rangeLeft x.mb w3.heap.size)
  case atStart =>
    have hk4 : Kp NoB w3 w4 := (Kp.refl _ w3).grown hg0 (by simp)
    refine ⟨Maps.has D, Maps.size D, fun _ => 0, D, hrg0, hk4.map HOWN3.out (fun q => q), ?_, ?_, ?_, HB3.out.keep hk4 (fun q => q), HK3.out.trans hk4 (fun _ _ q => q)⟩
    · have : cpF (fun k => Maps.has D (.string k)) (fun _ => 0) x.fs = x.fs := by
        unfold cpF
        rw [List.map_congr_left (g := id) (fun e he => by show (if Maps.has D (.string (kOf e.nm)) = true then e else _) = e; rw [HMM.out.has, H.out.names.find he]; rfl), List.map_id]
      rw [this]
      exact HMM.out
    · intro e he hf
      rw [HMM.out.has, H.out.names.find he] at hf
      cases hf
    · intro e he e' he' hf
      rw [HMM.out.has, H.out.names.find he] at hf
      cases hf
  case round =>
    obtain ⟨left, cnt, nb, D', hrg, howD, hMD, hvis, hinj, hbo, hkw⟩ := hrel
    have HRG := Lib.hid hrg
    have HOD := Lib.hid howD
    have HMD := Lib.hid hMD
    have HVIS := Lib.hid hvis
    have HINJ := Lib.hid hinj
    have HBO := Lib.hid hbo
    have HKW := Lib.hid hkw
    clear howD hMD hvis hinj hbo hkw hrg0 hg0 hs0 c0
    go_wp2_with (at_next; refine wpList_next_ranges _ rfl _ rfl 9 keyed Rp Value.string Value.pointer (fun key kl hk => keyS_inv hk) (fun v y hv => by obtain ⟨p, rfl, _⟩ := Rp_inv hv; exact ⟨p, rfl⟩) x.mb w3.heap.size x.mn D left cnt rfl hrg ?_ ?_)
    · intro _ hl0
      have HL0 := Lib.hid hl0
      have HDR := Lib.hid (H.out.keep HKW.out (fun _ _ q => q) (fun _ _ _ q => q))
      obtain ⟨Ap, kp, hpv⟩ := own_slice H.out.pend
      obtain ⟨pl, hpl⟩ : ∃ pl, x.pd.length = pl := ⟨_, rfl⟩
      rw [hpl] at hpv
      have HPV := Lib.hid hpv
      have HPL := Lib.hid hpl
      have d1 : wr.cell? ⟨db, 1, none⟩ = some (.slice Ap pl kp) := by rw [← HX.out, HDR.out.blk.cell, ← hpv]; rfl
      have HBO2 := Lib.hid (show Blk wr ob 64 #[.map (some m1), .slice Ap pl kp, .int .i64 x.room, .int .i64 x.steps, .int .i64 x.crash, .bool x.down, .int .i64 x.starts] by rw [← hpv]; exact HBO.out)
      clear hl0 hrg hpv hpl
      go_wp2_with fail
      refine (cloneCg_ok wr n0 Ap pl kp x.pd HPL.out (by have := HPD.out; rw [HP.out.pd, HPL.out] at this; exact this) H.out.s64 (by have := HDR.out.pend; rw [HPL.out, HPV.out] at this; exact this)).mono ?_
      rintro e w6 ⟨A6, c6, rfl, ho6, hk6⟩
      rw [HPL.out] at ho6 ⊢
      have HO6 := Lib.hid ho6
      have HK6 := Lib.hid hk6
      have e1 : w6.cell? ⟨ob, 1, none⟩ = some (.slice Ap pl kp) := by rw [(HBO2.out.keep hk6 (fun q => q)).cell]; rfl
      have z1 : w6.frozen? ⟨ob, 1, none⟩ = false := (HBO2.out.keep hk6 (fun q => q)).frozen 1
      clear ho6 hk6 d1
      go_wp2_with fail
      go_ret
      have ks : Kp (OnB ob) w6 (w6.setCell ⟨ob, 1, none⟩ (.slice A6 pl c6)) := (Kp.refl (OnB ob) w6).setAt rfl _ _
      have hkw : Kp NoB w (w6.setCell ⟨ob, 1, none⟩ (.slice A6 pl c6)) := (HKW.out.trans HK6.out (fun _ _ q => q)).setCell (p := ⟨ob, 1, none⟩) (.inl (by rw [HOB.out]; exact Nat.le_refl _)) _
      have hbF := (HBO2.out.keep HK6.out (fun q => q)).set_ 1 (.slice A6 pl c6)
      have hbo6 := HBO2.out.keep HK6.out (fun q => q)
      have hm1ob : m1 ≠ ob := by have := HB1.out.lt; have := HM1.out; omega
      have hMF : MpD D' (cpF (fun _ => false) nb x.fs) := by
        have : cpF (fun k => left (.string k)) nb x.fs = cpF (fun _ => false) nb x.fs := by
          unfold cpF
          apply List.map_congr_left
          intro e _
          simp only [HL0.out]
        rw [← this]
        exact HMD.out
      have hn1 := HN0.out
      refine ⟨{ x with db := ob, mb := m1, pv := .slice A6 pl c6, fs := cpF (fun _ => false) nb x.fs }, rfl, ?_, HP.out.cp _ _ _ _ _, ?_, hkw⟩
      · exact { H.out with
          blk := by simpa [diskCells] using hbF
          mp := ⟨D', ks.map (HK6.out.map HOD.out (fun q => q)) (fun q => hm1ob q), hMF⟩
          names := by
            show (cpF (fun _ => false) nb x.fs).Pairwise _
            unfold cpF
            rw [List.pairwise_map]
            exact H.out.names.imp (fun {a b} q => by simp only [Bool.false_eq_true, if_false]; exact q)
          fbs := by
            show (cpF (fun _ => false) nb x.fs).Pairwise _
            unfold cpF
            rw [List.pairwise_map]
            refine List.Pairwise.imp_of_mem (fun {a b} ha hb q => ?_) H.out.names
            simp only [Bool.false_eq_true, if_false]
            exact HINJ.out a ha b hb (HL0.out _) (HL0.out _) q
          fls := fun e he => by
            obtain ⟨e', he', rfl⟩ := List.mem_map.1 he
            obtain ⟨h1, h2, u, v, hb, hu, hv⟩ := HVIS.out e' he' (HL0.out _)
            have hf := H.out.fls e' he'
            have hb6 := hb.keep HK6.out (fun q => q)
            have hnob : ¬ OnB ob (nb (kOf e'.nm)) := fun q => by
              rw [show nb (kOf e'.nm) = ob from q] at hb6
              exact blk_ne hb6 hbo6 (by decide) rfl
            simp only [Bool.false_eq_true, if_false]
            exact ⟨⟨u, v, hb6.keep ks hnob, (hu.keep HK6.out (fun _ _ _ q => q)).keep ks (fun g cs hg q => onb_cells hbo6 hg (by decide) q), (hv.keep HK6.out (fun _ _ _ q => q)).keep ks (fun g cs hg q => onb_cells hbo6 hg (by decide) q)⟩, hf.ls, hf.lk⟩
          pend := by
            show (w6.setCell ⟨ob, 1, none⟩ (.slice A6 pl c6)).ownsRow n0 _ 67 (.slice A6 pl c6) x.pd.length (cgCells x.pd)
            rw [HPL.out]
            refine own_keepB (HO6.out.mono (Nat.le_trans hn1 HKW.out.size)) ks (fun g hg q => ?_)
            have := (HO6.out.lt g hg).1
            have h2 := HBO.out.lt
            rw [show g = ob from q] at this
            omega
          b0 := by show n0 ≤ ob; rw [← HOB.out]; exact hn1
          b1 := by show n0 ≤ m1; rw [← HM1.out]; exact Nat.le_trans hn1 HK1.out.size
          b2 := fun e he => by
            obtain ⟨e', he', rfl⟩ := List.mem_map.1 he
            simp only [Bool.false_eq_true, if_false]
            exact Nat.le_trans hn1 (HVIS.out e' he' (HL0.out _)).1 }
      · rintro b (q | q | q | ⟨e, he, rfl⟩)
        · rw [show b = ob from q, HOB.out]; exact Nat.le_refl _
        · rw [show b = m1 from q, ← HM1.out]; exact HK1.out.size
        · have := (HO6.out.lt b q).1
          exact Nat.le_trans HKW.out.size this
        · obtain ⟨e', he', rfl⟩ := List.mem_map.1 he
          simp only [Bool.false_eq_true, if_false]
          exact (HVIS.out e' he' (HL0.out _)).1
    · intro x1 c kl a b w5 cnt5 hkey hlk hv hat hrg5 hlt hg5 hs5 hen
      have HDR := Lib.hid (H.out.keep HKW.out (fun _ _ q => q) (fun _ _ _ q => q))
      obtain ⟨e, he, rfl, rfl, B, cp, ce⟩ := next_fact HDR.out HMM.out (Kp.refl NoB wr) hkey hv hat
      obtain ⟨u, v, hb, hu, hq⟩ := (HDR.out.fls e he).blk
      obtain ⟨Au, cu, rfl⟩ := hu.form
      obtain ⟨Av, cv, rfl⟩ := hq.form
      have hefb : e.fb < w.heap.size := by obtain ⟨u', v', hb', _⟩ := (H.out.fls e he).blk; exact hb'.lt
      have hrb : w.heap.size ≤ w3.heap.size := HK3.out.size
      have hkr : Kp (OnB w3.heap.size) wr w5 := (Kp.refl _ wr).grown hg5 (fun k hk => .inr (by injection hk with hk; exact hk.symm))
      have hk5 : Kp NoB w w5 := HKW.out.grown hg5 (fun k hk => .inl (by injection hk with hk; omega))
      have hb5 : Blk w5 e.fb 75 #[.slice Au e.seen.length cu, .slice Av e.kept.length cv] := hb.keep hkr (fun q => by have : e.fb = w3.heap.size := q; omega)
      have hit : ∃ o, wr.heap[w3.heap.size]? = some o ∧ (∀ cs t f, o ≠ .cells cs t f) ∧ (∀ es c, o ≠ .map es c) := by
        obtain ⟨es', clock', since, seen, c0, _, _, _, _, hr, _⟩ := hrg
        exact ⟨_, hr, (fun _ _ _ q => by cases q), (fun _ _ q => by cases q)⟩
      have hcc : ∀ g cs t f, wr.heap[g]? = some (.cells cs t f) → ¬ OnB w3.heap.size g := by
        intro g cs t f hg q
        obtain ⟨o, ho, hnc, _⟩ := hit
        rw [show g = w3.heap.size from q, ho] at hg
        exact hnc _ _ _ (Option.some.inj hg)
      have hbo5 : Blk w5 ob 64 #[.map (some m1), x.pv, .int .i64 x.room, .int .i64 x.steps, .int .i64 x.crash, .bool x.down, .int .i64 x.starts] := HBO.out.keep hkr (hcc _ _ _ _ HBO.out)
      have hod5 : w5.ownsMap Try.prog 9 Rp m1 x.mn D' := hkr.map HOD.out (fun q => by
        obtain ⟨es', clock', hmm, _⟩ := HOD.out
        obtain ⟨o, ho, _, hnm⟩ := hit
        rw [show m1 = w3.heap.size from q, ho] at hmm
        exact hnm _ _ (Option.some.inj hmm))
      have hvis5 : ∀ e' ∈ x.fs, left (.string (kOf e'.nm)) = false → W5 w n0 w5 (nb (kOf e'.nm)) e' := by
        intro e' he' hf
        obtain ⟨h1, h2, u, v, hbb, huu, hvv⟩ := HVIS.out e' he' hf
        exact ⟨h1, Nat.lt_of_lt_of_le h2 hkr.size, u, v, hbb.keep hkr (hcc _ _ _ _ hbb), huu.keep hkr (fun g cs hg => hcc _ _ _ _ hg), hvv.keep hkr (fun g cs hg => hcc _ _ _ _ hg)⟩
      have hu5 : Bq w5 n0 (.slice Au e.seen.length cu) e.seen := hu.keep hkr (fun g cs hg => hcc _ _ _ _ hg)
      have hq5 : Bq w5 n0 (.slice Av e.kept.length cv) e.kept := hq.keep hkr (fun g cs hg => hcc _ _ _ _ hg)
      have t5 := hb5.thereAll 2 rfl
      have r5 := hb5.readAll 2 rfl
      have on5 : ones #[.slice Au e.seen.length cu, .slice Av e.kept.length cv] := by unfold ones; simp [Value.oneCell']
      have hz5 : Blk (w5.alloc (.cells zeroFe 75)) w5.heap.size 75 zeroFe := Blk.new _ _ _
      have tz := hz5.thereAll 2 rfl
      have HKEY := Lib.hid hkey
      have HLK := Lib.hid hlk
      have HR5 := Lib.hid hrg5
      have HLT := Lib.hid hlt
      have HE := Lib.hid he
      have HK5 := Lib.hid hk5
      have HBO5 := Lib.hid hbo5
      have HOD5 := Lib.hid hod5
      have HVIS5 := Lib.hid hvis5
      have HU5 := Lib.hid hu5
      have HQ5 := Lib.hid hq5
      have HB5 := Lib.hid hb5
      clear hkey hlk hv hat hrg5 hlt hg5 hs5 he hefb hrb hkr hk5 hb5 hit hcc hbo5 hod5 hvis5 hu5 hq5 hz5 hrg ce hb hu hq
      go_upto_region 9 with fail
      obtain ⟨nk, hnk⟩ : ∃ nk, w5.heap.size = nk := ⟨_, rfl⟩
      have HNK := Lib.hid hnk
      have hb8 : Blk ((w5.alloc (.cells zeroFe 75)).setCells w5.heap.size 0 [.slice Au e.seen.length cu, .slice Av e.kept.length cv]) w5.heap.size 75 #[.slice Au e.seen.length cu, .slice Av e.kept.length cv] := (Blk.new w5 75 zeroFe).whole #[.slice Au e.seen.length cu, .slice Av e.kept.length cv] rfl
      have hk8 : Kp NoB w5 ((w5.alloc (.cells zeroFe 75)).setCells w5.heap.size 0 [.slice Au e.seen.length cu, .slice Av e.kept.length cv]) := Kp.setCells (.inl (Nat.le_refl _)) _ _ _ ((Kp.refl NoB w5).alloc _)
      rw [hnk] at hb8 hk8 ⊢
      generalize (w5.alloc (.cells zeroFe 75)).setCells nk 0 [.slice Au e.seen.length cu, .slice Av e.kept.length cv] = w8 at hb8 hk8 ⊢
      have HB8 := Lib.hid hb8
      have HK8 := Lib.hid hk8
      have HBO8 := Lib.hid (HBO5.out.keep hk8 (fun q => q))
      have c8 : w8.cell? ⟨ob, 0, none⟩ = some (.map (some m1)) := by rw [HBO8.out.cell]; rfl
      have HOD8 := Lib.hid (hk8.map HOD5.out (fun q => q))
      have HMX : Hid (x.mn < maxLen) := Lib.hid (by have := HP.out.nf; have := HM.out; unfold maxLen; omega)
      clear hnk hb8 hk8 t5 r5 on5 tz
      go_wp2_with (at_mapUpdate; refine wpList_mapUpdate_own _ rfl _ _ _ 61 rfl 9 69 keyed Try.underlying61 Rp m1 x.mn D' rfl HOD8.out HMX.out _ _ (.string (kOf e.nm)) rfl rfl HKEY.out (.held (ptrV nk)) [] rfl ?_; intro w9 hown9 hgrow9; have HOWN9 := Lib.hid hown9; have HG9 := Lib.hid hgrow9; clear hown9 hgrow9)
      go_frame
      have hg9 := HG9.out
      have k9 : Kp (OnB m1) w8 w9 := (Kp.refl _ w8).grown hg9 (fun k hk => .inr (by injection hk with hk; exact hk.symm))
      have cc9 : ∀ g cs t f, w8.heap[g]? = some (.cells cs t f) → ¬ OnB m1 g := by
        intro g cs t f hg q
        obtain ⟨es', clock', hmm, _⟩ := HOD8.out
        rw [show g = m1 from q, hmm] at hg
        cases hg
      have hr9 : w9.ranges Try.prog 9 Rp x.mb w3.heap.size x.mn D (fun z => left z && !z.sameKey (.string (kOf e.nm))) cnt5 := by
        have hr8 := HR5.out.kept (w' := w8) (row := none) ⟨HK8.out.os, HK8.out.tape, HK8.out.output, HK8.out.size, fun i hi _ => HK8.out.block i hi (fun q => q)⟩ (by simp) (by simp)
        refine hr8.kept hg9 (fun q => ?_) (fun q => ?_)
        · injection q with q
          have h1 : x.mb < w.heap.size := H.out.lt _ (.inr (.inl rfl))
          have h2 := HM1.out
          have h3 := HK1.out.size
          omega
        · injection q with q
          have h2 := HM1.out
          have h3 := HK2.out.size
          have h4 := HK3.out
          obtain ⟨es', clock', hmm, _⟩ := HOWN3.out
          have := lt_of_heap hmm
          omega
      have hmbw : Maps.Tidy D' := HOD5.out.tidy keyed
      have hIs : Maps.IsMap D' := HOD5.out.isMap
      have hfnd : findF (cpF (fun k => left (.string k)) nb x.fs) (kOf e.nm) = some e := by
        rw [cpF_find, H.out.names.find HE.out]
        simp [HLK.out]
      have hhas : Maps.has D' (.string (kOf e.nm)) = true := by rw [HMD.out.has, hfnd]; rfl
      have hown9 : w9.ownsMap Try.prog 9 Rp m1 x.mn (D'.put (.string (kOf e.nm)) (.held (ptrV nk))) := own_exact HOWN9.out (by
        rw [Maps.size_put hmbw, hhas]
        exact HOD5.out.size_le)
      have hMN : MpD (D'.put (.string (kOf e.nm)) (.held (ptrV nk))) (cpF (fun k => left (.string k) && !(Lit.string k).sameKey (.string (kOf e.nm))) (fun k => if k = kOf e.nm then nk else nb k) x.fs) := by
        have h1 := HMD.out.put hIs { e with fb := nk } (keyed.key HKEY.out)
        refine h1.same (fun k => ?_)
        rw [putF_find, cpF_find, cpF_find]
        have hsk : ∀ k', (Lit.string k').sameKey (.string (kOf e.nm)) = (k' == kOf e.nm) := fun _ => rfl
        by_cases hk : kOf e.nm = k
        · subst hk
          rw [if_pos rfl, H.out.names.find HE.out]
          simp [hsk]
        · rw [if_neg hk]
          cases hf : findF x.fs k with
          | none => rfl
          | some e2 =>
            have hk2 := (findF_some hf).2
            have hne : (kOf e2.nm == kOf e.nm) = false := by rw [hk2]; simpa using fun q => hk q.symm
            have hne2 : kOf e2.nm ≠ kOf e.nm := by simpa using hne
            simp [hsk, hne, hne2]
      have hsk : ∀ k', (Lit.string k').sameKey (.string (kOf e.nm)) = (k' == kOf e.nm) := fun _ => rfl
      have hnkw : w.heap.size ≤ nk := by rw [← HNK.out]; exact HK5.out.size
      have hrel9 : CpRel n0 w x ob m1 w3.heap.size D w9 := by
       refine ⟨_, cnt5, fun k => if k = kOf e.nm then nk else nb k, _, hr9, hown9, hMN, ?_, ?_, HBO8.out.keep k9 (cc9 _ _ _ _ HBO8.out), ?_⟩
       · intro e2 he2 hf
         by_cases hk : kOf e2.nm = kOf e.nm
         · have : e2 = e := by
             have h1 := H.out.names.find he2
             have h2 := H.out.names.find HE.out
             rw [hk, h2] at h1
             exact (Option.some.inj h1).symm
           subst this
           simp only [if_true]
           refine ⟨hnkw, Nat.lt_of_lt_of_le HB8.out.lt k9.size, _, _, HB8.out.keep k9 (cc9 _ _ _ _ HB8.out), ?_, ?_⟩
           · exact (HU5.out.keep HK8.out (fun _ _ _ q => q)).keep k9 (fun g cs hg => cc9 _ _ _ _ hg)
           · exact (HQ5.out.keep HK8.out (fun _ _ _ q => q)).keep k9 (fun g cs hg => cc9 _ _ _ _ hg)
         · have hne : (kOf e2.nm == kOf e.nm) = false := by simpa using hk
           rw [hsk, hne] at hf
           simp only [Bool.not_false, Bool.and_true] at hf
           simp only [if_neg hk]
           obtain ⟨h1, h2, u, v, hbb, huu, hvv⟩ := HVIS5.out e2 he2 hf
           have hb8' := hbb.keep HK8.out (fun q => q)
           exact ⟨h1, Nat.lt_of_lt_of_le h2 (Nat.le_trans HK8.out.size k9.size), u, v, hb8'.keep k9 (cc9 _ _ _ _ hb8'), (huu.keep HK8.out (fun _ _ _ q => q)).keep k9 (fun g cs hg => cc9 _ _ _ _ hg), (hvv.keep HK8.out (fun _ _ _ q => q)).keep k9 (fun g cs hg => cc9 _ _ _ _ hg)⟩
       · intro e2 he2 e3 he3 hf2 hf3 hne
         by_cases hk2 : kOf e2.nm = kOf e.nm
         · have hk3 : kOf e3.nm ≠ kOf e.nm := fun q => hne (hk2.trans q.symm)
           have hne3 : (kOf e3.nm == kOf e.nm) = false := by simpa using hk3
           rw [hsk, hne3] at hf3
           simp only [Bool.not_false, Bool.and_true] at hf3
           simp only [if_pos hk2, if_neg hk3]
           have := (HVIS5.out e3 he3 hf3).2.1
           have h5 := HNK.out
           omega
         · have hne2 : (kOf e2.nm == kOf e.nm) = false := by simpa using hk2
           rw [hsk, hne2] at hf2
           simp only [Bool.not_false, Bool.and_true] at hf2
           by_cases hk3 : kOf e3.nm = kOf e.nm
           · simp only [if_neg hk2, if_pos hk3]
             have := (HVIS5.out e2 he2 hf2).2.1
             have h5 := HNK.out
             omega
           · have hne3 : (kOf e3.nm == kOf e.nm) = false := by simpa using hk3
             rw [hsk, hne3] at hf3
             simp only [Bool.not_false, Bool.and_true] at hf3
             simp only [if_neg hk2, if_neg hk3]
             exact HINJ.out e2 he2 e3 he3 hf2 hf3 hne
       · exact (HK5.out.trans HK8.out (fun _ _ q => q)).trans k9 (fun i hi q => by
           have h2 := HM1.out
           have h3 := HK1.out.size
           have : i = m1 := q
           omega)
      go_roundw
      case rel => exact hrel9
      case measure => rw [hr9.left_eq, HRG.out.left_eq]; exact HLT.out
end Go.Proofs.Ytdgjglocgdccbaa
