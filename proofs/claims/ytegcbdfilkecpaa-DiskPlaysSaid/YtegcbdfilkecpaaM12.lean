/- Texts of this proof, one behind the other: lemmas and contracts; each says its own conditions. -/
import Derived.Test.YtegcbdfilkecpaaM4
import Derived.Test.YtegcbdfilkecpaaM9
import Derived.Test.YtegcbdfilkecpaaM11
/- The stand-in disk: Copy, its walk; condition: fewer than 2^40 files and changes. -/
namespace Go.Proofs.Ytegcbdfilkecpaa
open Go.RowKit

attribute [local go_sem ↓] loadDk storeDk allocDk loadFe storeFe allocFe
def W5 (w : World) (n0 : Nat) (w5 : World) (g : Nat) (e : Fe) : Prop := w.heap.size ≤ g ∧ g < w5.heap.size ∧ ∃ u v, Blk w5 g 143 #[u, v] ∧ Bq w5 n0 u e.seen ∧ Bq w5 n0 v e.kept
def CpRel (n0 : Nat) (W : World) (x : Dd) (ob m1 r : Nat) (D : DataW Value) (wr : World) : Prop :=
  ∃ (left : Lit → Bool) (cnt : Nat) (nb : List UInt8 → Nat) (D' : DataW Value), wr.ranges Try.prog 9 Rp x.mb r x.mn D left cnt ∧ wr.ownsMap Try.prog 9 Rp m1 x.mn D' ∧ MpD D' (cpF (fun k => left (.string k)) nb x.fs) ∧
    (∀ e ∈ x.fs, left (.string (kOf e.nm)) = false → W.heap.size ≤ nb (kOf e.nm) ∧ nb (kOf e.nm) < wr.heap.size ∧ ∃ u v, Blk wr (nb (kOf e.nm)) 143 #[u, v] ∧ Bq wr n0 u e.seen ∧ Bq wr n0 v e.kept) ∧
    (∀ e ∈ x.fs, ∀ e' ∈ x.fs, left (.string (kOf e.nm)) = false → left (.string (kOf e'.nm)) = false → kOf e.nm ≠ kOf e'.nm → nb (kOf e.nm) ≠ nb (kOf e'.nm)) ∧
    Blk wr ob 121 #[.map (some m1), x.pv, .int .i64 x.room, .int .i64 x.steps, .int .i64 x.crash, .bool x.down, .int .i64 x.starts] ∧ Kp NoB W wr
theorem cpF_nm (left : List UInt8 → Bool) (nb : List UInt8 → Nat) (e : Fe) : (if left (kOf e.nm) then e else { e with fb := nb (kOf e.nm) } : Fe).nm = e.nm ∧ (if left (kOf e.nm) then e else { e with fb := nb (kOf e.nm) } : Fe).seen = e.seen ∧ (if left (kOf e.nm) then e else { e with fb := nb (kOf e.nm) } : Fe).kept = e.kept := by split <;> exact ⟨rfl, rfl, rfl⟩
theorem Of.cp {x : Dd} {p : Pl} (h : Of x p) (ob m1 : Nat) (pv : Value) (left : List UInt8 → Bool) (nb : List UInt8 → Nat) : Of { x with db := ob, mb := m1, pv := pv, fs := cpF left nb x.fs } p :=
  { h with
    seen := by
      rw [h.seen]
      funext s
      unfold seenOf
      simp only [cpF_find]
      cases findF x.fs (kOf s) with
      | none => rfl
      | some e => exact (cpF_nm left nb e).2.1.symm
    kept := by
      rw [h.kept]
      funext s
      unfold keptOf
      simp only [cpF_find]
      cases findF x.fs (kOf s) with
      | none => rfl
      | some e => exact (cpF_nm left nb e).2.2.symm
    sum := by
      rw [h.sum]
      unfold allSum cpF
      rw [List.map_map]
      congr 2
      apply List.map_congr_left
      intro e _
      simp only [Function.comp]
      rw [(cpF_nm left nb e).2.1]
    ksum := by
      rw [h.ksum]
      unfold allKept cpF
      rw [List.map_map]
      congr 2
      apply List.map_congr_left
      intro e _
      simp only [Function.comp]
      rw [(cpF_nm left nb e).2.2] }
def CpPost (n0 : Nat) (w : World) (p : Pl) (e : Ending) (w' : World) : Prop := ∃ y, e = .returned (ptrV y.db) ∧ Dk n0 w' y ∧ Of y p ∧ (∀ b, y.O b → w.heap.size ≤ b) ∧ Kp NoB w w'
set_option maxRecDepth 100000 in
set_option maxHeartbeats 1600000 in
theorem copy_ok (w : World) (n0 : Nat) (x : Dd) (p : Pl) (h : Dk n0 w x) (hp : Of x p) (hn0 : n0 ≤ w.heap.size) (hm : p.nf < 1099511627776) (hpd : p.pd.length < 1099511627776) :
    Calls Try.prog 33 #[ptrV x.db] w (CpPost n0 w p) := by
  have H := Lib.hid h
  have HP := Lib.hid hp
  have HN0 := Lib.hid hn0
  have HM := Lib.hid hm
  have HPD := Lib.hid hpd
  obtain ⟨db, hdb⟩ : ∃ db, x.db = db := ⟨_, rfl⟩
  have HX := Lib.hid hdb
  obtain ⟨D, ⟨es, clock, hmb, F, hes, hD⟩, hM⟩ := h.mp
  have HOWN : Hid (w.ownsMap Try.prog 9 Rp x.mb x.mn D) := Lib.hid ⟨es, clock, hmb, F, hes, hD⟩
  have HMM := Lib.hid hM
  have HMB := Lib.hid hmb
  have hb := h.blk
  rw [hdb] at hb
  have HB := Lib.hid hb
  have t0 := hb.thereAll 7 rfl
  have r0 := hb.readAll 7 rfl
  have on0 : ones (diskCells x) := by
    have hs := own_slice h.pend
    obtain ⟨A, c, e⟩ := hs
    unfold ones diskCells
    rw [e]
    simp [Value.oneCell']
  have sz0 : (diskCells x).size = 7 := rfl
  have hz : Blk (w.alloc (.cells zeroDk 121)) w.heap.size 121 zeroDk := Blk.new _ _ _
  have t1 := hz.thereAll 7 rfl
  rw [hdb]
  clear h hp hn0 hm hpd hdb hmb F hes hD hM hb hz
  unfold ptrV
  go_enter Try.func33, Try.ntmps33
  go_upto_region 4 with (go_at_call 69; go_must (refine (show Calls _ _ #[ptrV db] _ _ by rw [← HX.out]; exact is_ok _ _ _ H.out).mono ?_); rintro e w2 ⟨rfl, rfl⟩)
  obtain ⟨ob, hob⟩ : ∃ ob, w.heap.size = ob := ⟨_, rfl⟩
  have HOB := Lib.hid hob
  have hb1 : Blk ((w.alloc (.cells zeroDk 121)).setCells w.heap.size 0 (diskCells x).toList) w.heap.size 121 (diskCells x) := (Blk.new w 121 zeroDk).whole _ rfl
  have hk1 : Kp NoB w ((w.alloc (.cells zeroDk 121)).setCells w.heap.size 0 (diskCells x).toList) := Kp.setCells (.inl (Nat.le_refl _)) _ _ _ ((Kp.refl NoB w).alloc _)
  rw [hob] at hb1 hk1 ⊢
  generalize (w.alloc (.cells zeroDk 121)).setCells ob 0 (diskCells x).toList = w1 at hb1 hk1 ⊢
  have HB1 := Lib.hid hb1
  have HK1 := Lib.hid hk1
  have HD1 := Lib.hid (H.out.keep hk1 (fun _ _ q => q) (fun _ _ _ q => q))
  have c0 : w1.cell? ⟨db, 0, none⟩ = some (.map (some x.mb)) := by rw [hk1.cell HB.out.lt (fun q => q), HB.out.cell]; rfl
  have HMB1 : Hid (w1.heap[x.mb]? = some (.map es clock)) := Lib.hid (hk1.lift HMB.out (fun q => q))
  clear hob hb1 hk1 t0 r0 on0 sz0 t1
  go_wp2_with fail
  refine (mclone_ok w1 x.mb es clock HMB1.out).mono ?_
  rintro e w2 ⟨rfl, hw2⟩
  have hk2 : Kp NoB w1 w2 := by rw [hw2]; exact (Kp.refl NoB w1).alloc _
  have hown2 : w2.ownsMap Try.prog 9 Rp w1.heap.size x.mn D := by
    obtain ⟨es', clock', hb', F', hs', hD'⟩ := HOWN.out
    have := HMB.out
    rw [hb'] at this
    simp only [Option.some.injEq, Obj.map.injEq] at this
    obtain ⟨rfl, rfl⟩ := this
    exact ⟨es', clock', by rw [hw2]; exact heap_alloc_new w1 _, F', hs', hD'⟩
  obtain ⟨m1, hm1⟩ : ∃ m1, w1.heap.size = m1 := ⟨_, rfl⟩
  have HM1 := Lib.hid hm1
  rw [hm1] at hown2 ⊢
  have HOWN2 := Lib.hid hown2
  have HK2 := Lib.hid hk2
  have d0 : w2.cell? ⟨ob, 0, none⟩ = some (.map (some x.mb)) := by rw [hk2.cell HB1.out.lt (fun q => q), HB1.out.cell]; rfl
  have z0 : w2.frozen? ⟨ob, 0, none⟩ = false := (HB1.out.keep hk2 (fun q => q)).frozen 0
  have HB2 := Lib.hid (HB1.out.keep hk2 (fun q => q))
  have HD2 := Lib.hid (HD1.out.keep hk2 (fun _ _ q => q) (fun _ _ _ q => q))
  clear hw2 hk2 hown2 hm1 c0
  go_upto_region 5 with fail
  have hb3 := HB2.out.set_ 0 (.map (some m1))
  have hk3 : Kp NoB w (w2.setCell ⟨ob, 0, none⟩ (.map (some m1))) := (HK1.out.trans HK2.out (fun _ _ q => q)).setCell (p := ⟨ob, 0, none⟩) (.inl (by rw [HOB.out]; exact Nat.le_refl _)) _
  have ks : Kp (OnB ob) w2 (w2.setCell ⟨ob, 0, none⟩ (.map (some m1))) := (Kp.refl (OnB ob) w2).setAt rfl _ _
  have hobm : m1 ≠ ob := by have := HB1.out.lt; have := HM1.out; omega
  have hown3 : (w2.setCell ⟨ob, 0, none⟩ (.map (some m1))).ownsMap Try.prog 9 Rp m1 x.mn D := ks.map HOWN2.out (fun q => hobm q)
  generalize w2.setCell ⟨ob, 0, none⟩ (.map (some m1)) = w3 at hb3 hk3 hown3 ⊢
  have HB3 : Hid (Blk w3 ob 121 #[.map (some m1), x.pv, .int .i64 x.room, .int .i64 x.steps, .int .i64 x.crash, .bool x.down, .int .i64 x.starts]) := Lib.hid (by simpa [diskCells] using hb3)
  have HK3 := Lib.hid hk3
  have HOWN3 := Lib.hid hown3
  have HD3 := Lib.hid (H.out.keep hk3 (fun _ _ q => q) (fun _ _ _ q => q))
  have HDm := Lib.hid (hk3.map HOWN.out (fun q => q))
  have c0 : w3.cell? ⟨db, 0, none⟩ = some (.map (some x.mb)) := by rw [hk3.cell HB.out.lt (fun q => q), HB.out.cell]; rfl
  clear hb3 hk3 hown3 ks d0 z0 hobm
  go_wp2_with (at_range; refine wpList_range_own _ rfl _ 118 rfl 9 139 keyed Try.underlying118 Rp x.mb x.mn D rfl HDm.out ?_; intro w4 hrg0 hg0 hs0)
  go_frame
  go_loopw [5] (fun _ wr => CpRel n0 w x ob m1 w3.heap.size D wr) (fun _ wr => wr.rangeLeft x.mb w3.heap.size)
  case atStart =>
    have hk4 : Kp NoB w3 w4 := (Kp.refl _ w3).grown hg0 (by simp)
    refine ⟨Maps.has D, Maps.size D, fun _ => 0, D, hrg0, hk4.map HOWN3.out (fun q => q), ?_, ?_, ?_, HB3.out.keep hk4 (fun q => q), HK3.out.trans hk4 (fun _ _ q => q)⟩
    · have : cpF (fun k => Maps.has D (.string k)) (fun _ => 0) x.fs = x.fs := by
        unfold cpF
        rw [List.map_congr_left (g := id) (fun e he => by show (if Maps.has D (.string (kOf e.nm)) = true then e else _) = e; rw [HMM.out.has, H.out.names.find he]; rfl), List.map_id]
      rw [this]
      exact HMM.out
    · intro e he hf
      rw [HMM.out.has, H.out.names.find he] at hf
      cases hf
    · intro e he e' he' hf
      rw [HMM.out.has, H.out.names.find he] at hf
      cases hf
  case round =>
    obtain ⟨left, cnt, nb, D', hrg, howD, hMD, hvis, hinj, hbo, hkw⟩ := hrel
    have HRG := Lib.hid hrg
    have HOD := Lib.hid howD
    have HMD := Lib.hid hMD
    have HVIS := Lib.hid hvis
    have HINJ := Lib.hid hinj
    have HBO := Lib.hid hbo
    have HKW := Lib.hid hkw
    clear howD hMD hvis hinj hbo hkw hrg0 hg0 hs0 c0
    go_wp2_with (at_next; refine wpList_next_ranges _ rfl _ rfl 9 keyed Rp Value.string Value.pointer (fun key kl hk => keyS_inv hk) (fun v y hv => by obtain ⟨p, rfl, _⟩ := Rp_inv hv; exact ⟨p, rfl⟩) x.mb w3.heap.size x.mn D left cnt rfl hrg ?_ ?_)
    · intro _ hl0
      have HL0 := Lib.hid hl0
      have HDR := Lib.hid (H.out.keep HKW.out (fun _ _ q => q) (fun _ _ _ q => q))
      obtain ⟨Ap, kp, hpv⟩ := own_slice H.out.pend
      obtain ⟨pl, hpl⟩ : ∃ pl, x.pd.length = pl := ⟨_, rfl⟩
      rw [hpl] at hpv
      have HPV := Lib.hid hpv
      have HPL := Lib.hid hpl
      have d1 : wr.cell? ⟨db, 1, none⟩ = some (.slice Ap pl kp) := by rw [← HX.out, HDR.out.blk.cell, ← hpv]; rfl
      have HBO2 := Lib.hid (show Blk wr ob 121 #[.map (some m1), .slice Ap pl kp, .int .i64 x.room, .int .i64 x.steps, .int .i64 x.crash, .bool x.down, .int .i64 x.starts] by rw [← hpv]; exact HBO.out)
      clear hl0 hrg hpv hpl
      go_wp2_with fail
      refine (cloneCg_ok wr n0 Ap pl kp x.pd HPL.out (by have := HPD.out; rw [HP.out.pd, HPL.out] at this; exact this) H.out.s64 (by have := HDR.out.pend; rw [HPL.out, HPV.out] at this; exact this)).mono ?_
      rintro e w6 ⟨A6, c6, rfl, ho6, hk6⟩
      rw [HPL.out] at ho6 ⊢
      have HO6 := Lib.hid ho6
      have HK6 := Lib.hid hk6
      have e1 : w6.cell? ⟨ob, 1, none⟩ = some (.slice Ap pl kp) := by rw [(HBO2.out.keep hk6 (fun q => q)).cell]; rfl
      have z1 : w6.frozen? ⟨ob, 1, none⟩ = false := (HBO2.out.keep hk6 (fun q => q)).frozen 1
      clear ho6 hk6 d1
      go_wp2_with fail
      go_ret
      have ks : Kp (OnB ob) w6 (w6.setCell ⟨ob, 1, none⟩ (.slice A6 pl c6)) := (Kp.refl (OnB ob) w6).setAt rfl _ _
      have hkw : Kp NoB w (w6.setCell ⟨ob, 1, none⟩ (.slice A6 pl c6)) := (HKW.out.trans HK6.out (fun _ _ q => q)).setCell (p := ⟨ob, 1, none⟩) (.inl (by rw [HOB.out]; exact Nat.le_refl _)) _
      have hbF := (HBO2.out.keep HK6.out (fun q => q)).set_ 1 (.slice A6 pl c6)
      have hbo6 := HBO2.out.keep HK6.out (fun q => q)
      have hm1ob : m1 ≠ ob := by have := HB1.out.lt; have := HM1.out; omega
      have hMF : MpD D' (cpF (fun _ => false) nb x.fs) := by
        have : cpF (fun k => left (.string k)) nb x.fs = cpF (fun _ => false) nb x.fs := by
          unfold cpF
          apply List.map_congr_left
          intro e _
          simp only [HL0.out]
        rw [← this]
        exact HMD.out
      have hn1 := HN0.out
      refine ⟨{ x with db := ob, mb := m1, pv := .slice A6 pl c6, fs := cpF (fun _ => false) nb x.fs }, rfl, ?_, HP.out.cp _ _ _ _ _, ?_, hkw⟩
      · exact { H.out with
          blk := by simpa [diskCells] using hbF
          mp := ⟨D', ks.map (HK6.out.map HOD.out (fun q => q)) (fun q => hm1ob q), hMF⟩
          names := by
            show (cpF (fun _ => false) nb x.fs).Pairwise _
            unfold cpF
            rw [List.pairwise_map]
            exact H.out.names.imp (fun {a b} q => by simp only [Bool.false_eq_true, if_false]; exact q)
          fbs := by
            show (cpF (fun _ => false) nb x.fs).Pairwise _
            unfold cpF
            rw [List.pairwise_map]
            refine List.Pairwise.imp_of_mem (fun {a b} ha hb q => ?_) H.out.names
            simp only [Bool.false_eq_true, if_false]
            exact HINJ.out a ha b hb (HL0.out _) (HL0.out _) q
          fls := fun e he => by
            obtain ⟨e', he', rfl⟩ := List.mem_map.1 he
            obtain ⟨h1, h2, u, v, hb, hu, hv⟩ := HVIS.out e' he' (HL0.out _)
            have hf := H.out.fls e' he'
            have hb6 := hb.keep HK6.out (fun q => q)
            have hnob : ¬ OnB ob (nb (kOf e'.nm)) := fun q => by
              rw [show nb (kOf e'.nm) = ob from q] at hb6
              exact blk_ne hb6 hbo6 (by decide) rfl
            simp only [Bool.false_eq_true, if_false]
            exact ⟨⟨u, v, hb6.keep ks hnob, (hu.keep HK6.out (fun _ _ _ q => q)).keep ks (fun g cs hg q => onb_cells hbo6 hg (by decide) q), (hv.keep HK6.out (fun _ _ _ q => q)).keep ks (fun g cs hg q => onb_cells hbo6 hg (by decide) q)⟩, hf.ls, hf.lk⟩
          pend := by
            show (w6.setCell ⟨ob, 1, none⟩ (.slice A6 pl c6)).ownsRow n0 _ 67 (.slice A6 pl c6) x.pd.length (cgCells x.pd)
            rw [HPL.out]
            refine own_keepB (HO6.out.mono (Nat.le_trans hn1 HKW.out.size)) ks (fun g hg q => ?_)
            have := (HO6.out.lt g hg).1
            have h2 := HBO.out.lt
            rw [show g = ob from q] at this
            omega
          b0 := by show n0 ≤ ob; rw [← HOB.out]; exact hn1
          b1 := by show n0 ≤ m1; rw [← HM1.out]; exact Nat.le_trans hn1 HK1.out.size
          b2 := fun e he => by
            obtain ⟨e', he', rfl⟩ := List.mem_map.1 he
            simp only [Bool.false_eq_true, if_false]
            exact Nat.le_trans hn1 (HVIS.out e' he' (HL0.out _)).1 }
      · rintro b (q | q | q | ⟨e, he, rfl⟩)
        · rw [show b = ob from q, HOB.out]; exact Nat.le_refl _
        · rw [show b = m1 from q, ← HM1.out]; exact HK1.out.size
        · have := (HO6.out.lt b q).1
          exact Nat.le_trans HKW.out.size this
        · obtain ⟨e', he', rfl⟩ := List.mem_map.1 he
          simp only [Bool.false_eq_true, if_false]
          exact (HVIS.out e' he' (HL0.out _)).1
    · intro x1 c kl a b w5 cnt5 hkey hlk hv hat hrg5 hlt hg5 hs5 hen
      have HDR := Lib.hid (H.out.keep HKW.out (fun _ _ q => q) (fun _ _ _ q => q))
      obtain ⟨e, he, rfl, rfl, B, cp, ce⟩ := next_fact HDR.out HMM.out (Kp.refl NoB wr) hkey hv hat
      obtain ⟨u, v, hb, hu, hq⟩ := (HDR.out.fls e he).blk
      obtain ⟨Au, cu, rfl⟩ := hu.form
      obtain ⟨Av, cv, rfl⟩ := hq.form
      have hefb : e.fb < w.heap.size := by obtain ⟨u', v', hb', _⟩ := (H.out.fls e he).blk; exact hb'.lt
      have hrb : w.heap.size ≤ w3.heap.size := HK3.out.size
      have hkr : Kp (OnB w3.heap.size) wr w5 := (Kp.refl _ wr).grown hg5 (fun k hk => .inr (by injection hk with hk; exact hk.symm))
      have hk5 : Kp NoB w w5 := HKW.out.grown hg5 (fun k hk => .inl (by injection hk with hk; omega))
      have hb5 : Blk w5 e.fb 143 #[.slice Au e.seen.length cu, .slice Av e.kept.length cv] := hb.keep hkr (fun q => by have : e.fb = w3.heap.size := q; omega)
      have hit : ∃ o, wr.heap[w3.heap.size]? = some o ∧ (∀ cs t f, o ≠ .cells cs t f) ∧ (∀ es c, o ≠ .map es c) := by
        obtain ⟨es', clock', since, seen, c0, _, _, _, _, hr, _⟩ := hrg
        exact ⟨_, hr, (fun _ _ _ q => by cases q), (fun _ _ q => by cases q)⟩
      have hcc : ∀ g cs t f, wr.heap[g]? = some (.cells cs t f) → ¬ OnB w3.heap.size g := by
        intro g cs t f hg q
        obtain ⟨o, ho, hnc, _⟩ := hit
        rw [show g = w3.heap.size from q, ho] at hg
        exact hnc _ _ _ (Option.some.inj hg)
      have hbo5 : Blk w5 ob 121 #[.map (some m1), x.pv, .int .i64 x.room, .int .i64 x.steps, .int .i64 x.crash, .bool x.down, .int .i64 x.starts] := HBO.out.keep hkr (hcc _ _ _ _ HBO.out)
      have hod5 : w5.ownsMap Try.prog 9 Rp m1 x.mn D' := hkr.map HOD.out (fun q => by
        obtain ⟨es', clock', hmm, _⟩ := HOD.out
        obtain ⟨o, ho, _, hnm⟩ := hit
        rw [show m1 = w3.heap.size from q, ho] at hmm
        exact hnm _ _ (Option.some.inj hmm))
      have hvis5 : ∀ e' ∈ x.fs, left (.string (kOf e'.nm)) = false → W5 w n0 w5 (nb (kOf e'.nm)) e' := by
        intro e' he' hf
        obtain ⟨h1, h2, u, v, hbb, huu, hvv⟩ := HVIS.out e' he' hf
        exact ⟨h1, Nat.lt_of_lt_of_le h2 hkr.size, u, v, hbb.keep hkr (hcc _ _ _ _ hbb), huu.keep hkr (fun g cs hg => hcc _ _ _ _ hg), hvv.keep hkr (fun g cs hg => hcc _ _ _ _ hg)⟩
      have hu5 : Bq w5 n0 (.slice Au e.seen.length cu) e.seen := hu.keep hkr (fun g cs hg => hcc _ _ _ _ hg)
      have hq5 : Bq w5 n0 (.slice Av e.kept.length cv) e.kept := hq.keep hkr (fun g cs hg => hcc _ _ _ _ hg)
      have t5 := hb5.thereAll 2 rfl
      have r5 := hb5.readAll 2 rfl
      have on5 : ones #[.slice Au e.seen.length cu, .slice Av e.kept.length cv] := by unfold ones; simp [Value.oneCell']
      have hz5 : Blk (w5.alloc (.cells zeroFe 143)) w5.heap.size 143 zeroFe := Blk.new _ _ _
      have tz := hz5.thereAll 2 rfl
      have HKEY := Lib.hid hkey
      have HLK := Lib.hid hlk
      have HR5 := Lib.hid hrg5
      have HLT := Lib.hid hlt
      have HE := Lib.hid he
      have HK5 := Lib.hid hk5
      have HBO5 := Lib.hid hbo5
      have HOD5 := Lib.hid hod5
      have HVIS5 := Lib.hid hvis5
      have HU5 := Lib.hid hu5
      have HQ5 := Lib.hid hq5
      have HB5 := Lib.hid hb5
      clear hkey hlk hv hat hrg5 hlt hg5 hs5 he hefb hrb hkr hk5 hb5 hit hcc hbo5 hod5 hvis5 hu5 hq5 hz5 hrg ce hb hu hq
      go_upto_region 9 with fail
      obtain ⟨nk, hnk⟩ : ∃ nk, w5.heap.size = nk := ⟨_, rfl⟩
      have HNK := Lib.hid hnk
      have hb8 : Blk ((w5.alloc (.cells zeroFe 143)).setCells w5.heap.size 0 [.slice Au e.seen.length cu, .slice Av e.kept.length cv]) w5.heap.size 143 #[.slice Au e.seen.length cu, .slice Av e.kept.length cv] := (Blk.new w5 143 zeroFe).whole #[.slice Au e.seen.length cu, .slice Av e.kept.length cv] rfl
      have hk8 : Kp NoB w5 ((w5.alloc (.cells zeroFe 143)).setCells w5.heap.size 0 [.slice Au e.seen.length cu, .slice Av e.kept.length cv]) := Kp.setCells (.inl (Nat.le_refl _)) _ _ _ ((Kp.refl NoB w5).alloc _)
      rw [hnk] at hb8 hk8 ⊢
      generalize (w5.alloc (.cells zeroFe 143)).setCells nk 0 [.slice Au e.seen.length cu, .slice Av e.kept.length cv] = w8 at hb8 hk8 ⊢
      have HB8 := Lib.hid hb8
      have HK8 := Lib.hid hk8
      have HBO8 := Lib.hid (HBO5.out.keep hk8 (fun q => q))
      have c8 : w8.cell? ⟨ob, 0, none⟩ = some (.map (some m1)) := by rw [HBO8.out.cell]; rfl
      have HOD8 := Lib.hid (hk8.map HOD5.out (fun q => q))
      have HMX : Hid (x.mn < maxLen) := Lib.hid (by have := HP.out.nf; have := HM.out; unfold maxLen; omega)
      clear hnk hb8 hk8 t5 r5 on5 tz
      go_wp2_with (at_mapUpdate; refine wpList_mapUpdate_own _ rfl _ _ _ 118 rfl 9 139 keyed Try.underlying118 Rp m1 x.mn D' rfl HOD8.out HMX.out _ _ (.string (kOf e.nm)) rfl rfl HKEY.out (.held (ptrV nk)) [] rfl ?_; intro w9 hown9 hgrow9; have HOWN9 := Lib.hid hown9; have HG9 := Lib.hid hgrow9; clear hown9 hgrow9)
      go_frame
      have hg9 := HG9.out
      have k9 : Kp (OnB m1) w8 w9 := (Kp.refl _ w8).grown hg9 (fun k hk => .inr (by injection hk with hk; exact hk.symm))
      have cc9 : ∀ g cs t f, w8.heap[g]? = some (.cells cs t f) → ¬ OnB m1 g := by
        intro g cs t f hg q
        obtain ⟨es', clock', hmm, _⟩ := HOD8.out
        rw [show g = m1 from q, hmm] at hg
        cases hg
      have hr9 : w9.ranges Try.prog 9 Rp x.mb w3.heap.size x.mn D (fun z => left z && !z.sameKey (.string (kOf e.nm))) cnt5 := by
        have hr8 := HR5.out.kept (w' := w8) (row := none) ⟨HK8.out.os, HK8.out.tape, HK8.out.output, HK8.out.size, fun i hi _ => HK8.out.block i hi (fun q => q)⟩ (by simp) (by simp)
        refine hr8.kept hg9 (fun q => ?_) (fun q => ?_)
        · injection q with q
          have h1 : x.mb < w.heap.size := H.out.lt _ (.inr (.inl rfl))
          have h2 := HM1.out
          have h3 := HK1.out.size
          omega
        · injection q with q
          have h2 := HM1.out
          have h3 := HK2.out.size
          have h4 := HK3.out
          obtain ⟨es', clock', hmm, _⟩ := HOWN3.out
          have := lt_of_heap hmm
          omega
      have hmbw : Maps.Tidy D' := HOD5.out.tidy keyed
      have hIs : Maps.IsMap D' := HOD5.out.isMap
      have hfnd : findF (cpF (fun k => left (.string k)) nb x.fs) (kOf e.nm) = some e := by
        rw [cpF_find, H.out.names.find HE.out]
        simp [HLK.out]
      have hhas : Maps.has D' (.string (kOf e.nm)) = true := by rw [HMD.out.has, hfnd]; rfl
      have hown9 : w9.ownsMap Try.prog 9 Rp m1 x.mn (D'.put (.string (kOf e.nm)) (.held (ptrV nk))) := own_exact HOWN9.out (by
        rw [Maps.size_put hmbw, hhas]
        exact HOD5.out.size_le)
      have hMN : MpD (D'.put (.string (kOf e.nm)) (.held (ptrV nk))) (cpF (fun k => left (.string k) && !(Lit.string k).sameKey (.string (kOf e.nm))) (fun k => if k = kOf e.nm then nk else nb k) x.fs) := by
        have h1 := HMD.out.put hIs { e with fb := nk } (keyed.key HKEY.out)
        refine h1.same (fun k => ?_)
        rw [putF_find, cpF_find, cpF_find]
        have hsk : ∀ k', (Lit.string k').sameKey (.string (kOf e.nm)) = (k' == kOf e.nm) := fun _ => rfl
        by_cases hk : kOf e.nm = k
        · subst hk
          rw [if_pos rfl, H.out.names.find HE.out]
          simp [hsk]
        · rw [if_neg hk]
          cases hf : findF x.fs k with
          | none => rfl
          | some e2 =>
            have hk2 := (findF_some hf).2
            have hne : (kOf e2.nm == kOf e.nm) = false := by rw [hk2]; simpa using fun q => hk q.symm
            have hne2 : kOf e2.nm ≠ kOf e.nm := by simpa using hne
            simp [hsk, hne, hne2]
      have hsk : ∀ k', (Lit.string k').sameKey (.string (kOf e.nm)) = (k' == kOf e.nm) := fun _ => rfl
      have hnkw : w.heap.size ≤ nk := by rw [← HNK.out]; exact HK5.out.size
      have hrel9 : CpRel n0 w x ob m1 w3.heap.size D w9 := by
       refine ⟨_, cnt5, fun k => if k = kOf e.nm then nk else nb k, _, hr9, hown9, hMN, ?_, ?_, HBO8.out.keep k9 (cc9 _ _ _ _ HBO8.out), ?_⟩
       · intro e2 he2 hf
         by_cases hk : kOf e2.nm = kOf e.nm
         · have : e2 = e := by
             have h1 := H.out.names.find he2
             have h2 := H.out.names.find HE.out
             rw [hk, h2] at h1
             exact (Option.some.inj h1).symm
           subst this
           simp only [if_true]
           refine ⟨hnkw, Nat.lt_of_lt_of_le HB8.out.lt k9.size, _, _, HB8.out.keep k9 (cc9 _ _ _ _ HB8.out), ?_, ?_⟩
           · exact (HU5.out.keep HK8.out (fun _ _ _ q => q)).keep k9 (fun g cs hg => cc9 _ _ _ _ hg)
           · exact (HQ5.out.keep HK8.out (fun _ _ _ q => q)).keep k9 (fun g cs hg => cc9 _ _ _ _ hg)
         · have hne : (kOf e2.nm == kOf e.nm) = false := by simpa using hk
           rw [hsk, hne] at hf
           simp only [Bool.not_false, Bool.and_true] at hf
           simp only [if_neg hk]
           obtain ⟨h1, h2, u, v, hbb, huu, hvv⟩ := HVIS5.out e2 he2 hf
           have hb8' := hbb.keep HK8.out (fun q => q)
           exact ⟨h1, Nat.lt_of_lt_of_le h2 (Nat.le_trans HK8.out.size k9.size), u, v, hb8'.keep k9 (cc9 _ _ _ _ hb8'), (huu.keep HK8.out (fun _ _ _ q => q)).keep k9 (fun g cs hg => cc9 _ _ _ _ hg), (hvv.keep HK8.out (fun _ _ _ q => q)).keep k9 (fun g cs hg => cc9 _ _ _ _ hg)⟩
       · intro e2 he2 e3 he3 hf2 hf3 hne
         by_cases hk2 : kOf e2.nm = kOf e.nm
         · have hk3 : kOf e3.nm ≠ kOf e.nm := fun q => hne (hk2.trans q.symm)
           have hne3 : (kOf e3.nm == kOf e.nm) = false := by simpa using hk3
           rw [hsk, hne3] at hf3
           simp only [Bool.not_false, Bool.and_true] at hf3
           simp only [if_pos hk2, if_neg hk3]
           have := (HVIS5.out e3 he3 hf3).2.1
           have h5 := HNK.out
           omega
         · have hne2 : (kOf e2.nm == kOf e.nm) = false := by simpa using hk2
           rw [hsk, hne2] at hf2
           simp only [Bool.not_false, Bool.and_true] at hf2
           by_cases hk3 : kOf e3.nm = kOf e.nm
           · simp only [if_neg hk2, if_pos hk3]
             have := (HVIS5.out e2 he2 hf2).2.1
             have h5 := HNK.out
             omega
           · have hne3 : (kOf e3.nm == kOf e.nm) = false := by simpa using hk3
             rw [hsk, hne3] at hf3
             simp only [Bool.not_false, Bool.and_true] at hf3
             simp only [if_neg hk2, if_neg hk3]
             exact HINJ.out e2 he2 e3 he3 hf2 hf3 hne
       · exact (HK5.out.trans HK8.out (fun _ _ q => q)).trans k9 (fun i hi q => by
           have h2 := HM1.out
           have h3 := HK1.out.size
           have : i = m1 := q
           omega)
      go_roundw
      case rel => exact hrel9
      case measure => rw [hr9.left_eq, HRG.out.left_eq]; exact HLT.out
end Go.Proofs.Ytegcbdfilkecpaa
/- The law of the disks' play: two disks, each with its answer; no condition but on the texts' lengths. -/
namespace Go.Proofs.Ytegcbdfilkecpaa
open Go.RowKit

def dop (p : Pl) (x : DOp) : Pl :=
  if x.do_ = 2 then p.write x.name x.at_ (strI x.data) else if x.do_ = 3 then p.trunc x.name x.n else if x.do_ = 4 then p.sync x.name else if x.do_ = 5 then p.setRoom x.n else
  if x.do_ = 6 then p.crashIn x.n else if x.do_ = 7 then p.crashNow else if x.do_ = 8 then p.restart x.chs else p
/-- a disk, or none, and what the document says of it -/
def SlOk (S : Nat → Prop) (w : World) (v : Value) (c : Array Value) (m : Nat) : Prop :=
  (v = .pointer none ∧ c = rdZ ∧ ∀ b, ¬ S b) ∨ ∃ db p d, v = ptrV db ∧ c = rdC d p ∧ Dq S w w db p ∧ Rf w d p ∧ (∀ b, S b → DkB w b) ∧ p.sm m
theorem SlOk.size {S : Nat → Prop} {w : World} {v : Value} {c : Array Value} {m : Nat} (h : SlOk S w v c m) : c.size = 8 := by
  rcases h with ⟨_, rfl, _⟩ | ⟨_, _, _, _, rfl, _⟩ <;> rfl
theorem SlOk.ones {S : Nat → Prop} {w : World} {v : Value} {c : Array Value} {m : Nat} (h : SlOk S w v c m) : c.all (·.oneCell') = true := by
  rcases h with ⟨_, rfl, _⟩ | ⟨_, p, d, _, rfl, _⟩
  · unfold rdZ; simp [Value.oneCell']
  · exact rdC_onesD d p
theorem SlOk.mono {S : Nat → Prop} {w : World} {v : Value} {c : Array Value} {m m' : Nat} (h : SlOk S w v c m) (hm : m' ≤ m) : SlOk S w v c m' := by
  rcases h with h | ⟨db, p, d, e1, e2, hq, hr, hd, hs⟩
  · exact .inl h
  · exact .inr ⟨db, p, d, e1, e2, hq, hr, hd, sm_mono hs hm⟩
theorem SlOk.lt {S : Nat → Prop} {w : World} {v : Value} {c : Array Value} {m : Nat} (h : SlOk S w v c m) : ∀ b, S b → b < w.heap.size := by
  rcases h with ⟨_, _, h⟩ | ⟨db, p, d, e1, e2, hq, hr, hd, hs⟩
  · exact fun b q => (h b q).elim
  · exact hq.lt
theorem SlOk.dk {S : Nat → Prop} {w : World} {v : Value} {c : Array Value} {m : Nat} (h : SlOk S w v c m) : ∀ b, S b → DkB w b := by
  rcases h with ⟨_, _, h⟩ | ⟨db, p, d, e1, e2, hq, hr, hd, hs⟩
  · exact fun b q => (h b q).elim
  · exact hd
/-- a disk stays while blocks are written that are not its own: none of bytes, none that the reference reads -/
theorem SlOk.keep {S S2 : Nat → Prop} {w w' : World} {v : Value} {c : Array Value} {m : Nat} (h : SlOk S w v c m) (k : Kp S2 w w') (hd : ∀ b, S2 b → ¬ S b) (hk : ∀ b, S2 b → DkB w b) : SlOk S w' v c m := by
  rcases h with h | ⟨db, p, d, e1, e2, hq, hr, hdk, hs⟩
  · exact .inl h
  · refine .inr ⟨db, p, d, e1, e2, ?_, hr.keepT k hk, fun b hb => (hdk b hb).keepS k (hq.lt b hb) (fun q => hd b q hb), hs⟩
    obtain ⟨x, e, hx, hp, _, ho, hz⟩ := hq
    refine ⟨x, e, hx.keep k (fun b hb q => ?_) (fun g cs hg q => ?_), hp, Kp.refl _ _, fun b hb => ?_, fun b hb => Nat.lt_of_lt_of_le (hz b hb) k.size⟩
    · rcases ho b hb with z | z
      · exact hd b q z
      · have := hx.lt b hb; omega
    · exact hk g q _ _ hg (by decide)
    · rcases ho b hb with z | z
      · exact .inl z
      · have := hx.lt b hb; omega
/-- .. and while one block without strings and of no bytes is written -/
theorem SlOk.keepB {S : Nat → Prop} {w w' : World} {v : Value} {c : Array Value} {m g : Nat} {T : TypeId} {cs : Array Value} (h : SlOk S w v c m) (k : Kp (OnB g) w w') (hg : ¬ S g) (hb : Blk w g T cs) (hc : NoStr cs) (ht : T ≠ 5) : SlOk S w' v c m := by
  rcases h with h | ⟨db, p, d, e1, e2, hq, hr, hdk, hs⟩
  · exact .inl h
  · refine .inr ⟨db, p, d, e1, e2, ?_, hr.keepB k hb hc, fun b hb2 => (hdk b hb2).keepS k (hq.lt b hb2) (fun q => hg (by have q' : b = g := q; rw [← q']; exact hb2)), hs⟩
    exact hq.re k (fun b q => by
      have q' : b = g := q
      subst q'
      exact ⟨hg, hb.lt, T, cs, hb, ht⟩)
theorem SlOk.keepN {S : Nat → Prop} {w w' : World} {v : Value} {c : Array Value} {m : Nat} (h : SlOk S w v c m) (k : Kp NoB w w') : SlOk S w' v c m := h.keep k (fun _ q => q.elim) (fun _ q => q.elim)
def DyPost (S : Nat → Prop) (w : World) (v : Value) (m : Nat) (e : Ending) (w' : World) : Prop := ∃ c' S', e = .returned (.tuple #[.agg c', .bool true]) ∧ SlOk S' w' v c' m ∧ Kp S w w' ∧ ∀ b, S' b → S b ∨ w.heap.size ≤ b
theorem dop_sm {p : Pl} {m : Nat} (x : DOp) (h : p.sm (m + 20000)) : (dop p x).sm m := by
  unfold dop
  split
  · exact sm_write _ _ _ h
  · split
    · exact sm_trunc _ _ h
    · split
      · exact sm_sync _ h
      · split
        · exact sm_mono (show (p.setRoom x.n).sm (m + 20000) from h) (by omega)
        · split
          · exact sm_mono (show (p.crashIn x.n).sm (m + 20000) from h) (by omega)
          · split
            · exact sm_mono (show p.crashNow.sm (m + 20000) from h) (by omega)
            · split
              · exact sm_restartD x.chs (sm_mono h (by omega))
              · exact sm_mono h (by omega)
theorem dy_of {S : Nat → Prop} {w : World} {db : Nat} {q : Pl} {m : Nat} {e : Ending} {w' : World} (hm : q.sm m) (h : DpPost S w db q e w') : DyPost S w (ptrV db) m e w' := by
  obtain ⟨d', rfl, hr, hq⟩ := h
  obtain ⟨S', hq', hS', hdk⟩ := hq.baseT
  exact ⟨_, S', rfl, .inr ⟨db, q, d', rfl, rfl, hq', hr, hdk, hm⟩, hq.kp, hS'⟩
theorem dany (S : Nat → Prop) (w : World) (v : Value) (c : Array Value) (m : Nat) (x : DOp) (CA : Option Addr) (cn cc : Nat) (hs : SlOk S w v c (m + 20000)) (hm : 600000000000 ≤ m) (hO : DOk S w x CA cn cc) :
    Calls Try.prog 34 #[v, .agg c, .agg (dopV x CA cn cc)] w (DyPost S w v m) := by
  rcases hs with ⟨rfl, rfl, hn⟩ | ⟨db, p, d, rfl, rfl, hq, hr, hdk, hsm⟩
  · have key : Calls Try.prog 34 #[.pointer none, zV, .agg (dopV x CA cn cc)] w fun e w' => e = .returned (.tuple #[zV, .bool true]) ∧ Kp NoB w w' := by
      by_cases h1 : x.do_ = 1
      · exact dz_1 w x CA cn cc h1
      by_cases h2 : x.do_ = 2
      · exact dz_2 w x CA cn cc h2
      by_cases h3 : x.do_ = 3
      · exact dz_3 w x CA cn cc h3
      by_cases h4 : x.do_ = 4
      · exact dz_4 w x CA cn cc h4
      by_cases h5 : x.do_ = 5
      · exact dz_5 w x CA cn cc h5
      by_cases h6 : x.do_ = 6
      · exact dz_6 w x CA cn cc h6
      by_cases h7 : x.do_ = 7
      · exact dz_7 w x CA cn cc h7
      by_cases h8 : x.do_ = 8
      · exact dz_8 w x CA cn cc h8 hO.ch hO.cb hO.cnil
      by_cases h10 : x.do_ = 10
      · exact dz_10 w x CA cn cc h10
      exact dz_11 w x CA cn cc (fun k a b n e => by omega)
    refine (show Calls _ _ #[.pointer none, .agg rdZ, .agg (dopV x CA cn cc)] _ _ from key).mono ?_
    rintro e w' ⟨rfl, hk⟩
    exact ⟨rdZ, S, rfl, .inl ⟨rfl, rfl, hn⟩, hk.mono (fun _ _ q => q.elim), fun b q => .inl q⟩
  · have hds := dop_sm x hsm
    have hs1 : p.sm 100000 := sm_mono hsm (by omega)
    have key : Calls Try.prog 34 #[ptrV db, rdV d p, .agg (dopV x CA cn cc)] w (DpPost S w db (dop p x)) := by
      unfold dop
      by_cases h1 : x.do_ = 1
      · rw [if_neg (by omega), if_neg (by omega), if_neg (by omega), if_neg (by omega), if_neg (by omega), if_neg (by omega), if_neg (by omega)]
        exact dp_1 S w db p d x CA cn cc hq hr hO hdk hs1 h1
      by_cases h2 : x.do_ = 2
      · rw [if_pos h2]; exact dp_2 S w db p d x CA cn cc hq hr hO hdk hs1 h2
      rw [if_neg h2]
      by_cases h3 : x.do_ = 3
      · rw [if_pos h3]; exact dp_3 S w db p d x CA cn cc hq hr hO hdk hs1 h3
      rw [if_neg h3]
      by_cases h4 : x.do_ = 4
      · rw [if_pos h4]; exact dp_4 S w db p d x CA cn cc hq hr hO hdk hs1 h4
      rw [if_neg h4]
      by_cases h5 : x.do_ = 5
      · rw [if_pos h5]; exact dp_5 S w db p d x CA cn cc hq hr hO hdk hs1 h5
      rw [if_neg h5]
      by_cases h6 : x.do_ = 6
      · rw [if_pos h6]; exact dp_6 S w db p d x CA cn cc hq hr hO hdk hs1 h6
      rw [if_neg h6]
      by_cases h7 : x.do_ = 7
      · rw [if_pos h7]; exact dp_7 S w db p d x CA cn cc hq hr hO hdk hs1 h7
      rw [if_neg h7]
      by_cases h8 : x.do_ = 8
      · rw [if_pos h8]; exact dp_8 S w db p d x CA cn cc hq hr hO hdk (sm_mono hsm (by omega)) h8
      rw [if_neg h8]
      by_cases h10 : x.do_ = 10
      · exact dp_10 S w db p d x CA cn cc hq hr hO hdk hs1 h10
      exact dp_11 S w db p d x CA cn cc hq hr hO hdk hs1 (fun k a b n e => by omega)
    exact (show Calls _ _ #[ptrV db, .agg (rdC d p), .agg (dopV x CA cn cc)] _ _ from key).mono fun e w' h => dy_of hds h
/-- another disk just like it -/
theorem cpy_any (S : Nat → Prop) (w : World) (v : Value) (c : Array Value) (m : Nat) (hs : SlOk S w v c m) : Calls Try.prog 33 #[v] w fun e w' => ∃ v' S', e = .returned v' ∧ SlOk S' w' v' c m ∧ Kp NoB w w' ∧ ∀ b, S' b → w.heap.size ≤ b := by
  rcases hs with ⟨rfl, rfl, hn⟩ | ⟨db, p, d, rfl, rfl, hq, hr, hdk, hsm⟩
  · exact (copy_nil w).mono (by rintro e w' ⟨rfl, rfl⟩; exact ⟨_, fun _ => False, rfl, .inl ⟨rfl, rfl, fun _ q => q⟩, Kp.refl _ _, fun _ q => q.elim⟩)
  · obtain ⟨x, rfl, hd, hp, hk, ho, hz⟩ := hq
    refine (copy_ok w 0 x p hd hp (Nat.zero_le _) (by unfold Pl.sm at hsm; omega) (by unfold Pl.sm at hsm; omega)).mono ?_
    rintro e w' ⟨y, rfl, hy, py, oy, k⟩
    have hDq : Dq y.O w' w' y.db p := ⟨y, rfl, hy, py, Kp.refl _ _, fun b q => .inl q, hy.lt⟩
    obtain ⟨S', hq', hS', hdk'⟩ := hDq.baseT
    exact ⟨_, S', rfl, .inr ⟨y.db, p, d, rfl, rfl, hq', hr.keep k, hdk', hsm⟩, k, fun b q => by
      rcases hS' b q with z | z
      · exact oy b z
      · have := hq'.lt b q; omega⟩
end Go.Proofs.Ytegcbdfilkecpaa
/- The stand-in disk: the answers that every law asks at its end; no condition. -/
namespace Go.Proofs.Ytegcbdfilkecpaa
open Go.RowKit

theorem sz4 : nmF.size ≤ maxLen ∧ awX.size ≤ maxLen ∧ awY.size ≤ maxLen := by unfold maxLen; decide
set_option maxRecDepth 100000 in
set_option maxHeartbeats 800000 in
theorem awake_ok (w : World) : Calls Try.prog 32 #[] w fun e w' => e = .returned (.bool true) ∧ Kp NoB w w' := by
  have E := Lib.hid awE
  have Z := Lib.hid sz4
  go_enter Try.func32, Try.ntmps32
  go_wp2_with fail
  refine (new_d w w 100 (by omega) (Kp.refl _ _)).mono ?_
  rintro e w1 ⟨db, rfl, h1⟩
  have H1 := Lib.hid h1
  clear h1
  go_wp2_with fail
  refine (write_d H1.out nmF 60 awX Z.out.1 Z.out.2.1 (by rw [E.out.2.2.2.2.2.2.2.2.2.1]; omega) (by rw [E.out.2.2.2.2.2.2.2.2.2.2]; omega)).mono ?_
  rintro e w2 ⟨rfl, h2⟩
  have H2 : Hid (Da w w2 db aw1) := Lib.hid h2
  rw [E.out.1]
  clear h2
  go_wp2_with fail
  refine (read_d H2.out nmF 58 4 Z.out.1 (by omega) (by omega)).mono ?_
  rintro e w3 ⟨rfl, h3⟩
  have H3 := Lib.hid h3
  rw [E.out.2.1, E.out.2.2.1]
  clear h3
  go_wp2_with fail
  refine (write_d H3.out nmF 99 awY Z.out.1 Z.out.2.2 (by rw [E.out.2.2.2.2.2.2.2.1]; omega) (by rw [E.out.2.2.2.2.2.2.2.2.1]; omega)).mono ?_
  rintro e w4 ⟨rfl, h4⟩
  have H4 : Hid (Da w w4 db aw2) := Lib.hid h4
  rw [E.out.2.2.2.1]
  clear h4
  go_wp2_with (first
    | (go_at_call 67; go_must (refine (len_d H4.out nmF Z.out.1).mono ?_); rintro e w5 ⟨rfl, rfl⟩; rw [E.out.2.2.2.2.1])
    | (go_at_call 31; go_must (refine (pending_d H4.out).mono ?_); rintro e w5 ⟨rfl, rfl⟩; rw [E.out.2.2.2.2.2.1])
    | (go_at_call 30; go_must (refine (steps_d H4.out).mono ?_); rintro e w5 ⟨rfl, rfl⟩; rw [E.out.2.2.2.2.2.2.1]))
  go_ret
  exact ⟨rfl, H4.out.kp⟩
end Go.Proofs.Ytegcbdfilkecpaa
/- The law of the disks' play: two slots in memory; no condition. -/
namespace Go.Proofs.Ytegcbdfilkecpaa
open Go.RowKit

theorem and1 (x : Int) : ∃ a : Nat, (a = 0 ∨ a = 1) ∧ bits BinOp.and IntKind.i64 x 1 = (a : Int) := by
  have h2 : (BitVec.ofInt 64 (1 : Int)).toNat = 1 := by decide
  have e : bits BinOp.and IntKind.i64 x 1 = IntKind.i64.wrap ((BitVec.ofInt 64 x &&& BitVec.ofInt 64 (1 : Int)).toNat : Int) := rfl
  have h3 : (BitVec.ofInt 64 x).toNat &&& 1 ≤ 1 := Nat.and_le_right
  refine ⟨(BitVec.ofInt 64 x).toNat &&& 1, by omega, ?_⟩
  rw [e, BitVec.toNat_and, h2, IntKind.wrap_i64]
  omega
/-- the frame behind the question whether a step is let by: what the question needed is forgotten -/
def fillU (T : Array Value) (u : Nat → Value) : Array Value := ((((((((((((((((((((((((((((T.setIfInBounds 32 (u 32)).setIfInBounds 33 (u 33)).setIfInBounds 34 (u 34)).setIfInBounds 35 (u 35)).setIfInBounds 36 (u 36)).setIfInBounds 37 (u 37)).setIfInBounds 38 (u 38)).setIfInBounds 39 (u 39)).setIfInBounds 40 (u 40)).setIfInBounds 41 (u 41)).setIfInBounds 42 (u 42)).setIfInBounds 43 (u 43)).setIfInBounds 44 (u 44)).setIfInBounds 45 (u 45)).setIfInBounds 46 (u 46)).setIfInBounds 47 (u 47)).setIfInBounds 48 (u 48)).setIfInBounds 49 (u 49)).setIfInBounds 50 (u 50)).setIfInBounds 51 (u 51)).setIfInBounds 52 (u 52)).setIfInBounds 53 (u 53)).setIfInBounds 54 (u 54)).setIfInBounds 55 (u 55)).setIfInBounds 56 (u 56)).setIfInBounds 57 (u 57)).setIfInBounds 58 (u 58)).setIfInBounds 59 (u 59)).setIfInBounds 60 (.bool false)
def IntoU (a : Act) (w : World) : Exit → Act → World → Prop
  | .normal, a', w' => w' = w ∧ ∃ u, a' = ⟨fillU a.tmps u, a.defers⟩
  | _, _, _ => False
theorem intoU_of {a a' : Act} {w : World} (h : a' = ⟨fillU a.tmps (fun i => a'.tmps.getD i undef), a.defers⟩) : IntoU a w .normal a' w := ⟨rfl, _, h⟩
theorem wp_intoU {P : Program} {c : Code} {Q : Exit → Act → World → Prop} {a : Act} {w : World} (h : c.wp P (IntoU a w) a w) (k : ∀ u, Q .normal ⟨fillU a.tmps u, a.defers⟩ w) : c.wp P Q a w :=
  Code.wp_mono (fun e a' w' q => by cases e <;> first | exact q.elim | (obtain ⟨rfl, u, rfl⟩ := q; exact k u)) h
def IntoC (F : Nat → Array Value → Act) (G : World → Nat → Array Value → Prop) : Exit → Act → World → Prop
  | .normal, a, w => ∃ g c, a = F g c ∧ G w g c
  | _, _, _ => False
theorem wp_intoC {P : Program} {c : Code} {Q : Exit → Act → World → Prop} {a : Act} {w : World} (F : Nat → Array Value → Act) (G : World → Nat → Array Value → Prop) (h : c.wp P (IntoC F G) a w) (k : ∀ g c w', G w' g c → Q .normal (F g c) w') : c.wp P Q a w :=
  Code.wp_mono (fun e a w q => by cases e <;> first | exact q.elim | (obtain ⟨g, c, rfl, hg⟩ := q; exact k g c _ hg)) h
theorem intoC_of {F : Nat → Array Value → Act} {G : World → Nat → Array Value → Prop} {a : Act} {w : World} (g : Nat) (c : Array Value) (q : G w g c) (e : a = F g c) : IntoC F G .normal a w := ⟨g, c, e, q⟩
structure DopM (w : World) (x : DOp) (CA : Option Addr) (cn cc : Nat) : Prop where
  ch : Nums w CA cn x.chs
  cnil : CA = none → cn = 0 ∧ cc = 0
  chr : ∀ y ∈ x.chs, -9223372036854775808 ≤ y ∧ y ≤ 9223372036854775807
  cb : cn * 8 ≤ 140737488355328
  rn : -9223372036854775808 ≤ x.n ∧ x.n ≤ 9223372036854775807
  ra : -9223372036854775808 ≤ x.at_ ∧ x.at_ ≤ 9223372036854775807
  nl : x.name.size ≤ maxLen
  dl : x.data.size ≤ maxLen
/-- a row of steps of the caller -/
def DOps (w : World) (A : Option Addr) (n : Nat) (L : List DOp) : Prop := L.length = n ∧ ∀ k x, L[k]? = some x → ∃ (g o : Nat) (CA : Option Addr) (cn cc : Nat), A = some ⟨g, o, none⟩ ∧ g < w.heap.size ∧
  (∀ j v, (dopV x CA cn cc)[j]? = some v → w.cell? ⟨g, o + k * 7 + j, none⟩ = some v) ∧ DopM w x CA cn cc
theorem DopM.ok {w w' : World} {x : DOp} {CA : Option Addr} {cn cc : Nat} (h : DopM w x CA cn cc) (k : Kp NoB w w') {S : Nat → Prop} (hS : ∀ b, S b → w.heap.size ≤ b) : DOk S w' x CA cn cc :=
  { ch := h.ch.keepG k (fun _ _ _ _ q => q)
    ca := fun g o e hn q => by have h1 := Nums.ltG h.ch e hn; have h2 := hS g q; omega
    cnil := h.cnil
    chr := h.chr
    cb := h.cb
    rn := h.rn
    ra := h.ra
    nl := h.nl
    dl := h.dl }
structure DpT (W0 w : World) (g3 g4 m : Nat) (A3 A4 : Array Value) (S0 S1 : Nat → Prop) (v0 v1 : Value) (c0 c1 : Array Value) : Prop where
  s0 : SlOk S0 w v0 c0 m
  s1 : SlOk S1 w v1 c1 m
  dis : ∀ b, S0 b → ¬ S1 b
  ge0 : ∀ b, S0 b → W0.heap.size ≤ b
  ge1 : ∀ b, S1 b → W0.heap.size ≤ b
  b3 : Blk w g3 69 A3
  b4 : Blk w g4 70 A4
  n3 : NoStr A3
  n4 : NoStr A4
  h3 : W0.heap.size ≤ g3
  h4 : W0.heap.size ≤ g4
  kp : Kp NoB W0 w
section
variable {W0 w w' : World} {g3 g4 m : Nat} {A3 A4 : Array Value} {S0 S1 : Nat → Prop} {v0 v1 : Value} {c0 c1 : Array Value}
theorem DpT.keep (h : DpT W0 w g3 g4 m A3 A4 S0 S1 v0 v1 c0 c1) (k : Kp NoB w w') : DpT W0 w' g3 g4 m A3 A4 S0 S1 v0 v1 c0 c1 :=
  { h with s0 := h.s0.keepN k, s1 := h.s1.keepN k, b3 := h.b3.keep k (fun q => q), b4 := h.b4.keep k (fun q => q), kp := h.kp.trans k (fun _ _ q => q) }
theorem DpT.mono {m' : Nat} (h : DpT W0 w g3 g4 m A3 A4 S0 S1 v0 v1 c0 c1) (hm : m' ≤ m) : DpT W0 w g3 g4 m' A3 A4 S0 S1 v0 v1 c0 c1 := { h with s0 := h.s0.mono hm, s1 := h.s1.mono hm }
theorem DpT.no3 (h : DpT W0 w g3 g4 m A3 A4 S0 S1 v0 v1 c0 c1) : ¬ S0 g3 ∧ ¬ S1 g3 := ⟨fun q => h.s0.dk g3 q _ _ h.b3 (by decide), fun q => h.s1.dk g3 q _ _ h.b3 (by decide)⟩
theorem DpT.no4 (h : DpT W0 w g3 g4 m A3 A4 S0 S1 v0 v1 c0 c1) : ¬ S0 g4 ∧ ¬ S1 g4 := ⟨fun q => h.s0.dk g4 q _ _ h.b4 (by decide), fun q => h.s1.dk g4 q _ _ h.b4 (by decide)⟩
theorem DpT.ne (h : DpT W0 w g3 g4 m A3 A4 S0 S1 v0 v1 c0 c1) : g3 ≠ g4 := blk_ne h.b3 h.b4 (by decide)
theorem DpT.st3 (h : DpT W0 w g3 g4 m A3 A4 S0 S1 v0 v1 c0 c1) (j : Nat) (v : Value) (hv : ∀ s, v ≠ .string s) : DpT W0 (w.setCell ⟨g3, j, none⟩ v) g3 g4 m (A3.setIfInBounds j v) A4 S0 S1 v0 v1 c0 c1 := by
  have hk : Kp (OnB g3) w (w.setCell ⟨g3, j, none⟩ v) := (Kp.refl (OnB g3) w).setAt (g := g3) rfl j _
  exact { h with
    s0 := h.s0.keepB hk h.no3.1 h.b3 h.n3 (by decide)
    s1 := h.s1.keepB hk h.no3.2 h.b3 h.n3 (by decide)
    b3 := h.b3.set_ j v
    b4 := h.b4.keep hk (fun q => h.ne q.symm)
    n3 := fun i s q => by
      rw [Array.getElem?_setIfInBounds] at q
      split at q
      · split at q
        · injection q with q; exact hv s q
        · cases q
      · exact h.n3 i s q
    kp := h.kp.setCell (p := ⟨g3, j, none⟩) (.inl h.h3) v }
theorem DpT.st4 (h : DpT W0 w g3 g4 m A3 A4 S0 S1 v0 v1 c0 c1) {xa xb xd : List Value} (o : Nat) (xs : List Value) (he : A4 = (xa ++ xb ++ xd).toArray) (ho : xa.length = o) (hl : xb.length = xs.length) (hx : ∀ s, Value.string s ∉ xs) :
    DpT W0 (w.setCells g4 o xs) g3 g4 m A3 (xa ++ xs ++ xd).toArray S0 S1 v0 v1 c0 c1 := by
  have hk : Kp (OnB g4) w (w.setCells g4 o xs) := Kp.setCells (S := OnB g4) (.inr rfl) _ _ _ (Kp.refl _ w)
  exact { h with
    s0 := h.s0.keepB hk h.no4.1 h.b4 h.n4 (by decide)
    s1 := h.s1.keepB hk h.no4.2 h.b4 h.n4 (by decide)
    b3 := h.b3.keep hk (fun q => h.ne q)
    b4 := Blk.cellsL (xs := xs) (he ▸ h.b4) o ho hl
    n4 := fun i s q => by
      have hm : Value.string s ∈ xa ++ xs ++ xd := List.mem_of_getElem? (by simpa using q)
      rcases List.mem_append.1 hm with z | z
      · rcases List.mem_append.1 z with z | z
        · obtain ⟨j, hj, e⟩ := List.getElem_of_mem z
          refine h.n4 j s ?_
          rw [he, List.getElem?_toArray, List.append_assoc, List.getElem?_append_left hj, List.getElem?_eq_getElem hj, e]
        · exact hx s z
      · obtain ⟨j, hj, e⟩ := List.getElem_of_mem z
        refine h.n4 ((xa ++ xb).length + j) s ?_
        rw [he, List.getElem?_toArray, List.getElem?_append_right (by omega), Nat.add_sub_cancel_left, List.getElem?_eq_getElem hj, e]
    kp := Kp.setCells (.inl h.h4) _ _ _ h.kp }
theorem DpT.stB (h : DpT W0 w g3 g4 m A3 A4 S0 S1 v0 v1 c0 c1) {g8 : Nat} {cs : Array Value} (hb : Blk w g8 56 cs) (hn : NoStr cs) (h0 : ¬ S0 g8) (h1 : ¬ S1 g8) (hg : W0.heap.size ≤ g8) (xs : List Value) : DpT W0 (w.setCells g8 0 xs) g3 g4 m A3 A4 S0 S1 v0 v1 c0 c1 := by
  have hk : Kp (OnB g8) w (w.setCells g8 0 xs) := Kp.setCells (S := OnB g8) (.inr rfl) _ _ _ (Kp.refl _ w)
  exact { h with
    s0 := h.s0.keepB hk h0 hb hn (by decide)
    s1 := h.s1.keepB hk h1 hb hn (by decide)
    b3 := h.b3.keep hk (fun q => blk_ne h.b3 hb (by decide) q)
    b4 := h.b4.keep hk (fun q => blk_ne h.b4 hb (by decide) q)
    kp := Kp.setCells (.inl hg) _ _ _ h.kp }
theorem DpT.step0 (h : DpT W0 w g3 g4 m A3 A4 S0 S1 v0 v1 c0 c1) {m' : Nat} {c' : Array Value} {S' : Nat → Prop} (hm : m' ≤ m) (hs : SlOk S' w' v0 c' m') (k : Kp S0 w w') (hS : ∀ b, S' b → S0 b ∨ w.heap.size ≤ b) : DpT W0 w' g3 g4 m' A3 A4 S' S1 v0 v1 c' c1 :=
  { h with
    s0 := hs
    s1 := (h.s1.mono hm).keep k h.dis h.s0.dk
    dis := fun b q z => (hS b q).elim (fun y => h.dis b y z) (fun y => by have := h.s1.lt b z; omega)
    ge0 := fun b q => (hS b q).elim (h.ge0 b) (fun y => Nat.le_trans h.kp.size y)
    b3 := h.b3.keep k h.no3.1
    b4 := h.b4.keep k h.no4.1
    kp := h.kp.trans k (fun i hi q => by have := h.ge0 i q; omega) }
theorem DpT.step1 (h : DpT W0 w g3 g4 m A3 A4 S0 S1 v0 v1 c0 c1) {m' : Nat} {c' : Array Value} {S' : Nat → Prop} (hm : m' ≤ m) (hs : SlOk S' w' v1 c' m') (k : Kp S1 w w') (hS : ∀ b, S' b → S1 b ∨ w.heap.size ≤ b) : DpT W0 w' g3 g4 m' A3 A4 S0 S' v0 v1 c0 c' :=
  { h with
    s0 := (h.s0.mono hm).keep k (fun b q z => h.dis b z q) h.s1.dk
    s1 := hs
    dis := fun b q z => (hS b z).elim (fun y => h.dis b q y) (fun y => by have := h.s0.lt b q; omega)
    ge1 := fun b q => (hS b q).elim (h.ge1 b) (fun y => Nat.le_trans h.kp.size y)
    b3 := h.b3.keep k h.no3.2
    b4 := h.b4.keep k h.no4.2
    kp := h.kp.trans k (fun i hi q => by have := h.ge1 i q; omega) }
/-- a slot is given a disk of blocks of its own -/
theorem DpT.new0 (h : DpT W0 w g3 g4 m A3 A4 S0 S1 v0 v1 c0 c1) {v' : Value} {c' : Array Value} {S' : Nat → Prop} (hs : SlOk S' w v' c' m) (hd : ∀ b, S' b → ¬ S1 b) (hg : ∀ b, S' b → W0.heap.size ≤ b) : DpT W0 w g3 g4 m A3 A4 S' S1 v' v1 c' c1 :=
  { h with s0 := hs, dis := hd, ge0 := hg }
theorem DpT.new1 (h : DpT W0 w g3 g4 m A3 A4 S0 S1 v0 v1 c0 c1) {v' : Value} {c' : Array Value} {S' : Nat → Prop} (hs : SlOk S' w v' c' m) (hd : ∀ b, S' b → ¬ S0 b) (hg : ∀ b, S' b → W0.heap.size ≤ b) : DpT W0 w g3 g4 m A3 A4 S0 S' v0 v' c0 c' :=
  { h with s1 := hs, dis := fun b q z => hd b z q, ge1 := hg }
theorem SlOk.ptr {S : Nat → Prop} {v : Value} {c : Array Value} (h : SlOk S w v c m) : ∃ a, v = .pointer a := by
  rcases h with ⟨rfl, _⟩ | ⟨db, p, d, rfl, _⟩
  · exact ⟨_, rfl⟩
  · exact ⟨_, rfl⟩
theorem allocRd (w : World) (ev : Operand → Value) (ds : Option Tmp) (ty : TypeId) (ps : String) (af : Array Edge) (g : Option (Nat × Bool)) :
    (execOp ev ⟨ds, .alloc 56, ty, ps, af, g⟩).run Try.prog w = .ok (.value (.pointer (some ⟨w.heap.size, 0, none⟩))) (w.alloc (.cells rdZ 56)) := by
  go_simp
  rfl
theorem SlOk.made {db : Nat} {d : Rd} {n : Int} {S' : Nat → Prop} (hq : Dq S' w w db (Pl.new n)) (hr : Rf w d (Pl.new n)) (hdk : ∀ b, S' b → DkB w b) (hm : m < 1099511627776) : SlOk S' w (ptrV db) (rdC d (Pl.new n)) m :=
  .inr ⟨db, _, d, rfl, rfl, hq, hr, hdk, by unfold Pl.sm; show 0 + 0 + m < _; omega⟩
/-- a new disk, while the block that names it is written -/
theorem dq_g3 {db : Nat} {p : Pl} {S' : Nat → Prop} {A : Array Value} {T : TypeId} (hq : Dq S' w w db p) (hdk : ∀ b, S' b → DkB w b) (hb : Blk w g3 T A) (hT : NotDk T) (hT2 : T ≠ 5) (j : Nat) (v : Value) : Dq S' (w.setCell ⟨g3, j, none⟩ v) (w.setCell ⟨g3, j, none⟩ v) db p ∧ ∀ b, S' b → DkB (w.setCell ⟨g3, j, none⟩ v) b := by
  have hk : Kp (OnB g3) w (w.setCell ⟨g3, j, none⟩ v) := (Kp.refl (OnB g3) w).setAt (g := g3) rfl j _
  have hn : ¬ S' g3 := fun q => hdk g3 q _ _ hb hT
  refine ⟨hq.re hk (fun b q => ?_), fun b q => (hdk b q).keepS hk (hq.lt b q) (fun z => hn (by have z' : b = g3 := z; rw [← z']; exact q))⟩
  have q' : b = g3 := q
  subst q'
  exact ⟨hn, hb.lt, T, A, hb, hT2⟩
theorem SlOk.nostr {S : Nat → Prop} {v : Value} {c : Array Value} (h : SlOk S w v c m) : (∀ s, v ≠ .string s) ∧ ∀ s, Value.string s ∉ c.toList := by
  have hc : ∀ c' : Array Value, NoStr c' → ∀ s, Value.string s ∉ c'.toList := fun c' hn s q => by
    obtain ⟨j, hj, e⟩ := List.getElem_of_mem q
    exact hn j s (by rw [← Array.getElem?_toList, List.getElem?_eq_getElem hj, e])
  rcases h with ⟨rfl, rfl, _⟩ | ⟨db, p, d, rfl, rfl, _⟩
  · exact ⟨fun s q => (by cases q), hc _ rdZ_str⟩
  · exact ⟨fun s q => (by cases q), hc _ (rdC_str d p)⟩
end
theorem SlOk.form {S : Nat → Prop} {w : World} {v : Value} {c : Array Value} {m : Nat} (h : SlOk S w v c m) : ∃ (q0 q1 : Bool) (q2 : Option Addr) (k2 l2 : Nat) (q3 : Option Addr) (k3 l3 : Nat) (q4 q5 q6 q7 : Int), c = #[.bool q0, .bool q1, .slice q2 k2 l2, .slice q3 k3 l3, .int .i64 q4, .int .i64 q5, .int .i64 q6, .int .i64 q7] := by
  rcases h with ⟨_, rfl, _⟩ | ⟨db, p, d, _, rfl, _⟩
  · exact ⟨_, _, _, _, _, _, _, _, _, _, _, _, rfl⟩
  · exact ⟨_, _, _, _, _, _, _, _, _, _, _, _, rfl⟩
theorem look_any {S : Nat → Prop} {w : World} {v : Value} {c : Array Value} {m : Nat} (h : SlOk S w v c m) (hm : 100000 ≤ m) : Calls Try.prog 35 #[v, .agg c] w fun e w' => e = .returned (.bool true) ∧ Kp NoB w w' := by
  rcases h with ⟨rfl, rfl, _⟩ | ⟨db, p, d, rfl, rfl, hq, hr, hdk, hs⟩
  · exact zlook w
  · exact dlook_ok S w db p d hq hr (sm_mono hs hm)
def DpS (W0 w : World) (g3 g4 m : Nat) (S0 S1 : Nat → Prop) (v0 v1 : Value) (c0 c1 : Array Value) : Prop := DpT W0 w g3 g4 m #[v0, v1] (c0 ++ c1) S0 S1 v0 v1 c0 c1
theorem n3_of {db : Nat} : NoStr #[ptrV db, .pointer none] := by
  intro i s
  rcases i with _ | _ | i <;> simp [ptrV]
theorem n4_of {d : Rd} {p : Pl} : NoStr (rdC d p ++ rdZ) := by
  intro i s q
  rw [Array.getElem?_append] at q
  split at q
  · exact rdC_str d p i s q
  · exact rdZ_str _ s q
def DyRel (W0 : World) (n g3 g4 : Nat) (v5 : Value) (wr : World) : Prop := ∃ (k : Nat) (S0 S1 : Nat → Prop) (v0 v1 : Value) (c0 c1 : Array Value), v5 = .int .i64 (k : Int) ∧ k ≤ n ∧ DpS W0 wr g3 g4 ((60 - k) * 20000 + 600000000000) S0 S1 v0 v1 c0 c1
end Go.Proofs.Ytegcbdfilkecpaa
