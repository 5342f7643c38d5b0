/- The stand-in disk: survive; no condition. -/
import Derived.Test.YtdgjglocgdccbaaDkSync
namespace Go.Proofs.Ytdgjglocgdccbaa
open Go.RowKit

def SvPost (n0 : Nat) (w : World) (x : Dd) (e : Fe) (c : Cg) (ch : Int) (w' : World) : Prop := Dk n0 w' { x with fs := putF x.fs { e with kept := Pl.made e.kept c ch } } ∧ Kp (OnB e.fb) w w'
theorem put_nil (l : List Int) (a : Nat) : Pl.put l a [] = l := by unfold Pl.put; simp
theorem Dk.keepE {n0 : Nat} {w w' : World} {x : Dd} (h : Dk n0 w x) {e : Fe} (he : e ∈ x.fs) (k : Kp NoB w w') : Dk n0 w' { x with fs := putF x.fs e } := by
  have : putF x.fs e = x.fs := putF_self (h.names.find he)
  rw [this]
  exact h.keep k (fun _ _ q => q) (fun _ _ _ q => q)
theorem surv_fin {n0 fb : Nat} {w W w2 : World} {x : Dd} {e : Fe} {u v v' : Value} {l : List Int} (h : Dk n0 W x) (he : e ∈ x.fs) (hfb : e.fb = fb) (kb : Kp NoB w W) (k : Kp NoB W w2) (hb : Blk W e.fb 75 #[u, v]) (hb2 : Blk w2 fb 75 #[u, v])
    (hu : Bq W n0 u e.seen) (hq : Bq w2 n0 v' l) (hls : e.seen.length ≤ 1048576) (hlk : l.length ≤ 1048576) :
    Dk n0 (w2.setCell ⟨fb, 1, none⟩ v') { x with fs := putF x.fs { e with kept := l } } ∧ Kp (OnB e.fb) w (w2.setCell ⟨fb, 1, none⟩ v') := by
  subst hfb
  have k2 : Kp (OnB e.fb) W (w2.setCell ⟨e.fb, 1, none⟩ v') := (k.mono (S' := OnB e.fb) (fun _ _ q => q.elim)).setAt rfl _ _
  have ks : Kp (OnB e.fb) w2 (w2.setCell ⟨e.fb, 1, none⟩ v') := (Kp.refl (OnB e.fb) w2).setAt rfl _ _
  have hb3 : Blk (w2.setCell ⟨e.fb, 1, none⟩ v') e.fb 75 #[u, v'] := by
    have := hb2.set_ 1 v'
    simpa using this
  exact ⟨h.refile he k2 { e with kept := l } rfl rfl ⟨⟨u, v', hb3, hu.keep k2 (fun g cs' hc q => onb_cells hb hc (by decide) q), hq.keep ks (fun g cs' hc q => onb_cells hb2 hc (by decide) q)⟩, hls, hlk⟩, (kb.mono (fun _ _ q => q.elim)).trans k2 (fun _ _ q => q)⟩
set_option maxRecDepth 100000 in
set_option maxHeartbeats 800000 in
theorem survive_ok (w : World) (n0 : Nat) (x : Dd) (e : Fe) (c : Cg) (ch : Int) (hch : -9223372036854775808 ≤ ch ∧ ch ≤ 9223372036854775807) (h : Dk n0 w x) (he : e ∈ x.fs) (hc : CgOk c) (hn0 : n0 ≤ w.heap.size) :
    Calls Try.prog 40 #[ptrV e.fb, .agg (cgA c.nm c.sec c.n (pad64 c.s)), .int .i64 ch] w fun r w' => r = .returned (.tuple #[]) ∧ SvPost n0 w x e c ch w' := by
  have kb : Kp NoB w (w.alloc (.cells (cgA c.nm c.sec c.n (pad64 c.s)) 79)) := (Kp.refl NoB w).alloc _
  have hb0 : Blk (w.alloc (.cells (cgA c.nm c.sec c.n (pad64 c.s)) 79)) w.heap.size 79 (cgA c.nm c.sec c.n (pad64 c.s)) := Blk.new _ _ _
  have HKB := Lib.hid kb
  have HB0 := Lib.hid hb0
  have H0 := Lib.hid h
  have H := Lib.hid (h.keep kb (fun _ _ q => q) (fun _ _ _ q => q))
  have HE := Lib.hid he
  have HC := Lib.hid hc
  have HN0 := Lib.hid (Nat.le_trans hn0 kb.size)
  obtain ⟨u, v, hb, hu, hv⟩ := (H.out.fls e he).blk
  obtain ⟨Av, capv, rfl⟩ := hv.form
  obtain ⟨fb, hfb⟩ : ∃ fb, e.fb = fb := ⟨_, rfl⟩
  have HFB := Lib.hid hfb
  obtain ⟨L, hL⟩ : ∃ L, e.kept.length = L := ⟨_, rfl⟩
  have HLL := Lib.hid hL
  rw [hL] at hv hb
  have HB := Lib.hid hb
  have HU := Lib.hid hu
  have HV := Lib.hid hv
  have hLk : L ≤ 1048576 := by rw [← hL]; exact (h.fls e he).lk
  have c1 : (w.alloc (.cells (cgA c.nm c.sec c.n (pad64 c.s)) 79)).cell? ⟨fb, 1, none⟩ = some (.slice Av L capv) := by rw [← hfb, hb.cell]; rfl
  have z1 : (w.alloc (.cells (cgA c.nm c.sec c.n (pad64 c.s)) 79)).frozen? ⟨fb, 1, none⟩ = false := by rw [← hfb]; exact hb.frozen 1
  have s1 : (w.alloc (.cells (cgA c.nm c.sec c.n (pad64 c.s)) 79)).cell? ⟨w.heap.size, 1, none⟩ = some (.int .i64 c.sec) := by rw [hb0.cell]; rfl
  have s2 : (w.alloc (.cells (cgA c.nm c.sec c.n (pad64 c.s)) 79)).cell? ⟨w.heap.size, 2, none⟩ = some (.int .i64 c.n) := by rw [hb0.cell]; rfl
  rw [show ptrV e.fb = .pointer (some ⟨fb, 0, none⟩) by rw [hfb]; rfl]
  by_cases h1 : ch ≤ 0
  · have fin : Hid (SvPost n0 w x e c ch (w.alloc (.cells (cgA c.nm c.sec c.n (pad64 c.s)) 79))) := Lib.hid (by
      unfold SvPost Pl.made
      rw [if_pos h1]
      exact ⟨h.keepE he kb, kb.mono (fun _ _ q => q.elim)⟩)
    clear kb hb0 h he hc hn0 hb hu hv hfb hL s1 s2 c1 z1
    go_enter Try.func40, Try.ntmps40
    go_wp2_with fail
    exact bodyPost_ret (results_none rfl _ _ _) rfl ⟨rfl, fin.out⟩
  · rcases hc.kind with ⟨hs0, hsec, hcn0, hcn1⟩ | ⟨hs64, hsec0, hsec1, hn⟩
    · obtain ⟨n, hn⟩ : ∃ n : Nat, c.n = n := ⟨c.n.toNat, by omega⟩
      have HNN := Lib.hid hn
      have HN1 : Hid (n ≤ 1048576) := Lib.hid (by omega)
      have HSEC := Lib.hid hsec
      have H1 := Lib.hid h1
      obtain ⟨B0, hB0⟩ : ∃ B0, w.heap.size = B0 := ⟨_, rfl⟩
      have HB00 := Lib.hid hB0
      clear kb hb0 h he hc hn0 hb hu hv hfb hL hs0 hsec hcn0 hcn1 hn s1 s2 c1 z1
      go_enter Try.func40, Try.ntmps40
      go_upto_region 1 with fail
      generalize hWW : w.alloc (.cells (cgA c.nm c.sec c.n (pad64 c.s)) 79) = W at *
      have HWW := Lib.hid hWW
      have hb0 := HB0.out
      rw [hB0] at hb0
      have s1 : W.cell? ⟨B0, 1, none⟩ = some (.int .i64 c.sec) := by rw [hb0.cell]; rfl
      have s2 : W.cell? ⟨B0, 2, none⟩ = some (.int .i64 c.n) := by rw [hb0.cell]; rfl
      have hb := HB.out
      rw [HFB.out] at hb
      have c1 : W.cell? ⟨fb, 1, none⟩ = some (.slice Av L capv) := by rw [hb.cell]; rfl
      rw [HSEC.out] at s1
      rw [HNN.out] at s2
      clear hWW hB0 hb0 hb
      go_upto_region 3 with fail
      go_region_law (first
        | (go_simp; go_at_call 51; go_must (refine (grow_ok W.drew n0 fb 1 _ Av L capv e.kept n HLL.out hLk HN1.out (by have := HN0.out; exact this) (by have := HB.out.drew; rw [HFB.out] at this; exact this) rfl HV.out.drew).mono ?_); rintro r w2 ⟨rfl, B, c2', hb2, hq2, hk2⟩; have HB2 := Lib.hid hb2; have HQ2 := Lib.hid hq2; have HK2 := Lib.hid hk2; clear hb2 hq2 hk2)
        | go_simp)
      go_wp2_with fail
      have hd2 := H.out.refile HE.out (w' := w2) (by rw [HFB.out]; exact (Kp.refl _ W).drew.trans HK2.out (fun _ _ q => q)) { e with kept := sizedF e.kept n } rfl rfl ⟨⟨u, .slice B n c2', by have := HB2.out; rw [← HFB.out] at this; simpa using this, HU.out.keep ((Kp.refl _ W).drew.trans HK2.out (fun _ _ q => q)) (fun g cs' hc q => onb_cells HB.out hc (by decide) (by rw [HFB.out]; exact q)), by simp only [sizedF_len]; exact HQ2.out⟩, (H0.out.fls e HE.out).ls, by simp only [sizedF_len]; exact HN1.out⟩
      exact bodyPost_ret (results_none rfl _ _ _) rfl ⟨rfl, by
        unfold SvPost Pl.made
        rw [if_neg (by have := H1.out; omega), if_pos (by rw [HSEC.out]; omega), HNN.out]
        exact ⟨hd2, by rw [HFB.out]; exact (HKB.out.mono (fun _ _ q => q.elim)).trans ((Kp.refl (OnB fb) W).drew.trans HK2.out (fun _ _ q => q)) (fun _ _ q => q)⟩⟩
    · obtain ⟨nn, hnn⟩ : ∃ nn : Nat, (if 1 < ch then (1 + (ch - 2) % 63).toNat else 64) = nn := ⟨_, rfl⟩
      have hnn1 : 1 ≤ nn ∧ nn ≤ 64 := by
        rw [← hnn]
        split <;> omega
      obtain ⟨at_, hat⟩ : ∃ a : Nat, c.sec.toNat * 64 = a := ⟨_, rfl⟩
      have hat1 : c.sec * 64 = (at_ : Int) := by omega
      have hw1 : IntKind.i64.wrap (c.sec * 64) = (at_ : Int) := by rw [IntKind.wrap_i64]; omega
      have hns : ¬ c.sec < 0 := by omega
      obtain ⟨sc, hsc⟩ : ∃ sc, c.sec = sc := ⟨_, rfl⟩
      have HSC := Lib.hid hsc
      rw [hsc] at hw1 hns hat1 hsec0 hsec1
      have HNN := Lib.hid hnn
      have HAT := Lib.hid hat
      have HS64 := Lib.hid hs64
      have H1 := Lib.hid h1
      obtain ⟨B0, hB0⟩ : ∃ B0, w.heap.size = B0 := ⟨_, rfl⟩
      have HB00 := Lib.hid hB0
      have hfin : ∀ cs : List Int, cs = (c.s.take nn).take (e.kept.length - at_) → Pl.made e.kept c ch = Pl.put e.kept at_ cs := by
        rintro cs rfl
        unfold Pl.made
        rw [if_neg h1, if_neg (by omega), hnn, hat]
      have HFIN := Lib.hid hfin
      clear kb hb0 h he hc hn0 hb hu hv hfb hL hs64 hn s1 s2 c1 z1 hnn hat hsc hfin
      by_cases hc1 : 1 < ch
      · have e1 : 1 + (ch - 2) % 63 = (nn : Int) := by have := HNN.out; rw [if_pos hc1] at this; omega
        have e0 : 0 ≤ ch - 2 := by omega
        have e3 : IntKind.i64.wrap (ch - 2) = ch - 2 := by rw [IntKind.wrap_i64]; omega
        go_enter Try.func40, Try.ntmps40
        go_upto_region 1 with fail
        have hWb := HB0.out
        rw [hB0] at hWb
        have HWB := Lib.hid hWb
        generalize hWW : w.alloc (.cells (cgA c.nm c.sec c.n (pad64 c.s)) 79) = W at *
        have HWW := Lib.hid hWW
        have s1 : W.cell? ⟨B0, 1, none⟩ = some (.int .i64 sc) := by rw [HWB.out.cell, ← HSC.out]; rfl
        have hb := HB.out
        rw [HFB.out] at hb
        have c1 : W.cell? ⟨fb, 1, none⟩ = some (.slice Av L capv) := by rw [hb.cell]; rfl
        have z1 : W.frozen? ⟨fb, 1, none⟩ = false := hb.frozen 1
        have HFL := Lib.hid hb.lt
        have HBF := Lib.hid hb
        have HWL := Lib.hid HWB.out.lt
        clear hWW hb hB0 hWb
        go_wp2_with fail
        refine (clone_ok W n0 Av L capv e.kept HLL.out.symm (by rw [HLL.out]; omega) HV.out).mono ?_
        rintro r w1 ⟨B1, k1, rfl, hq1, hk1⟩
        rw [HLL.out] at hq1 ⊢
        have c2 : w1.cell? ⟨fb, 1, none⟩ = some (.slice Av L capv) := by rw [hk1.cell HFL.out (fun q => q)]; exact c1
        have z2 : w1.frozen? ⟨fb, 1, none⟩ = false := (HBF.out.keep hk1 (fun q => q)).frozen 1
        have HBF1 := Lib.hid (HBF.out.keep hk1 (fun q => q))
        have HK1 := Lib.hid hk1
        have HQ1 := Lib.hid hq1
        by_cases hlt : at_ < L
        · obtain ⟨g1, ds1, rfl, hg1, hb1⟩ := own_blk1 (by have := hq1.own; rw [HLL.out] at this; exact this) (by omega)
          have hcap1 : L ≤ k1 := own_cap (by have := hq1.own; rw [HLL.out] at this; exact this)
          have HG1 := Lib.hid hg1
          have h1 : (at_ : Int) < (L : Int) := by omega
          have h2 : ¬ k1 = at_ := by omega
          have h3 : at_ ≤ k1 := by omega
          have h4 : at_ ≤ L := by omega
          have h5 : (at_ : Int) ≤ (L : Int) := by omega
          have h6 : (nn : Int) ≤ 64 := by omega
          have h7 : nn ≤ 64 := by omega
          obtain ⟨cs, hcs⟩ : ∃ cs, ((c.s.take nn).take (L - at_)).map (Value.int .u8) = cs := ⟨_, rfl⟩
          have HCS := Lib.hid hcs
          have HCSL : Hid (cs.length = Nat.min nn (L - at_)) := Lib.hid (by rw [← hcs, List.length_map, List.length_take, List.length_take, HS64.out, Nat.min_eq_left (show nn ≤ 64 by omega)]; exact Nat.min_comm _ _)
          have HSRC : Hid (∀ j v, cs[j]? = some v → w1.drew.cell? ((⟨B0, 3, none⟩ : Addr).add j) = some v) := Lib.hid (by
            intro j v hj
            rw [add_mk]
            have hB := (HWB.out.keep HK1.out (fun q => q))
            have : w1.drew.cell? ⟨B0, 3 + j, none⟩ = w1.cell? ⟨B0, 3 + j, none⟩ := rfl
            rw [this, hB.cell]
            rw [← HCS.out, List.getElem?_map, List.getElem?_take] at hj
            split at hj
            · rw [List.getElem?_take] at hj
              split at hj
              · unfold cgA cgL
                rw [pad64_full HS64.out]
                simp only [List.getElem?_toArray]
                rw [show 3 + j = j + 1 + 1 + 1 by omega]
                simp only [List.getElem?_cons_succ, List.getElem?_map]
                exact hj
              · cases hj
            · cases hj)
          have HTH : Hid (w1.drew.there g1 at_ cs.length) := Lib.hid (hb1.drew.there (by rw [HCSL.out]; have hmm : Nat.min nn (L - at_) ≤ L - at_ := Nat.min_le_right _ _; simp only [List.size_toArray, List.length_append, List.length_map, HLL.out]; omega))
          have HONE : Hid (∀ v ∈ cs, v.oneCell' = true) := Lib.hid (by rw [← HCS.out]; exact u8_one _)
          have HGF : Hid (fb ≠ g1) := Lib.hid (by have := HFL.out; omega)
          clear hb1 hcs c1 z1 hq1 hg1
          go_upto_region 10 with fail
          go_region_law (first
            | (refine step_copyC rfl (.tmp 43) (.tmp 46) 66 66 rfl 5 Try.underlying66 infoU8 g1 at_ (L - at_) (k1 - at_) ⟨B0, 3, none⟩ nn 64 cs (by go_simp) (by go_simp) HCSL.out HSRC.out HTH.out HONE.out ?_)
            | go_simp)
          have hq2 : Bq (w1.drew.setCells g1 at_ cs) W.heap.size (.slice (some ⟨g1, 0, none⟩) L k1) (Pl.put e.kept at_ ((c.s.take nn).take (L - at_))) := by
            rw [← HCS.out]
            refine bq_write HQ1.out.drew HLL.out at_ _ ?_ ?_
            · rw [HLL.out, List.length_take, List.length_take, HS64.out]; omega
            · intro y hy; exact HC.out.rng y (List.mem_of_mem_take (List.mem_of_mem_take hy))
          have hk2 : Kp NoB W (w1.drew.setCells g1 at_ cs) := Kp.setCells (.inl HG1.out) _ _ _ HK1.out.drew
          have hbf2 : Blk (w1.drew.setCells g1 at_ cs) fb 75 #[u, .slice Av L capv] := Blk.farCells HGF.out _ _ _ HBF1.out.drew
          generalize w1.drew.setCells g1 at_ cs = w2 at hq2 hk2 hbf2 ⊢
          have c3 : w2.cell? ⟨fb, 1, none⟩ = some (.slice Av L capv) := by rw [hbf2.cell]; rfl
          have z3 : w2.frozen? ⟨fb, 1, none⟩ = false := hbf2.frozen 1
          have HQ2 := Lib.hid hq2
          have HK2 := Lib.hid hk2
          have HBF2 := Lib.hid hbf2
          have HF := Lib.hid (HFIN.out _ rfl)
          clear hq2 hk2 hbf2 c2 z2
          go_wp2_with fail
          refine bodyPost_end (results_none rfl _ _ _) rfl ⟨rfl, ?_⟩
          unfold SvPost
          rw [HF.out, HLL.out]
          have hn0 := HN0.out
          have hpl : (Pl.put e.kept at_ ((c.s.take nn).take (L - at_))).length ≤ 1048576 := by
            rw [put_len (by rw [HLL.out, List.length_take, List.length_take, HS64.out]; omega), HLL.out]; exact hLk
          exact surv_fin H.out HE.out HFB.out HKB.out HK2.out HB.out HBF2.out HU.out (HQ2.out.mono hn0) (H0.out.fls e HE.out).ls hpl
        · have h1 : ¬ (at_ : Int) < (L : Int) := by omega
          have HF := Lib.hid (HFIN.out [] (by rw [HLL.out, show L - at_ = 0 by omega]; simp))
          clear hq1 c1 z1
          go_wp2_with fail
          refine bodyPost_end (results_none rfl _ _ _) rfl ⟨rfl, ?_⟩
          unfold SvPost
          rw [HF.out, put_nil]
          exact surv_fin H.out HE.out HFB.out HKB.out HK1.out HB.out HBF1.out HU.out (HQ1.out.mono HN0.out) (H0.out.fls e HE.out).ls (by rw [HLL.out]; exact hLk)
      · have e1 : nn = 64 := by have := HNN.out; rw [if_neg hc1] at this; omega
        subst e1
        go_enter Try.func40, Try.ntmps40
        go_upto_region 1 with fail
        have hWb := HB0.out
        rw [hB0] at hWb
        have HWB := Lib.hid hWb
        generalize hWW : w.alloc (.cells (cgA c.nm c.sec c.n (pad64 c.s)) 79) = W at *
        have HWW := Lib.hid hWW
        have s1 : W.cell? ⟨B0, 1, none⟩ = some (.int .i64 sc) := by rw [HWB.out.cell, ← HSC.out]; rfl
        have hb := HB.out
        rw [HFB.out] at hb
        have c1 : W.cell? ⟨fb, 1, none⟩ = some (.slice Av L capv) := by rw [hb.cell]; rfl
        have z1 : W.frozen? ⟨fb, 1, none⟩ = false := hb.frozen 1
        have HFL := Lib.hid hb.lt
        have HBF := Lib.hid hb
        have HWL := Lib.hid HWB.out.lt
        clear hWW hb hB0 hWb
        go_wp2_with fail
        refine (clone_ok W n0 Av L capv e.kept HLL.out.symm (by rw [HLL.out]; omega) HV.out).mono ?_
        rintro r w1 ⟨B1, k1, rfl, hq1, hk1⟩
        rw [HLL.out] at hq1 ⊢
        have c2 : w1.cell? ⟨fb, 1, none⟩ = some (.slice Av L capv) := by rw [hk1.cell HFL.out (fun q => q)]; exact c1
        have z2 : w1.frozen? ⟨fb, 1, none⟩ = false := (HBF.out.keep hk1 (fun q => q)).frozen 1
        have HBF1 := Lib.hid (HBF.out.keep hk1 (fun q => q))
        have HK1 := Lib.hid hk1
        have HQ1 := Lib.hid hq1
        by_cases hlt : at_ < L
        · obtain ⟨g1, ds1, rfl, hg1, hb1⟩ := own_blk1 (by have := hq1.own; rw [HLL.out] at this; exact this) (by omega)
          have hcap1 : L ≤ k1 := own_cap (by have := hq1.own; rw [HLL.out] at this; exact this)
          have HG1 := Lib.hid hg1
          have h1 : (at_ : Int) < (L : Int) := by omega
          have h2 : ¬ k1 = at_ := by omega
          have h3 : at_ ≤ k1 := by omega
          have h4 : at_ ≤ L := by omega
          have h5 : (at_ : Int) ≤ (L : Int) := by omega
          have h6 : (64 : Int) ≤ 64 := by omega
          have h7 : 64 ≤ 64 := by omega
          obtain ⟨cs, hcs⟩ : ∃ cs, ((c.s.take 64).take (L - at_)).map (Value.int .u8) = cs := ⟨_, rfl⟩
          have HCS := Lib.hid hcs
          have HCSL : Hid (cs.length = Nat.min 64 (L - at_)) := Lib.hid (by rw [← hcs, List.length_map, List.length_take, List.length_take, HS64.out, Nat.min_eq_left (show 64 ≤ 64 by omega)]; exact Nat.min_comm _ _)
          have HSRC : Hid (∀ j v, cs[j]? = some v → w1.drew.cell? ((⟨B0, 3, none⟩ : Addr).add j) = some v) := Lib.hid (by
            intro j v hj
            rw [add_mk]
            have hB := (HWB.out.keep HK1.out (fun q => q))
            have : w1.drew.cell? ⟨B0, 3 + j, none⟩ = w1.cell? ⟨B0, 3 + j, none⟩ := rfl
            rw [this, hB.cell]
            rw [← HCS.out, List.getElem?_map, List.getElem?_take] at hj
            split at hj
            · rw [List.getElem?_take] at hj
              split at hj
              · unfold cgA cgL
                rw [pad64_full HS64.out]
                simp only [List.getElem?_toArray]
                rw [show 3 + j = j + 1 + 1 + 1 by omega]
                simp only [List.getElem?_cons_succ, List.getElem?_map]
                exact hj
              · cases hj
            · cases hj)
          have HTH : Hid (w1.drew.there g1 at_ cs.length) := Lib.hid (hb1.drew.there (by rw [HCSL.out]; have hmm : Nat.min 64 (L - at_) ≤ L - at_ := Nat.min_le_right _ _; simp only [List.size_toArray, List.length_append, List.length_map, HLL.out]; omega))
          have HONE : Hid (∀ v ∈ cs, v.oneCell' = true) := Lib.hid (by rw [← HCS.out]; exact u8_one _)
          have HGF : Hid (fb ≠ g1) := Lib.hid (by have := HFL.out; omega)
          clear hb1 hcs c1 z1 hq1 hg1
          go_upto_region 10 with fail
          go_region_law (first
            | (refine step_copyC rfl (.tmp 43) (.tmp 46) 66 66 rfl 5 Try.underlying66 infoU8 g1 at_ (L - at_) (k1 - at_) ⟨B0, 3, none⟩ 64 64 cs (by go_simp) (by go_simp) HCSL.out HSRC.out HTH.out HONE.out ?_)
            | go_simp)
          have hq2 : Bq (w1.drew.setCells g1 at_ cs) W.heap.size (.slice (some ⟨g1, 0, none⟩) L k1) (Pl.put e.kept at_ ((c.s.take 64).take (L - at_))) := by
            rw [← HCS.out]
            refine bq_write HQ1.out.drew HLL.out at_ _ ?_ ?_
            · rw [HLL.out, List.length_take, List.length_take, HS64.out]; omega
            · intro y hy; exact HC.out.rng y (List.mem_of_mem_take (List.mem_of_mem_take hy))
          have hk2 : Kp NoB W (w1.drew.setCells g1 at_ cs) := Kp.setCells (.inl HG1.out) _ _ _ HK1.out.drew
          have hbf2 : Blk (w1.drew.setCells g1 at_ cs) fb 75 #[u, .slice Av L capv] := Blk.farCells HGF.out _ _ _ HBF1.out.drew
          generalize w1.drew.setCells g1 at_ cs = w2 at hq2 hk2 hbf2 ⊢
          have c3 : w2.cell? ⟨fb, 1, none⟩ = some (.slice Av L capv) := by rw [hbf2.cell]; rfl
          have z3 : w2.frozen? ⟨fb, 1, none⟩ = false := hbf2.frozen 1
          have HQ2 := Lib.hid hq2
          have HK2 := Lib.hid hk2
          have HBF2 := Lib.hid hbf2
          have HF := Lib.hid (HFIN.out _ rfl)
          clear hq2 hk2 hbf2 c2 z2
          go_wp2_with fail
          refine bodyPost_end (results_none rfl _ _ _) rfl ⟨rfl, ?_⟩
          unfold SvPost
          rw [HF.out, HLL.out]
          have hn0 := HN0.out
          have hpl : (Pl.put e.kept at_ ((c.s.take 64).take (L - at_))).length ≤ 1048576 := by
            rw [put_len (by rw [HLL.out, List.length_take, List.length_take, HS64.out]; omega), HLL.out]; exact hLk
          exact surv_fin H.out HE.out HFB.out HKB.out HK2.out HB.out HBF2.out HU.out (HQ2.out.mono hn0) (H0.out.fls e HE.out).ls hpl
        · have h1 : ¬ (at_ : Int) < (L : Int) := by omega
          have HF := Lib.hid (HFIN.out [] (by rw [HLL.out, show L - at_ = 0 by omega]; simp))
          clear hq1 c1 z1
          go_wp2_with fail
          refine bodyPost_end (results_none rfl _ _ _) rfl ⟨rfl, ?_⟩
          unfold SvPost
          rw [HF.out, put_nil]
          exact surv_fin H.out HE.out HFB.out HKB.out HK1.out HB.out HBF1.out HU.out (HQ1.out.mono HN0.out) (H0.out.fls e HE.out).ls (by rw [HLL.out]; exact hLk)
end Go.Proofs.Ytdgjglocgdccbaa
