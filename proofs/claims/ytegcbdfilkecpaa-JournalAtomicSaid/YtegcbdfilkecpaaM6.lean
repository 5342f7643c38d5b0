/- Texts of this proof, one behind the other: lemmas and contracts; each says its own conditions. -/
import Derived.Test.YtegcbdfilkecpaaM5
/- The stand-in disk: survive; no condition. -/
namespace Go.Proofs.Ytegcbdfilkecpaa
open Go.RowKit

def SvPost (n0 : Nat) (w : World) (x : Dd) (e : Fe) (c : Cg) (ch : Int) (w' : World) : Prop := Dk n0 w' { x with fs := putF x.fs { e with kept := Pl.made e.kept c ch } } ∧ Kp (OnB e.fb) w w'
theorem put_nil (l : List Int) (a : Nat) : Pl.put l a [] = l := by unfold Pl.put; simp
theorem Dk.keepE {n0 : Nat} {w w' : World} {x : Dd} (h : Dk n0 w x) {e : Fe} (he : e ∈ x.fs) (k : Kp NoB w w') : Dk n0 w' { x with fs := putF x.fs e } := by
  have : putF x.fs e = x.fs := putF_self (h.names.find he)
  rw [this]
  exact h.keep k (fun _ _ q => q) (fun _ _ _ q => q)
theorem surv_fin {n0 fb : Nat} {w W w2 : World} {x : Dd} {e : Fe} {u v v' : Value} {l : List Int} (h : Dk n0 W x) (he : e ∈ x.fs) (hfb : e.fb = fb) (kb : Kp NoB w W) (k : Kp NoB W w2) (hb : Blk W e.fb 143 #[u, v]) (hb2 : Blk w2 fb 143 #[u, v])
    (hu : Bq W n0 u e.seen) (hq : Bq w2 n0 v' l) (hls : e.seen.length ≤ 1048576) (hlk : l.length ≤ 1048576) :
    Dk n0 (w2.setCell ⟨fb, 1, none⟩ v') { x with fs := putF x.fs { e with kept := l } } ∧ Kp (OnB e.fb) w (w2.setCell ⟨fb, 1, none⟩ v') := by
  subst hfb
  have k2 : Kp (OnB e.fb) W (w2.setCell ⟨e.fb, 1, none⟩ v') := (k.mono (S' := OnB e.fb) (fun _ _ q => q.elim)).setAt rfl _ _
  have ks : Kp (OnB e.fb) w2 (w2.setCell ⟨e.fb, 1, none⟩ v') := (Kp.refl (OnB e.fb) w2).setAt rfl _ _
  have hb3 : Blk (w2.setCell ⟨e.fb, 1, none⟩ v') e.fb 143 #[u, v'] := by
    have := hb2.set_ 1 v'
    simpa using this
  exact ⟨h.refile he k2 { e with kept := l } rfl rfl ⟨⟨u, v', hb3, hu.keep k2 (fun g cs' hc q => onb_cells hb hc (by decide) q), hq.keep ks (fun g cs' hc q => onb_cells hb2 hc (by decide) q)⟩, hls, hlk⟩, (kb.mono (fun _ _ q => q.elim)).trans k2 (fun _ _ q => q)⟩
set_option maxRecDepth 100000 in
set_option maxHeartbeats 800000 in
theorem survive_ok (w : World) (n0 : Nat) (x : Dd) (e : Fe) (c : Cg) (ch : Int) (hch : -9223372036854775808 ≤ ch ∧ ch ≤ 9223372036854775807) (h : Dk n0 w x) (he : e ∈ x.fs) (hc : CgOk c) (hn0 : n0 ≤ w.heap.size) :
    Calls Try.prog 112 #[ptrV e.fb, .agg (cgA c.nm c.sec c.n (pad64 c.s)), .int .i64 ch] w fun r w' => r = .returned (.tuple #[]) ∧ SvPost n0 w x e c ch w' := by
  have kb : Kp NoB w (w.alloc (.cells (cgA c.nm c.sec c.n (pad64 c.s)) 148)) := (Kp.refl NoB w).alloc _
  have hb0 : Blk (w.alloc (.cells (cgA c.nm c.sec c.n (pad64 c.s)) 148)) w.heap.size 148 (cgA c.nm c.sec c.n (pad64 c.s)) := Blk.new _ _ _
  have HKB := Lib.hid kb
  have HB0 := Lib.hid hb0
  have H0 := Lib.hid h
  have H := Lib.hid (h.keep kb (fun _ _ q => q) (fun _ _ _ q => q))
  have HE := Lib.hid he
  have HC := Lib.hid hc
  have HN0 := Lib.hid (Nat.le_trans hn0 kb.size)
  obtain ⟨u, v, hb, hu, hv⟩ := (H.out.fls e he).blk
  obtain ⟨Av, capv, rfl⟩ := hv.form
  obtain ⟨fb, hfb⟩ : ∃ fb, e.fb = fb := ⟨_, rfl⟩
  have HFB := Lib.hid hfb
  obtain ⟨L, hL⟩ : ∃ L, e.kept.length = L := ⟨_, rfl⟩
  have HLL := Lib.hid hL
  rw [hL] at hv hb
  have HB := Lib.hid hb
  have HU := Lib.hid hu
  have HV := Lib.hid hv
  have hLk : L ≤ 1048576 := by rw [← hL]; exact (h.fls e he).lk
  have c1 : (w.alloc (.cells (cgA c.nm c.sec c.n (pad64 c.s)) 148)).cell? ⟨fb, 1, none⟩ = some (.slice Av L capv) := by rw [← hfb, hb.cell]; rfl
  have z1 : (w.alloc (.cells (cgA c.nm c.sec c.n (pad64 c.s)) 148)).frozen? ⟨fb, 1, none⟩ = false := by rw [← hfb]; exact hb.frozen 1
  have s1 : (w.alloc (.cells (cgA c.nm c.sec c.n (pad64 c.s)) 148)).cell? ⟨w.heap.size, 1, none⟩ = some (.int .i64 c.sec) := by rw [hb0.cell]; rfl
  have s2 : (w.alloc (.cells (cgA c.nm c.sec c.n (pad64 c.s)) 148)).cell? ⟨w.heap.size, 2, none⟩ = some (.int .i64 c.n) := by rw [hb0.cell]; rfl
  rw [show ptrV e.fb = .pointer (some ⟨fb, 0, none⟩) by rw [hfb]; rfl]
  by_cases h1 : ch ≤ 0
  · have fin : Hid (SvPost n0 w x e c ch (w.alloc (.cells (cgA c.nm c.sec c.n (pad64 c.s)) 148))) := Lib.hid (by
      unfold SvPost Pl.made
      rw [if_pos h1]
      exact ⟨h.keepE he kb, kb.mono (fun _ _ q => q.elim)⟩)
    clear kb hb0 h he hc hn0 hb hu hv hfb hL s1 s2 c1 z1
    go_enter Try.func112, Try.ntmps112
    go_wp2_with fail
    exact bodyPost_ret (results_none rfl _ _ _) rfl ⟨rfl, fin.out⟩
  · rcases hc.kind with ⟨hs0, hsec, hcn0, hcn1⟩ | ⟨hs64, hsec0, hsec1, hn⟩
    · obtain ⟨n, hn⟩ : ∃ n : Nat, c.n = n := ⟨c.n.toNat, by omega⟩
      have HNN := Lib.hid hn
      have HN1 : Hid (n ≤ 1048576) := Lib.hid (by omega)
      have HSEC := Lib.hid hsec
      have H1 := Lib.hid h1
      obtain ⟨B0, hB0⟩ : ∃ B0, w.heap.size = B0 := ⟨_, rfl⟩
      have HB00 := Lib.hid hB0
      clear kb hb0 h he hc hn0 hb hu hv hfb hL hs0 hsec hcn0 hcn1 hn s1 s2 c1 z1
      go_enter Try.func112, Try.ntmps112
      go_upto_region 1 with fail
      generalize hWW : w.alloc (.cells (cgA c.nm c.sec c.n (pad64 c.s)) 148) = W at *
      have HWW := Lib.hid hWW
      have hb0 := HB0.out
      rw [hB0] at hb0
      have s1 : W.cell? ⟨B0, 1, none⟩ = some (.int .i64 c.sec) := by rw [hb0.cell]; rfl
      have s2 : W.cell? ⟨B0, 2, none⟩ = some (.int .i64 c.n) := by rw [hb0.cell]; rfl
      have hb := HB.out
      rw [HFB.out] at hb
      have c1 : W.cell? ⟨fb, 1, none⟩ = some (.slice Av L capv) := by rw [hb.cell]; rfl
      rw [HSEC.out] at s1
      rw [HNN.out] at s2
      clear hWW hB0 hb0 hb
      go_upto_region 3 with fail
      go_region_law (first
        | (go_simp; go_at_call 154; go_must (refine (grow_ok W.drew n0 fb 1 _ Av L capv e.kept n HLL.out hLk HN1.out (by have := HN0.out; exact this) (by have := HB.out.drew; rw [HFB.out] at this; exact this) rfl HV.out.drew).mono ?_); rintro r w2 ⟨rfl, B, c2', hb2, hq2, hk2⟩; have HB2 := Lib.hid hb2; have HQ2 := Lib.hid hq2; have HK2 := Lib.hid hk2; clear hb2 hq2 hk2)
        | go_simp)
      go_wp2_with fail
      have hd2 := H.out.refile HE.out (w' := w2) (by rw [HFB.out]; exact (Kp.refl _ W).drew.trans HK2.out (fun _ _ q => q)) { e with kept := sizedF e.kept n } rfl rfl ⟨⟨u, .slice B n c2', by have := HB2.out; rw [← HFB.out] at this; simpa using this, HU.out.keep ((Kp.refl _ W).drew.trans HK2.out (fun _ _ q => q)) (fun g cs' hc q => onb_cells HB.out hc (by decide) (by rw [HFB.out]; exact q)), by simp only [sizedF_len]; exact HQ2.out⟩, (H0.out.fls e HE.out).ls, by simp only [sizedF_len]; exact HN1.out⟩
      exact bodyPost_ret (results_none rfl _ _ _) rfl ⟨rfl, by
        unfold SvPost Pl.made
        rw [if_neg (by have := H1.out; omega), if_pos (by rw [HSEC.out]; omega), HNN.out]
        exact ⟨hd2, by rw [HFB.out]; exact (HKB.out.mono (fun _ _ q => q.elim)).trans ((Kp.refl (OnB fb) W).drew.trans HK2.out (fun _ _ q => q)) (fun _ _ q => q)⟩⟩
    · obtain ⟨nn, hnn⟩ : ∃ nn : Nat, (if 1 < ch then (1 + (ch - 2) % 63).toNat else 64) = nn := ⟨_, rfl⟩
      have hnn1 : 1 ≤ nn ∧ nn ≤ 64 := by
        rw [← hnn]
        split <;> omega
      obtain ⟨at_, hat⟩ : ∃ a : Nat, c.sec.toNat * 64 = a := ⟨_, rfl⟩
      have hat1 : c.sec * 64 = (at_ : Int) := by omega
      have hw1 : IntKind.i64.wrap (c.sec * 64) = (at_ : Int) := by rw [IntKind.wrap_i64]; omega
      have hns : ¬ c.sec < 0 := by omega
      obtain ⟨sc, hsc⟩ : ∃ sc, c.sec = sc := ⟨_, rfl⟩
      have HSC := Lib.hid hsc
      rw [hsc] at hw1 hns hat1 hsec0 hsec1
      have HNN := Lib.hid hnn
      have HAT := Lib.hid hat
      have HS64 := Lib.hid hs64
      have H1 := Lib.hid h1
      obtain ⟨B0, hB0⟩ : ∃ B0, w.heap.size = B0 := ⟨_, rfl⟩
      have HB00 := Lib.hid hB0
      have hfin : ∀ cs : List Int, cs = (c.s.take nn).take (e.kept.length - at_) → Pl.made e.kept c ch = Pl.put e.kept at_ cs := by
        rintro cs rfl
        unfold Pl.made
        rw [if_neg h1, if_neg (by omega), hnn, hat]
      have HFIN := Lib.hid hfin
      clear kb hb0 h he hc hn0 hb hu hv hfb hL hs64 hn s1 s2 c1 z1 hnn hat hsc hfin
      by_cases hc1 : 1 < ch
      · have e1 : 1 + (ch - 2) % 63 = (nn : Int) := by have := HNN.out; rw [if_pos hc1] at this; omega
        have e0 : 0 ≤ ch - 2 := by omega
        have e3 : IntKind.i64.wrap (ch - 2) = ch - 2 := by rw [IntKind.wrap_i64]; omega
        go_enter Try.func112, Try.ntmps112
        go_upto_region 1 with fail
        have hWb := HB0.out
        rw [hB0] at hWb
        have HWB := Lib.hid hWb
        generalize hWW : w.alloc (.cells (cgA c.nm c.sec c.n (pad64 c.s)) 148) = W at *
        have HWW := Lib.hid hWW
        have s1 : W.cell? ⟨B0, 1, none⟩ = some (.int .i64 sc) := by rw [HWB.out.cell, ← HSC.out]; rfl
        have hb := HB.out
        rw [HFB.out] at hb
        have c1 : W.cell? ⟨fb, 1, none⟩ = some (.slice Av L capv) := by rw [hb.cell]; rfl
        have z1 : W.frozen? ⟨fb, 1, none⟩ = false := hb.frozen 1
        have HFL := Lib.hid hb.lt
        have HBF := Lib.hid hb
        have HWL := Lib.hid HWB.out.lt
        clear hWW hb hB0 hWb
        go_wp2_with fail
        refine (clone_ok W n0 Av L capv e.kept HLL.out.symm (by rw [HLL.out]; omega) HV.out).mono ?_
        rintro r w1 ⟨B1, k1, rfl, hq1, hk1⟩
        rw [HLL.out] at hq1 ⊢
        have c2 : w1.cell? ⟨fb, 1, none⟩ = some (.slice Av L capv) := by rw [hk1.cell HFL.out (fun q => q)]; exact c1
        have z2 : w1.frozen? ⟨fb, 1, none⟩ = false := (HBF.out.keep hk1 (fun q => q)).frozen 1
        have HBF1 := Lib.hid (HBF.out.keep hk1 (fun q => q))
        have HK1 := Lib.hid hk1
        have HQ1 := Lib.hid hq1
        by_cases hlt : at_ < L
        · obtain ⟨g1, ds1, rfl, hg1, hb1⟩ := own_blk1 (by have := hq1.own; rw [HLL.out] at this; exact this) (by omega)
          have hcap1 : L ≤ k1 := own_cap (by have := hq1.own; rw [HLL.out] at this; exact this)
          have HG1 := Lib.hid hg1
          have h1 : (at_ : Int) < (L : Int) := by omega
          have h2 : ¬ k1 = at_ := by omega
          have h3 : at_ ≤ k1 := by omega
          have h4 : at_ ≤ L := by omega
          have h5 : (at_ : Int) ≤ (L : Int) := by omega
          have h6 : (nn : Int) ≤ 64 := by omega
          have h7 : nn ≤ 64 := by omega
          obtain ⟨cs, hcs⟩ : ∃ cs, ((c.s.take nn).take (L - at_)).map (Value.int .u8) = cs := ⟨_, rfl⟩
          have HCS := Lib.hid hcs
          have HCSL : Hid (cs.length = Nat.min nn (L - at_)) := Lib.hid (by rw [← hcs, List.length_map, List.length_take, List.length_take, HS64.out, Nat.min_eq_left (show nn ≤ 64 by omega)]; exact Nat.min_comm _ _)
          have HSRC : Hid (∀ j v, cs[j]? = some v → w1.drew.cell? ((⟨B0, 3, none⟩ : Addr).add j) = some v) := Lib.hid (by
            intro j v hj
            rw [add_mk]
            have hB := (HWB.out.keep HK1.out (fun q => q))
            have : w1.drew.cell? ⟨B0, 3 + j, none⟩ = w1.cell? ⟨B0, 3 + j, none⟩ := rfl
            rw [this, hB.cell]
            rw [← HCS.out, List.getElem?_map, List.getElem?_take] at hj
            split at hj
            · rw [List.getElem?_take] at hj
              split at hj
              · unfold cgA cgL
                rw [pad64_full HS64.out]
                simp only [List.getElem?_toArray]
                rw [show 3 + j = j + 1 + 1 + 1 by omega]
                simp only [List.getElem?_cons_succ, List.getElem?_map]
                exact hj
              · cases hj
            · cases hj)
          have HTH : Hid (w1.drew.there g1 at_ cs.length) := Lib.hid (hb1.drew.there (by rw [HCSL.out]; have hmm : Nat.min nn (L - at_) ≤ L - at_ := Nat.min_le_right _ _; simp only [List.size_toArray, List.length_append, List.length_map, HLL.out]; omega))
          have HONE : Hid (∀ v ∈ cs, v.oneCell' = true) := Lib.hid (by rw [← HCS.out]; exact u8_one _)
          have HGF : Hid (fb ≠ g1) := Lib.hid (by have := HFL.out; omega)
          clear hb1 hcs c1 z1 hq1 hg1
          go_upto_region 10 with fail
          go_region_law (first
            | (refine step_copyC rfl (.tmp 43) (.tmp 46) 42 42 rfl 5 Try.underlying42 infoU8 g1 at_ (L - at_) (k1 - at_) ⟨B0, 3, none⟩ nn 64 cs (by go_simp) (by go_simp) HCSL.out HSRC.out HTH.out HONE.out ?_)
            | go_simp)
          have hq2 : Bq (w1.drew.setCells g1 at_ cs) W.heap.size (.slice (some ⟨g1, 0, none⟩) L k1) (Pl.put e.kept at_ ((c.s.take nn).take (L - at_))) := by
            rw [← HCS.out]
            refine bq_write HQ1.out.drew HLL.out at_ _ ?_ ?_
            · rw [HLL.out, List.length_take, List.length_take, HS64.out]; omega
            · intro y hy; exact HC.out.rng y (List.mem_of_mem_take (List.mem_of_mem_take hy))
          have hk2 : Kp NoB W (w1.drew.setCells g1 at_ cs) := Kp.setCells (.inl HG1.out) _ _ _ HK1.out.drew
          have hbf2 : Blk (w1.drew.setCells g1 at_ cs) fb 143 #[u, .slice Av L capv] := Blk.farCells HGF.out _ _ _ HBF1.out.drew
          generalize w1.drew.setCells g1 at_ cs = w2 at hq2 hk2 hbf2 ⊢
          have c3 : w2.cell? ⟨fb, 1, none⟩ = some (.slice Av L capv) := by rw [hbf2.cell]; rfl
          have z3 : w2.frozen? ⟨fb, 1, none⟩ = false := hbf2.frozen 1
          have HQ2 := Lib.hid hq2
          have HK2 := Lib.hid hk2
          have HBF2 := Lib.hid hbf2
          have HF := Lib.hid (HFIN.out _ rfl)
          clear hq2 hk2 hbf2 c2 z2
          go_wp2_with fail
          refine bodyPost_end (results_none rfl _ _ _) rfl ⟨rfl, ?_⟩
          unfold SvPost
          rw [HF.out, HLL.out]
          have hn0 := HN0.out
          have hpl : (Pl.put e.kept at_ ((c.s.take nn).take (L - at_))).length ≤ 1048576 := by
            rw [put_len (by rw [HLL.out, List.length_take, List.length_take, HS64.out]; omega), HLL.out]; exact hLk
          exact surv_fin H.out HE.out HFB.out HKB.out HK2.out HB.out HBF2.out HU.out (HQ2.out.mono hn0) (H0.out.fls e HE.out).ls hpl
        · have h1 : ¬ (at_ : Int) < (L : Int) := by omega
          have HF := Lib.hid (HFIN.out [] (by rw [HLL.out, show L - at_ = 0 by omega]; simp))
          clear hq1 c1 z1
          go_wp2_with fail
          refine bodyPost_end (results_none rfl _ _ _) rfl ⟨rfl, ?_⟩
          unfold SvPost
          rw [HF.out, put_nil]
          exact surv_fin H.out HE.out HFB.out HKB.out HK1.out HB.out HBF1.out HU.out (HQ1.out.mono HN0.out) (H0.out.fls e HE.out).ls (by rw [HLL.out]; exact hLk)
      · have e1 : nn = 64 := by have := HNN.out; rw [if_neg hc1] at this; omega
        subst e1
        go_enter Try.func112, Try.ntmps112
        go_upto_region 1 with fail
        have hWb := HB0.out
        rw [hB0] at hWb
        have HWB := Lib.hid hWb
        generalize hWW : w.alloc (.cells (cgA c.nm c.sec c.n (pad64 c.s)) 148) = W at *
        have HWW := Lib.hid hWW
        have s1 : W.cell? ⟨B0, 1, none⟩ = some (.int .i64 sc) := by rw [HWB.out.cell, ← HSC.out]; rfl
        have hb := HB.out
        rw [HFB.out] at hb
        have c1 : W.cell? ⟨fb, 1, none⟩ = some (.slice Av L capv) := by rw [hb.cell]; rfl
        have z1 : W.frozen? ⟨fb, 1, none⟩ = false := hb.frozen 1
        have HFL := Lib.hid hb.lt
        have HBF := Lib.hid hb
        have HWL := Lib.hid HWB.out.lt
        clear hWW hb hB0 hWb
        go_wp2_with fail
        refine (clone_ok W n0 Av L capv e.kept HLL.out.symm (by rw [HLL.out]; omega) HV.out).mono ?_
        rintro r w1 ⟨B1, k1, rfl, hq1, hk1⟩
        rw [HLL.out] at hq1 ⊢
        have c2 : w1.cell? ⟨fb, 1, none⟩ = some (.slice Av L capv) := by rw [hk1.cell HFL.out (fun q => q)]; exact c1
        have z2 : w1.frozen? ⟨fb, 1, none⟩ = false := (HBF.out.keep hk1 (fun q => q)).frozen 1
        have HBF1 := Lib.hid (HBF.out.keep hk1 (fun q => q))
        have HK1 := Lib.hid hk1
        have HQ1 := Lib.hid hq1
        by_cases hlt : at_ < L
        · obtain ⟨g1, ds1, rfl, hg1, hb1⟩ := own_blk1 (by have := hq1.own; rw [HLL.out] at this; exact this) (by omega)
          have hcap1 : L ≤ k1 := own_cap (by have := hq1.own; rw [HLL.out] at this; exact this)
          have HG1 := Lib.hid hg1
          have h1 : (at_ : Int) < (L : Int) := by omega
          have h2 : ¬ k1 = at_ := by omega
          have h3 : at_ ≤ k1 := by omega
          have h4 : at_ ≤ L := by omega
          have h5 : (at_ : Int) ≤ (L : Int) := by omega
          have h6 : (64 : Int) ≤ 64 := by omega
          have h7 : 64 ≤ 64 := by omega
          obtain ⟨cs, hcs⟩ : ∃ cs, ((c.s.take 64).take (L - at_)).map (Value.int .u8) = cs := ⟨_, rfl⟩
          have HCS := Lib.hid hcs
          have HCSL : Hid (cs.length = Nat.min 64 (L - at_)) := Lib.hid (by rw [← hcs, List.length_map, List.length_take, List.length_take, HS64.out, Nat.min_eq_left (show 64 ≤ 64 by omega)]; exact Nat.min_comm _ _)
          have HSRC : Hid (∀ j v, cs[j]? = some v → w1.drew.cell? ((⟨B0, 3, none⟩ : Addr).add j) = some v) := Lib.hid (by
            intro j v hj
            rw [add_mk]
            have hB := (HWB.out.keep HK1.out (fun q => q))
            have : w1.drew.cell? ⟨B0, 3 + j, none⟩ = w1.cell? ⟨B0, 3 + j, none⟩ := rfl
            rw [this, hB.cell]
            rw [← HCS.out, List.getElem?_map, List.getElem?_take] at hj
            split at hj
            · rw [List.getElem?_take] at hj
              split at hj
              · unfold cgA cgL
                rw [pad64_full HS64.out]
                simp only [List.getElem?_toArray]
                rw [show 3 + j = j + 1 + 1 + 1 by omega]
                simp only [List.getElem?_cons_succ, List.getElem?_map]
                exact hj
              · cases hj
            · cases hj)
          have HTH : Hid (w1.drew.there g1 at_ cs.length) := Lib.hid (hb1.drew.there (by rw [HCSL.out]; have hmm : Nat.min 64 (L - at_) ≤ L - at_ := Nat.min_le_right _ _; simp only [List.size_toArray, List.length_append, List.length_map, HLL.out]; omega))
          have HONE : Hid (∀ v ∈ cs, v.oneCell' = true) := Lib.hid (by rw [← HCS.out]; exact u8_one _)
          have HGF : Hid (fb ≠ g1) := Lib.hid (by have := HFL.out; omega)
          clear hb1 hcs c1 z1 hq1 hg1
          go_upto_region 10 with fail
          go_region_law (first
            | (refine step_copyC rfl (.tmp 43) (.tmp 46) 42 42 rfl 5 Try.underlying42 infoU8 g1 at_ (L - at_) (k1 - at_) ⟨B0, 3, none⟩ 64 64 cs (by go_simp) (by go_simp) HCSL.out HSRC.out HTH.out HONE.out ?_)
            | go_simp)
          have hq2 : Bq (w1.drew.setCells g1 at_ cs) W.heap.size (.slice (some ⟨g1, 0, none⟩) L k1) (Pl.put e.kept at_ ((c.s.take 64).take (L - at_))) := by
            rw [← HCS.out]
            refine bq_write HQ1.out.drew HLL.out at_ _ ?_ ?_
            · rw [HLL.out, List.length_take, List.length_take, HS64.out]; omega
            · intro y hy; exact HC.out.rng y (List.mem_of_mem_take (List.mem_of_mem_take hy))
          have hk2 : Kp NoB W (w1.drew.setCells g1 at_ cs) := Kp.setCells (.inl HG1.out) _ _ _ HK1.out.drew
          have hbf2 : Blk (w1.drew.setCells g1 at_ cs) fb 143 #[u, .slice Av L capv] := Blk.farCells HGF.out _ _ _ HBF1.out.drew
          generalize w1.drew.setCells g1 at_ cs = w2 at hq2 hk2 hbf2 ⊢
          have c3 : w2.cell? ⟨fb, 1, none⟩ = some (.slice Av L capv) := by rw [hbf2.cell]; rfl
          have z3 : w2.frozen? ⟨fb, 1, none⟩ = false := hbf2.frozen 1
          have HQ2 := Lib.hid hq2
          have HK2 := Lib.hid hk2
          have HBF2 := Lib.hid hbf2
          have HF := Lib.hid (HFIN.out _ rfl)
          clear hq2 hk2 hbf2 c2 z2
          go_wp2_with fail
          refine bodyPost_end (results_none rfl _ _ _) rfl ⟨rfl, ?_⟩
          unfold SvPost
          rw [HF.out, HLL.out]
          have hn0 := HN0.out
          have hpl : (Pl.put e.kept at_ ((c.s.take 64).take (L - at_))).length ≤ 1048576 := by
            rw [put_len (by rw [HLL.out, List.length_take, List.length_take, HS64.out]; omega), HLL.out]; exact hLk
          exact surv_fin H.out HE.out HFB.out HKB.out HK2.out HB.out HBF2.out HU.out (HQ2.out.mono hn0) (H0.out.fls e HE.out).ls hpl
        · have h1 : ¬ (at_ : Int) < (L : Int) := by omega
          have HF := Lib.hid (HFIN.out [] (by rw [HLL.out, show L - at_ = 0 by omega]; simp))
          clear hq1 c1 z1
          go_wp2_with fail
          refine bodyPost_end (results_none rfl _ _ _) rfl ⟨rfl, ?_⟩
          unfold SvPost
          rw [HF.out, put_nil]
          exact surv_fin H.out HE.out HFB.out HKB.out HK1.out HB.out HBF1.out HU.out (HQ1.out.mono HN0.out) (H0.out.fls e HE.out).ls (by rw [HLL.out]; exact hLk)
end Go.Proofs.Ytegcbdfilkecpaa
/- The stand-in disk: Restart, its plain parts; no condition. -/
namespace Go.Proofs.Ytegcbdfilkecpaa
open Go.RowKit

/-- a slice of numbers in memory -/
def Nums (w : World) (A : Option Addr) (n : Nat) (xs : List Int) : Prop :=
  xs.length = n ∧ (0 < n → ∃ g o, A = some ⟨g, o, none⟩ ∧ g < w.heap.size ∧ ∀ k, k < n → w.cell? ⟨g, o + k, none⟩ = some (.int .i64 (xs.getD k 0)))
theorem Nums.keep {S : Nat → Prop} {w w' : World} {A : Option Addr} {n : Nat} {xs : List Int} (h : Nums w A n xs) (k : Kp S w w') (hS : ∀ g o, A = some ⟨g, o, none⟩ → ¬ S g) : Nums w' A n xs :=
  ⟨h.1, fun hn => by
    obtain ⟨g, o, e, hg, hc⟩ := h.2 hn
    exact ⟨g, o, e, Nat.lt_of_lt_of_le hg k.size, fun j hj => (k.cell hg (hS g o e)).trans (hc j hj)⟩⟩
theorem survive_snoc (p : Pl) : ∀ (cs : List Cg) (chs : List Int), cs.length = chs.length → ∀ (c : Cg) (ch : Int), p.survive (cs ++ [c]) (chs ++ [ch]) = ((p.survive cs chs).at_).setKept c.nm (Pl.made ((p.survive cs chs).kept c.nm) c ch) := by
  intro cs
  induction cs generalizing p with
  | nil =>
    intro chs h c ch
    have : chs = [] := List.eq_nil_of_length_eq_zero (by simpa using h.symm)
    subst this
    simp [Pl.survive]
  | cons x cs ih =>
    intro chs h c ch
    cases chs with
    | nil => simp at h
    | cons y chs =>
      simp only [List.cons_append, Pl.survive]
      exact ih _ chs (by simpa using h) c ch
theorem survive_more (p : Pl) : ∀ (cs ds : List Cg) (chs : List Int), chs.length ≤ cs.length → p.survive (cs ++ ds) chs = p.survive cs chs := by
  intro cs
  induction cs generalizing p with
  | nil =>
    intro ds chs h
    have : chs = [] := List.eq_nil_of_length_eq_zero (by simpa using h)
    subst this
    cases ds <;> simp [Pl.survive]
  | cons x cs ih =>
    intro ds chs h
    cases chs with
    | nil => simp [Pl.survive]
    | cons y chs =>
      simp only [List.cons_append, Pl.survive]
      exact ih _ ds chs (by simpa using h)
theorem survive_take (p : Pl) : ∀ (cs : List Cg) (chs : List Int), p.survive cs (chs.take cs.length) = p.survive cs chs := by
  intro cs
  induction cs generalizing p with
  | nil => intro chs; cases chs <;> simp [Pl.survive]
  | cons x cs ih =>
    intro chs
    cases chs with
    | nil => simp [Pl.survive]
    | cons y chs =>
      simp only [List.length_cons, List.take_succ_cons, Pl.survive]
      exact ih _ chs
theorem survive_pd (p : Pl) : ∀ (cs : List Cg) (chs : List Int), (p.survive cs chs).pd = p.pd ∧ (p.survive cs chs).nf ≤ p.nf + cs.length ∧ (p.survive cs chs).starts = p.starts ∧ (p.survive cs chs).room = p.room ∧ (p.survive cs chs).steps = p.steps ∧ (p.survive cs chs).crash = p.crash ∧ (p.survive cs chs).down = p.down := by
  intro cs
  induction cs generalizing p with
  | nil => intro chs; cases chs <;> simp [Pl.survive]
  | cons x cs ih =>
    intro chs
    cases chs with
    | nil => simp [Pl.survive]
    | cons y chs =>
      simp only [Pl.survive]
      obtain ⟨h1, h2, h3, h4, h5, h6, h7⟩ := ih (p.at_.setKept x.nm (Pl.made (p.kept x.nm) x y)) chs
      refine ⟨h1, ?_, h3, h4, h5, h6, h7⟩
      simp only [List.length_cons]
      have : (p.at_.setKept x.nm (Pl.made (p.kept x.nm) x y)).nf = p.nf + 1 := rfl
      omega
/-- one change survived: the next step -/
theorem survive_next (p : Pl) (pd : List Cg) (chs : List Int) (i : Nat) (c : Cg) (hc : pd[i]? = some c) :
    (∀ ch, chs[i]? = some ch → p.survive (pd.take (i + 1)) (chs.take (i + 1)) = ((p.survive (pd.take i) (chs.take i)).at_).setKept c.nm (Pl.made ((p.survive (pd.take i) (chs.take i)).kept c.nm) c ch)) ∧
    (chs.length ≤ i → p.survive (pd.take (i + 1)) (chs.take (i + 1)) = p.survive (pd.take i) (chs.take i)) := by
  have hi : i < pd.length := (List.getElem?_eq_some_iff.1 hc).1
  refine ⟨fun ch hch => ?_, fun hle => ?_⟩
  · have hi2 : i < chs.length := (List.getElem?_eq_some_iff.1 hch).1
    rw [List.take_add_one, hc, List.take_add_one, hch]
    exact survive_snoc p _ _ (by simp; omega) c ch
  · rw [List.take_of_length_le (l := chs) (i := i + 1) (by omega), List.take_of_length_le (l := chs) (i := i) hle, List.take_add_one, hc]
    exact survive_more p _ _ _ (by rw [List.length_take]; omega)
/-- the files that the range has met: what is seen is what is kept -/
def turnF (left : List UInt8 → Bool) (fs : List Fe) : List Fe := fs.map fun e => if left (kOf e.nm) then e else { e with seen := e.kept }
theorem turnF_step {fs : List Fe} (hn : Names fs) {left : List UInt8 → Bool} {e : Fe} (he : e ∈ fs) :
    putF (turnF left fs) { e with seen := e.kept } = turnF (fun z => left z && !(z == kOf e.nm)) fs := by
  induction fs with
  | nil => simp at he
  | cons y r ih =>
    obtain ⟨h1, h2⟩ := List.pairwise_cons.1 hn
    have hnm : kOf (if left (kOf y.nm) then y else { y with seen := y.kept }).nm = kOf y.nm := by split <;> rfl
    rcases List.mem_cons.1 he with rfl | he'
    · simp only [turnF, List.map_cons, putF]
      rw [if_pos (by split <;> rfl)]
      have : (left (kOf e.nm) && !(kOf e.nm == kOf e.nm)) = false := by simp
      simp only [this, Bool.false_eq_true, if_false]
      congr 1
      apply List.map_congr_left
      intro z hz
      have h3 := h1 z hz
      have : (kOf z.nm == kOf e.nm) = false := by simpa using fun q => h3 q.symm
      simp only [this, Bool.not_false, Bool.and_true]
    · have h3 := h1 e he'
      simp only [turnF, List.map_cons, putF]
      rw [if_neg (by rw [hnm]; exact h3)]
      have : (kOf y.nm == kOf e.nm) = false := by simpa using h3
      simp only [this, Bool.not_false, Bool.and_true]
      congr 1
      exact ih h2 he'
theorem turnF_all (fs : List Fe) : turnF (fun _ => true) fs = fs := by unfold turnF; simp
theorem turnF_none {left : List UInt8 → Bool} {fs : List Fe} (h : ∀ k, left k = false) : turnF left fs = fs.map fun e => { e with seen := e.kept } := by unfold turnF; simp [h]
theorem turnF_same {l l' : List UInt8 → Bool} {fs : List Fe} (h : ∀ e ∈ fs, l (kOf e.nm) = l' (kOf e.nm)) : turnF l fs = turnF l' fs := by
  unfold turnF
  apply List.map_congr_left
  intro e he
  rw [h e he]
theorem seenOf_kept (fs : List Fe) : seenOf (fs.map fun e => { e with seen := e.kept }) = keptOf fs ∧ keptOf (fs.map fun e => { e with seen := e.kept }) = keptOf fs ∧ allSum (fs.map fun e => { e with seen := e.kept }) = allKept fs ∧ allKept (fs.map fun e => { e with seen := e.kept }) = allKept fs := by
  refine ⟨?_, ?_, ?_, ?_⟩
  · funext s
    induction fs with
    | nil => rfl
    | cons y r ih =>
      rw [List.map_cons, seenOf_cons, keptOf_cons, ih]
  · funext s
    induction fs with
    | nil => rfl
    | cons y r ih =>
      rw [List.map_cons, keptOf_cons, keptOf_cons, ih]
  · unfold allSum allKept
    rw [List.map_map]
    rfl
  · unfold allKept
    rw [List.map_map]
    rfl
/-- the disk's cells stored anew, without changes -/
theorem Dk.reset {n0 : Nat} {w w' : World} {x : Dd} (h : Dk n0 w x) (k : Kp (OnB x.db) w w') (starts : Int)
    (hb : Blk w' x.db 121 #[.map (some x.mb), .slice none 0 0, .int .i64 x.room, .int .i64 0, .int .i64 0, .bool false, .int .i64 starts]) :
    Dk n0 w' { x with pv := .slice none 0 0, pd := [], steps := 0, crash := 0, down := false, starts := starts } := by
  obtain ⟨D, hD, hM⟩ := h.mp
  have hmb : ¬ OnB x.db x.mb := by
    intro q
    obtain ⟨es, cl, hm, _⟩ := hD
    have := h.blk
    unfold Blk at this
    rw [← show x.mb = x.db from q, hm] at this
    cases this
  exact { h with
    blk := hb
    mp := ⟨D, k.map hD hmb, hM⟩
    fls := fun e he => (h.fls e he).keep k (by obtain ⟨u, v, hb', _⟩ := (h.fls e he).blk; exact onb_cells h.blk hb' (by decide)) (fun g cs hc => onb_cells h.blk hc (by decide))
    pend := World.ownsRow_nil _ _ _ _
    s64 := by simp
    c0 := by simp }
end Go.Proofs.Ytegcbdfilkecpaa
/- The stand-in disk: Restart; no condition but on the counts. -/
namespace Go.Proofs.Ytegcbdfilkecpaa
open Go.RowKit

attribute [local go_sem ↓] loadCg storeCg allocCg
def RePost (n0 : Nat) (w : World) (x : Dd) (p : Pl) (chs : List Int) (e : Ending) (w' : World) : Prop := e = .returned (.int .i64 p.restartE) ∧ To n0 w x (p.restart chs) w'
/-- the first loop -/
def ReRel (n0 : Nat) (w : World) (x : Dd) (p : Pl) (chs : List Int) (v : Value) (wr : World) : Prop :=
  ∃ (i : Nat) (xi : Dd), v = .int .i64 (i : Int) ∧ i ≤ p.pd.length ∧ Dk n0 wr xi ∧ Of xi (p.survive (p.pd.take i) (chs.take i)) ∧ xi.pv = x.pv ∧ xi.db = x.db ∧ xi.mb = x.mb ∧ Kp x.O w wr ∧ ∀ b, xi.O b → x.O b ∨ w.heap.size ≤ b
/-- the second loop -/
def Re2Rel (n0 : Nat) (w : World) (x : Dd) (r : Nat) (D : DataW Value) (wr : World) : Prop :=
  ∃ (left : Lit → Bool) (cnt : Nat), wr.ranges Try.prog 9 Rp x.mb r x.mn D left cnt ∧ Dk n0 wr { x with fs := turnF (fun k => left (.string k)) x.fs } ∧ Kp x.O w wr
theorem grown_of {w w' : World} {g : Nat} (k : Kp (OnB g) w w') : w.grownBy w' (some g) := ⟨k.os, k.tape, k.output, k.size, fun i hi hne => k.block i hi (fun q => hne (by rw [show i = g from q]))⟩
theorem Of.turn {x : Dd} {q : Pl} (h : Of x q) (s : Int) : Of { x with fs := x.fs.map fun e => { e with seen := e.kept }, pv := .slice none 0 0, pd := [], steps := 0, crash := 0, down := false, starts := s } { q with seen := q.kept, sum := q.ksum, pd := [], steps := 0, crash := 0, down := false, starts := s } :=
  { seen := by rw [(seenOf_kept x.fs).1]; exact h.kept
    kept := by rw [(seenOf_kept x.fs).2.1]; exact h.kept
    sum := by rw [(seenOf_kept x.fs).2.2.1]; exact h.ksum
    ksum := by rw [(seenOf_kept x.fs).2.2.2]; exact h.ksum
    nf := h.nf
    pd := rfl
    room := h.room
    steps := rfl
    crash := rfl
    down := rfl
    starts := rfl }
theorem turnF_mem {left : List UInt8 → Bool} {fs : List Fe} {e : Fe} (h : e ∈ turnF left fs) : ∃ e' ∈ fs, e'.fb = e.fb ∧ e'.nm = e.nm ∧ (left (kOf e.nm) = true → e = e') := by
  unfold turnF at h
  obtain ⟨e', he, rfl⟩ := List.mem_map.1 h
  by_cases hl : left (kOf e'.nm) = true
  · refine ⟨e', he, ?_⟩
    simp [hl]
  · refine ⟨e', he, ?_⟩
    simp [hl]
theorem findF_turn (left : List UInt8 → Bool) (fs : List Fe) (k : List UInt8) : (findF (turnF left fs) k).map (·.fb) = (findF fs k).map (·.fb) := by
  induction fs with
  | nil => rfl
  | cons y r ih =>
    unfold findF turnF at *
    rw [List.map_cons]
    have hnm : kOf (if left (kOf y.nm) then y else { y with seen := y.kept }).nm = kOf y.nm := by split <;> rfl
    have hfb : (if left (kOf y.nm) then y else { y with seen := y.kept }).fb = y.fb := by split <;> rfl
    rw [List.find?_cons, List.find?_cons, hnm]
    by_cases h : kOf y.nm = k
    · subst h
      simp only [beq_self_eq_true, Option.map_some]
      rw [hfb]
    · have : (kOf y.nm == k) = false := by simpa using h
      simp only [this]
      exact ih
theorem Dk.noIter {n0 : Nat} {w : World} {x : Dd} (h : Dk n0 w x) {r : Nat} {since : Nat} {seen : List Nat} {b : Option Nat} {c0 : Nat} (hr : ∃ o, w.heap[r]? = some o ∧ (∀ cs t f, o ≠ .cells cs t f) ∧ (∀ es c, o ≠ .map es c)) : (∀ b, x.O b → b ≠ r) ∧ ∀ g cs, w.heap[g]? = some (.cells cs 5 (0, 0)) → g ≠ r := by
  obtain ⟨o, hro, hnc, hnm⟩ := hr
  have cc : ∀ g cs t f, w.heap[g]? = some (.cells cs t f) → g ≠ r := by
    rintro g cs t f hg rfl
    rw [hro] at hg
    exact hnc _ _ _ (Option.some.inj hg)
  refine ⟨?_, fun g cs hg => cc g cs _ _ hg⟩
  rintro b (rfl | rfl | hb | ⟨e, he, rfl⟩)
  · exact cc _ _ _ _ h.blk
  · obtain ⟨D, ⟨es, cl, hb, _⟩, _⟩ := h.mp
    rintro rfl
    rw [hro] at hb
    exact hnm _ _ (Option.some.inj hb)
  · obtain ⟨cs', hc⟩ := own_type h.pend hb
    exact cc _ _ _ _ hc
  · obtain ⟨u, v, hb, _⟩ := (h.fls e he).blk
    exact cc _ _ _ _ hb
set_option maxRecDepth 100000 in
theorem restart_up (w : World) (n0 : Nat) (x : Dd) (p : Pl) (A : Option Addr) (n cap : Nat) (chs : List Int) (h : Dk n0 w x) (hp : Of x p) (hd : p.down = false) :
    Calls Try.prog 47 #[ptrV x.db, .slice A n cap] w (RePost n0 w x p chs) := by
  have H := Lib.hid h
  have HP := Lib.hid hp
  have HD := Lib.hid hd
  obtain ⟨db, hdb⟩ : ∃ db, x.db = db := ⟨_, rfl⟩
  have HX := Lib.hid hdb
  have c : w.cell? ⟨x.db, 5, none⟩ = some (.bool false) := by rw [h.blk.cell, ← hd, hp.down]; rfl
  rw [hdb] at c ⊢
  clear h hp hdb hd
  unfold ptrV
  go_enter Try.func47, Try.ntmps47
  go_wp2_with (go_at_call 69; go_must (refine (show Calls _ _ #[ptrV db] _ _ by rw [← HX.out]; exact is_ok _ _ _ H.out).mono ?_); rintro e w2 ⟨rfl, rfl⟩)
  go_ret
  exact ⟨by unfold Pl.restartE; rw [HD.out]; rfl, by unfold Pl.restart; rw [HD.out]; exact To.refl H.out HP.out⟩
set_option maxRecDepth 100000 in
set_option maxHeartbeats 1600000 in
theorem restart_main (w : World) (n0 : Nat) (x : Dd) (p : Pl) (A : Option Addr) (n cap : Nat) (chs : List Int) (h : Dk n0 w x) (hp : Of x p) (hd : p.down = true) (hc : Nums w A n chs) (hA : ∀ g o, A = some ⟨g, o, none⟩ → 0 < n → ¬ x.O g) (hch : ∀ y ∈ chs, -9223372036854775808 ≤ y ∧ y ≤ 9223372036854775807)
    (hn63 : n ≤ 9223372036854775807) (hm : p.nf + p.pd.length < 1099511627776 - 10) (hn0 : n0 ≤ w.heap.size) :
    Calls Try.prog 47 #[ptrV x.db, .slice A n cap] w (RePost n0 w x p chs) := by
  have H := Lib.hid h
  have HP := Lib.hid hp
  have HD := Lib.hid hd
  have HC := Lib.hid hc
  have HA := Lib.hid hA
  have HCH := Lib.hid hch
  have HM := Lib.hid hm
  have HN0 := Lib.hid hn0
  obtain ⟨db, hdb⟩ : ∃ db, x.db = db := ⟨_, rfl⟩
  have HX := Lib.hid hdb
  have c5 : w.cell? ⟨x.db, 5, none⟩ = some (.bool true) := by rw [h.blk.cell, ← hd, hp.down]; rfl
  obtain ⟨pl, hpl⟩ : ∃ pl, p.pd.length = pl := ⟨_, rfl⟩
  have HPL := Lib.hid hpl
  obtain ⟨Ap, kp, hpv⟩ := own_slice h.pend
  rw [← hp.pd, hpl] at hpv
  have HPV := Lib.hid hpv
  have c1 : w.cell? ⟨x.db, 1, none⟩ = some (.slice Ap pl kp) := by rw [h.blk.cell, ← hpv]; rfl
  have hplb : pl < 1099511627776 := by omega
  have HOK : Hid (∀ c ∈ p.pd, CgOk c) := Lib.hid (by rw [hp.pd]; exact h.s64)
  rw [hdb] at c5 c1 ⊢
  clear h hp hd hc hA hch hm hn0 hdb hpl hpv
  unfold ptrV
  go_enter Try.func47, Try.ntmps47
  go_wp2_with (go_at_call 69; go_must (refine (show Calls _ _ #[ptrV db] _ _ by rw [← HX.out]; exact is_ok _ _ _ H.out).mono ?_); rintro e w2 ⟨rfl, rfl⟩)
  go_loopw [24] (fun v wr => ReRel n0 w x p chs v wr) (fun v _ => pl - (intOf v).toNat)
  case atStart => exact ⟨0, x, rfl, Nat.zero_le _, H.out, by simpa [Pl.survive] using HP.out, rfl, rfl, rfl, Kp.refl _ _, fun b hb => .inl hb⟩
  case round =>
    obtain ⟨i, xi, rfl, hi, hdk, hof, hpv, hdb, hmb, hkp, ho⟩ := hrel
    have HI := Lib.hid hi
    have HDK := Lib.hid hdk
    have HOF := Lib.hid hof
    have HPVI := Lib.hid hpv
    have HDB := Lib.hid hdb
    have HMB := Lib.hid hmb
    have HKP := Lib.hid hkp
    have HO := Lib.hid ho
    clear hi hdk hof hpv hdb hmb hkp ho c1 c5
    by_cases hlt : i < pl
    · have hpdi : xi.pd = p.pd := by rw [← HOF.out.pd]; exact (survive_pd p _ _).1
      have hrow : wr.ownsRow n0 148 67 (.slice Ap pl kp) pl (cgCells p.pd) := by
        have := HDK.out.pend
        rw [hpdi, HPVI.out, HPV.out, HPL.out] at this
        exact this
      obtain ⟨g, ds, rfl, hg, hb⟩ := own_blkN hrow (by omega)
      obtain ⟨t0, r0⟩ := cg_at hb HOK.out i (by have := HPL.out; omega)
      obtain ⟨c, hc, hcm⟩ := cg_eta p.pd i (by have := HPL.out; omega)
      rw [hc] at r0
      have HC' : Hid (p.pd[i]? = some c) := Lib.hid (by rw [List.getElem?_eq_getElem (by have := HPL.out; omega), hc])
      have hck := HOK.out c hcm
      have HCK := Lib.hid hck
      have hii : (i : Int) < (pl : Int) := by omega
      have hzb : Blk (wr.alloc (.cells (cgA ⟨#[]⟩ 0 0 (zeros 64)) 148)) wr.heap.size 148 (cgA ⟨#[]⟩ 0 0 (zeros 64)) := Blk.new _ _ _
      have t1 := hzb.thereAll 67 (by rw [cgA_size]; rfl)
      have on1 : ones (cgA c.nm c.sec c.n (pad64 c.s)) := cgA_ones _ _ _ _
      have sz1 : (cgA c.nm c.sec c.n (pad64 c.s)).size = 67 := by rw [cgA_size, hck.pad]
      clear hpdi hrow hb hc hcm hck hzb
      by_cases hin : i < n
      · have hin2 : (i : Int) < (n : Int) := by omega
        obtain ⟨gc, oc, rfl, hgc, hcc⟩ := HC.out.2 (by omega)
        have hci := hcc i hin
        obtain ⟨ch, hche⟩ : ∃ ch, chs.getD i 0 = ch := ⟨_, rfl⟩
        rw [hche] at hci
        have HCHE : Hid (chs[i]? = some ch) := Lib.hid (by
          have := HC.out.1
          rw [List.getElem?_eq_getElem (by omega), ← hche, List.getD_eq_getElem?_getD, List.getElem?_eq_getElem (by omega)]
          rfl)
        have HCR : Hid (-9223372036854775808 ≤ ch ∧ ch ≤ 9223372036854775807) := Lib.hid (HCH.out ch (List.mem_of_getElem? HCHE.out))
        have HGC := Lib.hid hgc
        have HIN := Lib.hid hin
        have HCI := Lib.hid hci
        clear hgc hcc hci hche
        go_upto_region 9 with fail
        obtain ⟨g8, hg8⟩ : ∃ g8, wr.heap.size = g8 := ⟨_, rfl⟩
        have HG8 := Lib.hid hg8
        have hb8 : Blk ((wr.alloc (.cells (cgA ⟨#[]⟩ 0 0 (zeros 64)) 148)).setCells wr.heap.size 0 (cgA c.nm c.sec c.n (pad64 c.s)).toList) wr.heap.size 148 (cgA c.nm c.sec c.n (pad64 c.s)) := (Blk.new wr 148 _).whole _ (by rw [cgA_size, cgA_size, HCK.out.pad]; rfl)
        have hk8 : Kp NoB wr ((wr.alloc (.cells (cgA ⟨#[]⟩ 0 0 (zeros 64)) 148)).setCells wr.heap.size 0 (cgA c.nm c.sec c.n (pad64 c.s)).toList) := Kp.setCells (.inl (Nat.le_refl _)) _ _ _ ((Kp.refl NoB wr).alloc _)
        rw [hg8] at hb8 hk8 ⊢
        generalize (wr.alloc (.cells (cgA ⟨#[]⟩ 0 0 (zeros 64)) 148)).setCells g8 0 (cgA c.nm c.sec c.n (pad64 c.s)).toList = w8 at hb8 hk8 ⊢
        have HB8 := Lib.hid hb8
        have HK8 := Lib.hid hk8
        have HD8 := Lib.hid (HDK.out.keep hk8 (fun _ _ q => q) (fun _ _ _ q => q))
        have hk08 : Kp x.O w w8 := HKP.out.trans hk8 (fun _ _ q => q.elim)
        have HK08 := Lib.hid hk08
        have s0 : w8.cell? ⟨g8, 0, none⟩ = some (.string c.nm) := by rw [hb8.cell]; rfl
        have s1 := hb8.thereAll 67 (by rw [cgA_size, HCK.out.pad])
        have s2 := hb8.readAll 67 (by rw [cgA_size, HCK.out.pad])
        have s3 : w8.cell? ⟨gc, oc + i, none⟩ = some (.int .i64 ch) := by rw [hk08.cell HGC.out (HA.out gc oc rfl (Nat.zero_lt_of_lt HIN.out))]; exact HCI.out
        clear hg8 hb8 hk8 hk08 t0 r0 t1 on1 sz1
        go_region_held3 (fun w' => w'.cell? ⟨g8, 0, none⟩ = some (.string c.nm) ∧ w'.there g8 0 67 ∧ readRow w' g8 0 67 = cgA c.nm c.sec c.n (pad64 c.s) ∧ w'.cell? ⟨gc, oc + i, none⟩ = some (.int .i64 ch))
          (first | exact ⟨s0, s1, s2, s3⟩ | exact ⟨v0, v1, v2, v3⟩ | exact ⟨y0, y1, y2, y3⟩ | go_keep)
          (first
            | (go_at_call 111; go_must (refine (show Calls _ _ #[ptrV db, .string c.nm] _ _ by rw [← HX.out, ← HDB.out]; exact at_ok _ n0 xi c.nm HCK.out.nl (by have := HOF.out.nf; have := (survive_pd p (p.pd.take i) (chs.take i)).2.1; have := HM.out; have := HPL.out; simp only [List.length_take] at *; omega) (by exact Nat.le_trans HN0.out HK08.out.size) (HD8.out.keep ((Kp.refl NoB w8).drew) (fun _ _ q => q) (fun _ _ _ q => q))).mono ?_); rintro e w9 ⟨e0, m2, rfl, hd9, hm9, hnm9, hsn9, hkp9, hk9, hfb9⟩; have HD9 := Lib.hid hd9; have hk9' := (Kp.refl (OnB xi.mb) w8).drew.trans hk9 (fun _ _ q => q); have HK9 := Lib.hid hk9'; have HF0 := Lib.hid (findF_some (show findF (putF xi.fs e0) (kOf e0.nm) = some e0 by rw [putF_find, if_pos rfl])).1; have HO9 := Lib.hid (O_at (m := m2) HD8.out hk9' hfb9); have HQ9 := Lib.hid (HOF.out.at_ e0 m2 hm9 (by rw [hsn9, hnm9]) (by rw [hkp9, hnm9])); have HE9 := Lib.hid (show e0.nm = c.nm ∧ e0.kept = keptOf xi.fs c.nm from ⟨hnm9, hkp9⟩); have n8 : ¬ OnB xi.mb g8 := (fun q => by have h1 := H.out.lt x.mb (.inr (.inl rfl)); have h2 := HKP.out.size; have h3 : g8 = xi.mb := q; have h4 := HMB.out; have h5 := HG8.out; omega); have nc : ¬ OnB xi.mb gc := (fun q => HA.out gc oc rfl (Nat.zero_lt_of_lt HIN.out) (.inr (.inl (by rw [← HMB.out]; exact q)))); have v0 := (hk9'.cell HB8.out.lt n8).trans s0; have v1 := there_congr (hk9'.block g8 HB8.out.lt n8) s1; have v2 := (readRow_congr (hk9'.block g8 HB8.out.lt n8)).trans s2; have v3 := (hk9'.cell (Nat.lt_of_lt_of_le HGC.out HK08.out.size) nc).trans s3; clear hd9 hm9 hnm9 hsn9 hkp9 hk9 hfb9 hk9' n8 nc)
            | (go_at_call 112; go_must (refine (survive_ok w9 n0 _ e0 c ch HCR.out HD9.out HF0.out HCK.out (Nat.le_trans HN0.out (Nat.le_trans HK08.out.size HK9.out.size))).mono ?_); rintro r w10 ⟨rfl, hd10, hk10⟩; have HD10 := Lib.hid hd10; have HK10 := Lib.hid hk10; have hO9 := HO9.out.2 e0.fb (.inr (.inr (.inr ⟨e0, HF0.out, rfl⟩))); have n8' : ¬ OnB e0.fb g8 := (fun q => by have h3 : g8 = e0.fb := q; have h5 := HG8.out; have h6 := HB8.out.lt; exact hO9.elim (fun q2 => by have h7 := HDK.out.lt _ q2; omega) (fun q2 => by omega)); have nc' : ¬ OnB e0.fb gc := (fun q => by have h3 : gc = e0.fb := q; have h6 := HGC.out; have h7 := HK08.out.size; exact hO9.elim (fun q2 => (HO.out _ q2).elim (fun q3 => HA.out gc oc rfl (Nat.zero_lt_of_lt HIN.out) (by rw [h3]; exact q3)) (fun q3 => by omega)) (fun q2 => by omega)); have g8l := Nat.lt_of_lt_of_le HB8.out.lt HK9.out.size; have y0 := (hk10.cell g8l n8').trans v0; have y1 := there_congr (hk10.block g8 g8l n8') v1; have y2 := (readRow_congr (hk10.block g8 g8l n8')).trans v2; have y3 := (hk10.cell (Nat.lt_of_lt_of_le HGC.out (Nat.le_trans HK08.out.size HK9.out.size)) nc').trans v3; clear hd10 hk10 hO9 n8' nc' g8l))
        go_wp2_with fail
        have hkf : Kp x.O w w10 := (HK08.out.trans (HO9.out.1.trans HK10.out (fun b hb q => by
            rcases HO9.out.2 b (.inr (.inr (.inr ⟨e0, HF0.out, q⟩))) with q | q
            · exact q
            · omega)) (fun b hb q => by
          rcases HO.out b q with q | q
          · exact q
          · omega))
        refine ⟨⟨i + 1, { xi with fs := putF (putF xi.fs e0) { e0 with kept := Pl.made e0.kept c ch }, mn := m2 }, by go_num, by have := HPL.out; omega, HD10.out, ?_, HPVI.out, HDB.out, HMB.out, hkf, ?_⟩, by simp [intOf]; omega⟩
        · rw [(survive_next p p.pd chs i c HC'.out).1 ch HCHE.out]
          have := HQ9.out.setKept { e0 with kept := Pl.made e0.kept c ch } (by simp only [seenOf_put, upd_same])
          have e1 := HE9.out.1
          have e2 := HE9.out.2
          rw [HOF.out.kept_eq] at e2
          simp only [e1, e2] at this ⊢
          exact this
        · intro b hb
          have h1 := O_put (x := { xi with fs := putF xi.fs e0, mn := m2 }) (e := { e0 with kept := Pl.made e0.kept c ch }) ⟨e0, HF0.out, rfl⟩ b hb
          rcases HO9.out.2 b h1 with q | q
          · exact HO.out b q
          · exact .inr (Nat.le_trans HK08.out.size q)
      · have hin2 : ¬ (i : Int) < (n : Int) := by omega
        have kz : Kp NoB wr ((wr.alloc (.cells (cgA ⟨#[]⟩ 0 0 (zeros 64)) 148)).setCells wr.heap.size 0 (cgA c.nm c.sec c.n (pad64 c.s)).toList) := Kp.setCells (.inl (Nat.le_refl _)) _ _ _ ((Kp.refl NoB wr).alloc _)
        have KZ := Lib.hid kz
        clear kz
        go_wp2_with fail
        have kz := KZ.out
        refine ⟨⟨i + 1, xi, by go_num, by have := HPL.out; omega, ?_, ?_, HPVI.out, HDB.out, HMB.out, ?_, HO.out⟩, by simp [intOf]; omega⟩
        · exact HDK.out.keep kz (fun _ _ q => q) (fun _ _ _ q => q)
        · rw [(survive_next p p.pd chs i c HC'.out).2 (by have := HC.out.1; omega)]; exact HOF.out
        · exact HKP.out.trans kz (fun _ _ q => q.elim)
    · have hii : ¬ (i : Int) < (pl : Int) := by omega
      have eip : i = pl := by have := HI.out; have := HPL.out; omega
      have HP1 : Hid (Of xi (p.survive p.pd chs)) := Lib.hid (by
        have := HOF.out
        rw [eip, ← HPL.out, List.take_length, survive_take] at this
        exact this)
      obtain ⟨D, hD, hM⟩ := HDK.out.mp
      have HDm := Lib.hid hD
      have HMm := Lib.hid hM
      have c0 : wr.cell? ⟨db, 0, none⟩ = some (.map (some xi.mb)) := by rw [← HX.out, ← HDB.out, HDK.out.blk.cell]; rfl
      obtain ⟨w1, hw1⟩ : ∃ w1 : World, w1 = wr := ⟨_, rfl⟩
      subst hw1
      clear hD hM
      go_wp2_with (at_range; refine wpList_range_own _ rfl _ 118 rfl 9 139 keyed Try.underlying118 Rp xi.mb xi.mn D rfl HDm.out ?_; intro w0 hrg0 hg0 hs0)
      go_loopw [8] (fun _ wr => Re2Rel n0 w1 xi w1.heap.size D wr) (fun _ wr => wr.rangeLeft xi.mb w1.heap.size)
      case atStart =>
        have hk0 : Kp xi.O w1 w0 := (Kp.refl _ w1).grown hg0 (by simp)
        refine ⟨Maps.has D, Maps.size D, hrg0, ?_, hk0⟩
        have : turnF (fun k => Maps.has D (.string k)) xi.fs = xi.fs := by
          rw [turnF_same (l' := fun _ => true) (fun e he => by rw [HMm.out.has, HDK.out.names.find he]; rfl), turnF_all]
        rw [this]
        exact HDK.out.keep ((Kp.refl NoB w1).grown hg0 (by simp)) (fun _ _ q => q) (fun _ _ _ q => q)
      case round =>
        obtain ⟨left, cnt, hrg, hdk, hkp⟩ := hrel
        have HRG := Lib.hid hrg
        have HDT := Lib.hid hdk
        have HKT := Lib.hid hkp
        clear hdk hkp hrg0 hg0 hs0 hii hlt c0 eip
        go_wp2_with (at_next; refine wpList_next_ranges _ rfl _ rfl 9 keyed Rp Value.string Value.pointer (fun key kl hk => keyS_inv hk) (fun v y hv => by obtain ⟨p, rfl, _⟩ := Rp_inv hv; exact ⟨p, rfl⟩) xi.mb w1.heap.size xi.mn D left cnt rfl hrg ?_ ?_)
        · intro _ hl0
          have hfs := turnF_none (fs := xi.fs) (left := fun k => left (.string k)) (fun k => hl0 _)
          have HFS := Lib.hid hfs
          have hb := HDT.out.blk
          have HB := Lib.hid hb
          have d3 : wr.cell? ⟨db, 3, none⟩ = some (.int .i64 xi.steps) := by rw [← HX.out, ← HDB.out, hb.cell]; rfl
          have d1 : wr.cell? ⟨db, 1, none⟩ = some (.slice Ap pl kp) := by rw [← HX.out, ← HDB.out, hb.cell, ← HPV.out, ← HPVI.out]; rfl
          have d4 : wr.cell? ⟨db, 4, none⟩ = some (.int .i64 xi.crash) := by rw [← HX.out, ← HDB.out, hb.cell]; rfl
          have d5 : wr.cell? ⟨db, 5, none⟩ = some (.bool xi.down) := by rw [← HX.out, ← HDB.out, hb.cell]; rfl
          have d6 : wr.cell? ⟨db, 6, none⟩ = some (.int .i64 xi.starts) := by rw [← HX.out, ← HDB.out, hb.cell]; rfl
          have z1 : wr.frozen? ⟨db, 1, none⟩ = false := by rw [← HX.out, ← HDB.out]; exact hb.frozen 1
          have z3 : wr.frozen? ⟨db, 3, none⟩ = false := by rw [← HX.out, ← HDB.out]; exact hb.frozen 3
          have z4 : wr.frozen? ⟨db, 4, none⟩ = false := by rw [← HX.out, ← HDB.out]; exact hb.frozen 4
          have z5 : wr.frozen? ⟨db, 5, none⟩ = false := by rw [← HX.out, ← HDB.out]; exact hb.frozen 5
          have z6 : wr.frozen? ⟨db, 6, none⟩ = false := by rw [← HX.out, ← HDB.out]; exact hb.frozen 6
          have hws : IntKind.i64.wrap (xi.starts + 1) = wrp (xi.starts + 1) := rfl
          clear hl0 hfs hb hrg
          go_wp2_with fail
          go_ret
          have hbF := ((((HB.out.set_ 1 (.slice none 0 0)).set_ 3 (.int .i64 0)).set_ 4 (.int .i64 0)).set_ 5 (.bool false)).set_ 6 (.int .i64 (wrp (xi.starts + 1)))
          have kF := (((((Kp.refl (OnB xi.db) wr).setAt (show OnB xi.db xi.db from rfl) 1 (.slice none 0 0)).setAt (show OnB xi.db xi.db from rfl) 3 (.int .i64 0)).setAt (show OnB xi.db xi.db from rfl) 4 (.int .i64 0)).setAt (show OnB xi.db xi.db from rfl) 5 (.bool false)).setAt (show OnB xi.db xi.db from rfl) 6 (.int .i64 (wrp (xi.starts + 1)))
          have hF := HDT.out.reset kF (wrp (xi.starts + 1)) (by simpa [diskCells] using hbF)
          rw [HFS.out] at hF
          have edb : xi.db = db := HDB.out.trans HX.out
          have kT : Kp x.O w wr := HKP.out.trans HKT.out (fun b hb q => by
            rcases HO.out b q with q | q
            · exact q
            · omega)
          have kFin := kT.trans kF (S' := OnB xi.db) (fun b _ q => .inl (by rw [← HDB.out]; exact q))
          have eres : p.restart chs = { p.survive p.pd chs with seen := (p.survive p.pd chs).kept, sum := (p.survive p.pd chs).ksum, pd := [], steps := 0, crash := 0, down := false, starts := wrp (xi.starts + 1) } := by
            unfold Pl.restart
            rw [HD.out]
            have e1 := HP1.out.starts
            rw [(survive_pd p p.pd chs).2.2.1] at e1
            simp only [if_true, e1]
          refine ⟨by unfold Pl.restartE; rw [HD.out]; rfl, ?_⟩
          rw [eres, ← edb]
          refine ⟨_, hF, HP1.out.turn _, HDB.out, kFin, fun b hb => ?_⟩
          rcases hb with q | q | q | ⟨e, he, rfl⟩
          · exact HO.out b (.inl q)
          · exact HO.out b (.inr (.inl q))
          · cases q
          · obtain ⟨e', he', rfl⟩ := List.mem_map.1 he
            exact HO.out _ (.inr (.inr (.inr ⟨e', he', rfl⟩)))
        · intro x1 c kl a b w3 cnt3 hkey hlk hv hat hrg3 hlt hg3 hs3 hen
          have hM' : MpD D (turnF (fun k => left (.string k)) xi.fs) := HMm.out.same (fun k => findF_turn _ _ _)
          obtain ⟨e1, he1, rfl, rfl, B, cp, ce⟩ := next_fact HDT.out hM' (Kp.refl NoB wr) hkey hv hat
          obtain ⟨e, he, hfbe, hnme, hee⟩ := turnF_mem (left := fun k => left (.string k)) (fs := xi.fs) he1
          obtain rfl := hee hlk
          obtain ⟨u, v, hb, hu, hq⟩ := (HDT.out.fls e1 he1).blk
          obtain ⟨Au, cu, rfl⟩ := hu.form
          obtain ⟨Av, cv, rfl⟩ := hq.form
          obtain ⟨fb, hfb⟩ : ∃ fb, e1.fb = fb := ⟨_, rfl⟩
          obtain ⟨L, hL⟩ : ∃ L, e1.seen.length = L := ⟨_, rfl⟩
          obtain ⟨L2, hL2⟩ : ∃ L2, e1.kept.length = L2 := ⟨_, rfl⟩
          have hit : ∃ o, wr.heap[w1.heap.size]? = some o ∧ (∀ cs t f, o ≠ .cells cs t f) ∧ (∀ es c, o ≠ .map es c) := by
            obtain ⟨es, clock, since, seen, c0, _, _, _, _, hr, _⟩ := hrg
            exact ⟨_, hr, (fun _ _ _ q => by cases q), (fun _ _ q => by cases q)⟩
          have hnoi := HDT.out.noIter (since := 0) (seen := []) (b := none) (c0 := 0) hit
          have k3 : Kp (OnB w1.heap.size) wr w3 := (Kp.refl _ wr).grown hg3 (fun k hk => .inr (by injection hk with hk; exact hk.symm))
          have HD3 := Lib.hid (HDT.out.keep k3 hnoi.1 hnoi.2)
          have hb3 : Blk w3 e1.fb 143 #[.slice Au e1.seen.length cu, .slice Av e1.kept.length cv] := hb.keep k3 (hnoi.1 _ (.inr (.inr (.inr ⟨e1, he1, rfl⟩))))
          have hq3 : Bq w3 n0 (.slice Av e1.kept.length cv) e1.kept := hq.keep k3 (fun g cs hg => hnoi.2 g cs hg)
          have HB3 := Lib.hid hb3
          have HQ3 := Lib.hid hq3
          have HE := Lib.hid he
          have HE1 := Lib.hid he1
          have HR3 := Lib.hid hrg3
          have HLT := Lib.hid hlt
          have HK3 := Lib.hid k3
          have HLK := Lib.hid hlk
          have c5 : w3.cell? ⟨fb, 0, none⟩ = some (.slice Au L cu) := by rw [← hfb, hb3.cell, ← hL]; rfl
          have c6 : w3.cell? ⟨fb, 1, none⟩ = some (.slice Av L2 cv) := by rw [← hfb, hb3.cell, ← hL2]; rfl
          have z5 : w3.frozen? ⟨fb, 0, none⟩ = false := by rw [← hfb]; exact hb3.frozen 0
          have hfn : fb ≠ w1.heap.size := by rw [← hfb]; exact hnoi.1 _ (.inr (.inr (.inr ⟨e1, he1, rfl⟩)))
          have HFN := Lib.hid hfn
          have HFB := Lib.hid hfb
          have HL2 := Lib.hid hL2
          rw [hfb] at hen
          clear hkey hlk hv hat hrg3 hlt hg3 hs3 he he1 hfbe hnme hee hu hq hb hit hnoi k3 hb3 hq3 hM' hfn hrg ce hfb hL hL2
          go_wp2_with fail
          have kst : Kp (OnB e1.fb) w3 (w3.setCell ⟨fb, 0, none⟩ (.slice Av L2 cv)) := (Kp.refl _ w3).setAt (show OnB e1.fb fb from HFB.out.symm) 0 _
          have hbN : Blk (w3.setCell ⟨fb, 0, none⟩ (.slice Av L2 cv)) e1.fb 143 #[.slice Av L2 cv, .slice Av L2 cv] := by
            have := HB3.out.set_ 0 (.slice Av L2 cv)
            rw [← HFB.out]
            rw [HL2.out] at this
            exact this
          have hqN : Bq (w3.setCell ⟨fb, 0, none⟩ (.slice Av L2 cv)) n0 (.slice Av L2 cv) e1.kept := by
            have := HQ3.out.keep kst (fun g cs hg q => onb_cells HB3.out hg (by decide) q)
            rw [HL2.out] at this
            exact this
          have hlk9 : e1.kept.length ≤ 1048576 := (HDK.out.fls e1 HE.out).lk
          have hdN := HD3.out.refile HE1.out kst { e1 with seen := e1.kept } rfl rfl ⟨⟨_, _, hbN, hqN, hqN⟩, hlk9, hlk9⟩
          have est := turnF_step (left := fun k => left (.string k)) HDK.out.names HE.out
          refine ⟨⟨_, cnt3, HR3.out.kept (grown_of kst) ?_ ?_, ?_, ?_⟩, ?_⟩
          · intro q
            obtain ⟨u, v, hbb, _⟩ := (HDK.out.fls e1 HE.out).blk
            obtain ⟨D2, ⟨es, cl, hmb, _⟩, _⟩ := HDK.out.mp
            injection q with q
            unfold Blk at hbb
            rw [← q, hmb] at hbb
            cases hbb
          · intro q
            injection q with q
            exact HFN.out (by rw [← HFB.out, ← q])
          · simp only [est] at hdN
            exact hdN
          · refine (HKT.out.trans HK3.out (fun b hb q => absurd hb (by rw [show b = w1.heap.size from q]; omega))).trans kst (fun b _ q => .inr (.inr (.inr ⟨e1, HE.out, q⟩)))
          · rw [(HR3.out.kept (grown_of kst) ?_ ?_).left_eq, HRG.out.left_eq]
            · exact HLT.out
            · intro q
              obtain ⟨u, v, hbb, _⟩ := (HDK.out.fls e1 HE.out).blk
              obtain ⟨D2, ⟨es, cl, hmb, _⟩, _⟩ := HDK.out.mp
              injection q with q
              unfold Blk at hbb
              rw [← q, hmb] at hbb
              cases hbb
            · intro q
              injection q with q
              exact HFN.out (by rw [← HFB.out, ← q])
theorem restart_ok (w : World) (n0 : Nat) (x : Dd) (p : Pl) (A : Option Addr) (n cap : Nat) (chs : List Int) (h : Dk n0 w x) (hp : Of x p) (hc : Nums w A n chs) (hA : ∀ g o, A = some ⟨g, o, none⟩ → 0 < n → ¬ x.O g) (hch : ∀ y ∈ chs, -9223372036854775808 ≤ y ∧ y ≤ 9223372036854775807)
    (hn63 : n ≤ 9223372036854775807) (hm : p.nf + p.pd.length < 1099511627776 - 10) (hn0 : n0 ≤ w.heap.size) :
    Calls Try.prog 47 #[ptrV x.db, .slice A n cap] w (RePost n0 w x p chs) := by
  rcases hd : p.down with _ | _
  · exact restart_up w n0 x p A n cap chs h hp hd
  · exact restart_main w n0 x p A n cap chs h hp hd hc hA hch hn63 hm hn0
end Go.Proofs.Ytegcbdfilkecpaa
