/- The stand-in disk: Restart; no condition but on the counts. -/
import Derived.Test.YtdgjglocgdccbaaDkRest
namespace Go.Proofs.Ytdgjglocgdccbaa
open Go.RowKit

attribute [local go_sem ↓] loadCg storeCg allocCg
def RePost (n0 : Nat) (w : World) (x : Dd) (p : Pl) (chs : List Int) (e : Ending) (w' : World) : Prop := e = .returned (.int .i64 p.restartE) ∧ To n0 w x (p.restart chs) w'
/-- the first loop -/
def ReRel (n0 : Nat) (w : World) (x : Dd) (p : Pl) (chs : List Int) (v : Value) (wr : World) : Prop :=
  ∃ (i : Nat) (xi : Dd), v = .int .i64 (i : Int) ∧ i ≤ p.pd.length ∧ Dk n0 wr xi ∧ Of xi (p.survive (p.pd.take i) (chs.take i)) ∧ xi.pv = x.pv ∧ xi.db = x.db ∧ xi.mb = x.mb ∧ Kp x.O w wr ∧ ∀ b, xi.O b → x.O b ∨ w.heap.size ≤ b
/-- the second loop -/
def Re2Rel (n0 : Nat) (w : World) (x : Dd) (r : Nat) (D : DataW Value) (wr : World) : Prop :=
  ∃ (left : Lit → Bool) (cnt : Nat), wr.ranges Try.prog 9 Rp x.mb r x.mn D left cnt ∧ Dk n0 wr { x with fs := turnF (fun k => left (.string k)) x.fs } ∧ Kp x.O w wr
theorem grown_of {w w' : World} {g : Nat} (k : Kp (OnB g) w w') : w.grownBy w' (some g) := ⟨k.os, k.tape, k.output, k.size, fun i hi hne => k.block i hi (fun q => hne (by rw [show i = g from q]))⟩
theorem Of.turn {x : Dd} {q : Pl} (h : Of x q) (s : Int) : Of { x with fs := x.fs.map fun e => { e with seen := e.kept }, pv := .slice none 0 0, pd := [], steps := 0, crash := 0, down := false, starts := s } { q with seen := q.kept, sum := q.ksum, pd := [], steps := 0, crash := 0, down := false, starts := s } :=
  { seen := by rw [(seenOf_kept x.fs).1]; exact h.kept
    kept := by rw [(seenOf_kept x.fs).2.1]; exact h.kept
    sum := by rw [(seenOf_kept x.fs).2.2.1]; exact h.ksum
    ksum := by rw [(seenOf_kept x.fs).2.2.2]; exact h.ksum
    nf := h.nf
    pd := rfl
    room := h.room
    steps := rfl
    crash := rfl
    down := rfl
    starts := rfl }
theorem turnF_mem {left : List UInt8 → Bool} {fs : List Fe} {e : Fe} (h : e ∈ turnF left fs) : ∃ e' ∈ fs, e'.fb = e.fb ∧ e'.nm = e.nm ∧ (left (kOf e.nm) = true → e = e') := by
  unfold turnF at h
  obtain ⟨e', he, rfl⟩ := List.mem_map.1 h
  by_cases hl : left (kOf e'.nm) = true
  · refine ⟨e', he, ?_⟩
    simp [hl]
  · refine ⟨e', he, ?_⟩
    simp [hl]
theorem findF_turn (left : List UInt8 → Bool) (fs : List Fe) (k : List UInt8) : (findF (turnF left fs) k).map (·.fb) = (findF fs k).map (·.fb) := by
  induction fs with
  | nil => rfl
  | cons y r ih =>
    unfold findF turnF at *
    rw [List.map_cons]
    have hnm : kOf (if left (kOf y.nm) then y else { y with seen := y.kept }).nm = kOf y.nm := by split <;> rfl
    have hfb : (if left (kOf y.nm) then y else { y with seen := y.kept }).fb = y.fb := by split <;> rfl
    rw [List.find?_cons, List.find?_cons, hnm]
    by_cases h : kOf y.nm = k
    · subst h
      simp only [beq_self_eq_true, Option.map_some]
      rw [hfb]
    · have : (kOf y.nm == k) = false := by simpa using h
      simp only [this]
      exact ih
theorem Dk.noIter {n0 : Nat} {w : World} {x : Dd} (h : Dk n0 w x) {r : Nat} {since : Nat} {seen : List Nat} {b : Option Nat} {c0 : Nat} (hr : ∃ o, w.heap[r]? = some o ∧ (∀ cs t f, o ≠ .cells cs t f) ∧ (∀ es c, o ≠ .map es c)) : (∀ b, x.O b → b ≠ r) ∧ ∀ g cs, w.heap[g]? = some (.cells cs 5 (0, 0)) → g ≠ r := by
  obtain ⟨o, hro, hnc, hnm⟩ := hr
  have cc : ∀ g cs t f, w.heap[g]? = some (.cells cs t f) → g ≠ r := by
    rintro g cs t f hg rfl
    rw [hro] at hg
    exact hnc _ _ _ (Option.some.inj hg)
  refine ⟨?_, fun g cs hg => cc g cs _ _ hg⟩
  rintro b (rfl | rfl | hb | ⟨e, he, rfl⟩)
  · exact cc _ _ _ _ h.blk
  · obtain ⟨D, ⟨es, cl, hb, _⟩, _⟩ := h.mp
    rintro rfl
    rw [hro] at hb
    exact hnm _ _ (Option.some.inj hb)
  · obtain ⟨cs', hc⟩ := own_type h.pend hb
    exact cc _ _ _ _ hc
  · obtain ⟨u, v, hb, _⟩ := (h.fls e he).blk
    exact cc _ _ _ _ hb
set_option maxRecDepth 100000 in
theorem restart_up (w : World) (n0 : Nat) (x : Dd) (p : Pl) (A : Option Addr) (n cap : Nat) (chs : List Int) (h : Dk n0 w x) (hp : Of x p) (hd : p.down = false) :
    Calls Try.prog 16 #[ptrV x.db, .slice A n cap] w (RePost n0 w x p chs) := by
  have H := Lib.hid h
  have HP := Lib.hid hp
  have HD := Lib.hid hd
  obtain ⟨db, hdb⟩ : ∃ db, x.db = db := ⟨_, rfl⟩
  have HX := Lib.hid hdb
  have c : w.cell? ⟨x.db, 5, none⟩ = some (.bool false) := by rw [h.blk.cell, ← hd, hp.down]; rfl
  rw [hdb] at c ⊢
  clear h hp hdb hd
  unfold ptrV
  go_enter Try.func16, Try.ntmps16
  go_wp2_with (go_at_call 29; go_must (refine (show Calls _ _ #[ptrV db] _ _ by rw [← HX.out]; exact is_ok _ _ _ H.out).mono ?_); rintro e w2 ⟨rfl, rfl⟩)
  go_ret
  exact ⟨by unfold Pl.restartE; rw [HD.out]; rfl, by unfold Pl.restart; rw [HD.out]; exact To.refl H.out HP.out⟩
set_option maxRecDepth 100000 in
set_option maxHeartbeats 1600000 in
theorem restart_main (w : World) (n0 : Nat) (x : Dd) (p : Pl) (A : Option Addr) (n cap : Nat) (chs : List Int) (h : Dk n0 w x) (hp : Of x p) (hd : p.down = true) (hc : Nums w A n chs) (hA : ∀ g o, A = some ⟨g, o, none⟩ → 0 < n → ¬ x.O g) (hch : ∀ y ∈ chs, -9223372036854775808 ≤ y ∧ y ≤ 9223372036854775807)
    (hn63 : n ≤ 9223372036854775807) (hm : p.nf + p.pd.length < 1099511627776 - 10) (hn0 : n0 ≤ w.heap.size) :
    Calls Try.prog 16 #[ptrV x.db, .slice A n cap] w (RePost n0 w x p chs) := by
  have H := Lib.hid h
  have HP := Lib.hid hp
  have HD := Lib.hid hd
  have HC := Lib.hid hc
  have HA := Lib.hid hA
  have HCH := Lib.hid hch
  have HM := Lib.hid hm
  have HN0 := Lib.hid hn0
  obtain ⟨db, hdb⟩ : ∃ db, x.db = db := ⟨_, rfl⟩
  have HX := Lib.hid hdb
  have c5 : w.cell? ⟨x.db, 5, none⟩ = some (.bool true) := by rw [h.blk.cell, ← hd, hp.down]; rfl
  obtain ⟨pl, hpl⟩ : ∃ pl, p.pd.length = pl := ⟨_, rfl⟩
  have HPL := Lib.hid hpl
  obtain ⟨Ap, kp, hpv⟩ := own_slice h.pend
  rw [← hp.pd, hpl] at hpv
  have HPV := Lib.hid hpv
  have c1 : w.cell? ⟨x.db, 1, none⟩ = some (.slice Ap pl kp) := by rw [h.blk.cell, ← hpv]; rfl
  have hplb : pl < 1099511627776 := by omega
  have HOK : Hid (∀ c ∈ p.pd, CgOk c) := Lib.hid (by rw [hp.pd]; exact h.s64)
  rw [hdb] at c5 c1 ⊢
  clear h hp hd hc hA hch hm hn0 hdb hpl hpv
  unfold ptrV
  go_enter Try.func16, Try.ntmps16
  go_wp2_with (go_at_call 29; go_must (refine (show Calls _ _ #[ptrV db] _ _ by rw [← HX.out]; exact is_ok _ _ _ H.out).mono ?_); rintro e w2 ⟨rfl, rfl⟩)
  go_loopw [24] (fun v wr => ReRel n0 w x p chs v wr) (fun v _ => pl - (intOf v).toNat)
  case atStart => exact ⟨0, x, rfl, Nat.zero_le _, H.out, by simpa [Pl.survive] using HP.out, rfl, rfl, rfl, Kp.refl _ _, fun b hb => .inl hb⟩
  case round =>
    obtain ⟨i, xi, rfl, hi, hdk, hof, hpv, hdb, hmb, hkp, ho⟩ := hrel
    have HI := Lib.hid hi
    have HDK := Lib.hid hdk
    have HOF := Lib.hid hof
    have HPVI := Lib.hid hpv
    have HDB := Lib.hid hdb
    have HMB := Lib.hid hmb
    have HKP := Lib.hid hkp
    have HO := Lib.hid ho
    clear hi hdk hof hpv hdb hmb hkp ho c1 c5
    by_cases hlt : i < pl
    · have hpdi : xi.pd = p.pd := by rw [← HOF.out.pd]; exact (survive_pd p _ _).1
      have hrow : wr.ownsRow n0 79 67 (.slice Ap pl kp) pl (cgCells p.pd) := by
        have := HDK.out.pend
        rw [hpdi, HPVI.out, HPV.out, HPL.out] at this
        exact this
      obtain ⟨g, ds, rfl, hg, hb⟩ := own_blkN hrow (by omega)
      obtain ⟨t0, r0⟩ := cg_at hb HOK.out i (by have := HPL.out; omega)
      obtain ⟨c, hc, hcm⟩ := cg_eta p.pd i (by have := HPL.out; omega)
      rw [hc] at r0
      have HC' : Hid (p.pd[i]? = some c) := Lib.hid (by rw [List.getElem?_eq_getElem (by have := HPL.out; omega), hc])
      have hck := HOK.out c hcm
      have HCK := Lib.hid hck
      have hii : (i : Int) < (pl : Int) := by omega
      have hzb : Blk (wr.alloc (.cells (cgA ⟨#[]⟩ 0 0 (zeros 64)) 79)) wr.heap.size 79 (cgA ⟨#[]⟩ 0 0 (zeros 64)) := Blk.new _ _ _
      have t1 := hzb.thereAll 67 (by rw [cgA_size]; rfl)
      have on1 : ones (cgA c.nm c.sec c.n (pad64 c.s)) := cgA_ones _ _ _ _
      have sz1 : (cgA c.nm c.sec c.n (pad64 c.s)).size = 67 := by rw [cgA_size, hck.pad]
      clear hpdi hrow hb hc hcm hck hzb
      by_cases hin : i < n
      · have hin2 : (i : Int) < (n : Int) := by omega
        obtain ⟨gc, oc, rfl, hgc, hcc⟩ := HC.out.2 (by omega)
        have hci := hcc i hin
        obtain ⟨ch, hche⟩ : ∃ ch, chs.getD i 0 = ch := ⟨_, rfl⟩
        rw [hche] at hci
        have HCHE : Hid (chs[i]? = some ch) := Lib.hid (by
          have := HC.out.1
          rw [List.getElem?_eq_getElem (by omega), ← hche, List.getD_eq_getElem?_getD, List.getElem?_eq_getElem (by omega)]
          rfl)
        have HCR : Hid (-9223372036854775808 ≤ ch ∧ ch ≤ 9223372036854775807) := Lib.hid (HCH.out ch (List.mem_of_getElem? HCHE.out))
        have HGC := Lib.hid hgc
        have HIN := Lib.hid hin
        have HCI := Lib.hid hci
        clear hgc hcc hci hche
        go_upto_region 9 with fail
        obtain ⟨g8, hg8⟩ : ∃ g8, wr.heap.size = g8 := ⟨_, rfl⟩
        have HG8 := Lib.hid hg8
        have hb8 : Blk ((wr.alloc (.cells (cgA ⟨#[]⟩ 0 0 (zeros 64)) 79)).setCells wr.heap.size 0 (cgA c.nm c.sec c.n (pad64 c.s)).toList) wr.heap.size 79 (cgA c.nm c.sec c.n (pad64 c.s)) := (Blk.new wr 79 _).whole _ (by rw [cgA_size, cgA_size, HCK.out.pad]; rfl)
        have hk8 : Kp NoB wr ((wr.alloc (.cells (cgA ⟨#[]⟩ 0 0 (zeros 64)) 79)).setCells wr.heap.size 0 (cgA c.nm c.sec c.n (pad64 c.s)).toList) := Kp.setCells (.inl (Nat.le_refl _)) _ _ _ ((Kp.refl NoB wr).alloc _)
        rw [hg8] at hb8 hk8 ⊢
        generalize (wr.alloc (.cells (cgA ⟨#[]⟩ 0 0 (zeros 64)) 79)).setCells g8 0 (cgA c.nm c.sec c.n (pad64 c.s)).toList = w8 at hb8 hk8 ⊢
        have HB8 := Lib.hid hb8
        have HK8 := Lib.hid hk8
        have HD8 := Lib.hid (HDK.out.keep hk8 (fun _ _ q => q) (fun _ _ _ q => q))
        have hk08 : Kp x.O w w8 := HKP.out.trans hk8 (fun _ _ q => q.elim)
        have HK08 := Lib.hid hk08
        have s0 : w8.cell? ⟨g8, 0, none⟩ = some (.string c.nm) := by rw [hb8.cell]; rfl
        have s1 := hb8.thereAll 67 (by rw [cgA_size, HCK.out.pad])
        have s2 := hb8.readAll 67 (by rw [cgA_size, HCK.out.pad])
        have s3 : w8.cell? ⟨gc, oc + i, none⟩ = some (.int .i64 ch) := by rw [hk08.cell HGC.out (HA.out gc oc rfl (Nat.zero_lt_of_lt HIN.out))]; exact HCI.out
        clear hg8 hb8 hk8 hk08 t0 r0 t1 on1 sz1
        go_region_held3 (fun w' => w'.cell? ⟨g8, 0, none⟩ = some (.string c.nm) ∧ w'.there g8 0 67 ∧ readRow w' g8 0 67 = cgA c.nm c.sec c.n (pad64 c.s) ∧ w'.cell? ⟨gc, oc + i, none⟩ = some (.int .i64 ch))
          (first | exact ⟨s0, s1, s2, s3⟩ | exact ⟨v0, v1, v2, v3⟩ | exact ⟨y0, y1, y2, y3⟩ | go_keep)
          (first
            | (go_at_call 35; go_must (refine (show Calls _ _ #[ptrV db, .string c.nm] _ _ by rw [← HX.out, ← HDB.out]; exact at_ok _ n0 xi c.nm HCK.out.nl (by have := HOF.out.nf; have := (survive_pd p (p.pd.take i) (chs.take i)).2.1; have := HM.out; have := HPL.out; simp only [List.length_take] at *; omega) (by exact Nat.le_trans HN0.out HK08.out.size) (HD8.out.keep ((Kp.refl NoB w8).drew) (fun _ _ q => q) (fun _ _ _ q => q))).mono ?_); rintro e w9 ⟨e0, m2, rfl, hd9, hm9, hnm9, hsn9, hkp9, hk9, hfb9⟩; have HD9 := Lib.hid hd9; have hk9' := (Kp.refl (OnB xi.mb) w8).drew.trans hk9 (fun _ _ q => q); have HK9 := Lib.hid hk9'; have HF0 := Lib.hid (findF_some (show findF (putF xi.fs e0) (kOf e0.nm) = some e0 by rw [putF_find, if_pos rfl])).1; have HO9 := Lib.hid (O_at (m := m2) HD8.out hk9' hfb9); have HQ9 := Lib.hid (HOF.out.at_ e0 m2 hm9 (by rw [hsn9, hnm9]) (by rw [hkp9, hnm9])); have HE9 := Lib.hid (show e0.nm = c.nm ∧ e0.kept = keptOf xi.fs c.nm from ⟨hnm9, hkp9⟩); have n8 : ¬ OnB xi.mb g8 := (fun q => by have h1 := H.out.lt x.mb (.inr (.inl rfl)); have h2 := HKP.out.size; have h3 : g8 = xi.mb := q; have h4 := HMB.out; have h5 := HG8.out; omega); have nc : ¬ OnB xi.mb gc := (fun q => HA.out gc oc rfl (Nat.zero_lt_of_lt HIN.out) (.inr (.inl (by rw [← HMB.out]; exact q)))); have v0 := (hk9'.cell HB8.out.lt n8).trans s0; have v1 := there_congr (hk9'.block g8 HB8.out.lt n8) s1; have v2 := (readRow_congr (hk9'.block g8 HB8.out.lt n8)).trans s2; have v3 := (hk9'.cell (Nat.lt_of_lt_of_le HGC.out HK08.out.size) nc).trans s3; clear hd9 hm9 hnm9 hsn9 hkp9 hk9 hfb9 hk9' n8 nc)
            | (go_at_call 40; go_must (refine (survive_ok w9 n0 _ e0 c ch HCR.out HD9.out HF0.out HCK.out (Nat.le_trans HN0.out (Nat.le_trans HK08.out.size HK9.out.size))).mono ?_); rintro r w10 ⟨rfl, hd10, hk10⟩; have HD10 := Lib.hid hd10; have HK10 := Lib.hid hk10; have hO9 := HO9.out.2 e0.fb (.inr (.inr (.inr ⟨e0, HF0.out, rfl⟩))); have n8' : ¬ OnB e0.fb g8 := (fun q => by have h3 : g8 = e0.fb := q; have h5 := HG8.out; have h6 := HB8.out.lt; exact hO9.elim (fun q2 => by have h7 := HDK.out.lt _ q2; omega) (fun q2 => by omega)); have nc' : ¬ OnB e0.fb gc := (fun q => by have h3 : gc = e0.fb := q; have h6 := HGC.out; have h7 := HK08.out.size; exact hO9.elim (fun q2 => (HO.out _ q2).elim (fun q3 => HA.out gc oc rfl (Nat.zero_lt_of_lt HIN.out) (by rw [h3]; exact q3)) (fun q3 => by omega)) (fun q2 => by omega)); have g8l := Nat.lt_of_lt_of_le HB8.out.lt HK9.out.size; have y0 := (hk10.cell g8l n8').trans v0; have y1 := there_congr (hk10.block g8 g8l n8') v1; have y2 := (readRow_congr (hk10.block g8 g8l n8')).trans v2; have y3 := (hk10.cell (Nat.lt_of_lt_of_le HGC.out (Nat.le_trans HK08.out.size HK9.out.size)) nc').trans v3; clear hd10 hk10 hO9 n8' nc' g8l))
        go_wp2_with fail
        have hkf : Kp x.O w w10 := (HK08.out.trans (HO9.out.1.trans HK10.out (fun b hb q => by
            rcases HO9.out.2 b (.inr (.inr (.inr ⟨e0, HF0.out, q⟩))) with q | q
            · exact q
            · omega)) (fun b hb q => by
          rcases HO.out b q with q | q
          · exact q
          · omega))
        refine ⟨⟨i + 1, { xi with fs := putF (putF xi.fs e0) { e0 with kept := Pl.made e0.kept c ch }, mn := m2 }, by go_num, by have := HPL.out; omega, HD10.out, ?_, HPVI.out, HDB.out, HMB.out, hkf, ?_⟩, by simp [intOf]; omega⟩
        · rw [(survive_next p p.pd chs i c HC'.out).1 ch HCHE.out]
          have := HQ9.out.setKept { e0 with kept := Pl.made e0.kept c ch } (by simp only [seenOf_put, upd_same])
          have e1 := HE9.out.1
          have e2 := HE9.out.2
          rw [HOF.out.kept_eq] at e2
          simp only [e1, e2] at this ⊢
          exact this
        · intro b hb
          have h1 := O_put (x := { xi with fs := putF xi.fs e0, mn := m2 }) (e := { e0 with kept := Pl.made e0.kept c ch }) ⟨e0, HF0.out, rfl⟩ b hb
          rcases HO9.out.2 b h1 with q | q
          · exact HO.out b q
          · exact .inr (Nat.le_trans HK08.out.size q)
      · have hin2 : ¬ (i : Int) < (n : Int) := by omega
        have kz : Kp NoB wr ((wr.alloc (.cells (cgA ⟨#[]⟩ 0 0 (zeros 64)) 79)).setCells wr.heap.size 0 (cgA c.nm c.sec c.n (pad64 c.s)).toList) := Kp.setCells (.inl (Nat.le_refl _)) _ _ _ ((Kp.refl NoB wr).alloc _)
        have KZ := Lib.hid kz
        clear kz
        go_wp2_with fail
        have kz := KZ.out
        refine ⟨⟨i + 1, xi, by go_num, by have := HPL.out; omega, ?_, ?_, HPVI.out, HDB.out, HMB.out, ?_, HO.out⟩, by simp [intOf]; omega⟩
        · exact HDK.out.keep kz (fun _ _ q => q) (fun _ _ _ q => q)
        · rw [(survive_next p p.pd chs i c HC'.out).2 (by have := HC.out.1; omega)]; exact HOF.out
        · exact HKP.out.trans kz (fun _ _ q => q.elim)
    · have hii : ¬ (i : Int) < (pl : Int) := by omega
      have eip : i = pl := by have := HI.out; have := HPL.out; omega
      have HP1 : Hid (Of xi (p.survive p.pd chs)) := Lib.hid (by
        have := HOF.out
        rw [eip, ← HPL.out, List.take_length, survive_take] at this
        exact this)
      obtain ⟨D, hD, hM⟩ := HDK.out.mp
      have HDm := Lib.hid hD
      have HMm := Lib.hid hM
      have c0 : wr.cell? ⟨db, 0, none⟩ = some (.map (some xi.mb)) := by rw [← HX.out, ← HDB.out, HDK.out.blk.cell]; rfl
      obtain ⟨w1, hw1⟩ : ∃ w1 : World, w1 = wr := ⟨_, rfl⟩
      subst hw1
      clear hD hM
      go_wp2_with (at_range; refine wpList_range_own _ rfl _ 61 rfl 9 69 keyed Try.underlying61 Rp xi.mb xi.mn D rfl HDm.out ?_; intro w0 hrg0 hg0 hs0)
      go_loopw [8] (fun _ wr => Re2Rel n0 w1 xi w1.heap.size D wr) (fun _ wr => wr.rangeLeft xi.mb w1.heap.size)
      case atStart =>
        have hk0 : Kp xi.O w1 w0 := (Kp.refl _ w1).grown hg0 (by simp)
        refine ⟨Maps.has D, Maps.size D, hrg0, ?_, hk0⟩
        have : turnF (fun k => Maps.has D (.string k)) xi.fs = xi.fs := by
          rw [turnF_same (l' := fun _ => true) (fun e he => by rw [HMm.out.has, HDK.out.names.find he]; rfl), turnF_all]
        rw [this]
        exact HDK.out.keep ((Kp.refl NoB w1).grown hg0 (by simp)) (fun _ _ q => q) (fun _ _ _ q => q)
      case round =>
        obtain ⟨left, cnt, hrg, hdk, hkp⟩ := hrel
        have HRG := Lib.hid hrg
        have HDT := Lib.hid hdk
        have HKT := Lib.hid hkp
        clear hdk hkp hrg0 hg0 hs0 hii hlt c0 eip
        go_wp2_with (at_next; refine wpList_next_ranges _ rfl _ rfl 9 keyed Rp Value.string Value.pointer (fun key kl hk => keyS_inv hk) (fun v y hv => by obtain ⟨p, rfl, _⟩ := Rp_inv hv; exact ⟨p, rfl⟩) xi.mb w1.heap.size xi.mn D left cnt rfl hrg ?_ ?_)
        · intro _ hl0
          have hfs := turnF_none (fs := xi.fs) (left := fun k => left (.string k)) (fun k => hl0 _)
          have HFS := Lib.hid hfs
          have hb := HDT.out.blk
          have HB := Lib.hid hb
          have d3 : wr.cell? ⟨db, 3, none⟩ = some (.int .i64 xi.steps) := by rw [← HX.out, ← HDB.out, hb.cell]; rfl
          have d1 : wr.cell? ⟨db, 1, none⟩ = some (.slice Ap pl kp) := by rw [← HX.out, ← HDB.out, hb.cell, ← HPV.out, ← HPVI.out]; rfl
          have d4 : wr.cell? ⟨db, 4, none⟩ = some (.int .i64 xi.crash) := by rw [← HX.out, ← HDB.out, hb.cell]; rfl
          have d5 : wr.cell? ⟨db, 5, none⟩ = some (.bool xi.down) := by rw [← HX.out, ← HDB.out, hb.cell]; rfl
          have d6 : wr.cell? ⟨db, 6, none⟩ = some (.int .i64 xi.starts) := by rw [← HX.out, ← HDB.out, hb.cell]; rfl
          have z1 : wr.frozen? ⟨db, 1, none⟩ = false := by rw [← HX.out, ← HDB.out]; exact hb.frozen 1
          have z3 : wr.frozen? ⟨db, 3, none⟩ = false := by rw [← HX.out, ← HDB.out]; exact hb.frozen 3
          have z4 : wr.frozen? ⟨db, 4, none⟩ = false := by rw [← HX.out, ← HDB.out]; exact hb.frozen 4
          have z5 : wr.frozen? ⟨db, 5, none⟩ = false := by rw [← HX.out, ← HDB.out]; exact hb.frozen 5
          have z6 : wr.frozen? ⟨db, 6, none⟩ = false := by rw [← HX.out, ← HDB.out]; exact hb.frozen 6
          have hws : IntKind.i64.wrap (xi.starts + 1) = wrp (xi.starts + 1) := rfl
          clear hl0 hfs hb hrg
          go_wp2_with fail
          go_ret
          have hbF := ((((HB.out.set_ 1 (.slice none 0 0)).set_ 3 (.int .i64 0)).set_ 4 (.int .i64 0)).set_ 5 (.bool false)).set_ 6 (.int .i64 (wrp (xi.starts + 1)))
          have kF := (((((Kp.refl (OnB xi.db) wr).setAt (show OnB xi.db xi.db from rfl) 1 (.slice none 0 0)).setAt (show OnB xi.db xi.db from rfl) 3 (.int .i64 0)).setAt (show OnB xi.db xi.db from rfl) 4 (.int .i64 0)).setAt (show OnB xi.db xi.db from rfl) 5 (.bool false)).setAt (show OnB xi.db xi.db from rfl) 6 (.int .i64 (wrp (xi.starts + 1)))
          have hF := HDT.out.reset kF (wrp (xi.starts + 1)) (by simpa [diskCells] using hbF)
          rw [HFS.out] at hF
          have edb : xi.db = db := HDB.out.trans HX.out
          have kT : Kp x.O w wr := HKP.out.trans HKT.out (fun b hb q => by
            rcases HO.out b q with q | q
            · exact q
            · omega)
          have kFin := kT.trans kF (S' := OnB xi.db) (fun b _ q => .inl (by rw [← HDB.out]; exact q))
          have eres : p.restart chs = { p.survive p.pd chs with seen := (p.survive p.pd chs).kept, sum := (p.survive p.pd chs).ksum, pd := [], steps := 0, crash := 0, down := false, starts := wrp (xi.starts + 1) } := by
            unfold Pl.restart
            rw [HD.out]
            have e1 := HP1.out.starts
            rw [(survive_pd p p.pd chs).2.2.1] at e1
            simp only [if_true, e1]
          refine ⟨by unfold Pl.restartE; rw [HD.out]; rfl, ?_⟩
          rw [eres, ← edb]
          refine ⟨_, hF, HP1.out.turn _, HDB.out, kFin, fun b hb => ?_⟩
          rcases hb with q | q | q | ⟨e, he, rfl⟩
          · exact HO.out b (.inl q)
          · exact HO.out b (.inr (.inl q))
          · cases q
          · obtain ⟨e', he', rfl⟩ := List.mem_map.1 he
            exact HO.out _ (.inr (.inr (.inr ⟨e', he', rfl⟩)))
        · intro x1 c kl a b w3 cnt3 hkey hlk hv hat hrg3 hlt hg3 hs3 hen
          have hM' : MpD D (turnF (fun k => left (.string k)) xi.fs) := HMm.out.same (fun k => findF_turn _ _ _)
          obtain ⟨e1, he1, rfl, rfl, B, cp, ce⟩ := next_fact HDT.out hM' (Kp.refl NoB wr) hkey hv hat
          obtain ⟨e, he, hfbe, hnme, hee⟩ := turnF_mem (left := fun k => left (.string k)) (fs := xi.fs) he1
          obtain rfl := hee hlk
          obtain ⟨u, v, hb, hu, hq⟩ := (HDT.out.fls e1 he1).blk
          obtain ⟨Au, cu, rfl⟩ := hu.form
          obtain ⟨Av, cv, rfl⟩ := hq.form
          obtain ⟨fb, hfb⟩ : ∃ fb, e1.fb = fb := ⟨_, rfl⟩
          obtain ⟨L, hL⟩ : ∃ L, e1.seen.length = L := ⟨_, rfl⟩
          obtain ⟨L2, hL2⟩ : ∃ L2, e1.kept.length = L2 := ⟨_, rfl⟩
          have hit : ∃ o, wr.heap[w1.heap.size]? = some o ∧ (∀ cs t f, o ≠ .cells cs t f) ∧ (∀ es c, o ≠ .map es c) := by
            obtain ⟨es, clock, since, seen, c0, _, _, _, _, hr, _⟩ := hrg
            exact ⟨_, hr, (fun _ _ _ q => by cases q), (fun _ _ q => by cases q)⟩
          have hnoi := HDT.out.noIter (since := 0) (seen := []) (b := none) (c0 := 0) hit
          have k3 : Kp (OnB w1.heap.size) wr w3 := (Kp.refl _ wr).grown hg3 (fun k hk => .inr (by injection hk with hk; exact hk.symm))
          have HD3 := Lib.hid (HDT.out.keep k3 hnoi.1 hnoi.2)
          have hb3 : Blk w3 e1.fb 75 #[.slice Au e1.seen.length cu, .slice Av e1.kept.length cv] := hb.keep k3 (hnoi.1 _ (.inr (.inr (.inr ⟨e1, he1, rfl⟩))))
          have hq3 : Bq w3 n0 (.slice Av e1.kept.length cv) e1.kept := hq.keep k3 (fun g cs hg => hnoi.2 g cs hg)
          have HB3 := Lib.hid hb3
          have HQ3 := Lib.hid hq3
          have HE := Lib.hid he
          have HE1 := Lib.hid he1
          have HR3 := Lib.hid hrg3
          have HLT := Lib.hid hlt
          have HK3 := Lib.hid k3
          have HLK := Lib.hid hlk
          have c5 : w3.cell? ⟨fb, 0, none⟩ = some (.slice Au L cu) := by rw [← hfb, hb3.cell, ← hL]; rfl
          have c6 : w3.cell? ⟨fb, 1, none⟩ = some (.slice Av L2 cv) := by rw [← hfb, hb3.cell, ← hL2]; rfl
          have z5 : w3.frozen? ⟨fb, 0, none⟩ = false := by rw [← hfb]; exact hb3.frozen 0
          have hfn : fb ≠ w1.heap.size := by rw [← hfb]; exact hnoi.1 _ (.inr (.inr (.inr ⟨e1, he1, rfl⟩)))
          have HFN := Lib.hid hfn
          have HFB := Lib.hid hfb
          have HL2 := Lib.hid hL2
          rw [hfb] at hen
          clear hkey hlk hv hat hrg3 hlt hg3 hs3 he he1 hfbe hnme hee hu hq hb hit hnoi k3 hb3 hq3 hM' hfn hrg ce hfb hL hL2
          go_wp2_with fail
          have kst : Kp (OnB e1.fb) w3 (w3.setCell ⟨fb, 0, none⟩ (.slice Av L2 cv)) := (Kp.refl _ w3).setAt (show OnB e1.fb fb from HFB.out.symm) 0 _
          have hbN : Blk (w3.setCell ⟨fb, 0, none⟩ (.slice Av L2 cv)) e1.fb 75 #[.slice Av L2 cv, .slice Av L2 cv] := by
            have := HB3.out.set_ 0 (.slice Av L2 cv)
            rw [← HFB.out]
            rw [HL2.out] at this
            exact this
          have hqN : Bq (w3.setCell ⟨fb, 0, none⟩ (.slice Av L2 cv)) n0 (.slice Av L2 cv) e1.kept := by
            have := HQ3.out.keep kst (fun g cs hg q => onb_cells HB3.out hg (by decide) q)
            rw [HL2.out] at this
            exact this
          have hlk9 : e1.kept.length ≤ 1048576 := (HDK.out.fls e1 HE.out).lk
          have hdN := HD3.out.refile HE1.out kst { e1 with seen := e1.kept } rfl rfl ⟨⟨_, _, hbN, hqN, hqN⟩, hlk9, hlk9⟩
          have est := turnF_step (left := fun k => left (.string k)) HDK.out.names HE.out
          refine ⟨⟨_, cnt3, HR3.out.kept (grown_of kst) ?_ ?_, ?_, ?_⟩, ?_⟩
          · intro q
            obtain ⟨u, v, hbb, _⟩ := (HDK.out.fls e1 HE.out).blk
            obtain ⟨D2, ⟨es, cl, hmb, _⟩, _⟩ := HDK.out.mp
            injection q with q
            unfold Blk at hbb
            rw [← q, hmb] at hbb
            cases hbb
          · intro q
            injection q with q
            exact HFN.out (by rw [← HFB.out, ← q])
          · simp only [est] at hdN
            exact hdN
          · refine (HKT.out.trans HK3.out (fun b hb q => absurd hb (by rw [show b = w1.heap.size from q]; omega))).trans kst (fun b _ q => .inr (.inr (.inr ⟨e1, HE.out, q⟩)))
          · rw [(HR3.out.kept (grown_of kst) ?_ ?_).left_eq, HRG.out.left_eq]
            · exact HLT.out
            · intro q
              obtain ⟨u, v, hbb, _⟩ := (HDK.out.fls e1 HE.out).blk
              obtain ⟨D2, ⟨es, cl, hmb, _⟩, _⟩ := HDK.out.mp
              injection q with q
              unfold Blk at hbb
              rw [← q, hmb] at hbb
              cases hbb
            · intro q
              injection q with q
              exact HFN.out (by rw [← HFB.out, ← q])
theorem restart_ok (w : World) (n0 : Nat) (x : Dd) (p : Pl) (A : Option Addr) (n cap : Nat) (chs : List Int) (h : Dk n0 w x) (hp : Of x p) (hc : Nums w A n chs) (hA : ∀ g o, A = some ⟨g, o, none⟩ → 0 < n → ¬ x.O g) (hch : ∀ y ∈ chs, -9223372036854775808 ≤ y ∧ y ≤ 9223372036854775807)
    (hn63 : n ≤ 9223372036854775807) (hm : p.nf + p.pd.length < 1099511627776 - 10) (hn0 : n0 ≤ w.heap.size) :
    Calls Try.prog 16 #[ptrV x.db, .slice A n cap] w (RePost n0 w x p chs) := by
  rcases hd : p.down with _ | _
  · exact restart_up w n0 x p A n cap chs h hp hd
  · exact restart_main w n0 x p A n cap chs h hp hd hc hA hch hn63 hm hn0
end Go.Proofs.Ytdgjglocgdccbaa
