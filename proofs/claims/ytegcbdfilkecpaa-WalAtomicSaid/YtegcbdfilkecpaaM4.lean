/- Texts of this proof, one behind the other: lemmas and contracts; each says its own conditions. -/
import Derived.Test.YtegcbdfilkecpaaM1
import Derived.Test.YtegcbdfilkecpaaM3
/- The stand-in disk: Restart; no condition but on the counts. -/
namespace Go.Proofs.Ytegcbdfilkecpaa
open Go.RowKit

attribute [local go_sem ↓] loadCg storeCg allocCg
def RePost (n0 : Nat) (w : World) (x : Dd) (p : Pl) (chs : List Int) (e : Ending) (w' : World) : Prop := e = .returned (.int .i64 p.restartE) ∧ To n0 w x (p.restart chs) w'
/-- the first loop -/
def ReRel (n0 : Nat) (w : World) (x : Dd) (p : Pl) (chs : List Int) (v : Value) (wr : World) : Prop :=
  ∃ (i : Nat) (xi : Dd), v = .int .i64 (i : Int) ∧ i ≤ p.pd.length ∧ Dk n0 wr xi ∧ Of xi (p.survive (p.pd.take i) (chs.take i)) ∧ xi.pv = x.pv ∧ xi.db = x.db ∧ xi.mb = x.mb ∧ Kp x.O w wr ∧ ∀ b, xi.O b → x.O b ∨ w.heap.size ≤ b
/-- the second loop -/
def Re2Rel (n0 : Nat) (w : World) (x : Dd) (r : Nat) (D : DataW Value) (wr : World) : Prop :=
  ∃ (left : Lit → Bool) (cnt : Nat), wr.ranges Try.prog 9 Rp x.mb r x.mn D left cnt ∧ Dk n0 wr { x with fs := turnF (fun k => left (.string k)) x.fs } ∧ Kp x.O w wr
theorem grown_of {w w' : World} {g : Nat} (k : Kp (OnB g) w w') : w.grownBy w' (some g) := ⟨k.os, k.tape, k.output, k.size, fun i hi hne => k.block i hi (fun q => hne (by rw [show i = g from q]))⟩
theorem Of.turn {x : Dd} {q : Pl} (h : Of x q) (s : Int) : Of { x with fs := x.fs.map fun e => { e with seen := e.kept }, pv := .slice none 0 0, pd := [], steps := 0, crash := 0, down := false, starts := s } { q with seen := q.kept, sum := q.ksum, pd := [], steps := 0, crash := 0, down := false, starts := s } :=
  { seen := by rw [(seenOf_kept x.fs).1]; exact h.kept
    kept := by rw [(seenOf_kept x.fs).2.1]; exact h.kept
    sum := by rw [(seenOf_kept x.fs).2.2.1]; exact h.ksum
    ksum := by rw [(seenOf_kept x.fs).2.2.2]; exact h.ksum
    nf := h.nf
    pd := rfl
    room := h.room
    steps := rfl
    crash := rfl
    down := rfl
    starts := rfl }
theorem turnF_mem {left : List UInt8 → Bool} {fs : List Fe} {e : Fe} (h : e ∈ turnF left fs) : ∃ e' ∈ fs, e'.fb = e.fb ∧ e'.nm = e.nm ∧ (left (kOf e.nm) = true → e = e') := by
  unfold turnF at h
  obtain ⟨e', he, rfl⟩ := List.mem_map.1 h
  by_cases hl : left (kOf e'.nm) = true
  · refine ⟨e', he, ?_⟩
    simp [hl]
  · refine ⟨e', he, ?_⟩
    simp [hl]
theorem findF_turn (left : List UInt8 → Bool) (fs : List Fe) (k : List UInt8) : (findF (turnF left fs) k).map (·.fb) = (findF fs k).map (·.fb) := by
  induction fs with
  | nil => rfl
  | cons y r ih =>
    unfold findF turnF at *
    rw [List.map_cons]
    have hnm : kOf (if left (kOf y.nm) then y else { y with seen := y.kept }).nm = kOf y.nm := by split <;> rfl
    have hfb : (if left (kOf y.nm) then y else { y with seen := y.kept }).fb = y.fb := by split <;> rfl
    rw [List.find?_cons, List.find?_cons, hnm]
    by_cases h : kOf y.nm = k
    · subst h
      simp only [beq_self_eq_true, Option.map_some]
      rw [hfb]
    · have : (kOf y.nm == k) = false := by simpa using h
      simp only [this]
      exact ih
theorem Dk.noIter {n0 : Nat} {w : World} {x : Dd} (h : Dk n0 w x) {r : Nat} {since : Nat} {seen : List Nat} {b : Option Nat} {c0 : Nat} (hr : ∃ o, w.heap[r]? = some o ∧ (∀ cs t f, o ≠ .cells cs t f) ∧ (∀ es c, o ≠ .map es c)) : (∀ b, x.O b → b ≠ r) ∧ ∀ g cs, w.heap[g]? = some (.cells cs 5 (0, 0)) → g ≠ r := by
  obtain ⟨o, hro, hnc, hnm⟩ := hr
  have cc : ∀ g cs t f, w.heap[g]? = some (.cells cs t f) → g ≠ r := by
    rintro g cs t f hg rfl
    rw [hro] at hg
    exact hnc _ _ _ (Option.some.inj hg)
  refine ⟨?_, fun g cs hg => cc g cs _ _ hg⟩
  rintro b (rfl | rfl | hb | ⟨e, he, rfl⟩)
  · exact cc _ _ _ _ h.blk
  · obtain ⟨D, ⟨es, cl, hb, _⟩, _⟩ := h.mp
    rintro rfl
    rw [hro] at hb
    exact hnm _ _ (Option.some.inj hb)
  · obtain ⟨cs', hc⟩ := own_type h.pend hb
    exact cc _ _ _ _ hc
  · obtain ⟨u, v, hb, _⟩ := (h.fls e he).blk
    exact cc _ _ _ _ hb
set_option maxRecDepth 100000 in
theorem restart_up (w : World) (n0 : Nat) (x : Dd) (p : Pl) (A : Option Addr) (n cap : Nat) (chs : List Int) (h : Dk n0 w x) (hp : Of x p) (hd : p.down = false) :
    Calls Try.prog 47 #[ptrV x.db, .slice A n cap] w (RePost n0 w x p chs) := by
  have H := Lib.hid h
  have HP := Lib.hid hp
  have HD := Lib.hid hd
  obtain ⟨db, hdb⟩ : ∃ db, x.db = db := ⟨_, rfl⟩
  have HX := Lib.hid hdb
  have c : w.cell? ⟨x.db, 5, none⟩ = some (.bool false) := by rw [h.blk.cell, ← hd, hp.down]; rfl
  rw [hdb] at c ⊢
  clear h hp hdb hd
  unfold ptrV
  go_enter Try.func47, Try.ntmps47
  go_wp2_with (go_at_call 69; go_must (refine (show Calls _ _ #[ptrV db] _ _ by rw [← HX.out]; exact is_ok _ _ _ H.out).mono ?_); rintro e w2 ⟨rfl, rfl⟩)
  go_ret
  exact ⟨by unfold Pl.restartE; rw [HD.out]; rfl, by unfold Pl.restart; rw [HD.out]; exact To.refl H.out HP.out⟩
set_option maxRecDepth 100000 in
set_option maxHeartbeats 1600000 in
theorem restart_main (w : World) (n0 : Nat) (x : Dd) (p : Pl) (A : Option Addr) (n cap : Nat) (chs : List Int) (h : Dk n0 w x) (hp : Of x p) (hd : p.down = true) (hc : Nums w A n chs) (hA : ∀ g o, A = some ⟨g, o, none⟩ → 0 < n → ¬ x.O g) (hch : ∀ y ∈ chs, -9223372036854775808 ≤ y ∧ y ≤ 9223372036854775807)
    (hn63 : n ≤ 9223372036854775807) (hm : p.nf + p.pd.length < 1099511627776 - 10) (hn0 : n0 ≤ w.heap.size) :
    Calls Try.prog 47 #[ptrV x.db, .slice A n cap] w (RePost n0 w x p chs) := by
  have H := Lib.hid h
  have HP := Lib.hid hp
  have HD := Lib.hid hd
  have HC := Lib.hid hc
  have HA := Lib.hid hA
  have HCH := Lib.hid hch
  have HM := Lib.hid hm
  have HN0 := Lib.hid hn0
  obtain ⟨db, hdb⟩ : ∃ db, x.db = db := ⟨_, rfl⟩
  have HX := Lib.hid hdb
  have c5 : w.cell? ⟨x.db, 5, none⟩ = some (.bool true) := by rw [h.blk.cell, ← hd, hp.down]; rfl
  obtain ⟨pl, hpl⟩ : ∃ pl, p.pd.length = pl := ⟨_, rfl⟩
  have HPL := Lib.hid hpl
  obtain ⟨Ap, kp, hpv⟩ := own_slice h.pend
  rw [← hp.pd, hpl] at hpv
  have HPV := Lib.hid hpv
  have c1 : w.cell? ⟨x.db, 1, none⟩ = some (.slice Ap pl kp) := by rw [h.blk.cell, ← hpv]; rfl
  have hplb : pl < 1099511627776 := by omega
  have HOK : Hid (∀ c ∈ p.pd, CgOk c) := Lib.hid (by rw [hp.pd]; exact h.s64)
  rw [hdb] at c5 c1 ⊢
  clear h hp hd hc hA hch hm hn0 hdb hpl hpv
  unfold ptrV
  go_enter Try.func47, Try.ntmps47
  go_wp2_with (go_at_call 69; go_must (refine (show Calls _ _ #[ptrV db] _ _ by rw [← HX.out]; exact is_ok _ _ _ H.out).mono ?_); rintro e w2 ⟨rfl, rfl⟩)
  go_loopw [24] (fun v wr => ReRel n0 w x p chs v wr) (fun v _ => pl - (intOf v).toNat)
  case atStart => exact ⟨0, x, rfl, Nat.zero_le _, H.out, by simpa [Pl.survive] using HP.out, rfl, rfl, rfl, Kp.refl _ _, fun b hb => .inl hb⟩
  case round =>
    obtain ⟨i, xi, rfl, hi, hdk, hof, hpv, hdb, hmb, hkp, ho⟩ := hrel
    have HI := Lib.hid hi
    have HDK := Lib.hid hdk
    have HOF := Lib.hid hof
    have HPVI := Lib.hid hpv
    have HDB := Lib.hid hdb
    have HMB := Lib.hid hmb
    have HKP := Lib.hid hkp
    have HO := Lib.hid ho
    clear hi hdk hof hpv hdb hmb hkp ho c1 c5
    by_cases hlt : i < pl
    · have hpdi : xi.pd = p.pd := by rw [← HOF.out.pd]; exact (survive_pd p _ _).1
      have hrow : wr.ownsRow n0 148 67 (.slice Ap pl kp) pl (cgCells p.pd) := by
        have := HDK.out.pend
        rw [hpdi, HPVI.out, HPV.out, HPL.out] at this
        exact this
      obtain ⟨g, ds, rfl, hg, hb⟩ := own_blkN hrow (by omega)
      obtain ⟨t0, r0⟩ := cg_at hb HOK.out i (by have := HPL.out; omega)
      obtain ⟨c, hc, hcm⟩ := cg_eta p.pd i (by have := HPL.out; omega)
      rw [hc] at r0
      have HC' : Hid (p.pd[i]? = some c) := Lib.hid (by rw [List.getElem?_eq_getElem (by have := HPL.out; omega), hc])
      have hck := HOK.out c hcm
      have HCK := Lib.hid hck
      have hii : (i : Int) < (pl : Int) := by omega
      have hzb : Blk (wr.alloc (.cells (cgA ⟨#[]⟩ 0 0 (zeros 64)) 148)) wr.heap.size 148 (cgA ⟨#[]⟩ 0 0 (zeros 64)) := Blk.new _ _ _
      have t1 := hzb.thereAll 67 (by rw [cgA_size]; rfl)
      have on1 : ones (cgA c.nm c.sec c.n (pad64 c.s)) := cgA_ones _ _ _ _
      have sz1 : (cgA c.nm c.sec c.n (pad64 c.s)).size = 67 := by rw [cgA_size, hck.pad]
      clear hpdi hrow hb hc hcm hck hzb
      by_cases hin : i < n
      · have hin2 : (i : Int) < (n : Int) := by omega
        obtain ⟨gc, oc, rfl, hgc, hcc⟩ := HC.out.2 (by omega)
        have hci := hcc i hin
        obtain ⟨ch, hche⟩ : ∃ ch, chs.getD i 0 = ch := ⟨_, rfl⟩
        rw [hche] at hci
        have HCHE : Hid (chs[i]? = some ch) := Lib.hid (by
          have := HC.out.1
          rw [List.getElem?_eq_getElem (by omega), ← hche, List.getD_eq_getElem?_getD, List.getElem?_eq_getElem (by omega)]
          rfl)
        have HCR : Hid (-9223372036854775808 ≤ ch ∧ ch ≤ 9223372036854775807) := Lib.hid (HCH.out ch (List.mem_of_getElem? HCHE.out))
        have HGC := Lib.hid hgc
        have HIN := Lib.hid hin
        have HCI := Lib.hid hci
        clear hgc hcc hci hche
        go_upto_region 9 with fail
        obtain ⟨g8, hg8⟩ : ∃ g8, wr.heap.size = g8 := ⟨_, rfl⟩
        have HG8 := Lib.hid hg8
        have hb8 : Blk ((wr.alloc (.cells (cgA ⟨#[]⟩ 0 0 (zeros 64)) 148)).setCells wr.heap.size 0 (cgA c.nm c.sec c.n (pad64 c.s)).toList) wr.heap.size 148 (cgA c.nm c.sec c.n (pad64 c.s)) := (Blk.new wr 148 _).whole _ (by rw [cgA_size, cgA_size, HCK.out.pad]; rfl)
        have hk8 : Kp NoB wr ((wr.alloc (.cells (cgA ⟨#[]⟩ 0 0 (zeros 64)) 148)).setCells wr.heap.size 0 (cgA c.nm c.sec c.n (pad64 c.s)).toList) := Kp.setCells (.inl (Nat.le_refl _)) _ _ _ ((Kp.refl NoB wr).alloc _)
        rw [hg8] at hb8 hk8 ⊢
        generalize (wr.alloc (.cells (cgA ⟨#[]⟩ 0 0 (zeros 64)) 148)).setCells g8 0 (cgA c.nm c.sec c.n (pad64 c.s)).toList = w8 at hb8 hk8 ⊢
        have HB8 := Lib.hid hb8
        have HK8 := Lib.hid hk8
        have HD8 := Lib.hid (HDK.out.keep hk8 (fun _ _ q => q) (fun _ _ _ q => q))
        have hk08 : Kp x.O w w8 := HKP.out.trans hk8 (fun _ _ q => q.elim)
        have HK08 := Lib.hid hk08
        have s0 : w8.cell? ⟨g8, 0, none⟩ = some (.string c.nm) := by rw [hb8.cell]; rfl
        have s1 := hb8.thereAll 67 (by rw [cgA_size, HCK.out.pad])
        have s2 := hb8.readAll 67 (by rw [cgA_size, HCK.out.pad])
        have s3 : w8.cell? ⟨gc, oc + i, none⟩ = some (.int .i64 ch) := by rw [hk08.cell HGC.out (HA.out gc oc rfl (Nat.zero_lt_of_lt HIN.out))]; exact HCI.out
        clear hg8 hb8 hk8 hk08 t0 r0 t1 on1 sz1
        go_region_held3 (fun w' => w'.cell? ⟨g8, 0, none⟩ = some (.string c.nm) ∧ w'.there g8 0 67 ∧ readRow w' g8 0 67 = cgA c.nm c.sec c.n (pad64 c.s) ∧ w'.cell? ⟨gc, oc + i, none⟩ = some (.int .i64 ch))
          (first | exact ⟨s0, s1, s2, s3⟩ | exact ⟨v0, v1, v2, v3⟩ | exact ⟨y0, y1, y2, y3⟩ | go_keep)
          (first
            | (go_at_call 111; go_must (refine (show Calls _ _ #[ptrV db, .string c.nm] _ _ by rw [← HX.out, ← HDB.out]; exact at_ok _ n0 xi c.nm HCK.out.nl (by have := HOF.out.nf; have := (survive_pd p (p.pd.take i) (chs.take i)).2.1; have := HM.out; have := HPL.out; simp only [List.length_take] at *; omega) (by exact Nat.le_trans HN0.out HK08.out.size) (HD8.out.keep ((Kp.refl NoB w8).drew) (fun _ _ q => q) (fun _ _ _ q => q))).mono ?_); rintro e w9 ⟨e0, m2, rfl, hd9, hm9, hnm9, hsn9, hkp9, hk9, hfb9⟩; have HD9 := Lib.hid hd9; have hk9' := (Kp.refl (OnB xi.mb) w8).drew.trans hk9 (fun _ _ q => q); have HK9 := Lib.hid hk9'; have HF0 := Lib.hid (findF_some (show findF (putF xi.fs e0) (kOf e0.nm) = some e0 by rw [putF_find, if_pos rfl])).1; have HO9 := Lib.hid (O_at (m := m2) HD8.out hk9' hfb9); have HQ9 := Lib.hid (HOF.out.at_ e0 m2 hm9 (by rw [hsn9, hnm9]) (by rw [hkp9, hnm9])); have HE9 := Lib.hid (show e0.nm = c.nm ∧ e0.kept = keptOf xi.fs c.nm from ⟨hnm9, hkp9⟩); have n8 : ¬ OnB xi.mb g8 := (fun q => by have h1 := H.out.lt x.mb (.inr (.inl rfl)); have h2 := HKP.out.size; have h3 : g8 = xi.mb := q; have h4 := HMB.out; have h5 := HG8.out; omega); have nc : ¬ OnB xi.mb gc := (fun q => HA.out gc oc rfl (Nat.zero_lt_of_lt HIN.out) (.inr (.inl (by rw [← HMB.out]; exact q)))); have v0 := (hk9'.cell HB8.out.lt n8).trans s0; have v1 := there_congr (hk9'.block g8 HB8.out.lt n8) s1; have v2 := (readRow_congr (hk9'.block g8 HB8.out.lt n8)).trans s2; have v3 := (hk9'.cell (Nat.lt_of_lt_of_le HGC.out HK08.out.size) nc).trans s3; clear hd9 hm9 hnm9 hsn9 hkp9 hk9 hfb9 hk9' n8 nc)
            | (go_at_call 112; go_must (refine (survive_ok w9 n0 _ e0 c ch HCR.out HD9.out HF0.out HCK.out (Nat.le_trans HN0.out (Nat.le_trans HK08.out.size HK9.out.size))).mono ?_); rintro r w10 ⟨rfl, hd10, hk10⟩; have HD10 := Lib.hid hd10; have HK10 := Lib.hid hk10; have hO9 := HO9.out.2 e0.fb (.inr (.inr (.inr ⟨e0, HF0.out, rfl⟩))); have n8' : ¬ OnB e0.fb g8 := (fun q => by have h3 : g8 = e0.fb := q; have h5 := HG8.out; have h6 := HB8.out.lt; exact hO9.elim (fun q2 => by have h7 := HDK.out.lt _ q2; omega) (fun q2 => by omega)); have nc' : ¬ OnB e0.fb gc := (fun q => by have h3 : gc = e0.fb := q; have h6 := HGC.out; have h7 := HK08.out.size; exact hO9.elim (fun q2 => (HO.out _ q2).elim (fun q3 => HA.out gc oc rfl (Nat.zero_lt_of_lt HIN.out) (by rw [h3]; exact q3)) (fun q3 => by omega)) (fun q2 => by omega)); have g8l := Nat.lt_of_lt_of_le HB8.out.lt HK9.out.size; have y0 := (hk10.cell g8l n8').trans v0; have y1 := there_congr (hk10.block g8 g8l n8') v1; have y2 := (readRow_congr (hk10.block g8 g8l n8')).trans v2; have y3 := (hk10.cell (Nat.lt_of_lt_of_le HGC.out (Nat.le_trans HK08.out.size HK9.out.size)) nc').trans v3; clear hd10 hk10 hO9 n8' nc' g8l))
        go_wp2_with fail
        have hkf : Kp x.O w w10 := (HK08.out.trans (HO9.out.1.trans HK10.out (fun b hb q => by
            rcases HO9.out.2 b (.inr (.inr (.inr ⟨e0, HF0.out, q⟩))) with q | q
            · exact q
            · omega)) (fun b hb q => by
          rcases HO.out b q with q | q
          · exact q
          · omega))
        refine ⟨⟨i + 1, { xi with fs := putF (putF xi.fs e0) { e0 with kept := Pl.made e0.kept c ch }, mn := m2 }, by go_num, by have := HPL.out; omega, HD10.out, ?_, HPVI.out, HDB.out, HMB.out, hkf, ?_⟩, by simp [intOf]; omega⟩
        · rw [(survive_next p p.pd chs i c HC'.out).1 ch HCHE.out]
          have := HQ9.out.setKept { e0 with kept := Pl.made e0.kept c ch } (by simp only [seenOf_put, upd_same])
          have e1 := HE9.out.1
          have e2 := HE9.out.2
          rw [HOF.out.kept_eq] at e2
          simp only [e1, e2] at this ⊢
          exact this
        · intro b hb
          have h1 := O_put (x := { xi with fs := putF xi.fs e0, mn := m2 }) (e := { e0 with kept := Pl.made e0.kept c ch }) ⟨e0, HF0.out, rfl⟩ b hb
          rcases HO9.out.2 b h1 with q | q
          · exact HO.out b q
          · exact .inr (Nat.le_trans HK08.out.size q)
      · have hin2 : ¬ (i : Int) < (n : Int) := by omega
        have kz : Kp NoB wr ((wr.alloc (.cells (cgA ⟨#[]⟩ 0 0 (zeros 64)) 148)).setCells wr.heap.size 0 (cgA c.nm c.sec c.n (pad64 c.s)).toList) := Kp.setCells (.inl (Nat.le_refl _)) _ _ _ ((Kp.refl NoB wr).alloc _)
        have KZ := Lib.hid kz
        clear kz
        go_wp2_with fail
        have kz := KZ.out
        refine ⟨⟨i + 1, xi, by go_num, by have := HPL.out; omega, ?_, ?_, HPVI.out, HDB.out, HMB.out, ?_, HO.out⟩, by simp [intOf]; omega⟩
        · exact HDK.out.keep kz (fun _ _ q => q) (fun _ _ _ q => q)
        · rw [(survive_next p p.pd chs i c HC'.out).2 (by have := HC.out.1; omega)]; exact HOF.out
        · exact HKP.out.trans kz (fun _ _ q => q.elim)
    · have hii : ¬ (i : Int) < (pl : Int) := by omega
      have eip : i = pl := by have := HI.out; have := HPL.out; omega
      have HP1 : Hid (Of xi (p.survive p.pd chs)) := Lib.hid (by
        have := HOF.out
        rw [eip, ← HPL.out, List.take_length, survive_take] at this
        exact this)
      obtain ⟨D, hD, hM⟩ := HDK.out.mp
      have HDm := Lib.hid hD
      have HMm := Lib.hid hM
      have c0 : wr.cell? ⟨db, 0, none⟩ = some (.map (some xi.mb)) := by rw [← HX.out, ← HDB.out, HDK.out.blk.cell]; rfl
      obtain ⟨w1, hw1⟩ : ∃ w1 : World, w1 = wr := ⟨_, rfl⟩
      subst hw1
      clear hD hM
      go_wp2_with (at_range; refine wpList_range_own _ rfl _ 118 rfl 9 139 keyed Try.underlying118 Rp xi.mb xi.mn D rfl HDm.out ?_; intro w0 hrg0 hg0 hs0)
      go_loopw [8] (fun _ wr => Re2Rel n0 w1 xi w1.heap.size D wr) (fun _ wr => wr.rangeLeft xi.mb w1.heap.size)
      case atStart =>
        have hk0 : Kp xi.O w1 w0 := (Kp.refl _ w1).grown hg0 (by simp)
        refine ⟨Maps.has D, Maps.size D, hrg0, ?_, hk0⟩
        have : turnF (fun k => Maps.has D (.string k)) xi.fs = xi.fs := by
          rw [turnF_same (l' := fun _ => true) (fun e he => by rw [HMm.out.has, HDK.out.names.find he]; rfl), turnF_all]
        rw [this]
        exact HDK.out.keep ((Kp.refl NoB w1).grown hg0 (by simp)) (fun _ _ q => q) (fun _ _ _ q => q)
      case round =>
        obtain ⟨left, cnt, hrg, hdk, hkp⟩ := hrel
        have HRG := Lib.hid hrg
        have HDT := Lib.hid hdk
        have HKT := Lib.hid hkp
        clear hdk hkp hrg0 hg0 hs0 hii hlt c0 eip
        go_wp2_with (at_next; refine wpList_next_ranges _ rfl _ rfl 9 keyed Rp Value.string Value.pointer (fun key kl hk => keyS_inv hk) (fun v y hv => by obtain ⟨p, rfl, _⟩ := Rp_inv hv; exact ⟨p, rfl⟩) xi.mb w1.heap.size xi.mn D left cnt rfl hrg ?_ ?_)
        · intro _ hl0
          have hfs := turnF_none (fs := xi.fs) (left := fun k => left (.string k)) (fun k => hl0 _)
          have HFS := Lib.hid hfs
          have hb := HDT.out.blk
          have HB := Lib.hid hb
          have d3 : wr.cell? ⟨db, 3, none⟩ = some (.int .i64 xi.steps) := by rw [← HX.out, ← HDB.out, hb.cell]; rfl
          have d1 : wr.cell? ⟨db, 1, none⟩ = some (.slice Ap pl kp) := by rw [← HX.out, ← HDB.out, hb.cell, ← HPV.out, ← HPVI.out]; rfl
          have d4 : wr.cell? ⟨db, 4, none⟩ = some (.int .i64 xi.crash) := by rw [← HX.out, ← HDB.out, hb.cell]; rfl
          have d5 : wr.cell? ⟨db, 5, none⟩ = some (.bool xi.down) := by rw [← HX.out, ← HDB.out, hb.cell]; rfl
          have d6 : wr.cell? ⟨db, 6, none⟩ = some (.int .i64 xi.starts) := by rw [← HX.out, ← HDB.out, hb.cell]; rfl
          have z1 : wr.frozen? ⟨db, 1, none⟩ = false := by rw [← HX.out, ← HDB.out]; exact hb.frozen 1
          have z3 : wr.frozen? ⟨db, 3, none⟩ = false := by rw [← HX.out, ← HDB.out]; exact hb.frozen 3
          have z4 : wr.frozen? ⟨db, 4, none⟩ = false := by rw [← HX.out, ← HDB.out]; exact hb.frozen 4
          have z5 : wr.frozen? ⟨db, 5, none⟩ = false := by rw [← HX.out, ← HDB.out]; exact hb.frozen 5
          have z6 : wr.frozen? ⟨db, 6, none⟩ = false := by rw [← HX.out, ← HDB.out]; exact hb.frozen 6
          have hws : IntKind.i64.wrap (xi.starts + 1) = wrp (xi.starts + 1) := rfl
          clear hl0 hfs hb hrg
          go_wp2_with fail
          go_ret
          have hbF := ((((HB.out.set_ 1 (.slice none 0 0)).set_ 3 (.int .i64 0)).set_ 4 (.int .i64 0)).set_ 5 (.bool false)).set_ 6 (.int .i64 (wrp (xi.starts + 1)))
          have kF := (((((Kp.refl (OnB xi.db) wr).setAt (show OnB xi.db xi.db from rfl) 1 (.slice none 0 0)).setAt (show OnB xi.db xi.db from rfl) 3 (.int .i64 0)).setAt (show OnB xi.db xi.db from rfl) 4 (.int .i64 0)).setAt (show OnB xi.db xi.db from rfl) 5 (.bool false)).setAt (show OnB xi.db xi.db from rfl) 6 (.int .i64 (wrp (xi.starts + 1)))
          have hF := HDT.out.reset kF (wrp (xi.starts + 1)) (by simpa [diskCells] using hbF)
          rw [HFS.out] at hF
          have edb : xi.db = db := HDB.out.trans HX.out
          have kT : Kp x.O w wr := HKP.out.trans HKT.out (fun b hb q => by
            rcases HO.out b q with q | q
            · exact q
            · omega)
          have kFin := kT.trans kF (S' := OnB xi.db) (fun b _ q => .inl (by rw [← HDB.out]; exact q))
          have eres : p.restart chs = { p.survive p.pd chs with seen := (p.survive p.pd chs).kept, sum := (p.survive p.pd chs).ksum, pd := [], steps := 0, crash := 0, down := false, starts := wrp (xi.starts + 1) } := by
            unfold Pl.restart
            rw [HD.out]
            have e1 := HP1.out.starts
            rw [(survive_pd p p.pd chs).2.2.1] at e1
            simp only [if_true, e1]
          refine ⟨by unfold Pl.restartE; rw [HD.out]; rfl, ?_⟩
          rw [eres, ← edb]
          refine ⟨_, hF, HP1.out.turn _, HDB.out, kFin, fun b hb => ?_⟩
          rcases hb with q | q | q | ⟨e, he, rfl⟩
          · exact HO.out b (.inl q)
          · exact HO.out b (.inr (.inl q))
          · cases q
          · obtain ⟨e', he', rfl⟩ := List.mem_map.1 he
            exact HO.out _ (.inr (.inr (.inr ⟨e', he', rfl⟩)))
        · intro x1 c kl a b w3 cnt3 hkey hlk hv hat hrg3 hlt hg3 hs3 hen
          have hM' : MpD D (turnF (fun k => left (.string k)) xi.fs) := HMm.out.same (fun k => findF_turn _ _ _)
          obtain ⟨e1, he1, rfl, rfl, B, cp, ce⟩ := next_fact HDT.out hM' (Kp.refl NoB wr) hkey hv hat
          obtain ⟨e, he, hfbe, hnme, hee⟩ := turnF_mem (left := fun k => left (.string k)) (fs := xi.fs) he1
          obtain rfl := hee hlk
          obtain ⟨u, v, hb, hu, hq⟩ := (HDT.out.fls e1 he1).blk
          obtain ⟨Au, cu, rfl⟩ := hu.form
          obtain ⟨Av, cv, rfl⟩ := hq.form
          obtain ⟨fb, hfb⟩ : ∃ fb, e1.fb = fb := ⟨_, rfl⟩
          obtain ⟨L, hL⟩ : ∃ L, e1.seen.length = L := ⟨_, rfl⟩
          obtain ⟨L2, hL2⟩ : ∃ L2, e1.kept.length = L2 := ⟨_, rfl⟩
          have hit : ∃ o, wr.heap[w1.heap.size]? = some o ∧ (∀ cs t f, o ≠ .cells cs t f) ∧ (∀ es c, o ≠ .map es c) := by
            obtain ⟨es, clock, since, seen, c0, _, _, _, _, hr, _⟩ := hrg
            exact ⟨_, hr, (fun _ _ _ q => by cases q), (fun _ _ q => by cases q)⟩
          have hnoi := HDT.out.noIter (since := 0) (seen := []) (b := none) (c0 := 0) hit
          have k3 : Kp (OnB w1.heap.size) wr w3 := (Kp.refl _ wr).grown hg3 (fun k hk => .inr (by injection hk with hk; exact hk.symm))
          have HD3 := Lib.hid (HDT.out.keep k3 hnoi.1 hnoi.2)
          have hb3 : Blk w3 e1.fb 143 #[.slice Au e1.seen.length cu, .slice Av e1.kept.length cv] := hb.keep k3 (hnoi.1 _ (.inr (.inr (.inr ⟨e1, he1, rfl⟩))))
          have hq3 : Bq w3 n0 (.slice Av e1.kept.length cv) e1.kept := hq.keep k3 (fun g cs hg => hnoi.2 g cs hg)
          have HB3 := Lib.hid hb3
          have HQ3 := Lib.hid hq3
          have HE := Lib.hid he
          have HE1 := Lib.hid he1
          have HR3 := Lib.hid hrg3
          have HLT := Lib.hid hlt
          have HK3 := Lib.hid k3
          have HLK := Lib.hid hlk
          have c5 : w3.cell? ⟨fb, 0, none⟩ = some (.slice Au L cu) := by rw [← hfb, hb3.cell, ← hL]; rfl
          have c6 : w3.cell? ⟨fb, 1, none⟩ = some (.slice Av L2 cv) := by rw [← hfb, hb3.cell, ← hL2]; rfl
          have z5 : w3.frozen? ⟨fb, 0, none⟩ = false := by rw [← hfb]; exact hb3.frozen 0
          have hfn : fb ≠ w1.heap.size := by rw [← hfb]; exact hnoi.1 _ (.inr (.inr (.inr ⟨e1, he1, rfl⟩)))
          have HFN := Lib.hid hfn
          have HFB := Lib.hid hfb
          have HL2 := Lib.hid hL2
          rw [hfb] at hen
          clear hkey hlk hv hat hrg3 hlt hg3 hs3 he he1 hfbe hnme hee hu hq hb hit hnoi k3 hb3 hq3 hM' hfn hrg ce hfb hL hL2
          go_wp2_with fail
          have kst : Kp (OnB e1.fb) w3 (w3.setCell ⟨fb, 0, none⟩ (.slice Av L2 cv)) := (Kp.refl _ w3).setAt (show OnB e1.fb fb from HFB.out.symm) 0 _
          have hbN : Blk (w3.setCell ⟨fb, 0, none⟩ (.slice Av L2 cv)) e1.fb 143 #[.slice Av L2 cv, .slice Av L2 cv] := by
            have := HB3.out.set_ 0 (.slice Av L2 cv)
            rw [← HFB.out]
            rw [HL2.out] at this
            exact this
          have hqN : Bq (w3.setCell ⟨fb, 0, none⟩ (.slice Av L2 cv)) n0 (.slice Av L2 cv) e1.kept := by
            have := HQ3.out.keep kst (fun g cs hg q => onb_cells HB3.out hg (by decide) q)
            rw [HL2.out] at this
            exact this
          have hlk9 : e1.kept.length ≤ 1048576 := (HDK.out.fls e1 HE.out).lk
          have hdN := HD3.out.refile HE1.out kst { e1 with seen := e1.kept } rfl rfl ⟨⟨_, _, hbN, hqN, hqN⟩, hlk9, hlk9⟩
          have est := turnF_step (left := fun k => left (.string k)) HDK.out.names HE.out
          refine ⟨⟨_, cnt3, HR3.out.kept (grown_of kst) ?_ ?_, ?_, ?_⟩, ?_⟩
          · intro q
            obtain ⟨u, v, hbb, _⟩ := (HDK.out.fls e1 HE.out).blk
            obtain ⟨D2, ⟨es, cl, hmb, _⟩, _⟩ := HDK.out.mp
            injection q with q
            unfold Blk at hbb
            rw [← q, hmb] at hbb
            cases hbb
          · intro q
            injection q with q
            exact HFN.out (by rw [← HFB.out, ← q])
          · simp only [est] at hdN
            exact hdN
          · refine (HKT.out.trans HK3.out (fun b hb q => absurd hb (by rw [show b = w1.heap.size from q]; omega))).trans kst (fun b _ q => .inr (.inr (.inr ⟨e1, HE.out, q⟩)))
          · rw [(HR3.out.kept (grown_of kst) ?_ ?_).left_eq, HRG.out.left_eq]
            · exact HLT.out
            · intro q
              obtain ⟨u, v, hbb, _⟩ := (HDK.out.fls e1 HE.out).blk
              obtain ⟨D2, ⟨es, cl, hmb, _⟩, _⟩ := HDK.out.mp
              injection q with q
              unfold Blk at hbb
              rw [← q, hmb] at hbb
              cases hbb
            · intro q
              injection q with q
              exact HFN.out (by rw [← HFB.out, ← q])
theorem restart_ok (w : World) (n0 : Nat) (x : Dd) (p : Pl) (A : Option Addr) (n cap : Nat) (chs : List Int) (h : Dk n0 w x) (hp : Of x p) (hc : Nums w A n chs) (hA : ∀ g o, A = some ⟨g, o, none⟩ → 0 < n → ¬ x.O g) (hch : ∀ y ∈ chs, -9223372036854775808 ≤ y ∧ y ≤ 9223372036854775807)
    (hn63 : n ≤ 9223372036854775807) (hm : p.nf + p.pd.length < 1099511627776 - 10) (hn0 : n0 ≤ w.heap.size) :
    Calls Try.prog 47 #[ptrV x.db, .slice A n cap] w (RePost n0 w x p chs) := by
  rcases hd : p.down with _ | _
  · exact restart_up w n0 x p A n cap chs h hp hd
  · exact restart_main w n0 x p A n cap chs h hp hd hc hA hch hn63 hm hn0
end Go.Proofs.Ytegcbdfilkecpaa
/- The stand-in disk's calls where the disk is the caller's own; no condition but on the texts' lengths and the counts. -/
namespace Go.Proofs.Ytegcbdfilkecpaa
open Go.RowKit

/-- a disk of the caller's own: made behind W0 -/
def Da (W0 w : World) (db : Nat) (p : Pl) : Prop := ∃ x, x.db = db ∧ Dk W0.heap.size w x ∧ Of x p ∧ Kp NoB W0 w ∧ ∀ b, x.O b → W0.heap.size ≤ b
theorem Da.keep {W0 w w' : World} {db : Nat} {p : Pl} (h : Da W0 w db p) (k : Kp NoB w w') : Da W0 w' db p := by
  obtain ⟨x, e, hd, hp, hk, ho⟩ := h
  exact ⟨x, e, hd.keep k (fun _ _ q => q) (fun _ _ _ q => q), hp, hk.trans k (fun _ _ q => q), ho⟩
theorem Da.kp {W0 w : World} {db : Nat} {p : Pl} (h : Da W0 w db p) : Kp NoB W0 w := by
  obtain ⟨x, e, hd, hp, hk, ho⟩ := h
  exact hk
section
variable {W0 w : World} {db : Nat} {p : Pl}
end
theorem Nums.nil (w : World) : Nums w none 0 [] := ⟨rfl, fun h => absurd h (by omega)⟩
/-! ### the answers that every law asks at its end -/
def nmF : ByteArray := ⟨#[102]⟩
def awX : ByteArray := ⟨#[120, 120, 120, 120, 120, 120, 120, 120, 120, 120]⟩
def awY : ByteArray := ⟨#[121, 121]⟩
end Go.Proofs.Ytegcbdfilkecpaa
/- The rollback journal in plain Lean: its steps on the plain disk; no condition. -/
namespace Go.Proofs.Ytegcbdfilkecpaa
open Go

def nmDb : ByteArray := ⟨#[100, 98]⟩
def nmJn : ByteArray := ⟨#[106, 111, 117, 114, 110, 97, 108]⟩
/-- a step: 0 a write, 1 a truncation, else a sync -/
structure Stp where
  k : Nat
  nm : ByteArray
  at_ : Int
  d : List Int
namespace Pl
def stE (p : Pl) (s : Stp) : Int := if s.k = 0 then p.writeE s.nm s.at_ s.d else if s.k = 1 then p.truncE s.nm s.at_ else p.syncE
def stP (p : Pl) (s : Stp) : Pl := if s.k = 0 then p.write s.nm s.at_ s.d else if s.k = 1 then p.trunc s.nm s.at_ else p.sync s.nm
/-- steps, till one is refused -/
def runS : Pl → List Stp → Pl × Int
  | p, [] => (p, 0)
  | p, s :: r => if p.stE s = 0 then runS (p.stP s) r else (p.stP s, p.stE s)
end Pl
def four (n : Int) : List Int := [n / 16777216 % 256, n / 65536 % 256, n / 256 % 256, n % 256]
def num (l : List Int) (a : Nat) : Int := l.getD a 0 * 16777216 + l.getD (a + 1) 0 * 65536 + l.getD (a + 2) 0 * 256 + l.getD (a + 3) 0
/-- four words -/
structure W4 where
  a : Int
  b : Int
  c : Int
  d : Int
def W4.bytes (w : W4) : List Int := four w.a ++ four w.b ++ four w.c ++ four w.d
def sealB (w : W4) : List Int := w.bytes ++ w.bytes ++ w.bytes ++ zeros 16
def wordsAt (l : List Int) (a : Nat) : W4 := ⟨num l a, num l (a + 4), num l (a + 8), num l (a + 12)⟩
/-- what a sealed sector says -/
def openB (l : List Int) : W4 := if l.take 16 = (l.drop 16).take 16 then wordsAt l 0 else wordsAt l 32
def says (l : List Int) : W4 := if l.length < 64 then ⟨0, 0, 0, 0⟩ else openB (l.take 64)
/-- a page with its number -/
structure Pg where
  n : Int
  b : List Int
def pageOf (l : List Int) (n : Nat) : List Int := sizedF (l.drop ((n - 1) * 256)) 256
namespace Pl
def jcount (p : Pl) : Nat := p.len nmDb / 256
def jhead (p : Pl) : W4 := says (p.seen nmJn)
def jhot (p : Pl) : Bool := !p.down && decide ((p.jhead).a ≠ 0)
end Pl
def hasPg (l : List Pg) (n : Int) : Bool := l.any fun x => decide (x.n = n)
def chainPg (count : Int) : Int → List Pg → Bool
  | _, [] => true
  | last, x :: r => decide (last < x.n ∧ x.n ≤ count) && chainPg count x.n r
def above (old : Int) (l : List Pg) : Nat := l.countP fun x => decide (old < x.n)
def fitPg (old count : Int) (l : List Pg) : Bool := decide (0 ≤ count ∧ count ≤ 4096) && (chainPg count 0 l && decide ((above old l : Int) = max 0 (count - old)))
def headS (nm : ByteArray) (w : W4) : List Stp := [⟨0, nm, 0, sealB w⟩, ⟨2, nm, 0, []⟩]
def homeW (l : List Pg) : List Stp := l.map fun x => ⟨0, nmDb, (x.n - 1) * 256, x.b⟩
def homeS (count : Int) (l : List Pg) : List Stp := homeW l ++ [⟨1, nmDb, count * 256, []⟩, ⟨2, nmDb, 0, []⟩]
/-- a record of the journal -/
def recB (x : Pg) : List Int := four x.n ++ zeros 60 ++ x.b
def asideW : Nat → List Pg → List Stp
  | _, [] => []
  | k, x :: r => ⟨0, nmJn, 64 + 320 * (k : Int), recB x⟩ :: asideW (k + 1) r
def asideS (l : List Pg) : List Stp := asideW 0 l ++ [⟨2, nmJn, 0, []⟩]
def asidePg (db : List Int) (old count : Nat) (l : List Pg) : List Pg :=
  ((List.range' 1 old).filter fun n => decide (count < n) || hasPg l n).map fun (n : Nat) => ⟨(n : Int), pageOf db n⟩
def firstS (w : W4) (old : Nat) (aside : List Pg) : List Stp := headS nmJn w ++ (asideS aside ++ headS nmJn ⟨aside.length + 1, old, 0, 0⟩)
def secondS (count : Int) (l : List Pg) : List Stp := homeS count l ++ headS nmJn ⟨0, 0, 0, 0⟩
/-- too long is too full -/
def fullE (e : Int) : Int := if e = 3 then 5 else e
/-- the records of a journal from the k-th on, i of them -/
def recsPg (l : List Int) (top : Int) : Nat → Nat → Int → Option (List Pg)
  | 0, _, _ => some []
  | i + 1, k, last =>
    let b := (l.drop (64 + 320 * k)).take 320
    if b.length < 320 then none else if (b.drop 4).take 60 = zeros 60 ∧ last < num b 0 ∧ num b 0 ≤ top then
      (recsPg l top i (k + 1) (num b 0)).map fun r => ⟨num b 0, b.drop 64⟩ :: r
    else none
def recordsPg (l : List Int) (w : W4) : Option (List Pg) := if 4096 < w.a - 1 ∨ 4096 < w.b ∨ w.c ≠ 0 ∨ w.d ≠ 0 then none else recsPg l w.b (w.a - 1).toNat 0 0
namespace Pl
def recS (w : W4) (l : List Pg) : List Stp := headS nmJn w ++ (homeS w.b l ++ headS nmJn ⟨0, 0, 0, 0⟩)
/-- taken back: the disk, is it taken back, the error -/
def jrecover (p : Pl) : Pl × Bool × Int :=
  if p.down then (p, false, 7) else if p.jhot = false then (p, false, 0) else
    match recordsPg (p.seen nmJn) p.jhead with
    | none => (p, false, 8)
    | some l => let q := p.runS (recS p.jhead l); (q.1, decide (q.2 = 0), q.2)
def jfirst (p : Pl) (count : Int) (l : List Pg) : List Stp := firstS p.jhead p.jcount (asidePg (p.seen nmDb) p.jcount count.toNat l)
def jcommit (p : Pl) (count : Int) (l : List Pg) : Pl × Int :=
  if p.down then (p, 7) else if fitPg p.jcount count l = false then (p, 2) else if p.jhot then (p, 6) else
    let q := p.runS (p.jfirst count l)
    if q.2 ≠ 0 then (q.1, fullE q.2) else
      let r := q.1.runS (secondS count l)
      if r.2 = 5 then (let s := r.1.jrecover; if s.2.2 ≠ 0 then (s.1, s.2.2) else (s.1, 5)) else r
def jpageE (p : Pl) (n : Int) : Int := if p.down then 7 else if n < 1 ∨ (p.jcount : Int) < n then 4 else 0
def jpage (p : Pl) (n : Int) : List Int := if p.jpageE n = 0 then pageOf (p.seen nmDb) n.toNat else zeros 256
end Pl
theorem runS_nil (p : Pl) : p.runS [] = (p, 0) := rfl
theorem runS_cons (p : Pl) (s : Stp) (r : List Stp) : p.runS (s :: r) = if p.stE s = 0 then (p.stP s).runS r else (p.stP s, p.stE s) := rfl
theorem runS_append : ∀ (a b : List Stp) (p : Pl), p.runS (a ++ b) = if (p.runS a).2 = 0 then (p.runS a).1.runS b else p.runS a
  | [], b, p => by simp [runS_nil]
  | s :: r, b, p => by
    have ih := runS_append r b (p.stP s)
    rw [List.cons_append, runS_cons, runS_cons]
    by_cases h : p.stE s = 0
    · rw [if_pos h, if_pos h, ih]
    · rw [if_neg h, if_neg h, if_neg h]
/-- how far the counts are from their bound -/
def Pl.sm (p : Pl) (k : Nat) : Prop := p.nf + p.pd.length + k < 1099511627776
theorem sm_mono {p : Pl} {a b : Nat} (h : p.sm a) (hb : b ≤ a) : p.sm b := by unfold Pl.sm at h ⊢; omega
theorem sectors_len (s : ByteArray) (l : List Int) (a e : Nat) : (Pl.sectors s l a e).length = (e + 63) / 64 - a / 64 := by simp [Pl.sectors]
theorem sm_write {p : Pl} {k : Nat} (s : ByteArray) (a : Int) (d : List Int) (h : p.sm (k + 20000)) : (p.write s a d).sm k := by
  unfold Pl.sm at h ⊢
  unfold Pl.write
  split
  · omega
  · rename_i h1
    split
    · simp only [Pl.step]; omega
    · split
      · omega
      · have e1 : (a.toNat + d.length + 63) / 64 - a.toNat / 64 ≤ 16386 := by omega
        unfold Pl.write1
        simp only [Pl.step, Pl.pend, Pl.setSeen, Pl.at_, List.length_append, sectors_len]
        split
        · unfold Pl.length
          split
          · simp only [Pl.at_]; omega
          · simp only [Pl.pend, Pl.setSeen, Pl.at_, List.length_append, List.length_cons, List.length_nil]; omega
        · omega
theorem sm_trunc {p : Pl} {k : Nat} (s : ByteArray) (n : Int) (h : p.sm (k + 20000)) : (p.trunc s n).sm k := by
  unfold Pl.sm at h ⊢
  unfold Pl.trunc
  split
  · omega
  · simp only [Pl.step]
    unfold Pl.length
    split
    · simp only [Pl.at_]; omega
    · simp only [Pl.pend, Pl.setSeen, Pl.at_, List.length_append, List.length_cons, List.length_nil]; omega
theorem sm_sync {p : Pl} {k : Nat} (s : ByteArray) (h : p.sm (k + 20000)) : (p.sync s).sm k := by
  unfold Pl.sm at h ⊢
  unfold Pl.sync
  split
  · omega
  · split
    · simp only [Pl.step]; omega
    · simp only [Pl.step, Pl.setKept, Pl.at_]
      have := List.length_filter_le (fun c : Cg => !decide (c.nm = s)) p.pd
      omega
theorem sm_st {p : Pl} {k : Nat} (s : Stp) (h : p.sm (k + 20000)) : (p.stP s).sm k := by
  unfold Pl.stP
  split
  · exact sm_write _ _ _ h
  · split
    · exact sm_trunc _ _ h
    · exact sm_sync _ h
theorem sm_run : ∀ (l : List Stp) {p : Pl} {k : Nat}, p.sm (k + 20000 * l.length) → (p.runS l).1.sm k
  | [], p, k, h => by rw [runS_nil]; exact sm_mono h (by omega)
  | s :: r, p, k, h => by
    have h1 : (p.stP s).sm (k + 20000 * r.length) := sm_st s (sm_mono h (by simp only [List.length_cons]; omega))
    rw [runS_cons]
    split
    · exact sm_run r h1
    · exact sm_mono h1 (by omega)
end Go.Proofs.Ytegcbdfilkecpaa
/- The stand-in disk among a caller's own blocks; no condition but on the texts' lengths and the counts. -/
namespace Go.Proofs.Ytegcbdfilkecpaa
open Go.RowKit

/-- a disk at db: since W0 only blocks of S are changed, and all its blocks are of S or newer than W0 -/
def Dq (S : Nat → Prop) (W0 w : World) (db : Nat) (p : Pl) : Prop := ∃ x, x.db = db ∧ Dk 0 w x ∧ Of x p ∧ Kp S W0 w ∧ (∀ b, x.O b → S b ∨ W0.heap.size ≤ b) ∧ ∀ b, S b → b < W0.heap.size
section
variable {S : Nat → Prop} {W0 w w' : World} {db : Nat} {p p' : Pl}
theorem Dq.kp (h : Dq S W0 w db p) : Kp S W0 w := by
  obtain ⟨x, e, hd, hp, hk, ho, hs⟩ := h
  exact hk
theorem Dq.lt (h : Dq S W0 w db p) : ∀ b, S b → b < W0.heap.size := by
  obtain ⟨x, e, hd, hp, hk, ho, hs⟩ := h
  exact hs
theorem Dq.keep (h : Dq S W0 w db p) (k : Kp NoB w w') : Dq S W0 w' db p := by
  obtain ⟨x, e, hd, hp, hk, ho, hs⟩ := h
  exact ⟨x, e, hd.keep k (fun _ _ q => q) (fun _ _ _ q => q), hp, hk.trans k (fun _ _ q => q.elim), ho, hs⟩
/-- the base moved up to now -/
theorem Dq.base (h : Dq S W0 w db p) : ∃ S', Dq S' w w db p ∧ (∀ b, S' b → S b ∨ W0.heap.size ≤ b) := by
  obtain ⟨x, e, hd, hp, hk, ho, hs⟩ := h
  exact ⟨x.O, ⟨x, e, hd, hp, Kp.refl _ _, fun b q => .inl q, hd.lt⟩, ho⟩
theorem Dq.base1 (h : Dq S w w db p) (k : Kp NoB w w') : Dq S w' w' db p := by
  obtain ⟨x, e, hd, hp, hk, ho, hs⟩ := h
  refine ⟨x, e, hd.keep k (fun _ _ q => q) (fun _ _ _ q => q), hp, Kp.refl _ _, fun b hb => ?_, fun b hb => Nat.lt_of_lt_of_le (hs b hb) k.size⟩
  rcases ho b hb with q | q
  · exact .inl q
  · have := hd.lt b hb
    omega
theorem Dq.tr {S' : Nat → Prop} {w0 : World} (h : Dq S' w w' db p') (k : Kp S W0 w) (hS : ∀ b, S' b → S b ∨ W0.heap.size ≤ b) (hs : ∀ b, S b → b < W0.heap.size) : Dq S W0 w' db p' := by
  obtain ⟨x, e, hd, hp, hk, ho, _⟩ := h
  refine ⟨x, e, hd, hp, k.trans hk (fun b hb q => ?_), fun b hb => ?_, hs⟩
  · rcases hS b q with q | q
    · exact q
    · omega
  · rcases ho b hb with q | q
    · exact hS b q
    · exact .inr (Nat.le_trans k.size q)
theorem Dq.up (h : Dq S w' w' db p) (k : Kp NoB w w') (hs : ∀ b, S b → b < w.heap.size) {w2 : World} (h2 : Dq S w' w2 db p') : Dq S w w2 db p' :=
  Dq.tr (w0 := w) h2 (k.mono (fun _ _ q => q.elim)) (fun _ q => .inl q) hs
theorem dq_of {x : Dd} {n0 : Nat} (hd : x.db = db) (hk : Kp S W0 w) (ho : ∀ b, x.O b → S b ∨ W0.heap.size ≤ b) (hs : ∀ b, S b → b < W0.heap.size) (h : To 0 w x p' w') : Dq S W0 w' db p' := by
  obtain ⟨x', hd', hp, e, k, o⟩ := h
  refine ⟨x', e.trans hd, hd', hp, hk.trans k (fun i hi q => ?_), fun b hb => ?_, hs⟩
  · rcases ho i q with q | q
    · exact q
    · omega
  · rcases o b hb with q | q
    · exact ho b q
    · exact .inr (Nat.le_trans hk.size q)
theorem new_q (w : World) (r : Int) (hr : -9223372036854775808 ≤ r ∧ r ≤ 9223372036854775807) :
    Calls Try.prog 17 #[.int .i64 r] w fun e w' => ∃ db, e = .returned (ptrV db) ∧ Dq (fun _ => False) w w' db (Pl.new r) :=
  (new_ok w r hr 0 (Nat.zero_le _)).mono fun e w' ⟨db, mb, he, hd, k, h1, h2⟩ => ⟨db, he, _, rfl, hd, ⟨rfl, rfl, rfl, rfl, Nat.le_refl _, rfl, rfl, rfl, rfl, rfl, rfl⟩, k, by
    refine ⟨?_, fun b q => q.elim⟩
    rintro b (rfl | rfl | q | ⟨e, he, rfl⟩)
    · exact .inr h1
    · exact .inr h2
    · cases q
    · cases he⟩
theorem write_q (h : Dq S W0 w db p) (s : ByteArray) (a : Int) (d : ByteArray) (hs : s.size ≤ maxLen) (hds : d.size ≤ maxLen) (hm : p.sm 20000) :
    Calls Try.prog 78 #[ptrV db, .string s, .int .i64 a, .string d] w fun e w' => e = .returned (.int .i64 (p.writeE s a (strI d))) ∧ Dq S W0 w' db (p.write s a (strI d)) := by
  obtain ⟨x, rfl, hd, hp, hk, ho, hz⟩ := h
  unfold Pl.sm at hm
  exact (write_ok w _ x p s a d hd hp hs hds (Nat.zero_le _) (by omega) (by omega)).mono fun e w' ⟨he, ht⟩ => ⟨he, dq_of (n0 := 0) rfl hk ho hz ht⟩
theorem trunc_q (h : Dq S W0 w db p) (s : ByteArray) (n : Int) (hn : -9223372036854775808 ≤ n ∧ n ≤ 9223372036854775807) (hs : s.size ≤ maxLen) (hm : p.sm 20000) :
    Calls Try.prog 86 #[ptrV db, .string s, .int .i64 n] w fun e w' => e = .returned (.int .i64 (p.truncE s n)) ∧ Dq S W0 w' db (p.trunc s n) := by
  obtain ⟨x, rfl, hd, hp, hk, ho, hz⟩ := h
  unfold Pl.sm at hm
  exact (trunc_ok w _ x p s n hn hd hp hs (Nat.zero_le _) (by omega) (by omega)).mono fun e w' ⟨he, ht⟩ => ⟨he, dq_of (n0 := 0) rfl hk ho hz ht⟩
theorem sync_q (h : Dq S W0 w db p) (s : ByteArray) (hs : s.size ≤ maxLen) (hm : p.sm 20000) :
    Calls Try.prog 88 #[ptrV db, .string s] w fun e w' => e = .returned (.int .i64 p.syncE) ∧ Dq S W0 w' db (p.sync s) := by
  obtain ⟨x, rfl, hd, hp, hk, ho, hz⟩ := h
  unfold Pl.sm at hm
  exact (sync_ok w _ x p s hd hp hs (Nat.zero_le _) (by omega) (by omega)).mono fun e w' ⟨he, ht⟩ => ⟨he, dq_of (n0 := 0) rfl hk ho hz ht⟩
theorem read_q (h : Dq S W0 w db p) (s : ByteArray) (a n : Int) (hs : s.size ≤ maxLen) (ha : -9223372036854775808 ≤ a ∧ a ≤ 9223372036854775807) (hn : -9223372036854775808 ≤ n ∧ n ≤ 9223372036854775807) :
    Calls Try.prog 28 #[ptrV db, .string s, .int .i64 a, .int .i64 n] w fun e w' => e = .returned (.tuple #[.string (strOf (p.read s a n)), .int .i64 (p.readE a n)]) ∧ Kp NoB w w' := by
  obtain ⟨x, rfl, hd, hp, hk, ho, hz⟩ := h
  exact read_ok w _ x p s a n ha hn hd hp hs
theorem len_q (h : Dq S W0 w db p) (s : ByteArray) (hs : s.size ≤ maxLen) : Calls Try.prog 67 #[ptrV db, .string s] w fun e w' => e = .returned (.int .i64 (p.len s)) ∧ w = w' := by
  obtain ⟨x, rfl, hd, hp, hk, ho, hz⟩ := h
  exact len_ok w _ x p s hd hp hs
/-- what is known of the plain state behind a disk -/
theorem Dq.seen_le (h : Dq S W0 w db p) (s : ByteArray) : (p.seen s).length ≤ 1048576 := by
  obtain ⟨x, rfl, hd, hp, hk, ho, hz⟩ := h
  rw [hp.seen]
  exact Go.Proofs.Ytegcbdfilkecpaa.seen_le hd s
theorem Dq.seen_rng (h : Dq S W0 w db p) (s : ByteArray) : ∀ y ∈ p.seen s, 0 ≤ y ∧ y < 256 := by
  obtain ⟨x, rfl, hd, hp, hk, ho, hz⟩ := h
  rw [hp.seen]
  unfold seenOf
  split
  · rename_i e hf
    obtain ⟨u, v, _, hu, _⟩ := (hd.fls e (findF_some hf).1).blk
    exact hu.rng
  · simp
end
end Go.Proofs.Ytegcbdfilkecpaa
/- Pages of 256 bytes in memory, and how the walk reads and writes them whole; no condition. -/
namespace Go.Proofs.Ytegcbdfilkecpaa
open Go.RowKit

def zero256 : Array Value := bytesV (zeros 256)
theorem zero256_eq : zero256 = bytesV (zeros 256) := rfl

theorem info26 : (Try.prog.info? 24).map (·.size) = some 256 := by kernel_rfl
theorem zeroValue26 (w : World) : (zeroValue 24).run Try.prog w = .ok (.agg zero256) w := by kernel_rfl

theorem load26 (w : World) (ev : Operand → Value) (ds : Option Tmp) (x : Operand) (ty : TypeId) (ps : String) (af : Array Edge) (g : Option (Nat × Bool)) (h : thereP w (ev x) 256) :
    (execOp ev ⟨ds, .load 24 x, ty, ps, af, g⟩).run Try.prog w = .ok (.value (.agg (readP w (ev x) 256))) w := execLoad_P Try.underlying24 rfl info26 w ev ds x ty ps af g h
theorem store26 (w : World) (ev : Operand → Value) (ds : Option Tmp) (x y : Operand) (ty : TypeId) (ps : String) (af : Array Edge) (g : Option (Nat × Bool)) (hv : aggOK (ev y) 256) (h : thereP w (ev x) 256) :
    (execOp ev ⟨ds, .store 24 x y, ty, ps, af, g⟩).run Try.prog w = .ok .skip (setP w (ev x) (ev y)) := execStore_P info26 w ev ds x y ty ps af g hv h
theorem alloc26 (w : World) (ev : Operand → Value) (ds : Option Tmp) (ty : TypeId) (ps : String) (af : Array Edge) (g : Option (Nat × Bool)) :
    (execOp ev ⟨ds, .alloc 24, ty, ps, af, g⟩).run Try.prog w = .ok (.value (.pointer (some ⟨w.heap.size, 0, none⟩))) (w.alloc (.cells zero256 24)) := by
  simp only [execOp, Instr.alloc, Sem.run_bind, zeroValue26, Result.andThen_ok]
  rfl
theorem build26 (w : World) (ev : Operand → Value) (ds : Option Tmp) (ty : TypeId) (ps : String) (af : Array Edge) (g : Option (Nat × Bool)) :
    (execOp ev ⟨ds, .build 24 #[], ty, ps, af, g⟩).run Try.prog w = .ok (.value (.agg zero256)) w := by
  kernel_rfl

theorem slice26lo (w : World) (ev : Operand → Value) (ds : Option Tmp) (x lo : Operand) (ty : TypeId) (ps : String) (af : Array Edge) (g : Option (Nat × Bool)) (h : sliceOK (ev x) (ev lo) (.int .i64 (256 : Nat)) 256) :
    (execOp ev ⟨ds, .slice 24 x (some lo) none none, ty, ps, af, g⟩).run Try.prog w = .ok (.value (sliceV (ev x) (ev lo) (.int .i64 (256 : Nat)) 256)) w := execSlice_lo Try.underlying24 infoU8 w ev ds x lo ty ps af g h
theorem slice26lohi (w : World) (ev : Operand → Value) (ds : Option Tmp) (x lo hi : Operand) (ty : TypeId) (ps : String) (af : Array Edge) (g : Option (Nat × Bool)) (h : sliceOK (ev x) (ev lo) (ev hi) 256) :
    (execOp ev ⟨ds, .slice 24 x (some lo) (some hi) none, ty, ps, af, g⟩).run Try.prog w = .ok (.value (sliceV (ev x) (ev lo) (ev hi) 256)) w := execSlice_lohi Try.underlying24 infoU8 w ev ds x lo hi ty ps af g h
end Go.Proofs.Ytegcbdfilkecpaa
/- The reference's disk, its values in memory; no condition. -/
namespace Go.Proofs.Ytegcbdfilkecpaa
open Go.RowKit

theorem Blk.top {W : World} {g : Nat} {t : TypeId} {cs : Array Value} (e : W.heap.size = g) : Blk (W.alloc (.cells cs t)) g t cs := e ▸ Blk.new W t cs
/-- a file of the reference: its name, what is seen, what is kept -/
structure Rfile where
  nm : ByteArray
  seen : List Int
  kept : List Int
def rfCells (f : Rfile) : List Value := [.string f.nm, .string (strOf f.seen), .string (strOf f.kept)]
def rcCells (c : Cg) : List Value := [.string c.nm, .int .i64 c.sec, .int .i64 c.n, .string (strOf c.s)]
/-- no type of the stand-in disk's own blocks -/
def NotDk (t : TypeId) : Prop := t ≠ 121 ∧ t ≠ 143 ∧ t ≠ 148
instance (t : TypeId) : Decidable (NotDk t) := by unfold NotDk; infer_instance
/-- a list of structs in memory that nobody writes, in a block of another type than the stand-in disk's -/
def Rows (w : World) (A : Option Addr) (n : Nat) (sz : Nat) (xs : List (List Value)) : Prop :=
  xs.length = n ∧ (∀ x ∈ xs, x.length = sz) ∧ (0 < n → ∃ g o, ∃ t : { t : TypeId // NotDk t }, ∃ cs, A = some ⟨g, o, none⟩ ∧ Blk w g t.1 cs ∧ o + n * sz ≤ cs.size ∧ ∀ k (h : k < xs.length) j (hj : j < sz), cs[o + k * sz + j]? = xs[k][j]?)
theorem Rows.keep {w w' : World} {A : Option Addr} {n sz : Nat} {xs : List (List Value)} (h : Rows w A n sz xs) (k : Kp NoB w w') : Rows w' A n sz xs :=
  ⟨h.1, h.2.1, fun hn => by
    obtain ⟨g, o, t, cs, e, hb, hs, hc⟩ := h.2.2 hn
    exact ⟨g, o, t, cs, e, hb.keep k (fun q => q), hs, hc⟩⟩
theorem Rows.cell {w : World} {A : Option Addr} {n sz : Nat} {xs : List (List Value)} (h : Rows w A n sz xs) {k : Nat} {x : List Value} (hk : xs[k]? = some x) : ∃ g o, A = some ⟨g, o, none⟩ ∧ g < w.heap.size ∧ ∀ j v, x[j]? = some v → w.cell? ⟨g, o + k * sz + j, none⟩ = some v := by
  obtain ⟨hk', rfl⟩ := List.getElem?_eq_some_iff.1 hk
  obtain ⟨g, o, t, cs, e, hb, hs, hc⟩ := h.2.2 (by have := h.1; omega)
  refine ⟨g, o, e, hb.lt, fun j v hj => ?_⟩
  have hjl : j < sz := by
    rw [← h.2.1 _ (List.getElem_mem hk')]
    exact (List.getElem?_eq_some_iff.1 hj).1
  rw [hb.cell, hc k hk' j hjl]
  exact hj
structure Rd where
  fA : Option Addr
  fn : Nat
  fc : Nat
  fs : List Rfile
  pA : Option Addr
  pn : Nat
  pc : Nat
def findR (fs : List Rfile) (s : ByteArray) : Option Rfile := fs.find? fun f => decide (f.nm = s)
def seenR (fs : List Rfile) (s : ByteArray) : List Int := match findR fs s with | some f => f.seen | none => []
def keptR (fs : List Rfile) (s : ByteArray) : List Int := match findR fs s with | some f => f.kept | none => []
def sumR (fs : List Rfile) : Int := (fs.map fun f => (f.seen.length : Int)).sum
def ksumR (fs : List Rfile) : Int := (fs.map fun f => (f.kept.length : Int)).sum
structure RfOk (f : Rfile) : Prop where
  nl : f.nm.size ≤ maxLen
  srng : ∀ y ∈ f.seen, 0 ≤ y ∧ y < 256
  krng : ∀ y ∈ f.kept, 0 ≤ y ∧ y < 256
  sl : f.seen.length ≤ 1048576
  kl : f.kept.length ≤ 1048576
/-- the reference's disk is the plain state -/
structure Rf (w : World) (d : Rd) (p : Pl) : Prop where
  files : Rows w d.fA d.fn 3 (d.fs.map rfCells)
  pend : Rows w d.pA d.pn 4 (p.pd.map rcCells)
  fnil : d.fA = none → d.fn = 0 ∧ d.fc = 0
  pnil : d.pA = none → d.pn = 0 ∧ d.pc = 0
  fok : ∀ f ∈ d.fs, RfOk f
  cok : ∀ c ∈ p.pd, CgOk c
  names : d.fs.Pairwise fun x y => x.nm ≠ y.nm
  seen : p.seen = seenR d.fs
  kept : p.kept = keptR d.fs
  sum : p.sum = sumR d.fs
  ksum : p.ksum = ksumR d.fs
  nf : d.fn ≤ p.nf
  room : 0 ≤ p.room ∧ p.room ≤ 9223372036854775807
  steps : -9223372036854775808 ≤ p.steps ∧ p.steps ≤ 9223372036854775807
  crash : 0 ≤ p.crash ∧ p.crash ≤ 9223372036854775807
  starts : -9223372036854775808 ≤ p.starts ∧ p.starts ≤ 9223372036854775807
theorem Rf.keep {w w' : World} {d : Rd} {p : Pl} (h : Rf w d p) (k : Kp NoB w w') : Rf w' d p := { h with files := h.files.keep k, pend := h.pend.keep k }
theorem Rf.pl {w : World} {d : Rd} {p : Pl} (h : Rf w d p) : p.pd.length = d.pn := by have := h.pend.1; simpa using this
end Go.Proofs.Ytegcbdfilkecpaa
/- The reference's disk: Find, Seen, step; no condition. -/
namespace Go.Proofs.Ytegcbdfilkecpaa
open Go.RowKit

end Go.Proofs.Ytegcbdfilkecpaa
/- The reference's disk: Seen, file; no condition. -/
namespace Go.Proofs.Ytegcbdfilkecpaa
open Go.RowKit

end Go.Proofs.Ytegcbdfilkecpaa
/- The reference's lists of structs: rows in memory, appended and set; no condition. -/
namespace Go.Proofs.Ytegcbdfilkecpaa
open Go.RowKit

theorem flat_at (sz : Nat) : ∀ (xs : List (List Value)), (∀ x ∈ xs, x.length = sz) → ∀ (k j : Nat) (hj : j < sz) (hk : k < xs.length), xs.flatten[k * sz + j]? = xs[k][j]? := by
  intro xs
  induction xs with
  | nil => intro _ k j _ hk; simp at hk
  | cons x r ih =>
    intro h k j hj hk
    have hx := h x (by simp)
    rw [List.flatten_cons]
    cases k with
    | zero =>
      rw [List.getElem?_append_left (by rw [hx]; omega)]
      simp
    | succ k =>
      rw [List.getElem?_append_right (by rw [hx, Nat.add_mul]; omega), hx, show (k + 1) * sz + j - sz = k * sz + j by rw [Nat.add_mul]; omega, ih (fun y hy => h y (by simp [hy])) k j hj (by simpa using hk)]
      simp
theorem flat_len (sz : Nat) : ∀ (xs : List (List Value)), (∀ x ∈ xs, x.length = sz) → xs.flatten.length = xs.length * sz := by
  intro xs
  induction xs with
  | nil => intro _; simp
  | cons x r ih =>
    intro h
    rw [List.flatten_cons, List.length_append, h x (by simp), ih (fun y hy => h y (by simp [hy])), List.length_cons, Nat.add_mul]
    omega
theorem Rows.own {w : World} {base n cap sz : Nat} {e : TypeId} {A : Option Addr} {xs : List (List Value)} (h : w.ownsRow base e sz (.slice A n cap) n xs.flatten) (hl : xs.length = n) (hx : ∀ x ∈ xs, x.length = sz) (he : NotDk e := by decide) : Rows w A n sz xs :=
  ⟨hl, hx, fun hn => by
    obtain ⟨g, ds, rfl, hg, hb⟩ := own_blkN h hn
    refine ⟨g, 0, ⟨e, he⟩, _, rfl, hb, ?_, fun k hk j hj => ?_⟩
    · simp only [Nat.zero_add, List.size_toArray, List.length_append, flat_len sz xs hx, hl]
      omega
    · have hlt : k * sz + j < xs.flatten.length := by
        rw [flat_len sz xs hx]
        have : (k + 1) * sz ≤ xs.length * sz := Nat.mul_le_mul_right _ hk
        rw [Nat.add_mul] at this
        omega
      simp only [Nat.zero_add, List.getElem?_toArray]
      rw [List.getElem?_append_left hlt, flat_at sz xs hx k j hj hk]⟩
theorem Rows.src {w : World} {n sz : Nat} {A : Option Addr} {xs : List (List Value)} (h : Rows w A n sz xs) (hn : 0 < n) (hsz : 0 < sz) : ∃ g o, A = some ⟨g, o, none⟩ ∧ ∀ j u, xs.flatten[j]? = some u → w.cell? ⟨g, o + j, none⟩ = some u := by
  obtain ⟨g, o, t, cs, rfl, hb, hs, hc⟩ := h.2.2 hn
  refine ⟨g, o, rfl, fun j u hj => ?_⟩
  have hjl := (List.getElem?_eq_some_iff.1 hj).1
  rw [flat_len sz xs h.2.1] at hjl
  have hk : j / sz < xs.length := Nat.div_lt_of_lt_mul (by rw [Nat.mul_comm]; exact hjl)
  have hm : j % sz < sz := Nat.mod_lt _ hsz
  have e : j / sz * sz + j % sz = j := by rw [Nat.mul_comm]; exact Nat.div_add_mod j sz
  have h1 := flat_at sz xs h.2.1 (j / sz) (j % sz) hm hk
  rw [e, hj] at h1
  rw [hb.cell]
  have h2 := hc (j / sz) hk (j % sz) hm
  rw [Nat.add_assoc, e] at h2
  rw [h2, ← h1]
end Go.Proofs.Ytegcbdfilkecpaa
/- Lists of structs that lie in memory, whoever they belong to: rows that are read; no condition. -/
namespace Go.Proofs.Ytegcbdfilkecpaa
open Go.RowKit

/-- a list of structs in memory that may be read -/
def RowsC (w : World) (A : Option Addr) (n : Nat) (sz : Nat) (xs : List (List Value)) : Prop :=
  xs.length = n ∧ (∀ x ∈ xs, x.length = sz) ∧ (0 < n → ∃ g o, A = some ⟨g, o, none⟩ ∧ g < w.heap.size ∧ ∀ k (h : k < xs.length) j (hj : j < sz), w.cell? ⟨g, o + k * sz + j, none⟩ = xs[k][j]? ∧ w.frozen? ⟨g, o + k * sz + j, none⟩ = false)
theorem RowsC.keepS {S : Nat → Prop} {w w' : World} {A : Option Addr} {n sz : Nat} {xs : List (List Value)} (h : RowsC w A n sz xs) (k : Kp S w w') (hA : ∀ g o, A = some ⟨g, o, none⟩ → 0 < n → ¬ S g) : RowsC w' A n sz xs :=
  ⟨h.1, h.2.1, fun hn => by
    obtain ⟨g, o, e, hg, hc⟩ := h.2.2 hn
    have hb := k.block g hg (hA g o e hn)
    exact ⟨g, o, e, Nat.lt_of_lt_of_le hg k.size, fun i hi j hj => ⟨(World.cell?_of_block (w := w) hb).trans (hc i hi j hj).1, (World.frozen?_of_block (w := w) hb).trans (hc i hi j hj).2⟩⟩⟩
theorem RowsC.keep {w w' : World} {A : Option Addr} {n sz : Nat} {xs : List (List Value)} (h : RowsC w A n sz xs) (k : Kp NoB w w') : RowsC w' A n sz xs := h.keepS k (fun _ _ _ _ q => q)
theorem RowsC.cell {w : World} {A : Option Addr} {n sz : Nat} {xs : List (List Value)} (h : RowsC w A n sz xs) {k : Nat} {x : List Value} (hk : xs[k]? = some x) : ∃ g o, A = some ⟨g, o, none⟩ ∧ g < w.heap.size ∧ ∀ j v, x[j]? = some v → w.cell? ⟨g, o + k * sz + j, none⟩ = some v := by
  obtain ⟨hk', rfl⟩ := List.getElem?_eq_some_iff.1 hk
  obtain ⟨g, o, e, hg, hc⟩ := h.2.2 (by have := h.1; omega)
  refine ⟨g, o, e, hg, fun j v hj => ?_⟩
  have hjl : j < sz := by
    rw [← h.2.1 _ (List.getElem_mem hk')]
    exact (List.getElem?_eq_some_iff.1 hj).1
  rw [(hc k hk' j hjl).1]
  exact hj
theorem RowsC.own {w : World} {base n cap sz : Nat} {e : TypeId} {A : Option Addr} {xs : List (List Value)} (h : w.ownsRow base e sz (.slice A n cap) n xs.flatten) (hl : xs.length = n) (hx : ∀ x ∈ xs, x.length = sz) : RowsC w A n sz xs :=
  ⟨hl, hx, fun hn => by
    obtain ⟨g, ds, rfl, hg, hb⟩ := own_blkN h hn
    refine ⟨g, 0, rfl, hb.lt, fun k hk j hj => ⟨?_, hb.frozen _⟩⟩
    have hlt : k * sz + j < xs.flatten.length := by
      rw [flat_len sz xs hx]
      have : (k + 1) * sz ≤ xs.length * sz := Nat.mul_le_mul_right _ hk
      rw [Nat.add_mul] at this
      omega
    rw [hb.cell]
    simp only [Nat.zero_add, List.getElem?_toArray]
    rw [List.getElem?_append_left hlt, flat_at sz xs hx k j hj hk]⟩
theorem RowsC.src {w : World} {n sz : Nat} {A : Option Addr} {xs : List (List Value)} (h : RowsC w A n sz xs) (hn : 0 < n) (hsz : 0 < sz) : ∃ g o, A = some ⟨g, o, none⟩ ∧ ∀ j u, xs.flatten[j]? = some u → w.cell? ⟨g, o + j, none⟩ = some u := by
  obtain ⟨g, o, rfl, hg, hc⟩ := h.2.2 hn
  refine ⟨g, o, rfl, fun j u hj => ?_⟩
  have hjl := (List.getElem?_eq_some_iff.1 hj).1
  rw [flat_len sz xs h.2.1] at hjl
  have hk : j / sz < xs.length := Nat.div_lt_of_lt_mul (by rw [Nat.mul_comm]; exact hjl)
  have hm : j % sz < sz := Nat.mod_lt _ hsz
  have e : j / sz * sz + j % sz = j := by rw [Nat.mul_comm]; exact Nat.div_add_mod j sz
  have h1 := flat_at sz xs h.2.1 (j / sz) (j % sz) hm hk
  rw [e, hj] at h1
  have h2 := (hc (j / sz) hk (j % sz) hm).1
  rw [Nat.add_assoc, e] at h2
  rw [h2, ← h1]
end Go.Proofs.Ytegcbdfilkecpaa
/- The journal's types in memory: sectors, words, numbered pages; no condition. -/
namespace Go.Proofs.Ytegcbdfilkecpaa
open Go.RowKit

theorem infoSec : (Try.prog.info? 146).map (·.size) = some 64 := by kernel_rfl
theorem zeroSec (w : World) : (zeroValue 146).run Try.prog w = .ok (.agg (bytesV (zeros 64))) w := by kernel_rfl
theorem loadSec (w : World) (ev : Operand → Value) (ds : Option Tmp) (x : Operand) (ty : TypeId) (ps : String) (af : Array Edge) (g : Option (Nat × Bool)) (h : thereP w (ev x) 64) :
    (execOp ev ⟨ds, .load 146 x, ty, ps, af, g⟩).run Try.prog w = .ok (.value (.agg (readP w (ev x) 64))) w := execLoad_P Try.underlying146 rfl infoSec w ev ds x ty ps af g h
theorem storeSec (w : World) (ev : Operand → Value) (ds : Option Tmp) (x y : Operand) (ty : TypeId) (ps : String) (af : Array Edge) (g : Option (Nat × Bool)) (hv : aggOK (ev y) 64) (h : thereP w (ev x) 64) :
    (execOp ev ⟨ds, .store 146 x y, ty, ps, af, g⟩).run Try.prog w = .ok .skip (setP w (ev x) (ev y)) := execStore_P infoSec w ev ds x y ty ps af g hv h
theorem allocSec (w : World) (ev : Operand → Value) (ds : Option Tmp) (ty : TypeId) (ps : String) (af : Array Edge) (g : Option (Nat × Bool)) :
    (execOp ev ⟨ds, .alloc 146, ty, ps, af, g⟩).run Try.prog w = .ok (.value (.pointer (some ⟨w.heap.size, 0, none⟩))) (w.alloc (.cells (bytesV (zeros 64)) 146)) := by
  simp only [execOp, Instr.alloc, Sem.run_bind, zeroSec, Result.andThen_ok]
  rfl
theorem infoW4 : (Try.prog.info? 102).map (·.size) = some 4 := by kernel_rfl
theorem loadW4 (w : World) (ev : Operand → Value) (ds : Option Tmp) (x : Operand) (ty : TypeId) (ps : String) (af : Array Edge) (g : Option (Nat × Bool)) (h : thereP w (ev x) 4) :
    (execOp ev ⟨ds, .load 102 x, ty, ps, af, g⟩).run Try.prog w = .ok (.value (.agg (readP w (ev x) 4))) w := execLoad_P Try.underlying102 rfl infoW4 w ev ds x ty ps af g h
theorem storeW4 (w : World) (ev : Operand → Value) (ds : Option Tmp) (x y : Operand) (ty : TypeId) (ps : String) (af : Array Edge) (g : Option (Nat × Bool)) (hv : aggOK (ev y) 4) (h : thereP w (ev x) 4) :
    (execOp ev ⟨ds, .store 102 x y, ty, ps, af, g⟩).run Try.prog w = .ok .skip (setP w (ev x) (ev y)) := execStore_P infoW4 w ev ds x y ty ps af g hv h
def w4A (w : W4) : Array Value := #[.int .u32 w.a, .int .u32 w.b, .int .u32 w.c, .int .u32 w.d]
theorem w4A_ones (w : W4) : ones (w4A w) := by unfold ones w4A; simp [Value.oneCell']
/-- a page with its number, as a value -/
def pgL (x : Pg) : List Value := .int .i64 x.n :: x.b.map (Value.int .u8)
def pgA (x : Pg) : Array Value := (pgL x).toArray
structure PgOk (x : Pg) : Prop where
  len : x.b.length = 256
  rng : ∀ y ∈ x.b, 0 ≤ y ∧ y < 256
  n0 : -9223372036854775808 ≤ x.n ∧ x.n ≤ 9223372036854775807
theorem pgL_len {x : Pg} (h : PgOk x) : (pgL x).length = 257 := by simp [pgL, h.len]
theorem pgA_size {x : Pg} (h : PgOk x) : (pgA x).size = 257 := by simp [pgA, pgL_len h]
theorem pgL_one (x : Pg) : ∀ u ∈ pgL x, u.oneCell' = true := by
  intro u hu
  unfold pgL at hu
  rcases List.mem_cons.1 hu with rfl | hu
  · rfl
  · exact u8_one _ u hu
theorem pgA_ones (x : Pg) : ones (pgA x) := by
  unfold ones pgA
  simp only [List.all_toArray', List.all_eq_true]
  exact pgL_one x
theorem infoPgA : (Try.prog.info? 113).map (fun i => (i.zero, i.size, i.bytes)) = some (some (.agg ((#[.int .i64 0] : Array Value) ++ Array.replicate 256 (.int .u8 0))), 257, 264) := by kernel_rfl
theorem infoPgS : (Try.prog.info? 113).map (·.size) = some 257 := by kernel_rfl
theorem zeroPg (w : World) : (zeroValue 113).run Try.prog w = .ok (.agg (pgA ⟨0, zeros 256⟩)) w := by kernel_rfl
theorem loadPg (w : World) (ev : Operand → Value) (ds : Option Tmp) (x : Operand) (ty : TypeId) (ps : String) (af : Array Edge) (g : Option (Nat × Bool)) (h : thereP w (ev x) 257) :
    (execOp ev ⟨ds, .load 113 x, ty, ps, af, g⟩).run Try.prog w = .ok (.value (.agg (readP w (ev x) 257))) w := execLoad_P Try.underlying113 rfl infoPgS w ev ds x ty ps af g h
theorem storePg (w : World) (ev : Operand → Value) (ds : Option Tmp) (x y : Operand) (ty : TypeId) (ps : String) (af : Array Edge) (g : Option (Nat × Bool)) (hv : aggOK (ev y) 257) (h : thereP w (ev x) 257) :
    (execOp ev ⟨ds, .store 113 x y, ty, ps, af, g⟩).run Try.prog w = .ok .skip (setP w (ev x) (ev y)) := execStore_P infoPgS w ev ds x y ty ps af g hv h
theorem allocPg (w : World) (ev : Operand → Value) (ds : Option Tmp) (ty : TypeId) (ps : String) (af : Array Edge) (g : Option (Nat × Bool)) :
    (execOp ev ⟨ds, .alloc 113, ty, ps, af, g⟩).run Try.prog w = .ok (.value (.pointer (some ⟨w.heap.size, 0, none⟩))) (w.alloc (.cells (pgA ⟨0, zeros 256⟩) 113)) := by
  simp only [execOp, Instr.alloc, Sem.run_bind, zeroPg, Result.andThen_ok]
  rfl
theorem buildPg1 (w : World) (n : Int) : (Instr.build 113 #[(0, .int .i64 n)]).run Try.prog w = .ok (.agg (pgA ⟨n, zeros 256⟩)) w := by kernel_rfl
theorem exBuildPg1 (w : World) (ev : Operand → Value) (x : Operand) (n : Int) (ds : Option Tmp) (ty : TypeId) (ps : String) (af : Array Edge) (g : Option (Nat × Bool)) (hx : ev x = .int .i64 n) :
    (execOp ev ⟨ds, .build 113 #[(0, x)], ty, ps, af, g⟩).run Try.prog w = .ok (.value (.agg (pgA ⟨n, zeros 256⟩))) w := by
  simp only [execOp, List.map_toArray, List.map_cons, List.map_nil, hx, Sem.run_bind, buildPg1, Result.andThen_ok]
  rfl
theorem slicePg (w : World) (cs : Array Value) (hs : cs.size = 257) : (Instr.buildSlice 22 1 #[(0, .agg cs)]).run Try.prog w = .ok (.slice (some ⟨w.heap.size, 0, none⟩) 1 1) (w.alloc (.cells cs 113)) := by
  obtain ⟨i, hi, h0, h1, h2⟩ := info_parts infoPgA
  have hu := Try.underlying22
  have hc : (Value.agg cs).cells = cs := rfl
  have hf : ∀ Z : Array Value, Z.size = 257 → Instr.fill (fun i => some (i * 257, 257)) Z [(0, .agg cs)] = some cs := fun Z hZ => by
    have := Go.Great.fill_whole (s := 257) (by omega) [.agg cs] Z (by simp [hc, hs]) (by simp [hZ])
    simpa [hc] using this
  simp [Instr.buildSlice, run_underlying hu, sizeOf, typeInfo, hi, h1, zeroPg, newRow, newObj]
  rw [hf _ (by simp)]
  rfl
theorem exSlicePg (w : World) (ev : Operand → Value) (x : Operand) (cs : Array Value) (ds : Option Tmp) (ty : TypeId) (ps : String) (af : Array Edge) (g : Option (Nat × Bool)) (hx : ev x = .agg cs) (hs : cs.size = 257) :
    (execOp ev ⟨ds, .buildSlice 22 1 #[(0, x)], ty, ps, af, g⟩).run Try.prog w = .ok (.value (.slice (some ⟨w.heap.size, 0, none⟩) 1 1)) (w.alloc (.cells cs 113)) := by
  simp only [execOp, List.map_toArray, List.map_cons, List.map_nil, hx, Sem.run_bind, slicePg w cs hs, Result.andThen_ok]
  rfl
/-- a list of pages in memory -/
def PgsAt (w : World) (A : Option Addr) (n : Nat) (l : List Pg) : Prop := RowsC w A n 257 (l.map pgL)
theorem PgsAt.len {w : World} {A : Option Addr} {n : Nat} {l : List Pg} (h : PgsAt w A n l) : l.length = n := by have := h.1; simpa using this
theorem PgsAt.keep {w w' : World} {A : Option Addr} {n : Nat} {l : List Pg} (h : PgsAt w A n l) (k : Kp NoB w w') : PgsAt w' A n l := RowsC.keep h k
/-- one of its pages -/
theorem PgsAt.at_ {w : World} {A : Option Addr} {n : Nat} {l : List Pg} (h : PgsAt w A n l) (k : Nat) (hk : k < n) : ∃ g o, A = some ⟨g, o, none⟩ ∧ g < w.heap.size ∧ w.there g (o + k * 257) 257 ∧ readRow w g (o + k * 257) 257 = pgA (l[k]'(by rw [h.len]; exact hk)) := by
  have hkl : k < (l.map pgL).length := by have := h.1; omega
  obtain ⟨g, o, e, hg, hc⟩ := h.2.2 (by omega)
  have hl : ((l.map pgL)[k]).length = 257 := h.2.1 _ (List.getElem_mem hkl)
  have h2 : k * 257 + 257 ≤ n * 257 := by omega
  have ht : w.there g (o + k * 257) 257 := fun j hj => by
    obtain ⟨h5, h6⟩ := hc k hkl j hj
    refine ⟨?_, h6⟩
    rw [h5, List.getElem?_eq_getElem (by omega)]
    rfl
  refine ⟨g, o, e, hg, ht, ?_⟩
  unfold readRow pgA
  congr 1
  apply List.ext_getElem
  · simp only [List.getElem_map] at hl
    simp [hl]
  · intro j h1 h3
    have hj : j < 257 := by simpa using h1
    simp only [List.getElem_map, List.getElem_range]
    rw [(hc k hkl j hj).1]
    simp only [List.getElem_map]
    rw [List.getElem?_eq_getElem h3]
    rfl
/-- copy of a string into bytes that lie there -/
theorem copyS (w : World) (g o n cap : Nat) (s : ByteArray) (hle : s.size ≤ n) (ht : w.there g o s.size) :
    (Builtin.copy_ #[42, 9] 3 #[.slice (some ⟨g, o, none⟩) n cap, .string s]).run Try.prog w = .ok (.int .i64 s.size) (w.setCells g o ((strI s).map (Value.int .u8))) := by
  have hrun := Go.run_copy_string (P := Try.prog) w 42 9 3 5 g o n cap s Try.underlying42 sizeU8 hle (fun j hj => (ht j hj).1) (fun j hj => (ht j hj).2)
  have e : (strI s).map (Value.int .u8) = s.data.toList.map fun x => Value.int .u8 (x.toNat : Int) := by
    unfold strI
    rw [List.map_map]
    rfl
  rw [e]
  exact hrun
end Go.Proofs.Ytegcbdfilkecpaa
/- The sealed sector: one of its copies read; no condition. -/
namespace Go.Proofs.Ytegcbdfilkecpaa
open Go.RowKit

/-- the first k bytes from place a on as a number -/
def accN (l : List Int) (a : Nat) : Nat → Int
  | 0 => 0
  | k + 1 => accN l a k * 256 + l.getD (a + k) 0
theorem getD_rng {l : List Int} (h : ∀ y ∈ l, 0 ≤ y ∧ y < 256) (a : Nat) : 0 ≤ l.getD a 0 ∧ l.getD a 0 < 256 := by
  rcases Nat.lt_or_ge a l.length with q | q
  · rw [List.getD_eq_getElem?_getD, List.getElem?_eq_getElem q]
    exact h _ (List.getElem_mem q)
  · rw [List.getD_eq_getElem?_getD, List.getElem?_eq_none q]
    decide
theorem accN_num (l : List Int) (a : Nat) : accN l a 4 = num l a := by
  unfold accN accN accN accN accN num
  simp only [Nat.add_zero]
  omega
theorem accN_rng {l : List Int} (h : ∀ y ∈ l, 0 ≤ y ∧ y < 256) (a : Nat) : ∀ k, 0 ≤ accN l a k ∧ accN l a k < 256 ^ k
  | 0 => by simp [accN]
  | k + 1 => by
    obtain ⟨h1, h2⟩ := accN_rng h a k
    obtain ⟨h3, h4⟩ := getD_rng h (a + k)
    unfold accN
    rw [Int.pow_succ]
    omega
theorem num_rng {l : List Int} (h : ∀ y ∈ l, 0 ≤ y ∧ y < 256) (a : Nat) : 0 ≤ num l a ∧ num l a < 4294967296 := by
  rw [← accN_num]
  have := accN_rng h a 4
  have e : (256 : Int) ^ 4 = 4294967296 := by decide
  omega
theorem sliceSeclohi (w : World) (ev : Operand → Value) (ds : Option Tmp) (x lo hi : Operand) (ty : TypeId) (ps : String) (af : Array Edge) (g : Option (Nat × Bool)) (h : sliceOK (ev x) (ev lo) (ev hi) 64) :
    (execOp ev ⟨ds, .slice 146 x (some lo) (some hi) none, ty, ps, af, g⟩).run Try.prog w = .ok (.value (sliceV (ev x) (ev lo) (ev hi) 64)) w := execSlice_lohi Try.underlying146 infoU8 w ev ds x lo hi ty ps af g h
theorem or_byteS (a x : Int) (h0 : 0 ≤ a) (h1 : a < 16777216) (h2 : 0 ≤ x) (h3 : x < 256) : bits BinOp.or IntKind.u32 (a * 256) x = a * 256 + x := by
  obtain ⟨m, rfl⟩ := Int.eq_ofNat_of_zero_le h0
  obtain ⟨n, rfl⟩ := Int.eq_ofNat_of_zero_le h2
  have e : bits BinOp.or IntKind.u32 ((m : Int) * 256) n = IntKind.u32.wrap ((BitVec.ofInt 32 ((m : Int) * 256) ||| BitVec.ofInt 32 n).toNat) := rfl
  have hm : m < 16777216 := by omega
  have hn : n < 256 := by omega
  have e1 : BitVec.ofInt 32 ((m : Int) * 256) = BitVec.ofNat 32 (m * 256) := by
    rw [show ((m : Int) * 256) = ((m * 256 : Nat) : Int) by omega]
    exact BitVec.ofInt_natCast _ _
  have e2 : BitVec.ofInt 32 (n : Int) = BitVec.ofNat 32 n := BitVec.ofInt_natCast _ _
  rw [e, e1, e2, BitVec.toNat_or, BitVec.toNat_ofNat, BitVec.toNat_ofNat, Nat.mod_eq_of_lt (by omega), Nat.mod_eq_of_lt (by omega)]
  have h := Nat.shiftLeft_add_eq_or_of_lt (i := 8) (b := n) (by omega) m
  rw [Nat.shiftLeft_eq] at h
  have h' : m * 256 ||| n = m * 256 + n := h.symm
  rw [h', IntKind.wrap_u32]
  omega
/-- four words, the first i read, the i-th under way -/
def uW (l : List Int) (a i : Nat) (x : Int) : List Int := (List.range 4).map fun j => if j < i then num l (a + 4 * j) else if j = i then x else 0
def uWA (l : List Int) (a i : Nat) (x : Int) : Array Value := ((uW l a i x).map (Value.int .u32)).toArray
theorem uWA_set (l : List Int) (a i : Nat) (x y : Int) (hi : i < 4) : (uWA l a i x).setIfInBounds i (.int .u32 y) = uWA l a i y := by
  rcases (show i = 0 ∨ i = 1 ∨ i = 2 ∨ i = 3 by omega) with rfl | rfl | rfl | rfl <;> rfl
theorem uWA_get (l : List Int) (a i : Nat) (x : Int) (hi : i < 4) : (uWA l a i x)[i]? = some (.int .u32 x) := by
  rcases (show i = 0 ∨ i = 1 ∨ i = 2 ∨ i = 3 by omega) with rfl | rfl | rfl | rfl <;> rfl
theorem uWA_next (l : List Int) (a i : Nat) (hi : i < 4) : uWA l a i (num l (a + 4 * i)) = uWA l a (i + 1) 0 := by
  rcases (show i = 0 ∨ i = 1 ∨ i = 2 ∨ i = 3 by omega) with rfl | rfl | rfl | rfl <;> rfl
theorem uWA_all (l : List Int) (a : Nat) (x : Int) : uWA l a 4 x = w4A (wordsAt l a) := rfl
/-- in the midst of words -/
structure WdS (w : World) (l : List Int) (a i : Nat) (x : Int) (W : World) : Prop where
  kp : Kp NoB w W
  b1 : Blk W w.heap.size 146 (bytesV l)
  b2 : Blk W (w.heap.size + 1) 102 #[.int .u32 0, .int .u32 0, .int .u32 0, .int .u32 0]
  b3 : Blk W (w.heap.size + 2) 102 (uWA l a i x)
theorem WdS.set_ {w : World} {l : List Int} {a i : Nat} {x : Int} {W : World} (h : WdS w l a i x W) (hi : i < 4) (y : Int) : WdS w l a i y (W.setCell ⟨w.heap.size + 2, i, none⟩ (.int .u32 y)) := by
  refine ⟨h.kp.setCell (p := ⟨w.heap.size + 2, i, none⟩) (.inl (by show _ ≤ w.heap.size + 2; omega)) _, h.b1.far (p := ⟨w.heap.size + 2, i, none⟩) (by simp) _, h.b2.far (p := ⟨w.heap.size + 2, i, none⟩) (by simp) _, ?_⟩
  have := h.b3.set_ i (.int .u32 y)
  rwa [uWA_set _ _ _ _ _ hi] at this
attribute [local go_sem ↓] loadSec storeSec allocSec sliceSeclohi loadW4 storeW4
set_option maxRecDepth 100000 in
set_option maxHeartbeats 1600000 in
theorem words_ok (w : World) (l : List Int) (c : Nat) (hc : c ≤ 2) (hl : l.length = 64) (hr : ∀ y ∈ l, 0 ≤ y ∧ y < 256) :
    Calls Try.prog 155 #[.agg (bytesV l), .int .i64 c] w fun e w' => e = .returned (.agg (w4A (wordsAt l (16 * c)))) ∧ Kp NoB w w' := by
  have HL := Lib.hid hl
  have HR := Lib.hid hr
  have hst : WdS w l (16 * c) 0 0 (((w.alloc (.cells (bytesV l) 146)).alloc (.cells #[.int .u32 0, .int .u32 0, .int .u32 0, .int .u32 0] 102)).alloc (.cells #[.int .u32 0, .int .u32 0, .int .u32 0, .int .u32 0] 102)) :=
    ⟨(((Kp.refl _ _).alloc _).alloc _).alloc _, ((Blk.new _ _ _).alloc _).alloc _, (Blk.newAt _ _ _ _ (by simp)).alloc _, Blk.newAt _ _ _ _ (by simp)⟩
  have HST := Lib.hid hst
  clear hst hl hr
  go_enter Try.func155, Try.ntmps155
  go_wp2
  refine forget (p := fun wx => Code.wp _ _ _ _ wx) (WdS w l (16 * c) 0 0) HST.out ?_
  intro W hW
  have HW := Lib.hid hW
  clear hW HST
  go_loopw [9] (fun v wr => ∃ i : Nat, i ≤ 4 ∧ v = .int .i64 i ∧ WdS w l (16 * c) i 0 wr) (fun v _ => 4 - (intOf v).toNat)
  case atStart => exact ⟨0, by omega, rfl, HW.out⟩
  case round =>
    obtain ⟨i, hi, rfl, hs⟩ := hrel
    have HS := Lib.hid hs
    clear hs
    by_cases hlt : i < 4
    · obtain ⟨A, hA⟩ : ∃ A, 16 * c + 4 * i = A := ⟨_, rfl⟩
      have HA := Lib.hid hA
      have hw1 : IntKind.i64.wrap ((c : Int) * 16) = (c : Int) * 16 := by rw [IntKind.wrap_i64]; omega
      have hw2 : IntKind.i64.wrap ((i : Int) * 4) = (i : Int) * 4 := by rw [IntKind.wrap_i64]; omega
      have hw3 : IntKind.i64.wrap ((c : Int) * 16 + (i : Int) * 4) = (A : Int) := by rw [IntKind.wrap_i64]; omega
      have hw4 : IntKind.i64.wrap ((A : Int) + 4) = (A : Int) + 4 := by rw [IntKind.wrap_i64]; omega
      have hA0 : A + 4 ≤ 64 := by omega
      have hA1 : (A : Int) + 4 ≤ 64 := by omega
      have hA2 : (A : Int) ≤ (A : Int) + 4 := by omega
      have hA3 : ((A : Int) + 4).toNat = A + 4 := by omega
      have hA4 : 0 ≤ (A : Int) + 4 := by omega
      have hne : ¬ 64 = A := by omega
      have hii : (i : Int) < 4 := by omega
      clear hA
      go_wp2_with fail
      go_loopw [25] (fun v wr => ∃ k : Nat, k ≤ 4 ∧ v = .int .i64 k ∧ WdS w l (16 * c) i (accN l A k) wr) (fun v _ => 4 - (intOf v).toNat)
      case atStart => exact ⟨0, by omega, rfl, HS.out⟩
      case round =>
        obtain ⟨k, hk, rfl, hs2⟩ := hrel
        have HS2 := Lib.hid hs2
        by_cases hk4 : k < 4
        · have hkk : (k : Int) < 4 := by omega
          obtain ⟨b, hb⟩ : ∃ b, l.getD (A + k) 0 = b := ⟨_, rfl⟩
          have HB := Lib.hid hb
          have c1 : wr.cell? ⟨w.heap.size, A + k, none⟩ = some (.int .u8 b) := by
            rw [hs2.b1.cell, ← hb]
            unfold bytesV
            have := HL.out
            simp [List.getD_eq_getElem?_getD, show A + k < l.length by omega]
          obtain ⟨x, hx⟩ : ∃ x, accN l A k = x := ⟨_, rfl⟩
          have HX := Lib.hid hx
          have hbr := getD_rng HR.out (A + k)
          rw [hb] at hbr
          have hxr : 0 ≤ x ∧ x < 16777216 := by
            have := accN_rng HR.out A k
            rw [hx] at this
            rcases (show k = 0 ∨ k = 1 ∨ k = 2 ∨ k = 3 by omega) with rfl | rfl | rfl | rfl <;> simp at this <;> omega
          have c2 : wr.cell? ⟨w.heap.size + 1 + 1, i, none⟩ = some (.int .u32 x) := by rw [show w.heap.size + 1 + 1 = w.heap.size + 2 from rfl, hs2.b3.cell, hx]; exact uWA_get _ _ _ _ hlt
          have z2 : wr.frozen? ⟨w.heap.size + 1 + 1, i, none⟩ = false := hs2.b3.frozen i
          have HBR := Lib.hid hbr
          have HXR := Lib.hid hxr
          have hsh : IntKind.u32.wrap (x * 256) = x * 256 := by rw [IntKind.wrap_u32]; omega
          clear hs2 hb hx hbr hxr
          go_wp2_with fail
          refine ⟨⟨k + 1, by omega, by congr 1, ?_⟩, by simp [intOf]; omega⟩
          have e : accN l A (k + 1) = x * 256 + b := by
            show accN l A k * 256 + l.getD (A + k) 0 = _
            rw [HX.out, HB.out]
          rw [Int.emod_eq_of_lt HBR.out.1 (by have := HBR.out.2; omega), or_byteS x b HXR.out.1 HXR.out.2 HBR.out.1 HBR.out.2, ← e]
          exact (HS2.out.set_ hlt _).set_ hlt _
        · have hkk : ¬ (k : Int) < 4 := by omega
          obtain rfl : k = 4 := by omega
          clear hs2
          go_wp2_with fail
          refine ⟨⟨i + 1, by omega, by congr 1, ?_⟩, by simp [intOf]; omega⟩
          have h2 := HS2.out
          rw [accN_num, ← HA.out] at h2
          exact ⟨h2.kp, h2.b1, h2.b2, by have := h2.b3; rwa [uWA_next _ _ _ hlt] at this⟩
    · have hii : ¬ (i : Int) < 4 := by omega
      obtain rfl : i = 4 := by omega
      have hs := HS.out
      have b3 := hs.b3
      rw [uWA_all] at b3
      have t1 : wr.there (w.heap.size + 1 + 1) 0 4 := b3.thereAll 4 rfl
      have r1 : readRow wr (w.heap.size + 1 + 1) 0 4 = w4A (wordsAt l (16 * c)) := b3.readAll 4 rfl
      have t2 : wr.there (w.heap.size + 1) 0 4 := hs.b2.thereAll 4 rfl
      have o1 := w4A_ones (wordsAt l (16 * c))
      have s1 : (w4A (wordsAt l (16 * c))).size = 4 := rfl
      obtain ⟨RR, hRR⟩ : ∃ RR, w4A (wordsAt l (16 * c)) = RR := ⟨_, rfl⟩
      rw [hRR] at r1 o1 s1
      have HRR := Lib.hid hRR
      have S1 := Lib.hid s1
      clear hRR
      clear hs b3
      go_wp2_with fail
      refine bodyPost_ret (ret_cell1 rfl _ _ _ _ _ _ rfl (HS.out.b2.whole RR S1.out.symm) Try.underlying102 rfl (by rw [S1.out]; exact infoW4)) rfl ⟨by rw [HRR.out], ?_⟩
      exact Kp.setCells (.inl (by omega)) _ _ _ HS.out.kp
end Go.Proofs.Ytegcbdfilkecpaa
/- A region with several ways that end alike: they are brought to one form; a long store among the ready operations; no condition. -/
namespace Go.Proofs.Ytegcbdfilkecpaa
open Go

def Into (F : Nat → Act) (G : World → Nat → Prop) : Exit → Act → World → Prop
  | .normal, a, w => ∃ g, a = F g ∧ G w g
  | _, _, _ => False
theorem wp_into {P : Program} {c : Code} {Q : Exit → Act → World → Prop} {a : Act} {w : World} (F : Nat → Act) (G : World → Nat → Prop) (h : c.wp P (Into F G) a w) (k : ∀ g w', G w' g → Q .normal (F g) w') : c.wp P Q a w :=
  Code.wp_mono (fun e a w q => by cases e <;> first | exact q.elim | (obtain ⟨g, rfl, hg⟩ := q; exact k g _ hg)) h
theorem into_of {F : Nat → Act} {G : World → Nat → Prop} {a : Act} {w : World} (g : Nat) (h : G w g) (e : a = F g) : Into F G .normal a w := ⟨g, e, h⟩

theorem AllReadyH.store {P : Program} {ops : Array Oper} {Q : Exit → Act → World → Prop} {md : Region.Mode} {S : World → Prop} {fuel : Nat} {listed : Array Bool} {a : Act} {w : World} {i : Nat} {o : Oper} {rs : List Nat} (ho : ops[i]? = some o)
    (hw : Region.wanted o (yielded ops a.tmps) = true) (ty : TypeId) (x y : Operand) (hop : o.op = .store ty x y) (b off : Nat) (cells : Array Value)
    (hx : a.eval x = .pointer (some ⟨b, off, none⟩)) (hy : a.eval y = .agg cells) (ht : w.there b off cells.size) (hi : (P.info? ty).map (·.size) = some cells.size) (h1 : cells.all (·.oneCell') = true)
    (hS : S (w.setCells b off cells.toList)) (hn : wpAnyH P md ops Q S fuel (listed.setIfInBounds i true) (a.put o.dst undef) (w.setCells b off cells.toList))
    (hs : AllReadyH P md ops Q S fuel listed a w rs) : AllReadyH P md ops Q S fuel listed a w (i :: rs) :=
  AllReadyH.cons ho (fun K hK => by rw [if_pos hw]; exact wp_store_mid ty x y hop b off cells hx hy ht hi h1 (hK.out _ _ hS (fun _ => hn))) hs
end Go.Proofs.Ytegcbdfilkecpaa
/- A region with several ways that end alike in two blocks and two values; a call, a value among the ready operations; no condition. -/
namespace Go.Proofs.Ytegcbdfilkecpaa
open Go

section
variable {P : Program} {ops : Array Oper} {Q : Exit → Act → World → Prop} {md : Region.Mode} {S : World → Prop} {fuel : Nat} {listed : Array Bool} {a : Act} {w : World} {i : Nat} {rs : List Nat}
variable {ds : Option Tmp} {op : Op} {ty : TypeId} {ps : String} {af : Array Edge} {gd : Option (Nat × Bool)}
/-- a call among the ready operations: what is known behind it is R -/
theorem AllReadyH.callR (R : Value → World → Prop) (ho : ops[i]? = some ⟨ds, op, ty, ps, af, gd⟩) (hw : Region.wanted ⟨ds, op, ty, ps, af, gd⟩ (yielded ops a.tmps) = true) (f : FuncId) (args : Array Value)
    (hr : (execOp a.eval ⟨ds, op, ty, ps, af, gd⟩).run P w = .ok (.enter f args) w) (hS : ∀ v w', R v w' → S w') (hc : Calls P f args w fun e w' => ∃ v, e = .returned v ∧ R v w')
    (hn : ∀ v w', R v w' → wpAnyH P md ops Q S fuel (listed.setIfInBounds i true) (a.put ds v) w')
    (hs : AllReadyH P md ops Q S fuel listed a w rs) : AllReadyH P md ops Q S fuel listed a w (i :: rs) :=
  AllReadyH.cons ho (fun K hK => by
    rw [if_pos hw]
    unfold Oper.wp
    rw [hr, Oper.upon_enter]
    refine hc.mono ?_
    rintro e w' ⟨v, rfl, h⟩
    exact hK.out _ _ (hS v w' h) (fun _ => hn v w' h)) hs
/-- an operation that yields a value and turns the world: what is known behind it is R -/
theorem AllReadyH.valR (R : World → Prop) (ho : ops[i]? = some ⟨ds, op, ty, ps, af, gd⟩) (hw : Region.wanted ⟨ds, op, ty, ps, af, gd⟩ (yielded ops a.tmps) = true) (v : Value) (w' : World)
    (hr : (execOp a.eval ⟨ds, op, ty, ps, af, gd⟩).run P w = .ok (.value v) w') (hS : ∀ w', R w' → S w') (h : R w')
    (hn : ∀ w', R w' → wpAnyH P md ops Q S fuel (listed.setIfInBounds i true) (a.put ds v) w')
    (hs : AllReadyH P md ops Q S fuel listed a w rs) : AllReadyH P md ops Q S fuel listed a w (i :: rs) :=
  AllReadyH.cons ho (fun K hK => by
    rw [if_pos hw]
    unfold Oper.wp
    rw [hr, Oper.upon_value]
    exact hK.out _ _ (hS w' h) (fun _ => hn w' h)) hs
theorem AllReadyH.storeL {tx : TypeId} {x y : Operand} (ho : ops[i]? = some ⟨none, .store tx x y, ty, ps, af, gd⟩)
    (hw : Region.wanted ⟨none, .store tx x y, ty, ps, af, gd⟩ (yielded ops a.tmps) = true) (b off : Nat) (cells : Array Value)
    (hx : a.eval x = .pointer (some ⟨b, off, none⟩)) (hy : a.eval y = .agg cells) (ht : w.there b off cells.size) (hi : (P.info? tx).map (·.size) = some cells.size) (h1 : cells.all (·.oneCell') = true)
    (hS : S (w.setCells b off cells.toList)) (hn : wpAnyH P md ops Q S fuel (listed.setIfInBounds i true) a (w.setCells b off cells.toList))
    (hs : AllReadyH P md ops Q S fuel listed a w rs) : AllReadyH P md ops Q S fuel listed a w (i :: rs) :=
  AllReadyH.cons ho (fun K hK => by rw [if_pos hw]; exact wp_store_mid tx x y rfl b off cells hx hy ht hi h1 (hK.out _ _ hS (fun _ => hn))) hs
theorem wpAnyH_takeL {v : Value} (hi : ops[i]? = some ⟨ds, op, ty, ps, af, gd⟩)
    (hs : Region.noSelect ops = true) (hf : Region.free md ops listed i = true) (hr : (Region.ready md ops listed).contains i = true)
    (hQ : ∀ c a w, Q (.panic c) (a.put ds v) w → Q (.panic c) a w) (hy : YieldsIf P ops S ⟨ds, op, ty, ps, af, gd⟩ v a) (hS : S w)
    (h : wpAnyH P md ops Q S fuel (listed.setIfInBounds i true) (a.put ds v) w) : wpAnyH P md ops Q S (fuel + 1) listed a w :=
  wpAnyH_take hi hs hf hr hQ hy hS h
end
end Go.Proofs.Ytegcbdfilkecpaa
namespace Go.Proofs.Ytegcbdfilkecpaa
section
variable {P : Go.Program} {ops : Array Go.Oper} {Q : Go.Exit → Go.Act → Go.World → Prop} {md : Go.Region.Mode} {S : Go.World → Prop} {fuel : Nat} {listed : Array Bool} {a : Go.Act} {w : Go.World} {i : Nat}
variable {ds : Option Go.Tmp} {op : Go.Op} {ty : Go.TypeId} {ps : String} {af : Array Go.Edge} {gd : Option (Nat × Bool)}
theorem tkS {v : Go.Value} (hi : ops[i]? = some ⟨ds, op, ty, ps, af, gd⟩) (hy : Go.YieldsIf P ops S ⟨ds, op, ty, ps, af, gd⟩ v a) (hS : S w)
    (h : Go.wpAnyH P md ops Q S fuel (listed.setIfInBounds i true) (a.put ds v) w) (hQ : ∀ c a w, Q (.panic c) (a.put ds v) w → Q (.panic c) a w := by exact fun _ _ _ h => h)
    (hs : Go.Region.noSelect ops = true := by kernel_rfl) (hf : Go.Region.free md ops listed i = true := by kernel_rfl) (hr : (Go.Region.ready md ops listed).contains i = true := by kernel_rfl) : Go.wpAnyH P md ops Q S (fuel + 1) listed a w :=
  wpAnyH_takeL hi hs hf hr hQ hy hS h
end
theorem skA (l : List Go.Value) (i : Nat) (v : Go.Value) : l.toArray.setIfInBounds i v = (l.set i v).toArray := by simp
theorem skB (x : Go.Value) (l : List Go.Value) (v : Go.Value) : (x :: l).set 0 v = v :: l := rfl
theorem skC (x : Go.Value) (l : List Go.Value) (i : Nat) (v : Go.Value) : (x :: l).set (i + 1) v = x :: l.set i v := rfl
end Go.Proofs.Ytegcbdfilkecpaa
/- Slices of texts in memory; no condition. -/
namespace Go.Proofs.Ytegcbdfilkecpaa
open Go.RowKit

/-- a slice of strings in memory -/
def Sl (w : World) (A : Option Addr) (n : Nat) (xs : List ByteArray) : Prop :=
  xs.length = n ∧ (0 < n → ∃ g o, A = some ⟨g, o, none⟩ ∧ g < w.heap.size ∧ ∀ k, k < n → w.cell? ⟨g, o + k, none⟩ = some (.string (xs.getD k ByteArray.empty)))
theorem Sl.keep {w w' : World} {A : Option Addr} {n : Nat} {xs : List ByteArray} (h : Sl w A n xs) (k : Kp NoB w w') : Sl w' A n xs :=
  ⟨h.1, fun hn => by
    obtain ⟨g, o, e, hg, hc⟩ := h.2 hn
    exact ⟨g, o, e, Nat.lt_of_lt_of_le hg k.size, fun j hj => (k.cell hg (fun q => q)).trans (hc j hj)⟩⟩
end Go.Proofs.Ytegcbdfilkecpaa
/- Pages are laid as the document says: the program's lay, room and told; no condition. -/
namespace Go.Proofs.Ytegcbdfilkecpaa
open Go.RowKit
attribute [local go_sem ↓] load26 store26 alloc26 build26 slice26lo

/-! ### the page of a body, as a list of numbers -/
def w8 (n : Int) : Int := n % 256
def hd6 (kind link : Int) (n : Nat) : List Int := [kind, w8 n, w8 (link / 16777216), w8 (link / 65536), w8 (link / 256), w8 link]
theorem bytesV_noStr {l : List Int} {i : Nat} {c : ByteArray} (h : (bytesV l)[i]? = some (.string c)) : False := by
  unfold bytesV at h
  simp only [List.getElem?_toArray, List.getElem?_map] at h
  cases hq : l[i]? <;> rw [hq] at h <;> simp at h
theorem Sl.on {W W' : World} {A : Option Addr} {n : Nat} {xs : List ByteArray} {g4 : Nat} {t : TypeId} {l : List Int} (h : Sl W A n xs) (hb : Blk W g4 t (bytesV l)) (k : Kp (OnB g4) W W') : Sl W' A n xs := by
  refine ⟨h.1, fun hn => ?_⟩
  obtain ⟨g, o, e, hg, hc⟩ := h.2 hn
  have hne : ¬ OnB g4 g := fun q => by
    unfold OnB at q
    subst q
    have c0 := hc 0 hn
    rw [hb.cell] at c0
    exact bytesV_noStr c0
  exact ⟨g, o, e, Nat.lt_of_lt_of_le hg k.size, fun j hj => (k.cell hg hne).trans (hc j hj)⟩
end Go.Proofs.Ytegcbdfilkecpaa
/- The program's told, cell and New: pages are made of any kind, link and cells; no condition. -/
namespace Go.Proofs.Ytegcbdfilkecpaa
open Go.RowKit
attribute [local go_sem ↓] load26 store26 alloc26 build26 slice26lo

end Go.Proofs.Ytegcbdfilkecpaa
/- The program's New: pages are made of any kind, link and cells; no condition. -/
namespace Go.Proofs.Ytegcbdfilkecpaa
open Go.RowKit
attribute [local go_sem ↓] load26 store26 alloc26 build26 slice26lo

end Go.Proofs.Ytegcbdfilkecpaa
/- The reference's Room, Lay, Told and New: pages are made of any kind, link and cells; no condition. -/
namespace Go.Proofs.Ytegcbdfilkecpaa
open Go.RowKit
attribute [local go_sem ↓] load26 store26 alloc26 build26 slice26lo

end Go.Proofs.Ytegcbdfilkecpaa
/- The reference's Told and New: pages are made of any kind, link and cells; no condition. -/
namespace Go.Proofs.Ytegcbdfilkecpaa
open Go.RowKit
attribute [local go_sem ↓] load26 store26 alloc26 build26 slice26lo

end Go.Proofs.Ytegcbdfilkecpaa
/- What 256 bytes say as a page, and that the program's read answers just that; no condition. -/
namespace Go.Proofs.Ytegcbdfilkecpaa
open Go.RowKit
attribute [local go_sem ↓] load26 store26 alloc26 build26 slice26lo slice26lohi conv64

def at_ (l : List Int) (i : Nat) : Int := l[i]?.getD 0
/-- 256 bytes -/
structure Bytes (l : List Int) : Prop where
  len : l.length = 256
  rng : ∀ i, 0 ≤ at_ l i ∧ at_ l i < 256

def ReadPost (w : World) (r : Option (Int × Int × List ByteArray)) (e : Ending) (w' : World) : Prop :=
  Kp NoB w w' ∧ ((r = none ∧ e = .returned (.tuple #[.agg #[.int .u8 0, .int .u32 0, .slice none 0 0], .bool false])) ∨
    ∃ kind link cs v, r = some (kind, link, cs) ∧ e = .returned (.tuple #[.agg #[.int .u8 kind, .int .u32 link, v], .bool true]) ∧ w'.ownsRow w.heap.size 9 1 v cs.length (cs.map Value.string))
end Go.Proofs.Ytegcbdfilkecpaa
/- The program's Room and Cell, of any 256 bytes; no condition. -/
namespace Go.Proofs.Ytegcbdfilkecpaa
open Go.RowKit
theorem own_Sl {w : World} {base n : Nat} {A : Option Addr} {cap : Nat} {cs : List ByteArray} (h : w.ownsRow base 9 1 (.slice A n cap) n (cs.map Value.string)) (hl : cs.length = n) : Sl w A n cs := by
  refine ⟨hl, fun hn => ?_⟩
  obtain ⟨g, rfl, hb, hlt⟩ := own_at h hn
  refine ⟨g, 0, rfl, hlt, fun k hk => ?_⟩
  rcases h.2 with ⟨h0, _⟩ | ⟨g', cap', cur, hv, hb', hh, h1, h2, h3, h4⟩
  · cases h0
  · simp only [Value.slice.injEq, Option.some.injEq, Addr.mk.injEq] at hv
    obtain ⟨⟨rfl, _⟩, _, rfl⟩ := hv
    rw [cell_of_row w g (0 + k) cur 9 (0, 0) hh]
    have hkc : k < cur.size := by omega
    have e : (cur.toList.take (n * 1))[k]? = (cs.map Value.string)[k]? := by rw [h4]
    rw [List.getElem?_take_of_lt (by omega)] at e
    simp only [Nat.zero_add]
    rw [← Array.getElem?_toList, e, List.getElem?_map]
    simp [show k < cs.length by omega]
theorem ReadPost.none {w w' : World} {e : Ending} (h : ReadPost w none e w') : Kp NoB w w' ∧ e = .returned (.tuple #[.agg #[.int .u8 0, .int .u32 0, .slice none 0 0], .bool false]) := by
  refine ⟨h.1, ?_⟩
  rcases h.2 with q | ⟨_, _, _, _, q, _⟩
  · exact q.2
  · cases q
theorem ReadPost.some {w w' : World} {e : Ending} {kind link : Int} {cs : List ByteArray} (h : ReadPost w (some (kind, link, cs)) e w') :
    Kp NoB w w' ∧ ∃ A cap, e = .returned (.tuple #[.agg #[.int .u8 kind, .int .u32 link, .slice A cs.length cap], .bool true]) ∧ w'.ownsRow w.heap.size 9 1 (.slice A cs.length cap) cs.length (cs.map Value.string) ∧ Sl w' A cs.length cs := by
  refine ⟨h.1, ?_⟩
  rcases h.2 with q | ⟨_, _, _, v, q, rfl, ho⟩
  · cases q.1
  · simp only [Option.some.injEq, Prod.mk.injEq] at q
    obtain ⟨rfl, rfl, rfl⟩ := q
    obtain ⟨A, cap, rfl⟩ := own_slice ho
    exact ⟨A, cap, rfl, ho, own_Sl ho rfl⟩

end Go.Proofs.Ytegcbdfilkecpaa
/- The program's Check, Kind, Count, Link and Cell, of any 256 bytes; no condition. -/
namespace Go.Proofs.Ytegcbdfilkecpaa
open Go.RowKit
end Go.Proofs.Ytegcbdfilkecpaa
/- Pages held against each other; no condition. -/
namespace Go.Proofs.Ytegcbdfilkecpaa
open Go.RowKit

/-- an array of n numbers of a kind -/
def rowOK (k : IntKind) (n : Nat) (v : Value) : Prop := ∃ l : List Int, l.length = n ∧ v = .agg (l.map (Value.int k)).toArray
noncomputable def valEq (u v : Value) : Bool := @decide (u = v) (Classical.propDecidable _)
@[go_sem] theorem valEq_self (u : Value) : valEq u u = true := by unfold valEq; simp
theorem valEq_iff (u v : Value) : valEq u v = true ↔ u = v := by unfold valEq; simp
theorem all_range_eqI : ∀ (xs ys : List Int), xs.length = ys.length → ((List.range xs.length).all fun i => xs.getD i 0 == ys.getD i 0) = (xs == ys)
  | [], [], _ => rfl
  | x :: xs, y :: ys, h => by
    have ih := all_range_eqI xs ys (by simpa using h)
    rw [List.length_cons, List.range_succ_eq_map, List.all_cons, List.all_map]
    simp only [List.getD_cons_zero, Function.comp_def, List.getD_cons_succ, ih]
    simp [List.cons_beq_cons]
  | [], _ :: _, h => by simp at h
  | _ :: _, [], h => by simp at h
section
variable {P : Program} (w : World)
theorem run_equalIn_ints (d : Nat) (t e : TypeId) (n : Nat) (k : IntKind) (ht : P.underlying t = some (.array n e)) (he : P.underlying e = some (.int k)) (hsz : ∀ w, (sizeOf e).run P w = .ok 1 w)
    (xs ys : List Int) (hx : xs.length = n) (hy : ys.length = n) :
    (Op.equalIn (d + 2) t (.agg (xs.map (Value.int k)).toArray) (.agg (ys.map (Value.int k)).toArray)).run P w = .ok (xs == ys) w := by
  rw [← all_range_eqI xs ys (hx.trans hy.symm), hx, List.range_eq_range', Op.equalIn]
  simp only [Sem.run_bind, run_underlying ht, Result.andThen_ok, hsz, Std.Legacy.Range.forIn_eq_forIn_range', Std.Legacy.Range.size, Nat.sub_zero, Nat.add_sub_cancel, Nat.div_one]
  have hl : ∀ i ∈ List.range' 0 n 1, i < n := fun i hi => by simpa using (List.mem_range'_1.1 hi).2
  generalize List.range' 0 n 1 = l at hl ⊢
  induction l with
  | nil => simp
  | cons i l ih =>
    have hi : i < n := hl i (by simp)
    have px : (part e (xs.map (Value.int k)).toArray (i * 1)).run P w = .ok (.int k (xs.getD i 0)) w := by
      simp [part, isAgg, run_underlying he, List.getD, List.getElem?_eq_getElem (show i < xs.length by omega)]
    have py : (part e (ys.map (Value.int k)).toArray (i * 1)).run P w = .ok (.int k (ys.getD i 0)) w := by
      simp [part, isAgg, run_underlying he, List.getD, List.getElem?_eq_getElem (show i < ys.length by omega)]
    have pe : (Op.equalIn (d + 1) e (.int k (xs.getD i 0)) (.int k (ys.getD i 0))).run P w = .ok (xs.getD i 0 == ys.getD i 0) w := by
      rw [run_equalIn_int w d e k k _ _ he]
    simp only [List.forIn_cons, Sem.run_bind, px, py, pe, Result.andThen_ok, List.all_cons]
    cases hb : (xs.getD i 0 == ys.getD i 0)
    · simp
    · simp only [Bool.not_true, Bool.false_eq_true, if_false, Sem.run_pure, Result.andThen_ok, Bool.true_and]
      exact ih fun j hj => hl j (by simp [hj])
theorem run_eql_ints (t e : TypeId) (n : Nat) (k : IntKind) (ht : P.underlying t = some (.array n e)) (he : P.underlying e = some (.int k)) (hsz : ∀ w, (sizeOf e).run P w = .ok 1 w)
    (u v : Value) (hu : rowOK k n u) (hv : rowOK k n v) :
    (binOp .eql t u v).run P w = .ok (.bool (valEq u v)) w ∧ (binOp .neq t u v).run P w = .ok (.bool (!valEq u v)) w := by
  obtain ⟨xs, hx, rfl⟩ := hu
  obtain ⟨ys, hy, rfl⟩ := hv
  have he' := run_equalIn_ints w 9998 t e n k ht he hsz xs ys hx hy
  have e2 : (xs == ys) = valEq (.agg (xs.map (Value.int k)).toArray) (.agg (ys.map (Value.int k)).toArray) := by
    rw [Bool.eq_iff_iff, valEq_iff, beq_iff_eq]
    constructor
    · rintro rfl; rfl
    · intro h
      injection h with h
      have h1 := congrArg Array.toList h
      exact map_int_inj (by simpa using h1)
  rw [e2] at he'
  constructor
  · rw [run_eql_struct, he']
    rfl
  · rw [run_neq_struct, he']
    rfl
theorem execEql_row {T e n : Nat} {k : IntKind} (op : BinOp) (hop : op = .eql ∨ op = .neq) (ht : P.underlying T = some (.array n e)) (he : P.underlying e = some (.int k)) (hsz : ∀ w, (sizeOf e).run P w = .ok 1 w) (hm : P.eqGuardType P.depth T = false)
    (ev : Operand → Value) (ds : Option Tmp) (x y : Operand) (yt ty : TypeId) (ps : String) (af : Array Edge) (g : Option (Nat × Bool)) (hx : rowOK k n (ev x)) (hy : rowOK k n (ev y)) :
    (execOp ev ⟨ds, .binOp op T x y yt, ty, ps, af, g⟩).run P w = .ok (.value (.bool (if op = .eql then valEq (ev x) (ev y) else !valEq (ev x) (ev y)))) w := by
  have hr := run_eql_ints w T e n k ht he hsz (ev x) (ev y) hx hy
  have hg : (eqGuard op T x y (ev x) (ev y)).run P w = .ok () w := by
    obtain ⟨xs, _, hx⟩ := hx
    obtain ⟨ys, _, hy⟩ := hy
    rw [hx, hy]
    exact run_eqGuard_agg w op T x y _ _ hm
  rcases hop with rfl | rfl
  · simp only [execOp, Sem.run_bind, hg, Result.andThen_ok, hr.1, Sem.run_pure, if_true]
  · simp only [execOp, Sem.run_bind, hg, Result.andThen_ok, hr.2, Sem.run_pure, reduceCtorEq, if_false]
end
def pgOK (v : Value) : Prop := rowOK .u8 256 v
theorem pgOK_bytes (l : List Int) (h : l.length = 256) : pgOK (.agg (bytesV l)) := ⟨l, h, rfl⟩
theorem guard26 : Try.prog.eqGuardType Try.prog.depth 24 = false := by kernel_rfl
theorem eql26 (w : World) (ev : Operand → Value) (ds : Option Tmp) (x y : Operand) (yt ty : TypeId) (ps : String) (af : Array Edge) (g : Option (Nat × Bool)) (hx : pgOK (ev x)) (hy : pgOK (ev y)) :
    (execOp ev ⟨ds, .binOp .eql 24 x y yt, ty, ps, af, g⟩).run Try.prog w = .ok (.value (.bool (valEq (ev x) (ev y)))) w :=
  execEql_row w .eql (.inl rfl) Try.underlying24 Try.underlying5 sizeU8 guard26 ev ds x y yt ty ps af g hx hy
theorem neq26 (w : World) (ev : Operand → Value) (ds : Option Tmp) (x y : Operand) (yt ty : TypeId) (ps : String) (af : Array Edge) (g : Option (Nat × Bool)) (hx : pgOK (ev x)) (hy : pgOK (ev y)) :
    (execOp ev ⟨ds, .binOp .neq 24 x y yt, ty, ps, af, g⟩).run Try.prog w = .ok (.value (.bool (!valEq (ev x) (ev y)))) w :=
  execEql_row w .neq (.inr rfl) Try.underlying24 Try.underlying5 sizeU8 guard26 ev ds x y yt ty ps af g hx hy
end Go.Proofs.Ytegcbdfilkecpaa
