/- Texts of this proof, one behind the other: lemmas and contracts; each says its own conditions. -/
import Derived.Test.YtegcbdfilkecpaaM1
import Derived.Test.YtegcbdfilkecpaaM2
import Derived.Test.YtegcbdfilkecpaaM3
import Derived.Deep.OwnRows
import Derived.BigQuiet
/- The stand-in disk: Restart; no condition but on the counts. -/
namespace Go.Proofs.Ytegcbdfilkecpaa
open Go.RowKit

attribute [local go_sem ↓] loadCg storeCg allocCg
def RePost (n0 : Nat) (w : World) (x : Dd) (p : Pl) (chs : List Int) (e : Ending) (w' : World) : Prop := e = .returned (.int .i64 p.restartE) ∧ To n0 w x (p.restart chs) w'
/-- the first loop -/
def ReRel (n0 : Nat) (w : World) (x : Dd) (p : Pl) (chs : List Int) (v : Value) (wr : World) : Prop :=
  ∃ (i : Nat) (xi : Dd), v = .int .i64 (i : Int) ∧ i ≤ p.pd.length ∧ Dk n0 wr xi ∧ Of xi (p.survive (p.pd.take i) (chs.take i)) ∧ xi.pv = x.pv ∧ xi.db = x.db ∧ xi.mb = x.mb ∧ Kp x.O w wr ∧ ∀ b, xi.O b → x.O b ∨ w.heap.size ≤ b
/-- the second loop -/
def Re2Rel (n0 : Nat) (w : World) (x : Dd) (r : Nat) (D : DataW Value) (wr : World) : Prop :=
  ∃ (left : Lit → Bool) (cnt : Nat), wr.ranges Try.prog 9 Rp x.mb r x.mn D left cnt ∧ Dk n0 wr { x with fs := turnF (fun k => left (.string k)) x.fs } ∧ Kp x.O w wr
theorem grown_of {w w' : World} {g : Nat} (k : Kp (OnB g) w w') : w.grownBy w' (some g) := ⟨k.os, k.tape, k.output, k.size, fun i hi hne => k.block i hi (fun q => hne (by rw [show i = g from q]))⟩
theorem Of.turn {x : Dd} {q : Pl} (h : Of x q) (s : Int) : Of { x with fs := x.fs.map fun e => { e with seen := e.kept }, pv := .slice none 0 0, pd := [], steps := 0, crash := 0, down := false, starts := s } { q with seen := q.kept, sum := q.ksum, pd := [], steps := 0, crash := 0, down := false, starts := s } :=
  { seen := by rw [(seenOf_kept x.fs).1]; exact h.kept
    kept := by rw [(seenOf_kept x.fs).2.1]; exact h.kept
    sum := by rw [(seenOf_kept x.fs).2.2.1]; exact h.ksum
    ksum := by rw [(seenOf_kept x.fs).2.2.2]; exact h.ksum
    nf := h.nf
    pd := rfl
    room := h.room
    steps := rfl
    crash := rfl
    down := rfl
    starts := rfl }
theorem turnF_mem {left : List UInt8 → Bool} {fs : List Fe} {e : Fe} (h : e ∈ turnF left fs) : ∃ e' ∈ fs, e'.fb = e.fb ∧ e'.nm = e.nm ∧ (left (kOf e.nm) = true → e = e') := by
  unfold turnF at h
  obtain ⟨e', he, rfl⟩ := List.mem_map.1 h
  by_cases hl : left (kOf e'.nm) = true
  · refine ⟨e', he, ?_⟩
    simp [hl]
  · refine ⟨e', he, ?_⟩
    simp [hl]
theorem findF_turn (left : List UInt8 → Bool) (fs : List Fe) (k : List UInt8) : (findF (turnF left fs) k).map (·.fb) = (findF fs k).map (·.fb) := by
  induction fs with
  | nil => rfl
  | cons y r ih =>
    unfold findF turnF at *
    rw [List.map_cons]
    have hnm : kOf (if left (kOf y.nm) then y else { y with seen := y.kept }).nm = kOf y.nm := by split <;> rfl
    have hfb : (if left (kOf y.nm) then y else { y with seen := y.kept }).fb = y.fb := by split <;> rfl
    rw [List.find?_cons, List.find?_cons, hnm]
    by_cases h : kOf y.nm = k
    · subst h
      simp only [beq_self_eq_true, Option.map_some]
      rw [hfb]
    · have : (kOf y.nm == k) = false := by simpa using h
      simp only [this]
      exact ih
theorem Dk.noIter {n0 : Nat} {w : World} {x : Dd} (h : Dk n0 w x) {r : Nat} {since : Nat} {seen : List Nat} {b : Option Nat} {c0 : Nat} (hr : ∃ o, w.heap[r]? = some o ∧ (∀ cs t f, o ≠ .cells cs t f) ∧ (∀ es c, o ≠ .map es c)) : (∀ b, x.O b → b ≠ r) ∧ ∀ g cs, w.heap[g]? = some (.cells cs 5 (0, 0)) → g ≠ r := by
  obtain ⟨o, hro, hnc, hnm⟩ := hr
  have cc : ∀ g cs t f, w.heap[g]? = some (.cells cs t f) → g ≠ r := by
    rintro g cs t f hg rfl
    rw [hro] at hg
    exact hnc _ _ _ (Option.some.inj hg)
  refine ⟨?_, fun g cs hg => cc g cs _ _ hg⟩
  rintro b (rfl | rfl | hb | ⟨e, he, rfl⟩)
  · exact cc _ _ _ _ h.blk
  · obtain ⟨D, ⟨es, cl, hb, _⟩, _⟩ := h.mp
    rintro rfl
    rw [hro] at hb
    exact hnm _ _ (Option.some.inj hb)
  · obtain ⟨cs', hc⟩ := own_type h.pend hb
    exact cc _ _ _ _ hc
  · obtain ⟨u, v, hb, _⟩ := (h.fls e he).blk
    exact cc _ _ _ _ hb
set_option maxRecDepth 100000 in
theorem restart_up (w : World) (n0 : Nat) (x : Dd) (p : Pl) (A : Option Addr) (n cap : Nat) (chs : List Int) (h : Dk n0 w x) (hp : Of x p) (hd : p.down = false) :
    Calls Try.prog 47 #[ptrV x.db, .slice A n cap] w (RePost n0 w x p chs) := by
  have H := Lib.hid h
  have HP := Lib.hid hp
  have HD := Lib.hid hd
  obtain ⟨db, hdb⟩ : ∃ db, x.db = db := ⟨_, rfl⟩
  have HX := Lib.hid hdb
  have c : w.cell? ⟨x.db, 5, none⟩ = some (.bool false) := by rw [h.blk.cell, ← hd, hp.down]; rfl
  rw [hdb] at c ⊢
  clear h hp hdb hd
  unfold ptrV
  go_enter Try.func47, Try.ntmps47
  go_wp2_with (go_at_call 69; go_must (refine (show Calls _ _ #[ptrV db] _ _ by rw [← HX.out]; exact is_ok _ _ _ H.out).mono ?_); rintro e w2 ⟨rfl, rfl⟩)
  go_ret
  exact ⟨by unfold Pl.restartE; rw [HD.out]; rfl, by unfold Pl.restart; rw [HD.out]; exact To.refl H.out HP.out⟩
set_option maxRecDepth 100000 in
set_option maxHeartbeats 1600000 in
theorem restart_main (w : World) (n0 : Nat) (x : Dd) (p : Pl) (A : Option Addr) (n cap : Nat) (chs : List Int) (h : Dk n0 w x) (hp : Of x p) (hd : p.down = true) (hc : Nums w A n chs) (hA : ∀ g o, A = some ⟨g, o, none⟩ → 0 < n → ¬ x.O g) (hch : ∀ y ∈ chs, -9223372036854775808 ≤ y ∧ y ≤ 9223372036854775807)
    (hn63 : n ≤ 9223372036854775807) (hm : p.nf + p.pd.length < 1099511627776 - 10) (hn0 : n0 ≤ w.heap.size) :
    Calls Try.prog 47 #[ptrV x.db, .slice A n cap] w (RePost n0 w x p chs) := by
  have H := Lib.hid h
  have HP := Lib.hid hp
  have HD := Lib.hid hd
  have HC := Lib.hid hc
  have HA := Lib.hid hA
  have HCH := Lib.hid hch
  have HM := Lib.hid hm
  have HN0 := Lib.hid hn0
  obtain ⟨db, hdb⟩ : ∃ db, x.db = db := ⟨_, rfl⟩
  have HX := Lib.hid hdb
  have c5 : w.cell? ⟨x.db, 5, none⟩ = some (.bool true) := by rw [h.blk.cell, ← hd, hp.down]; rfl
  obtain ⟨pl, hpl⟩ : ∃ pl, p.pd.length = pl := ⟨_, rfl⟩
  have HPL := Lib.hid hpl
  obtain ⟨Ap, kp, hpv⟩ := own_slice h.pend
  rw [← hp.pd, hpl] at hpv
  have HPV := Lib.hid hpv
  have c1 : w.cell? ⟨x.db, 1, none⟩ = some (.slice Ap pl kp) := by rw [h.blk.cell, ← hpv]; rfl
  have hplb : pl < 1099511627776 := by omega
  have HOK : Hid (∀ c ∈ p.pd, CgOk c) := Lib.hid (by rw [hp.pd]; exact h.s64)
  rw [hdb] at c5 c1 ⊢
  clear h hp hd hc hA hch hm hn0 hdb hpl hpv
  unfold ptrV
  go_enter Try.func47, Try.ntmps47
  go_wp2_with (go_at_call 69; go_must (refine (show Calls _ _ #[ptrV db] _ _ by rw [← HX.out]; exact is_ok _ _ _ H.out).mono ?_); rintro e w2 ⟨rfl, rfl⟩)
  go_loopw [24] (fun v wr => ReRel n0 w x p chs v wr) (fun v _ => pl - (intOf v).toNat)
  case atStart => exact ⟨0, x, rfl, Nat.zero_le _, H.out, by simpa [Pl.survive] using HP.out, rfl, rfl, rfl, Kp.refl _ _, fun b hb => .inl hb⟩
  case round =>
    obtain ⟨i, xi, rfl, hi, hdk, hof, hpv, hdb, hmb, hkp, ho⟩ := hrel
    have HI := Lib.hid hi
    have HDK := Lib.hid hdk
    have HOF := Lib.hid hof
    have HPVI := Lib.hid hpv
    have HDB := Lib.hid hdb
    have HMB := Lib.hid hmb
    have HKP := Lib.hid hkp
    have HO := Lib.hid ho
    clear hi hdk hof hpv hdb hmb hkp ho c1 c5
    by_cases hlt : i < pl
    · have hpdi : xi.pd = p.pd := by rw [← HOF.out.pd]; exact (survive_pd p _ _).1
      have hrow : wr.ownsRow n0 148 67 (.slice Ap pl kp) pl (cgCells p.pd) := by
        have := HDK.out.pend
        rw [hpdi, HPVI.out, HPV.out, HPL.out] at this
        exact this
      obtain ⟨g, ds, rfl, hg, hb⟩ := own_blkN hrow (by omega)
      obtain ⟨t0, r0⟩ := cg_at hb HOK.out i (by have := HPL.out; omega)
      obtain ⟨c, hc, hcm⟩ := cg_eta p.pd i (by have := HPL.out; omega)
      rw [hc] at r0
      have HC' : Hid (p.pd[i]? = some c) := Lib.hid (by rw [List.getElem?_eq_getElem (by have := HPL.out; omega), hc])
      have hck := HOK.out c hcm
      have HCK := Lib.hid hck
      have hii : (i : Int) < (pl : Int) := by omega
      have hzb : Blk (wr.alloc (.cells (cgA ⟨#[]⟩ 0 0 (zeros 64)) 148)) wr.heap.size 148 (cgA ⟨#[]⟩ 0 0 (zeros 64)) := Blk.new _ _ _
      have t1 := hzb.thereAll 67 (by rw [cgA_size]; rfl)
      have on1 : ones (cgA c.nm c.sec c.n (pad64 c.s)) := cgA_ones _ _ _ _
      have sz1 : (cgA c.nm c.sec c.n (pad64 c.s)).size = 67 := by rw [cgA_size, hck.pad]
      clear hpdi hrow hb hc hcm hck hzb
      by_cases hin : i < n
      · have hin2 : (i : Int) < (n : Int) := by omega
        obtain ⟨gc, oc, rfl, hgc, hcc⟩ := HC.out.2 (by omega)
        have hci := hcc i hin
        obtain ⟨ch, hche⟩ : ∃ ch, chs.getD i 0 = ch := ⟨_, rfl⟩
        rw [hche] at hci
        have HCHE : Hid (chs[i]? = some ch) := Lib.hid (by
          have := HC.out.1
          rw [List.getElem?_eq_getElem (by omega), ← hche, List.getD_eq_getElem?_getD, List.getElem?_eq_getElem (by omega)]
          rfl)
        have HCR : Hid (-9223372036854775808 ≤ ch ∧ ch ≤ 9223372036854775807) := Lib.hid (HCH.out ch (List.mem_of_getElem? HCHE.out))
        have HGC := Lib.hid hgc
        have HIN := Lib.hid hin
        have HCI := Lib.hid hci
        clear hgc hcc hci hche
        go_upto_region 9 with fail
        obtain ⟨g8, hg8⟩ : ∃ g8, wr.heap.size = g8 := ⟨_, rfl⟩
        have HG8 := Lib.hid hg8
        have hb8 : Blk ((wr.alloc (.cells (cgA ⟨#[]⟩ 0 0 (zeros 64)) 148)).setCells wr.heap.size 0 (cgA c.nm c.sec c.n (pad64 c.s)).toList) wr.heap.size 148 (cgA c.nm c.sec c.n (pad64 c.s)) := (Blk.new wr 148 _).whole _ (by rw [cgA_size, cgA_size, HCK.out.pad]; rfl)
        have hk8 : Kp NoB wr ((wr.alloc (.cells (cgA ⟨#[]⟩ 0 0 (zeros 64)) 148)).setCells wr.heap.size 0 (cgA c.nm c.sec c.n (pad64 c.s)).toList) := Kp.setCells (.inl (Nat.le_refl _)) _ _ _ ((Kp.refl NoB wr).alloc _)
        rw [hg8] at hb8 hk8 ⊢
        generalize (wr.alloc (.cells (cgA ⟨#[]⟩ 0 0 (zeros 64)) 148)).setCells g8 0 (cgA c.nm c.sec c.n (pad64 c.s)).toList = w8 at hb8 hk8 ⊢
        have HB8 := Lib.hid hb8
        have HK8 := Lib.hid hk8
        have HD8 := Lib.hid (HDK.out.keep hk8 (fun _ _ q => q) (fun _ _ _ q => q))
        have hk08 : Kp x.O w w8 := HKP.out.trans hk8 (fun _ _ q => q.elim)
        have HK08 := Lib.hid hk08
        have s0 : w8.cell? ⟨g8, 0, none⟩ = some (.string c.nm) := by rw [hb8.cell]; rfl
        have s1 := hb8.thereAll 67 (by rw [cgA_size, HCK.out.pad])
        have s2 := hb8.readAll 67 (by rw [cgA_size, HCK.out.pad])
        have s3 : w8.cell? ⟨gc, oc + i, none⟩ = some (.int .i64 ch) := by rw [hk08.cell HGC.out (HA.out gc oc rfl (Nat.zero_lt_of_lt HIN.out))]; exact HCI.out
        clear hg8 hb8 hk8 hk08 t0 r0 t1 on1 sz1
        go_region_held3 (fun w' => w'.cell? ⟨g8, 0, none⟩ = some (.string c.nm) ∧ w'.there g8 0 67 ∧ readRow w' g8 0 67 = cgA c.nm c.sec c.n (pad64 c.s) ∧ w'.cell? ⟨gc, oc + i, none⟩ = some (.int .i64 ch))
          (first | exact ⟨s0, s1, s2, s3⟩ | exact ⟨v0, v1, v2, v3⟩ | exact ⟨y0, y1, y2, y3⟩ | go_keep)
          (first
            | (go_at_call 111; go_must (refine (show Calls _ _ #[ptrV db, .string c.nm] _ _ by rw [← HX.out, ← HDB.out]; exact at_ok _ n0 xi c.nm HCK.out.nl (by have := HOF.out.nf; have := (survive_pd p (p.pd.take i) (chs.take i)).2.1; have := HM.out; have := HPL.out; simp only [List.length_take] at *; omega) (by exact Nat.le_trans HN0.out HK08.out.size) (HD8.out.keep ((Kp.refl NoB w8).drew) (fun _ _ q => q) (fun _ _ _ q => q))).mono ?_); rintro e w9 ⟨e0, m2, rfl, hd9, hm9, hnm9, hsn9, hkp9, hk9, hfb9⟩; have HD9 := Lib.hid hd9; have hk9' := (Kp.refl (OnB xi.mb) w8).drew.trans hk9 (fun _ _ q => q); have HK9 := Lib.hid hk9'; have HF0 := Lib.hid (findF_some (show findF (putF xi.fs e0) (kOf e0.nm) = some e0 by rw [putF_find, if_pos rfl])).1; have HO9 := Lib.hid (O_at (m := m2) HD8.out hk9' hfb9); have HQ9 := Lib.hid (HOF.out.at_ e0 m2 hm9 (by rw [hsn9, hnm9]) (by rw [hkp9, hnm9])); have HE9 := Lib.hid (show e0.nm = c.nm ∧ e0.kept = keptOf xi.fs c.nm from ⟨hnm9, hkp9⟩); have n8 : ¬ OnB xi.mb g8 := (fun q => by have h1 := H.out.lt x.mb (.inr (.inl rfl)); have h2 := HKP.out.size; have h3 : g8 = xi.mb := q; have h4 := HMB.out; have h5 := HG8.out; omega); have nc : ¬ OnB xi.mb gc := (fun q => HA.out gc oc rfl (Nat.zero_lt_of_lt HIN.out) (.inr (.inl (by rw [← HMB.out]; exact q)))); have v0 := (hk9'.cell HB8.out.lt n8).trans s0; have v1 := there_congr (hk9'.block g8 HB8.out.lt n8) s1; have v2 := (readRow_congr (hk9'.block g8 HB8.out.lt n8)).trans s2; have v3 := (hk9'.cell (Nat.lt_of_lt_of_le HGC.out HK08.out.size) nc).trans s3; clear hd9 hm9 hnm9 hsn9 hkp9 hk9 hfb9 hk9' n8 nc)
            | (go_at_call 112; go_must (refine (survive_ok w9 n0 _ e0 c ch HCR.out HD9.out HF0.out HCK.out (Nat.le_trans HN0.out (Nat.le_trans HK08.out.size HK9.out.size))).mono ?_); rintro r w10 ⟨rfl, hd10, hk10⟩; have HD10 := Lib.hid hd10; have HK10 := Lib.hid hk10; have hO9 := HO9.out.2 e0.fb (.inr (.inr (.inr ⟨e0, HF0.out, rfl⟩))); have n8' : ¬ OnB e0.fb g8 := (fun q => by have h3 : g8 = e0.fb := q; have h5 := HG8.out; have h6 := HB8.out.lt; exact hO9.elim (fun q2 => by have h7 := HDK.out.lt _ q2; omega) (fun q2 => by omega)); have nc' : ¬ OnB e0.fb gc := (fun q => by have h3 : gc = e0.fb := q; have h6 := HGC.out; have h7 := HK08.out.size; exact hO9.elim (fun q2 => (HO.out _ q2).elim (fun q3 => HA.out gc oc rfl (Nat.zero_lt_of_lt HIN.out) (by rw [h3]; exact q3)) (fun q3 => by omega)) (fun q2 => by omega)); have g8l := Nat.lt_of_lt_of_le HB8.out.lt HK9.out.size; have y0 := (hk10.cell g8l n8').trans v0; have y1 := there_congr (hk10.block g8 g8l n8') v1; have y2 := (readRow_congr (hk10.block g8 g8l n8')).trans v2; have y3 := (hk10.cell (Nat.lt_of_lt_of_le HGC.out (Nat.le_trans HK08.out.size HK9.out.size)) nc').trans v3; clear hd10 hk10 hO9 n8' nc' g8l))
        go_wp2_with fail
        have hkf : Kp x.O w w10 := (HK08.out.trans (HO9.out.1.trans HK10.out (fun b hb q => by
            rcases HO9.out.2 b (.inr (.inr (.inr ⟨e0, HF0.out, q⟩))) with q | q
            · exact q
            · omega)) (fun b hb q => by
          rcases HO.out b q with q | q
          · exact q
          · omega))
        refine ⟨⟨i + 1, { xi with fs := putF (putF xi.fs e0) { e0 with kept := Pl.made e0.kept c ch }, mn := m2 }, by go_num, by have := HPL.out; omega, HD10.out, ?_, HPVI.out, HDB.out, HMB.out, hkf, ?_⟩, by simp [intOf]; omega⟩
        · rw [(survive_next p p.pd chs i c HC'.out).1 ch HCHE.out]
          have := HQ9.out.setKept { e0 with kept := Pl.made e0.kept c ch } (by simp only [seenOf_put, upd_same])
          have e1 := HE9.out.1
          have e2 := HE9.out.2
          rw [HOF.out.kept_eq] at e2
          simp only [e1, e2] at this ⊢
          exact this
        · intro b hb
          have h1 := O_put (x := { xi with fs := putF xi.fs e0, mn := m2 }) (e := { e0 with kept := Pl.made e0.kept c ch }) ⟨e0, HF0.out, rfl⟩ b hb
          rcases HO9.out.2 b h1 with q | q
          · exact HO.out b q
          · exact .inr (Nat.le_trans HK08.out.size q)
      · have hin2 : ¬ (i : Int) < (n : Int) := by omega
        have kz : Kp NoB wr ((wr.alloc (.cells (cgA ⟨#[]⟩ 0 0 (zeros 64)) 148)).setCells wr.heap.size 0 (cgA c.nm c.sec c.n (pad64 c.s)).toList) := Kp.setCells (.inl (Nat.le_refl _)) _ _ _ ((Kp.refl NoB wr).alloc _)
        have KZ := Lib.hid kz
        clear kz
        go_wp2_with fail
        have kz := KZ.out
        refine ⟨⟨i + 1, xi, by go_num, by have := HPL.out; omega, ?_, ?_, HPVI.out, HDB.out, HMB.out, ?_, HO.out⟩, by simp [intOf]; omega⟩
        · exact HDK.out.keep kz (fun _ _ q => q) (fun _ _ _ q => q)
        · rw [(survive_next p p.pd chs i c HC'.out).2 (by have := HC.out.1; omega)]; exact HOF.out
        · exact HKP.out.trans kz (fun _ _ q => q.elim)
    · have hii : ¬ (i : Int) < (pl : Int) := by omega
      have eip : i = pl := by have := HI.out; have := HPL.out; omega
      have HP1 : Hid (Of xi (p.survive p.pd chs)) := Lib.hid (by
        have := HOF.out
        rw [eip, ← HPL.out, List.take_length, survive_take] at this
        exact this)
      obtain ⟨D, hD, hM⟩ := HDK.out.mp
      have HDm := Lib.hid hD
      have HMm := Lib.hid hM
      have c0 : wr.cell? ⟨db, 0, none⟩ = some (.map (some xi.mb)) := by rw [← HX.out, ← HDB.out, HDK.out.blk.cell]; rfl
      obtain ⟨w1, hw1⟩ : ∃ w1 : World, w1 = wr := ⟨_, rfl⟩
      subst hw1
      clear hD hM
      go_wp2_with (at_range; refine wpList_range_own _ rfl _ 118 rfl 9 139 keyed Try.underlying118 Rp xi.mb xi.mn D rfl HDm.out ?_; intro w0 hrg0 hg0 hs0)
      go_loopw [8] (fun _ wr => Re2Rel n0 w1 xi w1.heap.size D wr) (fun _ wr => wr.rangeLeft xi.mb w1.heap.size)
      case atStart =>
        have hk0 : Kp xi.O w1 w0 := (Kp.refl _ w1).grown hg0 (by simp)
        refine ⟨Maps.has D, Maps.size D, hrg0, ?_, hk0⟩
        have : turnF (fun k => Maps.has D (.string k)) xi.fs = xi.fs := by
          rw [turnF_same (l' := fun _ => true) (fun e he => by rw [HMm.out.has, HDK.out.names.find he]; rfl), turnF_all]
        rw [this]
        exact HDK.out.keep ((Kp.refl NoB w1).grown hg0 (by simp)) (fun _ _ q => q) (fun _ _ _ q => q)
      case round =>
        obtain ⟨left, cnt, hrg, hdk, hkp⟩ := hrel
        have HRG := Lib.hid hrg
        have HDT := Lib.hid hdk
        have HKT := Lib.hid hkp
        clear hdk hkp hrg0 hg0 hs0 hii hlt c0 eip
        go_wp2_with (at_next; refine wpList_next_ranges _ rfl _ rfl 9 keyed Rp Value.string Value.pointer (fun key kl hk => keyS_inv hk) (fun v y hv => by obtain ⟨p, rfl, _⟩ := Rp_inv hv; exact ⟨p, rfl⟩) xi.mb w1.heap.size xi.mn D left cnt rfl hrg ?_ ?_)
        · intro _ hl0
          have hfs := turnF_none (fs := xi.fs) (left := fun k => left (.string k)) (fun k => hl0 _)
          have HFS := Lib.hid hfs
          have hb := HDT.out.blk
          have HB := Lib.hid hb
          have d3 : wr.cell? ⟨db, 3, none⟩ = some (.int .i64 xi.steps) := by rw [← HX.out, ← HDB.out, hb.cell]; rfl
          have d1 : wr.cell? ⟨db, 1, none⟩ = some (.slice Ap pl kp) := by rw [← HX.out, ← HDB.out, hb.cell, ← HPV.out, ← HPVI.out]; rfl
          have d4 : wr.cell? ⟨db, 4, none⟩ = some (.int .i64 xi.crash) := by rw [← HX.out, ← HDB.out, hb.cell]; rfl
          have d5 : wr.cell? ⟨db, 5, none⟩ = some (.bool xi.down) := by rw [← HX.out, ← HDB.out, hb.cell]; rfl
          have d6 : wr.cell? ⟨db, 6, none⟩ = some (.int .i64 xi.starts) := by rw [← HX.out, ← HDB.out, hb.cell]; rfl
          have z1 : wr.frozen? ⟨db, 1, none⟩ = false := by rw [← HX.out, ← HDB.out]; exact hb.frozen 1
          have z3 : wr.frozen? ⟨db, 3, none⟩ = false := by rw [← HX.out, ← HDB.out]; exact hb.frozen 3
          have z4 : wr.frozen? ⟨db, 4, none⟩ = false := by rw [← HX.out, ← HDB.out]; exact hb.frozen 4
          have z5 : wr.frozen? ⟨db, 5, none⟩ = false := by rw [← HX.out, ← HDB.out]; exact hb.frozen 5
          have z6 : wr.frozen? ⟨db, 6, none⟩ = false := by rw [← HX.out, ← HDB.out]; exact hb.frozen 6
          have hws : IntKind.i64.wrap (xi.starts + 1) = wrp (xi.starts + 1) := rfl
          clear hl0 hfs hb hrg
          go_wp2_with fail
          go_ret
          have hbF := ((((HB.out.set_ 1 (.slice none 0 0)).set_ 3 (.int .i64 0)).set_ 4 (.int .i64 0)).set_ 5 (.bool false)).set_ 6 (.int .i64 (wrp (xi.starts + 1)))
          have kF := (((((Kp.refl (OnB xi.db) wr).setAt (show OnB xi.db xi.db from rfl) 1 (.slice none 0 0)).setAt (show OnB xi.db xi.db from rfl) 3 (.int .i64 0)).setAt (show OnB xi.db xi.db from rfl) 4 (.int .i64 0)).setAt (show OnB xi.db xi.db from rfl) 5 (.bool false)).setAt (show OnB xi.db xi.db from rfl) 6 (.int .i64 (wrp (xi.starts + 1)))
          have hF := HDT.out.reset kF (wrp (xi.starts + 1)) (by simpa [diskCells] using hbF)
          rw [HFS.out] at hF
          have edb : xi.db = db := HDB.out.trans HX.out
          have kT : Kp x.O w wr := HKP.out.trans HKT.out (fun b hb q => by
            rcases HO.out b q with q | q
            · exact q
            · omega)
          have kFin := kT.trans kF (S' := OnB xi.db) (fun b _ q => .inl (by rw [← HDB.out]; exact q))
          have eres : p.restart chs = { p.survive p.pd chs with seen := (p.survive p.pd chs).kept, sum := (p.survive p.pd chs).ksum, pd := [], steps := 0, crash := 0, down := false, starts := wrp (xi.starts + 1) } := by
            unfold Pl.restart
            rw [HD.out]
            have e1 := HP1.out.starts
            rw [(survive_pd p p.pd chs).2.2.1] at e1
            simp only [if_true, e1]
          refine ⟨by unfold Pl.restartE; rw [HD.out]; rfl, ?_⟩
          rw [eres, ← edb]
          refine ⟨_, hF, HP1.out.turn _, HDB.out, kFin, fun b hb => ?_⟩
          rcases hb with q | q | q | ⟨e, he, rfl⟩
          · exact HO.out b (.inl q)
          · exact HO.out b (.inr (.inl q))
          · cases q
          · obtain ⟨e', he', rfl⟩ := List.mem_map.1 he
            exact HO.out _ (.inr (.inr (.inr ⟨e', he', rfl⟩)))
        · intro x1 c kl a b w3 cnt3 hkey hlk hv hat hrg3 hlt hg3 hs3 hen
          have hM' : MpD D (turnF (fun k => left (.string k)) xi.fs) := HMm.out.same (fun k => findF_turn _ _ _)
          obtain ⟨e1, he1, rfl, rfl, B, cp, ce⟩ := next_fact HDT.out hM' (Kp.refl NoB wr) hkey hv hat
          obtain ⟨e, he, hfbe, hnme, hee⟩ := turnF_mem (left := fun k => left (.string k)) (fs := xi.fs) he1
          obtain rfl := hee hlk
          obtain ⟨u, v, hb, hu, hq⟩ := (HDT.out.fls e1 he1).blk
          obtain ⟨Au, cu, rfl⟩ := hu.form
          obtain ⟨Av, cv, rfl⟩ := hq.form
          obtain ⟨fb, hfb⟩ : ∃ fb, e1.fb = fb := ⟨_, rfl⟩
          obtain ⟨L, hL⟩ : ∃ L, e1.seen.length = L := ⟨_, rfl⟩
          obtain ⟨L2, hL2⟩ : ∃ L2, e1.kept.length = L2 := ⟨_, rfl⟩
          have hit : ∃ o, wr.heap[w1.heap.size]? = some o ∧ (∀ cs t f, o ≠ .cells cs t f) ∧ (∀ es c, o ≠ .map es c) := by
            obtain ⟨es, clock, since, seen, c0, _, _, _, _, hr, _⟩ := hrg
            exact ⟨_, hr, (fun _ _ _ q => by cases q), (fun _ _ q => by cases q)⟩
          have hnoi := HDT.out.noIter (since := 0) (seen := []) (b := none) (c0 := 0) hit
          have k3 : Kp (OnB w1.heap.size) wr w3 := (Kp.refl _ wr).grown hg3 (fun k hk => .inr (by injection hk with hk; exact hk.symm))
          have HD3 := Lib.hid (HDT.out.keep k3 hnoi.1 hnoi.2)
          have hb3 : Blk w3 e1.fb 143 #[.slice Au e1.seen.length cu, .slice Av e1.kept.length cv] := hb.keep k3 (hnoi.1 _ (.inr (.inr (.inr ⟨e1, he1, rfl⟩))))
          have hq3 : Bq w3 n0 (.slice Av e1.kept.length cv) e1.kept := hq.keep k3 (fun g cs hg => hnoi.2 g cs hg)
          have HB3 := Lib.hid hb3
          have HQ3 := Lib.hid hq3
          have HE := Lib.hid he
          have HE1 := Lib.hid he1
          have HR3 := Lib.hid hrg3
          have HLT := Lib.hid hlt
          have HK3 := Lib.hid k3
          have HLK := Lib.hid hlk
          have c5 : w3.cell? ⟨fb, 0, none⟩ = some (.slice Au L cu) := by rw [← hfb, hb3.cell, ← hL]; rfl
          have c6 : w3.cell? ⟨fb, 1, none⟩ = some (.slice Av L2 cv) := by rw [← hfb, hb3.cell, ← hL2]; rfl
          have z5 : w3.frozen? ⟨fb, 0, none⟩ = false := by rw [← hfb]; exact hb3.frozen 0
          have hfn : fb ≠ w1.heap.size := by rw [← hfb]; exact hnoi.1 _ (.inr (.inr (.inr ⟨e1, he1, rfl⟩)))
          have HFN := Lib.hid hfn
          have HFB := Lib.hid hfb
          have HL2 := Lib.hid hL2
          rw [hfb] at hen
          clear hkey hlk hv hat hrg3 hlt hg3 hs3 he he1 hfbe hnme hee hu hq hb hit hnoi k3 hb3 hq3 hM' hfn hrg ce hfb hL hL2
          go_wp2_with fail
          have kst : Kp (OnB e1.fb) w3 (w3.setCell ⟨fb, 0, none⟩ (.slice Av L2 cv)) := (Kp.refl _ w3).setAt (show OnB e1.fb fb from HFB.out.symm) 0 _
          have hbN : Blk (w3.setCell ⟨fb, 0, none⟩ (.slice Av L2 cv)) e1.fb 143 #[.slice Av L2 cv, .slice Av L2 cv] := by
            have := HB3.out.set_ 0 (.slice Av L2 cv)
            rw [← HFB.out]
            rw [HL2.out] at this
            exact this
          have hqN : Bq (w3.setCell ⟨fb, 0, none⟩ (.slice Av L2 cv)) n0 (.slice Av L2 cv) e1.kept := by
            have := HQ3.out.keep kst (fun g cs hg q => onb_cells HB3.out hg (by decide) q)
            rw [HL2.out] at this
            exact this
          have hlk9 : e1.kept.length ≤ 1048576 := (HDK.out.fls e1 HE.out).lk
          have hdN := HD3.out.refile HE1.out kst { e1 with seen := e1.kept } rfl rfl ⟨⟨_, _, hbN, hqN, hqN⟩, hlk9, hlk9⟩
          have est := turnF_step (left := fun k => left (.string k)) HDK.out.names HE.out
          refine ⟨⟨_, cnt3, HR3.out.kept (grown_of kst) ?_ ?_, ?_, ?_⟩, ?_⟩
          · intro q
            obtain ⟨u, v, hbb, _⟩ := (HDK.out.fls e1 HE.out).blk
            obtain ⟨D2, ⟨es, cl, hmb, _⟩, _⟩ := HDK.out.mp
            injection q with q
            unfold Blk at hbb
            rw [← q, hmb] at hbb
            cases hbb
          · intro q
            injection q with q
            exact HFN.out (by rw [← HFB.out, ← q])
          · simp only [est] at hdN
            exact hdN
          · refine (HKT.out.trans HK3.out (fun b hb q => absurd hb (by rw [show b = w1.heap.size from q]; omega))).trans kst (fun b _ q => .inr (.inr (.inr ⟨e1, HE.out, q⟩)))
          · rw [(HR3.out.kept (grown_of kst) ?_ ?_).left_eq, HRG.out.left_eq]
            · exact HLT.out
            · intro q
              obtain ⟨u, v, hbb, _⟩ := (HDK.out.fls e1 HE.out).blk
              obtain ⟨D2, ⟨es, cl, hmb, _⟩, _⟩ := HDK.out.mp
              injection q with q
              unfold Blk at hbb
              rw [← q, hmb] at hbb
              cases hbb
            · intro q
              injection q with q
              exact HFN.out (by rw [← HFB.out, ← q])
theorem restart_ok (w : World) (n0 : Nat) (x : Dd) (p : Pl) (A : Option Addr) (n cap : Nat) (chs : List Int) (h : Dk n0 w x) (hp : Of x p) (hc : Nums w A n chs) (hA : ∀ g o, A = some ⟨g, o, none⟩ → 0 < n → ¬ x.O g) (hch : ∀ y ∈ chs, -9223372036854775808 ≤ y ∧ y ≤ 9223372036854775807)
    (hn63 : n ≤ 9223372036854775807) (hm : p.nf + p.pd.length < 1099511627776 - 10) (hn0 : n0 ≤ w.heap.size) :
    Calls Try.prog 47 #[ptrV x.db, .slice A n cap] w (RePost n0 w x p chs) := by
  rcases hd : p.down with _ | _
  · exact restart_up w n0 x p A n cap chs h hp hd
  · exact restart_main w n0 x p A n cap chs h hp hd hc hA hch hn63 hm hn0
end Go.Proofs.Ytegcbdfilkecpaa
/- The stand-in disk's calls where the disk is the caller's own; no condition but on the texts' lengths and the counts. -/
namespace Go.Proofs.Ytegcbdfilkecpaa
open Go.RowKit

/-- a disk of the caller's own: made behind W0 -/
def Da (W0 w : World) (db : Nat) (p : Pl) : Prop := ∃ x, x.db = db ∧ Dk W0.heap.size w x ∧ Of x p ∧ Kp NoB W0 w ∧ ∀ b, x.O b → W0.heap.size ≤ b
theorem Da.keep {W0 w w' : World} {db : Nat} {p : Pl} (h : Da W0 w db p) (k : Kp NoB w w') : Da W0 w' db p := by
  obtain ⟨x, e, hd, hp, hk, ho⟩ := h
  exact ⟨x, e, hd.keep k (fun _ _ q => q) (fun _ _ _ q => q), hp, hk.trans k (fun _ _ q => q), ho⟩
theorem Da.kp {W0 w : World} {db : Nat} {p : Pl} (h : Da W0 w db p) : Kp NoB W0 w := by
  obtain ⟨x, e, hd, hp, hk, ho⟩ := h
  exact hk
theorem da_of {W0 w w' : World} {x : Dd} {p' : Pl} (hk : Kp NoB W0 w) (ho : ∀ b, x.O b → W0.heap.size ≤ b) (h : To W0.heap.size w x p' w') : Da W0 w' x.db p' := by
  obtain ⟨x', hd, hp, e, k, o⟩ := h
  refine ⟨x', e, hd, hp, hk.trans k (fun i hi q => ?_), fun b hb => ?_⟩
  · have := ho i q
    omega
  · rcases o b hb with q | q
    · exact ho b q
    · exact Nat.le_trans hk.size q
theorem new_d (W0 w : World) (r : Int) (hr : -9223372036854775808 ≤ r ∧ r ≤ 9223372036854775807) (hk : Kp NoB W0 w) :
    Calls Try.prog 17 #[.int .i64 r] w fun e w' => ∃ db, e = .returned (ptrV db) ∧ Da W0 w' db (Pl.new r) :=
  (new_ok w r hr W0.heap.size hk.size).mono fun e w' ⟨db, mb, he, hd, k, h1, h2⟩ => ⟨db, he, _, rfl, hd, ⟨rfl, rfl, rfl, rfl, Nat.le_refl _, rfl, rfl, rfl, rfl, rfl, rfl⟩, hk.trans k (fun _ _ q => q), by
    have := hk.size
    rintro b (rfl | rfl | q | ⟨e, he, rfl⟩)
    · exact Nat.le_trans this h1
    · exact Nat.le_trans this h2
    · cases q
    · cases he⟩
section
variable {W0 w : World} {db : Nat} {p : Pl}
theorem write_d (h : Da W0 w db p) (s : ByteArray) (a : Int) (d : ByteArray) (hs : s.size ≤ maxLen) (hds : d.size ≤ maxLen) (hm : p.nf < 1099511627776 - 10) (hpd : p.pd.length < 1099511627776 - 20000) :
    Calls Try.prog 78 #[ptrV db, .string s, .int .i64 a, .string d] w fun e w' => e = .returned (.int .i64 (p.writeE s a (strI d))) ∧ Da W0 w' db (p.write s a (strI d)) := by
  obtain ⟨x, rfl, hd, hp, hk, ho⟩ := h
  exact (write_ok w _ x p s a d hd hp hs hds hk.size hm hpd).mono fun e w' ⟨he, ht⟩ => ⟨he, da_of hk ho ht⟩
theorem read_d (h : Da W0 w db p) (s : ByteArray) (a n : Int) (hs : s.size ≤ maxLen) (ha : -9223372036854775808 ≤ a ∧ a ≤ 9223372036854775807) (hn : -9223372036854775808 ≤ n ∧ n ≤ 9223372036854775807) :
    Calls Try.prog 28 #[ptrV db, .string s, .int .i64 a, .int .i64 n] w fun e w' => e = .returned (.tuple #[.string (strOf (p.read s a n)), .int .i64 (p.readE a n)]) ∧ Da W0 w' db p := by
  have h' := h
  obtain ⟨x, rfl, hd, hp, hk, ho⟩ := h
  exact (read_ok w _ x p s a n ha hn hd hp hs).mono fun e w' ⟨he, k⟩ => ⟨he, h'.keep k⟩
theorem len_d (h : Da W0 w db p) (s : ByteArray) (hs : s.size ≤ maxLen) : Calls Try.prog 67 #[ptrV db, .string s] w fun e w' => e = .returned (.int .i64 (p.len s)) ∧ w = w' := by
  obtain ⟨x, rfl, hd, hp, hk, ho⟩ := h
  exact len_ok w _ x p s hd hp hs
theorem steps_d (h : Da W0 w db p) : Calls Try.prog 30 #[ptrV db] w fun e w' => e = .returned (.int .i64 p.steps) ∧ w = w' := by
  obtain ⟨x, rfl, hd, hp, hk, ho⟩ := h
  exact steps_ok w _ x p hd hp
theorem pending_d (h : Da W0 w db p) : Calls Try.prog 31 #[ptrV db] w fun e w' => e = .returned (.int .i64 (p.pd.length : Nat)) ∧ w = w' := by
  obtain ⟨x, rfl, hd, hp, hk, ho⟩ := h
  exact pending_ok w _ x p hd hp
end
theorem Nums.nil (w : World) : Nums w none 0 [] := ⟨rfl, fun h => absurd h (by omega)⟩
/-! ### the answers that every law asks at its end -/
def nmF : ByteArray := ⟨#[102]⟩
def awX : ByteArray := ⟨#[120, 120, 120, 120, 120, 120, 120, 120, 120, 120]⟩
def awY : ByteArray := ⟨#[121, 121]⟩
noncomputable def aw1 : Pl := (Pl.new 100).write nmF 60 (strI awX)
noncomputable def aw2 : Pl := aw1.write nmF 99 (strI awY)
theorem awE : (Pl.new 100).writeE nmF 60 (strI awX) = 0 ∧ strOf (aw1.read nmF 58 4) = ⟨#[0, 0, 120, 120]⟩ ∧ aw1.readE 58 4 = 0 ∧ aw1.writeE nmF 99 (strI awY) = 5 ∧ aw2.len nmF = 70 ∧ aw2.pd.length = 3 ∧ aw2.steps = 1 ∧ aw1.nf = 2 ∧ aw1.pd.length = 3 ∧ (Pl.new 100).nf = 0 ∧ (Pl.new 100).pd.length = 0 := by
  refine ⟨?_, ?_, ?_, ?_, ?_, ?_, ?_, ?_, ?_, ?_, ?_⟩ <;> kernel_rfl
end Go.Proofs.Ytegcbdfilkecpaa
/- The reference's disk, its values in memory; no condition. -/
namespace Go.Proofs.Ytegcbdfilkecpaa
open Go.RowKit

theorem Blk.top {W : World} {g : Nat} {t : TypeId} {cs : Array Value} (e : W.heap.size = g) : Blk (W.alloc (.cells cs t)) g t cs := e ▸ Blk.new W t cs
theorem infoRd : (Try.prog.info? 56).map (·.size) = some 8 := by kernel_rfl
theorem infoRf : (Try.prog.info? 137).map (·.size) = some 3 := by kernel_rfl
/-- a file of the reference: its name, what is seen, what is kept -/
structure Rfile where
  nm : ByteArray
  seen : List Int
  kept : List Int
def rfCells (f : Rfile) : List Value := [.string f.nm, .string (strOf f.seen), .string (strOf f.kept)]
def rcCells (c : Cg) : List Value := [.string c.nm, .int .i64 c.sec, .int .i64 c.n, .string (strOf c.s)]
/-- no type of the stand-in disk's own blocks -/
def NotDk (t : TypeId) : Prop := t ≠ 121 ∧ t ≠ 143 ∧ t ≠ 148
instance (t : TypeId) : Decidable (NotDk t) := by unfold NotDk; infer_instance
/-- a list of structs in memory that nobody writes, in a block of another type than the stand-in disk's -/
def Rows (w : World) (A : Option Addr) (n : Nat) (sz : Nat) (xs : List (List Value)) : Prop :=
  xs.length = n ∧ (∀ x ∈ xs, x.length = sz) ∧ (0 < n → ∃ g o, ∃ t : { t : TypeId // NotDk t }, ∃ cs, A = some ⟨g, o, none⟩ ∧ Blk w g t.1 cs ∧ o + n * sz ≤ cs.size ∧ ∀ k (h : k < xs.length) j (hj : j < sz), cs[o + k * sz + j]? = xs[k][j]?)
theorem Rows.keep {w w' : World} {A : Option Addr} {n sz : Nat} {xs : List (List Value)} (h : Rows w A n sz xs) (k : Kp NoB w w') : Rows w' A n sz xs :=
  ⟨h.1, h.2.1, fun hn => by
    obtain ⟨g, o, t, cs, e, hb, hs, hc⟩ := h.2.2 hn
    exact ⟨g, o, t, cs, e, hb.keep k (fun q => q), hs, hc⟩⟩
theorem Rows.cell {w : World} {A : Option Addr} {n sz : Nat} {xs : List (List Value)} (h : Rows w A n sz xs) {k : Nat} {x : List Value} (hk : xs[k]? = some x) : ∃ g o, A = some ⟨g, o, none⟩ ∧ g < w.heap.size ∧ ∀ j v, x[j]? = some v → w.cell? ⟨g, o + k * sz + j, none⟩ = some v := by
  obtain ⟨hk', rfl⟩ := List.getElem?_eq_some_iff.1 hk
  obtain ⟨g, o, t, cs, e, hb, hs, hc⟩ := h.2.2 (by have := h.1; omega)
  refine ⟨g, o, e, hb.lt, fun j v hj => ?_⟩
  have hjl : j < sz := by
    rw [← h.2.1 _ (List.getElem_mem hk')]
    exact (List.getElem?_eq_some_iff.1 hj).1
  rw [hb.cell, hc k hk' j hjl]
  exact hj
structure Rd where
  fA : Option Addr
  fn : Nat
  fc : Nat
  fs : List Rfile
  pA : Option Addr
  pn : Nat
  pc : Nat
def rdV (d : Rd) (p : Pl) : Value := .agg #[.bool true, .bool p.down, .slice d.fA d.fn d.fc, .slice d.pA d.pn d.pc, .int .i64 p.room, .int .i64 p.steps, .int .i64 p.crash, .int .i64 p.starts]
def findR (fs : List Rfile) (s : ByteArray) : Option Rfile := fs.find? fun f => decide (f.nm = s)
def seenR (fs : List Rfile) (s : ByteArray) : List Int := match findR fs s with | some f => f.seen | none => []
def keptR (fs : List Rfile) (s : ByteArray) : List Int := match findR fs s with | some f => f.kept | none => []
def sumR (fs : List Rfile) : Int := (fs.map fun f => (f.seen.length : Int)).sum
def ksumR (fs : List Rfile) : Int := (fs.map fun f => (f.kept.length : Int)).sum
structure RfOk (f : Rfile) : Prop where
  nl : f.nm.size ≤ maxLen
  srng : ∀ y ∈ f.seen, 0 ≤ y ∧ y < 256
  krng : ∀ y ∈ f.kept, 0 ≤ y ∧ y < 256
  sl : f.seen.length ≤ 1048576
  kl : f.kept.length ≤ 1048576
/-- the reference's disk is the plain state -/
structure Rf (w : World) (d : Rd) (p : Pl) : Prop where
  files : Rows w d.fA d.fn 3 (d.fs.map rfCells)
  pend : Rows w d.pA d.pn 4 (p.pd.map rcCells)
  fnil : d.fA = none → d.fn = 0 ∧ d.fc = 0
  pnil : d.pA = none → d.pn = 0 ∧ d.pc = 0
  fok : ∀ f ∈ d.fs, RfOk f
  cok : ∀ c ∈ p.pd, CgOk c
  names : d.fs.Pairwise fun x y => x.nm ≠ y.nm
  seen : p.seen = seenR d.fs
  kept : p.kept = keptR d.fs
  sum : p.sum = sumR d.fs
  ksum : p.ksum = ksumR d.fs
  nf : d.fn ≤ p.nf
  room : 0 ≤ p.room ∧ p.room ≤ 9223372036854775807
  steps : -9223372036854775808 ≤ p.steps ∧ p.steps ≤ 9223372036854775807
  crash : 0 ≤ p.crash ∧ p.crash ≤ 9223372036854775807
  starts : -9223372036854775808 ≤ p.starts ∧ p.starts ≤ 9223372036854775807
theorem Rf.keep {w w' : World} {d : Rd} {p : Pl} (h : Rf w d p) (k : Kp NoB w w') : Rf w' d p := { h with files := h.files.keep k, pend := h.pend.keep k }
theorem Rf.fl {w : World} {d : Rd} {p : Pl} (h : Rf w d p) : d.fs.length = d.fn := by have := h.files.1; simpa using this
theorem Rf.pl {w : World} {d : Rd} {p : Pl} (h : Rf w d p) : p.pd.length = d.pn := by have := h.pend.1; simpa using this
theorem seenR_of {fs : List Rfile} (hn : fs.Pairwise fun x y => x.nm ≠ y.nm) {f : Rfile} (hf : f ∈ fs) : findR fs f.nm = some f := by
  unfold findR
  induction fs with
  | nil => cases hf
  | cons x r ih =>
    obtain ⟨h1, h2⟩ := List.pairwise_cons.1 hn
    rcases List.mem_cons.1 hf with rfl | q
    · simp
    · rw [List.find?_cons_of_neg (by simpa using h1 f q)]
      exact ih h2 q
set_option maxRecDepth 100000 in
theorem rwrong_ok (w : World) (d : Rd) (p : Pl) (h : Rf w d p) :
    Calls Try.prog 134 #[rdV d p] w fun e w' => e = .returned (.int .i64 p.wrong) ∧ Kp NoB w w' := by
  unfold rdV Pl.wrong
  generalize p.down = dn
  cases dn
  all_goals
    go_enter Try.func134, Try.ntmps134
    go_wp2_with fail
    go_ret
    exact ⟨rfl, (Kp.refl NoB w).alloc _⟩
end Go.Proofs.Ytegcbdfilkecpaa
/- The reference's disk: Find, Seen, step; no condition. -/
namespace Go.Proofs.Ytegcbdfilkecpaa
open Go.RowKit

set_option maxRecDepth 100000 in
set_option maxHeartbeats 800000 in
theorem rstep_ok (w : World) (d : Rd) (p : Pl) (h : Rf w d p) :
    Calls Try.prog 135 #[rdV d p] w fun e w' => e = .returned (.tuple #[rdV d p.step, .int .i64 p.stepE]) ∧ Kp NoB w w' := by
  have hc := h.crash
  have hw1 : IntKind.i64.wrap (p.steps + 1) = wrp (p.steps + 1) := rfl
  unfold rdV Pl.stepE Pl.step
  clear h
  generalize p.down = dn
  generalize p.crash = cr at hc
  rcases (show cr = 0 ∨ cr = 1 ∨ 1 < cr by omega) with rfl | rfl | c1
  · simp only [show ¬ (0 : Int) = 1 by omega, show ¬ (0 : Int) < 0 by omega, if_false]
    go_enter Try.func135, Try.ntmps135
    go_wp2_with fail
    refine bodyPost_ret (ret_cell_tmp rfl _ _ _ _ _ _ rfl (Blk.top (by simp)) Try.underlying56 rfl (by exact infoRd) _ rfl) rfl ⟨rfl, ((Kp.refl NoB w).alloc _).alloc _⟩
  · simp only [show (0 : Int) < 1 by omega, if_true]
    go_enter Try.func135, Try.ntmps135
    go_wp2_with fail
    refine bodyPost_ret (ret_cell_tmp rfl _ _ _ _ _ _ rfl (Blk.top (by simp)) Try.underlying56 rfl (by exact infoRd) _ rfl) rfl ⟨rfl, ((Kp.refl NoB w).alloc _).alloc _⟩
  · have c2 : 0 < cr := by omega
    have c3 : ¬ cr = 1 := by omega
    have c4 : ¬ cr - 1 = 0 := by omega
    have hw2 : IntKind.i64.wrap (cr - 1) = cr - 1 := by rw [IntKind.wrap_i64]; omega
    simp only [c2, c3, if_true, if_false]
    go_enter Try.func135, Try.ntmps135
    go_wp2_with fail
    refine bodyPost_ret (ret_cell_tmp rfl _ _ _ _ _ _ rfl (Blk.top (by simp)) Try.underlying56 rfl (by exact infoRd) _ rfl) rfl ⟨rfl, ((Kp.refl NoB w).alloc _).alloc _⟩
def findI (fs : List Rfile) (s : ByteArray) : Int := match fs.findIdx? fun f => decide (f.nm = s) with | some i => i | none => -1
def FindRel (fs : List Rfile) (s : ByteArray) (v : Value) : Prop := ∃ k : Nat, v = .int .i64 (k : Int) ∧ k ≤ fs.length ∧ ∀ f ∈ fs.take k, f.nm ≠ s
theorem findI_at {fs : List Rfile} {s : ByteArray} {k : Nat} {f : Rfile} (h : ∀ x ∈ fs.take k, x.nm ≠ s) (hf : fs[k]? = some f) (he : f.nm = s) : findI fs s = k ∧ findR fs s = some f := by
  obtain ⟨hk, rfl⟩ := List.getElem?_eq_some_iff.1 hf
  have hn : ∀ j (hj : j < k), (decide (fs[j].nm = s)) = false := fun j hj => by
    have := h fs[j] (List.mem_of_getElem? (i := j) (by rw [List.getElem?_take_of_lt hj, List.getElem?_eq_getElem (by omega)]))
    simpa using this
  have e : (fs.findIdx? fun f => decide (f.nm = s)) = some k := by
    rw [List.findIdx?_eq_some_iff_getElem]
    exact ⟨hk, by simpa using he, fun j hj => by have := hn j hj; simpa using this⟩
  constructor
  · unfold findI
    rw [e]
  · unfold findR
    rw [List.find?_eq_some_iff_getElem]
    exact ⟨by simpa using he, k, hk, rfl, fun j hj => by have := hn j hj; simpa using this⟩
theorem findI_none {fs : List Rfile} {s : ByteArray} (h : ∀ x ∈ fs, x.nm ≠ s) : findI fs s = -1 ∧ findR fs s = none := by
  constructor
  · unfold findI
    rw [List.findIdx?_eq_none_iff.2 (fun x hx => by simpa using h x hx)]
  · unfold findR
    rw [List.find?_eq_none]
    intro x hx
    simpa using h x hx
set_option maxRecDepth 100000 in
set_option maxHeartbeats 800000 in
theorem find_raw (w : World) (A : Option Addr) (n c : Nat) (fs : List Rfile) (b0 b1 : Bool) (pA : Option Addr) (pn pc : Nat) (x4 x5 x6 x7 : Int) (s : ByteArray) (hF : Rows w A n 3 (fs.map rfCells)) (hn : n ≤ 9223372036854775807) :
    Calls Try.prog 82 #[.agg #[.bool b0, .bool b1, .slice A n c, .slice pA pn pc, .int .i64 x4, .int .i64 x5, .int .i64 x6, .int .i64 x7], .string s] w fun e w' => e = .returned (.int .i64 (findI fs s)) ∧ Kp NoB w w' := by
  have HF := Lib.hid hF
  have HFL : Hid (fs.length = n) := Lib.hid (by have := hF.1; simpa using this)
  have HN := Lib.hid hn
  clear hF hn
  go_enter Try.func82, Try.ntmps82
  go_wp2_with fail
  go_loop [5] (fun v => FindRel fs s v) (fun v => n - (intOf v).toNat)
  case atStart => exact ⟨0, rfl, Nat.zero_le _, by simp⟩
  case round =>
    obtain ⟨k, rfl, hk, hlk⟩ := hrel
    have HK := Lib.hid hk
    have HLK := Lib.hid hlk
    clear hk hlk
    by_cases hlt : k < n
    · have hkl : k < fs.length := by have := HFL.out; omega
      obtain ⟨f, hf⟩ : ∃ f, fs[k] = f := ⟨_, rfl⟩
      have hfk : fs[k]? = some f := by rw [List.getElem?_eq_getElem hkl, hf]
      have HFK := Lib.hid hfk
      obtain ⟨g, o, rfl, hg, hc⟩ := HF.out.cell (k := k) (x := rfCells f) (by rw [List.getElem?_map, hfk]; rfl)
      have c0 := hc 0 _ rfl
      rw [Nat.add_zero] at c0
      have hkk : (k : Int) < (n : Int) := by omega
      have hnn := HN.out
      clear hc hf hfk hkl
      by_cases he : f.nm = s
      · have hb := str_eqB f.nm s
        rw [decide_eq_true he] at hb
        have HE := Lib.hid (findI_at HLK.out HFK.out he).1
        clear he
        go_wp2_with fail
        go_ret
        exact ⟨by rw [HE.out]; rfl, (Kp.refl NoB w).alloc _⟩
      · have hb := str_eqB f.nm s
        rw [decide_eq_false he] at hb
        have HE := Lib.hid he
        clear he
        go_wp2_with fail
        go_round
        case rel => exact ⟨k + 1, by go_num, by have := HFL.out; omega, fun x hx => by
          rw [List.take_add_one, HFK.out] at hx
          rcases List.mem_append.1 hx with q | q
          · exact HLK.out x q
          · simp only [Option.toList_some, List.mem_singleton] at q
            rw [q]
            exact HE.out⟩
        case measure => simp [intOf]; omega
    · have hlt' : ¬ (k : Int) < (n : Int) := by omega
      go_wp2_with fail
      go_ret
      exact ⟨by rw [(findI_none (fun x hx => HLK.out x (by rw [List.take_of_length_le (by have := HFL.out; omega)]; exact hx))).1]; rfl, (Kp.refl NoB w).alloc _⟩
end Go.Proofs.Ytegcbdfilkecpaa
/- The reference's disk: Seen, file; no condition. -/
namespace Go.Proofs.Ytegcbdfilkecpaa
open Go.RowKit

theorem findI_cases (fs : List Rfile) (s : ByteArray) : (findI fs s = -1 ∧ findR fs s = none ∧ ∀ f ∈ fs, f.nm ≠ s) ∨ ∃ (k : Nat) (f : Rfile), findI fs s = k ∧ fs[k]? = some f ∧ f.nm = s ∧ findR fs s = some f ∧ ∀ x ∈ fs.take k, x.nm ≠ s := by
  rcases hq : fs.findIdx? (fun f => decide (f.nm = s)) with _ | k
  · have := List.findIdx?_eq_none_iff.1 hq
    have h : ∀ x ∈ fs, x.nm ≠ s := fun x hx => by simpa using this x hx
    exact .inl ⟨(findI_none h).1, (findI_none h).2, h⟩
  · obtain ⟨hk, he, hn⟩ := List.findIdx?_eq_some_iff_getElem.1 hq
    have he' : fs[k].nm = s := by simpa using he
    have h : ∀ x ∈ fs.take k, x.nm ≠ s := by
      intro x hx
      obtain ⟨j, hj, rfl⟩ := List.getElem_of_mem hx
      rw [List.length_take] at hj
      have := hn j (by omega)
      rw [List.getElem_take]
      simpa using this
    have hf : fs[k]? = some fs[k] := List.getElem?_eq_getElem hk
    exact .inr ⟨k, fs[k], (findI_at h hf he').1, hf, he', (findI_at h hf he').2, h⟩
set_option maxRecDepth 100000 in
set_option maxHeartbeats 800000 in
theorem seen_raw (w : World) (A : Option Addr) (n c : Nat) (fs : List Rfile) (b0 b1 : Bool) (pA : Option Addr) (pn pc : Nat) (x4 x5 x6 x7 : Int) (s : ByteArray) (hF : Rows w A n 3 (fs.map rfCells)) (hn : n ≤ 9223372036854775807) :
    Calls Try.prog 29 #[.agg #[.bool b0, .bool b1, .slice A n c, .slice pA pn pc, .int .i64 x4, .int .i64 x5, .int .i64 x6, .int .i64 x7], .string s] w fun e w' => e = .returned (.string (strOf (seenR fs s))) ∧ Kp NoB w w' := by
  have HF := Lib.hid hF
  have HN := Lib.hid hn
  have hE : strOf [] = ⟨#[]⟩ := rfl
  rcases findI_cases fs s with ⟨h1, h2, _⟩ | ⟨k, f, h1, hfk, he, h2, _⟩
  · have H1 := Lib.hid h1
    have H2 : Hid (seenR fs s = []) := Lib.hid (by unfold seenR; rw [h2])
    clear h1 h2 hF hn
    go_enter Try.func29, Try.ntmps29
    go_wp2_with (go_at_call 82; go_must (refine (find_raw _ A n c fs b0 b1 pA pn pc x4 x5 x6 x7 s (HF.out.keep ((Kp.refl NoB w).alloc _)) HN.out).mono ?_); rintro e w2 ⟨rfl, hk⟩; rw [H1.out]; have HK := Lib.hid hk; clear hk)
    go_ret
    exact ⟨by rw [H2.out]; rfl, ((Kp.refl NoB w).alloc _).trans HK.out (fun _ _ q => q)⟩
  · have H1 := Lib.hid h1
    have H2 : Hid (seenR fs s = f.seen) := Lib.hid (by unfold seenR; rw [h2])
    have hfl : fs.length = n := by have := hF.1; simpa using this
    have hkn : k < n := by rw [← hfl]; exact (List.getElem?_eq_some_iff.1 hfk).1
    obtain ⟨g, o, rfl, hg, hc⟩ := hF.cell (k := k) (x := rfCells f) (by rw [List.getElem?_map, hfk]; rfl)
    have c1 := hc 1 _ rfl
    have HC := Lib.hid c1
    have HG := Lib.hid hg
    have hkk : (k : Int) < (n : Int) := by omega
    clear h1 h2 hF hc hfl he hfk c1 hg
    go_enter Try.func29, Try.ntmps29
    go_wp2_with fail
    refine (find_raw _ _ n c fs b0 b1 pA pn pc x4 x5 x6 x7 s (HF.out.keep ((Kp.refl NoB w).alloc _)) HN.out).mono ?_
    rintro e w2 ⟨rfl, hk⟩
    rw [H1.out]
    have hkw := ((Kp.refl NoB w).alloc _).trans hk (fun _ _ q => q)
    have HKW := Lib.hid hkw
    have b2 := (Blk.new w 56 #[.bool b0, .bool b1, .slice (some ⟨g, o, none⟩) n c, .slice pA pn pc, .int .i64 x4, .int .i64 x5, .int .i64 x6, .int .i64 x7]).keep hk (fun q => q)
    have e2 : w2.cell? ⟨w.heap.size, 2, none⟩ = some (.slice (some ⟨g, o, none⟩) n c) := by rw [b2.cell]; rfl
    have e1 := (hkw.cell HG.out (fun q => q)).trans HC.out
    clear hk hkw b2
    go_wp2_with fail
    go_ret
    exact ⟨by rw [H2.out]; rfl, HKW.out⟩
def fileV (s : ByteArray) (l k : List Int) : Array Value := #[.string s, .string (strOf l), .string (strOf k)]
set_option maxRecDepth 100000 in
set_option maxHeartbeats 800000 in
theorem file_raw (w : World) (A : Option Addr) (n c : Nat) (fs : List Rfile) (b0 b1 : Bool) (pA : Option Addr) (pn pc : Nat) (x4 x5 x6 x7 : Int) (s : ByteArray) (hF : Rows w A n 3 (fs.map rfCells)) (hn : n ≤ 9223372036854775807) :
    Calls Try.prog 127 #[.agg #[.bool b0, .bool b1, .slice A n c, .slice pA pn pc, .int .i64 x4, .int .i64 x5, .int .i64 x6, .int .i64 x7], .string s] w fun e w' => e = .returned (.agg (fileV s (seenR fs s) (keptR fs s))) ∧ Kp NoB w w' := by
  have HF := Lib.hid hF
  have HN := Lib.hid hn
  rcases findI_cases fs s with ⟨h1, h2, _⟩ | ⟨k, f, h1, hfk, he, h2, _⟩
  · have H1 := Lib.hid h1
    have H2 : Hid (fileV s (seenR fs s) (keptR fs s) = #[.string s, .string ⟨#[]⟩, .string ⟨#[]⟩]) := Lib.hid (by unfold seenR keptR; rw [h2]; rfl)
    clear h1 h2 hF hn
    go_enter Try.func127, Try.ntmps127
    go_wp2_with fail
    refine (find_raw _ A n c fs b0 b1 pA pn pc x4 x5 x6 x7 s (HF.out.keep (((Kp.refl NoB w).alloc _).alloc _)) HN.out).mono ?_
    rintro e w2 ⟨rfl, hk⟩
    rw [H1.out]
    have hkw := (((Kp.refl NoB w).alloc _).alloc _).trans hk (fun _ _ q => q)
    have b4 := (Blk.top (W := w.alloc (.cells #[.bool b0, .bool b1, .slice A n c, .slice pA pn pc, .int .i64 x4, .int .i64 x5, .int .i64 x6, .int .i64 x7] 56)) (g := w.heap.size + 1) (t := 137) (cs := #[.string ⟨#[]⟩, .string ⟨#[]⟩, .string ⟨#[]⟩]) (by simp)).keep hk (fun q => q)
    have HB4 := Lib.hid b4
    have HKW := Lib.hid hkw
    have f0 := b4.frozen 0
    have f1 := b4.frozen 1
    have f2 := b4.frozen 2
    have e0 : w2.cell? ⟨w.heap.size + 1, 0, none⟩ = some (.string ⟨#[]⟩) := by rw [b4.cell]; rfl
    have e1 : w2.cell? ⟨w.heap.size + 1, 1, none⟩ = some (.string ⟨#[]⟩) := by rw [b4.cell]; rfl
    have e2 : w2.cell? ⟨w.heap.size + 1, 2, none⟩ = some (.string ⟨#[]⟩) := by rw [b4.cell]; rfl
    clear hk hkw b4
    go_wp2_with fail
    have kz : w.heap.size ≤ w.heap.size + 1 := by omega
    refine bodyPost_ret (results_cell_row rfl _ _ _ _ _ _ _ rfl (((HB4.out.set_ 0 _).set_ 1 _).set_ 2 _) Try.underlying137 rfl (by exact infoRf)) rfl ⟨by rw [H2.out]; rfl, ((HKW.out.setCell (.inl kz) _).setCell (.inl kz) _).setCell (.inl kz) _⟩
  · have H1 := Lib.hid h1
    have H2 : Hid (fileV s (seenR fs s) (keptR fs s) = #[.string f.nm, .string (strOf f.seen), .string (strOf f.kept)]) := Lib.hid (by unfold seenR keptR; rw [h2, he]; rfl)
    have hfl : fs.length = n := by have := hF.1; simpa using this
    have hkn : k < n := by rw [← hfl]; exact (List.getElem?_eq_some_iff.1 hfk).1
    obtain ⟨g, o, rfl, hg, hc⟩ := hF.cell (k := k) (x := rfCells f) (by rw [List.getElem?_map, hfk]; rfl)
    have HC0 : Hid (w.cell? ⟨g, o + k * 3, none⟩ = some (.string f.nm)) := Lib.hid (hc 0 _ rfl)
    have HC1 := Lib.hid (hc 1 _ rfl)
    have HC2 := Lib.hid (hc 2 _ rfl)
    have HG := Lib.hid hg
    have hkk : (k : Int) < (n : Int) := by omega
    clear h1 h2 hF hc hfl he hfk hg
    go_enter Try.func127, Try.ntmps127
    go_wp2_with fail
    refine (find_raw _ _ n c fs b0 b1 pA pn pc x4 x5 x6 x7 s (HF.out.keep (((Kp.refl NoB w).alloc _).alloc _)) HN.out).mono ?_
    rintro e w2 ⟨rfl, hk⟩
    rw [H1.out]
    have hkw := (((Kp.refl NoB w).alloc _).alloc _).trans hk (fun _ _ q => q)
    have hkd := ((Kp.refl NoB (w.alloc (.cells #[.bool b0, .bool b1, .slice (some ⟨g, o, none⟩) n c, .slice pA pn pc, .int .i64 x4, .int .i64 x5, .int .i64 x6, .int .i64 x7] 56))).alloc _).trans hk (fun _ _ q => q)
    have b4 := (Blk.top (W := w.alloc (.cells #[.bool b0, .bool b1, .slice (some ⟨g, o, none⟩) n c, .slice pA pn pc, .int .i64 x4, .int .i64 x5, .int .i64 x6, .int .i64 x7] 56)) (g := w.heap.size + 1) (t := 137) (cs := #[.string ⟨#[]⟩, .string ⟨#[]⟩, .string ⟨#[]⟩]) (by simp)).keep hk (fun q => q)
    have b3 := (Blk.new w 56 #[.bool b0, .bool b1, .slice (some ⟨g, o, none⟩) n c, .slice pA pn pc, .int .i64 x4, .int .i64 x5, .int .i64 x6, .int .i64 x7]).keep hkd (fun q => q)
    have HB4 := Lib.hid b4
    have HKW := Lib.hid hkw
    have f0 := b4.frozen 0
    have f1 := b4.frozen 1
    have f2 := b4.frozen 2
    have e0 : w2.cell? ⟨w.heap.size + 1, 0, none⟩ = some (.string ⟨#[]⟩) := by rw [b4.cell]; rfl
    have e1 : w2.cell? ⟨w.heap.size + 1, 1, none⟩ = some (.string ⟨#[]⟩) := by rw [b4.cell]; rfl
    have e2 : w2.cell? ⟨w.heap.size + 1, 2, none⟩ = some (.string ⟨#[]⟩) := by rw [b4.cell]; rfl
    have e3 : w2.cell? ⟨w.heap.size, 2, none⟩ = some (.slice (some ⟨g, o, none⟩) n c) := by rw [b3.cell]; rfl
    have d0 := (hkw.cell HG.out (fun q => q)).trans HC0.out
    have d1 := (hkw.cell HG.out (fun q => q)).trans HC1.out
    have d2 := (hkw.cell HG.out (fun q => q)).trans HC2.out
    clear hk hkw b4 b3 hkd
    go_wp2_with fail
    have kz : w.heap.size ≤ w.heap.size + 1 := by omega
    refine bodyPost_ret (results_cell_row rfl _ _ _ _ _ _ _ rfl (((HB4.out.set_ 0 _).set_ 1 _).set_ 2 _) Try.underlying137 rfl (by exact infoRf)) rfl ⟨by rw [H2.out]; rfl, ((HKW.out.setCell (.inl kz) _).setCell (.inl kz) _).setCell (.inl kz) _⟩
end Go.Proofs.Ytegcbdfilkecpaa
/- The reference's lists of structs: rows in memory, appended and set; no condition. -/
namespace Go.Proofs.Ytegcbdfilkecpaa
open Go.RowKit

theorem flat_at (sz : Nat) : ∀ (xs : List (List Value)), (∀ x ∈ xs, x.length = sz) → ∀ (k j : Nat) (hj : j < sz) (hk : k < xs.length), xs.flatten[k * sz + j]? = xs[k][j]? := by
  intro xs
  induction xs with
  | nil => intro _ k j _ hk; simp at hk
  | cons x r ih =>
    intro h k j hj hk
    have hx := h x (by simp)
    rw [List.flatten_cons]
    cases k with
    | zero =>
      rw [List.getElem?_append_left (by rw [hx]; omega)]
      simp
    | succ k =>
      rw [List.getElem?_append_right (by rw [hx, Nat.add_mul]; omega), hx, show (k + 1) * sz + j - sz = k * sz + j by rw [Nat.add_mul]; omega, ih (fun y hy => h y (by simp [hy])) k j hj (by simpa using hk)]
      simp
theorem flat_len (sz : Nat) : ∀ (xs : List (List Value)), (∀ x ∈ xs, x.length = sz) → xs.flatten.length = xs.length * sz := by
  intro xs
  induction xs with
  | nil => intro _; simp
  | cons x r ih =>
    intro h
    rw [List.flatten_cons, List.length_append, h x (by simp), ih (fun y hy => h y (by simp [hy])), List.length_cons, Nat.add_mul]
    omega
theorem Rows.own {w : World} {base n cap sz : Nat} {e : TypeId} {A : Option Addr} {xs : List (List Value)} (h : w.ownsRow base e sz (.slice A n cap) n xs.flatten) (hl : xs.length = n) (hx : ∀ x ∈ xs, x.length = sz) (he : NotDk e := by decide) : Rows w A n sz xs :=
  ⟨hl, hx, fun hn => by
    obtain ⟨g, ds, rfl, hg, hb⟩ := own_blkN h hn
    refine ⟨g, 0, ⟨e, he⟩, _, rfl, hb, ?_, fun k hk j hj => ?_⟩
    · simp only [Nat.zero_add, List.size_toArray, List.length_append, flat_len sz xs hx, hl]
      omega
    · have hlt : k * sz + j < xs.flatten.length := by
        rw [flat_len sz xs hx]
        have : (k + 1) * sz ≤ xs.length * sz := Nat.mul_le_mul_right _ hk
        rw [Nat.add_mul] at this
        omega
      simp only [Nat.zero_add, List.getElem?_toArray]
      rw [List.getElem?_append_left hlt, flat_at sz xs hx k j hj hk]⟩
theorem Rows.src {w : World} {n sz : Nat} {A : Option Addr} {xs : List (List Value)} (h : Rows w A n sz xs) (hn : 0 < n) (hsz : 0 < sz) : ∃ g o, A = some ⟨g, o, none⟩ ∧ ∀ j u, xs.flatten[j]? = some u → w.cell? ⟨g, o + j, none⟩ = some u := by
  obtain ⟨g, o, t, cs, rfl, hb, hs, hc⟩ := h.2.2 hn
  refine ⟨g, o, rfl, fun j u hj => ?_⟩
  have hjl := (List.getElem?_eq_some_iff.1 hj).1
  rw [flat_len sz xs h.2.1] at hjl
  have hk : j / sz < xs.length := Nat.div_lt_of_lt_mul (by rw [Nat.mul_comm]; exact hjl)
  have hm : j % sz < sz := Nat.mod_lt _ hsz
  have e : j / sz * sz + j % sz = j := by rw [Nat.mul_comm]; exact Nat.div_add_mod j sz
  have h1 := flat_at sz xs h.2.1 (j / sz) (j % sz) hm hk
  rw [e, hj] at h1
  rw [hb.cell]
  have h2 := hc (j / sz) hk (j % sz) hm
  rw [Nat.add_assoc, e] at h2
  rw [h2, ← h1]
theorem cells_newR (w : World) (cs : List Value) (t : TypeId) : ∀ j u, cs[j]? = some u → (w.alloc (.cells cs.toArray t)).cell? ((⟨w.heap.size, 0, none⟩ : Addr).add j) = some u := by
  intro j u hj
  rw [add_mk, Nat.zero_add, (Blk.new w t cs.toArray).cell]
  simpa using hj
/-- the list with a file put at its name's place -/
def putR (fs : List Rfile) (f : Rfile) : List Rfile := match fs.findIdx? fun x => decide (x.nm = f.nm) with | some i => fs.set i f | none => fs ++ [f]
theorem set3_at {xs : List (List Value)} {cs : Array Value} {k : Nat} {a b c : Value} (hx : ∀ x ∈ xs, x.length = 3) (hk : k < xs.length) (hs : xs.length * 3 ≤ cs.size) (hc : ∀ i (h : i < xs.length) j, j < 3 → cs[i * 3 + j]? = xs[i][j]?) :
    ∀ i (h : i < (xs.set k [a, b, c]).length) j, j < 3 → (((cs.setIfInBounds (k * 3) a).setIfInBounds (k * 3 + 1) b).setIfInBounds (k * 3 + 2) c)[i * 3 + j]? = (xs.set k [a, b, c])[i][j]? := by
  intro i h j hj
  rw [List.length_set] at h
  simp only [Array.getElem?_setIfInBounds, Array.size_setIfInBounds, List.getElem_set]
  by_cases hik : k = i
  · subst hik
    rcases (show j = 0 ∨ j = 1 ∨ j = 2 by omega) with rfl | rfl | rfl
    · simp; omega
    · simp; omega
    · simp; omega
  · rw [if_neg (by omega), if_neg (by omega), if_neg (by omega), if_neg hik]
    exact hc i h j hj
end Go.Proofs.Ytegcbdfilkecpaa
/- The reference's disk: with; condition: fewer than 2^40 files. -/
namespace Go.Proofs.Ytegcbdfilkecpaa
open Go.RowKit

theorem infoRfile : (Try.prog.info? 137).map (fun i => (i.zero, i.size, i.bytes)) = some (some (.agg #[.string ⟨#[]⟩, .string ⟨#[]⟩, .string ⟨#[]⟩]), 3, 48) := by kernel_rfl
theorem rf_len (fs : List Rfile) : ∀ x ∈ fs.map rfCells, x.length = 3 := by
  intro x hx
  obtain ⟨f, _, rfl⟩ := List.mem_map.1 hx
  rfl
theorem rf_one (fs : List Rfile) : ∀ u ∈ (fs.map rfCells).flatten, u.oneCell' = true := by
  intro u hu
  obtain ⟨x, hx, hux⟩ := List.mem_flatten.1 hu
  obtain ⟨f, _, rfl⟩ := List.mem_map.1 hx
  simp only [rfCells, List.mem_cons, List.not_mem_nil, or_false] at hux
  rcases hux with rfl | rfl | rfl <;> rfl
theorem Blk.c8 {w : World} {g : Nat} {t : TypeId} {a0 a1 a2 a3 a4 a5 a6 a7 : Value} (h : Blk w g t #[a0, a1, a2, a3, a4, a5, a6, a7]) :
    w.cell? ⟨g, 0, none⟩ = some a0 ∧ w.cell? ⟨g, 1, none⟩ = some a1 ∧ w.cell? ⟨g, 2, none⟩ = some a2 ∧ w.cell? ⟨g, 3, none⟩ = some a3 ∧ w.cell? ⟨g, 4, none⟩ = some a4 ∧ w.cell? ⟨g, 5, none⟩ = some a5 ∧ w.cell? ⟨g, 6, none⟩ = some a6 ∧ w.cell? ⟨g, 7, none⟩ = some a7 :=
  ⟨h.cell 0, h.cell 1, h.cell 2, h.cell 3, h.cell 4, h.cell 5, h.cell 6, h.cell 7⟩
theorem Blk.z8 {w : World} {g : Nat} {t : TypeId} {cs : Array Value} (h : Blk w g t cs) :
    w.frozen? ⟨g, 0, none⟩ = false ∧ w.frozen? ⟨g, 1, none⟩ = false ∧ w.frozen? ⟨g, 2, none⟩ = false ∧ w.frozen? ⟨g, 3, none⟩ = false ∧ w.frozen? ⟨g, 4, none⟩ = false ∧ w.frozen? ⟨g, 5, none⟩ = false ∧ w.frozen? ⟨g, 6, none⟩ = false ∧ w.frozen? ⟨g, 7, none⟩ = false :=
  ⟨h.frozen 0, h.frozen 1, h.frozen 2, h.frozen 3, h.frozen 4, h.frozen 5, h.frozen 6, h.frozen 7⟩
theorem Blk.c3 {w : World} {g : Nat} {t : TypeId} {a0 a1 a2 : Value} (h : Blk w g t #[a0, a1, a2]) : w.cell? ⟨g, 0, none⟩ = some a0 ∧ w.cell? ⟨g, 1, none⟩ = some a1 ∧ w.cell? ⟨g, 2, none⟩ = some a2 :=
  ⟨h.cell 0, h.cell 1, h.cell 2⟩
theorem blk9 {w : World} {s0 s2 i : Nat} {t : TypeId} {y a0 a1 a2 a3 a4 a5 a6 a7 : Value} {cs : Array Value} (h : Blk w s2 t cs) (hs : cs.size = 8) (hne : s2 ≠ s0) : Blk (((((((((w.setCell ⟨s0, i, none⟩ y).setCell ⟨s2, 0, none⟩ a0).setCell ⟨s2, 1, none⟩ a1).setCell ⟨s2, 2, none⟩ a2).setCell ⟨s2, 3, none⟩ a3).setCell ⟨s2, 4, none⟩ a4).setCell ⟨s2, 5, none⟩ a5).setCell ⟨s2, 6, none⟩ a6).setCell ⟨s2, 7, none⟩ a7) s2 t #[a0, a1, a2, a3, a4, a5, a6, a7] := by
  have := (h.far (p := ⟨s0, i, none⟩) hne y).whole #[a0, a1, a2, a3, a4, a5, a6, a7] (by rw [hs]; rfl)
  exact this
theorem kp9 {S : Nat → Prop} {a w : World} {s0 s2 i : Nat} {y a0 a1 a2 a3 a4 a5 a6 a7 : Value} (h : Kp S a w) (h0 : a.heap.size ≤ s0 ∨ S s0) (h2 : a.heap.size ≤ s2 ∨ S s2) : Kp S a (((((((((w.setCell ⟨s0, i, none⟩ y).setCell ⟨s2, 0, none⟩ a0).setCell ⟨s2, 1, none⟩ a1).setCell ⟨s2, 2, none⟩ a2).setCell ⟨s2, 3, none⟩ a3).setCell ⟨s2, 4, none⟩ a4).setCell ⟨s2, 5, none⟩ a5).setCell ⟨s2, 6, none⟩ a6).setCell ⟨s2, 7, none⟩ a7) :=
  ((((((((h.setCell (p := ⟨s0, i, none⟩) h0 y).setCell (p := ⟨s2, 0, none⟩) h2 a0).setCell (p := ⟨s2, 1, none⟩) h2 a1).setCell (p := ⟨s2, 2, none⟩) h2 a2).setCell (p := ⟨s2, 3, none⟩) h2 a3).setCell (p := ⟨s2, 4, none⟩) h2 a4).setCell (p := ⟨s2, 5, none⟩) h2 a5).setCell (p := ⟨s2, 6, none⟩) h2 a6).setCell (p := ⟨s2, 7, none⟩) h2 a7
set_option maxRecDepth 100000 in
set_option maxHeartbeats 1600000 in
theorem with_raw (w : World) (A : Option Addr) (n c : Nat) (fs : List Rfile) (b0 b1 : Bool) (pA : Option Addr) (pn pc : Nat) (x4 x5 x6 x7 : Int) (f : Rfile) (hF : Rows w A n 3 (fs.map rfCells)) (hA : A = none → n = 0 ∧ c = 0) (hn : n < 1099511627776) :
    Calls Try.prog 129 #[.agg #[.bool b0, .bool b1, .slice A n c, .slice pA pn pc, .int .i64 x4, .int .i64 x5, .int .i64 x6, .int .i64 x7], .agg #[.string f.nm, .string (strOf f.seen), .string (strOf f.kept)]] w fun e w' =>
      ∃ A' n' c', e = .returned (.agg #[.bool b0, .bool b1, .slice A' n' c', .slice pA pn pc, .int .i64 x4, .int .i64 x5, .int .i64 x6, .int .i64 x7]) ∧ Rows w' A' n' 3 ((putR fs f).map rfCells) ∧ (A' = none → n' = 0 ∧ c' = 0) ∧ n' ≤ n + 1 ∧ Kp NoB w w' := by
  have HF := Lib.hid hF
  have HA := Lib.hid hA
  have HN := Lib.hid hn
  have HFL : Hid (fs.length = n) := Lib.hid (by have := hF.1; simpa using this)
  obtain ⟨j0, hj0, hj1⟩ := Option.map_eq_some_iff.1 infoRfile
  simp only [Prod.mk.injEq] at hj1
  have HJ0 := Lib.hid hj0
  have HY0 := Lib.hid hj1.1
  have HY1 := Lib.hid hj1.2.1
  have HY2 := Lib.hid hj1.2.2
  clear hF hA hn hj0 hj1
  go_enter Try.func129, Try.ntmps129
  go_upto_region 1 with fail
  have hB0 : Blk (((w.alloc (.cells #[.bool b0, .bool b1, .slice A n c, .slice pA pn pc, .int .i64 x4, .int .i64 x5, .int .i64 x6, .int .i64 x7] 56)).alloc (.cells #[.string f.nm, .string (strOf f.seen), .string (strOf f.kept)] 137)).alloc (.cells #[.bool false, .bool false, .slice none 0 0, .slice none 0 0, .int .i64 0, .int .i64 0, .int .i64 0, .int .i64 0] 56)) w.heap.size 56 #[.bool b0, .bool b1, .slice A n c, .slice pA pn pc, .int .i64 x4, .int .i64 x5, .int .i64 x6, .int .i64 x7] := ((Blk.new w _ _).alloc _).alloc _
  have hB1 : Blk (((w.alloc (.cells #[.bool b0, .bool b1, .slice A n c, .slice pA pn pc, .int .i64 x4, .int .i64 x5, .int .i64 x6, .int .i64 x7] 56)).alloc (.cells #[.string f.nm, .string (strOf f.seen), .string (strOf f.kept)] 137)).alloc (.cells #[.bool false, .bool false, .slice none 0 0, .slice none 0 0, .int .i64 0, .int .i64 0, .int .i64 0, .int .i64 0] 56)) (w.heap.size + 1) 137 #[.string f.nm, .string (strOf f.seen), .string (strOf f.kept)] := (Blk.top (by simp)).alloc _
  have hB2 : Blk (((w.alloc (.cells #[.bool b0, .bool b1, .slice A n c, .slice pA pn pc, .int .i64 x4, .int .i64 x5, .int .i64 x6, .int .i64 x7] 56)).alloc (.cells #[.string f.nm, .string (strOf f.seen), .string (strOf f.kept)] 137)).alloc (.cells #[.bool false, .bool false, .slice none 0 0, .slice none 0 0, .int .i64 0, .int .i64 0, .int .i64 0, .int .i64 0] 56)) (w.heap.size + 1 + 1) 56 #[.bool false, .bool false, .slice none 0 0, .slice none 0 0, .int .i64 0, .int .i64 0, .int .i64 0, .int .i64 0] := Blk.top (by simp)
  have hKW : Kp NoB w (((w.alloc (.cells #[.bool b0, .bool b1, .slice A n c, .slice pA pn pc, .int .i64 x4, .int .i64 x5, .int .i64 x6, .int .i64 x7] 56)).alloc (.cells #[.string f.nm, .string (strOf f.seen), .string (strOf f.kept)] 137)).alloc (.cells #[.bool false, .bool false, .slice none 0 0, .slice none 0 0, .int .i64 0, .int .i64 0, .int .i64 0, .int .i64 0] 56)) := (((Kp.refl NoB w).alloc _).alloc _).alloc _
  have hsz : (((w.alloc (.cells #[.bool b0, .bool b1, .slice A n c, .slice pA pn pc, .int .i64 x4, .int .i64 x5, .int .i64 x6, .int .i64 x7] 56)).alloc (.cells #[.string f.nm, .string (strOf f.seen), .string (strOf f.kept)] 137)).alloc (.cells #[.bool false, .bool false, .slice none 0 0, .slice none 0 0, .int .i64 0, .int .i64 0, .int .i64 0, .int .i64 0] 56)).heap.size = w.heap.size + 3 := by simp
  generalize ((w.alloc (.cells #[.bool b0, .bool b1, .slice A n c, .slice pA pn pc, .int .i64 x4, .int .i64 x5, .int .i64 x6, .int .i64 x7] 56)).alloc (.cells #[.string f.nm, .string (strOf f.seen), .string (strOf f.kept)] 137)).alloc (.cells #[.bool false, .bool false, .slice none 0 0, .slice none 0 0, .int .i64 0, .int .i64 0, .int .i64 0, .int .i64 0] 56) = W at hB0 hB1 hB2 hKW hsz ⊢
  generalize hs0 : w.heap.size = s0 at hB0 hB1 hB2 hsz ⊢
  have HS0 := Lib.hid hs0
  clear hs0
  have HB0 := Lib.hid hB0
  have HB1 := Lib.hid hB1
  have HB2 := Lib.hid hB2
  have HKW := Lib.hid hKW
  have HSZ := Lib.hid hsz
  have HOWN : Hid ((W.alloc (.cells #[] 137)).ownsRow W.heap.size 137 3 (.slice (some ⟨W.heap.size, 0, none⟩) 0 0) 0 []) := Lib.hid ⟨rfl, .inr ⟨W.heap.size, 0, #[], rfl, Nat.le_refl _, heap_alloc_new _ _, Nat.le_refl _, by simp, rfl, rfl⟩⟩
  have e2 : W.cell? ⟨s0, 2, none⟩ = some (.slice A n c) := by rw [hB0.cell]; rfl
  have hl := hB0.lt
  clear hB0 hB1 hB2 hKW hsz
  go_upto_region 2 with (at_builtin; refine wpList_append_srcN rfl _ _ 53 rfl W.heap.size 137 j0 _ 3 48 Try.underlying53 HJ0.out HY0.out HY1.out HY2.out rfl (by omega) _ 0 [] rfl HOWN.out A n c (fs.map rfCells).flatten rfl HA.out (by rw [flat_len 3 _ (rf_len fs), List.length_map, HFL.out]) (fun hn => ((HF.out.keep HKW.out).keep ((Kp.refl NoB W).alloc _)).src hn (by omega)) (rf_one fs) (by have := HN.out; unfold maxLen; omega) (by have := HN.out; omega) (by simp) ?_; intro v1 w1 hown1 hgrow1; rw [Nat.zero_add, List.nil_append] at hown1; have HO1 := Lib.hid hown1; have hk1 := (((Kp.refl NoB W).alloc _).own (v := .slice (some ⟨W.heap.size, 0, none⟩) 0 0) hgrow1 rfl HOWN.out); have HK1 := Lib.hid hk1; obtain ⟨B, cb, rfl⟩ := own_slice hown1; clear hown1 hgrow1)
  have hb0 := HB0.out.keep hk1 (fun q => q)
  have hb1 := HB1.out.keep hk1 (fun q => q)
  have HC0 := Lib.hid hb0
  have HC1 := Lib.hid hb1
  have HD2 := Lib.hid (HB2.out.keep hk1 (fun q => q))
  obtain ⟨c0, c1, c2, c3, c4, c5, c6, c7⟩ := hb0.c8
  obtain ⟨d0, d1, d2⟩ := hb1.c3
  clear hb0 hb1 e2 hk1 hl
  go_wp2_with fail
  refine (find_raw w1 A n c fs b0 b1 pA pn pc x4 x5 x6 x7 f.nm ((HF.out.keep HKW.out).keep HK1.out) (by have := HN.out; omega)).mono ?_
  rintro e w2 ⟨rfl, hk⟩
  have HO2 := Lib.hid (own_keepB HO1.out hk (fun _ _ q => q))
  have HK2 := Lib.hid (HK1.out.trans hk (fun _ _ q => q))
  have hb0 := HC0.out.keep hk (fun q => q)
  have hb1 := HC1.out.keep hk (fun q => q)
  have hb2 := HD2.out.keep hk (fun q => q)
  have HE0 := Lib.hid hb0
  have HE1 := Lib.hid hb1
  have HE2 := Lib.hid hb2
  clear c0 c1 c2 c3 c4 c5 c6 c7 d0 d1 d2 hk
  rcases findI_cases fs f.nm with ⟨h1, h2, h3⟩ | ⟨k, f', h1, hfk, he, h2, h3⟩
  · rw [h1]
    have H3 := Lib.hid h3
    clear h1 h2 h3 hb0 hb2
    obtain ⟨d0, d1, d2⟩ := hb1.c3
    clear hb1
    go_upto_region 6 with (at_builtin; refine wpList_append_ownB rfl _ _ 53 rfl W.heap.size 137 j0 _ 3 48 Try.underlying53 HJ0.out HY0.out HY1.out HY2.out rfl (by omega) _ n (fs.map rfCells).flatten rfl (own_keepB HO2.out ((Kp.refl NoB w2).alloc _) (fun _ _ q => q)) ⟨w2.heap.size, 0, none⟩ 1 1 (rfCells f) rfl rfl (cells_newR _ _ _) (by simp [rfCells, Value.oneCell']) (by have := HN.out; unfold maxLen; omega) (by have := HN.out; omega) (by have := HK2.out.size; simp; omega) ?_; intro v3 w3 hown3 hgrow3 _; have HO3 := Lib.hid hown3; have hk3 := (HK2.out.alloc _).own hgrow3 rfl HO2.out; have HK3 := Lib.hid hk3; obtain ⟨B3, c3, rfl⟩ := own_slice hown3; clear hown3 hgrow3)
    clear d0 d1 d2
    have hb0 := HB0.out.keep hk3 (fun q => q)
    have hb2 := HB2.out.keep hk3 (fun q => q)
    have HX0 := Lib.hid hb0
    have HX2 := Lib.hid hb2
    obtain ⟨c0, c1, c2, c3', c4, c5, c6, c7⟩ := hb0.c8
    obtain ⟨y0, y1, y2, y3, y4, y5, y6, y7⟩ := hb2.c8
    have f2 := hb0.frozen 2
    obtain ⟨z0, z1, z2, z3, z4, z5, z6, z7⟩ := hb2.z8
    clear hb0 hb2 hk3
    go_wp2_with fail
    have kz : w.heap.size ≤ s0 := by have := HS0.out; omega
    have kz2 : w.heap.size ≤ s0 + 1 + 1 := by omega
    refine bodyPost_ret (results_cell_row rfl _ _ _ _ _ _ _ rfl (blk9 HX2.out rfl (by omega)) Try.underlying56 rfl (by exact infoRd)) rfl ⟨B3, n + 1, c3, rfl, ?_, fun q => ?_, Nat.le_refl _, kp9 (HKW.out.trans HK3.out (fun _ _ q => q)) (.inl kz) (.inl kz2)⟩
    · have hkp := kp9 (S := fun b => b = s0 ∨ b = s0 + 1 + 1) (s0 := s0) (s2 := s0 + 1 + 1) (i := 2) (y := .slice B3 (n + 1) c3) (a0 := .bool b0) (a1 := .bool b1) (a2 := .slice B3 (n + 1) c3) (a3 := .slice pA pn pc) (a4 := .int .i64 x4) (a5 := .int .i64 x5) (a6 := .int .i64 x6) (a7 := .int .i64 x7) (Kp.refl _ w3) (.inr (.inl rfl)) (.inr (.inr rfl))
      have ho := own_keepB HO3.out hkp (fun g hg q => by
        have h1 := own_ge HO3.out g hg
        have h2 := HSZ.out
        rcases q with q | q <;> omega)
      have hp : putR fs f = fs ++ [f] := by
        unfold putR
        rw [List.findIdx?_eq_none_iff.2 (fun x hx => by simpa using H3.out x hx)]
      refine Rows.own (base := W.heap.size) (e := 137) (cap := c3) ?_ (by rw [hp, List.length_map, List.length_append, HFL.out]; rfl) (rf_len _)
      rw [hp, List.map_append, List.flatten_append]
      simpa using ho
    · have := own_nil HO3.out q
      omega
  · have hkl : k < fs.length := (List.getElem?_eq_some_iff.1 hfk).1
    have hkn : k < n := by have := HFL.out; omega
    obtain ⟨g, ds, rfl, hg, hbb, hbl, _⟩ := own_full HO2.out (by omega)
    have hfk2 : (fs.map rfCells)[k]'(by simpa using hkl) = rfCells f' := by
      rw [List.getElem_map]
      obtain ⟨_, e⟩ := List.getElem?_eq_some_iff.1 hfk
      rw [e]
    have hat : ∀ j v, j < 3 → (rfCells f')[j]? = some v → w2.cell? ⟨g, k * 3 + j, none⟩ = some v := fun j v hj hv => by
      rw [hbb.cell, List.getElem?_toArray, List.getElem?_append_left (by rw [flat_len 3 _ (rf_len fs), List.length_map]; omega), flat_at 3 _ (rf_len fs) k j hj (by simpa using hkl), hfk2]
      exact hv
    have q0 := hat 0 _ (by omega) rfl
    have q1 := hat 1 _ (by omega) rfl
    have q2 := hat 2 _ (by omega) rfl
    rw [Nat.add_zero] at q0
    have r0 := hbb.frozen (k * 3)
    have r1 := hbb.frozen (k * 3 + 1)
    have r2 := hbb.frozen (k * 3 + 2)
    have hbs : Blk (((w2.setCell ⟨g, k * 3, none⟩ (.string f.nm)).setCell ⟨g, k * 3 + 1, none⟩ (.string (strOf f.seen))).setCell ⟨g, k * 3 + 2, none⟩ (.string (strOf f.kept))) g _ _ := ((hbb.set_ (k * 3) (.string f.nm)).set_ (k * 3 + 1) (.string (strOf f.seen))).set_ (k * 3 + 2) (.string (strOf f.kept))
    have HG := Lib.hid hg
    have HBS := Lib.hid hbs
    have HBL := Lib.hid hbl
    have HKL := Lib.hid hkl
    have H1F := Lib.hid (show (fs.findIdx? fun x => decide (x.nm = f.nm)) = some k by
      unfold findI at h1
      split at h1
      · rename_i i hi
        rw [hi]
        congr 1
        omega
      · omega)
    have hkk : (k : Int) < (n : Int) := by omega
    obtain ⟨d0, d1, d2⟩ := hb1.c3
    have n0 : s0 ≠ g := by have := HSZ.out; omega
    have n1 : s0 + 1 ≠ g := by have := HSZ.out; omega
    have n2 : s0 + 1 + 1 ≠ g := by have := HSZ.out; omega
    rw [h1]
    clear hb1 hb0 hb2 h1 h2 h3 hfk he hfk2 hat hbb hbl hbs hg hkl
    go_upto_region 6 with fail
    have hb0 := ((HE0.out.far (p := ⟨g, k * 3, none⟩) n0 (.string f.nm)).far (p := ⟨g, k * 3 + 1, none⟩) n0 (.string (strOf f.seen))).far (p := ⟨g, k * 3 + 2, none⟩) n0 (.string (strOf f.kept))
    have hb2 := ((HE2.out.far (p := ⟨g, k * 3, none⟩) n2 (.string f.nm)).far (p := ⟨g, k * 3 + 1, none⟩) n2 (.string (strOf f.seen))).far (p := ⟨g, k * 3 + 2, none⟩) n2 (.string (strOf f.kept))
    have hk3 : Kp NoB W (((w2.setCell ⟨g, k * 3, none⟩ (.string f.nm)).setCell ⟨g, k * 3 + 1, none⟩ (.string (strOf f.seen))).setCell ⟨g, k * 3 + 2, none⟩ (.string (strOf f.kept))) := ((HK2.out.setCell (.inl HG.out) _).setCell (.inl HG.out) _).setCell (.inl HG.out) _
    have hbs := HBS.out
    clear q0 q1 q2 r0 r1 r2 d0 d1 d2 n0 n1 n2
    generalize ((w2.setCell ⟨g, k * 3, none⟩ (.string f.nm)).setCell ⟨g, k * 3 + 1, none⟩ (.string (strOf f.seen))).setCell ⟨g, k * 3 + 2, none⟩ (.string (strOf f.kept)) = w3 at hb0 hb2 hk3 hbs ⊢
    have HK3 := Lib.hid hk3
    have HBT := Lib.hid hbs
    clear hk3 hbs
    have HX0 := Lib.hid hb0
    have HX2 := Lib.hid hb2
    obtain ⟨c0, c1, c2, c3', c4, c5, c6, c7⟩ := hb0.c8
    obtain ⟨y0, y1, y2, y3, y4, y5, y6, y7⟩ := hb2.c8
    have f2 := hb0.frozen 2
    obtain ⟨z0, z1, z2, z3, z4, z5, z6, z7⟩ := hb2.z8
    clear hb0 hb2
    go_wp2_with fail
    have kz : w.heap.size ≤ s0 := by have := HS0.out; omega
    have kz2 : w.heap.size ≤ s0 + 1 + 1 := by omega
    refine bodyPost_ret (results_cell_row rfl _ _ _ _ _ _ _ rfl (blk9 HX2.out rfl (by omega)) Try.underlying56 rfl (by exact infoRd)) rfl ⟨some ⟨g, 0, none⟩, n, cb, rfl, ?_, (fun q => nomatch q), Nat.le_succ _, kp9 (HKW.out.trans HK3.out (fun _ _ q => q)) (.inl kz) (.inl kz2)⟩
    have hkp := kp9 (S := fun b => b = s0 ∨ b = s0 + 1 + 1) (s0 := s0) (s2 := s0 + 1 + 1) (i := 2) (y := .slice (some ⟨g, 0, none⟩) n cb) (a0 := .bool b0) (a1 := .bool b1) (a2 := .slice (some ⟨g, 0, none⟩) n cb) (a3 := .slice pA pn pc) (a4 := .int .i64 x4) (a5 := .int .i64 x5) (a6 := .int .i64 x6) (a7 := .int .i64 x7) (Kp.refl _ w3) (.inr (.inl rfl)) (.inr (.inr rfl))
    have hp : putR fs f = fs.set k f := by
      unfold putR
      rw [H1F.out]
    rw [hp, List.map_set]
    have hsz : (fs.map rfCells).length * 3 ≤ ((fs.map rfCells).flatten ++ ds).toArray.size := by
      simp only [List.size_toArray, List.length_append, flat_len 3 _ (rf_len fs)]
      omega
    refine ⟨by rw [List.length_set, List.length_map, HFL.out], fun x hx => ?_, fun _ => ⟨g, 0, ⟨137, by decide⟩, _, rfl, HBT.out.keep hkp (fun q => by have h1 := HG.out; have h2 := HSZ.out; rcases q with q | q <;> omega), ?_, fun i hi j hj => ?_⟩⟩
    · rcases List.mem_or_eq_of_mem_set hx with q | q
      · exact rf_len fs x q
      · rw [q]; rfl
    · simp only [Array.size_setIfInBounds]
      rw [List.length_map, HFL.out] at hsz
      omega
    · rw [Nat.zero_add]
      exact set3_at (rf_len fs) (by simpa using HKL.out) hsz (fun i h j hj => by
        rw [List.getElem?_toArray, List.getElem?_append_left (by rw [flat_len 3 _ (rf_len fs)]; omega), flat_at 3 _ (rf_len fs) i j hj h]) i hi j hj
end Go.Proofs.Ytegcbdfilkecpaa
/- The reference's texts: noughts, a text cut or made longer; condition: at most 1048576 bytes. -/
namespace Go.Proofs.Ytegcbdfilkecpaa
open Go.RowKit

attribute [local go_sem ↓] conv64
theorem infoU8z : (Try.prog.info? 5).map (fun i => (i.zero, i.size, i.bytes)) = some (some (.int .u8 0), 1, 1) := by kernel_rfl
theorem made_zeros (n : Nat) : madeCells #[.int .u8 0] n = bytesV (zeros n) := by
  unfold madeCells bytesV zeros
  apply Array.ext
  · simp
  · intro i h1 h2
    simp [Nat.mod_one]
set_option maxRecDepth 100000 in
set_option maxHeartbeats 800000 in
theorem zeros_ok (w : World) (n : Nat) (hn : n ≤ 1099511627776) :
    Calls Try.prog 161 #[.int .i64 n] w fun e w' => e = .returned (.string (strOf (zeros n))) ∧ Kp NoB w w' := by
  have hmk := run_make_row' (P := Try.prog) 42 5 (.int .u8 0) 1 Try.underlying42 infoU8z rfl .i64 .i64 n (by omega) (by omega) w
  rw [made_zeros] at hmk
  have hb := Blk.new w 5 (bytesV (zeros n))
  have h1 := hb.byAt 0 n (by simp [zeros])
  have h2 := hb.byRd 0 n (by simp [zeros])
  have h3 : ((zeros n).drop 0).take n = zeros n := by rw [List.drop_zero, List.take_of_length_le (by simp [zeros])]
  rw [h3] at h2
  clear h3 hb
  go_enter Try.func161, Try.ntmps161
  go_wp2_with fail
  go_ret
  exact ⟨by rfl, (Kp.refl NoB w).alloc _⟩
theorem strOf_app (l m : List Int) : strOf (l ++ m) = strOf l ++ strOf m := by
  unfold strOf
  apply ByteArray.ext
  simp
theorem strOf_sub (l : List Int) (a b : Nat) : (strOf l).extract a b = strOf ((l.drop a).take (b - a)) := by
  unfold strOf
  apply ByteArray.ext
  simp [ByteArray.data_extract, List.map_take, List.map_drop]
set_option maxRecDepth 100000 in
set_option maxHeartbeats 800000 in
theorem sized_ok (w : World) (l : List Int) (n : Nat) (hl : l.length ≤ 1048576) (hn : n ≤ 1048576) :
    Calls Try.prog 139 #[.string (strOf l), .int .i64 n] w fun e w' => e = .returned (.string (strOf (sizedF l n))) ∧ Kp NoB w w' := by
  have hs := strOf_size l
  by_cases h : n ≤ l.length
  · have hS : Hid (sizedF l n = l.take n) := Lib.hid (by unfold sizedF; rw [if_pos h])
    have h' : (n : Int) ≤ (l.length : Int) := by omega
    go_enter Try.func139, Try.ntmps139
    go_wp2_with fail
    go_ret
    rw [hS.out]
    exact ⟨by show Ending.returned (.string ((strOf l).extract 0 n)) = _; rw [strOf_sub, List.drop_zero, Nat.sub_zero], Kp.refl NoB w⟩
  · have hS : Hid (sizedF l n = l ++ zeros (n - l.length)) := Lib.hid (by unfold sizedF zeros; rw [if_neg h])
    have h' : ¬ (n : Int) ≤ (l.length : Int) := by omega
    have hw : IntKind.i64.wrap ((n : Int) - (l.length : Int)) = ((n - l.length : Nat) : Int) := by rw [IntKind.wrap_i64]; omega
    have hz := strOf_size (zeros (n - l.length))
    have hz2 : (zeros (n - l.length)).length = n - l.length := by simp [zeros]
    rw [hz2] at hz
    clear hz2
    go_enter Try.func139, Try.ntmps139
    go_wp2_with (go_at_call 161; go_must (refine (zeros_ok w (n - l.length) (by omega)).mono ?_); rintro e w2 ⟨rfl, hk⟩; have HK := Lib.hid hk; clear hk)
    go_ret
    rw [hS.out]
    exact ⟨by rw [strOf_app]; rfl, HK.out⟩
end Go.Proofs.Ytegcbdfilkecpaa
/- The reference's disk: what a choice makes of what is kept; condition: at most 1048576 bytes. -/
namespace Go.Proofs.Ytegcbdfilkecpaa
open Go.RowKit

set_option maxRecDepth 100000 in
set_option maxHeartbeats 800000 in
theorem made_ok (w : World) (l : List Int) (c : Cg) (ch : Int) (hl : l.length ≤ 1048576) (hc : CgOk c) (hch : -9223372036854775808 ≤ ch ∧ ch ≤ 9223372036854775807) :
    Calls Try.prog 128 #[.string (strOf l), .agg #[.string c.nm, .int .i64 c.sec, .int .i64 c.n, .string (strOf c.s)], .int .i64 ch] w fun e w' => e = .returned (.string (strOf (Pl.made l c ch))) ∧ Kp NoB w w' := by
  have hs := strOf_size l
  by_cases h1 : ch ≤ 0
  · have hM : Hid (Pl.made l c ch = l) := Lib.hid (by unfold Pl.made; rw [if_pos h1])
    clear hc
    go_enter Try.func128, Try.ntmps128
    go_wp2_with fail
    go_ret
    exact ⟨by rw [hM.out]; rfl, (Kp.refl NoB w).alloc _⟩
  · rcases hc.kind with ⟨hs0, hsec, hcn0, hcn1⟩ | ⟨hs64, hsec0, hsec1, hn⟩
    · obtain ⟨n, hn⟩ : ∃ n : Nat, c.n = n := ⟨c.n.toNat, by omega⟩
      have hM : Hid (Pl.made l c ch = sizedF l n) := Lib.hid (by unfold Pl.made; rw [if_neg h1, if_pos (by rw [hsec]; omega), hn]; rfl)
      rw [hsec, hn]
      have HN : Hid (n ≤ 1048576) := Lib.hid (by omega)
      clear hc hs0 hsec hcn0 hcn1 hn
      go_enter Try.func128, Try.ntmps128
      go_wp2_with (go_at_call 139; go_must (refine (sized_ok _ l n hl HN.out).mono ?_); rintro e w2 ⟨rfl, hk⟩; have HK := Lib.hid hk; clear hk)
      go_ret
      exact ⟨by rw [hM.out]; rfl, ((Kp.refl NoB w).alloc _).trans HK.out (fun _ _ q => q)⟩
    · obtain ⟨nn, hnn⟩ : ∃ nn : Nat, (if 1 < ch then (1 + (ch - 2) % 63).toNat else 64) = nn := ⟨_, rfl⟩
      have hnn1 : 1 ≤ nn ∧ nn ≤ 64 := by
        rw [← hnn]
        split <;> omega
      obtain ⟨a, hat⟩ : ∃ a : Nat, c.sec.toNat * 64 = a := ⟨_, rfl⟩
      have hw1 : IntKind.i64.wrap (c.sec * 64) = (a : Int) := by rw [IntKind.wrap_i64]; omega
      have hns : ¬ c.sec < 0 := by omega
      have hMM : Pl.made l c ch = Pl.put l a ((c.s.take nn).take (l.length - a)) := by
        unfold Pl.made
        rw [if_neg h1, if_neg (by omega), hnn, hat]
      have HMM := Lib.hid hMM
      have hcs := strOf_size c.s
      rw [hs64] at hcs
      have HNN := Lib.hid hnn
      have HS64 := Lib.hid hs64
      generalize hsc : c.sec = sc at hw1 hns
      clear hc hMM hnn hsec0 hsec1 hat hs64 hsc
      by_cases hge : l.length ≤ a
      · have hge' : (l.length : Int) ≤ (a : Int) := by omega
        have hM : Hid (Pl.made l c ch = l) := Lib.hid (by rw [HMM.out, show l.length - a = 0 by omega, List.take_zero, put_nil])
        by_cases hc1 : 1 < ch
        · have e1 : 1 + (ch - 2) % 63 = (nn : Int) := by have := HNN.out; rw [if_pos hc1] at this; omega
          have e0 : 0 ≤ ch - 2 := by omega
          have e3 : IntKind.i64.wrap (ch - 2) = ch - 2 := by rw [IntKind.wrap_i64]; omega
          go_enter Try.func128, Try.ntmps128
          go_wp2_with fail
          go_ret
          exact ⟨by rw [hM.out]; rfl, (Kp.refl NoB w).alloc _⟩
        · go_enter Try.func128, Try.ntmps128
          go_wp2_with fail
          go_ret
          exact ⟨by rw [hM.out]; rfl, (Kp.refl NoB w).alloc _⟩
      · have hlt : ¬ (l.length : Int) ≤ (a : Int) := by omega
        have hw2 : IntKind.i64.wrap ((l.length : Int) - (a : Int)) = ((l.length - a : Nat) : Int) := by rw [IntKind.wrap_i64]; omega
        obtain ⟨m, hm, hm1, hm2⟩ : ∃ m : Nat, (if (nn : Int) ≤ ((l.length - a : Nat) : Int) then nn else l.length - a) = m ∧ m ≤ 64 ∧ a + m ≤ l.length := ⟨_, rfl, by split <;> omega, by split <;> omega⟩
        have hM : Hid (Pl.made l c ch = l.take a ++ c.s.take m ++ l.drop (a + m)) := Lib.hid (by
          rw [HMM.out]
          unfold Pl.put
          have e : (c.s.take nn).take (l.length - a) = c.s.take m := by
            rw [List.take_take]
            congr 1
            rw [← hm]
            split <;> omega
          rw [e, List.length_take, HS64.out, Nat.min_eq_left hm1])
        have hw3 : IntKind.i64.wrap ((a : Int) + (m : Int)) = ((a + m : Nat) : Int) := by rw [IntKind.wrap_i64]; omega
        have hfin : Hid ((strOf l).extract 0 a ++ (strOf c.s).extract 0 m ++ (strOf l).extract (a + m) l.length = strOf (Pl.made l c ch)) := Lib.hid (by
          rw [hM.out, strOf_app, strOf_app, strOf_sub, strOf_sub, strOf_sub, List.drop_zero, List.drop_zero, Nat.sub_zero, Nat.sub_zero]
          congr 2
          rw [List.take_of_length_le (by simp)])
        clear HMM
        by_cases hc1 : 1 < ch
        · have e1 : 1 + (ch - 2) % 63 = (nn : Int) := by have := HNN.out; rw [if_pos hc1] at this; omega
          have e0 : 0 ≤ ch - 2 := by omega
          have e3 : IntKind.i64.wrap (ch - 2) = ch - 2 := by rw [IntKind.wrap_i64]; omega
          by_cases hmn : (nn : Int) ≤ ((l.length - a : Nat) : Int)
          · rw [if_pos hmn] at hm
            subst hm
            go_enter Try.func128, Try.ntmps128
            go_upto_region 12 with fail
            have i1 : (a : Int) ≤ (l.length : Int) := by omega
            have i2 : (nn : Int) ≤ 64 := by omega
            have i3 : ((a + nn : Nat) : Int) ≤ (l.length : Int) := by omega
            have i4 : a ≤ l.length := by omega
            have x1 : ((strOf l).extract 0 a).size = a := by rw [ByteArray.size_extract]; omega
            have x2 : ((strOf c.s).extract 0 nn).size = nn := by rw [ByteArray.size_extract]; omega
            have x3 : ((strOf l).extract (a + nn) l.length).size = l.length - (a + nn) := by rw [ByteArray.size_extract]; omega
            have x4 : ((strOf l).extract 0 a ++ (strOf c.s).extract 0 nn).size = a + nn := by rw [ByteArray.size_append]; omega
            go_quiet (fail)
            go_wp2_with fail
            go_ret
            exact ⟨by rw [← hfin.out]; rfl, ((Kp.refl NoB w).alloc _).drewN _⟩
          · rw [if_neg hmn] at hm
            rw [hm] at hw2 hmn
            clear hm
            go_enter Try.func128, Try.ntmps128
            go_upto_region 12 with fail
            have i1 : (a : Int) ≤ (l.length : Int) := by omega
            have i2 : (m : Int) ≤ 64 := by omega
            have i3 : ((a + m : Nat) : Int) ≤ (l.length : Int) := by omega
            have i4 : a ≤ l.length := by omega
            have x1 : ((strOf l).extract 0 a).size = a := by rw [ByteArray.size_extract]; omega
            have x2 : ((strOf c.s).extract 0 m).size = m := by rw [ByteArray.size_extract]; omega
            have x3 : ((strOf l).extract (a + m) l.length).size = l.length - (a + m) := by rw [ByteArray.size_extract]; omega
            have x4 : ((strOf l).extract 0 a ++ (strOf c.s).extract 0 m).size = a + m := by rw [ByteArray.size_append]; omega
            go_quiet (fail)
            go_wp2_with fail
            go_ret
            exact ⟨by rw [← hfin.out]; rfl, ((Kp.refl NoB w).alloc _).drewN _⟩
        · have e64 : nn = 64 := by have := HNN.out; rw [if_neg hc1] at this; omega
          subst e64
          by_cases hmn : ((64 : Nat) : Int) ≤ ((l.length - a : Nat) : Int)
          · rw [if_pos hmn] at hm
            subst hm
            have hmn2 : (64 : Int) ≤ ((l.length - a : Nat) : Int) := by omega
            go_enter Try.func128, Try.ntmps128
            go_upto_region 12 with fail
            have i1 : (a : Int) ≤ (l.length : Int) := by omega
            have i2 : (64 : Int) ≤ 64 := by omega
            have i3 : ((a + 64 : Nat) : Int) ≤ (l.length : Int) := by omega
            have i4 : a ≤ l.length := by omega
            have x1 : ((strOf l).extract 0 a).size = a := by rw [ByteArray.size_extract]; omega
            have x2 : ((strOf c.s).extract 0 64).size = 64 := by rw [ByteArray.size_extract]; omega
            have x3 : ((strOf l).extract (a + 64) l.length).size = l.length - (a + 64) := by rw [ByteArray.size_extract]; omega
            have x4 : ((strOf l).extract 0 a ++ (strOf c.s).extract 0 64).size = a + 64 := by rw [ByteArray.size_append]; omega
            go_quiet (fail)
            go_wp2_with fail
            go_ret
            exact ⟨by rw [← hfin.out]; rfl, ((Kp.refl NoB w).alloc _).drewN _⟩
          · rw [if_neg hmn] at hm
            rw [hm] at hw2 hmn
            have hmn2 : ¬ (64 : Int) ≤ (m : Int) := by omega
            clear hm
            go_enter Try.func128, Try.ntmps128
            go_upto_region 12 with fail
            have i1 : (a : Int) ≤ (l.length : Int) := by omega
            have i2 : (m : Int) ≤ 64 := by omega
            have i3 : ((a + m : Nat) : Int) ≤ (l.length : Int) := by omega
            have i4 : a ≤ l.length := by omega
            have x1 : ((strOf l).extract 0 a).size = a := by rw [ByteArray.size_extract]; omega
            have x2 : ((strOf c.s).extract 0 m).size = m := by rw [ByteArray.size_extract]; omega
            have x3 : ((strOf l).extract (a + m) l.length).size = l.length - (a + m) := by rw [ByteArray.size_extract]; omega
            have x4 : ((strOf l).extract 0 a ++ (strOf c.s).extract 0 m).size = a + m := by rw [ByteArray.size_append]; omega
            go_quiet (fail)
            go_wp2_with fail
            go_ret
            exact ⟨by rw [← hfin.out]; rfl, ((Kp.refl NoB w).alloc _).drewN _⟩
end Go.Proofs.Ytegcbdfilkecpaa
/- The reference's disk: fits; condition: a number from 0 on. -/
namespace Go.Proofs.Ytegcbdfilkecpaa
open Go.RowKit

def FitRel (fs : List Rfile) (b : Int) (v7 v8 : Value) : Prop := ∃ k : Nat, v8 = .int .i64 (k : Int) ∧ k ≤ fs.length ∧ v7 = .int .i64 (wrp (b + sumR (fs.take k)))
theorem sumR_next {fs : List Rfile} {k : Nat} {f : Rfile} (h : fs[k]? = some f) : sumR (fs.take (k + 1)) = sumR (fs.take k) + f.seen.length := by
  rw [List.take_add_one, h]
  unfold sumR
  simp
def fitsR (fs : List Rfile) (room : Int) (s : ByteArray) (n : Int) : Int :=
  if 1048576 < n then 3 else if ((seenR fs s).length : Int) < n ∧ room < wrp (n - (seenR fs s).length + sumR fs) then 5 else 0
set_option maxRecDepth 100000 in
set_option maxHeartbeats 800000 in
theorem fits_raw (w : World) (A : Option Addr) (n c : Nat) (fs : List Rfile) (b0 b1 : Bool) (pA : Option Addr) (pn pc : Nat) (x4 x5 x6 x7 : Int) (s : ByteArray) (m : Int) (hF : Rows w A n 3 (fs.map rfCells)) (hn : n ≤ 9223372036854775807) (hm : 0 ≤ m ∧ m ≤ 9223372036854775807) (hl : (seenR fs s).length ≤ 1048576) :
    Calls Try.prog 136 #[.agg #[.bool b0, .bool b1, .slice A n c, .slice pA pn pc, .int .i64 x4, .int .i64 x5, .int .i64 x6, .int .i64 x7], .string s, .int .i64 m] w fun e w' => e = .returned (.int .i64 (fitsR fs x4 s m)) ∧ Kp NoB w w' := by
  have HF := Lib.hid hF
  have HN := Lib.hid hn
  have HFL : Hid (fs.length = n) := Lib.hid (by have := hF.1; simpa using this)
  obtain ⟨L, hL⟩ : ∃ L, (seenR fs s).length = L := ⟨_, rfl⟩
  have HLL := Lib.hid hL
  have hsz : (strOf (seenR fs s)).size = L := by rw [strOf_size, hL]
  rw [hL] at hl
  clear hF hn hL
  by_cases h1 : (1048576 : Int) < m
  · have hR : Hid (fitsR fs x4 s m = 3) := Lib.hid (by unfold fitsR; rw [if_pos h1])
    go_enter Try.func136, Try.ntmps136
    go_wp2_with fail
    go_ret
    exact ⟨by rw [hR.out]; rfl, (Kp.refl NoB w).alloc _⟩
  have hw : IntKind.i64.wrap (m - (L : Int)) = m - (L : Int) := by rw [IntKind.wrap_i64]; omega
  by_cases h2 : m - (L : Int) ≤ 0
  · have hR : Hid (fitsR fs x4 s m = 0) := Lib.hid (by unfold fitsR; rw [if_neg h1, if_neg (by rw [HLL.out]; omega)])
    go_enter Try.func136, Try.ntmps136
    go_wp2_with (go_at_call 29; go_must (refine (seen_raw _ A n c fs b0 b1 pA pn pc x4 x5 x6 x7 s (HF.out.keep ((Kp.refl NoB w).alloc _)) HN.out).mono ?_); rintro e w2 ⟨rfl, hk⟩; have HK := Lib.hid hk; clear hk)
    go_ret
    exact ⟨by rw [hR.out]; rfl, ((Kp.refl NoB w).alloc _).trans HK.out (fun _ _ q => q)⟩
  have hR : Hid (fitsR fs x4 s m = if x4 < wrp (m - (L : Int) + sumR fs) then 5 else 0) := Lib.hid (by
    unfold fitsR
    rw [if_neg h1, HLL.out]
    by_cases q : x4 < wrp (m - (L : Int) + sumR fs)
    · rw [if_pos ⟨by omega, q⟩, if_pos q]
    · rw [if_neg (fun z => q z.2), if_neg q])
  go_enter Try.func136, Try.ntmps136
  go_wp2_with fail
  refine (seen_raw _ A n c fs b0 b1 pA pn pc x4 x5 x6 x7 s (HF.out.keep ((Kp.refl NoB w).alloc _)) HN.out).mono ?_
  rintro e w2 ⟨rfl, hk⟩
  have hkw := ((Kp.refl NoB w).alloc _).trans hk (fun _ _ q => q)
  have HKW := Lib.hid hkw
  have b2 := (Blk.new w 56 #[.bool b0, .bool b1, .slice A n c, .slice pA pn pc, .int .i64 x4, .int .i64 x5, .int .i64 x6, .int .i64 x7]).keep hk (fun q => q)
  have e2 : w2.cell? ⟨w.heap.size, 2, none⟩ = some (.slice A n c) := by rw [b2.cell]; rfl
  have e4 : w2.cell? ⟨w.heap.size, 4, none⟩ = some (.int .i64 x4) := by rw [b2.cell]; rfl
  have HF2 := Lib.hid (HF.out.keep hkw)
  have HZ : Hid (∀ f ∈ fs, f.seen.length ≤ 9223372036854775807 → True) := Lib.hid (fun _ _ _ => trivial)
  clear hk hkw b2
  go_wp2_with fail
  go_loop [7, 8] (fun v7 v8 => FitRel fs (m - (L : Int)) v7 v8) (fun _ v8 => n - (intOf v8).toNat)
  case atStart => exact ⟨0, rfl, Nat.zero_le _, by rw [List.take_zero, show sumR [] = 0 from rfl, Int.add_zero, wrp_id (by omega)]⟩
  case round =>
    obtain ⟨k, rfl, hk, rfl⟩ := hrel
    have HK := Lib.hid hk
    clear hk
    by_cases hlt : k < n
    · have hkl : k < fs.length := by have := HFL.out; omega
      obtain ⟨f, hf⟩ : ∃ f, fs[k] = f := ⟨_, rfl⟩
      have hfk : fs[k]? = some f := by rw [List.getElem?_eq_getElem hkl, hf]
      have HFK := Lib.hid hfk
      obtain ⟨g, o, rfl, hg, hc⟩ := HF2.out.cell (k := k) (x := rfCells f) (by rw [List.getElem?_map, hfk]; rfl)
      have c1 := hc 1 _ rfl
      have hkk : (k : Int) < (n : Int) := by omega
      have hnn := HN.out
      have hsf := strOf_size f.seen
      have hwr : IntKind.i64.wrap (wrp (m - (L : Int) + sumR (fs.take k)) + (f.seen.length : Int)) = wrp (m - (L : Int) + sumR (fs.take (k + 1))) := by
        show wrp (wrp (m - (L : Int) + sumR (fs.take k)) + (f.seen.length : Int)) = _
        rw [wrp_add, sumR_next hfk, Int.add_assoc]
      clear hc hf hfk hkl
      go_wp2_with fail
      go_round
      case rel => exact ⟨k + 1, by go_num, by have := HFL.out; omega, rfl⟩
      case measure => simp [intOf]; omega
    · have hlt' : ¬ (k : Int) < (n : Int) := by omega
      have hall : fs.take k = fs := List.take_of_length_le (by have := HFL.out; omega)
      rw [hall]
      clear hall
      by_cases q : x4 < wrp (m - (L : Int) + sumR fs)
      · go_wp2_with fail
        go_ret
        exact ⟨by rw [hR.out, if_pos q]; rfl, HKW.out⟩
      · go_wp2_with fail
        go_ret
        exact ⟨by rw [hR.out, if_neg (by omega)]; rfl, HKW.out⟩
end Go.Proofs.Ytegcbdfilkecpaa
/- The reference's list of files as the plain state: look-up, sums, names; no condition. -/
namespace Go.Proofs.Ytegcbdfilkecpaa
open Go.RowKit

theorem putR_cases (fs : List Rfile) (f : Rfile) : (putR fs f = fs ++ [f] ∧ ∀ x ∈ fs, x.nm ≠ f.nm) ∨ ∃ (k : Nat) (f' : Rfile), putR fs f = fs.set k f ∧ fs[k]? = some f' ∧ f'.nm = f.nm ∧ ∀ x ∈ fs.take k, x.nm ≠ f.nm := by
  rcases findI_cases fs f.nm with ⟨_, _, h⟩ | ⟨k, f', h1, hfk, he, _, h⟩
  · refine .inl ⟨?_, h⟩
    unfold putR
    rw [List.findIdx?_eq_none_iff.2 (fun x hx => by simpa using h x hx)]
  · refine .inr ⟨k, f', ?_, hfk, he, h⟩
    unfold findI at h1
    unfold putR
    cases hi : fs.findIdx? (fun x => decide (x.nm = f.nm)) with
    | none =>
      rw [hi] at h1
      simp at h1
    | some i =>
      rw [hi] at h1
      have : i = k := by
        simp only at h1
        omega
      rw [this]
theorem findR_app (fs : List Rfile) (f : Rfile) (t : ByteArray) : findR (fs ++ [f]) t = match findR fs t with | some x => some x | none => if f.nm = t then some f else none := by
  unfold findR
  rw [List.find?_append]
  cases h : fs.find? (fun f => decide (f.nm = t)) with
  | some x => rfl
  | none =>
    by_cases q : f.nm = t <;> simp [q]
theorem findR_set (fs : List Rfile) (f f' : Rfile) (t : ByteArray) : ∀ (k : Nat), fs[k]? = some f' → f'.nm = f.nm → (∀ x ∈ fs.take k, x.nm ≠ f.nm) → findR (fs.set k f) t = if f.nm = t then some f else findR fs t := by
  induction fs with
  | nil => intro k h; simp at h
  | cons y r ih =>
    intro k h he hn
    cases k with
    | zero =>
      simp only [List.getElem?_cons_zero, Option.some.injEq] at h
      subst h
      unfold findR
      by_cases q : f.nm = t
      · simp [q]
      · simp [q, he]
    | succ k =>
      have hy : y.nm ≠ f.nm := hn y (by simp)
      have := ih k (by simpa using h) he (fun x hx => hn x (by simp [hx]))
      unfold findR at this ⊢
      rw [List.set_cons_succ, List.find?_cons, List.find?_cons]
      by_cases q : y.nm = t
      · have : f.nm ≠ t := fun z => hy (q.trans z.symm)
        simp [q, this]
      · simp only [q, decide_false]
        exact this
theorem findR_put (fs : List Rfile) (f : Rfile) (t : ByteArray) : findR (putR fs f) t = if f.nm = t then some f else findR fs t := by
  rcases putR_cases fs f with ⟨e, h⟩ | ⟨k, f', e, hfk, he, h⟩
  · rw [e, findR_app]
    by_cases q : f.nm = t
    · rw [if_pos q, ← q, (findI_none h).2]
      simp
    · rw [if_neg q]
      cases findR fs t with
      | some x => simp [q]
      | none => simp [q]
  · rw [e]
    exact findR_set fs f f' t k hfk he h
theorem seenR_put (fs : List Rfile) (f : Rfile) : seenR (putR fs f) = upd (seenR fs) f.nm f.seen := by
  funext t
  unfold seenR upd
  rw [findR_put]
  by_cases q : t = f.nm
  · subst q; simp
  · rw [if_neg (fun z => q z.symm), if_neg q]
theorem keptR_put (fs : List Rfile) (f : Rfile) : keptR (putR fs f) = upd (keptR fs) f.nm f.kept := by
  funext t
  unfold keptR upd
  rw [findR_put]
  by_cases q : t = f.nm
  · subst q; simp
  · rw [if_neg (fun z => q z.symm), if_neg q]
theorem sum_set (fs : List Rfile) (g : Rfile → Int) (f f' : Rfile) : ∀ (k : Nat), fs[k]? = some f' → ((fs.set k f).map g).sum = (fs.map g).sum - g f' + g f := by
  induction fs with
  | nil => intro k h; simp at h
  | cons y r ih =>
    intro k h
    cases k with
    | zero =>
      simp only [List.getElem?_cons_zero, Option.some.injEq] at h
      subst h
      simp only [List.set_cons_zero, List.map_cons, List.sum_cons]
      omega
    | succ k =>
      have := ih k (by simpa using h)
      simp only [List.set_cons_succ, List.map_cons, List.sum_cons, this]
      omega
theorem sumR_put (fs : List Rfile) (hn : fs.Pairwise fun x y => x.nm ≠ y.nm) (f : Rfile) : sumR (putR fs f) = sumR fs - (seenR fs f.nm).length + f.seen.length ∧ ksumR (putR fs f) = ksumR fs - (keptR fs f.nm).length + f.kept.length := by
  rcases putR_cases fs f with ⟨e, h⟩ | ⟨k, f', e, hfk, he, h⟩
  · have h0 := (findI_none h).2
    rw [e]
    unfold sumR ksumR seenR keptR
    rw [h0]
    simp
  · have h0 := (findI_at h hfk he).2
    rw [e]
    unfold sumR ksumR seenR keptR
    rw [h0, sum_set fs _ f f' k hfk, sum_set fs _ f f' k hfk]
    exact ⟨rfl, rfl⟩
theorem putR_names {fs : List Rfile} (hn : fs.Pairwise fun x y => x.nm ≠ y.nm) (f : Rfile) : (putR fs f).Pairwise fun x y => x.nm ≠ y.nm := by
  rcases putR_cases fs f with ⟨e, h⟩ | ⟨k, f', e, hfk, he, h⟩
  · rw [e, List.pairwise_append]
    exact ⟨hn, List.pairwise_singleton _ _, fun x hx y hy => by rw [List.mem_singleton.1 hy]; exact h x hx⟩
  · rw [e]
    have hk := (List.getElem?_eq_some_iff.1 hfk).1
    rw [List.pairwise_iff_getElem] at hn ⊢
    intro i j hi hj hij
    rw [List.length_set] at hi hj
    have := hn i j hi hj hij
    obtain ⟨_, e'⟩ := List.getElem?_eq_some_iff.1 hfk
    rw [List.getElem_set, List.getElem_set]
    by_cases q1 : k = i
    · subst q1
      rw [if_pos rfl, if_neg (by omega), ← he, ← e']
      exact this
    · rw [if_neg q1]
      by_cases q2 : k = j
      · subst q2
        rw [if_pos rfl, ← he, ← e']
        exact this
      · rw [if_neg q2]
        exact this
theorem putR_mem {fs : List Rfile} {f x : Rfile} (h : x ∈ putR fs f) : x = f ∨ x ∈ fs := by
  rcases putR_cases fs f with ⟨e, _⟩ | ⟨k, f', e, _⟩
  · rw [e] at h
    rcases List.mem_append.1 h with q | q
    · exact .inr q
    · exact .inl (List.mem_singleton.1 q)
  · rw [e] at h
    exact (List.mem_or_eq_of_mem_set h).symm
theorem with_ok (w : World) (d : Rd) (p : Pl) (f : Rfile) (h : Rf w d p) (hf : RfOk f) (hn : p.nf < 1099511627776) :
    Calls Try.prog 129 #[rdV d p, .agg (fileV f.nm f.seen f.kept)] w fun e w' => ∃ d', e = .returned (rdV d' p) ∧ Rf w' d' ((p.at_.setSeen f.nm f.seen).setKept f.nm f.kept) ∧ Kp NoB w w' := by
  refine (with_raw w d.fA d.fn d.fc d.fs true p.down d.pA d.pn d.pc p.room p.steps p.crash p.starts f h.files h.fnil (by have := h.nf; omega)).mono ?_
  rintro e w' ⟨A', n', c', rfl, hr, hnil, hle, hk⟩
  refine ⟨{ d with fA := A', fn := n', fc := c', fs := putR d.fs f }, rfl, ?_, hk⟩
  obtain ⟨s1, s2⟩ := sumR_put d.fs h.names f
  exact
    { files := hr, pend := h.pend.keep hk, fnil := hnil, pnil := h.pnil, cok := h.cok, names := putR_names h.names f
      fok := fun x hx => by
        rcases putR_mem hx with rfl | q
        · exact hf
        · exact h.fok x q
      seen := by show upd p.seen f.nm f.seen = seenR (putR d.fs f); rw [seenR_put, h.seen]
      kept := by show upd p.kept f.nm f.kept = keptR (putR d.fs f); rw [keptR_put, h.kept]
      sum := by show p.sum - ((p.seen f.nm).length : Int) + f.seen.length = sumR (putR d.fs f); rw [s1, h.sum, h.seen]
      ksum := by show p.ksum - ((p.kept f.nm).length : Int) + f.kept.length = ksumR (putR d.fs f); rw [s2, h.ksum, h.kept]
      nf := by show n' ≤ p.nf + 1; have := h.nf; omega
      room := h.room, steps := h.steps, crash := h.crash, starts := h.starts }
theorem Rf.fn63 {w : World} {d : Rd} {p : Pl} (h : Rf w d p) (hn : p.nf < 1099511627776) : d.fn ≤ 9223372036854775807 := by have := h.nf; omega
theorem seen_ok (w : World) (d : Rd) (p : Pl) (s : ByteArray) (h : Rf w d p) (hn : p.nf < 1099511627776) :
    Calls Try.prog 29 #[rdV d p, .string s] w fun e w' => e = .returned (.string (strOf (p.seen s))) ∧ Kp NoB w w' := by
  rw [h.seen]
  exact seen_raw w d.fA d.fn d.fc d.fs true p.down d.pA d.pn d.pc p.room p.steps p.crash p.starts s h.files (h.fn63 hn)
theorem file_ok (w : World) (d : Rd) (p : Pl) (s : ByteArray) (h : Rf w d p) (hn : p.nf < 1099511627776) :
    Calls Try.prog 127 #[rdV d p, .string s] w fun e w' => e = .returned (.agg (fileV s (p.seen s) (p.kept s))) ∧ Kp NoB w w' := by
  rw [h.seen, h.kept]
  exact file_raw w d.fA d.fn d.fc d.fs true p.down d.pA d.pn d.pc p.room p.steps p.crash p.starts s h.files (h.fn63 hn)
theorem Rf.look {w : World} {d : Rd} {p : Pl} (h : Rf w d p) (s : ByteArray) : ((p.seen s).length ≤ 1048576 ∧ ∀ y ∈ p.seen s, 0 ≤ y ∧ y < 256) ∧ ((p.kept s).length ≤ 1048576 ∧ ∀ y ∈ p.kept s, 0 ≤ y ∧ y < 256) := by
  rw [h.seen, h.kept]
  unfold seenR keptR
  cases hq : findR d.fs s with
  | none => simp
  | some f =>
    have hf := h.fok f (List.mem_of_find?_eq_some hq)
    exact ⟨⟨hf.sl, hf.srng⟩, hf.kl, hf.krng⟩
theorem fits_okR (w : World) (d : Rd) (p : Pl) (s : ByteArray) (m : Int) (h : Rf w d p) (hn : p.nf < 1099511627776) (hm : 0 ≤ m ∧ m ≤ 9223372036854775807) :
    Calls Try.prog 136 #[rdV d p, .string s, .int .i64 m] w fun e w' => e = .returned (.int .i64 (p.fits s m)) ∧ Kp NoB w w' := by
  have e : p.fits s m = fitsR d.fs p.room s m := by unfold Pl.fits fitsR; rw [h.seen, h.sum]
  rw [e]
  exact fits_raw w d.fA d.fn d.fc d.fs true p.down d.pA d.pn d.pc p.room p.steps p.crash p.starts s m h.files (h.fn63 hn) hm (by have := (h.look s).1.1; rw [h.seen] at this; exact this)
end Go.Proofs.Ytegcbdfilkecpaa
