/- The stand-in disk: length; conditions: at most 1048576 bytes, at most 2^40 files and changes. -/
import Derived.Test.YtdgjglocgdccbaaDkCg
import Derived.Test.YtdgjglocgdccbaaOwnA
namespace Go.Proofs.Ytdgjglocgdccbaa
open Go.RowKit

theorem putF_cons (y : Fe) (r : List Fe) (e : Fe) : putF (y :: r) e = if kOf y.nm = kOf e.nm then e :: r else y :: putF r e := rfl
theorem putF_putF (fs : List Fe) (e e' : Fe) (h : e.nm = e'.nm) : putF (putF fs e) e' = putF fs e' := by
  induction fs with
  | nil => simp [putF, h]
  | cons y r ih =>
    rw [putF_cons, putF_cons, h]
    by_cases hy : kOf y.nm = kOf e'.nm
    · rw [if_pos hy, if_pos hy, putF_cons, if_pos (by rw [h])]
    · rw [if_neg hy, if_neg hy, putF_cons, if_neg hy, ih]
theorem fb_inj {fs : List Fe} (hp : fs.Pairwise fun a b => a.fb ≠ b.fb) {a b : Fe} (ha : a ∈ fs) (hb : b ∈ fs) (h : a.fb = b.fb) : a = b := by
  induction fs with
  | nil => simp at ha
  | cons y r ih =>
    obtain ⟨h1, h2⟩ := List.pairwise_cons.1 hp
    rcases List.mem_cons.1 ha with rfl | ha'
    · rcases List.mem_cons.1 hb with rfl | hb'
      · rfl
      · exact absurd h (h1 b hb')
    · rcases List.mem_cons.1 hb with rfl | hb'
      · exact absurd h.symm (h1 a ha')
      · exact ih h2 ha' hb'
/-- one file's block turns -/
theorem Dk.refile {n0 : Nat} {w w' : World} {x : Dd} (h : Dk n0 w x) {e : Fe} (he : e ∈ x.fs) (k : Kp (OnB e.fb) w w') (e' : Fe) (hnm : e'.nm = e.nm) (hfb : e'.fb = e.fb) (hok : FeOk w' n0 e') : Dk n0 w' { x with fs := putF x.fs e' } := by
  obtain ⟨D, hD, hM⟩ := h.mp
  obtain ⟨u, v, hb, _⟩ := (h.fls e he).blk
  have cne : ∀ g cs t, w.heap[g]? = some (.cells cs t (0, 0)) → 75 ≠ t → ¬ OnB e.fb g := fun g cs t hg hne => onb_cells hb hg hne
  have hmb : ¬ OnB e.fb x.mb := by
    intro q
    obtain ⟨es, cl, hm, _⟩ := hD
    have := hb
    unfold Blk at this
    rw [← show x.mb = e.fb from q, hm] at this
    cases this
  have hf : findF x.fs (kOf e.nm) = some e := h.names.find he
  exact { h with
    blk := h.blk.keep k (cne _ _ _ h.blk (by decide))
    mp := ⟨D, k.map hD hmb, hM.same fun s => by
      rw [putF_find]
      by_cases hs : kOf e'.nm = s
      · rw [if_pos hs, ← hs, hnm, hf]; simp [hfb]
      · rw [if_neg hs]⟩
    names := putF_names h.names _
    fbs := putF_fbs h.fbs h.names (fun y hy hne => by
      intro q
      have := fb_inj h.fbs hy he (q.trans hfb)
      rw [this, hnm] at hne
      exact hne rfl)
    fls := fun y hy => by
      rcases putF_mem hy with rfl | ⟨hm, hne⟩
      · exact hok
      · refine (h.fls y hm).keep k (fun q => ?_) (fun g cs hc => cne g cs _ hc (by decide))
        have := fb_inj h.fbs hm he q
        exact hne h.names (by rw [this, hnm])
    pend := own_keepB h.pend k (fun g hg => by obtain ⟨cs, hc⟩ := own_type h.pend hg; exact cne _ _ _ hc (by decide))
    b2 := fun y hy => by
      rcases putF_mem hy with rfl | ⟨hm, _⟩
      · rw [hfb]; exact h.b2 e he
      · exact h.b2 y hm }
/-- one change more -/
theorem Dk.pended {n0 : Nat} {w w' : World} {x : Dd} (h : Dk n0 w x) (k : Kp (fun b => b = x.db ∨ x.pv.ownBlock = some b) w w') (pv : Value) (pd : List Cg)
    (hb : Blk w' x.db 64 (diskCells { x with pv := pv })) (ho : w'.ownsRow n0 79 67 pv pd.length (cgCells pd)) (hs : ∀ c ∈ pd, CgOk c) : Dk n0 w' { x with pv := pv, pd := pd } := by
  obtain ⟨D, hD, hM⟩ := h.mp
  have cne : ∀ g cs t, w.heap[g]? = some (.cells cs t (0, 0)) → 64 ≠ t → 79 ≠ t → ¬ (g = x.db ∨ x.pv.ownBlock = some g) := by
    rintro g cs t hg h1 h2 (rfl | hq)
    · exact blk_ne h.blk hg h1 rfl
    · obtain ⟨cs', hc⟩ := own_type h.pend hq
      rw [hc] at hg
      simp only [Option.some.injEq, Obj.cells.injEq] at hg
      exact h2 hg.2.1
  have hmb : ¬ (x.mb = x.db ∨ x.pv.ownBlock = some x.mb) := by
    obtain ⟨es, cl, hm, _⟩ := hD
    rintro (q | q)
    · have := h.blk
      unfold Blk at this
      rw [← q, hm] at this
      cases this
    · obtain ⟨cs', hc⟩ := own_type h.pend q
      rw [hm] at hc
      cases hc
  exact { h with
    blk := hb
    mp := ⟨D, k.map hD hmb, hM⟩
    fls := fun e he => (h.fls e he).keep k (by obtain ⟨u, v, hb', _⟩ := (h.fls e he).blk; exact cne _ _ _ hb' (by decide) (by decide)) (fun g cs hc => cne g cs _ hc (by decide) (by decide))
    pend := ho
    s64 := hs }
attribute [local go_sem ↓] exBuildCg3 exBuildCg2 exSliceCg
theorem cgCells_add (pd : List Cg) (c : Cg) : cgCells (pd ++ [c]) = cgCells pd ++ cgL c.nm c.sec c.n (pad64 c.s) := cgCells_snoc pd c
theorem cgA_new (w : World) (s : ByteArray) (sec n : Int) (l : List Int) : ∀ j u, (cgL s sec n l)[j]? = some u → (w.alloc (.cells (cgA s sec n l) 79)).cell? ((⟨w.heap.size, 0, none⟩ : Addr).add j) = some u := by
  intro j u hj
  rw [add_mk, Nat.zero_add, (Blk.new w 79 (cgA s sec n l)).cell]
  simpa [cgA] using hj
theorem O_at {w w' : World} {n0 : Nat} {x : Dd} (h : Dk n0 w x) {e0 : Fe} {m : Nat} (hk : Kp (OnB x.mb) w w') (hfb : (∃ q ∈ x.fs, q.fb = e0.fb) ∨ w.heap.size ≤ e0.fb) :
    Kp x.O w w' ∧ ∀ b, ({ x with fs := putF x.fs e0, mn := m } : Dd).O b → x.O b ∨ w.heap.size ≤ b := by
  refine ⟨hk.mono (fun b _ q => .inr (.inl q)), ?_⟩
  rintro b (q | q | q | ⟨e, he, rfl⟩)
  · exact .inl (.inl q)
  · exact .inl (.inr (.inl q))
  · exact .inl (.inr (.inr (.inl q)))
  · rcases putF_mem he with rfl | ⟨hm, _⟩
    · rcases hfb with ⟨y, hy, e1⟩ | q
      · exact .inl (.inr (.inr (.inr ⟨y, hy, e1.symm⟩)))
      · exact .inr q
    · exact .inl (.inr (.inr (.inr ⟨e, hm, rfl⟩)))
theorem O_put {x : Dd} {e : Fe} (h : ∃ q ∈ x.fs, q.fb = e.fb) : ∀ b, ({ x with fs := putF x.fs e } : Dd).O b → x.O b := by
  rintro b (q | q | q | ⟨y, hy, rfl⟩)
  · exact .inl q
  · exact .inr (.inl q)
  · exact .inr (.inr (.inl q))
  · rcases putF_mem hy with rfl | ⟨hm, _⟩
    · obtain ⟨z, hz, e1⟩ := h
      exact .inr (.inr (.inr ⟨z, hz, e1.symm⟩))
    · exact .inr (.inr (.inr ⟨y, hm, rfl⟩))
theorem Dk.blk1 {n0 : Nat} {w w1 : World} {x : Dd} (h : Dk n0 w x) {o : Obj} (hg : (w.alloc o).grownBy w1 x.pv.ownBlock) : Blk w1 x.db 64 (diskCells x) := by
  have k1 : Kp (fun b => x.pv.ownBlock = some b) w w1 := ((Kp.refl _ w).alloc _).grown hg (fun k q => .inr q)
  refine h.blk.keep k1 (fun q => ?_)
  obtain ⟨cs', hc'⟩ := own_type h.pend q
  exact blk_ne h.blk hc' (by decide) rfl
/-- one change more, the disk's cell stored -/
theorem Dk.pendX {n0 : Nat} {w w1 : World} {x : Dd} (h : Dk n0 w x) {s : ByteArray} {sec n : Int} {l : List Int} (hc : CgOk ⟨s, sec, n, l⟩) {pv : Value} {cs : Array Value}
    (hown : w1.ownsRow n0 79 67 pv (x.pd.length + 1) (cgCells x.pd ++ cgL s sec n (pad64 l))) (hg : (w.alloc (.cells cs 79)).grownBy w1 x.pv.ownBlock)
    (hb : ∀ b, pv.ownBlock = some b → x.pv.ownBlock = some b ∨ (w.alloc (.cells cs 79)).heap.size ≤ b) :
    Dk n0 (w1.setCell ⟨x.db, 1, none⟩ pv) { x with pv := pv, pd := x.pd ++ [⟨s, sec, n, l⟩] } ∧ Kp (fun b => b = x.db ∨ x.pv.ownBlock = some b) w (w1.setCell ⟨x.db, 1, none⟩ pv) ∧ ∀ b, pv.ownBlock = some b → x.pv.ownBlock = some b ∨ w.heap.size ≤ b := by
  have k1 : Kp (fun b => x.pv.ownBlock = some b) w w1 := ((Kp.refl _ w).alloc _).grown hg (fun k q => .inr q)
  have hdb : ¬ x.pv.ownBlock = some x.db := by
    intro q
    obtain ⟨cs', hc'⟩ := own_type h.pend q
    exact blk_ne h.blk hc' (by decide) rfl
  have hB : Blk w1 x.db 64 (diskCells x) := h.blk.keep k1 hdb
  have k2 : Kp (fun b => b = x.db ∨ x.pv.ownBlock = some b) w (w1.setCell ⟨x.db, 1, none⟩ pv) := (k1.mono (S' := fun b => b = x.db ∨ x.pv.ownBlock = some b) (fun _ _ q => .inr q)).setAt (.inl rfl) _ _
  have hsz : (w.alloc (.cells cs 79)).heap.size = w.heap.size + 1 := by simp
  refine ⟨h.pended k2 pv (x.pd ++ [⟨s, sec, n, l⟩]) (by
    have := hB.set_ 1 pv
    simpa [diskCells] using this) (by
    rw [cgCells_add, List.length_append]
    refine own_keepB hown ((Kp.refl (OnB x.db) w1).setAt rfl 1 pv) (fun g hg' q => ?_)
    obtain ⟨cs', hc'⟩ := own_type hown hg'
    rw [show g = x.db from q] at hc'
    exact blk_ne hB hc' (by decide) rfl) (fun c hc' => by
    rcases List.mem_append.1 hc' with q | q
    · exact h.s64 c q
    · rw [List.mem_singleton.1 q]; exact hc), k2, fun b q => ?_⟩
  rcases hb b q with q | q
  · exact .inl q
  · exact .inr (by omega)
theorem O_pend {w : World} {x : Dd} {pv : Value} {pd : List Cg} (hb : ∀ b, pv.ownBlock = some b → x.pv.ownBlock = some b ∨ w.heap.size ≤ b) : ∀ b, ({ x with pv := pv, pd := pd } : Dd).O b → x.O b ∨ w.heap.size ≤ b := by
  rintro b (q | q | q | q)
  · exact .inl (.inl q)
  · exact .inl (.inr (.inl q))
  · rcases hb b q with q | q
    · exact .inl (.inr (.inr (.inl q)))
    · exact .inr q
  · exact .inl (.inr (.inr (.inr q)))
theorem Kp.pendO {w w' : World} {x : Dd} (k : Kp (fun b => b = x.db ∨ x.pv.ownBlock = some b) w w') : Kp x.O w w' := k.mono (fun b _ q => by
  rcases q with q | q
  · exact .inl q
  · exact .inr (.inr (.inl q)))
theorem Dk.pend1 {n0 : Nat} {w w1 : World} {x : Dd} (h : Dk n0 w x) {p : Pl} (hp : Of x p) {s : ByteArray} {sec n : Int} {l : List Int} (hc : CgOk ⟨s, sec, n, l⟩) {pv : Value} {cs : Array Value}
    (hown : w1.ownsRow n0 79 67 pv (x.pd.length + 1) (cgCells x.pd ++ cgL s sec n (pad64 l))) (hg : (w.alloc (.cells cs 79)).grownBy w1 x.pv.ownBlock)
    (hb : ∀ b, pv.ownBlock = some b → x.pv.ownBlock = some b ∨ (w.alloc (.cells cs 79)).heap.size ≤ b) :
    To n0 w x (p.pend [⟨s, sec, n, l⟩]) (w1.setCell ⟨x.db, 1, none⟩ pv) := by
  obtain ⟨hd, k2, hb2⟩ := h.pendX hc hown hg hb
  exact ⟨_, hd, { hp with pd := by simp only [Pl.pend, hp.pd] }, rfl, k2.pendO, O_pend hb2⟩
set_option maxRecDepth 100000 in
set_option maxHeartbeats 800000 in
theorem length_ok (w : World) (n0 : Nat) (x : Dd) (p : Pl) (s : ByteArray) (n : Nat) (hs : s.size ≤ maxLen) (hm : p.nf < 1099511627776) (hpd : p.pd.length < 1099511627776) (hn : n ≤ 1048576) (hn0 : n0 ≤ w.heap.size) (h : Dk n0 w x) (hp : Of x p) :
    Calls Try.prog 34 #[ptrV x.db, .string s, .int .i64 n] w fun e w' => e = .returned (.tuple #[]) ∧ To n0 w x (p.length s n) w' := by
  have H := Lib.hid h
  have HP := Lib.hid hp
  have HS := Lib.hid hs
  have HN0 := Lib.hid hn0
  have HPD := Lib.hid hpd
  have hsl := seen_le h s
  obtain ⟨l, hl⟩ : ∃ l, seenOf x.fs s = l := ⟨_, rfl⟩
  have HL := Lib.hid hl
  rw [hl] at hsl
  obtain ⟨m, hml⟩ : ∃ m, l.length = m := ⟨_, rfl⟩
  have HML := Lib.hid hml
  rw [hml] at hsl
  have HMN : Hid (x.mn < 1099511627776) := Lib.hid (by have := hp.nf; omega)
  obtain ⟨db, hdb⟩ : ∃ db, x.db = db := ⟨_, rfl⟩
  have HX := Lib.hid hdb
  rw [hdb]
  clear h hs hn0 hpd hl hml hdb hm hp
  by_cases hnm : n = m
  · subst hnm
    unfold ptrV
    go_enter Try.func34, Try.ntmps34
    go_wp2_with fail
    refine (show Calls _ _ #[ptrV db, .string s] _ _ by rw [← HX.out]; exact at_ok _ n0 x s HS.out HMN.out HN0.out H.out).mono ?_
    rintro e w2 ⟨e0, m2, rfl, hd2, hm2, hnm2, hsn2, hkp2, hk2, hfb2⟩
    rw [HL.out] at hsn2
    have HD2 := Lib.hid hd2
    have HE2 := Lib.hid (show m2 ≤ x.mn + 1 ∧ e0.nm = s ∧ e0.seen = l ∧ e0.kept = keptOf x.fs s from ⟨hm2, hnm2, hsn2, hkp2⟩)
    have HK2 := Lib.hid hk2
    have HFB := Lib.hid hfb2
    have HF0 := Lib.hid (findF_some (show findF (putF x.fs e0) (kOf e0.nm) = some e0 by rw [putF_find, if_pos rfl])).1
    obtain ⟨u, v, hb, hu, hv⟩ := (hd2.fls e0 HF0.out).blk
    obtain ⟨A, cap, rfl⟩ := hu.form
    rw [hsn2, HML.out] at hu hb
    have c1 : w2.cell? ⟨e0.fb, 0, none⟩ = some (.slice A n cap) := by rw [hb.cell]; rfl
    rw [show ptrV e0.fb = .pointer (some ⟨e0.fb, 0, none⟩) from rfl]
    clear hb hu hv hd2 hm2 hnm2 hsn2 hkp2 hk2 hfb2
    go_wp2_with fail
    have hO := O_at (m := m2) H.out HK2.out HFB.out
    refine bodyPost_end (results_none rfl _ _ _) rfl ⟨rfl, _, HD2.out, ?_, rfl, hO.1, hO.2⟩
    unfold Pl.length
    rw [if_pos (by rw [← HP.out.seen_eq, HL.out, HML.out])]
    exact HP.out.at_ e0 m2 HE2.out.1 (by rw [HE2.out.2.1, HE2.out.2.2.1, HL.out]) (by rw [HE2.out.2.1, HE2.out.2.2.2])
  · have hne : ((n : Int) != m) = true := by rw [bne_iff_ne]; omega
    obtain ⟨j0, hj0, hy0, hy1, hy2⟩ := info_parts infoCg
    have HJ0 := Lib.hid hj0
    have HY0 := Lib.hid hy0
    have HY1 := Lib.hid hy1
    have HY2 := Lib.hid hy2
    have HN := Lib.hid hn
    have HSL := Lib.hid hsl
    have HNM := Lib.hid hnm
    clear hj0 hy0 hy1 hy2
    clear hnm
    unfold ptrV
    go_enter Try.func34, Try.ntmps34
    go_wp2_with fail
    refine (show Calls _ _ #[ptrV db, .string s] _ _ by rw [← HX.out]; exact at_ok _ n0 x s HS.out HMN.out HN0.out H.out).mono ?_
    rintro e w2 ⟨e0, m2, rfl, hd2, hm2, hnm2, hsn2, hkp2, hk2, hfb2⟩
    rw [HL.out] at hsn2
    have HD2 := Lib.hid hd2
    have HE2 := Lib.hid (show m2 ≤ x.mn + 1 ∧ e0.nm = s ∧ e0.seen = l ∧ e0.kept = keptOf x.fs s from ⟨hm2, hnm2, hsn2, hkp2⟩)
    have HK2 := Lib.hid hk2
    have HFB := Lib.hid hfb2
    have HF0 := Lib.hid (findF_some (show findF (putF x.fs e0) (kOf e0.nm) = some e0 by rw [putF_find, if_pos rfl])).1
    have HO2 := Lib.hid (O_at (m := m2) H.out hk2 hfb2)
    have HP2 := Lib.hid (HP.out.at_ e0 m2 hm2 (by rw [hsn2, hnm2, HL.out]) (by rw [hkp2, hnm2]))
    obtain ⟨u, v, hb, hu, hv⟩ := (hd2.fls e0 HF0.out).blk
    obtain ⟨A, cap, rfl⟩ := hu.form
    rw [hsn2, HML.out] at hu hb
    have HB2 := Lib.hid hb
    have HU := Lib.hid hu
    have HV := Lib.hid hv
    have c1 : w2.cell? ⟨e0.fb, 0, none⟩ = some (.slice A m cap) := by rw [hb.cell]; rfl
    rw [show ptrV e0.fb = .pointer (some ⟨e0.fb, 0, none⟩) from rfl]
    clear hb hu hv hd2 hm2 hnm2 hsn2 hkp2 hk2 hfb2
    go_wp2_with fail
    refine (grow_ok w2 n0 e0.fb 0 _ A m cap l n HML.out HSL.out HN.out (Nat.le_trans HN0.out HK2.out.size) HB2.out rfl HU.out).mono ?_
    rintro e w3 ⟨rfl, B, c2, hb3, hq3, hk3⟩
    have hd3 := HD2.out.refile HF0.out hk3 { e0 with seen := sizedF l n } rfl rfl ⟨⟨.slice B n c2, v, by simpa using hb3, by simp only [sizedF_len]; exact hq3, HV.out.keep hk3 (fun g cs hc q => onb_cells HB2.out hc (by decide) q)⟩, by simp only [sizedF_len]; exact HN.out, (HD2.out.fls e0 HF0.out).lk⟩
    have HD3 := Lib.hid hd3
    have HK3 := Lib.hid hk3
    have c30 : w3.cell? ⟨db, 1, none⟩ = some x.pv := by rw [← HX.out, hd3.blk.cell]; rfl
    have z30 : w3.frozen? ⟨db, 1, none⟩ = false := by rw [← HX.out]; exact hd3.blk.frozen 1
    have HPV := Lib.hid hd3.pend
    have HLT := Lib.hid hd3.blk.lt
    have HBDB := Lib.hid hd3.blk
    have cz : ∀ s sec n, (cgA s sec n (zeros 64)).size = 67 := fun s sec n => by rw [cgA_size]; rfl
    have hn03 : n0 ≤ w3.heap.size := Nat.le_trans HN0.out (Nat.le_trans HK2.out.size HK3.out.size)
    have HN3 := Lib.hid hn03
    have HPD2 : Hid (x.pd.length < 1099511627776) := Lib.hid (by rw [← HP.out.pd]; exact HPD.out)
    have HP3 := Lib.hid (HP2.out.setSeen { e0 with seen := sizedF l n } (by simp only [keptOf_put, upd_same]))
    have HCG : Hid (CgOk ⟨s, -1, n, []⟩) := Lib.hid ⟨.inl ⟨rfl, rfl, by simp, by have := HN.out; simp; omega⟩, by simp, HS.out⟩
    clear hb3 hq3 hk3 hd3 c1 hn03
    go_wp2_with (at_builtin; refine wpList_append_ownB rfl _ _ 62 rfl n0 79 j0 _ 67 96 Try.underlying62 HJ0.out HY0.out HY1.out HY2.out rfl (by omega) _ x.pd.length (cgCells x.pd) rfl (HPV.out.kept (World.grownBy_alloc _ _ none) (by cases x.pv.ownBlock <;> simp)) ⟨w3.heap.size, 0, none⟩ 1 1 (cgL s (-1) n (zeros 64)) rfl rfl (cgA_new w3 _ _ _ _) (cgA_one _ _ _ _) (by have := HPD2.out; unfold maxLen; omega) (by have := HPD2.out; omega) (by simp; have := HN3.out; omega) ?_; intro v4 w4 hown4 hgrow4 hb4; have hbb := HD3.out.blk1 hgrow4; obtain ⟨A4, k4, rfl⟩ := own_slice hown4; have HT4 := Lib.hid (HD3.out.pend1 HP3.out HCG.out hown4 hgrow4 hb4); have c4 : w4.cell? ⟨db, 1, none⟩ = some x.pv := (by rw [← HX.out, hbb.cell]; rfl); have z4 : w4.frozen? ⟨db, 1, none⟩ = false := (by rw [← HX.out]; exact hbb.frozen 1); clear hown4 hgrow4 hb4 hbb)
    refine bodyPost_end (results_none rfl _ _ _) rfl ⟨rfl, ?_⟩
    have hF := HF0.out
    have k3 : Kp x.O w w3 := HO2.out.1.trans HK3.out (fun i hi q => by
      rcases HO2.out.2 i (.inr (.inr (.inr ⟨e0, hF, q⟩))) with q | q
      · exact q
      · omega)
    have hT := HT4.out.trans (w := w) (x := x) rfl k3 (fun b hb => HO2.out.2 b (O_put (x := { x with fs := putF x.fs e0, mn := m2 }) (e := { e0 with seen := sizedF l n }) ⟨e0, hF, rfl⟩ b hb))
    have e1 : p.length s n = (p.at_.setSeen s (sizedF l n)).pend [⟨s, -1, n, []⟩] := by
      unfold Pl.length
      rw [← HP.out.seen_eq, HL.out, if_neg (by rw [HML.out]; intro q; subst q; simp at hne)]
    rw [e1, ← HX.out]
    have e2 : e0.nm = s := HE2.out.2.1
    rw [e2] at hT
    exact hT
end Go.Proofs.Ytdgjglocgdccbaa
