/- Texts of this proof, one behind the other: lemmas and contracts; each says its own conditions. -/
import Derived.Test.YtoeldmkbmnkhkaaGreatP2
import Derived.Test.YtoeldmkbmnkhkaaGreatP3
import Derived.Lib.SliceRun
/- The stand-in disk: length; conditions: at most 1048576 bytes, at most 2^40 files and changes. -/
namespace Go.Proofs.YtoeldmkbmnkhkaaGreat
open Go.RowKit

theorem fb_inj {fs : List Fe} (hp : fs.Pairwise fun a b => a.fb ≠ b.fb) {a b : Fe} (ha : a ∈ fs) (hb : b ∈ fs) (h : a.fb = b.fb) : a = b := by
  induction fs with
  | nil => simp at ha
  | cons y r ih =>
    obtain ⟨h1, h2⟩ := List.pairwise_cons.1 hp
    rcases List.mem_cons.1 ha with rfl | ha'
    · rcases List.mem_cons.1 hb with rfl | hb'
      · rfl
      · exact absurd h (h1 b hb')
    · rcases List.mem_cons.1 hb with rfl | hb'
      · exact absurd h.symm (h1 a ha')
      · exact ih h2 ha' hb'
/-- one file's block turns -/
theorem Dk.refile {n0 : Nat} {w w' : World} {x : Dd} (h : Dk n0 w x) {e : Fe} (he : e ∈ x.fs) (k : Kp (OnB e.fb) w w') (e' : Fe) (hnm : e'.nm = e.nm) (hfb : e'.fb = e.fb) (hok : FeOk w' n0 e') : Dk n0 w' { x with fs := putF x.fs e' } := by
  obtain ⟨D, hD, hM⟩ := h.mp
  obtain ⟨u, v, hb, _⟩ := (h.fls e he).blk
  have cne : ∀ g cs t, w.heap[g]? = some (.cells cs t (0, 0)) → 165 ≠ t → ¬ OnB e.fb g := fun g cs t hg hne => onb_cells hb hg hne
  have hmb : ¬ OnB e.fb x.mb := by
    intro q
    obtain ⟨es, cl, hm, _⟩ := hD
    have := hb
    unfold Blk at this
    rw [← show x.mb = e.fb from q, hm] at this
    cases this
  have hf : findF x.fs (kOf e.nm) = some e := h.names.find he
  exact { h with
    blk := h.blk.keep k (cne _ _ _ h.blk (by decide))
    mp := ⟨D, k.map hD hmb, hM.same fun s => by
      rw [putF_find]
      by_cases hs : kOf e'.nm = s
      · rw [if_pos hs, ← hs, hnm, hf]; simp [hfb]
      · rw [if_neg hs]⟩
    names := putF_names h.names _
    fbs := putF_fbs h.fbs h.names (fun y hy hne => by
      intro q
      have := fb_inj h.fbs hy he (q.trans hfb)
      rw [this, hnm] at hne
      exact hne rfl)
    fls := fun y hy => by
      rcases putF_mem hy with rfl | ⟨hm, hne⟩
      · exact hok
      · refine (h.fls y hm).keep k (fun q => ?_) (fun g cs hc => cne g cs _ hc (by decide))
        have := fb_inj h.fbs hm he q
        exact hne h.names (by rw [this, hnm])
    pend := own_keepB h.pend k (fun g hg => by obtain ⟨cs, hc⟩ := own_type h.pend hg; exact cne _ _ _ hc (by decide))
    b2 := fun y hy => by
      rcases putF_mem hy with rfl | ⟨hm, _⟩
      · rw [hfb]; exact h.b2 e he
      · exact h.b2 y hm }
/-- one change more -/
theorem Dk.pended {n0 : Nat} {w w' : World} {x : Dd} (h : Dk n0 w x) (k : Kp (fun b => b = x.db ∨ x.pv.ownBlock = some b) w w') (pv : Value) (pd : List Cg)
    (hb : Blk w' x.db 145 (diskCells { x with pv := pv })) (ho : w'.ownsRow n0 158 67 pv pd.length (cgCells pd)) (hs : ∀ c ∈ pd, CgOk c) : Dk n0 w' { x with pv := pv, pd := pd } := by
  obtain ⟨D, hD, hM⟩ := h.mp
  have cne : ∀ g cs t, w.heap[g]? = some (.cells cs t (0, 0)) → 145 ≠ t → 158 ≠ t → ¬ (g = x.db ∨ x.pv.ownBlock = some g) := by
    rintro g cs t hg h1 h2 (rfl | hq)
    · exact blk_ne h.blk hg h1 rfl
    · obtain ⟨cs', hc⟩ := own_type h.pend hq
      rw [hc] at hg
      simp only [Option.some.injEq, Obj.cells.injEq] at hg
      exact h2 hg.2.1
  have hmb : ¬ (x.mb = x.db ∨ x.pv.ownBlock = some x.mb) := by
    obtain ⟨es, cl, hm, _⟩ := hD
    rintro (q | q)
    · have := h.blk
      unfold Blk at this
      rw [← q, hm] at this
      cases this
    · obtain ⟨cs', hc⟩ := own_type h.pend q
      rw [hm] at hc
      cases hc
  exact { h with
    blk := hb
    mp := ⟨D, k.map hD hmb, hM⟩
    fls := fun e he => (h.fls e he).keep k (by obtain ⟨u, v, hb', _⟩ := (h.fls e he).blk; exact cne _ _ _ hb' (by decide) (by decide)) (fun g cs hc => cne g cs _ hc (by decide) (by decide))
    pend := ho
    s64 := hs }
attribute [local go_sem ↓] exBuildCg3 exBuildCg2 exSliceCg
theorem cgCells_add (pd : List Cg) (c : Cg) : cgCells (pd ++ [c]) = cgCells pd ++ cgL c.nm c.sec c.n (pad64 c.s) := cgCells_snoc pd c
theorem cgA_new (w : World) (s : ByteArray) (sec n : Int) (l : List Int) : ∀ j u, (cgL s sec n l)[j]? = some u → (w.alloc (.cells (cgA s sec n l) 158)).cell? ((⟨w.heap.size, 0, none⟩ : Addr).add j) = some u := by
  intro j u hj
  rw [add_mk, Nat.zero_add, (Blk.new w 158 (cgA s sec n l)).cell]
  simpa [cgA] using hj
theorem O_at {w w' : World} {n0 : Nat} {x : Dd} (h : Dk n0 w x) {e0 : Fe} {m : Nat} (hk : Kp (OnB x.mb) w w') (hfb : (∃ q ∈ x.fs, q.fb = e0.fb) ∨ w.heap.size ≤ e0.fb) :
    Kp x.O w w' ∧ ∀ b, ({ x with fs := putF x.fs e0, mn := m } : Dd).O b → x.O b ∨ w.heap.size ≤ b := by
  refine ⟨hk.mono (fun b _ q => .inr (.inl q)), ?_⟩
  rintro b (q | q | q | ⟨e, he, rfl⟩)
  · exact .inl (.inl q)
  · exact .inl (.inr (.inl q))
  · exact .inl (.inr (.inr (.inl q)))
  · rcases putF_mem he with rfl | ⟨hm, _⟩
    · rcases hfb with ⟨y, hy, e1⟩ | q
      · exact .inl (.inr (.inr (.inr ⟨y, hy, e1.symm⟩)))
      · exact .inr q
    · exact .inl (.inr (.inr (.inr ⟨e, hm, rfl⟩)))
theorem O_put {x : Dd} {e : Fe} (h : ∃ q ∈ x.fs, q.fb = e.fb) : ∀ b, ({ x with fs := putF x.fs e } : Dd).O b → x.O b := by
  rintro b (q | q | q | ⟨y, hy, rfl⟩)
  · exact .inl q
  · exact .inr (.inl q)
  · exact .inr (.inr (.inl q))
  · rcases putF_mem hy with rfl | ⟨hm, _⟩
    · obtain ⟨z, hz, e1⟩ := h
      exact .inr (.inr (.inr ⟨z, hz, e1.symm⟩))
    · exact .inr (.inr (.inr ⟨y, hm, rfl⟩))
theorem Dk.blk1 {n0 : Nat} {w w1 : World} {x : Dd} (h : Dk n0 w x) {o : Obj} (hg : (w.alloc o).grownBy w1 x.pv.ownBlock) : Blk w1 x.db 145 (diskCells x) := by
  have k1 : Kp (fun b => x.pv.ownBlock = some b) w w1 := ((Kp.refl _ w).alloc _).grown hg (fun k q => .inr q)
  refine h.blk.keep k1 (fun q => ?_)
  obtain ⟨cs', hc'⟩ := own_type h.pend q
  exact blk_ne h.blk hc' (by decide) rfl
/-- one change more, the disk's cell stored -/
theorem Dk.pendX {n0 : Nat} {w w1 : World} {x : Dd} (h : Dk n0 w x) {s : ByteArray} {sec n : Int} {l : List Int} (hc : CgOk ⟨s, sec, n, l⟩) {pv : Value} {cs : Array Value}
    (hown : w1.ownsRow n0 158 67 pv (x.pd.length + 1) (cgCells x.pd ++ cgL s sec n (pad64 l))) (hg : (w.alloc (.cells cs 158)).grownBy w1 x.pv.ownBlock)
    (hb : ∀ b, pv.ownBlock = some b → x.pv.ownBlock = some b ∨ (w.alloc (.cells cs 158)).heap.size ≤ b) :
    Dk n0 (w1.setCell ⟨x.db, 1, none⟩ pv) { x with pv := pv, pd := x.pd ++ [⟨s, sec, n, l⟩] } ∧ Kp (fun b => b = x.db ∨ x.pv.ownBlock = some b) w (w1.setCell ⟨x.db, 1, none⟩ pv) ∧ ∀ b, pv.ownBlock = some b → x.pv.ownBlock = some b ∨ w.heap.size ≤ b := by
  have k1 : Kp (fun b => x.pv.ownBlock = some b) w w1 := ((Kp.refl _ w).alloc _).grown hg (fun k q => .inr q)
  have hdb : ¬ x.pv.ownBlock = some x.db := by
    intro q
    obtain ⟨cs', hc'⟩ := own_type h.pend q
    exact blk_ne h.blk hc' (by decide) rfl
  have hB : Blk w1 x.db 145 (diskCells x) := h.blk.keep k1 hdb
  have k2 : Kp (fun b => b = x.db ∨ x.pv.ownBlock = some b) w (w1.setCell ⟨x.db, 1, none⟩ pv) := (k1.mono (S' := fun b => b = x.db ∨ x.pv.ownBlock = some b) (fun _ _ q => .inr q)).setAt (.inl rfl) _ _
  have hsz : (w.alloc (.cells cs 158)).heap.size = w.heap.size + 1 := by simp
  refine ⟨h.pended k2 pv (x.pd ++ [⟨s, sec, n, l⟩]) (by
    have := hB.set_ 1 pv
    simpa [diskCells] using this) (by
    rw [cgCells_add, List.length_append]
    refine own_keepB hown ((Kp.refl (OnB x.db) w1).setAt rfl 1 pv) (fun g hg' q => ?_)
    obtain ⟨cs', hc'⟩ := own_type hown hg'
    rw [show g = x.db from q] at hc'
    exact blk_ne hB hc' (by decide) rfl) (fun c hc' => by
    rcases List.mem_append.1 hc' with q | q
    · exact h.s64 c q
    · rw [List.mem_singleton.1 q]; exact hc), k2, fun b q => ?_⟩
  rcases hb b q with q | q
  · exact .inl q
  · exact .inr (by omega)
theorem O_pend {w : World} {x : Dd} {pv : Value} {pd : List Cg} (hb : ∀ b, pv.ownBlock = some b → x.pv.ownBlock = some b ∨ w.heap.size ≤ b) : ∀ b, ({ x with pv := pv, pd := pd } : Dd).O b → x.O b ∨ w.heap.size ≤ b := by
  rintro b (q | q | q | q)
  · exact .inl (.inl q)
  · exact .inl (.inr (.inl q))
  · rcases hb b q with q | q
    · exact .inl (.inr (.inr (.inl q)))
    · exact .inr q
  · exact .inl (.inr (.inr (.inr q)))
theorem Kp.pendO {w w' : World} {x : Dd} (k : Kp (fun b => b = x.db ∨ x.pv.ownBlock = some b) w w') : Kp x.O w w' := k.mono (fun b _ q => by
  rcases q with q | q
  · exact .inl q
  · exact .inr (.inr (.inl q)))
theorem Dk.pend1 {n0 : Nat} {w w1 : World} {x : Dd} (h : Dk n0 w x) {p : Pl} (hp : Of x p) {s : ByteArray} {sec n : Int} {l : List Int} (hc : CgOk ⟨s, sec, n, l⟩) {pv : Value} {cs : Array Value}
    (hown : w1.ownsRow n0 158 67 pv (x.pd.length + 1) (cgCells x.pd ++ cgL s sec n (pad64 l))) (hg : (w.alloc (.cells cs 158)).grownBy w1 x.pv.ownBlock)
    (hb : ∀ b, pv.ownBlock = some b → x.pv.ownBlock = some b ∨ (w.alloc (.cells cs 158)).heap.size ≤ b) :
    To n0 w x (p.pend [⟨s, sec, n, l⟩]) (w1.setCell ⟨x.db, 1, none⟩ pv) := by
  obtain ⟨hd, k2, hb2⟩ := h.pendX hc hown hg hb
  exact ⟨_, hd, { hp with pd := by simp only [Pl.pend, hp.pd] }, rfl, k2.pendO, O_pend hb2⟩
set_option maxRecDepth 100000 in
set_option maxHeartbeats 800000 in
theorem length_ok (w : World) (n0 : Nat) (x : Dd) (p : Pl) (s : ByteArray) (n : Nat) (hs : s.size ≤ maxLen) (hm : p.nf < 1099511627776) (hpd : p.pd.length < 1099511627776) (hn : n ≤ 1048576) (hn0 : n0 ≤ w.heap.size) (h : Dk n0 w x) (hp : Of x p) :
    Calls Tryz.prog 163 #[ptrV x.db, .string s, .int .i64 n] w fun e w' => e = .returned (.tuple #[]) ∧ To n0 w x (p.length s n) w' := by
  have H := Lib.hid h
  have HP := Lib.hid hp
  have HS := Lib.hid hs
  have HN0 := Lib.hid hn0
  have HPD := Lib.hid hpd
  have hsl := seen_le h s
  obtain ⟨l, hl⟩ : ∃ l, seenOf x.fs s = l := ⟨_, rfl⟩
  have HL := Lib.hid hl
  rw [hl] at hsl
  obtain ⟨m, hml⟩ : ∃ m, l.length = m := ⟨_, rfl⟩
  have HML := Lib.hid hml
  rw [hml] at hsl
  have HMN : Hid (x.mn < 1099511627776) := Lib.hid (by have := hp.nf; omega)
  obtain ⟨db, hdb⟩ : ∃ db, x.db = db := ⟨_, rfl⟩
  have HX := Lib.hid hdb
  rw [hdb]
  clear h hs hn0 hpd hl hml hdb hm hp
  by_cases hnm : n = m
  · subst hnm
    unfold ptrV
    go_enter Tryz.func163, Tryz.ntmps163
    go_wp2_with fail
    refine (show Calls _ _ #[ptrV db, .string s] _ _ by rw [← HX.out]; exact at_ok _ n0 x s HS.out HMN.out HN0.out H.out).mono ?_
    rintro e w2 ⟨e0, m2, rfl, hd2, hm2, hnm2, hsn2, hkp2, hk2, hfb2⟩
    rw [HL.out] at hsn2
    have HD2 := Lib.hid hd2
    have HE2 := Lib.hid (show m2 ≤ x.mn + 1 ∧ e0.nm = s ∧ e0.seen = l ∧ e0.kept = keptOf x.fs s from ⟨hm2, hnm2, hsn2, hkp2⟩)
    have HK2 := Lib.hid hk2
    have HFB := Lib.hid hfb2
    have HF0 := Lib.hid (findF_some (show findF (putF x.fs e0) (kOf e0.nm) = some e0 by rw [putF_find, if_pos rfl])).1
    obtain ⟨u, v, hb, hu, hv⟩ := (hd2.fls e0 HF0.out).blk
    obtain ⟨A, cap, rfl⟩ := hu.form
    rw [hsn2, HML.out] at hu hb
    have c1 : w2.cell? ⟨e0.fb, 0, none⟩ = some (.slice A n cap) := by rw [hb.cell]; rfl
    rw [show ptrV e0.fb = .pointer (some ⟨e0.fb, 0, none⟩) from rfl]
    clear hb hu hv hd2 hm2 hnm2 hsn2 hkp2 hk2 hfb2
    go_wp2_with fail
    have hO := O_at (m := m2) H.out HK2.out HFB.out
    refine bodyPost_end (results_none rfl _ _ _) rfl ⟨rfl, _, HD2.out, ?_, rfl, hO.1, hO.2⟩
    unfold Pl.length
    rw [if_pos (by rw [← HP.out.seen_eq, HL.out, HML.out])]
    exact HP.out.at_ e0 m2 HE2.out.1 (by rw [HE2.out.2.1, HE2.out.2.2.1, HL.out]) (by rw [HE2.out.2.1, HE2.out.2.2.2])
  · have hne : ((n : Int) != m) = true := by rw [bne_iff_ne]; omega
    obtain ⟨j0, hj0, hy0, hy1, hy2⟩ := info_parts infoCg
    have HJ0 := Lib.hid hj0
    have HY0 := Lib.hid hy0
    have HY1 := Lib.hid hy1
    have HY2 := Lib.hid hy2
    have HN := Lib.hid hn
    have HSL := Lib.hid hsl
    have HNM := Lib.hid hnm
    clear hj0 hy0 hy1 hy2
    clear hnm
    unfold ptrV
    go_enter Tryz.func163, Tryz.ntmps163
    go_wp2_with fail
    refine (show Calls _ _ #[ptrV db, .string s] _ _ by rw [← HX.out]; exact at_ok _ n0 x s HS.out HMN.out HN0.out H.out).mono ?_
    rintro e w2 ⟨e0, m2, rfl, hd2, hm2, hnm2, hsn2, hkp2, hk2, hfb2⟩
    rw [HL.out] at hsn2
    have HD2 := Lib.hid hd2
    have HE2 := Lib.hid (show m2 ≤ x.mn + 1 ∧ e0.nm = s ∧ e0.seen = l ∧ e0.kept = keptOf x.fs s from ⟨hm2, hnm2, hsn2, hkp2⟩)
    have HK2 := Lib.hid hk2
    have HFB := Lib.hid hfb2
    have HF0 := Lib.hid (findF_some (show findF (putF x.fs e0) (kOf e0.nm) = some e0 by rw [putF_find, if_pos rfl])).1
    have HO2 := Lib.hid (O_at (m := m2) H.out hk2 hfb2)
    have HP2 := Lib.hid (HP.out.at_ e0 m2 hm2 (by rw [hsn2, hnm2, HL.out]) (by rw [hkp2, hnm2]))
    obtain ⟨u, v, hb, hu, hv⟩ := (hd2.fls e0 HF0.out).blk
    obtain ⟨A, cap, rfl⟩ := hu.form
    rw [hsn2, HML.out] at hu hb
    have HB2 := Lib.hid hb
    have HU := Lib.hid hu
    have HV := Lib.hid hv
    have c1 : w2.cell? ⟨e0.fb, 0, none⟩ = some (.slice A m cap) := by rw [hb.cell]; rfl
    rw [show ptrV e0.fb = .pointer (some ⟨e0.fb, 0, none⟩) from rfl]
    clear hb hu hv hd2 hm2 hnm2 hsn2 hkp2 hk2 hfb2
    go_wp2_with fail
    refine (grow_ok w2 n0 e0.fb 0 _ A m cap l n HML.out HSL.out HN.out (Nat.le_trans HN0.out HK2.out.size) HB2.out rfl HU.out).mono ?_
    rintro e w3 ⟨rfl, B, c2, hb3, hq3, hk3⟩
    have hd3 := HD2.out.refile HF0.out hk3 { e0 with seen := sizedF l n } rfl rfl ⟨⟨.slice B n c2, v, by simpa using hb3, by simp only [sizedF_len]; exact hq3, HV.out.keep hk3 (fun g cs hc q => onb_cells HB2.out hc (by decide) q)⟩, by simp only [sizedF_len]; exact HN.out, (HD2.out.fls e0 HF0.out).lk⟩
    have HD3 := Lib.hid hd3
    have HK3 := Lib.hid hk3
    have c30 : w3.cell? ⟨db, 1, none⟩ = some x.pv := by rw [← HX.out, hd3.blk.cell]; rfl
    have z30 : w3.frozen? ⟨db, 1, none⟩ = false := by rw [← HX.out]; exact hd3.blk.frozen 1
    have HPV := Lib.hid hd3.pend
    have HLT := Lib.hid hd3.blk.lt
    have HBDB := Lib.hid hd3.blk
    have cz : ∀ s sec n, (cgA s sec n (zeros 64)).size = 67 := fun s sec n => by rw [cgA_size]; rfl
    have hn03 : n0 ≤ w3.heap.size := Nat.le_trans HN0.out (Nat.le_trans HK2.out.size HK3.out.size)
    have HN3 := Lib.hid hn03
    have HPD2 : Hid (x.pd.length < 1099511627776) := Lib.hid (by rw [← HP.out.pd]; exact HPD.out)
    have HP3 := Lib.hid (HP2.out.setSeen { e0 with seen := sizedF l n } (by simp only [keptOf_put, upd_same]))
    have HCG : Hid (CgOk ⟨s, -1, n, []⟩) := Lib.hid ⟨.inl ⟨rfl, rfl, by simp, by have := HN.out; simp; omega⟩, by simp, HS.out⟩
    clear hb3 hq3 hk3 hd3 c1 hn03
    go_wp2_with (at_builtin; refine wpList_append_ownB rfl _ _ 143 rfl n0 158 j0 _ 67 96 Tryz.underlying143 HJ0.out HY0.out HY1.out HY2.out rfl (by omega) _ x.pd.length (cgCells x.pd) rfl (HPV.out.kept (World.grownBy_alloc _ _ none) (by cases x.pv.ownBlock <;> simp)) ⟨w3.heap.size, 0, none⟩ 1 1 (cgL s (-1) n (zeros 64)) rfl rfl (cgA_new w3 _ _ _ _) (cgA_one _ _ _ _) (by have := HPD2.out; unfold maxLen; omega) (by have := HPD2.out; omega) (by simp; have := HN3.out; omega) ?_; intro v4 w4 hown4 hgrow4 hb4; have hbb := HD3.out.blk1 hgrow4; obtain ⟨A4, k4, rfl⟩ := own_slice hown4; have HT4 := Lib.hid (HD3.out.pend1 HP3.out HCG.out hown4 hgrow4 hb4); have c4 : w4.cell? ⟨db, 1, none⟩ = some x.pv := (by rw [← HX.out, hbb.cell]; rfl); have z4 : w4.frozen? ⟨db, 1, none⟩ = false := (by rw [← HX.out]; exact hbb.frozen 1); clear hown4 hgrow4 hb4 hbb)
    refine bodyPost_end (results_none rfl _ _ _) rfl ⟨rfl, ?_⟩
    have hF := HF0.out
    have k3 : Kp x.O w w3 := HO2.out.1.trans HK3.out (fun i hi q => by
      rcases HO2.out.2 i (.inr (.inr (.inr ⟨e0, hF, q⟩))) with q | q
      · exact q
      · omega)
    have hT := HT4.out.trans (w := w) (x := x) rfl k3 (fun b hb => HO2.out.2 b (O_put (x := { x with fs := putF x.fs e0, mn := m2 }) (e := { e0 with seen := sizedF l n }) ⟨e0, hF, rfl⟩ b hb))
    have e1 : p.length s n = (p.at_.setSeen s (sizedF l n)).pend [⟨s, -1, n, []⟩] := by
      unfold Pl.length
      rw [← HP.out.seen_eq, HL.out, if_neg (by rw [HML.out]; intro q; subst q; simp at hne)]
    rw [e1, ← HX.out]
    have e2 : e0.nm = s := HE2.out.2.1
    rw [e2] at hT
    exact hT
end Go.Proofs.YtoeldmkbmnkhkaaGreat
/- The stand-in disk: Write, refused; no condition but on the texts' lengths. -/
namespace Go.Proofs.YtoeldmkbmnkhkaaGreat
open Go.RowKit

theorem wrong_p (w : World) (n0 : Nat) (x : Dd) (p : Pl) (h : Dk n0 w x) (hp : Of x p) (d : Bool) (hd : p.down = d) : Calls Tryz.prog 159 #[ptrV x.db] w fun e w' => e = .returned (.int .i64 (if d then 7 else 0)) ∧ w = w' := by
  have := wrong_ok w n0 x h
  rw [← hp.down, hd] at this
  exact this
theorem step_p (w : World) (n0 : Nat) (x : Dd) (p : Pl) (h : Dk n0 w x) (hp : Of x p) :
    Calls Tryz.prog 160 #[ptrV x.db] w fun e w' => e = .returned (.int .i64 p.stepE) ∧ To n0 w x p.step w' :=
  (step_ok w n0 x h).mono fun e w' ⟨he, hd, hk⟩ => ⟨by rw [he]; unfold stepE Pl.stepE; rw [hp.crash], stepF x, hd, { hp with steps := by simp only [Pl.step, stepF, hp.steps], crash := by simp only [Pl.step, stepF, hp.crash], down := by simp only [Pl.step, stepF, hp.crash, hp.down] }, rfl, hk.mono (fun _ _ q => .inl q), fun b hb => .inl hb⟩
def WrPost (n0 : Nat) (w : World) (x : Dd) (p : Pl) (s : ByteArray) (a : Int) (d : List Int) (e : Ending) (w' : World) : Prop := e = .returned (.int .i64 (p.writeE s a d)) ∧ To n0 w x (p.write s a d) w'
set_option maxRecDepth 100000 in
set_option maxHeartbeats 800000 in
theorem write_down (w : World) (n0 : Nat) (x : Dd) (p : Pl) (s : ByteArray) (a : Int) (d : ByteArray) (h : Dk n0 w x) (hp : Of x p) (hd : p.down = true) :
    Calls Tryz.prog 123 #[ptrV x.db, .string s, .int .i64 a, .string d] w (WrPost n0 w x p s a (strI d)) := by
  have H := Lib.hid h
  have HP := Lib.hid hp
  have HD := Lib.hid hd
  obtain ⟨db, hdb⟩ : ∃ db, x.db = db := ⟨_, rfl⟩
  have HX := Lib.hid hdb
  rw [hdb]
  clear h hp hd hdb
  unfold ptrV
  go_enter Tryz.func123, Tryz.ntmps123
  go_wp2_with (go_at_call 159; go_must (refine (show Calls _ _ #[ptrV db] _ _ by rw [← HX.out]; exact wrong_p _ n0 x p H.out HP.out true HD.out).mono ?_); rintro e w2 ⟨rfl, rfl⟩)
  go_ret
  exact ⟨by unfold Pl.writeE; simp [HD.out], by unfold Pl.write; simp only [HD.out, true_or, if_true]; exact To.refl H.out HP.out⟩
set_option maxRecDepth 100000 in
set_option maxHeartbeats 800000 in
theorem write_neg (w : World) (n0 : Nat) (x : Dd) (p : Pl) (s : ByteArray) (a : Int) (d : ByteArray) (h : Dk n0 w x) (hp : Of x p) (hd : p.down = false) (ha : a < 0) :
    Calls Tryz.prog 123 #[ptrV x.db, .string s, .int .i64 a, .string d] w (WrPost n0 w x p s a (strI d)) := by
  have H := Lib.hid h
  have HP := Lib.hid hp
  have HD := Lib.hid hd
  obtain ⟨db, hdb⟩ : ∃ db, x.db = db := ⟨_, rfl⟩
  have HX := Lib.hid hdb
  rw [hdb]
  clear h hp hd hdb
  unfold ptrV
  go_enter Tryz.func123, Tryz.ntmps123
  go_wp2_with (go_at_call 159; go_must (refine (show Calls _ _ #[ptrV db] _ _ by rw [← HX.out]; exact wrong_p _ n0 x p H.out HP.out false HD.out).mono ?_); rintro e w2 ⟨rfl, rfl⟩)
  go_ret
  exact ⟨by unfold Pl.writeE; simp [HD.out, ha], by unfold Pl.write; simp only [HD.out, ha, true_or, or_true, if_true]; exact To.refl H.out HP.out⟩
set_option maxRecDepth 100000 in
set_option maxHeartbeats 800000 in
theorem write_long (w : World) (n0 : Nat) (x : Dd) (p : Pl) (s : ByteArray) (a : Int) (d : ByteArray) (h : Dk n0 w x) (hp : Of x p) (hd : p.down = false) (ha : 0 ≤ a) (hds : d.size ≤ maxLen) (hl : 1048576 < a ∨ 1048576 - a < d.size) :
    Calls Tryz.prog 123 #[ptrV x.db, .string s, .int .i64 a, .string d] w (WrPost n0 w x p s a (strI d)) := by
  have H := Lib.hid h
  have HP := Lib.hid hp
  have HD := Lib.hid hd
  have HL := Lib.hid hl
  obtain ⟨db, hdb⟩ : ∃ db, x.db = db := ⟨_, rfl⟩
  have HX := Lib.hid hdb
  rw [hdb]
  unfold maxLen at hds
  have hna : ¬ a < 0 := by omega
  have fin : ∀ w2, w = w2 → WrPost n0 w x p s a (strI d) (.returned (.int .i64 3)) w2 := by
    rintro w2 rfl
    have hl' := HL.out
    exact ⟨by unfold Pl.writeE; simp only [HD.out, strI_len]; rw [if_neg (by simp), if_neg hna, if_pos hl'], by unfold Pl.write; simp only [HD.out, strI_len]; rw [if_pos (.inr (.inr hl'))]; exact To.refl H.out HP.out⟩
  have FIN := Lib.hid fin
  clear h hp hd hdb hl fin
  unfold ptrV
  by_cases h1 : 1048576 < a
  · go_enter Tryz.func123, Tryz.ntmps123
    go_wp2_with (go_at_call 159; go_must (refine (show Calls _ _ #[ptrV db] _ _ by rw [← HX.out]; exact wrong_p _ n0 x p H.out HP.out false HD.out).mono ?_); rintro e w2 ⟨rfl, rfl⟩)
    go_ret
    exact FIN.out _ rfl
  · have h2 : 1048576 - a < d.size := by have := HL.out; omega
    go_enter Tryz.func123, Tryz.ntmps123
    go_wp2_with (go_at_call 159; go_must (refine (show Calls _ _ #[ptrV db] _ _ by rw [← HX.out]; exact wrong_p _ n0 x p H.out HP.out false HD.out).mono ?_); rintro e w2 ⟨rfl, rfl⟩)
    go_ret
    exact FIN.out _ rfl
set_option maxRecDepth 100000 in
set_option maxHeartbeats 800000 in
theorem write_none (w : World) (n0 : Nat) (x : Dd) (p : Pl) (s : ByteArray) (a : Int) (d : ByteArray) (h : Dk n0 w x) (hp : Of x p) (hd : p.down = false) (ha : 0 ≤ a) (ha2 : a ≤ 1048576) (hz : d.size = 0) :
    Calls Tryz.prog 123 #[ptrV x.db, .string s, .int .i64 a, .string d] w (WrPost n0 w x p s a (strI d)) := by
  obtain rfl : d = ⟨#[]⟩ := by
    cases d with | mk a => simp [ByteArray.size] at hz; simp [hz]
  have H := Lib.hid h
  have HP := Lib.hid hp
  have HD := Lib.hid hd
  obtain ⟨db, hdb⟩ : ∃ db, x.db = db := ⟨_, rfl⟩
  have HX := Lib.hid hdb
  rw [hdb]
  have hna : ¬ a < 0 := by omega
  have fin : ∀ w2, To n0 w x p.step w2 → WrPost n0 w x p s a (strI ⟨#[]⟩) (.returned (.int .i64 p.stepE)) w2 := by
    intro w2 h2
    have e0 : strI ⟨#[]⟩ = [] := rfl
    rw [e0]
    exact ⟨by unfold Pl.writeE; simp only [HD.out, List.length_nil]; rw [if_neg (by simp), if_neg hna, if_neg (by omega)]; simp, by unfold Pl.write; simp only [HD.out, List.length_nil]; rw [if_neg (by simp; omega)]; simpa using h2⟩
  have FIN := Lib.hid fin
  clear h hp hd hdb hz fin
  unfold ptrV
  go_enter Tryz.func123, Tryz.ntmps123
  go_wp2_with (first
    | (go_at_call 159; go_must (refine (show Calls _ _ #[ptrV db] _ _ by rw [← HX.out]; exact wrong_p _ n0 x p H.out HP.out false HD.out).mono ?_); rintro e w2 ⟨rfl, rfl⟩)
    | (go_at_call 160; go_must (refine (show Calls _ _ #[ptrV db] _ _ by rw [← HX.out]; exact step_p _ n0 x p H.out HP.out).mono ?_); rintro e w3 ⟨rfl, ht3⟩; have HT := Lib.hid ht3; clear ht3))
  go_ret
  exact FIN.out _ HT.out
end Go.Proofs.YtoeldmkbmnkhkaaGreat
/- The stand-in disk: Write, no room; no condition but on the texts' lengths. -/
namespace Go.Proofs.YtoeldmkbmnkhkaaGreat
open Go.RowKit

theorem str_empty1 (s : ByteArray) : s.toList.isEmpty = decide (s.size = 0) := by
  have h : s.toList = s.data.toList := ByteArray.toList_eq s
  rw [h]
  have : s.size = s.data.toList.length := by simp
  rw [this]
  cases s.data.toList <;> simp
theorem str_empty0 {d : ByteArray} (h : 0 < d.size) : d.toList.isEmpty = false := by
  rw [str_empty1]
  exact decide_eq_false (by omega)
set_option maxRecDepth 100000 in
set_option maxHeartbeats 800000 in
theorem write_full (w : World) (n0 : Nat) (x : Dd) (p : Pl) (s : ByteArray) (a : Int) (d : ByteArray) (h : Dk n0 w x) (hp : Of x p) (hs : s.size ≤ maxLen) (hd : p.down = false) (ha : 0 ≤ a) (ha2 : a + d.size ≤ 1048576) (hz : 0 < d.size)
    (hf : p.fits s (max (a + d.size) (p.seen s).length) ≠ 0) :
    Calls Tryz.prog 123 #[ptrV x.db, .string s, .int .i64 a, .string d] w (WrPost n0 w x p s a (strI d)) := by
  have H := Lib.hid h
  have HP := Lib.hid hp
  have HD := Lib.hid hd
  have HS := Lib.hid hs
  obtain ⟨db, hdb⟩ : ∃ db, x.db = db := ⟨_, rfl⟩
  have HX := Lib.hid hdb
  rw [hdb]
  have hna : ¬ a < 0 := by omega
  have ha3 : ¬ 1048576 < a := by omega
  have ha4 : ¬ 1048576 - a < d.size := by omega
  obtain ⟨f, hff⟩ : ∃ f, p.fits s (max (a + d.size) (p.seen s).length) = f := ⟨_, rfl⟩
  rw [hff] at hf
  have HF := Lib.hid hff
  have hf2 : (f != 0) = true := by simpa using hf
  have HF2 := Lib.hid hf
  obtain ⟨was, hwas⟩ : ∃ m, (seenOf x.fs s).length = m := ⟨_, rfl⟩
  have hwl := seen_le h s
  rw [hwas] at hwl
  have HW := Lib.hid hwas
  have hne := str_empty0 hz
  have HMX := Lib.hid (show (a + d.size < was → p.fits s was = f) ∧ (was ≤ a + d.size → p.fits s (a + d.size) = f) by
    rw [← HP.out.seen_eq, HW.out] at HF
    exact ⟨fun q => by rw [← HF.out, Int.max_eq_right (by omega)], fun q => by rw [← HF.out, Int.max_eq_left (by omega)]⟩)
  clear h hp hd hdb hff hf hs hwas
  unfold ptrV
  go_enter Tryz.func123, Tryz.ntmps123
  go_wp2_with (first
    | (go_at_call 159; go_must (refine (show Calls _ _ #[ptrV db] _ _ by rw [← HX.out]; exact wrong_p _ n0 x p H.out HP.out false HD.out).mono ?_); rintro e w2 ⟨rfl, rfl⟩)
    | (go_at_call 162; go_must (refine (show Calls _ _ #[ptrV db, .string s] _ _ by rw [← HX.out]; exact bytes_ok _ _ _ _ HS.out H.out).mono ?_); rintro e w3 ⟨B, cap, rfl, _, rfl⟩; rw [HW.out])
    | (go_at_call 161; go_must (refine (show Calls _ _ #[ptrV db, .string s, .int .i64 _] _ _ by rw [← HX.out]; exact fits_ok _ n0 x p s _ HS.out (by omega) H.out HP.out).mono ?_); rintro e w4 ⟨rfl, hk4⟩; (first | rw [HMX.out.1 (by omega)] | rw [HMX.out.2 (by omega)]); have HK4 := Lib.hid hk4; clear hk4))
  all_goals
    go_ret
    refine ⟨?_, ?_⟩
    · unfold Pl.writeE
      simp only [HD.out, strI_len]
      rw [if_neg (by simp), if_neg (by omega), if_neg (by omega), if_neg (by rw [← List.length_eq_zero_iff, strI_len]; omega), HF.out, if_pos HF2.out]
      rfl
    · unfold Pl.write
      simp only [HD.out, strI_len]
      rw [if_neg (by simp; omega), if_neg (by rw [← List.length_eq_zero_iff, strI_len]; omega), HF.out, if_pos HF2.out]
      exact (To.refl (H.out.keep HK4.out (fun _ _ q => q) (fun _ _ _ q => q)) HP.out).quiet HK4.out H.out
end Go.Proofs.YtoeldmkbmnkhkaaGreat
/- The stand-in disk: Write, done; no condition but on the texts' lengths. -/
namespace Go.Proofs.YtoeldmkbmnkhkaaGreat
open Go.RowKit

theorem put_len {l d : List Int} {a : Nat} (h : a + d.length ≤ l.length) : (Pl.put l a d).length = l.length := by unfold Pl.put; simp; omega
theorem put_rng {l d : List Int} {a : Nat} (h : ∀ x ∈ l, 0 ≤ x ∧ x < 256) (hd : ∀ x ∈ d, 0 ≤ x ∧ x < 256) : ∀ x ∈ Pl.put l a d, 0 ≤ x ∧ x < 256 := by
  intro x hx
  unfold Pl.put at hx
  rcases List.mem_append.1 hx with q | q
  · rcases List.mem_append.1 q with q | q
    · exact h x (List.mem_of_mem_take q)
    · exact hd x q
  · exact h x (List.mem_of_mem_drop q)
theorem strI_rng (s : ByteArray) : ∀ x ∈ strI s, 0 ≤ x ∧ x < 256 := by
  intro x hx
  unfold strI at hx
  obtain ⟨b, _, rfl⟩ := List.mem_map.1 hx
  have := b.toNat_lt
  omega
theorem bq_write {w : World} {n0 g n cap : Nat} {l : List Int} (h : Bq w n0 (.slice (some ⟨g, 0, none⟩) n cap) l) (hn : l.length = n) (a : Nat) (d : List Int) (ha : a + d.length ≤ l.length) (hd : ∀ x ∈ d, 0 ≤ x ∧ x < 256) :
    Bq (w.setCells g a (d.map (Value.int .u8))) n0 (.slice (some ⟨g, 0, none⟩) n cap) (Pl.put l a d) := by
  subst hn
  refine ⟨?_, put_rng h.rng hd⟩
  rw [put_len ha]
  refine ⟨by simp [put_len ha], ?_⟩
  rcases h.own.2 with ⟨e, h0⟩ | ⟨g', cap', cur, hv, hb, hh, h1, h2, h3, h4⟩
  · cases e
  · simp only [Value.slice.injEq, Option.some.injEq, Addr.mk.injEq] at hv
    obtain ⟨⟨rfl, _⟩, _, rfl⟩ := hv
    rw [Nat.mul_one] at h3 h4
    have hcur : cur = (((l.take a).map (Value.int .u8)) ++ (((l.drop a).take d.length).map (Value.int .u8)) ++ ((l.drop (a + d.length)).map (Value.int .u8) ++ cur.toList.drop l.length)).toArray := by
      rw [← List.append_assoc, ← List.map_append, ← List.map_append]
      have e1 : l.take a ++ (l.drop a).take d.length ++ l.drop (a + d.length) = l := by
        rw [List.append_assoc, show l.drop (a + d.length) = (l.drop a).drop d.length by rw [List.drop_drop], List.take_append_drop, List.take_append_drop]
      rw [e1, ← h4, List.take_append_drop]
    have hB : Blk w g 5 (((l.take a).map (Value.int .u8)) ++ (((l.drop a).take d.length).map (Value.int .u8)) ++ ((l.drop (a + d.length)).map (Value.int .u8) ++ cur.toList.drop l.length)).toArray := by
      rw [← hcur]; exact hh
    have hB2 := hB.cellsL (xs := d.map (Value.int .u8)) a (by simp; omega) (by simp; omega)
    refine .inr ⟨g, cap, _, rfl, hb, hB2, h1, h2, ?_, ?_⟩
    · simp; omega
    · rw [Nat.mul_one]
      unfold Pl.put
      rw [List.map_append, List.map_append, ← List.append_assoc]
      refine List.take_left' ?_
      simp; omega
theorem step_copyC {P : Program} {ops : Array Oper} {o : Oper} {a : Act} {w : World} {K : Act → World → Prop} {Q : Exit → Act → World → Prop} {E : Prop} (hgd : o.guard = none) (x y : Operand) (dT sT : TypeId)
    (ho : o.op = .call { callee := .builtin .copy, args := #[x, y], argTypes := #[dT, sT] }) (elem : TypeId) (hu : P.underlying dT = some (.slice elem)) (hsz : (P.info? elem).map (·.size) = some 1)
    (b o' dLen dCap : Nat) (ad : Addr) (sLen sCap : Nat) (cs : List Value) (hx : a.eval x = .slice (some ⟨b, o', none⟩) dLen dCap) (hy : a.eval y = .slice (some ad) sLen sCap) (hn : cs.length = Nat.min sLen dLen)
    (hsrc : ∀ j v, cs[j]? = some v → w.cell? (ad.add j) = some v) (hc : w.there b o' cs.length) (h1 : ∀ v ∈ cs, v.oneCell' = true)
    (h : K (a.put o.dst (goInt cs.length)) (w.setCells b o' cs)) :
    if Region.wanted o (yielded ops a.tmps) = true then Oper.wp P o a w K Q else E := by
  have hw : Region.wanted o (yielded ops a.tmps) = true := by simp [Region.wanted, hgd]
  rw [if_pos hw]
  have hrun := run_copy_cells (P := P) w dT sT o.type elem b o' dLen dCap ad sLen sCap cs hu hsz hn hsrc (fun j hj => (hc j hj).1) (fun j hj => (hc j hj).2) h1
  unfold Oper.wp
  simp [execOp, ho, resolve, invoke, builtin, hx, hy, hrun, Result.andThen]
  exact h
theorem step_append_ownB {P : Program} {ops : Array Oper} {w : World} {o : Oper} {a : Act} {K : Act → World → Prop} {Q : Exit → Act → World → Prop} {E : Prop} (hgd : o.guard = none) (s x : Operand) (t : TypeId)
    (ho : o.op = .call { callee := .builtin .append, args := #[s, x], argTypes := #[t, t] })
    (base : Nat) (e : TypeId) (i : TypeInfo) (z : Value) (size bytes : Nat) (ht : P.underlying t = some (.slice e)) (hi : P.info? e = some i) (hz : i.zero = some z)
    (hsize : i.size = size) (hby : i.bytes = bytes) (hzs : z.cells.size = size) (hsz : 0 < size)
    (v : Value) (n : Nat) (xs : List Value) (hs : a.eval s = v) (hown : w.ownsRow base e size v n xs)
    (ad : Addr) (m c : Nat) (news : List Value) (hx : a.eval x = .slice (some ad) m c) (hl : news.length = m * size) (hnews : ∀ j u, news[j]? = some u → w.cell? (ad.add j) = some u) (h1 : ∀ u ∈ news, u.oneCell' = true)
    (h63 : n + m ≤ maxLen) (hbytes : (n + m) * bytes ≤ 140737488355328) (hbase : base ≤ w.heap.size)
    (h : ∀ v' w', w'.ownsRow base e size v' (n + m) (xs ++ news) → w.grownBy w' v.ownBlock → (∀ b, v'.ownBlock = some b → v.ownBlock = some b ∨ w.heap.size ≤ b) → K (a.put o.dst v') w') :
    if Region.wanted o (yielded ops a.tmps) = true then Oper.wp P o a w K Q else E := by
  have hw : Region.wanted o (yielded ops a.tmps) = true := by simp [Region.wanted, hgd]
  rw [if_pos hw]
  exact wp_append_ownB s x t ho base e i z size bytes ht hi hz hsize hby hzs hsz v n xs hs hown ad m c news hx hl hnews h1 h63 hbytes hbase h
/-- the changes of the sectors up to one -/
def secs (s : ByteArray) (l : List Int) (k0 k : Nat) : List Cg := (List.range' k0 (k - k0)).map fun (k : Nat) => ⟨s, (k : Int), 0, sizedF (l.drop (k * 64)) 64⟩
theorem secs_next (s : ByteArray) (l : List Int) {k0 k : Nat} (h : k0 ≤ k) : secs s l k0 (k + 1) = secs s l k0 k ++ [⟨s, (k : Int), 0, sizedF (l.drop (k * 64)) 64⟩] := by
  unfold secs
  rw [show k + 1 - k0 = (k - k0) + 1 by omega, List.range'_concat, List.map_append]
  simp only [List.map_cons, List.map_nil, Nat.one_mul]
  rw [Nat.add_sub_cancel' h]
theorem secs_all (s : ByteArray) (l : List Int) (a e : Nat) : secs s l (a / 64) ((e + 63) / 64) = Pl.sectors s l a e := rfl
theorem secs_len (s : ByteArray) (l : List Int) (k0 k : Nat) : (secs s l k0 k).length = k - k0 := by simp [secs]
theorem Dk.fb_ne {n0 : Nat} {w : World} {x : Dd} (h : Dk n0 w x) {e : Fe} (he : e ∈ x.fs) : ¬ (e.fb = x.db ∨ x.pv.ownBlock = some e.fb) := by
  obtain ⟨u, v, hb, _⟩ := (h.fls e he).blk
  rintro (q | q)
  · rw [q] at hb
    exact blk_ne h.blk hb (by decide) rfl
  · obtain ⟨cs, hc⟩ := own_type h.pend q
    exact blk_ne hb hc (by decide) rfl
theorem undrew {w w' : World} {r : Option Nat} (h : w.drew.grownBy w' r) : w.grownBy w' r := ⟨h.os, h.tape, h.output, h.size, h.block⟩
theorem cgA_copy {w : World} {g : Nat} {s : ByteArray} {K : Int} {l : List Int} (h : Blk w g 158 (cgA s K 0 (zeros 64))) :
    Blk (w.setCells g 3 ((l.take 64).map (Value.int .u8))) g 158 (cgA s K 0 (sizedF l 64)) := by
  have hl : (l.take 64).length ≤ 64 := by simp; omega
  have e1 : cgA s K 0 (zeros 64) = ([Value.string s, .int .i64 K, .int .i64 0] ++ (zeros (l.take 64).length).map (Value.int .u8) ++ (zeros (64 - (l.take 64).length)).map (Value.int .u8)).toArray := by
    unfold cgA cgL
    congr 1
    simp only [List.append_assoc, ← List.map_append]
    have : zeros (l.take 64).length ++ zeros (64 - (l.take 64).length) = zeros 64 := by
      unfold zeros
      rw [List.replicate_append_replicate]
      congr 1
      omega
    rw [this]
    rfl
  rw [e1] at h
  have h2 := h.cellsL (xs := (l.take 64).map (Value.int .u8)) 3 rfl (by simp [zeros])
  have e2 : cgA s K 0 (sizedF l 64) = ([Value.string s, .int .i64 K, .int .i64 0] ++ (l.take 64).map (Value.int .u8) ++ (zeros (64 - (l.take 64).length)).map (Value.int .u8)).toArray := by
    unfold cgA cgL
    congr 1
    simp only [List.append_assoc, ← List.map_append]
    have : sizedF l 64 = l.take 64 ++ zeros (64 - (l.take 64).length) := by
      unfold sizedF zeros
      split
      · rw [List.length_take, Nat.min_eq_left (by omega)]; simp
      · rw [List.take_of_length_le (by omega)]
    rw [this]
    rfl
  rw [e2]
  exact h2
def WrRel (n0 : Nat) (w7 : World) (x3 : Dd) (s : ByteArray) (l7 : List Int) (fb : Nat) (sv : Value) (k0 ke : Nat) (v12 : Value) (wr : World) : Prop :=
  ∃ (k : Nat) (pv : Value), v12 = .int .i64 (k : Int) ∧ k0 ≤ k ∧ k ≤ ke ∧ Dk n0 wr { x3 with pv := pv, pd := x3.pd ++ secs s l7 k0 k } ∧ wr.cell? ⟨fb, 0, none⟩ = some sv ∧ Kp (fun b => b = x3.db ∨ x3.pv.ownBlock = some b) w7 wr ∧ (∀ b, pv.ownBlock = some b → x3.pv.ownBlock = some b ∨ w7.heap.size ≤ b)
attribute [local go_sem ↓] exBuildCg2 exSliceCg loadCg storeCg allocCg
set_option maxRecDepth 100000 in
set_option maxHeartbeats 800000 in
theorem write_main (w : World) (n0 : Nat) (x : Dd) (p : Pl) (s : ByteArray) (A : Int) (a : Nat) (d : ByteArray) (h : Dk n0 w x) (hp : Of x p) (hs : s.size ≤ maxLen) (hd : p.down = false) (hA : A = a) (ha2 : a + d.size ≤ 1048576) (hz : 0 < d.size) (hn0 : n0 ≤ w.heap.size)
    (hm : p.nf < 1099511627776 - 10) (hpd : p.pd.length < 1099511627776 - 20000) (hf : p.fits s (max (A + d.size) (p.seen s).length) = 0) :
    Calls Tryz.prog 123 #[ptrV x.db, .string s, .int .i64 A, .string d] w (WrPost n0 w x p s A (strI d)) := by
  have H := Lib.hid h
  have HP := Lib.hid hp
  have HD := Lib.hid hd
  have HS := Lib.hid hs
  have HN0 := Lib.hid hn0
  have HM := Lib.hid hm
  have HPD := Lib.hid hpd
  have HAA := Lib.hid hA
  obtain ⟨db, hdb⟩ : ∃ db, x.db = db := ⟨_, rfl⟩
  have HX := Lib.hid hdb
  rw [hdb]
  have ha0 : 0 ≤ A := by omega
  have ha2' : A + d.size ≤ 1048576 := by omega
  have hna : ¬ A < 0 := by omega
  have ha3 : ¬ 1048576 < A := by omega
  have ha4 : ¬ 1048576 - A < d.size := by omega
  have HF := Lib.hid hf
  obtain ⟨was, hwas⟩ : ∃ m, (seenOf x.fs s).length = m := ⟨_, rfl⟩
  have hwl := seen_le h s
  rw [hwas] at hwl
  have HW := Lib.hid hwas
  have hne := str_empty0 hz
  obtain ⟨en, hen⟩ : ∃ en : Int, A + d.size = en := ⟨_, rfl⟩
  have HEN := Lib.hid hen
  have HMX := Lib.hid (show (en < was → p.fits s was = 0) ∧ (was ≤ en → p.fits s en = 0) by
    rw [← HP.out.seen_eq, HW.out, hen] at HF
    exact ⟨fun q => by rw [← HF.out, Int.max_eq_right (by omega)], fun q => by rw [← HF.out, Int.max_eq_left (by omega)]⟩)
  have he0 : 0 ≤ en := by omega
  have he1 : en ≤ 1048576 := by omega
  have hw1 : IntKind.i64.wrap (A + (d.size : Int)) = en := by rw [IntKind.wrap_i64]; omega
  have HA2 := Lib.hid ha2
  obtain ⟨p1, hp1⟩ : ∃ p1, (if (p.seen s).length < a + d.size then p.length s (a + d.size) else p) = p1 := ⟨_, rfl⟩
  have HP1 := Lib.hid hp1
  clear h hp hd hdb hf hs hwas hn0 hm hpd hA hen hp1 ha2
  unfold ptrV
  go_enter Tryz.func123, Tryz.ntmps123
  go_upto_region 11 with (go_at_call 159; go_must (refine (show Calls _ _ #[ptrV db] _ _ by rw [← HX.out]; exact wrong_p _ n0 x p H.out HP.out false HD.out).mono ?_); rintro e w2 ⟨rfl, rfl⟩)
  go_cut [9] (fun s9 wx => s9 = .int .i64 0 ∧ Kp NoB w wx)
  case first =>
    go_wp2_with (first
      | (go_at_call 162; go_must (refine (show Calls _ _ #[ptrV db, .string s] _ _ by rw [← HX.out]; exact bytes_ok _ _ _ _ HS.out H.out).mono ?_); rintro e w3 ⟨B, cap, rfl, _, rfl⟩; rw [HW.out])
      | (go_at_call 161; go_must (refine (show Calls _ _ #[ptrV db, .string s, .int .i64 _] _ _ by rw [← HX.out]; exact fits_ok _ n0 x p s _ HS.out (by omega) H.out HP.out).mono ?_); rintro e w4 ⟨rfl, hk4⟩; (first | rw [HMX.out.1 (by omega)] | rw [HMX.out.2 (by omega)]); have HK4 := Lib.hid hk4; clear hk4))
    all_goals
      go_meet
      case rel => exact ⟨rfl, HK4.out⟩
  case rest =>
    obtain ⟨rfl, hkc⟩ := hcut
    have HKC := Lib.hid hkc
    have HC := Lib.hid (H.out.keep hkc (fun _ _ q => q) (fun _ _ _ q => q))
    clear hkc
    go_upto_if 58 with (go_at_call 162; go_must (refine (show Calls _ _ #[ptrV db, .string s] _ _ by rw [← HX.out]; exact bytes_ok _ _ _ _ HS.out HC.out).mono ?_); rintro e w3 ⟨B, cap, rfl, _, rfl⟩; rw [HW.out])
    go_cut [] (fun wx => To n0 w x p1 wx)
    case first =>
      by_cases hg : (was : Int) < en
      · go_wp2_with (go_at_call 163; go_must (refine (show Calls _ _ #[ptrV db, .string s, .int .i64 en] _ _ by rw [← HX.out, ← HEN.out, HAA.out]; exact length_ok _ n0 x p s (a + d.size) HS.out (by have := HM.out; omega) (by have := HPD.out; omega) HA2.out (Nat.le_trans HN0.out HKC.out.size) HC.out HP.out).mono ?_); rintro e w5 ⟨rfl, ht5⟩; have HT5 := Lib.hid ht5; clear ht5)
        go_meet
        case rel =>
          rw [← HP1.out, if_pos (by rw [← HP.out.seen_eq, HW.out]; have := HEN.out; have := HAA.out; omega)]
          exact HT5.out.quiet HKC.out H.out
      · go_wp2_with fail
        go_meet
        case rel =>
          rw [← HP1.out, if_neg (by rw [← HP.out.seen_eq, HW.out]; have := HEN.out; have := HAA.out; omega)]
          exact (To.refl HC.out HP.out).quiet HKC.out H.out
    case rest =>
      obtain ⟨x1, hd1, hq1, hdb1, hk1, ho1⟩ := hcut
      have HD1 := Lib.hid hd1
      have HQ1 := Lib.hid hq1
      have HK1 := Lib.hid hk1
      have HO1 := Lib.hid ho1
      have HX1 : Hid (x1.db = db) := Lib.hid (hdb1.trans HX.out)
      have hl1 : en ≤ ((p1.seen s).length : Int) := by
        rw [← HP1.out]
        have e1 := HEN.out
        have e2 := HAA.out
        split
        · unfold Pl.length
          rw [if_neg (by omega)]
          simp only [Pl.pend, Pl.setSeen, upd_same, sizedF_len]
          omega
        · omega
      have hl2 : (p1.seen s).length ≤ 1048576 := by rw [← hq1.seen_eq]; exact seen_le hd1 s
      have hm1 : Hid (x1.mn < 1099511627776) := Lib.hid (by
        have e1 := hq1.nf
        have e2 : p1.nf ≤ p.nf + 1 := by
          rw [← HP1.out]
          split
          · unfold Pl.length
            split <;> simp [Pl.at_, Pl.pend, Pl.setSeen]
          · omega
        have := HM.out
        omega)
      have hpd1 : Hid (x1.pd.length < 1099511627776 - 19000) := Lib.hid (by
        rw [← hq1.pd]
        have e2 : p1.pd.length ≤ p.pd.length + 1 := by
          rw [← HP1.out]
          split
          · unfold Pl.length
            split <;> simp [Pl.at_, Pl.pend, Pl.setSeen]
          · omega
        have := HPD.out
        omega)
      obtain ⟨l1, hl⟩ : ∃ l1, p1.seen s = l1 := ⟨_, rfl⟩
      rw [hl] at hl1 hl2
      have HL := Lib.hid hl
      obtain ⟨L, hL⟩ : ∃ L, l1.length = L := ⟨_, rfl⟩
      rw [hL] at hl1 hl2
      have HLL := Lib.hid hL
      have hn1 : Hid (n0 ≤ wc.heap.size) := Lib.hid (Nat.le_trans HN0.out hk1.size)
      clear hd1 hq1 hk1 ho1 hdb1 hl hL
      go_wp2_with fail
      refine (show Calls _ _ #[ptrV db, .string s] _ _ by rw [← HX1.out]; exact at_ok _ n0 x1 s HS.out hm1.out hn1.out HD1.out).mono ?_
      rintro e w5 ⟨e0, m2, rfl, hd5, hm5, hnm5, hsn5, hkp5, hk5, hfb5⟩
      have HD5 := Lib.hid hd5
      have HE5 := Lib.hid (show e0.nm = s ∧ e0.seen = l1 ∧ e0.kept = p1.kept s from ⟨hnm5, by rw [hsn5, HQ1.out.seen_eq, HL.out], by rw [hkp5, HQ1.out.kept_eq]⟩)
      have HK5 := Lib.hid hk5
      have HF0 := Lib.hid (findF_some (show findF (putF x1.fs e0) (kOf e0.nm) = some e0 by rw [putF_find, if_pos rfl])).1
      have HO5 := Lib.hid (O_at (m := m2) HD1.out hk5 hfb5)
      have HQ5 := Lib.hid (HQ1.out.at_ e0 m2 hm5 (by rw [hsn5, hnm5]) (by rw [hkp5, hnm5]))
      obtain ⟨u, v, hb, hu, hv⟩ := (hd5.fls e0 HF0.out).blk
      obtain ⟨A5, cap5, rfl⟩ := hu.form
      rw [HE5.out.2.1, HLL.out] at hu hb
      have HB5 := Lib.hid hb
      have HU5 := Lib.hid hu
      have HV5 := Lib.hid hv
      have c5 : w5.cell? ⟨e0.fb, 0, none⟩ = some (.slice A5 L cap5) := by rw [hb.cell]; rfl
      obtain ⟨fb, hfb⟩ : ∃ fb, e0.fb = fb := ⟨_, rfl⟩
      have HFB := Lib.hid hfb
      rw [hfb] at c5
      rw [show ptrV e0.fb = .pointer (some ⟨fb, 0, none⟩) by rw [hfb]; rfl]
      clear hb hu hv hd5 hm5 hnm5 hsn5 hkp5 hk5 hfb5 hfb
      go_wp2_with fail
      have hL0 : 0 < L := by have := HEN.out; have := HAA.out; omega
      refine (clone_ok w5 n0 A5 L cap5 l1 HLL.out.symm (by rw [HLL.out]; omega) HU5.out).mono ?_
      rintro e w6 ⟨B6, c6, rfl, hq6, hk6⟩
      rw [HLL.out] at hq6 ⊢
      obtain ⟨g6, ds6, rfl, hg6, hB6⟩ := own_blk1 (by have := hq6.own; rw [HLL.out] at this; exact this) hL0
      have hcap6 : L ≤ c6 := own_cap (by have := hq6.own; rw [HLL.out] at this; exact this)
      have HQ6 := Lib.hid hq6
      have HK6 := Lib.hid hk6
      have HB6 := Lib.hid hB6
      have HG6 := Lib.hid hg6
      have hfl : fb < w5.heap.size := by rw [← HFB.out]; exact HB5.out.lt
      have z60 : w6.frozen? ⟨fb, 0, none⟩ = false := by rw [← HFB.out]; exact (HB5.out.keep hk6 (fun q => q)).frozen 0
      have c60 : w6.cell? ⟨fb, 0, none⟩ = some (.slice A5 L cap5) := by rw [hk6.cell hfl (fun q => q)]; exact c5
      have HGF : Hid (g6 ≠ fb) := Lib.hid (by omega)
      have HFL := Lib.hid hfl
      have hAt : A.toNat = a := by have := HAA.out; omega
      have hac : ¬ c6 = a := by have := HEN.out; have := HAA.out; omega
      have haL : A ≤ (L : Int) := by have := HEN.out; omega
      have haL2 : a ≤ L := by have := HEN.out; have := HAA.out; omega
      have haL3 : a ≤ c6 := by omega
      clear hq6 hk6 hB6 hg6 c5 hfl
      have hth : (w6.setCell ⟨fb, 0, none⟩ (.slice (some ⟨g6, 0, none⟩) L c6)).there g6 a d.size := by
        have := HB6.out.far (p := ⟨fb, 0, none⟩) HGF.out (.slice (some ⟨g6, 0, none⟩) L c6)
        exact this.there (by simp [HLL.out]; have := HEN.out; have := HAA.out; omega)
      have HTH := Lib.hid hth
      have hld : a + (strI d).length ≤ l1.length := by rw [strI_len, HLL.out]; have := HEN.out; have := HAA.out; omega
      have HLD := Lib.hid hld
      clear hth hld
      go_wp2_with (show wpList _ _ _ (⟨some 84, _, _, _, _, _⟩ :: _) _ _; go_loud (refine wpList_copyS rfl (.tmp 82) (.tmp 83) 50 9 5 rfl Tryz.underlying50 sizeU8 g6 a (L - a) (c6 - a) d rfl rfl (by have := HEN.out; have := HAA.out; omega) HTH.out ?_); generalize hw7 : (w6.setCell ⟨fb, 0, none⟩ (.slice (some ⟨g6, 0, none⟩) L c6)).setCells g6 a ((strI d).map (Value.int .u8)) = w7; have HW7 := Lib.hid hw7; clear hw7)
      obtain ⟨l7, hl7⟩ : ∃ l7, Pl.put l1 a (strI d) = l7 := ⟨_, rfl⟩
      obtain ⟨sv, hsv⟩ : ∃ sv, Value.slice (some ⟨g6, 0, none⟩) L c6 = sv := ⟨_, rfl⟩
      have hb6 : Blk (w6.setCell ⟨fb, 0, none⟩ sv) fb 165 #[sv, v] := by
        have := (HB5.out.keep HK6.out (fun q => q)).set_ 0 sv
        rw [HFB.out] at this
        exact this
      have hk56 : Kp (OnB fb) w5 (w6.setCell ⟨fb, 0, none⟩ sv) := (HK6.out.mono (S' := OnB fb) (fun _ _ q => q.elim)).setAt rfl _ _
      have hk57 : Kp (OnB fb) w5 w7 := by rw [← HW7.out, hsv]; exact Kp.setCells (.inl HG6.out) _ _ _ hk56
      have hb7 : Blk w7 fb 165 #[sv, v] := by rw [← HW7.out, hsv]; exact Blk.farCells HGF.out.symm _ _ _ hb6
      have hl7L : l7.length = L := by rw [← hl7, put_len HLD.out, HLL.out]
      have hq7 : Bq w7 n0 sv l7 := by
        rw [← HW7.out, hsv, ← hl7, ← hsv]
        refine bq_write ((HQ6.out.mono (Nat.le_trans hn1.out HK5.out.size)).keep ((Kp.refl (OnB fb) w6).setAt rfl 0 _) (fun g cs' hc q => onb_cells (HB5.out.keep HK6.out (fun q => q)) hc (by decide) (by rw [HFB.out]; exact q))) HLL.out a (strI d) HLD.out (strI_rng d)
      have hd7 := HD5.out.refile HF0.out (by rw [HFB.out]; exact hk57) { e0 with seen := l7 } rfl rfl ⟨⟨sv, v, by rw [← HFB.out] at hb7; exact hb7, hq7, HV5.out.keep hk57 (fun g cs' hc q => onb_cells HB5.out hc (by decide) (by rw [HFB.out]; exact q))⟩, by simp only [hl7L]; exact hl2, (HD5.out.fls e0 HF0.out).lk⟩
      obtain ⟨x3, hx3⟩ : ∃ x3 : Dd, ({ x1 with fs := putF (putF x1.fs e0) { e0 with seen := l7 }, mn := m2 } : Dd) = x3 := ⟨_, rfl⟩
      have HX3 : Hid (x3.db = db ∧ x3.pv = x1.pv ∧ x3.pd = x1.pd) := Lib.hid (by rw [← hx3]; exact ⟨HX1.out, rfl, rfl⟩)
      have HE3 : Hid (({ e0 with seen := l7 } : Fe) ∈ x3.fs) := Lib.hid (by
        rw [← hx3]
        exact (findF_some (show findF (putF (putF x1.fs e0) { e0 with seen := l7 }) (kOf e0.nm) = some { e0 with seen := l7 } by rw [putF_find, if_pos rfl])).1)
      have HQ3 : Hid (Of x3 (p1.at_.setSeen s l7)) := Lib.hid (by
        have := HQ5.out.setSeen { e0 with seen := l7 } (by simp only [keptOf_put, upd_same])
        rw [hx3] at this
        have e2 := HE5.out.1
        simp only [e2] at this
        exact this)
      have HD3 : Hid (Dk n0 w7 x3) := Lib.hid (by rw [← hx3]; exact hd7)
      have HO3 : Hid (Kp x.O w w7 ∧ ∀ b, x3.O b → x.O b ∨ w.heap.size ≤ b) := Lib.hid (by
        have o3 : ∀ b, x3.O b → x1.O b ∨ wc.heap.size ≤ b := fun b hb => HO5.out.2 b (O_put (x := { x1 with fs := putF x1.fs e0, mn := m2 }) (e := { e0 with seen := l7 }) ⟨e0, HF0.out, rfl⟩ b (by rw [hx3]; exact hb))
        have up : ∀ b, x1.O b ∨ wc.heap.size ≤ b → x.O b ∨ w.heap.size ≤ b := fun b q => by
          rcases q with q | q
          · exact HO1.out b q
          · exact .inr (Nat.le_trans HK1.out.size q)
        have k5 : Kp x1.O wc w7 := HO5.out.1.trans hk57 (fun i hi q => by
          rcases HO5.out.2 i (.inr (.inr (.inr ⟨e0, HF0.out, by rw [HFB.out]; exact q⟩))) with q | q
          · exact q
          · omega)
        refine ⟨HK1.out.trans k5 (fun i hi q => ?_), fun b hb => up b (o3 b hb)⟩
        rcases HO1.out i q with q | q
        · exact q
        · omega)
      have HB7 := Lib.hid hb7
      have HSV := Lib.hid hsv
      have HL7 := Lib.hid hl7
      have HL7L := Lib.hid hl7L
      clear hl7 hsv hb6 hk56 hk57 hb7 hq7 hd7 hx3 z60 c60 hl7L
      have hk0 : A / 64 = ((a / 64 : Nat) : Int) := by have := HAA.out; omega
      go_loopw [12] (fun v12 wr => WrRel n0 w7 x3 s l7 fb sv (a / 64) ((a + d.size + 63) / 64) v12 wr) (fun v12 _ => 100000 - (intOf v12).toNat)
      case atStart => exact ⟨a / 64, x3.pv, by rw [← hk0], Nat.le_refl _, by omega, by unfold secs; rw [Nat.sub_self]; simpa using HD3.out, by rw [HB7.out.cell]; rfl, Kp.refl _ _, fun b hb => .inl hb⟩
      case round =>
        obtain ⟨k, pv, rfl, hka, hke, hdr, hcr, hkr, hpr⟩ := hrel
        obtain ⟨pl, hpl⟩ : ∃ pl, (x3.pd ++ secs s l7 (a / 64) k).length = pl := ⟨_, rfl⟩
        have HPL2 := Lib.hid hpl
        have hpf := own_slice hdr.pend
        simp only [hpl] at hpf
        obtain ⟨Ap, kp, hpv⟩ := hpf
        subst hpv
        clear hpl
        have HDR := Lib.hid hdr
        have HKR := Lib.hid hkr
        have HPR := Lib.hid hpr
        have HKA := Lib.hid hka
        have HKE := Lib.hid hke
        obtain ⟨K, hK⟩ : ∃ K : Int, (k : Int) = K := ⟨_, rfl⟩
        have HKK := Lib.hid hK
        have hK0 : 0 ≤ K := by omega
        have hK1 : K ≤ 16385 := by have := HEN.out; have := HAA.out; omega
        have HQR : Hid (Of { x3 with pv := .slice Ap pl kp, pd := x3.pd ++ secs s l7 (a / 64) k } ((p1.at_.setSeen s l7).pend (secs s l7 (a / 64) k))) := Lib.hid { HQ3.out with pd := by simp only [Pl.pend, HQ3.out.pd] }
        rw [hK]
        clear hdr hkr hpr hka hke hK
        by_cases hlt : K * 64 < en
        · have HLT := Lib.hid hlt
          have hcr2 : wr.cell? ⟨fb, 0, none⟩ = some (.slice (some ⟨g6, 0, none⟩) L c6) := by rw [HSV.out]; exact hcr
          have hbz : Blk (wr.alloc (.cells (cgA ⟨#[]⟩ 0 0 (zeros 64)) 158)) wr.heap.size 158 (cgA ⟨#[]⟩ 0 0 (zeros 64)) := Blk.new _ _ _
          have t0 := hbz.thereAll 67 (by rw [cgA_size]; rfl)
          have on1 : ones (cgA s K 0 (zeros 64)) := cgA_ones _ _ _ _
          have sz1 : (cgA s K 0 (zeros 64)).size = 67 := by rw [cgA_size]; rfl
          have HCR := Lib.hid hcr2
          clear hcr hbz
          go_upto_region 23 with fail
          obtain ⟨g8, hg8⟩ : ∃ g8, wr.heap.size = g8 := ⟨_, rfl⟩
          have HG8 := Lib.hid hg8
          have hb8 : Blk ((wr.alloc (.cells (cgA ⟨#[]⟩ 0 0 (zeros 64)) 158)).setCells wr.heap.size 0 (cgA s K 0 (zeros 64)).toList) wr.heap.size 158 (cgA s K 0 (zeros 64)) := (Blk.new wr 158 _).whole _ (by rw [cgA_size, cgA_size])
          have hk8 : Kp NoB wr ((wr.alloc (.cells (cgA ⟨#[]⟩ 0 0 (zeros 64)) 158)).setCells wr.heap.size 0 (cgA s K 0 (zeros 64)).toList) := Kp.setCells (.inl (Nat.le_refl _)) _ _ _ ((Kp.refl NoB wr).alloc _)
          rw [hg8] at hb8 hk8 ⊢
          generalize (wr.alloc (.cells (cgA ⟨#[]⟩ 0 0 (zeros 64)) 158)).setCells g8 0 (cgA s K 0 (zeros 64)).toList = w8 at hb8 hk8 ⊢
          have HB8 := Lib.hid hb8
          have HK8 := Lib.hid hk8
          have hfr : fb < wr.heap.size := by
            obtain ⟨u', v', hb', _⟩ := (HDR.out.fls _ HE3.out).blk
            have := hb'.lt
            rw [← HFB.out]; exact this
          have c8 : w8.cell? ⟨fb, 0, none⟩ = some (.slice (some ⟨g6, 0, none⟩) L c6) := by rw [hk8.cell hfr (fun q => q)]; exact hcr2
          clear hg8 hb8 hk8 hcr2 t0 on1 sz1
          have hwm : IntKind.i64.wrap (K * 64) = K * 64 := by rw [IntKind.wrap_i64]; omega
          have hkt : (K * 64).toNat = k * 64 := by have := HKK.out; omega
          have hkL : K * 64 ≤ (L : Int) := by omega
          have hkL2 : k * 64 ≤ L := by have := HKK.out; omega
          have hkc : ¬ c6 = k * 64 := by have := HKK.out; omega
          have hkc2 : k * 64 ≤ c6 := by omega
          have hk64 : 0 ≤ K * 64 := by omega
          obtain ⟨kk, hkk⟩ : ∃ kk, k * 64 = kk := ⟨_, rfl⟩
          rw [hkk] at hkt hkL2 hkc hkc2
          have HKK2 := Lib.hid hkk
          obtain ⟨cs, hcs⟩ : ∃ cs, ((l7.drop kk).take 64).map (Value.int .u8) = cs := ⟨_, rfl⟩
          have HCS : Hid (cs.length = Nat.min (L - kk) 64) := Lib.hid (by rw [← hcs, List.length_map, List.length_take, List.length_drop, HL7L.out]; exact Nat.min_comm _ _)
          have HCS2 := Lib.hid hcs
          clear hkk hcs
          have HQ8 : Hid (Bq w8 n0 (.slice (some ⟨g6, 0, none⟩) L c6) l7) := Lib.hid (by
            obtain ⟨u', v', hb', hu', _⟩ := (HDR.out.fls _ HE3.out).blk
            have hc' : wr.cell? ⟨fb, 0, none⟩ = some u' := by rw [← HFB.out, hb'.cell]; rfl
            have : u' = .slice (some ⟨g6, 0, none⟩) L c6 := by
              have q := HK8.out.cell hfr (fun q => q) (o := 0)
              rw [c8, hc'] at q
              exact (Option.some.inj q).symm
            rw [this] at hu'
            exact hu'.keep HK8.out (fun _ _ _ q => q))
          have HSRC : Hid (∀ j v, cs[j]? = some v → w8.drew.cell? ((⟨g6, kk, none⟩ : Addr).add j) = some v) := Lib.hid (by
            intro j v hj
            obtain ⟨g', o', e', hc'⟩ := bq_src HQ8.out HL7L.out.symm (by have := HLT.out; have := HKK.out; have := HKK2.out; have := HL7L.out; omega)
            simp only [Option.some.injEq, Addr.mk.injEq] at e'
            obtain ⟨rfl, rfl, _⟩ := e'
            rw [add_mk]
            have := hc' (kk + j) v (by
              rw [← HCS2.out] at hj
              rw [List.getElem?_map, List.getElem?_take] at hj
              split at hj
              · rw [List.getElem?_drop] at hj
                rw [List.getElem?_map]; exact hj
              · cases hj)
            rw [Nat.zero_add] at this
            exact this)
          have HTH8 : Hid (w8.drew.there g8 3 cs.length) := Lib.hid (HB8.out.drew.there (by rw [cgA_size, HCS.out]; have := Nat.min_le_right (L - kk) 64; simp only [zeros, List.length_replicate]; unfold Nat.min at *; omega))
          have HONE : Hid (∀ v ∈ cs, v.oneCell' = true) := Lib.hid (by rw [← HCS2.out]; exact u8_one _)
          go_region_law (first
            | (refine step_copyC rfl (.tmp 97) (.tmp 105) 50 50 rfl 5 Tryz.underlying50 infoU8 g8 3 64 64 ⟨g6, kk, none⟩ (L - kk) (c6 - kk) cs (by go_simp) (by go_simp) HCS.out HSRC.out HTH8.out HONE.out ?_)
            | go_simp)
          have hb9 := cgA_copy (l := l7.drop kk) HB8.out.drew
          rw [HCS2.out] at hb9
          have hk9 : Kp NoB wr (w8.drew.setCells g8 3 cs) := Kp.setCells (.inl (by have := HG8.out; omega)) _ _ _ HK8.out.drew
          generalize w8.drew.setCells g8 3 cs = w9 at hb9 hk9 ⊢
          obtain ⟨ll, hll⟩ : ∃ ll, sizedF (l7.drop kk) 64 = ll := ⟨_, rfl⟩
          rw [hll] at hb9
          have HLL2 := Lib.hid hll
          have HB9 := Lib.hid hb9
          have HK9 := Lib.hid hk9
          have hll64 : ll.length = 64 := by rw [← hll, sizedF_len]
          have HL64 := Lib.hid hll64
          have t9 := hb9.thereAll 67 (by rw [cgA_size, hll64])
          have r9 := hb9.readAll 67 (by rw [cgA_size, hll64])
          have sz9 : (cgA s K 0 ll).size = 67 := by rw [cgA_size, hll64]
          have HD9 := Lib.hid (HDR.out.keep hk9 (fun _ _ q => q) (fun _ _ _ q => q))
          have c9 : w9.cell? ⟨db, 1, none⟩ = some (.slice Ap pl kp) := by rw [← HX3.out.1, HD9.out.blk.cell]; rfl
          have z9 : w9.frozen? ⟨db, 1, none⟩ = false := by rw [← HX3.out.1]; exact HD9.out.blk.frozen 1
          clear hb9 hk9 hll hll64 c8 hwm hkt hkL hkL2 hkc hkc2 hk64 hfr
          obtain ⟨j0, hj0, hy0, hy1, hy2⟩ := info_parts infoCg
          have HJ0 := Lib.hid hj0
          have HY0 := Lib.hid hy0
          have HY1 := Lib.hid hy1
          have HY2 := Lib.hid hy2
          have HN9 : Hid (n0 ≤ w9.heap.size) := Lib.hid (Nat.le_trans HN0.out (Nat.le_trans HO3.out.1.size (Nat.le_trans HKR.out.size HK9.out.size)))
          have HPL : Hid (pl < 1099511627776 - 1000) := Lib.hid (by rw [← HPL2.out, HX3.out.2.2, List.length_append, secs_len]; have := hpd1.out; have := HKK.out; omega)
          have HPV : Hid (w9.ownsRow n0 158 67 (.slice Ap pl kp) pl (cgCells (x3.pd ++ secs s l7 (a / 64) k))) := Lib.hid (by have := HD9.out.pend; simp only [HPL2.out] at this; exact this)
          have HCG : Hid (CgOk ⟨s, K, 0, ll⟩) := Lib.hid ⟨.inr ⟨HL64.out, hK0, (by show K ≤ 16384; have := HLT.out; omega), rfl⟩, by rw [← HLL2.out]; exact sizedF_rng (fun x hx => HQ8.out.rng x (List.mem_of_mem_drop hx)) 64, HS.out⟩
          clear hj0 hy0 hy1 hy2
          have hpw := HPV.out.kept (World.grownBy_alloc w9 (.cells (cgA s K 0 ll) 158) none) (Classical.em _)
          have HPW : Hid ((w9.alloc (.cells (cgA s K 0 ll) 158)).drew.ownsRow n0 158 67 (.slice Ap pl kp) pl (cgCells (x3.pd ++ secs s l7 (a / 64) k))) := Lib.hid hpw
          clear hpw
          have c9a : (w9.alloc (.cells (cgA s K 0 ll) 158)).cell? ⟨db, 1, none⟩ = some (.slice Ap pl kp) := by rw [← HX3.out.1, (HD9.out.blk.alloc _).cell]; rfl
          have HLEN : Hid ((cgL s K 0 ll).length = 1 * 67) := Lib.hid (by unfold cgL; simp only [List.length_cons, List.length_map, HL64.out])
          go_upto_region 24 with fail
          go_region_law (first
            | (go_loud (refine step_append_ownB rfl (.tmp 111) (.tmp 113) 143 rfl n0 158 j0 _ 67 96 Tryz.underlying143 HJ0.out HY0.out HY1.out HY2.out rfl (by omega) (.slice Ap pl kp) pl (cgCells (x3.pd ++ secs s l7 (a / 64) k)) rfl HPW.out ⟨w9.heap.size, 0, none⟩ 1 1 (cgL s K 0 ll) rfl HLEN.out (cgA_new w9 _ _ _ _) (cgA_one _ _ _ _) (by have := HPL.out; unfold maxLen; omega) (by have := HPL.out; omega) (by first | exact Nat.le_trans HN9.out ((Kp.refl NoB w9).drew.alloc _).size | exact Nat.le_trans HN9.out ((Kp.refl NoB w9).alloc _).drew.size | exact Nat.le_trans HN9.out ((Kp.refl NoB w9).alloc _).size) ?_); intro v10 w10 hown10 hgrow11 hb10; have hgrow10 := undrew hgrow11; have hpx := HD9.out.pendX (s := s) (sec := K) (n := 0) (l := ll) HCG.out (pv := v10) (by rw [HPL2.out, pad64_full HL64.out]; exact hown10) hgrow10 hb10; have c10 : w10.cell? ⟨db, 1, none⟩ = some (.slice Ap pl kp) := (by rw [← HX3.out.1, (HD9.out.blk1 hgrow10).cell]; rfl); have z10 : w10.frozen? ⟨db, 1, none⟩ = false := (by rw [← HX3.out.1]; exact (HD9.out.blk1 hgrow10).frozen 1); obtain ⟨A10, k10, rfl⟩ := own_slice hown10; have HPX := Lib.hid hpx; clear hown10 hgrow10 hgrow11 hb10 hpx)
            | go_simp)
          all_goals
            go_wp2_with fail
            have hpx := HPX.out
            have hK := HKK.out
            rw [← hK, ← HLL2.out, ← HKK2.out] at hpx
            have hne : ¬ (fb = x3.db ∨ (Value.slice Ap pl kp).ownBlock = some fb) := by
              rw [← HFB.out]; exact HD9.out.fb_ne (e := { e0 with seen := l7 }) HE3.out
            have h79 : w7.heap.size ≤ w9.heap.size := Nat.le_trans HKR.out.size HK9.out.size
            refine ⟨⟨k + 1, .slice A10 (pl + 1) k10, by rw [← hK]; rfl, by have := HKA.out; omega, by have := HLT.out; have := HEN.out; have := HAA.out; have := HKK.out; omega, ?_, ?_, ?_, ?_⟩, by simp [intOf]; omega⟩
            · rw [secs_next _ _ HKA.out, ← List.append_assoc, ← HX3.out.1]
              exact hpx.1
            · rw [← HX3.out.1, hpx.2.1.cell (by rw [← HFB.out]; obtain ⟨u', v', hb', _⟩ := (HD9.out.fls _ HE3.out).blk; exact hb'.lt) hne, ← HSV.out]
              exact (HK9.out.cell (by rw [← HFB.out]; obtain ⟨u', v', hb', _⟩ := (HDR.out.fls _ HE3.out).blk; exact hb'.lt) (fun q => q)).trans HCR.out
            · rw [← HX3.out.1]
              refine (HKR.out.trans HK9.out (fun _ _ q => q.elim)).trans hpx.2.1 (fun i hi q => ?_)
              rcases q with q | q
              · exact .inl q
              · rcases HPR.out i q with q | q
                · exact .inr q
                · omega
            · intro b hb
              rcases hpx.2.2 b hb with q | q
              · exact HPR.out b q
              · exact .inr (by omega)
        · have HEX := Lib.hid hlt
          go_wp2_with (go_at_call 160; go_must (refine (show Calls _ _ #[ptrV db] _ _ by rw [← HX3.out.1]; exact step_p _ n0 { x3 with pv := .slice Ap pl kp, pd := x3.pd ++ secs s l7 (a / 64) k } _ HDR.out HQR.out).mono ?_); rintro e w9 ⟨rfl, ht9⟩; have HT9 := Lib.hid ht9; clear ht9)
          go_ret
          have ek : k = (a + d.size + 63) / 64 := by have := HEX.out; have := HKK.out; have := HEN.out; have := HAA.out; have := HKE.out; omega
          have hkw : Kp x.O w wr := HO3.out.1.trans HKR.out.pendO (fun i hi q => by
            rcases HO3.out.2 i q with q | q
            · exact q
            · omega)
          have hT := HT9.out.trans (w := w) (x := x) (HX3.out.1.trans HX.out.symm) hkw (fun b hb => by
            rcases O_pend (w := w7) HPR.out b hb with q | q
            · exact HO3.out.2 b q
            · exact .inr (Nat.le_trans HO3.out.1.size q))
          have ecr : p1.crash = p.crash := by
            rw [← HP1.out]
            split
            · unfold Pl.length
              split <;> rfl
            · rfl
          refine ⟨?_, ?_⟩
          · unfold Pl.writeE
            simp only [HD.out, strI_len]
            rw [if_neg (by simp), if_neg (by omega), if_neg (by omega), if_neg (by rw [← List.length_eq_zero_iff, strI_len]; omega), if_neg (by rw [HF.out]; simp)]
            simp only [Pl.stepE, Pl.pend, Pl.setSeen, Pl.at_, ecr]
            rfl
          · unfold Pl.write
            simp only [HD.out, strI_len]
            rw [if_neg (by simp; omega), if_neg (by rw [← List.length_eq_zero_iff, strI_len]; omega), if_neg (by rw [HF.out]; simp), hAt]
            unfold Pl.write1
            simp only [strI_len, HP1.out, HL.out, HL7.out]
            rw [← secs_all, ← ek]
            exact hT
end Go.Proofs.YtoeldmkbmnkhkaaGreat
/- The stand-in disk: Write whole, and the small functions; no condition but on the texts' lengths and the counts. -/
namespace Go.Proofs.YtoeldmkbmnkhkaaGreat
open Go.RowKit

theorem write_ok (w : World) (n0 : Nat) (x : Dd) (p : Pl) (s : ByteArray) (a : Int) (d : ByteArray) (h : Dk n0 w x) (hp : Of x p) (hs : s.size ≤ maxLen) (hds : d.size ≤ maxLen) (hn0 : n0 ≤ w.heap.size)
    (hm : p.nf < 1099511627776 - 10) (hpd : p.pd.length < 1099511627776 - 20000) :
    Calls Tryz.prog 123 #[ptrV x.db, .string s, .int .i64 a, .string d] w (WrPost n0 w x p s a (strI d)) := by
  rcases hd : p.down with _ | _
  · by_cases ha : a < 0
    · exact write_neg w n0 x p s a d h hp hd ha
    · by_cases hl : 1048576 < a ∨ 1048576 - a < d.size
      · exact write_long w n0 x p s a d h hp hd (by omega) hds hl
      · by_cases hz : d.size = 0
        · exact write_none w n0 x p s a d h hp hd (by omega) (by omega) hz
        · by_cases hf : p.fits s (max (a + d.size) (p.seen s).length) = 0
          · exact write_main w n0 x p s a a.toNat d h hp hs hd (by omega) (by omega) (by omega) hn0 hm hpd hf
          · exact write_full w n0 x p s a d h hp hs hd (by omega) (by omega) (by omega) hf
  · exact write_down w n0 x p s a d h hp hd

set_option maxRecDepth 100000 in
theorem len_ok (w : World) (n0 : Nat) (x : Dd) (p : Pl) (s : ByteArray) (h : Dk n0 w x) (hp : Of x p) (hs : s.size ≤ maxLen) :
    Calls Tryz.prog 179 #[ptrV x.db, .string s] w fun e w' => e = .returned (.int .i64 (p.len s)) ∧ w = w' := by
  have H := Lib.hid h
  have HP := Lib.hid hp
  have HS := Lib.hid hs
  have hd := h.blk
  have c5 : w.cell? ⟨x.db, 5, none⟩ = some (.bool p.down) := by rw [h.blk.cell, hp.down]; rfl
  obtain ⟨db, hdb⟩ : ∃ db, x.db = db := ⟨_, rfl⟩
  have HX := Lib.hid hdb
  obtain ⟨m, hm⟩ : ∃ m, (seenOf x.fs s).length = m := ⟨_, rfl⟩
  have HM := Lib.hid hm
  rw [hdb] at c5 ⊢
  rcases hdn : p.down with _ | _
  · have HDN := Lib.hid hdn
    rw [hdn] at c5
    clear h hp hs hd hdb hdn hm
    unfold ptrV
    go_enter Tryz.func179, Tryz.ntmps179
    go_wp2_with (first
      | (go_at_call 83; go_must (refine (show Calls _ _ #[ptrV db] _ _ by rw [← HX.out]; exact is_ok _ _ _ H.out).mono ?_); rintro e w2 ⟨rfl, rfl⟩)
      | (go_at_call 162; go_must (refine (show Calls _ _ #[ptrV db, .string s] _ _ by rw [← HX.out]; exact bytes_ok _ _ _ _ HS.out H.out).mono ?_); rintro e w3 ⟨B, cap, rfl, _, rfl⟩; rw [HM.out]))
    go_ret
    exact ⟨by unfold Pl.len; rw [HDN.out, ← HP.out.seen_eq, HM.out]; rfl, rfl⟩
  · have HDN := Lib.hid hdn
    rw [hdn] at c5
    clear h hp hs hd hdb hdn hm
    unfold ptrV
    go_enter Tryz.func179, Tryz.ntmps179
    go_wp2_with (go_at_call 83; go_must (refine (show Calls _ _ #[ptrV db] _ _ by rw [← HX.out]; exact is_ok _ _ _ H.out).mono ?_); rintro e w2 ⟨rfl, rfl⟩)
    go_ret
    exact ⟨by unfold Pl.len; rw [HDN.out]; rfl, rfl⟩
set_option maxRecDepth 100000 in
theorem down_ok (w : World) (n0 : Nat) (x : Dd) (p : Pl) (h : Dk n0 w x) (hp : Of x p) :
    Calls Tryz.prog 37 #[ptrV x.db] w fun e w' => e = .returned (.bool p.down) ∧ w = w' := by
  have H := Lib.hid h
  obtain ⟨db, hdb⟩ : ∃ db, x.db = db := ⟨_, rfl⟩
  have HX := Lib.hid hdb
  have c : w.cell? ⟨x.db, 5, none⟩ = some (.bool p.down) := by rw [h.blk.cell, hp.down]; rfl
  rw [hdb] at c ⊢
  generalize p.down = dn at c ⊢
  clear h hp hdb
  unfold ptrV
  go_enter Tryz.func37, Tryz.ntmps37
  go_wp2_with (go_at_call 83; go_must (refine (show Calls _ _ #[ptrV db] _ _ by rw [← HX.out]; exact is_ok _ _ _ H.out).mono ?_); rintro e w2 ⟨rfl, rfl⟩)
  go_ret
  exact ⟨rfl, rfl⟩
set_option maxRecDepth 100000 in
theorem starts_ok (w : World) (n0 : Nat) (x : Dd) (p : Pl) (h : Dk n0 w x) (hp : Of x p) :
    Calls Tryz.prog 73 #[ptrV x.db] w fun e w' => e = .returned (.int .i64 p.starts) ∧ w = w' := by
  have H := Lib.hid h
  obtain ⟨db, hdb⟩ : ∃ db, x.db = db := ⟨_, rfl⟩
  have HX := Lib.hid hdb
  have c : w.cell? ⟨x.db, 6, none⟩ = some (.int .i64 p.starts) := by rw [h.blk.cell, hp.starts]; rfl
  rw [hdb] at c ⊢
  generalize p.starts = dn at c ⊢
  clear h hp hdb
  unfold ptrV
  go_enter Tryz.func73, Tryz.ntmps73
  go_wp2_with (go_at_call 83; go_must (refine (show Calls _ _ #[ptrV db] _ _ by rw [← HX.out]; exact is_ok _ _ _ H.out).mono ?_); rintro e w2 ⟨rfl, rfl⟩)
  go_ret
  exact ⟨rfl, rfl⟩
end Go.Proofs.YtoeldmkbmnkhkaaGreat
/- The stand-in disk: Read, Truncate; no condition but on the texts' lengths and the counts. -/
namespace Go.Proofs.YtoeldmkbmnkhkaaGreat
open Go.RowKit

attribute [local go_sem ↓] conv64
theorem by_of {w : World} {n0 : Nat} {g n cap : Nat} {l : List Int} (h : Bq w n0 (.slice (some ⟨g, 0, none⟩) n cap) l) (hn : l.length = n) (o k : Nat) (hk : o + k ≤ n) : byAt w g o k ∧ byRd w g o k = (l.drop o).take k := by
  subst hn
  have hc : ∀ j, j < k → w.cell? ⟨g, o + j, none⟩ = some (.int .u8 (l[o + j]?.getD 0)) := by
    intro j hj
    obtain ⟨g', o', e', hc'⟩ := bq_src h rfl (by omega)
    simp only [Option.some.injEq, Addr.mk.injEq] at e'
    obtain ⟨rfl, rfl, _⟩ := e'
    have := hc' (o + j) (.int .u8 (l[o + j]?.getD 0)) (by rw [List.getElem?_map, List.getElem?_eq_getElem (by omega)]; rfl)
    rw [Nat.zero_add] at this
    exact this
  refine ⟨fun j hj => ⟨_, hc j hj⟩, ?_⟩
  unfold byRd
  apply List.ext_getElem
  · simp; omega
  · intro j h1 h2
    have hj : j < k := by simpa using h1
    simp only [List.getElem_map, List.getElem_range, List.getElem_take, List.getElem_drop]
    rw [hc j hj, List.getElem?_eq_getElem (by omega)]
    rfl
theorem convNil (w : World) : (convert 50 9 (.slice none 0 0)).run Tryz.prog w = .ok (.string ⟨#[]⟩) w := by kernel_rfl
def RdPost (w : World) (p : Pl) (s : ByteArray) (a n : Int) (e : Ending) (w' : World) : Prop := e = .returned (.tuple #[.string (strOf (p.read s a n)), .int .i64 (p.readE a n)]) ∧ Kp NoB w w'
set_option maxRecDepth 100000 in
set_option maxHeartbeats 800000 in
theorem read_ok (w : World) (n0 : Nat) (x : Dd) (p : Pl) (s : ByteArray) (a n : Int) (ha : -9223372036854775808 ≤ a ∧ a ≤ 9223372036854775807) (hn : -9223372036854775808 ≤ n ∧ n ≤ 9223372036854775807) (h : Dk n0 w x) (hp : Of x p) (hs : s.size ≤ maxLen) :
    Calls Tryz.prog 145 #[ptrV x.db, .string s, .int .i64 a, .int .i64 n] w (RdPost w p s a n) := by
  have H := Lib.hid h
  have HP := Lib.hid hp
  have HS := Lib.hid hs
  obtain ⟨db, hdb⟩ : ∃ db, x.db = db := ⟨_, rfl⟩
  have HX := Lib.hid hdb
  obtain ⟨l, hl⟩ : ∃ l, seenOf x.fs s = l := ⟨_, rfl⟩
  have HL := Lib.hid hl
  have hsl := seen_le h s
  rw [hl] at hsl
  obtain ⟨L, hLL⟩ : ∃ L, l.length = L := ⟨_, rfl⟩
  have HLL := Lib.hid hLL
  rw [hLL] at hsl
  rw [hdb]
  rcases hdn : p.down with _ | _
  · have HDN := Lib.hid hdn
    clear h hp hs hdb hl hLL hdn
    unfold ptrV
    by_cases hneg : a < 0 ∨ n < 0
    · have HNG := Lib.hid hneg
      have fin : Hid (RdPost w p s a n (.returned (.tuple #[.string ⟨#[]⟩, .int .i64 2])) w) := Lib.hid (by
        have e1 : p.readE a n = 2 := by unfold Pl.readE; rw [HDN.out, if_neg (by simp), if_pos hneg]
        refine ⟨?_, Kp.refl _ _⟩
        unfold Pl.read
        rw [e1]
        rfl)
      rcases Int.lt_or_le a 0 with h1 | h1
      · clear hneg
        go_enter Tryz.func145, Tryz.ntmps145
        go_wp2_with (go_at_call 159; go_must (refine (show Calls _ _ #[ptrV db] _ _ by rw [← HX.out]; exact wrong_p _ n0 x p H.out HP.out false HDN.out).mono ?_); rintro e w2 ⟨rfl, rfl⟩)
        go_ret2
        exact fin.out
      · have h2 : n < 0 := by omega
        have h1' : ¬ a < 0 := by omega
        clear hneg
        go_enter Tryz.func145, Tryz.ntmps145
        go_wp2_with (go_at_call 159; go_must (refine (show Calls _ _ #[ptrV db] _ _ by rw [← HX.out]; exact wrong_p _ n0 x p H.out HP.out false HDN.out).mono ?_); rintro e w2 ⟨rfl, rfl⟩)
        go_ret2
        exact fin.out
    · have h1 : ¬ a < 0 := by omega
      have h2 : ¬ n < 0 := by omega
      have g1 : 0 ≤ a := by omega
      have g2 : 0 ≤ n := by omega
      have e1 : Hid (p.readE a n = 0) := Lib.hid (by unfold Pl.readE; rw [HDN.out, if_neg (by simp), if_neg hneg])
      have fin : Hid (∀ (W : World) t, w = W → t = (l.drop a.toNat).take n.toNat → RdPost w p s a n (.returned (.tuple #[.string (strOf t), .int .i64 0])) W) := Lib.hid (by
        rintro W t rfl rfl
        refine ⟨?_, Kp.refl _ _⟩
        unfold Pl.read
        rw [e1.out, if_pos rfl, ← HP.out.seen_eq, HL.out])
      clear hneg
      go_enter Tryz.func145, Tryz.ntmps145
      go_wp2_with (go_at_call 159; go_must (refine (show Calls _ _ #[ptrV db] _ _ by rw [← HX.out]; exact wrong_p _ n0 x p H.out HP.out false HDN.out).mono ?_); rintro e w2 ⟨rfl, rfl⟩)
      refine (show Calls _ _ #[ptrV db, .string s] _ _ by rw [← HX.out]; exact bytes_ok _ _ _ _ HS.out H.out).mono ?_
      rintro e w3 ⟨B, cap, rfl, hq, rfl⟩
      rw [HL.out] at hq
      rw [HL.out, HLL.out]
      rw [HLL.out] at hq
      have hcap : L ≤ cap := own_cap (by have := hq.own; rw [HLL.out] at this; exact this)
      rcases own_form (by have := hq.own; rw [HLL.out] at this; exact this) with ⟨rfl, rfl, rfl⟩ | ⟨g, rfl⟩
      · have hcn := convNil
        have hl0 : l = [] := List.eq_nil_of_length_eq_zero HLL.out
        have HL0 := Lib.hid hl0
        clear hq hl0
        have FIN0 := Lib.hid (fin.out w3 [] rfl (by rw [HL0.out]; simp))
        rcases (show 0 < a ∨ a = 0 by omega) with q | rfl
        · rcases (show 0 < n ∨ n = 0 by omega) with q2 | rfl
          all_goals
            go_wp2_with fail
            go_ret2
            exact FIN0.out
        · rcases (show 0 < n ∨ n = 0 by omega) with q2 | rfl
          all_goals
            go_wp2_with fail
            go_ret2
            exact FIN0.out
      · have HQ := Lib.hid hq
        clear hq
        by_cases haL : a < L
        · obtain ⟨F, hF⟩ : ∃ F : Nat, a = F := ⟨a.toNat, by omega⟩
          have HF := Lib.hid hF
          have hFt : a.toNat = F := by omega
          have hFc : ¬ cap = F := by omega
          have hFL : F < L := by omega
          have hFcap : F ≤ cap := by omega
          have haL2 : a ≤ (L : Int) := by omega
          by_cases hnk : n ≤ (L : Int) - a
          · obtain ⟨K, hK⟩ : ∃ K : Nat, n = K := ⟨n.toNat, by omega⟩
            have HK := Lib.hid hK
            have hw1 : IntKind.i64.wrap (a + n) = a + n := by rw [IntKind.wrap_i64]; omega
            have hh1 : 0 ≤ a + n := by omega
            have hh2 : a ≤ a + n := by omega
            have hh3 : (a + n).toNat = F + K := by omega
            have hh4 : a + n ≤ (cap : Int) := by omega
            have hh5 : F + K ≤ cap := by omega
            have hh6 : F + K - F = K := by omega
            have hby := by_of HQ.out HLL.out F K (by omega)
            have hb1 := hby.1
            have HB2 := Lib.hid hby.2
            clear hby hF hK
            go_wp2_with fail
            go_ret2
            have e2 : n.toNat = K := by have := HK.out; omega
            have := fin.out w3 _ rfl (show byRd w3 g F K = _ by rw [HB2.out, hFt, e2])
            exact this
          · obtain ⟨K, hK⟩ : ∃ K : Nat, (L : Int) - a = K := ⟨(L - a).toNat, by omega⟩
            have HK := Lib.hid hK
            have hw1 : IntKind.i64.wrap ((L : Int) - a) = (L : Int) - a := by rw [IntKind.wrap_i64]; omega
            have hw2 : IntKind.i64.wrap (a + ((L : Int) - a)) = (L : Int) := by rw [IntKind.wrap_i64]; omega
            have hw3 : a + ((L : Int) - a) = (L : Int) := by omega
            have hh6 : L - F = K := by omega
            have hby := by_of HQ.out HLL.out F K (by omega)
            have hb1 := hby.1
            have HB2 := Lib.hid hby.2
            have hcap2 : (L : Int) ≤ (cap : Int) := by omega
            clear hby hF hK
            go_wp2_with fail
            all_goals
              go_ret2
              have := fin.out w3 _ rfl (show byRd w3 g F K = _ by rw [HB2.out, hFt]; rw [List.take_of_length_le (by simp [HLL.out]; have := HF.out; omega), List.take_of_length_le (by simp [HLL.out]; have := HF.out; have := HK.out; omega)])
              exact this
        · have haL2 : (L : Int) ≤ a := by omega
          have hcap2 : (L : Int) ≤ (cap : Int) := by omega
          have hw1 : IntKind.i64.wrap ((L : Int) - (L : Int)) = 0 := by rw [IntKind.wrap_i64]; omega
          have hb1 : byAt w3 g 0 0 := fun j hj => absurd hj (by omega)
          have hb2 : byAt w3 g L 0 := fun j hj => absurd hj (by omega)
          have hsub : L - L = 0 := by omega
          have fin2 := fin.out w3 [] rfl (by rw [List.drop_eq_nil_of_le (by rw [HLL.out]; omega)]; simp)
          have FIN2 := Lib.hid fin2
          clear fin2
          rcases (show (L : Int) < a ∨ a = L by omega) with q | rfl
          · by_cases hcl : cap = L
            · subst hcl
              rcases (show 0 < n ∨ n = 0 by omega) with q2 | rfl
              all_goals
                go_wp2_with fail
                go_ret2
                exact FIN2.out
            · rcases (show 0 < n ∨ n = 0 by omega) with q2 | rfl
              all_goals
                go_wp2_with fail
                go_ret2
                exact FIN2.out
          · by_cases hcl : cap = L
            · subst hcl
              rcases (show 0 < n ∨ n = 0 by omega) with q2 | rfl
              all_goals
                go_wp2_with fail
                go_ret2
                exact FIN2.out
            · rcases (show 0 < n ∨ n = 0 by omega) with q2 | rfl
              all_goals
                go_wp2_with fail
                go_ret2
                exact FIN2.out
  · have HDN := Lib.hid hdn
    have fin : Hid (RdPost w p s a n (.returned (.tuple #[.string ⟨#[]⟩, .int .i64 7])) w) := Lib.hid (by
      have e1 : p.readE a n = 7 := by unfold Pl.readE; rw [HDN.out]; rfl
      refine ⟨?_, Kp.refl _ _⟩
      unfold Pl.read
      rw [e1]
      rfl)
    clear h hp hs hdb hl hLL hdn
    unfold ptrV
    go_enter Tryz.func145, Tryz.ntmps145
    go_wp2_with (go_at_call 159; go_must (refine (show Calls _ _ #[ptrV db] _ _ by rw [← HX.out]; exact wrong_p _ n0 x p H.out HP.out true HDN.out).mono ?_); rintro e w2 ⟨rfl, rfl⟩)
    go_ret2
    exact fin.out
end Go.Proofs.YtoeldmkbmnkhkaaGreat
/- The stand-in disk: Truncate; no condition but on the texts' lengths and the counts. -/
namespace Go.Proofs.YtoeldmkbmnkhkaaGreat
open Go.RowKit

def TrPost (n0 : Nat) (w : World) (x : Dd) (p : Pl) (s : ByteArray) (n : Int) (e : Ending) (w' : World) : Prop := e = .returned (.int .i64 (p.truncE s n)) ∧ To n0 w x (p.trunc s n) w'
theorem To.step {n0 : Nat} {w w1 w2 : World} {x x1 : Dd} {p2 : Pl} (h1 : To n0 w1 x1 p2 w2) (d1 : x1.db = x.db) (k : Kp x.O w w1) (o : ∀ b, x1.O b → x.O b ∨ w.heap.size ≤ b) : To n0 w x p2 w2 := h1.trans d1 k o
set_option maxRecDepth 100000 in
set_option maxHeartbeats 800000 in
theorem trunc_ok (w : World) (n0 : Nat) (x : Dd) (p : Pl) (s : ByteArray) (n : Int) (hnn : -9223372036854775808 ≤ n ∧ n ≤ 9223372036854775807) (h : Dk n0 w x) (hp : Of x p) (hs : s.size ≤ maxLen) (hn0 : n0 ≤ w.heap.size)
    (hm : p.nf < 1099511627776 - 10) (hpd : p.pd.length < 1099511627776 - 20000) :
    Calls Tryz.prog 126 #[ptrV x.db, .string s, .int .i64 n] w (TrPost n0 w x p s n) := by
  have H := Lib.hid h
  have HP := Lib.hid hp
  have HS := Lib.hid hs
  have HN0 := Lib.hid hn0
  have HM := Lib.hid hm
  have HPD := Lib.hid hpd
  obtain ⟨db, hdb⟩ : ∃ db, x.db = db := ⟨_, rfl⟩
  have HX := Lib.hid hdb
  rw [hdb]
  rcases hdn : p.down with _ | _
  · have HDN := Lib.hid hdn
    clear h hp hs hn0 hm hpd hdb hdn
    unfold ptrV
    by_cases hneg : n < 0
    · have fin : Hid (TrPost n0 w x p s n (.returned (.int .i64 2)) w) := Lib.hid (by
        refine ⟨?_, ?_⟩
        · unfold Pl.truncE; rw [HDN.out, if_neg (by simp), if_pos hneg]
        · unfold Pl.trunc; rw [if_pos (.inr (.inl hneg))]; exact To.refl H.out HP.out)
      go_enter Tryz.func126, Tryz.ntmps126
      go_wp2_with (go_at_call 159; go_must (refine (show Calls _ _ #[ptrV db] _ _ by rw [← HX.out]; exact wrong_p _ n0 x p H.out HP.out false HDN.out).mono ?_); rintro e w2 ⟨rfl, rfl⟩)
      go_ret
      exact fin.out
    · have h0 : 0 ≤ n := by omega
      obtain ⟨f, hf⟩ : ∃ f, p.fits s n = f := ⟨_, rfl⟩
      have HF := Lib.hid hf
      by_cases hfz : f = 0
      · subst hfz
        have hle : n ≤ 1048576 := by
          have := HF.out
          unfold Pl.fits at this
          split at this
          · omega
          · omega
        obtain ⟨m, hm⟩ : ∃ m : Nat, n = m := ⟨n.toNat, by omega⟩
        have HMM := Lib.hid hm
        have h1 : Hid (m ≤ 1048576) := Lib.hid (by omega)
        clear hf hm
        go_enter Tryz.func126, Tryz.ntmps126
        go_wp2_with (first
          | (go_at_call 159; go_must (refine (show Calls _ _ #[ptrV db] _ _ by rw [← HX.out]; exact wrong_p _ n0 x p H.out HP.out false HDN.out).mono ?_); rintro e w2 ⟨rfl, rfl⟩)
          | (go_at_call 161; go_must (refine (show Calls _ _ #[ptrV db, .string s, .int .i64 _] _ _ by rw [← HX.out]; exact fits_ok _ n0 x p s n HS.out (by omega) H.out HP.out).mono ?_); rintro e w4 ⟨rfl, hk4⟩; rw [HF.out]; have HK4 := Lib.hid hk4; have HD4 := Lib.hid (H.out.keep hk4 (fun _ _ q => q) (fun _ _ _ q => q)); clear hk4)
          | (go_at_call 163; go_must (refine (show Calls _ _ #[ptrV db, .string s, .int .i64 n] _ _ by rw [← HX.out, HMM.out]; exact length_ok _ n0 x p s m HS.out (by have := HM.out; omega) (by have := HPD.out; omega) h1.out (Nat.le_trans HN0.out HK4.out.size) HD4.out HP.out).mono ?_); rintro e w5 ⟨rfl, x5, hd5, hp5, hx5, hk5, ho5⟩; have HD5 := Lib.hid hd5; have HP5 := Lib.hid hp5; have HX5 := Lib.hid hx5; have HK5 := Lib.hid hk5; have HO5 := Lib.hid ho5; clear hd5 hp5 hx5 hk5 ho5)
          | (go_at_call 160; go_must (refine (show Calls _ _ #[ptrV db] _ _ by rw [← HX.out, ← HX5.out]; exact step_p _ n0 x5 _ HD5.out HP5.out).mono ?_); rintro e w6 ⟨rfl, ht6⟩; have HT6 := Lib.hid ht6; clear ht6))
        go_ret
        have ecr : (p.length s m).crash = p.crash := by unfold Pl.length; split <;> rfl
        have hT := (HT6.out.trans HX5.out HK5.out HO5.out).quiet HK4.out H.out
        refine ⟨?_, ?_⟩
        · unfold Pl.truncE
          rw [HDN.out, if_neg (by simp), if_neg (by omega), HF.out, if_neg (by simp)]
          simp only [Pl.stepE, ecr]
          rfl
        · unfold Pl.trunc
          rw [HDN.out, HF.out, if_neg (by simp; omega), show n.toNat = m by have := HMM.out; omega]
          exact hT
      · have HFZ := Lib.hid hfz
        have hfb : (f != 0) = true := by simpa using hfz
        have hfb2 : (f == 0) = false := by simpa using hfz
        clear hf hfz
        go_enter Tryz.func126, Tryz.ntmps126
        go_wp2_with (first
          | (go_at_call 159; go_must (refine (show Calls _ _ #[ptrV db] _ _ by rw [← HX.out]; exact wrong_p _ n0 x p H.out HP.out false HDN.out).mono ?_); rintro e w2 ⟨rfl, rfl⟩)
          | (go_at_call 161; go_must (refine (show Calls _ _ #[ptrV db, .string s, .int .i64 _] _ _ by rw [← HX.out]; exact fits_ok _ n0 x p s n HS.out (by omega) H.out HP.out).mono ?_); rintro e w4 ⟨rfl, hk4⟩; rw [HF.out]; have HK4 := Lib.hid hk4; have HD4 := Lib.hid (H.out.keep hk4 (fun _ _ q => q) (fun _ _ _ q => q)); clear hk4))
        go_ret
        refine ⟨?_, ?_⟩
        · unfold Pl.truncE
          rw [HDN.out, if_neg (by simp), if_neg (by omega), HF.out, if_pos HFZ.out]
          rfl
        · unfold Pl.trunc
          rw [HF.out, if_pos (.inr (.inr HFZ.out))]
          exact (To.refl HD4.out HP.out).quiet HK4.out H.out
  · have HDN := Lib.hid hdn
    have fin : Hid (TrPost n0 w x p s n (.returned (.int .i64 7)) w) := Lib.hid (by
      refine ⟨?_, ?_⟩
      · unfold Pl.truncE; rw [HDN.out]; rfl
      · unfold Pl.trunc; rw [HDN.out, if_pos (.inl rfl)]; exact To.refl H.out HP.out)
    clear h hp hs hn0 hm hpd hdb hdn
    unfold ptrV
    go_enter Tryz.func126, Tryz.ntmps126
    go_wp2_with (go_at_call 159; go_must (refine (show Calls _ _ #[ptrV db] _ _ by rw [← HX.out]; exact wrong_p _ n0 x p H.out HP.out true HDN.out).mono ?_); rintro e w2 ⟨rfl, rfl⟩)
    go_ret
    exact fin.out
end Go.Proofs.YtoeldmkbmnkhkaaGreat
/- The stand-in disk: changes cloned, and those of one file struck; no condition but on the counts. -/
namespace Go.Proofs.YtoeldmkbmnkhkaaGreat
open Go.RowKit

theorem cgCells_split (pd : List Cg) (i : Nat) (hi : i < pd.length) : cgCells pd = cgCells (pd.take i) ++ cgL pd[i].nm pd[i].sec pd[i].n (pad64 pd[i].s) ++ cgCells (pd.drop (i + 1)) := by
  have e : pd = pd.take i ++ pd[i] :: pd.drop (i + 1) := by simp
  conv => lhs; rw [e]
  unfold cgCells cgL
  rw [List.flatMap_append, List.flatMap_cons]
  simp only [List.append_assoc, List.cons_append]
theorem cgL_len (c : Cg) (h : CgOk c) : (cgL c.nm c.sec c.n (pad64 c.s)).length = 67 := by unfold cgL; simp [h.pad]
theorem cg_at {w : World} {g : Nat} {pd : List Cg} {ds : List Value} (h : Blk w g 158 (cgCells pd ++ ds).toArray) (hok : ∀ c ∈ pd, CgOk c) (i : Nat) (hi : i < pd.length) :
    w.there g (i * 67) 67 ∧ readRow w g (i * 67) 67 = cgA pd[i].nm pd[i].sec pd[i].n (pad64 pd[i].s) := by
  have hl : (cgCells (pd.take i)).length = i * 67 := by
    rw [cgCells_len _ (fun c hc => hok c (List.mem_of_mem_take hc)), List.length_take, Nat.min_eq_left (by omega)]
  have hc := cgL_len pd[i] (hok _ (List.getElem_mem hi))
  rw [cgCells_split pd i hi, List.append_assoc] at h
  refine ⟨h.there (by simp [hl, hc]), ?_⟩
  rw [h.read (i * 67) 67 hl hc]
  rfl
theorem cgA_toList (s : ByteArray) (sec n : Int) (l : List Int) : (cgA s sec n l).toList = cgL s sec n l := rfl
theorem cg_put {w : World} {g : Nat} {pd : List Cg} {ds : List Value} (h : Blk w g 158 (cgCells pd ++ ds).toArray) (hok : ∀ c ∈ pd, CgOk c) (i : Nat) (hi : i < pd.length) (c : Cg) (hc : CgOk c) :
    Blk (w.setCells g (i * 67) (cgA c.nm c.sec c.n (pad64 c.s)).toList) g 158 (cgCells (pd.set i c) ++ ds).toArray := by
  have hl : (cgCells (pd.take i)).length = i * 67 := by
    rw [cgCells_len _ (fun c hc => hok c (List.mem_of_mem_take hc)), List.length_take, Nat.min_eq_left (by omega)]
  have hc1 := cgL_len pd[i] (hok _ (List.getElem_mem hi))
  rw [cgCells_split pd i hi, List.append_assoc] at h
  have h2 := h.cellsL (xs := (cgA c.nm c.sec c.n (pad64 c.s)).toList) (i * 67) hl (by rw [cgA_toList, cgL_len c hc, hc1])
  have e : cgCells (pd.set i c) = cgCells (pd.take i) ++ cgL c.nm c.sec c.n (pad64 c.s) ++ cgCells (pd.drop (i + 1)) := by
    rw [cgCells_split (pd.set i c) i (by simpa using hi)]
    simp [List.take_set_of_le, List.drop_set]
  rw [e, List.append_assoc]
  exact h2
def CClPost (w : World) (pd : List Cg) (e : Ending) (w' : World) : Prop := ∃ A cap, e = .returned (.slice A pd.length cap) ∧ w'.ownsRow w.heap.size 158 67 (.slice A pd.length cap) pd.length (cgCells pd) ∧ Kp NoB w w'
theorem cgEqN (w : World) : (binOp .eql 143 (.slice none 0 0) (.slice none 0 0)).run Tryz.prog w = .ok (.bool true) w := by kernel_rfl
theorem cgEqS (a : Addr) (m c : Nat) (w : World) : (binOp .eql 143 (.slice (some a) m c) (.slice none 0 0)).run Tryz.prog w = .ok (.bool false) w := by kernel_rfl
theorem cg_one (pd : List Cg) : ∀ u ∈ cgCells pd, u.oneCell' = true := by
  intro u hu
  unfold cgCells at hu
  obtain ⟨c, _, hc⟩ := List.mem_flatMap.1 hu
  exact cgA_one c.nm c.sec c.n (pad64 c.s) u hc
set_option maxRecDepth 100000 in
set_option maxHeartbeats 800000 in
theorem cloneCg_ok (w : World) (n0 : Nat) (A : Option Addr) (m cap : Nat) (pd : List Cg) (hm : pd.length = m) (hl : m < 1099511627776) (hok : ∀ c ∈ pd, CgOk c) (h : w.ownsRow n0 158 67 (.slice A m cap) m (cgCells pd)) :
    Calls Tryz.prog 165 #[.slice A m cap] w (CClPost w pd) := by
  obtain ⟨j0, hj0, hy0, hy1, hy2⟩ := info_parts infoCg
  have HJ0 := Lib.hid hj0
  have HY0 := Lib.hid hy0
  have HY1 := Lib.hid hy1
  have HY2 := Lib.hid hy2
  have H := Lib.hid h
  have HL := Lib.hid hl
  have HM := Lib.hid hm
  have HOK := Lib.hid hok
  have qn := cgEqN
  have qs := cgEqS
  rcases own_form h with ⟨rfl, rfl, rfl⟩ | ⟨g, rfl⟩
  · obtain rfl : pd = [] := List.eq_nil_of_length_eq_zero hm
    clear h hl hj0 hy0 hy1 hy2 hm hok
    go_enter Tryz.func165, Tryz.ntmps165
    go_wp2_with fail
    go_ret
    exact ⟨none, 0, rfl, World.ownsRow_nil _ _ _ _, Kp.refl _ _⟩
  · have HOWN : Hid ((w.alloc (.cells #[] 158)).ownsRow w.heap.size 158 67 (.slice (some ⟨w.heap.size, 0, none⟩) 0 0) 0 []) := Lib.hid ⟨rfl, .inr ⟨w.heap.size, 0, #[], rfl, Nat.le_refl _, heap_alloc_new _ _, Nat.le_refl _, by simp, rfl, rfl⟩⟩
    have HLEN : Hid ((cgCells pd).length = m * 67) := Lib.hid (by rw [cgCells_len pd hok, hm])
    have HSRC : Hid (∀ j u, (cgCells pd)[j]? = some u → (w.alloc (.cells #[] 158)).cell? ⟨g, 0 + j, none⟩ = some u) := Lib.hid (by
      intro j u hj
      have hc := h.cells (g := g) rfl j u hj
      rw [add_mk] at hc
      have hlt : g < w.heap.size := (h.lt g rfl).2
      rw [← hc]
      exact ((Kp.refl NoB w).alloc _).cell hlt (fun q => q))
    clear h hl hj0 hy0 hy1 hy2 hm hok
    go_enter Tryz.func165, Tryz.ntmps165
    go_wp2_with (at_builtin; refine wpList_append_srcN rfl _ _ 143 rfl w.heap.size 158 j0 _ 67 96 Tryz.underlying143 HJ0.out HY0.out HY1.out HY2.out rfl (by omega) _ 0 [] rfl HOWN.out (some ⟨g, 0, none⟩) m cap (cgCells pd) rfl (by simp) HLEN.out (fun _ => ⟨g, 0, rfl, HSRC.out⟩) (cg_one pd) (by have := HL.out; unfold maxLen; omega) (by have := HL.out; omega) (by simp) ?_; intro v1 w1 hown1 hgrow1; rw [Nat.zero_add, List.nil_append] at hown1; obtain ⟨B, c, rfl⟩ := own_slice hown1; have HO1 := Lib.hid hown1; have HK1 := Lib.hid (((Kp.refl NoB w).alloc _).own (v := .slice (some ⟨w.heap.size, 0, none⟩) 0 0) hgrow1 rfl HOWN.out); clear hown1 hgrow1)
    go_ret
    exact ⟨B, c, by rw [HM.out]; rfl, by rw [HM.out]; exact HO1.out, HK1.out⟩
/-- the name is another one -/
def notB (s : ByteArray) (c : Cg) : Bool := !decide (c.nm = s)
theorem str_eqB (a b : ByteArray) : (a.toList == b.toList) = decide (a = b) := by
  by_cases h : a = b
  · subst h; simp
  · rw [decide_eq_false h]
    have h2 : a.toList ≠ b.toList := by
      rw [ByteArray.toList_eq, ByteArray.toList_eq]
      intro q
      apply h
      cases a; cases b
      simp at q
      rw [q]
    simpa using h2
attribute [local go_sem ↓] exBuildCg2 exSliceCg loadCg storeCg allocCg
set_option maxRecDepth 100000 in
set_option maxHeartbeats 800000 in
theorem sync1_ok (w : World) (B : Nat) (s nm : ByteArray) (sec n : Int) (l : List Int) (hl : l.length = 64) (hB : w.cell? ⟨B, 0, none⟩ = some (.string s)) :
    Calls Tryz.prog 166 #[.agg (cgA nm sec n l), .pointer (some ⟨B, 0, none⟩)] w fun e w' => e = .returned (.bool (decide (nm = s))) ∧ Kp NoB w w' := by
  have hb := Blk.new w 158 (cgA nm sec n l)
  have c0 : (w.alloc (.cells (cgA nm sec n l) 158)).cell? ⟨w.heap.size, 0, none⟩ = some (.string nm) := by rw [hb.cell]; rfl
  have c1 : (w.alloc (.cells (cgA nm sec n l) 158)).cell? ⟨B, 0, none⟩ = some (.string s) := by
    rw [((Kp.refl NoB w).alloc _).cell (block_lt_of_cell hB) (fun q => q)]; exact hB
  have sb := str_eqB nm s
  clear hb hB hl
  go_enter Tryz.func166, Tryz.ntmps166
  go_wp2_with fail
  go_ret
  exact ⟨rfl, (Kp.refl NoB w).alloc _⟩
end Go.Proofs.YtoeldmkbmnkhkaaGreat
