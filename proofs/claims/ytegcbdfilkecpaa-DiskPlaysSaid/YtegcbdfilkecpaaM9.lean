/- Texts of this proof, one behind the other: lemmas and contracts; each says its own conditions. -/
import Derived.Test.YtegcbdfilkecpaaM5
import Derived.Test.YtegcbdfilkecpaaM6
import Derived.Test.YtegcbdfilkecpaaM8
/- The reference's disk: files that are seen as they are kept, in plain Lean; what a row of changes and choices makes. -/
namespace Go.Proofs.Ytegcbdfilkecpaa
open Go.RowKit

def keepF (f : Rfile) : Rfile := { f with seen := f.kept }
theorem find_keep (fs : List Rfile) (s : ByteArray) : findR (fs.map keepF) s = (findR fs s).map keepF := by
  unfold findR
  induction fs with
  | nil => rfl
  | cons f r ih =>
    rw [List.map_cons]
    by_cases h : f.nm = s
    · rw [List.find?_cons_of_pos (by show decide (f.nm = s) = true; exact decide_eq_true h), List.find?_cons_of_pos (by simpa using h)]
      rfl
    · rw [List.find?_cons_of_neg (by show ¬ decide (f.nm = s) = true; rw [decide_eq_false h]; decide), List.find?_cons_of_neg (by simpa using h)]
      exact ih
theorem seen_keep (fs : List Rfile) : seenR (fs.map keepF) = keptR fs := by
  funext s
  unfold seenR keptR
  rw [find_keep]
  cases findR fs s <;> rfl
theorem kept_keep (fs : List Rfile) : keptR (fs.map keepF) = keptR fs := by
  funext s
  unfold keptR
  rw [find_keep]
  cases findR fs s <;> rfl
theorem sum_keep (fs : List Rfile) : sumR (fs.map keepF) = ksumR fs ∧ ksumR (fs.map keepF) = ksumR fs := by
  unfold sumR ksumR
  rw [List.map_map, List.map_map]
  exact ⟨rfl, rfl⟩
theorem names_keep {fs : List Rfile} (h : fs.Pairwise fun x y => x.nm ≠ y.nm) : (fs.map keepF).Pairwise fun x y => x.nm ≠ y.nm := List.pairwise_map.2 h
theorem ok_keep {fs : List Rfile} (h : ∀ f ∈ fs, RfOk f) : ∀ f ∈ fs.map keepF, RfOk f := by
  intro f hf
  obtain ⟨x, hx, rfl⟩ := List.mem_map.1 hf
  have := h x hx
  exact ⟨this.nl, this.krng, this.krng, this.kl, this.kl⟩
/-- the first k of the files as they are kept -/
def keepK (fs : List Rfile) (k : Nat) : List Rfile := (fs.take k).map keepF ++ fs.drop k
theorem keepK_all (fs : List Rfile) {k : Nat} (h : fs.length ≤ k) : keepK fs k = fs.map keepF := by
  unfold keepK
  rw [List.take_of_length_le h, List.drop_eq_nil_of_le h, List.append_nil]
theorem keepK_zero (fs : List Rfile) : keepK fs 0 = fs := by simp [keepK]
theorem keepK_at {fs : List Rfile} {k : Nat} {f : Rfile} (h : fs[k]? = some f) : (keepK fs k)[k]? = some f ∧ keepK fs (k + 1) = (keepK fs k).set k (keepF f) := by
  obtain ⟨hk, rfl⟩ := List.getElem?_eq_some_iff.1 h
  have hl : ((fs.take k).map keepF).length = k := by rw [List.length_map, List.length_take]; omega
  constructor
  · unfold keepK
    rw [List.getElem?_append_right (by omega), hl, Nat.sub_self, List.getElem?_drop, Nat.add_zero, h]
  · unfold keepK
    rw [List.set_append_right _ _ (by omega), hl, Nat.sub_self, List.drop_eq_getElem_cons hk, List.set_cons_zero, List.take_add_one, List.getElem?_eq_getElem hk, Option.toList_some, List.map_append, List.append_assoc]
    rfl
/-- a row of changes by choices, one more -/
theorem survive_cons (p : Pl) (c : Cg) (cs : List Cg) (ch : Int) (r : List Int) : p.survive (c :: cs) (ch :: r) = (p.at_.setKept c.nm (Pl.made (p.kept c.nm) c ch)).survive cs r := by
  rw [Pl.survive]
theorem survive_stop (p : Pl) (cs : List Cg) (r : List Int) (h : cs = [] ∨ r = []) : p.survive cs r = p := by
  rcases h with rfl | rfl
  · unfold Pl.survive; rfl
  · cases cs <;> (unfold Pl.survive; rfl)
theorem made_fine {l : List Int} {c : Cg} (ch : Int) (hl : l.length ≤ 1048576) (hr : ∀ y ∈ l, 0 ≤ y ∧ y < 256) (hc : CgOk c) : (Pl.made l c ch).length ≤ 1048576 ∧ ∀ y ∈ Pl.made l c ch, 0 ≤ y ∧ y < 256 := by
  unfold Pl.made
  split
  · exact ⟨hl, hr⟩
  · split
    · rename_i h2
      have hn : c.n.toNat ≤ 1048576 := by
        rcases hc.kind with ⟨_, _, _, h⟩ | ⟨_, h, _⟩
        · omega
        · omega
      exact ⟨by rw [sizedF_len]; exact hn, sizedF_rng hr _⟩
    · constructor
      · unfold Pl.put
        simp only [List.length_append, List.length_take, List.length_drop]
        omega
      · intro y hy
        unfold Pl.put at hy
        rcases List.mem_append.1 hy with q | q
        · rcases List.mem_append.1 q with q | q
          · exact hr y (List.mem_of_mem_take q)
          · exact hc.rng y (List.mem_of_mem_take (List.mem_of_mem_take q))
        · exact hr y (List.mem_of_mem_drop q)
theorem Rows.set1 {w : World} {g o n k : Nat} {a b c v : Value} {xs : List (List Value)} (h : Rows w (some ⟨g, o, none⟩) n 3 xs) (hk : xs[k]? = some [a, b, c]) : Rows (w.setCell ⟨g, o + k * 3 + 1, none⟩ v) (some ⟨g, o, none⟩) n 3 (xs.set k [a, v, c]) := by
  obtain ⟨hkl, hke⟩ := List.getElem?_eq_some_iff.1 hk
  refine ⟨by rw [List.length_set]; exact h.1, fun x hx => ?_, fun hn => ?_⟩
  · rcases List.mem_or_eq_of_mem_set hx with q | q
    · exact h.2.1 x q
    · rw [q]; rfl
  · obtain ⟨g', o', t, cs, e, hb, hs, hc⟩ := h.2.2 hn
    injection e with e
    injection e with e1 e2
    subst e1 e2
    refine ⟨g, o, t, cs.setIfInBounds (o + k * 3 + 1) v, rfl, hb.set_ _ _, by rw [Array.size_setIfInBounds]; exact hs, fun i hi j hj => ?_⟩
    rw [List.length_set] at hi
    have h1 := h.1
    rw [Array.getElem?_setIfInBounds, List.getElem_set]
    by_cases hik : k = i
    · subst hik
      rw [if_pos rfl]
      by_cases hj1 : j = 1
      · subst hj1
        rw [if_pos rfl, if_pos (by omega)]
        rfl
      · rw [if_neg (by omega), hc k hi j hj, hke]
        rcases j with _ | _ | _ | j
        · rfl
        · omega
        · rfl
        · omega
    · rw [if_neg (by omega), if_neg hik, hc i hi j hj]
end Go.Proofs.Ytegcbdfilkecpaa
/- The reference's disk: Restart, on the plain state; condition: fewer than 2^39 files and changes. -/
namespace Go.Proofs.Ytegcbdfilkecpaa
open Go.RowKit

def RsRel (w : World) (s0 : Nat) (p : Pl) (chs : List Int) (v6 : Value) (wr : World) : Prop :=
  ∃ (k : Nat) (dk : Rd) (pk : Pl), v6 = .int .i64 (k : Int) ∧ k ≤ p.pd.length ∧ k ≤ chs.length ∧ Blk wr s0 56 (rdC dk p) ∧ Rf wr dk pk ∧ (pk.down = p.down ∧ pk.room = p.room ∧ pk.steps = p.steps ∧ pk.crash = p.crash ∧ pk.starts = p.starts) ∧ pk.pd = p.pd ∧
    p.survive p.pd chs = pk.survive (p.pd.drop k) (chs.drop k) ∧ pk.nf ≤ p.nf + k ∧ Blk wr (s0 + 1) 56 rdZ ∧ Kp NoB w wr
theorem infoRf3 : (Try.prog.info? 137).map (·.size) = some 3 := by kernel_rfl
def rdL (d : Rd) (p : Pl) : List Value := [.bool true, .bool p.down, .slice d.fA d.fn d.fc, .slice d.pA d.pn d.pc, .int .i64 p.room, .int .i64 p.steps, .int .i64 p.crash, .int .i64 p.starts]
theorem infoRd8 (d : Rd) (p : Pl) : (Try.prog.info? 56).map (·.size) = some (rdL d p).length := infoRd
theorem Blk.spd {w : World} {g : Nat} {t : TypeId} {d : Rd} {p : Pl} (h : Blk w g t (rdC d p)) : w.rangeAt g 0 (rdL d p) := Blk.sp (cs := rdL d p) h
theorem fil_ones (s : ByteArray) (l k : List Int) : (fileV s l k).all (·.oneCell') = true := by simp [fileV, Value.oneCell']
def RkRel (wq : World) (B : Option Addr) (fs : List Rfile) (n : Nat) (v9 : Value) (wr : World) : Prop :=
  ∃ k : Nat, v9 = .int .i64 (k : Int) ∧ k ≤ n ∧ Rows wr B n 3 ((keepK fs k).map rfCells) ∧ Kp NoB wq wr
set_option maxRecDepth 100000 in
set_option maxHeartbeats 1600000 in
theorem restart_okR (w : World) (d : Rd) (p : Pl) (C : Option Addr) (m cc : Nat) (chs : List Int) (h : Rf w d p) (hC : Nums w C m chs) (hch : ∀ y ∈ chs, -9223372036854775808 ≤ y ∧ y ≤ 9223372036854775807) (hm : m ≤ 9223372036854775807) (hnf : p.nf < 549755813888) (hpd : p.pd.length < 549755813888) :
    Calls Try.prog 77 #[rdV d p, .slice C m cc] w fun e w' => ∃ d', e = .returned (.tuple #[rdV d' (p.restart chs), .int .i64 p.restartE]) ∧ Rf w' d' (p.restart chs) ∧ Kp NoB w w' := by
  have H := Lib.hid h
  have HC := Lib.hid hC
  have HCH := Lib.hid hch
  have HM := Lib.hid hm
  have HNF := Lib.hid hnf
  have HPD := Lib.hid hpd
  have hb0 : Blk ((w.alloc (.cells (rdC d p) 56)).alloc (.cells rdZ 56)) w.heap.size 56 (rdC d p) := (Blk.new w _ _).alloc _
  have hb2 : Blk ((w.alloc (.cells (rdC d p) 56)).alloc (.cells rdZ 56)) (w.heap.size + 1) 56 rdZ := Blk.top (by simp)
  have hk : Kp NoB w ((w.alloc (.cells (rdC d p) 56)).alloc (.cells rdZ 56)) := ((Kp.refl NoB w).alloc _).alloc _
  clear h hC hch hm hnf hpd
  by_cases hd : p.down = true
  · have HD := Lib.hid hd
    have hT : Hid (p.restart chs = { p.survive p.pd chs with seen := (p.survive p.pd chs).kept, sum := (p.survive p.pd chs).ksum, pd := [], steps := 0, crash := 0, down := false, starts := wrp (p.starts + 1) } ∧ p.restartE = 0) := Lib.hid (by unfold Pl.restart Pl.restartE; rw [hd]; exact ⟨rfl, rfl⟩)
    have hcl : chs.length = m := HC.out.1
    have HCL := Lib.hid hcl
    clear hcl
    rw [hT.out.1, hT.out.2]
    obtain ⟨q, hq⟩ : ∃ q, p.survive p.pd chs = q := ⟨_, rfl⟩
    have HQ := Lib.hid hq
    rw [hq]
    clear hq hT
    unfold rdV
    go_enter Try.func77, Try.ntmps77
    clear hd
    go_upto_region 1 with fail
    unfold rdC rdZ at hb0 hb2 hk
    generalize (w.alloc (.cells #[.bool true, .bool p.down, .slice d.fA d.fn d.fc, .slice d.pA d.pn d.pc, .int .i64 p.room, .int .i64 p.steps, .int .i64 p.crash, .int .i64 p.starts] 56)).alloc (.cells #[.bool false, .bool false, .slice none 0 0, .slice none 0 0, .int .i64 0, .int .i64 0, .int .i64 0, .int .i64 0] 56) = w2 at hb0 hb2 hk ⊢
    generalize hs0 : w.heap.size = s0 at hb0 hb2 ⊢
    have HS0 := Lib.hid hs0
    have HB0 : Hid (Blk w2 s0 56 (rdC d p)) := Lib.hid hb0
    have HB2 : Hid (Blk w2 (s0 + 1) 56 rdZ) := Lib.hid hb2
    have HK := Lib.hid hk
    clear hs0 hb0 hb2 hk
    have hl0 := HB0.out.lt
    have hl2 := HB2.out.lt
    obtain ⟨c0, c1, c2, c3, c4, c5, c6, c7⟩ := HB0.out.rdc
    obtain ⟨y0, y1, y2, y3, y4, y5, y6, y7⟩ := HB2.out.c8
    obtain ⟨z0, z1, z2, z3, z4, z5, z6, z7⟩ := HB2.out.z8
    rw [HD.out] at c1
    go_upto_region 6 with fail
    go_loopw [6, 7] (fun v6 v7 wr => RsRel w s0 p chs v6 wr) (fun v _ _ => p.pd.length - (intOf v).toNat)
    case atStart => exact ⟨0, d, p, rfl, Nat.zero_le _, Nat.zero_le _, HB0.out, H.out.keep HK.out, ⟨rfl, rfl, rfl, rfl, rfl⟩, rfl, rfl, Nat.le_refl _, HB2.out, HK.out⟩
    case round =>
      obtain ⟨wq, rfl⟩ : ∃ wq, wq = wr := ⟨_, rfl⟩
      obtain ⟨k, dk, pk, rfl, hk1, hk2, hb0, hr, hnum, hpk, hsv, hnk, hb2, hkp⟩ := hrel
      clear HB0 HB2 HK c0 c1 c2 c3 c4 c5 c6 c7 y0 y1 y2 y3 y4 y5 y6 y7 z0 z1 z2 z3 z4 z5 z6 z7 hl0 hl2
      have HB0 := Lib.hid hb0
      have HB2 := Lib.hid hb2
      have HK := Lib.hid hkp
      have HR := Lib.hid hr
      have HNUM := Lib.hid hnum
      have HPK := Lib.hid hpk
      have HSV := Lib.hid hsv
      have HNK := Lib.hid hnk
      have HK1 := Lib.hid hk1
      have HK2 := Lib.hid hk2
      have HPN : Hid (Rows wq dk.pA dk.pn 4 (p.pd.map rcCells)) := Lib.hid (by rw [← hpk]; exact hr.pend)
      have hpl : p.pd.length = dk.pn := by rw [← hpk]; exact hr.pl
      have HPL := Lib.hid hpl
      clear hb0 hb2 hkp hr hnum hpk hsv hnk
      have hl0 := HB0.out.lt
      have hl2 := HB2.out.lt
      obtain ⟨c0, c1, c2, c3, c4, c5, c6, c7⟩ := HB0.out.rdc
      obtain ⟨y0, y1, y2, y3, y4, y5, y6, y7⟩ := HB2.out.c8
      obtain ⟨z0, z1, z2, z3, z4, z5, z6, z7⟩ := HB2.out.z8
      obtain ⟨pA, hpA⟩ : ∃ x, dk.pA = x := ⟨_, rfl⟩
      obtain ⟨pn, hpn⟩ : ∃ x, dk.pn = x := ⟨_, rfl⟩
      obtain ⟨pc, hpc⟩ : ∃ x, dk.pc = x := ⟨_, rfl⟩
      have HPA := Lib.hid hpA
      have HPNN := Lib.hid hpn
      have HPC := Lib.hid hpc
      rw [hpA, hpn, hpc] at c3
      rw [hpA, hpn] at HPN
      rw [hpn] at HPL hpl
      clear hpA hpn hpc
      by_cases hlt : k < p.pd.length ∧ k < m
      · have hkk : (k : Int) < (pn : Int) := by omega
        have hkm : (k : Int) < (m : Int) := by omega
        have hpn63 : pn ≤ 9223372036854775807 := by have := HPD.out; omega
        have hm63 := HM.out
        obtain ⟨x, hx⟩ : ∃ x, p.pd[k]'hlt.1 = x := ⟨_, rfl⟩
        have hxk : p.pd[k]? = some x := by rw [List.getElem?_eq_getElem hlt.1, hx]
        obtain ⟨g, o, hpg, hg, hc⟩ := HPN.out.cell (k := k) (x := rcCells x) (by rw [List.getElem?_map, hxk]; rfl)
        subst hpg
        have q0 := hc 0 _ rfl
        have q1 := hc 1 _ rfl
        have q2 := hc 2 _ rfl
        have q3 := hc 3 _ rfl
        rw [Nat.add_zero] at q0
        have HXK := Lib.hid hxk
        have HG := Lib.hid hg
        obtain ⟨gc, oc, hC0, hgc, hcc⟩ := HC.out.2 (by omega)
        subst hC0
        obtain ⟨ch, hch⟩ : ∃ ch, chs.getD k 0 = ch := ⟨_, rfl⟩
        have hkc : k < chs.length := by have := HCL.out; omega
        have HCHK : Hid (chs[k]? = some ch) := Lib.hid (by rw [← hch, List.getD_eq_getElem?_getD, List.getElem?_eq_getElem hkc]; rfl)
        have HCR : Hid (-9223372036854775808 ≤ ch ∧ ch ≤ 9223372036854775807) := Lib.hid (HCH.out ch (List.mem_of_getElem? HCHK.out))
        have HCC : Hid (∀ V, Kp NoB w V → V.cell? ⟨gc, oc + k, none⟩ = some (.int .i64 ch)) := Lib.hid (fun V q => by rw [← hch]; exact (q.cell hgc (fun z => z)).trans (hcc k (by omega)))
        have HGC := Lib.hid hgc
        clear hcc hch hgc hkc
        have HS3 : Hid (∀ V, Kp NoB wq V → V.cell? ⟨s0, 3, none⟩ = some (.slice (some ⟨g, o, none⟩) pn pc)) := Lib.hid (fun V q => (q.cell hl0 (fun z => z)).trans c3)
        have HQ0 : Hid (∀ V, Kp NoB wq V → V.cell? ⟨g, o + k * 4, none⟩ = some (.string x.nm)) := Lib.hid (fun V q => (q.cell hg (fun z => z)).trans q0)
        have HQL : Hid (∀ V, Kp NoB wq V → V.rangeAt g (o + k * 4) (rcCells x)) := Lib.hid (fun V q j u hj => (q.cell hg (fun z => z)).trans (hc j u hj))
        have HCL9 : Hid (∀ V, Kp NoB wq V → Calls Try.prog 127 #[rdV dk p, .string x.nm] V fun e w' => e = .returned (.agg (fileV x.nm (pk.seen x.nm) (pk.kept x.nm))) ∧ Kp NoB V w') := Lib.hid (fun V q => by
          have hrv : rdV dk pk = rdV dk p := by unfold rdV; rw [HNUM.out.1, HNUM.out.2.1, HNUM.out.2.2.1, HNUM.out.2.2.2.1, HNUM.out.2.2.2.2]
          rw [← hrv]
          exact file_ok V dk pk x.nm (HR.out.keep q) (by have := HNK.out; have := HNF.out; have := HPD.out; have := HK1.out; omega))
        clear hx hxk hc
        go_upto_region 8 with fail
        apply wp_into (G := fun V f => Blk V f 137 (fileV x.nm (pk.seen x.nm) (pk.kept x.nm)) ∧ Kp NoB wq V ∧ wq.heap.size ≤ f)
        · refine wp_region_held_drew (S := fun V => Kp NoB wq V) (by kernel_rfl) (Kp.refl NoB wq).drew (fun hHeld => ?_)
          have k0 : Kp NoB wq wq.drew := (Kp.refl NoB wq).drew
          have hs0' : wq.heap.size ≤ wq.drew.heap.size := Nat.le_refl _
          generalize wq.drew = V0 at k0 hHeld hs0' ⊢
          have huw := Try.underlying56
          have hiw := infoRd8 dk p
          refine tkS (i := 0) (v := .agg ((rdL dk p)).toArray) rfl (yieldsIf_load_mid (by rfl) _ _ rfl _ _ rfl (rdL dk p) _ (fun V q => (HB0.out.keep q (fun z => z)).spd) huw rfl hiw) k0 ?_
          simp only [Act.put, skA, skB, skC]
          refine tkS (i := 1) (v := (.pointer (some ⟨s0, 3, none⟩))) rfl (Or.inl ⟨by rfl, fun w' hq => by go_simp⟩) k0 ?_
          simp only [Act.put, skA, skB, skC]
          refine tkS (i := 2) (v := (.slice (some ⟨g, o, none⟩) pn pc)) rfl (Or.inl ⟨by rfl, fun w' hq => by (have := HS3.out w' hq); go_simp⟩) k0 ?_
          simp only [Act.put, skA, skB, skC]
          refine tkS (i := 3) (v := (.int .i64 (k : Int))) rfl (Or.inl ⟨by rfl, fun w' hq => by go_simp⟩) k0 ?_
          simp only [Act.put, skA, skB, skC]
          refine tkS (i := 4) (v := (.pointer (some ⟨g, o + k * 4, none⟩))) rfl (Or.inl ⟨by rfl, fun w' hq => by go_simp⟩) k0 ?_
          simp only [Act.put, skA, skB, skC]
          refine tkS (i := 5) (v := (.pointer (some ⟨g, o + k * 4, none⟩))) rfl (Or.inl ⟨by rfl, fun w' hq => by go_simp⟩) k0 ?_
          simp only [Act.put, skA, skB, skC]
          refine tkS (i := 6) (v := (.string x.nm)) rfl (Or.inl ⟨by rfl, fun w' hq => by (have := HQ0.out w' hq); go_simp⟩) k0 ?_
          simp only [Act.put, skA, skB, skC]
          have hhz : ∀ V : World, Blk (V.alloc (.cells #[.string ⟨#[]⟩, .string ⟨#[]⟩, .string ⟨#[]⟩] 137)) V.heap.size 137 #[.string ⟨#[]⟩, .string ⟨#[]⟩, .string ⟨#[]⟩] := fun V => Blk.new V _ _
          refine wpAnyH_ready (rs := [7, 8]) (by kernel_rfl) (by simp) ?_
          refine AllReadyH.callR (fun y W' => y = .agg (fileV x.nm (pk.seen x.nm) (pk.kept x.nm)) ∧ Kp NoB wq W') rfl (by rfl) 127 #[rdV dk p, .string x.nm] (by first | (go_simp; done) | (go_simp; rfl)) (fun _ _ q => q.2) ((HCL9.out V0 k0).mono (by rintro e w' ⟨rfl, hk⟩; exact ⟨_, rfl, rfl, k0.trans hk (fun _ _ q => q)⟩)) ?_ ?_
          · rintro y V1 ⟨rfl, k1⟩
            simp only [Act.put, skA, skB, skC]
            refine wpAnyH_ready (rs := [8]) (by kernel_rfl) (by simp) ?_
            refine AllReadyH.valR (fun W' => W' = V1.alloc (.cells #[.string ⟨#[]⟩, .string ⟨#[]⟩, .string ⟨#[]⟩] 137)) rfl (by rfl) (.pointer (some ⟨V1.heap.size, 0, none⟩)) _ (by go_simp) (fun W' e => by rw [e]; exact k1.alloc _) rfl ?_ AllReadyH.nil
            rintro _ rfl
            simp only [Act.put, skA, skB, skC]
            have hbz := hhz V1
            have kz1 : Kp NoB wq ((V1.alloc (.cells #[.string ⟨#[]⟩, .string ⟨#[]⟩, .string ⟨#[]⟩] 137)).setCells V1.heap.size 0 (fileV x.nm (pk.seen x.nm) (pk.kept x.nm)).toList) := Kp.setCells (.inl k1.size) _ _ _ (k1.alloc _)
            refine wpAnyH_ready (rs := [9]) (by kernel_rfl) (by simp) ?_
            refine AllReadyH.storeL rfl (by rfl) V1.heap.size 0 (fileV x.nm (pk.seen x.nm) (pk.kept x.nm)) rfl rfl (hbz.thereAll _ rfl) infoRf3 (fil_ones _ _ _) kz1 ?_ AllReadyH.nil
            refine wpAnyH_done (by kernel_rfl) ?_ _
            have hbw := hbz.whole (fileV x.nm (pk.seen x.nm) (pk.kept x.nm)) rfl
            have hks := k1.size
            generalize V1.heap.size = ff at hbw kz1 hks ⊢
            exact into_of ff ⟨hbw, kz1, hks⟩ rfl
          · refine AllReadyH.valR (fun W' => W' = V0.alloc (.cells #[.string ⟨#[]⟩, .string ⟨#[]⟩, .string ⟨#[]⟩] 137)) rfl (by rfl) (.pointer (some ⟨V0.heap.size, 0, none⟩)) _ (by go_simp) (fun W' e => by rw [e]; exact k0.alloc _) rfl ?_ AllReadyH.nil
            rintro _ rfl
            simp only [Act.put, skA, skB, skC]
            have hbz := hhz V0
            have ka : Kp NoB wq (V0.alloc (.cells #[.string ⟨#[]⟩, .string ⟨#[]⟩, .string ⟨#[]⟩] 137)) := k0.alloc _
            generalize V0.alloc (.cells #[.string ⟨#[]⟩, .string ⟨#[]⟩, .string ⟨#[]⟩] 137) = Va at hbz ka ⊢
            have hks := k0.size
            generalize V0.heap.size = ff at hbz hks ⊢
            refine wpAnyH_ready (rs := [7]) (by kernel_rfl) (by simp) ?_
            refine AllReadyH.callR (fun y W' => y = .agg (fileV x.nm (pk.seen x.nm) (pk.kept x.nm)) ∧ Kp NoB Va W') rfl (by rfl) 127 #[rdV dk p, .string x.nm] (by first | (go_simp; done) | (go_simp; rfl)) (fun _ _ q => ka.trans q.2 (fun _ _ q => q)) ((HCL9.out Va ka).mono (by rintro e w' ⟨rfl, hk⟩; exact ⟨_, rfl, rfl, hk⟩)) ?_ AllReadyH.nil
            rintro y V1 ⟨rfl, k1⟩
            simp only [Act.put, skA, skB, skC]
            have hbz1 := hbz.keep k1 (fun q => q)
            have kz1 : Kp NoB wq (V1.setCells ff 0 (fileV x.nm (pk.seen x.nm) (pk.kept x.nm)).toList) := Kp.setCells (.inl hks) _ _ _ (ka.trans k1 (fun _ _ q => q))
            refine wpAnyH_ready (rs := [9]) (by kernel_rfl) (by simp) ?_
            refine AllReadyH.storeL rfl (by rfl) ff 0 (fileV x.nm (pk.seen x.nm) (pk.kept x.nm)) rfl rfl (hbz1.thereAll _ rfl) infoRf3 (fil_ones _ _ _) kz1 ?_ AllReadyH.nil
            refine wpAnyH_done (by kernel_rfl) ?_ _
            have hbw := hbz1.whole (fileV x.nm (pk.seen x.nm) (pk.kept x.nm)) rfl
            exact into_of ff ⟨hbw, kz1, hks⟩ rfl
        · rintro ff V ⟨hbf, hkV, hff⟩
          have HFF := Lib.hid hff
          have HF := Lib.hid hbf
          have HKV := Lib.hid hkV
          have hwq : w.heap.size ≤ wq.heap.size := HK.out.size
          have h0f : s0 ≠ ff := by omega
          have h2f : s0 + 1 ≠ ff := by omega
          have hgf : g ≠ ff := by have := HG.out; omega
          have hcf : gc ≠ ff := by have := HGC.out; omega
          have HNE := Lib.hid (show s0 ≠ ff ∧ s0 + 1 ≠ ff ∧ g ≠ ff ∧ gc ≠ ff from ⟨h0f, h2f, hgf, hcf⟩)
          have hlg : g < V.heap.size := Nat.lt_of_lt_of_le HG.out hkV.size
          have hlgc : gc < V.heap.size := Nat.lt_of_lt_of_le HGC.out (Nat.le_trans hwq hkV.size)
          have HS3' : Hid (∀ W, Kp (OnB ff) V W → W.cell? ⟨s0, 3, none⟩ = some (.slice (some ⟨g, o, none⟩) pn pc)) := Lib.hid (fun W q => (q.cell (Nat.lt_of_lt_of_le hl0 hkV.size) h0f).trans (HS3.out V hkV))
          have HQL' : Hid (∀ W, Kp (OnB ff) V W → W.rangeAt g (o + k * 4) (rcCells x)) := Lib.hid (fun W q j u hj => (q.cell hlg hgf).trans (HQL.out V hkV j u hj))
          have HCC' : Hid (∀ W, Kp (OnB ff) V W → W.cell? ⟨gc, oc + k, none⟩ = some (.int .i64 ch)) := Lib.hid (fun W q => (q.cell hlgc hcf).trans (HCC.out V (HK.out.trans hkV (fun _ _ q => q))))
          obtain ⟨kp, hkp9⟩ : ∃ kp, pk.kept x.nm = kp := ⟨_, rfl⟩
          obtain ⟨nk, hnk⟩ : ∃ nk, Pl.made kp x ch = nk := ⟨_, rfl⟩
          have hcg : CgOk x := HR.out.cok x (by rw [HPK.out]; exact List.mem_of_getElem? HXK.out)
          have HCG := Lib.hid hcg
          have hlk := (HR.out.look x.nm).2
          rw [hkp9] at hlk HF hbf ⊢
          have HLK := Lib.hid hlk
          have HKP9 := Lib.hid hkp9
          have HNK9 := Lib.hid hnk
          have HMD : Hid (∀ W, Calls Try.prog 128 #[.string (strOf kp), .agg #[.string x.nm, .int .i64 x.sec, .int .i64 x.n, .string (strOf x.s)], .int .i64 ch] W fun e w' => e = .returned (.string (strOf nk)) ∧ Kp NoB W w') := Lib.hid (fun W => by rw [← hnk]; exact made_ok W kp x ch hlk.1 hcg HCR.out)
          have d2 : V.cell? ⟨ff, 2, none⟩ = some (.string (strOf kp)) := hbf.cell 2
          clear hbf hkV hff hwq h0f h2f hgf hcf hlg hlgc hcg hlk hkp9 hnk q0 q1 q2 q3 c0 c1 c2 c3 c4 c5 c6 c7 y0 y1 y2 y3 y4 y5 y6 y7 z0 z1 z2 z3 z4 z5 z6 z7
          go_upto_region 9 with fail
          refine wp_region_held_drew (S := fun W => Kp (OnB ff) V W) (by kernel_rfl) (Kp.refl (OnB ff) V).drew (fun hHeld => ?_)
          have k0 : Kp (OnB ff) V V.drew := (Kp.refl (OnB ff) V).drew
          have kn : Kp NoB V V.drew := (Kp.refl NoB V).drew
          have d2' : V.drew.cell? ⟨ff, 2, none⟩ = some (.string (strOf kp)) := d2
          generalize V.drew = V0 at k0 kn hHeld d2' ⊢
          have huw := Try.underlying192
          have hiw : (Try.prog.info? 192).map (·.size) = some (rcCells x).length := infoRch4
          refine tkS (i := 0) (v := (.pointer (some ⟨ff, 2, none⟩))) rfl (Or.inl ⟨by rfl, fun w' hq => by go_simp⟩) k0 ?_
          simp only [Act.put, skA, skB, skC]
          refine tkS (i := 2) (v := (.pointer (some ⟨s0, 3, none⟩))) rfl (Or.inl ⟨by rfl, fun w' hq => by go_simp⟩) k0 ?_
          simp only [Act.put, skA, skB, skC]
          refine tkS (i := 3) (v := (.slice (some ⟨g, o, none⟩) pn pc)) rfl (Or.inl ⟨by rfl, fun w' hq => by (have := HS3'.out w' hq); go_simp⟩) k0 ?_
          simp only [Act.put, skA, skB, skC]
          refine tkS (i := 4) (v := (.int .i64 (k : Int))) rfl (Or.inl ⟨by rfl, fun w' hq => by go_simp⟩) k0 ?_
          simp only [Act.put, skA, skB, skC]
          refine tkS (i := 5) (v := (.pointer (some ⟨g, o + k * 4, none⟩))) rfl (Or.inl ⟨by rfl, fun w' hq => by go_simp⟩) k0 ?_
          simp only [Act.put, skA, skB, skC]
          refine tkS (i := 6) (v := .agg ((rcCells x)).toArray) rfl (yieldsIf_load_mid (by rfl) _ _ rfl _ _ rfl (rcCells x) _ (fun W q => HQL'.out W q) huw rfl hiw) k0 ?_
          simp only [Act.put, skA, skB, skC]
          refine tkS (i := 7) (v := (.slice (some ⟨gc, oc, none⟩) m cc)) rfl (Or.inl ⟨by rfl, fun w' hq => by go_simp⟩) k0 ?_
          simp only [Act.put, skA, skB, skC]
          refine tkS (i := 8) (v := (.int .i64 (k : Int))) rfl (Or.inl ⟨by rfl, fun w' hq => by go_simp⟩) k0 ?_
          simp only [Act.put, skA, skB, skC]
          refine tkS (i := 9) (v := (.pointer (some ⟨gc, oc + k, none⟩))) rfl (Or.inl ⟨by rfl, fun w' hq => by go_simp⟩) k0 ?_
          simp only [Act.put, skA, skB, skC]
          refine tkS (i := 10) (v := (.int .i64 ch)) rfl (Or.inl ⟨by rfl, fun w' hq => by (have := HCC'.out w' hq); go_simp⟩) k0 ?_
          simp only [Act.put, skA, skB, skC]
          refine wpAnyH_ready (rs := [1]) (by kernel_rfl) (by simp) ?_
          refine AllReadyH.valR (fun W' => V0 = W') rfl (by rfl) (.string (strOf kp)) _ (by go_simp) (fun _ e => by rw [← e]; exact k0) rfl ?_ AllReadyH.nil
          rintro _ rfl
          simp only [Act.put, skA, skB, skC]
          refine wpAnyH_ready (rs := [11]) (by kernel_rfl) (by simp) ?_
          refine AllReadyH.callR (fun x W' => x = .string (strOf nk) ∧ Kp NoB V W') rfl (by rfl) 128 #[.string (strOf kp), .agg #[.string x.nm, .int .i64 x.sec, .int .i64 x.n, .string (strOf x.s)], .int .i64 ch] (by first | (go_simp; done) | (go_simp; rfl)) (fun _ _ q => q.2.mono (fun _ _ q => q.elim)) ((HMD.out V0).mono (by rintro e w' ⟨rfl, hk⟩; exact ⟨_, rfl, rfl, kn.trans hk (fun _ _ q => q)⟩)) ?_ AllReadyH.nil
          rintro y V1 ⟨rfl, k1⟩
          simp only [Act.put, skA, skB, skC]
          refine tkS (i := 12) (v := (.pointer (some ⟨ff, 2, none⟩))) rfl (Or.inl ⟨by rfl, fun w' hq => by go_simp⟩) (k1.mono (fun _ _ q => q.elim)) ?_
          simp only [Act.put, skA, skB, skC]
          have e2 : V1.cell? ⟨ff, 2, none⟩ = some (.string (strOf kp)) := (HF.out.keep k1 (fun q => q)).cell 2
          have f2 := (HF.out.keep k1 (fun q => q)).frozen 2
          refine wpAnyH_ready (rs := [13]) (by kernel_rfl) (by simp) ?_
          refine AllReadyH.skipR rfl (by rfl) (V1.setCell ⟨ff, 2, none⟩ (.string (strOf nk))) (by go_simp) ((k1.mono (S' := OnB ff) (fun _ _ q => q.elim)).setAt (g := ff) rfl 2 _) ?_ AllReadyH.nil
          refine wpAnyH_done (by kernel_rfl) ?_ _
          have hb9 : Blk (V1.setCell ⟨ff, 2, none⟩ (.string (strOf nk))) ff 137 (fileV x.nm (pk.seen x.nm) nk) := (HF.out.keep k1 (fun q => q)).set_ 2 _
          have hk9 : Kp NoB wq (V1.setCell ⟨ff, 2, none⟩ (.string (strOf nk))) := (HKV.out.trans k1 (fun _ _ q => q)).setCell (.inl HFF.out) _
          have hpres : Kp NoB wq wq := Kp.refl NoB wq
          clear hHeld k0 kn d2 d2' k1 e2 f2 hpres
          generalize V1.setCell ⟨ff, 2, none⟩ (.string (strOf nk)) = V2 at hb9 hk9 ⊢
          have HF9 := Lib.hid hb9
          have HR9 := Lib.hid (HR.out.keep hk9)
          clear hb9 hl0 hl2
          have HB0' := Lib.hid (HB0.out.keep hk9 (fun q => q))
          have HB2' := Lib.hid (HB2.out.keep hk9 (fun q => q))
          have HK' := Lib.hid (HK.out.trans hk9 (fun _ _ q => q))
          clear hk9 HB0 HB2 HK
          have HB0 := HB0'
          have HB2 := HB2'
          have HK := HK'
          clear HB0' HB2' HK'
          have hl0 := HB0.out.lt
          have hl2 := HB2.out.lt
          obtain ⟨c0, c1, c2, c3, c4, c5, c6, c7⟩ := HB0.out.rdc
          obtain ⟨y0, y1, y2, y3, y4, y5, y6, y7⟩ := HB2.out.c8
          obtain ⟨z0, z1, z2, z3, z4, z5, z6, z7⟩ := HB2.out.z8
          obtain ⟨d0, d1, d2⟩ := HF9.out.c3
          have hlV := HF9.out.lt
          have hfi := made_fine ch HLK.out.1 HLK.out.2 HCG.out
          rw [HNK9.out] at hfi
          have HFI := Lib.hid hfi
          clear hfi
          go_wp2_with fail
          have hrv : ∀ d', rdV d' pk = rdV d' p := fun d' => by unfold rdV; rw [HNUM.out.1, HNUM.out.2.1, HNUM.out.2.2.1, HNUM.out.2.2.2.1, HNUM.out.2.2.2.2]
          refine (show Calls _ _ #[rdV dk p, .agg (fileV x.nm (pk.seen x.nm) nk)] _ _ from by rw [← hrv]; exact with_ok _ dk pk ⟨x.nm, pk.seen x.nm, nk⟩ HR9.out ⟨HCG.out.nl, (HR9.out.look x.nm).1.2, HFI.out.2, (HR9.out.look x.nm).1.1, HFI.out.1⟩ (by have := HNK.out; have := HNF.out; have := HPD.out; have := HK1.out; omega)).mono ?_
          rintro e w9 ⟨d9, rfl, h9, hk9⟩
          have HRA : Hid (Rf w9 d9 (pk.at_.setKept x.nm nk)) := Lib.hid (by
            have e9 : (pk.at_.setSeen x.nm (pk.seen x.nm)).setKept x.nm nk = pk.at_.setKept x.nm nk := by rw [show pk.at_.setSeen x.nm (pk.seen x.nm) = pk.at_ from seen_same pk.at_ x.nm]
            rw [← e9]; exact h9)
          rw [hrv]
          clear h9 d0 d1 d2 hlV hrv
          have HB0' := Lib.hid (HB0.out.keep hk9 (fun q => q))
          have HB2' := Lib.hid (HB2.out.keep hk9 (fun q => q))
          have HK' := Lib.hid (HK.out.trans hk9 (fun _ _ q => q))
          clear hk9 HB0 HB2 HK
          have HB0 := HB0'
          have HB2 := HB2'
          have HK := HK'
          clear HB0' HB2' HK' c0 c1 c2 c3 c4 c5 c6 c7 y0 y1 y2 y3 y4 y5 y6 y7 z0 z1 z2 z3 z4 z5 z6 z7 hl0 hl2
          have hl0 := HB0.out.lt
          have hl2 := HB2.out.lt
          obtain ⟨c0, c1, c2, c3, c4, c5, c6, c7⟩ := HB0.out.rdc
          obtain ⟨y0, y1, y2, y3, y4, y5, y6, y7⟩ := HB2.out.c8
          obtain ⟨z0, z1, z2, z3, z4, z5, z6, z7⟩ := HB2.out.z8
          obtain ⟨x0, x1, x2, x3, x4, x5, x6, x7⟩ := HB0.out.z8
          unfold rdV
          go_upto_region 7 with fail
          clear HR
          have kz0 : w.heap.size ≤ s0 := by have := HS0.out; omega
          have hb4 : Blk (((((((((w9.setCell ⟨s0, 0, none⟩ (.bool true)).setCell ⟨s0, 1, none⟩ (.bool p.down)).setCell ⟨s0, 2, none⟩ (.slice d9.fA d9.fn d9.fc)).setCell ⟨s0, 3, none⟩ (.slice d9.pA d9.pn d9.pc)).setCell ⟨s0, 4, none⟩ (.int .i64 p.room)).setCell ⟨s0, 5, none⟩ (.int .i64 p.steps)).setCell ⟨s0, 6, none⟩ (.int .i64 p.crash)).setCell ⟨s0, 7, none⟩ (.int .i64 p.starts))) s0 56 (rdC d9 p) := blk8 HB0.out rfl
          have hq4 : Kp (OnB s0) w9 (((((((((w9.setCell ⟨s0, 0, none⟩ (.bool true)).setCell ⟨s0, 1, none⟩ (.bool p.down)).setCell ⟨s0, 2, none⟩ (.slice d9.fA d9.fn d9.fc)).setCell ⟨s0, 3, none⟩ (.slice d9.pA d9.pn d9.pc)).setCell ⟨s0, 4, none⟩ (.int .i64 p.room)).setCell ⟨s0, 5, none⟩ (.int .i64 p.steps)).setCell ⟨s0, 6, none⟩ (.int .i64 p.crash)).setCell ⟨s0, 7, none⟩ (.int .i64 p.starts))) := kp8 (Kp.refl _ w9) (.inr rfl)
          have hr4 : Rf (((((((((w9.setCell ⟨s0, 0, none⟩ (.bool true)).setCell ⟨s0, 1, none⟩ (.bool p.down)).setCell ⟨s0, 2, none⟩ (.slice d9.fA d9.fn d9.fc)).setCell ⟨s0, 3, none⟩ (.slice d9.pA d9.pn d9.pc)).setCell ⟨s0, 4, none⟩ (.int .i64 p.room)).setCell ⟨s0, 5, none⟩ (.int .i64 p.steps)).setCell ⟨s0, 6, none⟩ (.int .i64 p.crash)).setCell ⟨s0, 7, none⟩ (.int .i64 p.starts))) d9 (pk.at_.setKept x.nm nk) := (HRA.out).keepB hq4 HB0.out (rdC_str _ _)
          have hz4 : Blk (((((((((w9.setCell ⟨s0, 0, none⟩ (.bool true)).setCell ⟨s0, 1, none⟩ (.bool p.down)).setCell ⟨s0, 2, none⟩ (.slice d9.fA d9.fn d9.fc)).setCell ⟨s0, 3, none⟩ (.slice d9.pA d9.pn d9.pc)).setCell ⟨s0, 4, none⟩ (.int .i64 p.room)).setCell ⟨s0, 5, none⟩ (.int .i64 p.steps)).setCell ⟨s0, 6, none⟩ (.int .i64 p.crash)).setCell ⟨s0, 7, none⟩ (.int .i64 p.starts))) (s0 + 1) 56 rdZ := HB2.out.keep hq4 (fun q => by have q' : s0 + 1 = s0 := q; omega)
          have hw4 : Kp NoB w (((((((((w9.setCell ⟨s0, 0, none⟩ (.bool true)).setCell ⟨s0, 1, none⟩ (.bool p.down)).setCell ⟨s0, 2, none⟩ (.slice d9.fA d9.fn d9.fc)).setCell ⟨s0, 3, none⟩ (.slice d9.pA d9.pn d9.pc)).setCell ⟨s0, 4, none⟩ (.int .i64 p.room)).setCell ⟨s0, 5, none⟩ (.int .i64 p.steps)).setCell ⟨s0, 6, none⟩ (.int .i64 p.crash)).setCell ⟨s0, 7, none⟩ (.int .i64 p.starts))) := kp8 HK.out (.inl kz0)
          clear hq4 HB0 HB2 HK
          generalize ((((((((w9.setCell ⟨s0, 0, none⟩ (.bool true)).setCell ⟨s0, 1, none⟩ (.bool p.down)).setCell ⟨s0, 2, none⟩ (.slice d9.fA d9.fn d9.fc)).setCell ⟨s0, 3, none⟩ (.slice d9.pA d9.pn d9.pc)).setCell ⟨s0, 4, none⟩ (.int .i64 p.room)).setCell ⟨s0, 5, none⟩ (.int .i64 p.steps)).setCell ⟨s0, 6, none⟩ (.int .i64 p.crash)).setCell ⟨s0, 7, none⟩ (.int .i64 p.starts)) = w10 at hb4 hr4 hz4 hw4 ⊢
          have HB0 := Lib.hid hb4
          have HB2 := Lib.hid hz4
          have HK := Lib.hid hw4
          have HR := Lib.hid hr4
          clear hb4 hz4 hw4 hr4 c0 c1 c2 c3 c4 c5 c6 c7 y0 y1 y2 y3 y4 y5 y6 y7 z0 z1 z2 z3 z4 z5 z6 z7 hl0 hl2 kz0
          have hl0 := HB0.out.lt
          have hl2 := HB2.out.lt
          obtain ⟨c0, c1, c2, c3, c4, c5, c6, c7⟩ := HB0.out.rdc
          obtain ⟨y0, y1, y2, y3, y4, y5, y6, y7⟩ := HB2.out.c8
          obtain ⟨z0, z1, z2, z3, z4, z5, z6, z7⟩ := HB2.out.z8
          have E9 := Lib.hid (show RsRel w s0 p chs (.int .i64 ((k + 1 : Nat) : Int)) w10 from ⟨k + 1, d9, pk.at_.setKept x.nm nk, rfl, by omega, by have := HCL.out; omega, HB0.out, HR.out, HNUM.out, HPK.out, by
            rw [HSV.out, List.drop_eq_getElem_cons hlt.1, List.drop_eq_getElem_cons (show k < chs.length by have := HCL.out; omega)]
            have e1 : p.pd[k]'hlt.1 = x := by have := HXK.out; rw [List.getElem?_eq_getElem hlt.1] at this; injection this
            have e2 : chs[k]'(by have := HCL.out; omega) = ch := by have := HCHK.out; rw [List.getElem?_eq_getElem (by have := HCL.out; omega)] at this; injection this
            rw [e1, e2, survive_cons, HKP9.out, HNK9.out], by show pk.nf + 1 ≤ _; have := HNK.out; omega, HB2.out, HK.out⟩)
          have hk63 : k < 9223372036854775807 := by have := HPD.out; omega
          go_wp2_with fail
          go_roundw
          case rel => exact E9.out
          case measure => simp [intOf]; omega
      · have hfin : p.survive p.pd chs = pk := by
          rw [HSV.out]
          refine survive_stop pk _ _ ?_
          rcases (show p.pd.length ≤ k ∨ chs.length ≤ k by have := HCL.out; omega) with z | z
          · exact .inl (List.drop_eq_nil_of_le z)
          · exact .inr (List.drop_eq_nil_of_le z)
        have HQP : Hid (q = pk) := Lib.hid (HQ.out.symm.trans hfin)
        have hx : ¬ (k : Int) < (pn : Int) ∨ ((k : Int) < (pn : Int) ∧ ¬ (k : Int) < (m : Int)) := by omega
        have HFI : Hid (Rows wq dk.fA dk.fn 3 (dk.fs.map rfCells) ∧ (dk.fA = none → dk.fn = 0 ∧ dk.fc = 0) ∧ dk.fs.length = dk.fn ∧ dk.fn < 1099511627776) := Lib.hid ⟨HR.out.files, HR.out.fnil, HR.out.fl, by have := HR.out.nf; have := HNK.out; have := HNF.out; have := HPD.out; have := HK1.out; omega⟩
        have HFJ : Hid (dk.fn ≤ pk.nf ∧ pk.kept = keptR dk.fs ∧ pk.ksum = ksumR dk.fs ∧ (∀ f ∈ dk.fs, RfOk f) ∧ dk.fs.Pairwise fun x y => x.nm ≠ y.nm) := Lib.hid ⟨HR.out.nf, HR.out.kept, HR.out.ksum, HR.out.fok, HR.out.names⟩
        obtain ⟨fs, hfs⟩ : ∃ x, dk.fs = x := ⟨_, rfl⟩
        obtain ⟨fA, hfA⟩ : ∃ x, dk.fA = x := ⟨_, rfl⟩
        obtain ⟨fn, hfn⟩ : ∃ x, dk.fn = x := ⟨_, rfl⟩
        obtain ⟨fc, hfc⟩ : ∃ x, dk.fc = x := ⟨_, rfl⟩
        have HFS := Lib.hid hfs
        rw [hfA, hfn, hfc] at c2
        rw [hfA, hfn, hfc, hfs] at HFI
        rw [hfn, hfs] at HFJ
        have hfn63 : fn < 1099511627776 := HFI.out.2.2.2
        have HFN := Lib.hid hfn63
        clear hfin hfs hfA hfn hfc hlt hfn63
        obtain ⟨j0, hj0, hj1⟩ := Option.map_eq_some_iff.1 infoRfile
        simp only [Prod.mk.injEq] at hj1
        have HJ0 := Lib.hid hj0
        have HY0 := Lib.hid hj1.1
        have HY1 := Lib.hid hj1.2.1
        have HY2 := Lib.hid hj1.2.2
        clear hj0 hj1
        have HOWN : Hid ((wq.alloc (.cells #[] 137)).ownsRow wq.heap.size 137 3 (.slice (some ⟨wq.heap.size, 0, none⟩) 0 0) 0 []) := Lib.hid ⟨rfl, .inr ⟨wq.heap.size, 0, #[], rfl, Nat.le_refl _, heap_alloc_new _ _, Nat.le_refl _, by simp, rfl, rfl⟩⟩
        rcases hx with hx | ⟨hx1, hx⟩
        all_goals
          go_upto_region 12 with (at_builtin; refine wpList_append_srcN rfl _ _ 53 rfl wq.heap.size 137 j0 _ 3 48 Try.underlying53 HJ0.out HY0.out HY1.out HY2.out rfl (by omega) _ 0 [] rfl HOWN.out fA fn fc (fs.map rfCells).flatten rfl HFI.out.2.1 (by rw [flat_len 3 _ (rf_len fs), List.length_map, HFI.out.2.2.1]) (fun hn => (HFI.out.1.keep ((Kp.refl NoB wq).alloc _)).src hn (by omega)) (rf_one fs) (by have := HFN.out; unfold maxLen; omega) (by have := HFN.out; omega) (by simp) ?_; intro v1 w1 hown1 hgrow1; rw [Nat.zero_add, List.nil_append] at hown1; have HO1 := Lib.hid hown1; have hk1 := (((Kp.refl NoB wq).alloc _).own (v := .slice (some ⟨wq.heap.size, 0, none⟩) 0 0) hgrow1 rfl HOWN.out); have HKA := Lib.hid hk1; obtain ⟨B, cb, rfl⟩ := own_slice hown1; clear hown1 hgrow1 hk1)
          have HBG : Hid (∀ g o, B = some ⟨g, o, none⟩ → wq.heap.size ≤ g) := Lib.hid (fun g o e => own_ge HO1.out g (by rw [e]; rfl))
          have HRW : Hid (Rows w1 B fn 3 (fs.map rfCells)) := Lib.hid (Rows.own (base := wq.heap.size) (e := 137) (cap := cb) HO1.out (by rw [List.length_map]; exact HFI.out.2.2.1) (rf_len _))
          have HBN : Hid (B = none → fn = 0 ∧ cb = 0) := Lib.hid (own_nil HO1.out)
          clear c0 c1 c2 c3 c4 c5 c6 c7 y0 y1 y2 y3 y4 y5 y6 y7 z0 z1 z2 z3 z4 z5 z6 z7 hl0 hl2
          go_wp2_with fail
          go_loopw [9] (fun v9 wr => RkRel wq B fs fn v9 wr) (fun v _ => fn - (intOf v).toNat)
          case atStart => exact ⟨0, rfl, Nat.zero_le _, by rw [keepK_zero]; exact HRW.out, HKA.out⟩
          case round =>
            obtain ⟨wz, rfl⟩ : ∃ wz, wz = wr := ⟨_, rfl⟩
            obtain ⟨i, rfl, hi, hrw, hkz⟩ := hrel
            have HRZ := Lib.hid hrw
            have HKZ := Lib.hid hkz
            by_cases hlt2 : i < fn
            · have hil : i < fs.length := by have := HFI.out.2.2.1; omega
              obtain ⟨f, hf⟩ : ∃ f, fs[i] = f := ⟨_, rfl⟩
              have hfi : fs[i]? = some f := by rw [List.getElem?_eq_getElem hil, hf]
              obtain ⟨e1, e2⟩ := keepK_at hfi
              have e3 : ((keepK fs i).map rfCells)[i]? = some [.string f.nm, .string (strOf f.seen), .string (strOf f.kept)] := by rw [List.getElem?_map, e1]; rfl
              obtain ⟨g, o, rfl, hg, hc⟩ := hrw.cell e3
              have q1 : wz.cell? ⟨g, o + i * 3 + 1, none⟩ = some (.string (strOf f.seen)) := hc 1 _ rfl
              have q2 : wz.cell? ⟨g, o + i * 3 + 2, none⟩ = some (.string (strOf f.kept)) := hc 2 _ rfl
              obtain ⟨g', o', t', cs', e', hb', _, _⟩ := hrw.2.2 (by omega)
              injection e' with e'
              injection e' with e4 e5
              subst e4 e5
              have f1 := hb'.frozen (o + i * 3 + 1)
              have hii : (i : Int) < (fn : Int) := by omega
              have hfn63 : fn ≤ 9223372036854775807 := by have := HFN.out; omega
              have HS1 : Hid (Rows (wz.setCell ⟨g, o + i * 3 + 1, none⟩ (.string (strOf f.kept))) (some ⟨g, o, none⟩) fn 3 ((keepK fs (i + 1)).map rfCells)) := Lib.hid (by
                have h9 := hrw.set1 (v := .string (strOf f.kept)) e3
                rw [e2, List.map_set]
                exact h9)
              have HK9 : Hid (Kp NoB wq (wz.setCell ⟨g, o + i * 3 + 1, none⟩ (.string (strOf f.kept)))) := Lib.hid (hkz.setCell (.inl (HBG.out g o rfl)) _)
              clear hf hfi e1 e2 e3 hc hrw hkz hb' hil
              go_wp2_with fail
              go_roundw
              case rel => exact ⟨i + 1, by go_num, by omega, HS1.out, HK9.out⟩
              case measure => simp [intOf]; omega
            · have hii : ¬ (i : Int) < (fn : Int) := by omega
              have hie : i = fn := by omega
              have HRE : Hid (Rows wz B fn 3 ((fs.map keepF).map rfCells)) := Lib.hid (by rw [← keepK_all fs (k := i) (by have := HFI.out.2.2.1; omega)]; exact hrw)
              clear hrw hie
              have hb0 := HB0.out.keep hkz (fun q => q)
              have hb2 := HB2.out.keep hkz (fun q => q)
              have HX0 := Lib.hid hb0
              have HX2 := Lib.hid hb2
              clear hkz
              obtain ⟨c0, c1, c2, c3, c4, c5, c6, c7⟩ := hb0.rdc
              obtain ⟨y0, y1, y2, y3, y4, y5, y6, y7⟩ := hb2.c8
              obtain ⟨z0, z1, z2, z3, z4, z5, z6, z7⟩ := hb2.z8
              have hws : IntKind.i64.wrap (p.starts + 1) = wrp (p.starts + 1) := rfl
              clear hb0 hb2
              go_wp2_with fail
              have kzz : w.heap.size ≤ s0 + 1 := by have := HS0.out; omega
              have hkq : Kp (OnB (s0 + 1)) wz ((((((((wz.setCell ⟨s0 + 1, 0, none⟩ (.bool true)).setCell ⟨s0 + 1, 1, none⟩ (.bool false)).setCell ⟨s0 + 1, 2, none⟩ (.slice B fn cb)).setCell ⟨s0 + 1, 3, none⟩ (.slice none 0 0)).setCell ⟨s0 + 1, 4, none⟩ (.int .i64 p.room)).setCell ⟨s0 + 1, 5, none⟩ (.int .i64 0)).setCell ⟨s0 + 1, 6, none⟩ (.int .i64 0)).setCell ⟨s0 + 1, 7, none⟩ (.int .i64 (wrp (p.starts + 1)))) := kp8 (Kp.refl _ wz) (.inr rfl)
              refine bodyPost_ret (ret_cell_tmp rfl _ _ _ _ _ _ rfl (blk8 HX2.out rfl) Try.underlying56 rfl (by exact infoRd) _ rfl) rfl ⟨⟨B, fn, cb, fs.map keepF, none, 0, 0⟩, by rw [HQP.out, HNUM.out.2.1]; rfl, ?_, kp8 (HK.out.trans HKZ.out (fun _ _ q => q)) (.inl kzz)⟩
              obtain ⟨j1, j2, j3, j4, j5⟩ := HFJ.out
              have hst := H.out.starts
              rw [HQP.out]
              exact
                { files := HRE.out.keepB (by omega) (rf_str _) hkq HX2.out rdZ_str
                  pend := ⟨rfl, by simp, fun h => absurd h (Nat.lt_irrefl 0)⟩
                  fnil := HBN.out
                  pnil := fun _ => ⟨rfl, rfl⟩
                  fok := ok_keep j4
                  cok := fun c hc => by cases hc
                  names := names_keep j5
                  seen := by show pk.kept = seenR (fs.map keepF); rw [seen_keep, j2]
                  kept := by show pk.kept = keptR (fs.map keepF); rw [kept_keep, j2]
                  sum := by show pk.ksum = sumR (fs.map keepF); rw [(sum_keep fs).1, j3]
                  ksum := by show pk.ksum = ksumR (fs.map keepF); rw [(sum_keep fs).2, j3]
                  nf := j1
                  room := HR.out.room
                  steps := by show -9223372036854775808 ≤ (0 : Int) ∧ (0 : Int) ≤ 9223372036854775807; omega
                  crash := by show (0 : Int) ≤ 0 ∧ (0 : Int) ≤ 9223372036854775807; omega
                  starts := by
                    show -9223372036854775808 ≤ wrp (p.starts + 1) ∧ wrp (p.starts + 1) ≤ 9223372036854775807
                    unfold wrp
                    rw [IntKind.wrap_i64]
                    omega }
  · have hd' : p.down = false := by simpa using hd
    have hT : Hid (p.restart chs = p ∧ p.restartE = 4) := Lib.hid (by unfold Pl.restart Pl.restartE; rw [hd']; exact ⟨rfl, rfl⟩)
    have HD := Lib.hid hd'
    clear hd
    rw [hT.out.1, hT.out.2]
    unfold rdV
    go_enter Try.func77, Try.ntmps77
    go_wp2_with fail
    refine bodyPost_ret (ret_cell_tmp rfl _ _ _ _ _ _ rfl (Blk.top (by simp)) Try.underlying56 rfl (by exact infoRd) _ rfl) rfl ⟨d, by rw [HD.out]; rfl, H.out.keep (((Kp.refl NoB w).alloc _).alloc _), ((Kp.refl NoB w).alloc _).alloc _⟩
end Go.Proofs.Ytegcbdfilkecpaa
/- What keeps the reference's disk apart from the stand-in disk; no condition. -/
namespace Go.Proofs.Ytegcbdfilkecpaa
open Go.RowKit

/-- a block of the stand-in disk's own type, if it is a row at all -/
def DkB (w : World) (b : Nat) : Prop := ∀ (cs : Array Value) (t : TypeId), w.heap[b]? = some (.cells cs t (0, 0)) → ¬ NotDk t
theorem Rows.keepT {S : Nat → Prop} {w w' : World} {A : Option Addr} {n sz : Nat} {xs : List (List Value)} (h : Rows w A n sz xs) (k : Kp S w w') (hS : ∀ b, S b → DkB w b) : Rows w' A n sz xs :=
  ⟨h.1, h.2.1, fun hn => by
    obtain ⟨g, o, t, cs, e, hb, hs, hc⟩ := h.2.2 hn
    exact ⟨g, o, t, cs, e, hb.keep k (fun q => hS g q _ _ hb t.2), hs, hc⟩⟩
theorem Rf.keepT {S : Nat → Prop} {w w' : World} {d : Rd} {p : Pl} (h : Rf w d p) (k : Kp S w w') (hS : ∀ b, S b → DkB w b) : Rf w' d p := { h with files := h.files.keepT k hS, pend := h.pend.keepT k hS }
theorem DkB.keep {S : Nat → Prop} {w w' : World} {b : Nat} (h : DkB w b) (k : Kp NoB w w') (hb : b < w.heap.size) : DkB w' b := fun cs t q => h cs t (by rw [← k.block b hb (fun q => q)]; exact q)
theorem not_dk (t : TypeId) (h : t = 121 ∨ t = 143 ∨ t = 148) : ¬ NotDk t := by
  rintro ⟨h1, h2, h3⟩
  rcases h with q | q | q
  · exact h1 q
  · exact h2 q
  · exact h3 q
theorem Dq.baseT {S : Nat → Prop} {W0 w : World} {db : Nat} {p : Pl} (h : Dq S W0 w db p) : ∃ S', Dq S' w w db p ∧ (∀ b, S' b → S b ∨ W0.heap.size ≤ b) ∧ ∀ b, S' b → DkB w b := by
  obtain ⟨x, e, hd, hp, hk, ho, hs⟩ := h
  refine ⟨x.O, ⟨x, e, hd, hp, Kp.refl _ _, fun b q => .inl q, hd.lt⟩, ho, ?_⟩
  rintro b (rfl | rfl | q | ⟨f, hf, rfl⟩) cs t hc
  · have h1 : some (Obj.cells cs t (0, 0)) = some (Obj.cells _ 121 (0, 0)) := hc.symm.trans hd.blk
    injection h1 with h1
    injection h1 with h1 h2
    exact not_dk t (.inl h2)
  · obtain ⟨D, ⟨es, ck, hm, _⟩, _⟩ := hd.mp
    have h1 := hc.symm.trans hm
    injection h1 with h1
    cases h1
  · obtain ⟨cs', h2⟩ := own_type hd.pend q
    have h1 := hc.symm.trans h2
    injection h1 with h1
    injection h1 with h1 h2
    exact not_dk t (.inr (.inr h2))
  · obtain ⟨u, v, hb, _⟩ := (hd.fls f hf).blk
    have h1 : some (Obj.cells cs t (0, 0)) = some (Obj.cells _ 143 (0, 0)) := hc.symm.trans hb
    injection h1 with h1
    injection h1 with h1 h2
    exact not_dk t (.inr (.inl h2))
/-- stores into local blocks; the base moved down -/
theorem Dq.loc {S0 S S2 : Nat → Prop} {w w3 w5 w' : World} {db : Nat} {p : Pl} (hq : Dq S w3 w5 db p) (k0 : Kp S0 w w3) (hS : ∀ b, S b → S0 b ∨ w.heap.size ≤ b) (hs : ∀ b, S0 b → b < w.heap.size) (k : Kp S2 w5 w') (h2 : ∀ b, S2 b → ¬ S b ∧ w.heap.size ≤ b ∧ b < w3.heap.size ∧ ∃ t cs, Blk w5 b t cs ∧ t ≠ 5) : Dq S0 w w' db p := by
  obtain ⟨x, e, hd, hp, hk, ho, hz⟩ := hq
  refine ⟨x, e, hd.keep k (fun b hbo q => ?_) (fun g' cs' hh q => ?_), hp, ?_, fun b hbo => ?_, hs⟩
  · have q' := h2 b q
    rcases ho b hbo with z | z
    · exact q'.1 z
    · omega
  · obtain ⟨_, _, _, t, cs, hb, ht⟩ := h2 g' q
    have h1 : some (Obj.cells cs' 5 (0, 0)) = some (Obj.cells cs t (0, 0)) := hh.symm.trans hb
    injection h1 with h1
    injection h1 with h1 h2
    exact ht h2.symm
  · refine (k0.trans hk (fun i hi q => ?_)).trans k (fun i hi q => ?_)
    · rcases hS i q with z | z
      · exact z
      · omega
    · have q' := h2 i q
      omega
  · rcases ho b hbo with z | z
    · exact hS b z
    · exact .inr (Nat.le_trans k0.size z)
theorem Dq.re {S S2 : Nat → Prop} {w w' : World} {db : Nat} {p : Pl} (hq : Dq S w w db p) (k : Kp S2 w w') (h2 : ∀ b, S2 b → ¬ S b ∧ b < w.heap.size ∧ ∃ t cs, Blk w b t cs ∧ t ≠ 5) : Dq S w' w' db p := by
  obtain ⟨x, e, hd, hp, hk, ho, hz⟩ := hq
  refine ⟨x, e, hd.keep k (fun b hbo q => ?_) (fun g' cs' hh q => ?_), hp, Kp.refl _ _, fun b hbo => ?_, fun b q => Nat.lt_of_lt_of_le (hz b q) k.size⟩
  · have q' := h2 b q
    rcases ho b hbo with z | z
    · exact q'.1 z
    · omega
  · obtain ⟨_, _, t, cs, hb, ht⟩ := h2 g' q
    have h1 : some (Obj.cells cs' 5 (0, 0)) = some (Obj.cells cs t (0, 0)) := hh.symm.trans hb
    injection h1 with h1
    injection h1 with h1 h2
    exact ht h2.symm
  · rcases ho b hbo with z | z
    · exact .inl z
    · have := hd.lt b hbo
      omega
theorem DkB.keepS {S2 : Nat → Prop} {w w' : World} {b : Nat} (h : DkB w b) (k : Kp S2 w w') (hb : b < w.heap.size) (hn : ¬ S2 b) : DkB w' b := fun cs t q => h cs t (by rw [← k.block b hb hn]; exact q)
theorem setroom_q {S : Nat → Prop} {W0 w : World} {db : Nat} {p : Pl} (h : Dq S W0 w db p) (n : Int) (hn : -9223372036854775808 ≤ n ∧ n ≤ 9223372036854775807) : Calls Try.prog 76 #[ptrV db, .int .i64 n] w fun e w' => e = .returned (.tuple #[]) ∧ Dq S W0 w' db (p.setRoom n) := by
  obtain ⟨x, rfl, hd, hp, hk, ho, hz⟩ := h
  exact (setroom_ok w _ x p n hn hd hp).mono fun e w' ⟨he, ht⟩ => ⟨he, dq_of (n0 := 0) rfl hk ho hz ht⟩
theorem Rf.setRoom {w : World} {d : Rd} {p : Pl} (h : Rf w d p) (n : Int) (hn : n ≤ 9223372036854775807) : Rf w d (p.setRoom n) :=
  { h with room := by show 0 ≤ max 0 n ∧ max 0 n ≤ 9223372036854775807; omega }
theorem Rf.crashIn {w : World} {d : Rd} {p : Pl} (h : Rf w d p) (n : Int) (hn : n ≤ 9223372036854775807) : Rf w d (p.crashIn n) :=
  { h with crash := by show 0 ≤ max 0 n ∧ max 0 n ≤ 9223372036854775807; omega }
theorem Rf.crashNow {w : World} {d : Rd} {p : Pl} (h : Rf w d p) : Rf w d p.crashNow := { h with }
theorem Nums.keepG {S : Nat → Prop} {w w' : World} {A : Option Addr} {n : Nat} {xs : List Int} (h : Nums w A n xs) (k : Kp S w w') (hS : ∀ g o, A = some ⟨g, o, none⟩ → 0 < n → ¬ S g) : Nums w' A n xs :=
  ⟨h.1, fun hn => by
    obtain ⟨g, o, e, hg, hc⟩ := h.2 hn
    exact ⟨g, o, e, Nat.lt_of_lt_of_le hg k.size, fun j hj => (k.cell hg (hS g o e hn)).trans (hc j hj)⟩⟩
theorem Nums.ltG {w : World} {A : Option Addr} {n : Nat} {xs : List Int} (h : Nums w A n xs) {g o : Nat} (e : A = some ⟨g, o, none⟩) (hn : 0 < n) : g < w.heap.size := by
  obtain ⟨g', o', e', hg, _⟩ := h.2 hn
  rw [e] at e'
  injection e' with e'
  injection e' with e1 e2
  omega
theorem survive_nfD : ∀ (cs : List Cg) (chs : List Int) (p : Pl), (p.survive cs chs).nf ≤ p.nf + cs.length
  | [], chs, p => by unfold Pl.survive; exact Nat.le_refl _
  | c :: cs, [], p => by unfold Pl.survive; exact Nat.le_add_right _ _
  | c :: cs, ch :: r, p => by
    unfold Pl.survive
    have h := survive_nfD cs r (p.at_.setKept c.nm (Pl.made (p.kept c.nm) c ch))
    have e : (p.at_.setKept c.nm (Pl.made (p.kept c.nm) c ch)).nf = p.nf + 1 := rfl
    rw [e] at h
    rw [List.length_cons]
    omega
theorem sm_restartD {p : Pl} {k : Nat} (chs : List Int) (h : p.sm k) : (p.restart chs).sm k := by
  unfold Pl.restart
  split
  · have h1 := survive_nfD p.pd chs p
    unfold Pl.sm at h ⊢
    show (p.survive p.pd chs).nf + ([] : List Cg).length + k < _
    rw [List.length_nil]
    omega
  · exact h
end Go.Proofs.Ytegcbdfilkecpaa
/- The stand-in disk among a caller's own blocks: its lesser calls; no condition but on the counts. -/
namespace Go.Proofs.Ytegcbdfilkecpaa
open Go.RowKit

section
variable {S : Nat → Prop} {W0 w w' : World} {db : Nat} {p p' : Pl}
theorem down_q (h : Dq S W0 w db p) : Calls Try.prog 23 #[ptrV db] w fun e w' => e = .returned (.bool p.down) ∧ w = w' := by
  obtain ⟨x, rfl, hd, hp, hk, ho, hz⟩ := h
  exact down_ok w _ x p hd hp
theorem crashin_q (h : Dq S W0 w db p) (n : Int) (hn : -9223372036854775808 ≤ n ∧ n ≤ 9223372036854775807) : Calls Try.prog 22 #[ptrV db, .int .i64 n] w fun e w' => e = .returned (.tuple #[]) ∧ Dq S W0 w' db (p.crashIn n) := by
  obtain ⟨x, rfl, hd, hp, hk, ho, hz⟩ := h
  exact (crashin_ok w 0 x p n hn hd hp).mono fun e w' ⟨he, ht⟩ => ⟨he, dq_of (n0 := 0) rfl hk ho hz ht⟩
theorem crash_q (h : Dq S W0 w db p) : Calls Try.prog 24 #[ptrV db] w fun e w' => e = .returned (.tuple #[]) ∧ Dq S W0 w' db p.crashNow := by
  obtain ⟨x, rfl, hd, hp, hk, ho, hz⟩ := h
  exact (crash_ok w 0 x p hd hp).mono fun e w' ⟨he, ht⟩ => ⟨he, dq_of (n0 := 0) rfl hk ho hz ht⟩
theorem restart_q (h : Dq S W0 w db p) (A : Option Addr) (n cap : Nat) (chs : List Int) (hc : Nums w A n chs) (hA : ∀ g o, A = some ⟨g, o, none⟩ → 0 < n → g < W0.heap.size ∧ ¬ S g) (hch : ∀ y ∈ chs, -9223372036854775808 ≤ y ∧ y ≤ 9223372036854775807)
    (hn63 : n ≤ 9223372036854775807) (hm : p.sm 20) :
    Calls Try.prog 47 #[ptrV db, .slice A n cap] w fun e w' => e = .returned (.int .i64 p.restartE) ∧ Dq S W0 w' db (p.restart chs) := by
  obtain ⟨x, rfl, hd, hp, hk, ho, hz⟩ := h
  unfold Pl.sm at hm
  exact (restart_ok w 0 x p A n cap chs hd hp hc (fun g o e hpos q => by have h1 := hA g o e hpos; rcases ho g q with z | z; exact h1.2 z; omega) hch hn63 (by omega) (Nat.zero_le _)).mono fun e w' ⟨he, ht⟩ => ⟨he, dq_of (n0 := 0) rfl hk ho hz ht⟩
theorem steps_q (h : Dq S W0 w db p) : Calls Try.prog 30 #[ptrV db] w fun e w' => e = .returned (.int .i64 p.steps) ∧ w = w' := by
  obtain ⟨x, rfl, hd, hp, hk, ho, hz⟩ := h
  exact steps_ok w _ x p hd hp
theorem pending_q (h : Dq S W0 w db p) : Calls Try.prog 31 #[ptrV db] w fun e w' => e = .returned (.int .i64 (p.pd.length : Nat)) ∧ w = w' := by
  obtain ⟨x, rfl, hd, hp, hk, ho, hz⟩ := h
  exact pending_ok w _ x p hd hp
theorem starts_q (h : Dq S W0 w db p) : Calls Try.prog 92 #[ptrV db] w fun e w' => e = .returned (.int .i64 p.starts) ∧ w = w' := by
  obtain ⟨x, rfl, hd, hp, hk, ho, hz⟩ := h
  exact starts_ok w _ x p hd hp
end
end Go.Proofs.Ytegcbdfilkecpaa
/- The law of the disks' play: a step, its boxes; no condition but on the texts' lengths. -/
namespace Go.Proofs.Ytegcbdfilkecpaa
open Go.RowKit

/-- a step of the play -/
structure DOp where
  do_ : Int
  a : Int
  at_ : Int
  n : Int
  name : ByteArray
  data : ByteArray
  chs : List Int
def dopV (x : DOp) (CA : Option Addr) (cn cc : Nat) : Array Value := #[.int .i64 x.do_, .int .i64 x.a, .int .i64 x.at_, .int .i64 x.n, .string x.name, .string x.data, .slice CA cn cc]
structure DOk (S : Nat → Prop) (w : World) (x : DOp) (CA : Option Addr) (cn cc : Nat) : Prop where
  ch : Nums w CA cn x.chs
  ca : ∀ g o, CA = some ⟨g, o, none⟩ → 0 < cn → ¬ S g
  cnil : CA = none → cn = 0 ∧ cc = 0
  chr : ∀ y ∈ x.chs, -9223372036854775808 ≤ y ∧ y ≤ 9223372036854775807
  cb : cn * 8 ≤ 140737488355328
  rn : -9223372036854775808 ≤ x.n ∧ x.n ≤ 9223372036854775807
  ra : -9223372036854775808 ≤ x.at_ ∧ x.at_ ≤ 9223372036854775807
  nl : x.name.size ≤ maxLen
  dl : x.data.size ≤ maxLen
theorem DOk.keep {S : Nat → Prop} {w w' : World} {x : DOp} {CA : Option Addr} {cn cc : Nat} (h : DOk S w x CA cn cc) (k : Kp S w w') : DOk S w' x CA cn cc :=
  { h with ch := h.ch.keepG k h.ca }
structure DpB (S0 S : Nat → Prop) (w : World) (db : Nat) (p : Pl) (d : Rd) (x : DOp) (CA : Option Addr) (cn cc : Nat) (s0 : Nat) (w3 : World) : Prop where
  b0 : Blk w3 s0 56 (rdC d p)
  b1 : Blk w3 (s0 + 1) 72 (dopV x CA cn cc)
  b2 : Blk w3 (s0 + 1 + 1) 56 rdZ
  kp : Kp S0 w w3
  q : Dq S w3 w3 db p
  r : Rf w3 d p
  o : DOk S w3 x CA cn cc
  dk : ∀ b, S b → DkB w3 b
  lt0 : ∀ b, S0 b → b < s0
  lt : ∀ b, S b → S0 b ∨ s0 + 3 ≤ b
  cl : ∀ g o, CA = some ⟨g, o, none⟩ → 0 < cn → g < s0
section
variable {S0 S : Nat → Prop} {w w3 : World} {db : Nat} {p : Pl} {d : Rd} {x : DOp} {CA : Option Addr} {cn cc s0 : Nat}
theorem DpB.start (hq : Dq S w w db p) (hr : Rf w d p) (hO : DOk S w x CA cn cc) (hdk : ∀ b, S b → DkB w b) :
    DpB S S w db p d x CA cn cc w.heap.size (((w.alloc (.cells (rdC d p) 56)).alloc (.cells (dopV x CA cn cc) 72)).alloc (.cells rdZ 56)) := by
  have hk : Kp NoB w (((w.alloc (.cells (rdC d p) 56)).alloc (.cells (dopV x CA cn cc) 72)).alloc (.cells rdZ 56)) := (((Kp.refl NoB w).alloc _).alloc _).alloc _
  exact
    { b0 := ((Blk.new _ _ _).alloc _).alloc _
      b1 := (Blk.top (by simp)).alloc _
      b2 := Blk.top (by simp)
      kp := hk.mono (fun _ _ q => q.elim)
      q := hq.base1 hk
      r := hr.keep hk
      o := hO.keep (hk.mono (fun _ _ q => q.elim))
      dk := fun b hb => DkB.keep (S := S) (hdk b hb) hk (hq.lt b hb)
      lt0 := hq.lt
      lt := fun _ q => .inl q
      cl := fun g o e hn => Nums.ltG hO.ch e hn }
theorem dopC7 {wk : World} {g : Nat} {t : TypeId} (h : Blk wk g t (dopV x CA cn cc)) :
    wk.cell? ⟨g, 0, none⟩ = some (.int .i64 x.do_) ∧ wk.cell? ⟨g, 1, none⟩ = some (.int .i64 x.a) ∧ wk.cell? ⟨g, 2, none⟩ = some (.int .i64 x.at_) ∧ wk.cell? ⟨g, 3, none⟩ = some (.int .i64 x.n) ∧
    wk.cell? ⟨g, 4, none⟩ = some (.string x.name) ∧ wk.cell? ⟨g, 5, none⟩ = some (.string x.data) ∧ wk.cell? ⟨g, 6, none⟩ = some (.slice CA cn cc) :=
  ⟨h.cell 0, h.cell 1, h.cell 2, h.cell 3, h.cell 4, h.cell 5, h.cell 6⟩
theorem DpB.not (h : DpB S0 S w db p d x CA cn cc s0 w3) {b : Nat} (h0 : s0 ≤ b) (h1 : b < s0 + 3) : ¬ S b := fun q => by
  rcases h.lt b q with z | z
  · have := h.lt0 b z; omega
  · omega
/-- a world behind steps of the disk -/
theorem DpB.to (h : DpB S0 S w db p d x CA cn cc s0 w3) {wk : World} (k : Kp S w3 wk) :
    DpB S0 S w db p d x CA cn cc s0 w3 ∧ Blk wk s0 56 (rdC d p) ∧ Blk wk (s0 + 1) 72 (dopV x CA cn cc) ∧ Blk wk (s0 + 1 + 1) 56 rdZ ∧ Rf wk d p ∧ DOk S wk x CA cn cc :=
  ⟨h, h.b0.keep k (h.not (by omega) (by omega)), h.b1.keep k (h.not (by omega) (by omega)), h.b2.keep k (h.not (by omega) (by omega)), h.r.keepT k h.dk, h.o.keep k⟩
/-- the end: the result in its box -/
theorem DpB.fin2 (h : DpB S0 S w db p d x CA cn cc s0 w3) (hs : w.heap.size = s0) {wk : World} {q : Pl} (hq : Dq S w3 wk db q) {w' : World} (k : Kp (fun b => b = s0 ∨ b = s0 + 1 + 1) wk w') : Dq S0 w w' db q :=
  hq.loc h.kp (fun b q => (h.lt b q).imp id (fun z => by omega)) (fun b q => by have := h.lt0 b q; omega) k (fun b q => by
    obtain ⟨_, b0, _, b2, _, _⟩ := h.to hq.kp
    have := h.b2.lt
    rcases q with rfl | rfl
    · exact ⟨h.not (by omega) (by omega), by omega, by omega, _, _, b0, by decide⟩
    · exact ⟨h.not (by omega) (by omega), by omega, by omega, _, _, b2, by decide⟩)
theorem DpB.fin (h : DpB S0 S w db p d x CA cn cc s0 w3) (hs : w.heap.size = s0) {wk : World} {q : Pl} (hq : Dq S w3 wk db q) {w' : World} (k : Kp (OnB (s0 + 1 + 1)) wk w') : Dq S0 w w' db q :=
  h.fin2 hs hq (k.mono (fun _ _ q => .inr q))
end
theorem Nums.src {w : World} {A : Option Addr} {n : Nat} {xs : List Int} (h : Nums w A n xs) : 0 < n → ∃ g o, A = some ⟨g, o, none⟩ ∧ ∀ j u, (xs.map (Value.int .i64))[j]? = some u → w.cell? ⟨g, o + j, none⟩ = some u := by
  intro hn
  obtain ⟨g, o, e, _, hc⟩ := h.2 hn
  refine ⟨g, o, e, fun j u hj => ?_⟩
  rw [List.getElem?_map] at hj
  cases hq : xs[j]? with
  | none => rw [hq] at hj; cases hj
  | some y =>
    rw [hq] at hj
    injection hj with hj
    rw [← hj, hc j (by have := (List.getElem?_eq_some_iff.1 hq).1; have := h.1; omega), List.getD_eq_getElem?_getD, hq]
    rfl
theorem own_nums {w : World} {base n c : Nat} {A : Option Addr} {xs : List Int} (h : w.ownsRow base 3 1 (.slice A n c) n (xs.map (Value.int .i64))) : Nums w A n xs := by
  have hl : xs.length = n := by have := h.1; simpa using this
  refine ⟨hl, fun hn => ?_⟩
  obtain ⟨g, ds, e, _, hb⟩ := own_blk1 h hn
  refine ⟨g, 0, e, hb.lt, fun k hk => ?_⟩
  rw [Nat.zero_add, hb.cell, List.getElem?_toArray, List.getElem?_append_left (by rw [List.length_map]; omega), List.getElem?_map, List.getD_eq_getElem?_getD, List.getElem?_eq_getElem (by omega)]
  rfl
def DpPost (S : Nat → Prop) (w : World) (db : Nat) (q : Pl) (e : Ending) (w' : World) : Prop := ∃ d', e = .returned (.tuple #[rdV d' q, .bool true]) ∧ Rf w' d' q ∧ Dq S w w' db q
end Go.Proofs.Ytegcbdfilkecpaa
/- The law of the disks' play: the steps that read, write, cut and sync, and those that set a number; no condition but on the texts' lengths. -/
namespace Go.Proofs.Ytegcbdfilkecpaa
open Go.RowKit

set_option maxRecDepth 100000 in
set_option maxHeartbeats 1600000 in
theorem dp_1 (S : Nat → Prop) (w : World) (db : Nat) (p : Pl) (d : Rd) (x : DOp) (CA : Option Addr) (cn cc : Nat) (hq : Dq S w w db p) (hr : Rf w d p) (hO : DOk S w x CA cn cc) (hdk : ∀ b, S b → DkB w b) (hsm : p.sm 100000) (hdo : x.do_ = 1) :
    Calls Try.prog 34 #[ptrV db, rdV d p, .agg (dopV x CA cn cc)] w (DpPost S w db (p)) := by
  have hB := DpB.start hq hr hO hdk
  have HSM := Lib.hid hsm
  have HLT := Lib.hid hq.lt
  clear hq hr hO hdk hsm
  unfold rdC dopV rdZ at hB
  unfold rdV dopV
  rw [hdo]
  rw [hdo] at hB
  go_enter Try.func34, Try.ntmps34
  go_upto_region 1 with fail
  generalize (((w.alloc (.cells #[.bool true, .bool p.down, .slice d.fA d.fn d.fc, .slice d.pA d.pn d.pc, .int .i64 p.room, .int .i64 p.steps, .int .i64 p.crash, .int .i64 p.starts] 56)).alloc (.cells #[.int .i64 1, .int .i64 x.a, .int .i64 x.at_, .int .i64 x.n, .string x.name, .string x.data, .slice CA cn cc] 72)).alloc (.cells #[.bool false, .bool false, .slice none 0 0, .slice none 0 0, .int .i64 0, .int .i64 0, .int .i64 0, .int .i64 0] 56)) = w3 at hB ⊢
  generalize hs0 : w.heap.size = s0 at hB ⊢
  have HS0 := Lib.hid hs0
  have HB := Lib.hid hB
  clear hs0 hB
  have hl2 := HB.out.b2.lt
  have hl1 := HB.out.b1.lt
  have hl0 := HB.out.b0.lt
  obtain ⟨o0, o1, o2, o3, o4, o5, o6⟩ := dopC7 HB.out.b1
  rw [hdo] at o0
  obtain ⟨c0, c1, c2, c3, c4, c5, c6, c7⟩ := HB.out.b0.rdc
  obtain ⟨y0, y1, y2, y3, y4, y5, y6, y7⟩ := HB.out.b2.c8
  obtain ⟨z0, z1, z2, z3, z4, z5, z6, z7⟩ := HB.out.b2.z8
  obtain ⟨x0, x1, x2, x3, x4, x5, x6, x7⟩ := HB.out.b0.z8
  go_wp2_with fail
  refine (show Calls _ _ #[ptrV db, .string x.name, .int .i64 x.at_, .int .i64 x.n] _ _ from read_q HB.out.q x.name x.at_ x.n HB.out.o.nl HB.out.o.ra HB.out.o.rn).mono ?_
  rintro e w4 ⟨rfl, hk⟩
  have hq4 := HB.out.q.keep hk
  have HQ := Lib.hid hq4
  have HK34 := Lib.hid hk
  obtain ⟨_, b0, b1, b2, r, o⟩ := HB.out.to hq4.kp
  have HB0 := Lib.hid b0
  have HB1 := Lib.hid b1
  have HB2 := Lib.hid b2
  have HR := Lib.hid r
  have HO := Lib.hid o
  clear hk hq4 b0 b1 b2 r o c0 c1 c2 c3 c4 c5 c6 c7 y0 y1 y2 y3 y4 y5 y6 y7 z0 z1 z2 z3 z4 z5 z6 z7 x0 x1 x2 x3 x4 x5 x6 x7 o0 o1 o2 o3 o4 o5 o6 hl0 hl1 hl2
  have hl2 := HB2.out.lt
  have hl1 := HB1.out.lt
  have hl0 := HB0.out.lt
  obtain ⟨o0, o1, o2, o3, o4, o5, o6⟩ := dopC7 HB1.out
  obtain ⟨c0, c1, c2, c3, c4, c5, c6, c7⟩ := HB0.out.rdc
  obtain ⟨y0, y1, y2, y3, y4, y5, y6, y7⟩ := HB2.out.c8
  obtain ⟨z0, z1, z2, z3, z4, z5, z6, z7⟩ := HB2.out.z8
  obtain ⟨x0, x1, x2, x3, x4, x5, x6, x7⟩ := HB0.out.z8
  obtain ⟨R, hR⟩ : ∃ R, strOf (p.read x.name x.at_ x.n) = R := ⟨_, rfl⟩
  obtain ⟨E, hE⟩ : ∃ E, p.readE x.at_ x.n = E := ⟨_, rfl⟩
  have HRR := Lib.hid hR
  have HEE := Lib.hid hE
  rw [hR, hE]
  clear hR hE
  go_wp2_with fail
  refine (show Calls _ _ #[rdV d p, .string x.name, .int .i64 x.at_, .int .i64 x.n] _ _ from read_okR w4 d p x.name x.at_ x.n HR.out (by have := HSM.out; unfold Pl.sm at this; omega) HB.out.o.ra HB.out.o.rn).mono ?_
  rintro e w5 ⟨rfl, hk5⟩
  rw [HRR.out, HEE.out]
  have h5 := HR.out.keep hk5
  have HQ' := Lib.hid (HQ.out.keep hk5)
  have HB0' := Lib.hid (HB0.out.keep hk5 (fun q => q))
  have HB1' := Lib.hid (HB1.out.keep hk5 (fun q => q))
  have HB2' := Lib.hid (HB2.out.keep hk5 (fun q => q))
  have HR' := Lib.hid h5
  have HO' := Lib.hid (HO.out.keep (hk5.mono (fun _ _ q => q.elim)))
  clear hk5 h5 HQ HB0 HB1 HB2 HR HO c0 c1 c2 c3 c4 c5 c6 c7 y0 y1 y2 y3 y4 y5 y6 y7 z0 z1 z2 z3 z4 z5 z6 z7 x0 x1 x2 x3 x4 x5 x6 x7 o0 o1 o2 o3 o4 o5 o6 hl0 hl1 hl2
  have HQ := HQ'
  have HB0 := HB0'
  have HB1 := HB1'
  have HB2 := HB2'
  have HR := HR'
  have HO := HO'
  clear HQ' HB0' HB1' HB2' HR' HO'
  have hl2 := HB2.out.lt
  have hl1 := HB1.out.lt
  have hl0 := HB0.out.lt
  obtain ⟨o0, o1, o2, o3, o4, o5, o6⟩ := dopC7 HB1.out
  obtain ⟨c0, c1, c2, c3, c4, c5, c6, c7⟩ := HB0.out.rdc
  obtain ⟨y0, y1, y2, y3, y4, y5, y6, y7⟩ := HB2.out.c8
  obtain ⟨z0, z1, z2, z3, z4, z5, z6, z7⟩ := HB2.out.z8
  obtain ⟨x0, x1, x2, x3, x4, x5, x6, x7⟩ := HB0.out.z8
  go_wp2_with fail
  refine bodyPost_ret (ret_cell_tmp rfl _ _ _ _ _ _ rfl (blk8 HB2.out rfl) Try.underlying56 rfl (by exact infoRd) _ rfl) rfl ⟨d, rfl, ?_, ?_⟩
  · exact (HR.out).keepB (kp8 (Kp.refl _ w5) (.inr rfl)) HB2.out rdZ_str
  · exact HB.out.fin HS0.out (HQ.out) (kp8 (Kp.refl _ w5) (.inr rfl))
set_option maxRecDepth 100000 in
set_option maxHeartbeats 1600000 in
theorem dp_2 (S : Nat → Prop) (w : World) (db : Nat) (p : Pl) (d : Rd) (x : DOp) (CA : Option Addr) (cn cc : Nat) (hq : Dq S w w db p) (hr : Rf w d p) (hO : DOk S w x CA cn cc) (hdk : ∀ b, S b → DkB w b) (hsm : p.sm 100000) (hdo : x.do_ = 2) :
    Calls Try.prog 34 #[ptrV db, rdV d p, .agg (dopV x CA cn cc)] w (DpPost S w db (p.write x.name x.at_ (strI x.data))) := by
  have hB := DpB.start hq hr hO hdk
  have HSM := Lib.hid hsm
  have HLT := Lib.hid hq.lt
  clear hq hr hO hdk hsm
  unfold rdC dopV rdZ at hB
  unfold rdV dopV
  rw [hdo]
  rw [hdo] at hB
  go_enter Try.func34, Try.ntmps34
  go_upto_region 1 with fail
  generalize (((w.alloc (.cells #[.bool true, .bool p.down, .slice d.fA d.fn d.fc, .slice d.pA d.pn d.pc, .int .i64 p.room, .int .i64 p.steps, .int .i64 p.crash, .int .i64 p.starts] 56)).alloc (.cells #[.int .i64 2, .int .i64 x.a, .int .i64 x.at_, .int .i64 x.n, .string x.name, .string x.data, .slice CA cn cc] 72)).alloc (.cells #[.bool false, .bool false, .slice none 0 0, .slice none 0 0, .int .i64 0, .int .i64 0, .int .i64 0, .int .i64 0] 56)) = w3 at hB ⊢
  generalize hs0 : w.heap.size = s0 at hB ⊢
  have HS0 := Lib.hid hs0
  have HB := Lib.hid hB
  clear hs0 hB
  have hl2 := HB.out.b2.lt
  have hl1 := HB.out.b1.lt
  have hl0 := HB.out.b0.lt
  obtain ⟨o0, o1, o2, o3, o4, o5, o6⟩ := dopC7 HB.out.b1
  rw [hdo] at o0
  obtain ⟨c0, c1, c2, c3, c4, c5, c6, c7⟩ := HB.out.b0.rdc
  obtain ⟨y0, y1, y2, y3, y4, y5, y6, y7⟩ := HB.out.b2.c8
  obtain ⟨z0, z1, z2, z3, z4, z5, z6, z7⟩ := HB.out.b2.z8
  obtain ⟨x0, x1, x2, x3, x4, x5, x6, x7⟩ := HB.out.b0.z8
  go_wp2_with fail
  refine (show Calls _ _ #[ptrV db, .string x.name, .int .i64 x.at_, .string x.data] _ _ from write_q HB.out.q x.name x.at_ x.data HB.out.o.nl HB.out.o.dl (sm_mono HSM.out (by omega))).mono ?_
  rintro e w4 ⟨rfl, hq⟩
  have HQ := Lib.hid hq
  obtain ⟨_, b0, b1, b2, r, o⟩ := HB.out.to hq.kp
  have HB0 := Lib.hid b0
  have HB1 := Lib.hid b1
  have HB2 := Lib.hid b2
  have HR := Lib.hid r
  have HO := Lib.hid o
  clear hq b0 b1 b2 r o c0 c1 c2 c3 c4 c5 c6 c7 y0 y1 y2 y3 y4 y5 y6 y7 z0 z1 z2 z3 z4 z5 z6 z7 x0 x1 x2 x3 x4 x5 x6 x7 o0 o1 o2 o3 o4 o5 o6 hl0 hl1 hl2
  have hl2 := HB2.out.lt
  have hl1 := HB1.out.lt
  have hl0 := HB0.out.lt
  obtain ⟨o0, o1, o2, o3, o4, o5, o6⟩ := dopC7 HB1.out
  obtain ⟨c0, c1, c2, c3, c4, c5, c6, c7⟩ := HB0.out.rdc
  obtain ⟨y0, y1, y2, y3, y4, y5, y6, y7⟩ := HB2.out.c8
  obtain ⟨z0, z1, z2, z3, z4, z5, z6, z7⟩ := HB2.out.z8
  obtain ⟨x0, x1, x2, x3, x4, x5, x6, x7⟩ := HB0.out.z8
  go_wp2_with fail
  refine (show Calls _ _ #[rdV d p, .string x.name, .int .i64 x.at_, .string x.data] _ _ from write_okR w4 d p x.name x.at_ x.data HR.out HB.out.o.nl HB.out.o.dl HB.out.o.ra (by have := HSM.out; unfold Pl.sm at this; omega) (by have := HSM.out; unfold Pl.sm at this; omega)).mono ?_
  rintro e w5 ⟨d5, rfl, h5, hk5⟩
  obtain ⟨q, hqE⟩ : ∃ q, p.write x.name x.at_ (strI x.data) = q := ⟨_, rfl⟩
  obtain ⟨E, hE⟩ : ∃ E, p.writeE x.name x.at_ (strI x.data) = E := ⟨_, rfl⟩
  have HRUN := Lib.hid hqE
  rw [hqE] at h5 HQ ⊢
  rw [hE]
  clear hqE hE
  have HQ' := Lib.hid (HQ.out.keep hk5)
  have HB0' := Lib.hid (HB0.out.keep hk5 (fun q => q))
  have HB1' := Lib.hid (HB1.out.keep hk5 (fun q => q))
  have HB2' := Lib.hid (HB2.out.keep hk5 (fun q => q))
  have HR' := Lib.hid h5
  have HO' := Lib.hid (HO.out.keep (hk5.mono (fun _ _ q => q.elim)))
  clear hk5 h5 HQ HB0 HB1 HB2 HR HO c0 c1 c2 c3 c4 c5 c6 c7 y0 y1 y2 y3 y4 y5 y6 y7 z0 z1 z2 z3 z4 z5 z6 z7 x0 x1 x2 x3 x4 x5 x6 x7 o0 o1 o2 o3 o4 o5 o6 hl0 hl1 hl2
  have HQ := HQ'
  have HB0 := HB0'
  have HB1 := HB1'
  have HB2 := HB2'
  have HR := HR'
  have HO := HO'
  clear HQ' HB0' HB1' HB2' HR' HO'
  have hl2 := HB2.out.lt
  have hl1 := HB1.out.lt
  have hl0 := HB0.out.lt
  obtain ⟨o0, o1, o2, o3, o4, o5, o6⟩ := dopC7 HB1.out
  obtain ⟨c0, c1, c2, c3, c4, c5, c6, c7⟩ := HB0.out.rdc
  obtain ⟨y0, y1, y2, y3, y4, y5, y6, y7⟩ := HB2.out.c8
  obtain ⟨z0, z1, z2, z3, z4, z5, z6, z7⟩ := HB2.out.z8
  obtain ⟨x0, x1, x2, x3, x4, x5, x6, x7⟩ := HB0.out.z8
  unfold rdV
  go_upto_region 9 with fail
  have hg2 : Blk (w5.alloc (.cells (rdC d5 q) 56)) w5.heap.size 56 (rdC d5 q) := Blk.new _ _ _
  have hk5 : Kp NoB w5 (w5.alloc (.cells (rdC d5 q) 56)) := (Kp.refl NoB w5).alloc _
  have h5 : Rf (w5.alloc (.cells (rdC d5 q) 56)) d5 (q) := HR.out.keep hk5
  unfold rdC at hg2 hk5 h5
  generalize hg : w5.heap.size = g at hg2 ⊢
  have hgl : s0 + 1 + 1 < g := by have := HB2.out.lt; omega
  generalize (w5.alloc (.cells #[.bool true, .bool (q).down, .slice d5.fA d5.fn d5.fc, .slice d5.pA d5.pn d5.pc, .int .i64 (q).room, .int .i64 (q).steps, .int .i64 (q).crash, .int .i64 (q).starts] 56)) = w6 at hg2 hk5 h5 ⊢
  have HG2 := Lib.hid (show Blk w6 g 56 (rdC d5 q) from hg2)
  have HGL := Lib.hid hgl
  have HKB := Lib.hid hk5
  clear hg2 hg hgl
  have HQ' := Lib.hid (HQ.out.keep hk5)
  have HB0' := Lib.hid (HB0.out.keep hk5 (fun q => q))
  have HB1' := Lib.hid (HB1.out.keep hk5 (fun q => q))
  have HB2' := Lib.hid (HB2.out.keep hk5 (fun q => q))
  have HR' := Lib.hid h5
  have HO' := Lib.hid (HO.out.keep (hk5.mono (fun _ _ q => q.elim)))
  clear hk5 h5 HQ HB0 HB1 HB2 HR HO c0 c1 c2 c3 c4 c5 c6 c7 y0 y1 y2 y3 y4 y5 y6 y7 z0 z1 z2 z3 z4 z5 z6 z7 x0 x1 x2 x3 x4 x5 x6 x7 o0 o1 o2 o3 o4 o5 o6 hl0 hl1 hl2
  have HQ := HQ'
  have HB0 := HB0'
  have HB1 := HB1'
  have HB2 := HB2'
  have HR := HR'
  have HO := HO'
  clear HQ' HB0' HB1' HB2' HR' HO'
  have hl2 := HB2.out.lt
  have hl1 := HB1.out.lt
  have hl0 := HB0.out.lt
  obtain ⟨o0, o1, o2, o3, o4, o5, o6⟩ := dopC7 HB1.out
  obtain ⟨c0, c1, c2, c3, c4, c5, c6, c7⟩ := HB0.out.rdc
  obtain ⟨y0, y1, y2, y3, y4, y5, y6, y7⟩ := HB2.out.c8
  obtain ⟨z0, z1, z2, z3, z4, z5, z6, z7⟩ := HB2.out.z8
  obtain ⟨x0, x1, x2, x3, x4, x5, x6, x7⟩ := HB0.out.z8
  obtain ⟨g0, g1, g2, g3, g4, g5, g6, g7⟩ := HG2.out.rdc
  have hgs := HG2.out.lt
  have hgg : s0 < g ∧ s0 + 1 < g ∧ s0 + 1 + 1 < g := by have := HGL.out; omega
  go_wp2_with fail
  refine bodyPost_ret (ret_cell_tmp rfl _ _ _ _ _ _ rfl (blk8 HB2.out rfl) Try.underlying56 rfl (by exact infoRd) _ rfl) rfl ⟨d5, by rw [HRUN.out]; rfl, ?_, ?_⟩
  · rw [HRUN.out]
    exact (HR.out).keepB (kp8 (Kp.refl _ w6) (.inr rfl)) HB2.out rdZ_str
  · rw [HRUN.out]
    exact HB.out.fin HS0.out (HQ.out) (kp8 (Kp.refl _ w6) (.inr rfl))
set_option maxRecDepth 100000 in
set_option maxHeartbeats 1600000 in
theorem dp_3 (S : Nat → Prop) (w : World) (db : Nat) (p : Pl) (d : Rd) (x : DOp) (CA : Option Addr) (cn cc : Nat) (hq : Dq S w w db p) (hr : Rf w d p) (hO : DOk S w x CA cn cc) (hdk : ∀ b, S b → DkB w b) (hsm : p.sm 100000) (hdo : x.do_ = 3) :
    Calls Try.prog 34 #[ptrV db, rdV d p, .agg (dopV x CA cn cc)] w (DpPost S w db (p.trunc x.name x.n)) := by
  have hB := DpB.start hq hr hO hdk
  have HSM := Lib.hid hsm
  have HLT := Lib.hid hq.lt
  clear hq hr hO hdk hsm
  unfold rdC dopV rdZ at hB
  unfold rdV dopV
  rw [hdo]
  rw [hdo] at hB
  go_enter Try.func34, Try.ntmps34
  go_upto_region 1 with fail
  generalize (((w.alloc (.cells #[.bool true, .bool p.down, .slice d.fA d.fn d.fc, .slice d.pA d.pn d.pc, .int .i64 p.room, .int .i64 p.steps, .int .i64 p.crash, .int .i64 p.starts] 56)).alloc (.cells #[.int .i64 3, .int .i64 x.a, .int .i64 x.at_, .int .i64 x.n, .string x.name, .string x.data, .slice CA cn cc] 72)).alloc (.cells #[.bool false, .bool false, .slice none 0 0, .slice none 0 0, .int .i64 0, .int .i64 0, .int .i64 0, .int .i64 0] 56)) = w3 at hB ⊢
  generalize hs0 : w.heap.size = s0 at hB ⊢
  have HS0 := Lib.hid hs0
  have HB := Lib.hid hB
  clear hs0 hB
  have hl2 := HB.out.b2.lt
  have hl1 := HB.out.b1.lt
  have hl0 := HB.out.b0.lt
  obtain ⟨o0, o1, o2, o3, o4, o5, o6⟩ := dopC7 HB.out.b1
  rw [hdo] at o0
  obtain ⟨c0, c1, c2, c3, c4, c5, c6, c7⟩ := HB.out.b0.rdc
  obtain ⟨y0, y1, y2, y3, y4, y5, y6, y7⟩ := HB.out.b2.c8
  obtain ⟨z0, z1, z2, z3, z4, z5, z6, z7⟩ := HB.out.b2.z8
  obtain ⟨x0, x1, x2, x3, x4, x5, x6, x7⟩ := HB.out.b0.z8
  go_wp2_with fail
  refine (show Calls _ _ #[ptrV db, .string x.name, .int .i64 x.n] _ _ from trunc_q HB.out.q x.name x.n HB.out.o.rn HB.out.o.nl (sm_mono HSM.out (by omega))).mono ?_
  rintro e w4 ⟨rfl, hq⟩
  have HQ := Lib.hid hq
  obtain ⟨_, b0, b1, b2, r, o⟩ := HB.out.to hq.kp
  have HB0 := Lib.hid b0
  have HB1 := Lib.hid b1
  have HB2 := Lib.hid b2
  have HR := Lib.hid r
  have HO := Lib.hid o
  clear hq b0 b1 b2 r o c0 c1 c2 c3 c4 c5 c6 c7 y0 y1 y2 y3 y4 y5 y6 y7 z0 z1 z2 z3 z4 z5 z6 z7 x0 x1 x2 x3 x4 x5 x6 x7 o0 o1 o2 o3 o4 o5 o6 hl0 hl1 hl2
  have hl2 := HB2.out.lt
  have hl1 := HB1.out.lt
  have hl0 := HB0.out.lt
  obtain ⟨o0, o1, o2, o3, o4, o5, o6⟩ := dopC7 HB1.out
  obtain ⟨c0, c1, c2, c3, c4, c5, c6, c7⟩ := HB0.out.rdc
  obtain ⟨y0, y1, y2, y3, y4, y5, y6, y7⟩ := HB2.out.c8
  obtain ⟨z0, z1, z2, z3, z4, z5, z6, z7⟩ := HB2.out.z8
  obtain ⟨x0, x1, x2, x3, x4, x5, x6, x7⟩ := HB0.out.z8
  go_wp2_with fail
  refine (show Calls _ _ #[rdV d p, .string x.name, .int .i64 x.n] _ _ from trunc_okR w4 d p x.name x.n HR.out HB.out.o.nl HB.out.o.rn (by have := HSM.out; unfold Pl.sm at this; omega) (by have := HSM.out; unfold Pl.sm at this; omega)).mono ?_
  rintro e w5 ⟨d5, rfl, h5, hk5⟩
  obtain ⟨q, hqE⟩ : ∃ q, p.trunc x.name x.n = q := ⟨_, rfl⟩
  obtain ⟨E, hE⟩ : ∃ E, p.truncE x.name x.n = E := ⟨_, rfl⟩
  have HRUN := Lib.hid hqE
  rw [hqE] at h5 HQ ⊢
  rw [hE]
  clear hqE hE
  have HQ' := Lib.hid (HQ.out.keep hk5)
  have HB0' := Lib.hid (HB0.out.keep hk5 (fun q => q))
  have HB1' := Lib.hid (HB1.out.keep hk5 (fun q => q))
  have HB2' := Lib.hid (HB2.out.keep hk5 (fun q => q))
  have HR' := Lib.hid h5
  have HO' := Lib.hid (HO.out.keep (hk5.mono (fun _ _ q => q.elim)))
  clear hk5 h5 HQ HB0 HB1 HB2 HR HO c0 c1 c2 c3 c4 c5 c6 c7 y0 y1 y2 y3 y4 y5 y6 y7 z0 z1 z2 z3 z4 z5 z6 z7 x0 x1 x2 x3 x4 x5 x6 x7 o0 o1 o2 o3 o4 o5 o6 hl0 hl1 hl2
  have HQ := HQ'
  have HB0 := HB0'
  have HB1 := HB1'
  have HB2 := HB2'
  have HR := HR'
  have HO := HO'
  clear HQ' HB0' HB1' HB2' HR' HO'
  have hl2 := HB2.out.lt
  have hl1 := HB1.out.lt
  have hl0 := HB0.out.lt
  obtain ⟨o0, o1, o2, o3, o4, o5, o6⟩ := dopC7 HB1.out
  obtain ⟨c0, c1, c2, c3, c4, c5, c6, c7⟩ := HB0.out.rdc
  obtain ⟨y0, y1, y2, y3, y4, y5, y6, y7⟩ := HB2.out.c8
  obtain ⟨z0, z1, z2, z3, z4, z5, z6, z7⟩ := HB2.out.z8
  obtain ⟨x0, x1, x2, x3, x4, x5, x6, x7⟩ := HB0.out.z8
  unfold rdV
  go_upto_region 13 with fail
  have hg2 : Blk (w5.alloc (.cells (rdC d5 q) 56)) w5.heap.size 56 (rdC d5 q) := Blk.new _ _ _
  have hk5 : Kp NoB w5 (w5.alloc (.cells (rdC d5 q) 56)) := (Kp.refl NoB w5).alloc _
  have h5 : Rf (w5.alloc (.cells (rdC d5 q) 56)) d5 (q) := HR.out.keep hk5
  unfold rdC at hg2 hk5 h5
  generalize hg : w5.heap.size = g at hg2 ⊢
  have hgl : s0 + 1 + 1 < g := by have := HB2.out.lt; omega
  generalize (w5.alloc (.cells #[.bool true, .bool (q).down, .slice d5.fA d5.fn d5.fc, .slice d5.pA d5.pn d5.pc, .int .i64 (q).room, .int .i64 (q).steps, .int .i64 (q).crash, .int .i64 (q).starts] 56)) = w6 at hg2 hk5 h5 ⊢
  have HG2 := Lib.hid (show Blk w6 g 56 (rdC d5 q) from hg2)
  have HGL := Lib.hid hgl
  have HKB := Lib.hid hk5
  clear hg2 hg hgl
  have HQ' := Lib.hid (HQ.out.keep hk5)
  have HB0' := Lib.hid (HB0.out.keep hk5 (fun q => q))
  have HB1' := Lib.hid (HB1.out.keep hk5 (fun q => q))
  have HB2' := Lib.hid (HB2.out.keep hk5 (fun q => q))
  have HR' := Lib.hid h5
  have HO' := Lib.hid (HO.out.keep (hk5.mono (fun _ _ q => q.elim)))
  clear hk5 h5 HQ HB0 HB1 HB2 HR HO c0 c1 c2 c3 c4 c5 c6 c7 y0 y1 y2 y3 y4 y5 y6 y7 z0 z1 z2 z3 z4 z5 z6 z7 x0 x1 x2 x3 x4 x5 x6 x7 o0 o1 o2 o3 o4 o5 o6 hl0 hl1 hl2
  have HQ := HQ'
  have HB0 := HB0'
  have HB1 := HB1'
  have HB2 := HB2'
  have HR := HR'
  have HO := HO'
  clear HQ' HB0' HB1' HB2' HR' HO'
  have hl2 := HB2.out.lt
  have hl1 := HB1.out.lt
  have hl0 := HB0.out.lt
  obtain ⟨o0, o1, o2, o3, o4, o5, o6⟩ := dopC7 HB1.out
  obtain ⟨c0, c1, c2, c3, c4, c5, c6, c7⟩ := HB0.out.rdc
  obtain ⟨y0, y1, y2, y3, y4, y5, y6, y7⟩ := HB2.out.c8
  obtain ⟨z0, z1, z2, z3, z4, z5, z6, z7⟩ := HB2.out.z8
  obtain ⟨x0, x1, x2, x3, x4, x5, x6, x7⟩ := HB0.out.z8
  obtain ⟨g0, g1, g2, g3, g4, g5, g6, g7⟩ := HG2.out.rdc
  have hgs := HG2.out.lt
  have hgg : s0 < g ∧ s0 + 1 < g ∧ s0 + 1 + 1 < g := by have := HGL.out; omega
  go_wp2_with fail
  refine bodyPost_ret (ret_cell_tmp rfl _ _ _ _ _ _ rfl (blk8 HB2.out rfl) Try.underlying56 rfl (by exact infoRd) _ rfl) rfl ⟨d5, by rw [HRUN.out]; rfl, ?_, ?_⟩
  · rw [HRUN.out]
    exact (HR.out).keepB (kp8 (Kp.refl _ w6) (.inr rfl)) HB2.out rdZ_str
  · rw [HRUN.out]
    exact HB.out.fin HS0.out (HQ.out) (kp8 (Kp.refl _ w6) (.inr rfl))
set_option maxRecDepth 100000 in
set_option maxHeartbeats 1600000 in
theorem dp_4 (S : Nat → Prop) (w : World) (db : Nat) (p : Pl) (d : Rd) (x : DOp) (CA : Option Addr) (cn cc : Nat) (hq : Dq S w w db p) (hr : Rf w d p) (hO : DOk S w x CA cn cc) (hdk : ∀ b, S b → DkB w b) (hsm : p.sm 100000) (hdo : x.do_ = 4) :
    Calls Try.prog 34 #[ptrV db, rdV d p, .agg (dopV x CA cn cc)] w (DpPost S w db (p.sync x.name)) := by
  have hB := DpB.start hq hr hO hdk
  have HSM := Lib.hid hsm
  have HLT := Lib.hid hq.lt
  clear hq hr hO hdk hsm
  unfold rdC dopV rdZ at hB
  unfold rdV dopV
  rw [hdo]
  rw [hdo] at hB
  go_enter Try.func34, Try.ntmps34
  go_upto_region 1 with fail
  generalize (((w.alloc (.cells #[.bool true, .bool p.down, .slice d.fA d.fn d.fc, .slice d.pA d.pn d.pc, .int .i64 p.room, .int .i64 p.steps, .int .i64 p.crash, .int .i64 p.starts] 56)).alloc (.cells #[.int .i64 4, .int .i64 x.a, .int .i64 x.at_, .int .i64 x.n, .string x.name, .string x.data, .slice CA cn cc] 72)).alloc (.cells #[.bool false, .bool false, .slice none 0 0, .slice none 0 0, .int .i64 0, .int .i64 0, .int .i64 0, .int .i64 0] 56)) = w3 at hB ⊢
  generalize hs0 : w.heap.size = s0 at hB ⊢
  have HS0 := Lib.hid hs0
  have HB := Lib.hid hB
  clear hs0 hB
  have hl2 := HB.out.b2.lt
  have hl1 := HB.out.b1.lt
  have hl0 := HB.out.b0.lt
  obtain ⟨o0, o1, o2, o3, o4, o5, o6⟩ := dopC7 HB.out.b1
  rw [hdo] at o0
  obtain ⟨c0, c1, c2, c3, c4, c5, c6, c7⟩ := HB.out.b0.rdc
  obtain ⟨y0, y1, y2, y3, y4, y5, y6, y7⟩ := HB.out.b2.c8
  obtain ⟨z0, z1, z2, z3, z4, z5, z6, z7⟩ := HB.out.b2.z8
  obtain ⟨x0, x1, x2, x3, x4, x5, x6, x7⟩ := HB.out.b0.z8
  go_wp2_with fail
  refine (show Calls _ _ #[ptrV db, .string x.name] _ _ from sync_q HB.out.q x.name HB.out.o.nl (sm_mono HSM.out (by omega))).mono ?_
  rintro e w4 ⟨rfl, hq⟩
  have HQ := Lib.hid hq
  obtain ⟨_, b0, b1, b2, r, o⟩ := HB.out.to hq.kp
  have HB0 := Lib.hid b0
  have HB1 := Lib.hid b1
  have HB2 := Lib.hid b2
  have HR := Lib.hid r
  have HO := Lib.hid o
  clear hq b0 b1 b2 r o c0 c1 c2 c3 c4 c5 c6 c7 y0 y1 y2 y3 y4 y5 y6 y7 z0 z1 z2 z3 z4 z5 z6 z7 x0 x1 x2 x3 x4 x5 x6 x7 o0 o1 o2 o3 o4 o5 o6 hl0 hl1 hl2
  have hl2 := HB2.out.lt
  have hl1 := HB1.out.lt
  have hl0 := HB0.out.lt
  obtain ⟨o0, o1, o2, o3, o4, o5, o6⟩ := dopC7 HB1.out
  obtain ⟨c0, c1, c2, c3, c4, c5, c6, c7⟩ := HB0.out.rdc
  obtain ⟨y0, y1, y2, y3, y4, y5, y6, y7⟩ := HB2.out.c8
  obtain ⟨z0, z1, z2, z3, z4, z5, z6, z7⟩ := HB2.out.z8
  obtain ⟨x0, x1, x2, x3, x4, x5, x6, x7⟩ := HB0.out.z8
  go_wp2_with fail
  refine (show Calls _ _ #[rdV d p, .string x.name] _ _ from sync_okR w4 d p x.name HR.out HB.out.o.nl (by have := HSM.out; unfold Pl.sm at this; omega) (by have := HSM.out; unfold Pl.sm at this; omega)).mono ?_
  rintro e w5 ⟨d5, rfl, h5, hk5⟩
  obtain ⟨q, hqE⟩ : ∃ q, p.sync x.name = q := ⟨_, rfl⟩
  obtain ⟨E, hE⟩ : ∃ E, p.syncE = E := ⟨_, rfl⟩
  have HRUN := Lib.hid hqE
  rw [hqE] at h5 HQ ⊢
  rw [hE]
  clear hqE hE
  have HQ' := Lib.hid (HQ.out.keep hk5)
  have HB0' := Lib.hid (HB0.out.keep hk5 (fun q => q))
  have HB1' := Lib.hid (HB1.out.keep hk5 (fun q => q))
  have HB2' := Lib.hid (HB2.out.keep hk5 (fun q => q))
  have HR' := Lib.hid h5
  have HO' := Lib.hid (HO.out.keep (hk5.mono (fun _ _ q => q.elim)))
  clear hk5 h5 HQ HB0 HB1 HB2 HR HO c0 c1 c2 c3 c4 c5 c6 c7 y0 y1 y2 y3 y4 y5 y6 y7 z0 z1 z2 z3 z4 z5 z6 z7 x0 x1 x2 x3 x4 x5 x6 x7 o0 o1 o2 o3 o4 o5 o6 hl0 hl1 hl2
  have HQ := HQ'
  have HB0 := HB0'
  have HB1 := HB1'
  have HB2 := HB2'
  have HR := HR'
  have HO := HO'
  clear HQ' HB0' HB1' HB2' HR' HO'
  have hl2 := HB2.out.lt
  have hl1 := HB1.out.lt
  have hl0 := HB0.out.lt
  obtain ⟨o0, o1, o2, o3, o4, o5, o6⟩ := dopC7 HB1.out
  obtain ⟨c0, c1, c2, c3, c4, c5, c6, c7⟩ := HB0.out.rdc
  obtain ⟨y0, y1, y2, y3, y4, y5, y6, y7⟩ := HB2.out.c8
  obtain ⟨z0, z1, z2, z3, z4, z5, z6, z7⟩ := HB2.out.z8
  obtain ⟨x0, x1, x2, x3, x4, x5, x6, x7⟩ := HB0.out.z8
  unfold rdV
  go_upto_region 17 with fail
  have hg2 : Blk (w5.alloc (.cells (rdC d5 q) 56)) w5.heap.size 56 (rdC d5 q) := Blk.new _ _ _
  have hk5 : Kp NoB w5 (w5.alloc (.cells (rdC d5 q) 56)) := (Kp.refl NoB w5).alloc _
  have h5 : Rf (w5.alloc (.cells (rdC d5 q) 56)) d5 (q) := HR.out.keep hk5
  unfold rdC at hg2 hk5 h5
  generalize hg : w5.heap.size = g at hg2 ⊢
  have hgl : s0 + 1 + 1 < g := by have := HB2.out.lt; omega
  generalize (w5.alloc (.cells #[.bool true, .bool (q).down, .slice d5.fA d5.fn d5.fc, .slice d5.pA d5.pn d5.pc, .int .i64 (q).room, .int .i64 (q).steps, .int .i64 (q).crash, .int .i64 (q).starts] 56)) = w6 at hg2 hk5 h5 ⊢
  have HG2 := Lib.hid (show Blk w6 g 56 (rdC d5 q) from hg2)
  have HGL := Lib.hid hgl
  have HKB := Lib.hid hk5
  clear hg2 hg hgl
  have HQ' := Lib.hid (HQ.out.keep hk5)
  have HB0' := Lib.hid (HB0.out.keep hk5 (fun q => q))
  have HB1' := Lib.hid (HB1.out.keep hk5 (fun q => q))
  have HB2' := Lib.hid (HB2.out.keep hk5 (fun q => q))
  have HR' := Lib.hid h5
  have HO' := Lib.hid (HO.out.keep (hk5.mono (fun _ _ q => q.elim)))
  clear hk5 h5 HQ HB0 HB1 HB2 HR HO c0 c1 c2 c3 c4 c5 c6 c7 y0 y1 y2 y3 y4 y5 y6 y7 z0 z1 z2 z3 z4 z5 z6 z7 x0 x1 x2 x3 x4 x5 x6 x7 o0 o1 o2 o3 o4 o5 o6 hl0 hl1 hl2
  have HQ := HQ'
  have HB0 := HB0'
  have HB1 := HB1'
  have HB2 := HB2'
  have HR := HR'
  have HO := HO'
  clear HQ' HB0' HB1' HB2' HR' HO'
  have hl2 := HB2.out.lt
  have hl1 := HB1.out.lt
  have hl0 := HB0.out.lt
  obtain ⟨o0, o1, o2, o3, o4, o5, o6⟩ := dopC7 HB1.out
  obtain ⟨c0, c1, c2, c3, c4, c5, c6, c7⟩ := HB0.out.rdc
  obtain ⟨y0, y1, y2, y3, y4, y5, y6, y7⟩ := HB2.out.c8
  obtain ⟨z0, z1, z2, z3, z4, z5, z6, z7⟩ := HB2.out.z8
  obtain ⟨x0, x1, x2, x3, x4, x5, x6, x7⟩ := HB0.out.z8
  obtain ⟨g0, g1, g2, g3, g4, g5, g6, g7⟩ := HG2.out.rdc
  have hgs := HG2.out.lt
  have hgg : s0 < g ∧ s0 + 1 < g ∧ s0 + 1 + 1 < g := by have := HGL.out; omega
  go_wp2_with fail
  refine bodyPost_ret (ret_cell_tmp rfl _ _ _ _ _ _ rfl (blk8 HB2.out rfl) Try.underlying56 rfl (by exact infoRd) _ rfl) rfl ⟨d5, by rw [HRUN.out]; rfl, ?_, ?_⟩
  · rw [HRUN.out]
    exact (HR.out).keepB (kp8 (Kp.refl _ w6) (.inr rfl)) HB2.out rdZ_str
  · rw [HRUN.out]
    exact HB.out.fin HS0.out (HQ.out) (kp8 (Kp.refl _ w6) (.inr rfl))
set_option maxRecDepth 100000 in
set_option maxHeartbeats 1600000 in
theorem dp_5 (S : Nat → Prop) (w : World) (db : Nat) (p : Pl) (d : Rd) (x : DOp) (CA : Option Addr) (cn cc : Nat) (hq : Dq S w w db p) (hr : Rf w d p) (hO : DOk S w x CA cn cc) (hdk : ∀ b, S b → DkB w b) (hsm : p.sm 100000) (hdo : x.do_ = 5) :
    Calls Try.prog 34 #[ptrV db, rdV d p, .agg (dopV x CA cn cc)] w (DpPost S w db (p.setRoom x.n)) := by
  have hB := DpB.start hq hr hO hdk
  have HSM := Lib.hid hsm
  have HLT := Lib.hid hq.lt
  clear hq hr hO hdk hsm
  unfold rdC dopV rdZ at hB
  unfold rdV dopV
  rw [hdo]
  rw [hdo] at hB
  go_enter Try.func34, Try.ntmps34
  go_upto_region 1 with fail
  generalize (((w.alloc (.cells #[.bool true, .bool p.down, .slice d.fA d.fn d.fc, .slice d.pA d.pn d.pc, .int .i64 p.room, .int .i64 p.steps, .int .i64 p.crash, .int .i64 p.starts] 56)).alloc (.cells #[.int .i64 5, .int .i64 x.a, .int .i64 x.at_, .int .i64 x.n, .string x.name, .string x.data, .slice CA cn cc] 72)).alloc (.cells #[.bool false, .bool false, .slice none 0 0, .slice none 0 0, .int .i64 0, .int .i64 0, .int .i64 0, .int .i64 0] 56)) = w3 at hB ⊢
  generalize hs0 : w.heap.size = s0 at hB ⊢
  have HS0 := Lib.hid hs0
  have HB := Lib.hid hB
  clear hs0 hB
  have hl2 := HB.out.b2.lt
  have hl1 := HB.out.b1.lt
  have hl0 := HB.out.b0.lt
  obtain ⟨o0, o1, o2, o3, o4, o5, o6⟩ := dopC7 HB.out.b1
  rw [hdo] at o0
  obtain ⟨c0, c1, c2, c3, c4, c5, c6, c7⟩ := HB.out.b0.rdc
  obtain ⟨y0, y1, y2, y3, y4, y5, y6, y7⟩ := HB.out.b2.c8
  obtain ⟨z0, z1, z2, z3, z4, z5, z6, z7⟩ := HB.out.b2.z8
  obtain ⟨x0, x1, x2, x3, x4, x5, x6, x7⟩ := HB.out.b0.z8
  go_wp2_with fail
  refine (setroom_q HB.out.q x.n HB.out.o.rn).mono ?_
  rintro e w4 ⟨rfl, hq⟩
  have HQ := Lib.hid hq
  obtain ⟨_, b0, b1, b2, r, o⟩ := HB.out.to hq.kp
  have HB0 := Lib.hid b0
  have HB1 := Lib.hid b1
  have HB2 := Lib.hid b2
  have HR := Lib.hid r
  have HO := Lib.hid o
  clear hq b0 b1 b2 r o c0 c1 c2 c3 c4 c5 c6 c7 y0 y1 y2 y3 y4 y5 y6 y7 z0 z1 z2 z3 z4 z5 z6 z7 x0 x1 x2 x3 x4 x5 x6 x7 o0 o1 o2 o3 o4 o5 o6 hl0 hl1 hl2
  have hl2 := HB2.out.lt
  have hl1 := HB1.out.lt
  have hl0 := HB0.out.lt
  obtain ⟨o0, o1, o2, o3, o4, o5, o6⟩ := dopC7 HB1.out
  obtain ⟨c0, c1, c2, c3, c4, c5, c6, c7⟩ := HB0.out.rdc
  obtain ⟨y0, y1, y2, y3, y4, y5, y6, y7⟩ := HB2.out.c8
  obtain ⟨z0, z1, z2, z3, z4, z5, z6, z7⟩ := HB2.out.z8
  obtain ⟨x0, x1, x2, x3, x4, x5, x6, x7⟩ := HB0.out.z8
  go_wp2_with fail
  · rename_i hpos
    have hE : Hid (max 0 x.n = x.n) := Lib.hid (by omega)
    have hne : s0 + 1 + 1 ≠ s0 := by omega
    have kA : Kp (OnB s0) w4 (w4.setCell ⟨s0, 4, none⟩ (Value.int .i64 x.n)) := (Kp.refl (OnB s0) w4).setAt (g := s0) rfl 4 _
    have hz := HB2.out.keep kA (fun q => hne q)
    refine bodyPost_ret (ret_cell_tmp rfl _ _ _ _ _ _ rfl (blk9 HB2.out rfl hne) Try.underlying56 rfl (by exact infoRd) _ rfl) rfl ⟨d, ?_, ?_, ?_⟩
    · unfold rdV Pl.setRoom
      first | rw [hE.out] | skip
      rfl
    · exact ((HR.out.setRoom x.n HB.out.o.rn.2).keepB kA HB0.out (rdC_str _ _)).keepB (kp8 (Kp.refl _ _) (.inr rfl)) hz rdZ_str
    · exact HB.out.fin2 HS0.out HQ.out (kp9 (Kp.refl _ _) (.inr (.inl rfl)) (.inr (.inr rfl)))
  · rename_i hpos
    have hE : Hid (max 0 x.n = 0) := Lib.hid (by omega)
    have hne : s0 + 1 + 1 ≠ s0 := by omega
    have kA : Kp (OnB s0) w4 (w4.setCell ⟨s0, 4, none⟩ (Value.int .i64 0)) := (Kp.refl (OnB s0) w4).setAt (g := s0) rfl 4 _
    have hz := HB2.out.keep kA (fun q => hne q)
    refine bodyPost_ret (ret_cell_tmp rfl _ _ _ _ _ _ rfl (blk9 HB2.out rfl hne) Try.underlying56 rfl (by exact infoRd) _ rfl) rfl ⟨d, ?_, ?_, ?_⟩
    · unfold rdV Pl.setRoom
      first | rw [hE.out] | skip
      rfl
    · exact ((HR.out.setRoom x.n HB.out.o.rn.2).keepB kA HB0.out (rdC_str _ _)).keepB (kp8 (Kp.refl _ _) (.inr rfl)) hz rdZ_str
    · exact HB.out.fin2 HS0.out HQ.out (kp9 (Kp.refl _ _) (.inr (.inl rfl)) (.inr (.inr rfl)))
set_option maxRecDepth 100000 in
set_option maxHeartbeats 1600000 in
theorem dp_6 (S : Nat → Prop) (w : World) (db : Nat) (p : Pl) (d : Rd) (x : DOp) (CA : Option Addr) (cn cc : Nat) (hq : Dq S w w db p) (hr : Rf w d p) (hO : DOk S w x CA cn cc) (hdk : ∀ b, S b → DkB w b) (hsm : p.sm 100000) (hdo : x.do_ = 6) :
    Calls Try.prog 34 #[ptrV db, rdV d p, .agg (dopV x CA cn cc)] w (DpPost S w db (p.crashIn x.n)) := by
  have hB := DpB.start hq hr hO hdk
  have HSM := Lib.hid hsm
  have HLT := Lib.hid hq.lt
  clear hq hr hO hdk hsm
  unfold rdC dopV rdZ at hB
  unfold rdV dopV
  rw [hdo]
  rw [hdo] at hB
  go_enter Try.func34, Try.ntmps34
  go_upto_region 1 with fail
  generalize (((w.alloc (.cells #[.bool true, .bool p.down, .slice d.fA d.fn d.fc, .slice d.pA d.pn d.pc, .int .i64 p.room, .int .i64 p.steps, .int .i64 p.crash, .int .i64 p.starts] 56)).alloc (.cells #[.int .i64 6, .int .i64 x.a, .int .i64 x.at_, .int .i64 x.n, .string x.name, .string x.data, .slice CA cn cc] 72)).alloc (.cells #[.bool false, .bool false, .slice none 0 0, .slice none 0 0, .int .i64 0, .int .i64 0, .int .i64 0, .int .i64 0] 56)) = w3 at hB ⊢
  generalize hs0 : w.heap.size = s0 at hB ⊢
  have HS0 := Lib.hid hs0
  have HB := Lib.hid hB
  clear hs0 hB
  have hl2 := HB.out.b2.lt
  have hl1 := HB.out.b1.lt
  have hl0 := HB.out.b0.lt
  obtain ⟨o0, o1, o2, o3, o4, o5, o6⟩ := dopC7 HB.out.b1
  rw [hdo] at o0
  obtain ⟨c0, c1, c2, c3, c4, c5, c6, c7⟩ := HB.out.b0.rdc
  obtain ⟨y0, y1, y2, y3, y4, y5, y6, y7⟩ := HB.out.b2.c8
  obtain ⟨z0, z1, z2, z3, z4, z5, z6, z7⟩ := HB.out.b2.z8
  obtain ⟨x0, x1, x2, x3, x4, x5, x6, x7⟩ := HB.out.b0.z8
  go_wp2_with fail
  refine (crashin_q HB.out.q x.n HB.out.o.rn).mono ?_
  rintro e w4 ⟨rfl, hq⟩
  have HQ := Lib.hid hq
  obtain ⟨_, b0, b1, b2, r, o⟩ := HB.out.to hq.kp
  have HB0 := Lib.hid b0
  have HB1 := Lib.hid b1
  have HB2 := Lib.hid b2
  have HR := Lib.hid r
  have HO := Lib.hid o
  clear hq b0 b1 b2 r o c0 c1 c2 c3 c4 c5 c6 c7 y0 y1 y2 y3 y4 y5 y6 y7 z0 z1 z2 z3 z4 z5 z6 z7 x0 x1 x2 x3 x4 x5 x6 x7 o0 o1 o2 o3 o4 o5 o6 hl0 hl1 hl2
  have hl2 := HB2.out.lt
  have hl1 := HB1.out.lt
  have hl0 := HB0.out.lt
  obtain ⟨o0, o1, o2, o3, o4, o5, o6⟩ := dopC7 HB1.out
  obtain ⟨c0, c1, c2, c3, c4, c5, c6, c7⟩ := HB0.out.rdc
  obtain ⟨y0, y1, y2, y3, y4, y5, y6, y7⟩ := HB2.out.c8
  obtain ⟨z0, z1, z2, z3, z4, z5, z6, z7⟩ := HB2.out.z8
  obtain ⟨x0, x1, x2, x3, x4, x5, x6, x7⟩ := HB0.out.z8
  go_wp2_with fail
  · rename_i hpos
    have hE : Hid (max 0 x.n = x.n) := Lib.hid (by omega)
    have hne : s0 + 1 + 1 ≠ s0 := by omega
    have kA : Kp (OnB s0) w4 (w4.setCell ⟨s0, 6, none⟩ (Value.int .i64 x.n)) := (Kp.refl (OnB s0) w4).setAt (g := s0) rfl 6 _
    have hz := HB2.out.keep kA (fun q => hne q)
    refine bodyPost_ret (ret_cell_tmp rfl _ _ _ _ _ _ rfl (blk9 HB2.out rfl hne) Try.underlying56 rfl (by exact infoRd) _ rfl) rfl ⟨d, ?_, ?_, ?_⟩
    · unfold rdV Pl.crashIn
      first | rw [hE.out] | skip
      rfl
    · exact ((HR.out.crashIn x.n HB.out.o.rn.2).keepB kA HB0.out (rdC_str _ _)).keepB (kp8 (Kp.refl _ _) (.inr rfl)) hz rdZ_str
    · exact HB.out.fin2 HS0.out HQ.out (kp9 (Kp.refl _ _) (.inr (.inl rfl)) (.inr (.inr rfl)))
  · rename_i hpos
    have hE : Hid (max 0 x.n = 0) := Lib.hid (by omega)
    have hne : s0 + 1 + 1 ≠ s0 := by omega
    have kA : Kp (OnB s0) w4 (w4.setCell ⟨s0, 6, none⟩ (Value.int .i64 0)) := (Kp.refl (OnB s0) w4).setAt (g := s0) rfl 6 _
    have hz := HB2.out.keep kA (fun q => hne q)
    refine bodyPost_ret (ret_cell_tmp rfl _ _ _ _ _ _ rfl (blk9 HB2.out rfl hne) Try.underlying56 rfl (by exact infoRd) _ rfl) rfl ⟨d, ?_, ?_, ?_⟩
    · unfold rdV Pl.crashIn
      first | rw [hE.out] | skip
      rfl
    · exact ((HR.out.crashIn x.n HB.out.o.rn.2).keepB kA HB0.out (rdC_str _ _)).keepB (kp8 (Kp.refl _ _) (.inr rfl)) hz rdZ_str
    · exact HB.out.fin2 HS0.out HQ.out (kp9 (Kp.refl _ _) (.inr (.inl rfl)) (.inr (.inr rfl)))
set_option maxRecDepth 100000 in
set_option maxHeartbeats 1600000 in
theorem dp_7 (S : Nat → Prop) (w : World) (db : Nat) (p : Pl) (d : Rd) (x : DOp) (CA : Option Addr) (cn cc : Nat) (hq : Dq S w w db p) (hr : Rf w d p) (hO : DOk S w x CA cn cc) (hdk : ∀ b, S b → DkB w b) (hsm : p.sm 100000) (hdo : x.do_ = 7) :
    Calls Try.prog 34 #[ptrV db, rdV d p, .agg (dopV x CA cn cc)] w (DpPost S w db (p.crashNow)) := by
  have hB := DpB.start hq hr hO hdk
  have HSM := Lib.hid hsm
  have HLT := Lib.hid hq.lt
  clear hq hr hO hdk hsm
  unfold rdC dopV rdZ at hB
  unfold rdV dopV
  rw [hdo]
  rw [hdo] at hB
  go_enter Try.func34, Try.ntmps34
  go_upto_region 1 with fail
  generalize (((w.alloc (.cells #[.bool true, .bool p.down, .slice d.fA d.fn d.fc, .slice d.pA d.pn d.pc, .int .i64 p.room, .int .i64 p.steps, .int .i64 p.crash, .int .i64 p.starts] 56)).alloc (.cells #[.int .i64 7, .int .i64 x.a, .int .i64 x.at_, .int .i64 x.n, .string x.name, .string x.data, .slice CA cn cc] 72)).alloc (.cells #[.bool false, .bool false, .slice none 0 0, .slice none 0 0, .int .i64 0, .int .i64 0, .int .i64 0, .int .i64 0] 56)) = w3 at hB ⊢
  generalize hs0 : w.heap.size = s0 at hB ⊢
  have HS0 := Lib.hid hs0
  have HB := Lib.hid hB
  clear hs0 hB
  have hl2 := HB.out.b2.lt
  have hl1 := HB.out.b1.lt
  have hl0 := HB.out.b0.lt
  obtain ⟨o0, o1, o2, o3, o4, o5, o6⟩ := dopC7 HB.out.b1
  rw [hdo] at o0
  obtain ⟨c0, c1, c2, c3, c4, c5, c6, c7⟩ := HB.out.b0.rdc
  obtain ⟨y0, y1, y2, y3, y4, y5, y6, y7⟩ := HB.out.b2.c8
  obtain ⟨z0, z1, z2, z3, z4, z5, z6, z7⟩ := HB.out.b2.z8
  obtain ⟨x0, x1, x2, x3, x4, x5, x6, x7⟩ := HB.out.b0.z8
  go_wp2_with fail
  refine (crash_q HB.out.q).mono ?_
  rintro e w4 ⟨rfl, hq⟩
  have HQ := Lib.hid hq
  obtain ⟨_, b0, b1, b2, r, o⟩ := HB.out.to hq.kp
  have HB0 := Lib.hid b0
  have HB1 := Lib.hid b1
  have HB2 := Lib.hid b2
  have HR := Lib.hid r
  have HO := Lib.hid o
  clear hq b0 b1 b2 r o c0 c1 c2 c3 c4 c5 c6 c7 y0 y1 y2 y3 y4 y5 y6 y7 z0 z1 z2 z3 z4 z5 z6 z7 x0 x1 x2 x3 x4 x5 x6 x7 o0 o1 o2 o3 o4 o5 o6 hl0 hl1 hl2
  have hl2 := HB2.out.lt
  have hl1 := HB1.out.lt
  have hl0 := HB0.out.lt
  obtain ⟨o0, o1, o2, o3, o4, o5, o6⟩ := dopC7 HB1.out
  obtain ⟨c0, c1, c2, c3, c4, c5, c6, c7⟩ := HB0.out.rdc
  obtain ⟨y0, y1, y2, y3, y4, y5, y6, y7⟩ := HB2.out.c8
  obtain ⟨z0, z1, z2, z3, z4, z5, z6, z7⟩ := HB2.out.z8
  obtain ⟨x0, x1, x2, x3, x4, x5, x6, x7⟩ := HB0.out.z8
  have hE : Hid (p.crashNow.down = true) := Lib.hid rfl
  go_wp2_with fail
  have hne : s0 + 1 + 1 ≠ s0 := by omega
  have kA : Kp (OnB s0) w4 (w4.setCell ⟨s0, 1, none⟩ (Value.bool true)) := (Kp.refl (OnB s0) w4).setAt (g := s0) rfl 1 _
  have hz := HB2.out.keep kA (fun q => hne q)
  refine bodyPost_ret (ret_cell_tmp rfl _ _ _ _ _ _ rfl (blk9 HB2.out rfl hne) Try.underlying56 rfl (by exact infoRd) _ rfl) rfl ⟨d, ?_, ?_, ?_⟩
  · unfold rdV Pl.crashNow
    first | rw [hE.out] | skip
    rfl
  · exact ((HR.out.crashNow).keepB kA HB0.out (rdC_str _ _)).keepB (kp8 (Kp.refl _ _) (.inr rfl)) hz rdZ_str
  · exact HB.out.fin2 HS0.out HQ.out (kp9 (Kp.refl _ _) (.inr (.inl rfl)) (.inr (.inr rfl)))
end Go.Proofs.Ytegcbdfilkecpaa
