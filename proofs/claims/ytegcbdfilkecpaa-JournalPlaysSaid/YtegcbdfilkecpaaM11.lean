/- Texts of this proof, one behind the other: lemmas and contracts; each says its own conditions. -/
import Derived.Test.YtegcbdfilkecpaaM5
import Derived.Test.YtegcbdfilkecpaaM7
import Derived.Test.YtegcbdfilkecpaaM10
/- The reference's disk: files that are seen as they are kept, in plain Lean; what a row of changes and choices makes. -/
namespace Go.Proofs.Ytegcbdfilkecpaa
open Go.RowKit

def keepF (f : Rfile) : Rfile := { f with seen := f.kept }
theorem find_keep (fs : List Rfile) (s : ByteArray) : findR (fs.map keepF) s = (findR fs s).map keepF := by
  unfold findR
  induction fs with
  | nil => rfl
  | cons f r ih =>
    rw [List.map_cons]
    by_cases h : f.nm = s
    · rw [List.find?_cons_of_pos (by show decide (f.nm = s) = true; exact decide_eq_true h), List.find?_cons_of_pos (by simpa using h)]
      rfl
    · rw [List.find?_cons_of_neg (by show ¬ decide (f.nm = s) = true; rw [decide_eq_false h]; decide), List.find?_cons_of_neg (by simpa using h)]
      exact ih
theorem seen_keep (fs : List Rfile) : seenR (fs.map keepF) = keptR fs := by
  funext s
  unfold seenR keptR
  rw [find_keep]
  cases findR fs s <;> rfl
theorem kept_keep (fs : List Rfile) : keptR (fs.map keepF) = keptR fs := by
  funext s
  unfold keptR
  rw [find_keep]
  cases findR fs s <;> rfl
theorem sum_keep (fs : List Rfile) : sumR (fs.map keepF) = ksumR fs ∧ ksumR (fs.map keepF) = ksumR fs := by
  unfold sumR ksumR
  rw [List.map_map, List.map_map]
  exact ⟨rfl, rfl⟩
theorem names_keep {fs : List Rfile} (h : fs.Pairwise fun x y => x.nm ≠ y.nm) : (fs.map keepF).Pairwise fun x y => x.nm ≠ y.nm := List.pairwise_map.2 h
theorem ok_keep {fs : List Rfile} (h : ∀ f ∈ fs, RfOk f) : ∀ f ∈ fs.map keepF, RfOk f := by
  intro f hf
  obtain ⟨x, hx, rfl⟩ := List.mem_map.1 hf
  have := h x hx
  exact ⟨this.nl, this.krng, this.krng, this.kl, this.kl⟩
/-- the first k of the files as they are kept -/
def keepK (fs : List Rfile) (k : Nat) : List Rfile := (fs.take k).map keepF ++ fs.drop k
theorem keepK_all (fs : List Rfile) {k : Nat} (h : fs.length ≤ k) : keepK fs k = fs.map keepF := by
  unfold keepK
  rw [List.take_of_length_le h, List.drop_eq_nil_of_le h, List.append_nil]
theorem keepK_zero (fs : List Rfile) : keepK fs 0 = fs := by simp [keepK]
theorem keepK_at {fs : List Rfile} {k : Nat} {f : Rfile} (h : fs[k]? = some f) : (keepK fs k)[k]? = some f ∧ keepK fs (k + 1) = (keepK fs k).set k (keepF f) := by
  obtain ⟨hk, rfl⟩ := List.getElem?_eq_some_iff.1 h
  have hl : ((fs.take k).map keepF).length = k := by rw [List.length_map, List.length_take]; omega
  constructor
  · unfold keepK
    rw [List.getElem?_append_right (by omega), hl, Nat.sub_self, List.getElem?_drop, Nat.add_zero, h]
  · unfold keepK
    rw [List.set_append_right _ _ (by omega), hl, Nat.sub_self, List.drop_eq_getElem_cons hk, List.set_cons_zero, List.take_add_one, List.getElem?_eq_getElem hk, Option.toList_some, List.map_append, List.append_assoc]
    rfl
/-- a row of changes by choices, one more -/
theorem survive_cons (p : Pl) (c : Cg) (cs : List Cg) (ch : Int) (r : List Int) : p.survive (c :: cs) (ch :: r) = (p.at_.setKept c.nm (Pl.made (p.kept c.nm) c ch)).survive cs r := by
  rw [Pl.survive]
theorem survive_stop (p : Pl) (cs : List Cg) (r : List Int) (h : cs = [] ∨ r = []) : p.survive cs r = p := by
  rcases h with rfl | rfl
  · unfold Pl.survive; rfl
  · cases cs <;> (unfold Pl.survive; rfl)
theorem made_fine {l : List Int} {c : Cg} (ch : Int) (hl : l.length ≤ 1048576) (hr : ∀ y ∈ l, 0 ≤ y ∧ y < 256) (hc : CgOk c) : (Pl.made l c ch).length ≤ 1048576 ∧ ∀ y ∈ Pl.made l c ch, 0 ≤ y ∧ y < 256 := by
  unfold Pl.made
  split
  · exact ⟨hl, hr⟩
  · split
    · rename_i h2
      have hn : c.n.toNat ≤ 1048576 := by
        rcases hc.kind with ⟨_, _, _, h⟩ | ⟨_, h, _⟩
        · omega
        · omega
      exact ⟨by rw [sizedF_len]; exact hn, sizedF_rng hr _⟩
    · constructor
      · unfold Pl.put
        simp only [List.length_append, List.length_take, List.length_drop]
        omega
      · intro y hy
        unfold Pl.put at hy
        rcases List.mem_append.1 hy with q | q
        · rcases List.mem_append.1 q with q | q
          · exact hr y (List.mem_of_mem_take q)
          · exact hc.rng y (List.mem_of_mem_take (List.mem_of_mem_take q))
        · exact hr y (List.mem_of_mem_drop q)
theorem Rows.set1 {w : World} {g o n k : Nat} {a b c v : Value} {xs : List (List Value)} (h : Rows w (some ⟨g, o, none⟩) n 3 xs) (hk : xs[k]? = some [a, b, c]) : Rows (w.setCell ⟨g, o + k * 3 + 1, none⟩ v) (some ⟨g, o, none⟩) n 3 (xs.set k [a, v, c]) := by
  obtain ⟨hkl, hke⟩ := List.getElem?_eq_some_iff.1 hk
  refine ⟨by rw [List.length_set]; exact h.1, fun x hx => ?_, fun hn => ?_⟩
  · rcases List.mem_or_eq_of_mem_set hx with q | q
    · exact h.2.1 x q
    · rw [q]; rfl
  · obtain ⟨g', o', t, cs, e, hb, hs, hc⟩ := h.2.2 hn
    injection e with e
    injection e with e1 e2
    subst e1 e2
    refine ⟨g, o, t, cs.setIfInBounds (o + k * 3 + 1) v, rfl, hb.set_ _ _, by rw [Array.size_setIfInBounds]; exact hs, fun i hi j hj => ?_⟩
    rw [List.length_set] at hi
    have h1 := h.1
    rw [Array.getElem?_setIfInBounds, List.getElem_set]
    by_cases hik : k = i
    · subst hik
      rw [if_pos rfl]
      by_cases hj1 : j = 1
      · subst hj1
        rw [if_pos rfl, if_pos (by omega)]
        rfl
      · rw [if_neg (by omega), hc k hi j hj, hke]
        rcases j with _ | _ | _ | j
        · rfl
        · omega
        · rfl
        · omega
    · rw [if_neg (by omega), if_neg hik, hc i hi j hj]
end Go.Proofs.Ytegcbdfilkecpaa
/- The reference's disk: Restart, on the plain state; condition: fewer than 2^39 files and changes. -/
namespace Go.Proofs.Ytegcbdfilkecpaa
open Go.RowKit

def RsRel (w : World) (s0 : Nat) (p : Pl) (chs : List Int) (v6 : Value) (wr : World) : Prop :=
  ∃ (k : Nat) (dk : Rd) (pk : Pl), v6 = .int .i64 (k : Int) ∧ k ≤ p.pd.length ∧ k ≤ chs.length ∧ Blk wr s0 56 (rdC dk p) ∧ Rf wr dk pk ∧ (pk.down = p.down ∧ pk.room = p.room ∧ pk.steps = p.steps ∧ pk.crash = p.crash ∧ pk.starts = p.starts) ∧ pk.pd = p.pd ∧
    p.survive p.pd chs = pk.survive (p.pd.drop k) (chs.drop k) ∧ pk.nf ≤ p.nf + k ∧ Blk wr (s0 + 1) 56 rdZ ∧ Kp NoB w wr
theorem infoRf3 : (Try.prog.info? 137).map (·.size) = some 3 := by kernel_rfl
def rdL (d : Rd) (p : Pl) : List Value := [.bool true, .bool p.down, .slice d.fA d.fn d.fc, .slice d.pA d.pn d.pc, .int .i64 p.room, .int .i64 p.steps, .int .i64 p.crash, .int .i64 p.starts]
theorem infoRd8 (d : Rd) (p : Pl) : (Try.prog.info? 56).map (·.size) = some (rdL d p).length := infoRd
theorem Blk.spd {w : World} {g : Nat} {t : TypeId} {d : Rd} {p : Pl} (h : Blk w g t (rdC d p)) : w.rangeAt g 0 (rdL d p) := Blk.sp (cs := rdL d p) h
theorem fil_ones (s : ByteArray) (l k : List Int) : (fileV s l k).all (·.oneCell') = true := by simp [fileV, Value.oneCell']
def RkRel (wq : World) (B : Option Addr) (fs : List Rfile) (n : Nat) (v9 : Value) (wr : World) : Prop :=
  ∃ k : Nat, v9 = .int .i64 (k : Int) ∧ k ≤ n ∧ Rows wr B n 3 ((keepK fs k).map rfCells) ∧ Kp NoB wq wr
set_option maxRecDepth 100000 in
set_option maxHeartbeats 1600000 in
theorem restart_okR (w : World) (d : Rd) (p : Pl) (C : Option Addr) (m cc : Nat) (chs : List Int) (h : Rf w d p) (hC : Nums w C m chs) (hch : ∀ y ∈ chs, -9223372036854775808 ≤ y ∧ y ≤ 9223372036854775807) (hm : m ≤ 9223372036854775807) (hnf : p.nf < 549755813888) (hpd : p.pd.length < 549755813888) :
    Calls Try.prog 77 #[rdV d p, .slice C m cc] w fun e w' => ∃ d', e = .returned (.tuple #[rdV d' (p.restart chs), .int .i64 p.restartE]) ∧ Rf w' d' (p.restart chs) ∧ Kp NoB w w' := by
  have H := Lib.hid h
  have HC := Lib.hid hC
  have HCH := Lib.hid hch
  have HM := Lib.hid hm
  have HNF := Lib.hid hnf
  have HPD := Lib.hid hpd
  have hb0 : Blk ((w.alloc (.cells (rdC d p) 56)).alloc (.cells rdZ 56)) w.heap.size 56 (rdC d p) := (Blk.new w _ _).alloc _
  have hb2 : Blk ((w.alloc (.cells (rdC d p) 56)).alloc (.cells rdZ 56)) (w.heap.size + 1) 56 rdZ := Blk.top (by simp)
  have hk : Kp NoB w ((w.alloc (.cells (rdC d p) 56)).alloc (.cells rdZ 56)) := ((Kp.refl NoB w).alloc _).alloc _
  clear h hC hch hm hnf hpd
  by_cases hd : p.down = true
  · have HD := Lib.hid hd
    have hT : Hid (p.restart chs = { p.survive p.pd chs with seen := (p.survive p.pd chs).kept, sum := (p.survive p.pd chs).ksum, pd := [], steps := 0, crash := 0, down := false, starts := wrp (p.starts + 1) } ∧ p.restartE = 0) := Lib.hid (by unfold Pl.restart Pl.restartE; rw [hd]; exact ⟨rfl, rfl⟩)
    have hcl : chs.length = m := HC.out.1
    have HCL := Lib.hid hcl
    clear hcl
    rw [hT.out.1, hT.out.2]
    obtain ⟨q, hq⟩ : ∃ q, p.survive p.pd chs = q := ⟨_, rfl⟩
    have HQ := Lib.hid hq
    rw [hq]
    clear hq hT
    unfold rdV
    go_enter Try.func77, Try.ntmps77
    clear hd
    go_upto_region 1 with fail
    unfold rdC rdZ at hb0 hb2 hk
    generalize (w.alloc (.cells #[.bool true, .bool p.down, .slice d.fA d.fn d.fc, .slice d.pA d.pn d.pc, .int .i64 p.room, .int .i64 p.steps, .int .i64 p.crash, .int .i64 p.starts] 56)).alloc (.cells #[.bool false, .bool false, .slice none 0 0, .slice none 0 0, .int .i64 0, .int .i64 0, .int .i64 0, .int .i64 0] 56) = w2 at hb0 hb2 hk ⊢
    generalize hs0 : w.heap.size = s0 at hb0 hb2 ⊢
    have HS0 := Lib.hid hs0
    have HB0 : Hid (Blk w2 s0 56 (rdC d p)) := Lib.hid hb0
    have HB2 : Hid (Blk w2 (s0 + 1) 56 rdZ) := Lib.hid hb2
    have HK := Lib.hid hk
    clear hs0 hb0 hb2 hk
    have hl0 := HB0.out.lt
    have hl2 := HB2.out.lt
    obtain ⟨c0, c1, c2, c3, c4, c5, c6, c7⟩ := HB0.out.rdc
    obtain ⟨y0, y1, y2, y3, y4, y5, y6, y7⟩ := HB2.out.c8
    obtain ⟨z0, z1, z2, z3, z4, z5, z6, z7⟩ := HB2.out.z8
    rw [HD.out] at c1
    go_upto_region 6 with fail
    go_loopw [6, 7] (fun v6 v7 wr => RsRel w s0 p chs v6 wr) (fun v _ _ => p.pd.length - (intOf v).toNat)
    case atStart => exact ⟨0, d, p, rfl, Nat.zero_le _, Nat.zero_le _, HB0.out, H.out.keep HK.out, ⟨rfl, rfl, rfl, rfl, rfl⟩, rfl, rfl, Nat.le_refl _, HB2.out, HK.out⟩
    case round =>
      obtain ⟨wq, rfl⟩ : ∃ wq, wq = wr := ⟨_, rfl⟩
      obtain ⟨k, dk, pk, rfl, hk1, hk2, hb0, hr, hnum, hpk, hsv, hnk, hb2, hkp⟩ := hrel
      clear HB0 HB2 HK c0 c1 c2 c3 c4 c5 c6 c7 y0 y1 y2 y3 y4 y5 y6 y7 z0 z1 z2 z3 z4 z5 z6 z7 hl0 hl2
      have HB0 := Lib.hid hb0
      have HB2 := Lib.hid hb2
      have HK := Lib.hid hkp
      have HR := Lib.hid hr
      have HNUM := Lib.hid hnum
      have HPK := Lib.hid hpk
      have HSV := Lib.hid hsv
      have HNK := Lib.hid hnk
      have HK1 := Lib.hid hk1
      have HK2 := Lib.hid hk2
      have HPN : Hid (Rows wq dk.pA dk.pn 4 (p.pd.map rcCells)) := Lib.hid (by rw [← hpk]; exact hr.pend)
      have hpl : p.pd.length = dk.pn := by rw [← hpk]; exact hr.pl
      have HPL := Lib.hid hpl
      clear hb0 hb2 hkp hr hnum hpk hsv hnk
      have hl0 := HB0.out.lt
      have hl2 := HB2.out.lt
      obtain ⟨c0, c1, c2, c3, c4, c5, c6, c7⟩ := HB0.out.rdc
      obtain ⟨y0, y1, y2, y3, y4, y5, y6, y7⟩ := HB2.out.c8
      obtain ⟨z0, z1, z2, z3, z4, z5, z6, z7⟩ := HB2.out.z8
      obtain ⟨pA, hpA⟩ : ∃ x, dk.pA = x := ⟨_, rfl⟩
      obtain ⟨pn, hpn⟩ : ∃ x, dk.pn = x := ⟨_, rfl⟩
      obtain ⟨pc, hpc⟩ : ∃ x, dk.pc = x := ⟨_, rfl⟩
      have HPA := Lib.hid hpA
      have HPNN := Lib.hid hpn
      have HPC := Lib.hid hpc
      rw [hpA, hpn, hpc] at c3
      rw [hpA, hpn] at HPN
      rw [hpn] at HPL hpl
      clear hpA hpn hpc
      by_cases hlt : k < p.pd.length ∧ k < m
      · have hkk : (k : Int) < (pn : Int) := by omega
        have hkm : (k : Int) < (m : Int) := by omega
        have hpn63 : pn ≤ 9223372036854775807 := by have := HPD.out; omega
        have hm63 := HM.out
        obtain ⟨x, hx⟩ : ∃ x, p.pd[k]'hlt.1 = x := ⟨_, rfl⟩
        have hxk : p.pd[k]? = some x := by rw [List.getElem?_eq_getElem hlt.1, hx]
        obtain ⟨g, o, hpg, hg, hc⟩ := HPN.out.cell (k := k) (x := rcCells x) (by rw [List.getElem?_map, hxk]; rfl)
        subst hpg
        have q0 := hc 0 _ rfl
        have q1 := hc 1 _ rfl
        have q2 := hc 2 _ rfl
        have q3 := hc 3 _ rfl
        rw [Nat.add_zero] at q0
        have HXK := Lib.hid hxk
        have HG := Lib.hid hg
        obtain ⟨gc, oc, hC0, hgc, hcc⟩ := HC.out.2 (by omega)
        subst hC0
        obtain ⟨ch, hch⟩ : ∃ ch, chs.getD k 0 = ch := ⟨_, rfl⟩
        have hkc : k < chs.length := by have := HCL.out; omega
        have HCHK : Hid (chs[k]? = some ch) := Lib.hid (by rw [← hch, List.getD_eq_getElem?_getD, List.getElem?_eq_getElem hkc]; rfl)
        have HCR : Hid (-9223372036854775808 ≤ ch ∧ ch ≤ 9223372036854775807) := Lib.hid (HCH.out ch (List.mem_of_getElem? HCHK.out))
        have HCC : Hid (∀ V, Kp NoB w V → V.cell? ⟨gc, oc + k, none⟩ = some (.int .i64 ch)) := Lib.hid (fun V q => by rw [← hch]; exact (q.cell hgc (fun z => z)).trans (hcc k (by omega)))
        have HGC := Lib.hid hgc
        clear hcc hch hgc hkc
        have HS3 : Hid (∀ V, Kp NoB wq V → V.cell? ⟨s0, 3, none⟩ = some (.slice (some ⟨g, o, none⟩) pn pc)) := Lib.hid (fun V q => (q.cell hl0 (fun z => z)).trans c3)
        have HQ0 : Hid (∀ V, Kp NoB wq V → V.cell? ⟨g, o + k * 4, none⟩ = some (.string x.nm)) := Lib.hid (fun V q => (q.cell hg (fun z => z)).trans q0)
        have HQL : Hid (∀ V, Kp NoB wq V → V.rangeAt g (o + k * 4) (rcCells x)) := Lib.hid (fun V q j u hj => (q.cell hg (fun z => z)).trans (hc j u hj))
        have HCL9 : Hid (∀ V, Kp NoB wq V → Calls Try.prog 127 #[rdV dk p, .string x.nm] V fun e w' => e = .returned (.agg (fileV x.nm (pk.seen x.nm) (pk.kept x.nm))) ∧ Kp NoB V w') := Lib.hid (fun V q => by
          have hrv : rdV dk pk = rdV dk p := by unfold rdV; rw [HNUM.out.1, HNUM.out.2.1, HNUM.out.2.2.1, HNUM.out.2.2.2.1, HNUM.out.2.2.2.2]
          rw [← hrv]
          exact file_ok V dk pk x.nm (HR.out.keep q) (by have := HNK.out; have := HNF.out; have := HPD.out; have := HK1.out; omega))
        clear hx hxk hc
        go_upto_region 8 with fail
        apply wp_into (G := fun V f => Blk V f 137 (fileV x.nm (pk.seen x.nm) (pk.kept x.nm)) ∧ Kp NoB wq V ∧ wq.heap.size ≤ f)
        · refine wp_region_held_drew (S := fun V => Kp NoB wq V) (by kernel_rfl) (Kp.refl NoB wq).drew (fun hHeld => ?_)
          have k0 : Kp NoB wq wq.drew := (Kp.refl NoB wq).drew
          have hs0' : wq.heap.size ≤ wq.drew.heap.size := Nat.le_refl _
          generalize wq.drew = V0 at k0 hHeld hs0' ⊢
          have huw := Try.underlying56
          have hiw := infoRd8 dk p
          refine tkS (i := 0) (v := .agg ((rdL dk p)).toArray) rfl (yieldsIf_load_mid (by rfl) _ _ rfl _ _ rfl (rdL dk p) _ (fun V q => (HB0.out.keep q (fun z => z)).spd) huw rfl hiw) k0 ?_
          simp only [Act.put, skA, skB, skC]
          refine tkS (i := 1) (v := (.pointer (some ⟨s0, 3, none⟩))) rfl (Or.inl ⟨by rfl, fun w' hq => by go_simp⟩) k0 ?_
          simp only [Act.put, skA, skB, skC]
          refine tkS (i := 2) (v := (.slice (some ⟨g, o, none⟩) pn pc)) rfl (Or.inl ⟨by rfl, fun w' hq => by (have := HS3.out w' hq); go_simp⟩) k0 ?_
          simp only [Act.put, skA, skB, skC]
          refine tkS (i := 3) (v := (.int .i64 (k : Int))) rfl (Or.inl ⟨by rfl, fun w' hq => by go_simp⟩) k0 ?_
          simp only [Act.put, skA, skB, skC]
          refine tkS (i := 4) (v := (.pointer (some ⟨g, o + k * 4, none⟩))) rfl (Or.inl ⟨by rfl, fun w' hq => by go_simp⟩) k0 ?_
          simp only [Act.put, skA, skB, skC]
          refine tkS (i := 5) (v := (.pointer (some ⟨g, o + k * 4, none⟩))) rfl (Or.inl ⟨by rfl, fun w' hq => by go_simp⟩) k0 ?_
          simp only [Act.put, skA, skB, skC]
          refine tkS (i := 6) (v := (.string x.nm)) rfl (Or.inl ⟨by rfl, fun w' hq => by (have := HQ0.out w' hq); go_simp⟩) k0 ?_
          simp only [Act.put, skA, skB, skC]
          have hhz : ∀ V : World, Blk (V.alloc (.cells #[.string ⟨#[]⟩, .string ⟨#[]⟩, .string ⟨#[]⟩] 137)) V.heap.size 137 #[.string ⟨#[]⟩, .string ⟨#[]⟩, .string ⟨#[]⟩] := fun V => Blk.new V _ _
          refine wpAnyH_ready (rs := [7, 8]) (by kernel_rfl) (by simp) ?_
          refine AllReadyH.callR (fun y W' => y = .agg (fileV x.nm (pk.seen x.nm) (pk.kept x.nm)) ∧ Kp NoB wq W') rfl (by rfl) 127 #[rdV dk p, .string x.nm] (by first | (go_simp; done) | (go_simp; rfl)) (fun _ _ q => q.2) ((HCL9.out V0 k0).mono (by rintro e w' ⟨rfl, hk⟩; exact ⟨_, rfl, rfl, k0.trans hk (fun _ _ q => q)⟩)) ?_ ?_
          · rintro y V1 ⟨rfl, k1⟩
            simp only [Act.put, skA, skB, skC]
            refine wpAnyH_ready (rs := [8]) (by kernel_rfl) (by simp) ?_
            refine AllReadyH.valR (fun W' => W' = V1.alloc (.cells #[.string ⟨#[]⟩, .string ⟨#[]⟩, .string ⟨#[]⟩] 137)) rfl (by rfl) (.pointer (some ⟨V1.heap.size, 0, none⟩)) _ (by go_simp) (fun W' e => by rw [e]; exact k1.alloc _) rfl ?_ AllReadyH.nil
            rintro _ rfl
            simp only [Act.put, skA, skB, skC]
            have hbz := hhz V1
            have kz1 : Kp NoB wq ((V1.alloc (.cells #[.string ⟨#[]⟩, .string ⟨#[]⟩, .string ⟨#[]⟩] 137)).setCells V1.heap.size 0 (fileV x.nm (pk.seen x.nm) (pk.kept x.nm)).toList) := Kp.setCells (.inl k1.size) _ _ _ (k1.alloc _)
            refine wpAnyH_ready (rs := [9]) (by kernel_rfl) (by simp) ?_
            refine AllReadyH.storeL rfl (by rfl) V1.heap.size 0 (fileV x.nm (pk.seen x.nm) (pk.kept x.nm)) rfl rfl (hbz.thereAll _ rfl) infoRf3 (fil_ones _ _ _) kz1 ?_ AllReadyH.nil
            refine wpAnyH_done (by kernel_rfl) ?_ _
            have hbw := hbz.whole (fileV x.nm (pk.seen x.nm) (pk.kept x.nm)) rfl
            have hks := k1.size
            generalize V1.heap.size = ff at hbw kz1 hks ⊢
            exact into_of ff ⟨hbw, kz1, hks⟩ rfl
          · refine AllReadyH.valR (fun W' => W' = V0.alloc (.cells #[.string ⟨#[]⟩, .string ⟨#[]⟩, .string ⟨#[]⟩] 137)) rfl (by rfl) (.pointer (some ⟨V0.heap.size, 0, none⟩)) _ (by go_simp) (fun W' e => by rw [e]; exact k0.alloc _) rfl ?_ AllReadyH.nil
            rintro _ rfl
            simp only [Act.put, skA, skB, skC]
            have hbz := hhz V0
            have ka : Kp NoB wq (V0.alloc (.cells #[.string ⟨#[]⟩, .string ⟨#[]⟩, .string ⟨#[]⟩] 137)) := k0.alloc _
            generalize V0.alloc (.cells #[.string ⟨#[]⟩, .string ⟨#[]⟩, .string ⟨#[]⟩] 137) = Va at hbz ka ⊢
            have hks := k0.size
            generalize V0.heap.size = ff at hbz hks ⊢
            refine wpAnyH_ready (rs := [7]) (by kernel_rfl) (by simp) ?_
            refine AllReadyH.callR (fun y W' => y = .agg (fileV x.nm (pk.seen x.nm) (pk.kept x.nm)) ∧ Kp NoB Va W') rfl (by rfl) 127 #[rdV dk p, .string x.nm] (by first | (go_simp; done) | (go_simp; rfl)) (fun _ _ q => ka.trans q.2 (fun _ _ q => q)) ((HCL9.out Va ka).mono (by rintro e w' ⟨rfl, hk⟩; exact ⟨_, rfl, rfl, hk⟩)) ?_ AllReadyH.nil
            rintro y V1 ⟨rfl, k1⟩
            simp only [Act.put, skA, skB, skC]
            have hbz1 := hbz.keep k1 (fun q => q)
            have kz1 : Kp NoB wq (V1.setCells ff 0 (fileV x.nm (pk.seen x.nm) (pk.kept x.nm)).toList) := Kp.setCells (.inl hks) _ _ _ (ka.trans k1 (fun _ _ q => q))
            refine wpAnyH_ready (rs := [9]) (by kernel_rfl) (by simp) ?_
            refine AllReadyH.storeL rfl (by rfl) ff 0 (fileV x.nm (pk.seen x.nm) (pk.kept x.nm)) rfl rfl (hbz1.thereAll _ rfl) infoRf3 (fil_ones _ _ _) kz1 ?_ AllReadyH.nil
            refine wpAnyH_done (by kernel_rfl) ?_ _
            have hbw := hbz1.whole (fileV x.nm (pk.seen x.nm) (pk.kept x.nm)) rfl
            exact into_of ff ⟨hbw, kz1, hks⟩ rfl
        · rintro ff V ⟨hbf, hkV, hff⟩
          have HFF := Lib.hid hff
          have HF := Lib.hid hbf
          have HKV := Lib.hid hkV
          have hwq : w.heap.size ≤ wq.heap.size := HK.out.size
          have h0f : s0 ≠ ff := by omega
          have h2f : s0 + 1 ≠ ff := by omega
          have hgf : g ≠ ff := by have := HG.out; omega
          have hcf : gc ≠ ff := by have := HGC.out; omega
          have HNE := Lib.hid (show s0 ≠ ff ∧ s0 + 1 ≠ ff ∧ g ≠ ff ∧ gc ≠ ff from ⟨h0f, h2f, hgf, hcf⟩)
          have hlg : g < V.heap.size := Nat.lt_of_lt_of_le HG.out hkV.size
          have hlgc : gc < V.heap.size := Nat.lt_of_lt_of_le HGC.out (Nat.le_trans hwq hkV.size)
          have HS3' : Hid (∀ W, Kp (OnB ff) V W → W.cell? ⟨s0, 3, none⟩ = some (.slice (some ⟨g, o, none⟩) pn pc)) := Lib.hid (fun W q => (q.cell (Nat.lt_of_lt_of_le hl0 hkV.size) h0f).trans (HS3.out V hkV))
          have HQL' : Hid (∀ W, Kp (OnB ff) V W → W.rangeAt g (o + k * 4) (rcCells x)) := Lib.hid (fun W q j u hj => (q.cell hlg hgf).trans (HQL.out V hkV j u hj))
          have HCC' : Hid (∀ W, Kp (OnB ff) V W → W.cell? ⟨gc, oc + k, none⟩ = some (.int .i64 ch)) := Lib.hid (fun W q => (q.cell hlgc hcf).trans (HCC.out V (HK.out.trans hkV (fun _ _ q => q))))
          obtain ⟨kp, hkp9⟩ : ∃ kp, pk.kept x.nm = kp := ⟨_, rfl⟩
          obtain ⟨nk, hnk⟩ : ∃ nk, Pl.made kp x ch = nk := ⟨_, rfl⟩
          have hcg : CgOk x := HR.out.cok x (by rw [HPK.out]; exact List.mem_of_getElem? HXK.out)
          have HCG := Lib.hid hcg
          have hlk := (HR.out.look x.nm).2
          rw [hkp9] at hlk HF hbf ⊢
          have HLK := Lib.hid hlk
          have HKP9 := Lib.hid hkp9
          have HNK9 := Lib.hid hnk
          have HMD : Hid (∀ W, Calls Try.prog 128 #[.string (strOf kp), .agg #[.string x.nm, .int .i64 x.sec, .int .i64 x.n, .string (strOf x.s)], .int .i64 ch] W fun e w' => e = .returned (.string (strOf nk)) ∧ Kp NoB W w') := Lib.hid (fun W => by rw [← hnk]; exact made_ok W kp x ch hlk.1 hcg HCR.out)
          have d2 : V.cell? ⟨ff, 2, none⟩ = some (.string (strOf kp)) := hbf.cell 2
          clear hbf hkV hff hwq h0f h2f hgf hcf hlg hlgc hcg hlk hkp9 hnk q0 q1 q2 q3 c0 c1 c2 c3 c4 c5 c6 c7 y0 y1 y2 y3 y4 y5 y6 y7 z0 z1 z2 z3 z4 z5 z6 z7
          go_upto_region 9 with fail
          refine wp_region_held_drew (S := fun W => Kp (OnB ff) V W) (by kernel_rfl) (Kp.refl (OnB ff) V).drew (fun hHeld => ?_)
          have k0 : Kp (OnB ff) V V.drew := (Kp.refl (OnB ff) V).drew
          have kn : Kp NoB V V.drew := (Kp.refl NoB V).drew
          have d2' : V.drew.cell? ⟨ff, 2, none⟩ = some (.string (strOf kp)) := d2
          generalize V.drew = V0 at k0 kn hHeld d2' ⊢
          have huw := Try.underlying192
          have hiw : (Try.prog.info? 192).map (·.size) = some (rcCells x).length := infoRch4
          refine tkS (i := 0) (v := (.pointer (some ⟨ff, 2, none⟩))) rfl (Or.inl ⟨by rfl, fun w' hq => by go_simp⟩) k0 ?_
          simp only [Act.put, skA, skB, skC]
          refine tkS (i := 2) (v := (.pointer (some ⟨s0, 3, none⟩))) rfl (Or.inl ⟨by rfl, fun w' hq => by go_simp⟩) k0 ?_
          simp only [Act.put, skA, skB, skC]
          refine tkS (i := 3) (v := (.slice (some ⟨g, o, none⟩) pn pc)) rfl (Or.inl ⟨by rfl, fun w' hq => by (have := HS3'.out w' hq); go_simp⟩) k0 ?_
          simp only [Act.put, skA, skB, skC]
          refine tkS (i := 4) (v := (.int .i64 (k : Int))) rfl (Or.inl ⟨by rfl, fun w' hq => by go_simp⟩) k0 ?_
          simp only [Act.put, skA, skB, skC]
          refine tkS (i := 5) (v := (.pointer (some ⟨g, o + k * 4, none⟩))) rfl (Or.inl ⟨by rfl, fun w' hq => by go_simp⟩) k0 ?_
          simp only [Act.put, skA, skB, skC]
          refine tkS (i := 6) (v := .agg ((rcCells x)).toArray) rfl (yieldsIf_load_mid (by rfl) _ _ rfl _ _ rfl (rcCells x) _ (fun W q => HQL'.out W q) huw rfl hiw) k0 ?_
          simp only [Act.put, skA, skB, skC]
          refine tkS (i := 7) (v := (.slice (some ⟨gc, oc, none⟩) m cc)) rfl (Or.inl ⟨by rfl, fun w' hq => by go_simp⟩) k0 ?_
          simp only [Act.put, skA, skB, skC]
          refine tkS (i := 8) (v := (.int .i64 (k : Int))) rfl (Or.inl ⟨by rfl, fun w' hq => by go_simp⟩) k0 ?_
          simp only [Act.put, skA, skB, skC]
          refine tkS (i := 9) (v := (.pointer (some ⟨gc, oc + k, none⟩))) rfl (Or.inl ⟨by rfl, fun w' hq => by go_simp⟩) k0 ?_
          simp only [Act.put, skA, skB, skC]
          refine tkS (i := 10) (v := (.int .i64 ch)) rfl (Or.inl ⟨by rfl, fun w' hq => by (have := HCC'.out w' hq); go_simp⟩) k0 ?_
          simp only [Act.put, skA, skB, skC]
          refine wpAnyH_ready (rs := [1]) (by kernel_rfl) (by simp) ?_
          refine AllReadyH.valR (fun W' => V0 = W') rfl (by rfl) (.string (strOf kp)) _ (by go_simp) (fun _ e => by rw [← e]; exact k0) rfl ?_ AllReadyH.nil
          rintro _ rfl
          simp only [Act.put, skA, skB, skC]
          refine wpAnyH_ready (rs := [11]) (by kernel_rfl) (by simp) ?_
          refine AllReadyH.callR (fun x W' => x = .string (strOf nk) ∧ Kp NoB V W') rfl (by rfl) 128 #[.string (strOf kp), .agg #[.string x.nm, .int .i64 x.sec, .int .i64 x.n, .string (strOf x.s)], .int .i64 ch] (by first | (go_simp; done) | (go_simp; rfl)) (fun _ _ q => q.2.mono (fun _ _ q => q.elim)) ((HMD.out V0).mono (by rintro e w' ⟨rfl, hk⟩; exact ⟨_, rfl, rfl, kn.trans hk (fun _ _ q => q)⟩)) ?_ AllReadyH.nil
          rintro y V1 ⟨rfl, k1⟩
          simp only [Act.put, skA, skB, skC]
          refine tkS (i := 12) (v := (.pointer (some ⟨ff, 2, none⟩))) rfl (Or.inl ⟨by rfl, fun w' hq => by go_simp⟩) (k1.mono (fun _ _ q => q.elim)) ?_
          simp only [Act.put, skA, skB, skC]
          have e2 : V1.cell? ⟨ff, 2, none⟩ = some (.string (strOf kp)) := (HF.out.keep k1 (fun q => q)).cell 2
          have f2 := (HF.out.keep k1 (fun q => q)).frozen 2
          refine wpAnyH_ready (rs := [13]) (by kernel_rfl) (by simp) ?_
          refine AllReadyH.skipR rfl (by rfl) (V1.setCell ⟨ff, 2, none⟩ (.string (strOf nk))) (by go_simp) ((k1.mono (S' := OnB ff) (fun _ _ q => q.elim)).setAt (g := ff) rfl 2 _) ?_ AllReadyH.nil
          refine wpAnyH_done (by kernel_rfl) ?_ _
          have hb9 : Blk (V1.setCell ⟨ff, 2, none⟩ (.string (strOf nk))) ff 137 (fileV x.nm (pk.seen x.nm) nk) := (HF.out.keep k1 (fun q => q)).set_ 2 _
          have hk9 : Kp NoB wq (V1.setCell ⟨ff, 2, none⟩ (.string (strOf nk))) := (HKV.out.trans k1 (fun _ _ q => q)).setCell (.inl HFF.out) _
          have hpres : Kp NoB wq wq := Kp.refl NoB wq
          clear hHeld k0 kn d2 d2' k1 e2 f2 hpres
          generalize V1.setCell ⟨ff, 2, none⟩ (.string (strOf nk)) = V2 at hb9 hk9 ⊢
          have HF9 := Lib.hid hb9
          have HR9 := Lib.hid (HR.out.keep hk9)
          clear hb9 hl0 hl2
          have HB0' := Lib.hid (HB0.out.keep hk9 (fun q => q))
          have HB2' := Lib.hid (HB2.out.keep hk9 (fun q => q))
          have HK' := Lib.hid (HK.out.trans hk9 (fun _ _ q => q))
          clear hk9 HB0 HB2 HK
          have HB0 := HB0'
          have HB2 := HB2'
          have HK := HK'
          clear HB0' HB2' HK'
          have hl0 := HB0.out.lt
          have hl2 := HB2.out.lt
          obtain ⟨c0, c1, c2, c3, c4, c5, c6, c7⟩ := HB0.out.rdc
          obtain ⟨y0, y1, y2, y3, y4, y5, y6, y7⟩ := HB2.out.c8
          obtain ⟨z0, z1, z2, z3, z4, z5, z6, z7⟩ := HB2.out.z8
          obtain ⟨d0, d1, d2⟩ := HF9.out.c3
          have hlV := HF9.out.lt
          have hfi := made_fine ch HLK.out.1 HLK.out.2 HCG.out
          rw [HNK9.out] at hfi
          have HFI := Lib.hid hfi
          clear hfi
          go_wp2_with fail
          have hrv : ∀ d', rdV d' pk = rdV d' p := fun d' => by unfold rdV; rw [HNUM.out.1, HNUM.out.2.1, HNUM.out.2.2.1, HNUM.out.2.2.2.1, HNUM.out.2.2.2.2]
          refine (show Calls _ _ #[rdV dk p, .agg (fileV x.nm (pk.seen x.nm) nk)] _ _ from by rw [← hrv]; exact with_ok _ dk pk ⟨x.nm, pk.seen x.nm, nk⟩ HR9.out ⟨HCG.out.nl, (HR9.out.look x.nm).1.2, HFI.out.2, (HR9.out.look x.nm).1.1, HFI.out.1⟩ (by have := HNK.out; have := HNF.out; have := HPD.out; have := HK1.out; omega)).mono ?_
          rintro e w9 ⟨d9, rfl, h9, hk9⟩
          have HRA : Hid (Rf w9 d9 (pk.at_.setKept x.nm nk)) := Lib.hid (by
            have e9 : (pk.at_.setSeen x.nm (pk.seen x.nm)).setKept x.nm nk = pk.at_.setKept x.nm nk := by rw [show pk.at_.setSeen x.nm (pk.seen x.nm) = pk.at_ from seen_same pk.at_ x.nm]
            rw [← e9]; exact h9)
          rw [hrv]
          clear h9 d0 d1 d2 hlV hrv
          have HB0' := Lib.hid (HB0.out.keep hk9 (fun q => q))
          have HB2' := Lib.hid (HB2.out.keep hk9 (fun q => q))
          have HK' := Lib.hid (HK.out.trans hk9 (fun _ _ q => q))
          clear hk9 HB0 HB2 HK
          have HB0 := HB0'
          have HB2 := HB2'
          have HK := HK'
          clear HB0' HB2' HK' c0 c1 c2 c3 c4 c5 c6 c7 y0 y1 y2 y3 y4 y5 y6 y7 z0 z1 z2 z3 z4 z5 z6 z7 hl0 hl2
          have hl0 := HB0.out.lt
          have hl2 := HB2.out.lt
          obtain ⟨c0, c1, c2, c3, c4, c5, c6, c7⟩ := HB0.out.rdc
          obtain ⟨y0, y1, y2, y3, y4, y5, y6, y7⟩ := HB2.out.c8
          obtain ⟨z0, z1, z2, z3, z4, z5, z6, z7⟩ := HB2.out.z8
          obtain ⟨x0, x1, x2, x3, x4, x5, x6, x7⟩ := HB0.out.z8
          unfold rdV
          go_upto_region 7 with fail
          clear HR
          have kz0 : w.heap.size ≤ s0 := by have := HS0.out; omega
          have hb4 : Blk (((((((((w9.setCell ⟨s0, 0, none⟩ (.bool true)).setCell ⟨s0, 1, none⟩ (.bool p.down)).setCell ⟨s0, 2, none⟩ (.slice d9.fA d9.fn d9.fc)).setCell ⟨s0, 3, none⟩ (.slice d9.pA d9.pn d9.pc)).setCell ⟨s0, 4, none⟩ (.int .i64 p.room)).setCell ⟨s0, 5, none⟩ (.int .i64 p.steps)).setCell ⟨s0, 6, none⟩ (.int .i64 p.crash)).setCell ⟨s0, 7, none⟩ (.int .i64 p.starts))) s0 56 (rdC d9 p) := blk8 HB0.out rfl
          have hq4 : Kp (OnB s0) w9 (((((((((w9.setCell ⟨s0, 0, none⟩ (.bool true)).setCell ⟨s0, 1, none⟩ (.bool p.down)).setCell ⟨s0, 2, none⟩ (.slice d9.fA d9.fn d9.fc)).setCell ⟨s0, 3, none⟩ (.slice d9.pA d9.pn d9.pc)).setCell ⟨s0, 4, none⟩ (.int .i64 p.room)).setCell ⟨s0, 5, none⟩ (.int .i64 p.steps)).setCell ⟨s0, 6, none⟩ (.int .i64 p.crash)).setCell ⟨s0, 7, none⟩ (.int .i64 p.starts))) := kp8 (Kp.refl _ w9) (.inr rfl)
          have hr4 : Rf (((((((((w9.setCell ⟨s0, 0, none⟩ (.bool true)).setCell ⟨s0, 1, none⟩ (.bool p.down)).setCell ⟨s0, 2, none⟩ (.slice d9.fA d9.fn d9.fc)).setCell ⟨s0, 3, none⟩ (.slice d9.pA d9.pn d9.pc)).setCell ⟨s0, 4, none⟩ (.int .i64 p.room)).setCell ⟨s0, 5, none⟩ (.int .i64 p.steps)).setCell ⟨s0, 6, none⟩ (.int .i64 p.crash)).setCell ⟨s0, 7, none⟩ (.int .i64 p.starts))) d9 (pk.at_.setKept x.nm nk) := (HRA.out).keepB hq4 HB0.out (rdC_str _ _)
          have hz4 : Blk (((((((((w9.setCell ⟨s0, 0, none⟩ (.bool true)).setCell ⟨s0, 1, none⟩ (.bool p.down)).setCell ⟨s0, 2, none⟩ (.slice d9.fA d9.fn d9.fc)).setCell ⟨s0, 3, none⟩ (.slice d9.pA d9.pn d9.pc)).setCell ⟨s0, 4, none⟩ (.int .i64 p.room)).setCell ⟨s0, 5, none⟩ (.int .i64 p.steps)).setCell ⟨s0, 6, none⟩ (.int .i64 p.crash)).setCell ⟨s0, 7, none⟩ (.int .i64 p.starts))) (s0 + 1) 56 rdZ := HB2.out.keep hq4 (fun q => by have q' : s0 + 1 = s0 := q; omega)
          have hw4 : Kp NoB w (((((((((w9.setCell ⟨s0, 0, none⟩ (.bool true)).setCell ⟨s0, 1, none⟩ (.bool p.down)).setCell ⟨s0, 2, none⟩ (.slice d9.fA d9.fn d9.fc)).setCell ⟨s0, 3, none⟩ (.slice d9.pA d9.pn d9.pc)).setCell ⟨s0, 4, none⟩ (.int .i64 p.room)).setCell ⟨s0, 5, none⟩ (.int .i64 p.steps)).setCell ⟨s0, 6, none⟩ (.int .i64 p.crash)).setCell ⟨s0, 7, none⟩ (.int .i64 p.starts))) := kp8 HK.out (.inl kz0)
          clear hq4 HB0 HB2 HK
          generalize ((((((((w9.setCell ⟨s0, 0, none⟩ (.bool true)).setCell ⟨s0, 1, none⟩ (.bool p.down)).setCell ⟨s0, 2, none⟩ (.slice d9.fA d9.fn d9.fc)).setCell ⟨s0, 3, none⟩ (.slice d9.pA d9.pn d9.pc)).setCell ⟨s0, 4, none⟩ (.int .i64 p.room)).setCell ⟨s0, 5, none⟩ (.int .i64 p.steps)).setCell ⟨s0, 6, none⟩ (.int .i64 p.crash)).setCell ⟨s0, 7, none⟩ (.int .i64 p.starts)) = w10 at hb4 hr4 hz4 hw4 ⊢
          have HB0 := Lib.hid hb4
          have HB2 := Lib.hid hz4
          have HK := Lib.hid hw4
          have HR := Lib.hid hr4
          clear hb4 hz4 hw4 hr4 c0 c1 c2 c3 c4 c5 c6 c7 y0 y1 y2 y3 y4 y5 y6 y7 z0 z1 z2 z3 z4 z5 z6 z7 hl0 hl2 kz0
          have hl0 := HB0.out.lt
          have hl2 := HB2.out.lt
          obtain ⟨c0, c1, c2, c3, c4, c5, c6, c7⟩ := HB0.out.rdc
          obtain ⟨y0, y1, y2, y3, y4, y5, y6, y7⟩ := HB2.out.c8
          obtain ⟨z0, z1, z2, z3, z4, z5, z6, z7⟩ := HB2.out.z8
          have E9 := Lib.hid (show RsRel w s0 p chs (.int .i64 ((k + 1 : Nat) : Int)) w10 from ⟨k + 1, d9, pk.at_.setKept x.nm nk, rfl, by omega, by have := HCL.out; omega, HB0.out, HR.out, HNUM.out, HPK.out, by
            rw [HSV.out, List.drop_eq_getElem_cons hlt.1, List.drop_eq_getElem_cons (show k < chs.length by have := HCL.out; omega)]
            have e1 : p.pd[k]'hlt.1 = x := by have := HXK.out; rw [List.getElem?_eq_getElem hlt.1] at this; injection this
            have e2 : chs[k]'(by have := HCL.out; omega) = ch := by have := HCHK.out; rw [List.getElem?_eq_getElem (by have := HCL.out; omega)] at this; injection this
            rw [e1, e2, survive_cons, HKP9.out, HNK9.out], by show pk.nf + 1 ≤ _; have := HNK.out; omega, HB2.out, HK.out⟩)
          have hk63 : k < 9223372036854775807 := by have := HPD.out; omega
          go_wp2_with fail
          go_roundw
          case rel => exact E9.out
          case measure => simp [intOf]; omega
      · have hfin : p.survive p.pd chs = pk := by
          rw [HSV.out]
          refine survive_stop pk _ _ ?_
          rcases (show p.pd.length ≤ k ∨ chs.length ≤ k by have := HCL.out; omega) with z | z
          · exact .inl (List.drop_eq_nil_of_le z)
          · exact .inr (List.drop_eq_nil_of_le z)
        have HQP : Hid (q = pk) := Lib.hid (HQ.out.symm.trans hfin)
        have hx : ¬ (k : Int) < (pn : Int) ∨ ((k : Int) < (pn : Int) ∧ ¬ (k : Int) < (m : Int)) := by omega
        have HFI : Hid (Rows wq dk.fA dk.fn 3 (dk.fs.map rfCells) ∧ (dk.fA = none → dk.fn = 0 ∧ dk.fc = 0) ∧ dk.fs.length = dk.fn ∧ dk.fn < 1099511627776) := Lib.hid ⟨HR.out.files, HR.out.fnil, HR.out.fl, by have := HR.out.nf; have := HNK.out; have := HNF.out; have := HPD.out; have := HK1.out; omega⟩
        have HFJ : Hid (dk.fn ≤ pk.nf ∧ pk.kept = keptR dk.fs ∧ pk.ksum = ksumR dk.fs ∧ (∀ f ∈ dk.fs, RfOk f) ∧ dk.fs.Pairwise fun x y => x.nm ≠ y.nm) := Lib.hid ⟨HR.out.nf, HR.out.kept, HR.out.ksum, HR.out.fok, HR.out.names⟩
        obtain ⟨fs, hfs⟩ : ∃ x, dk.fs = x := ⟨_, rfl⟩
        obtain ⟨fA, hfA⟩ : ∃ x, dk.fA = x := ⟨_, rfl⟩
        obtain ⟨fn, hfn⟩ : ∃ x, dk.fn = x := ⟨_, rfl⟩
        obtain ⟨fc, hfc⟩ : ∃ x, dk.fc = x := ⟨_, rfl⟩
        have HFS := Lib.hid hfs
        rw [hfA, hfn, hfc] at c2
        rw [hfA, hfn, hfc, hfs] at HFI
        rw [hfn, hfs] at HFJ
        have hfn63 : fn < 1099511627776 := HFI.out.2.2.2
        have HFN := Lib.hid hfn63
        clear hfin hfs hfA hfn hfc hlt hfn63
        obtain ⟨j0, hj0, hj1⟩ := Option.map_eq_some_iff.1 infoRfile
        simp only [Prod.mk.injEq] at hj1
        have HJ0 := Lib.hid hj0
        have HY0 := Lib.hid hj1.1
        have HY1 := Lib.hid hj1.2.1
        have HY2 := Lib.hid hj1.2.2
        clear hj0 hj1
        have HOWN : Hid ((wq.alloc (.cells #[] 137)).ownsRow wq.heap.size 137 3 (.slice (some ⟨wq.heap.size, 0, none⟩) 0 0) 0 []) := Lib.hid ⟨rfl, .inr ⟨wq.heap.size, 0, #[], rfl, Nat.le_refl _, heap_alloc_new _ _, Nat.le_refl _, by simp, rfl, rfl⟩⟩
        rcases hx with hx | ⟨hx1, hx⟩
        all_goals
          go_upto_region 12 with (at_builtin; refine wpList_append_srcN rfl _ _ 53 rfl wq.heap.size 137 j0 _ 3 48 Try.underlying53 HJ0.out HY0.out HY1.out HY2.out rfl (by omega) _ 0 [] rfl HOWN.out fA fn fc (fs.map rfCells).flatten rfl HFI.out.2.1 (by rw [flat_len 3 _ (rf_len fs), List.length_map, HFI.out.2.2.1]) (fun hn => (HFI.out.1.keep ((Kp.refl NoB wq).alloc _)).src hn (by omega)) (rf_one fs) (by have := HFN.out; unfold maxLen; omega) (by have := HFN.out; omega) (by simp) ?_; intro v1 w1 hown1 hgrow1; rw [Nat.zero_add, List.nil_append] at hown1; have HO1 := Lib.hid hown1; have hk1 := (((Kp.refl NoB wq).alloc _).own (v := .slice (some ⟨wq.heap.size, 0, none⟩) 0 0) hgrow1 rfl HOWN.out); have HKA := Lib.hid hk1; obtain ⟨B, cb, rfl⟩ := own_slice hown1; clear hown1 hgrow1 hk1)
          have HBG : Hid (∀ g o, B = some ⟨g, o, none⟩ → wq.heap.size ≤ g) := Lib.hid (fun g o e => own_ge HO1.out g (by rw [e]; rfl))
          have HRW : Hid (Rows w1 B fn 3 (fs.map rfCells)) := Lib.hid (Rows.own (base := wq.heap.size) (e := 137) (cap := cb) HO1.out (by rw [List.length_map]; exact HFI.out.2.2.1) (rf_len _))
          have HBN : Hid (B = none → fn = 0 ∧ cb = 0) := Lib.hid (own_nil HO1.out)
          clear c0 c1 c2 c3 c4 c5 c6 c7 y0 y1 y2 y3 y4 y5 y6 y7 z0 z1 z2 z3 z4 z5 z6 z7 hl0 hl2
          go_wp2_with fail
          go_loopw [9] (fun v9 wr => RkRel wq B fs fn v9 wr) (fun v _ => fn - (intOf v).toNat)
          case atStart => exact ⟨0, rfl, Nat.zero_le _, by rw [keepK_zero]; exact HRW.out, HKA.out⟩
          case round =>
            obtain ⟨wz, rfl⟩ : ∃ wz, wz = wr := ⟨_, rfl⟩
            obtain ⟨i, rfl, hi, hrw, hkz⟩ := hrel
            have HRZ := Lib.hid hrw
            have HKZ := Lib.hid hkz
            by_cases hlt2 : i < fn
            · have hil : i < fs.length := by have := HFI.out.2.2.1; omega
              obtain ⟨f, hf⟩ : ∃ f, fs[i] = f := ⟨_, rfl⟩
              have hfi : fs[i]? = some f := by rw [List.getElem?_eq_getElem hil, hf]
              obtain ⟨e1, e2⟩ := keepK_at hfi
              have e3 : ((keepK fs i).map rfCells)[i]? = some [.string f.nm, .string (strOf f.seen), .string (strOf f.kept)] := by rw [List.getElem?_map, e1]; rfl
              obtain ⟨g, o, rfl, hg, hc⟩ := hrw.cell e3
              have q1 : wz.cell? ⟨g, o + i * 3 + 1, none⟩ = some (.string (strOf f.seen)) := hc 1 _ rfl
              have q2 : wz.cell? ⟨g, o + i * 3 + 2, none⟩ = some (.string (strOf f.kept)) := hc 2 _ rfl
              obtain ⟨g', o', t', cs', e', hb', _, _⟩ := hrw.2.2 (by omega)
              injection e' with e'
              injection e' with e4 e5
              subst e4 e5
              have f1 := hb'.frozen (o + i * 3 + 1)
              have hii : (i : Int) < (fn : Int) := by omega
              have hfn63 : fn ≤ 9223372036854775807 := by have := HFN.out; omega
              have HS1 : Hid (Rows (wz.setCell ⟨g, o + i * 3 + 1, none⟩ (.string (strOf f.kept))) (some ⟨g, o, none⟩) fn 3 ((keepK fs (i + 1)).map rfCells)) := Lib.hid (by
                have h9 := hrw.set1 (v := .string (strOf f.kept)) e3
                rw [e2, List.map_set]
                exact h9)
              have HK9 : Hid (Kp NoB wq (wz.setCell ⟨g, o + i * 3 + 1, none⟩ (.string (strOf f.kept)))) := Lib.hid (hkz.setCell (.inl (HBG.out g o rfl)) _)
              clear hf hfi e1 e2 e3 hc hrw hkz hb' hil
              go_wp2_with fail
              go_roundw
              case rel => exact ⟨i + 1, by go_num, by omega, HS1.out, HK9.out⟩
              case measure => simp [intOf]; omega
            · have hii : ¬ (i : Int) < (fn : Int) := by omega
              have hie : i = fn := by omega
              have HRE : Hid (Rows wz B fn 3 ((fs.map keepF).map rfCells)) := Lib.hid (by rw [← keepK_all fs (k := i) (by have := HFI.out.2.2.1; omega)]; exact hrw)
              clear hrw hie
              have hb0 := HB0.out.keep hkz (fun q => q)
              have hb2 := HB2.out.keep hkz (fun q => q)
              have HX0 := Lib.hid hb0
              have HX2 := Lib.hid hb2
              clear hkz
              obtain ⟨c0, c1, c2, c3, c4, c5, c6, c7⟩ := hb0.rdc
              obtain ⟨y0, y1, y2, y3, y4, y5, y6, y7⟩ := hb2.c8
              obtain ⟨z0, z1, z2, z3, z4, z5, z6, z7⟩ := hb2.z8
              have hws : IntKind.i64.wrap (p.starts + 1) = wrp (p.starts + 1) := rfl
              clear hb0 hb2
              go_wp2_with fail
              have kzz : w.heap.size ≤ s0 + 1 := by have := HS0.out; omega
              have hkq : Kp (OnB (s0 + 1)) wz ((((((((wz.setCell ⟨s0 + 1, 0, none⟩ (.bool true)).setCell ⟨s0 + 1, 1, none⟩ (.bool false)).setCell ⟨s0 + 1, 2, none⟩ (.slice B fn cb)).setCell ⟨s0 + 1, 3, none⟩ (.slice none 0 0)).setCell ⟨s0 + 1, 4, none⟩ (.int .i64 p.room)).setCell ⟨s0 + 1, 5, none⟩ (.int .i64 0)).setCell ⟨s0 + 1, 6, none⟩ (.int .i64 0)).setCell ⟨s0 + 1, 7, none⟩ (.int .i64 (wrp (p.starts + 1)))) := kp8 (Kp.refl _ wz) (.inr rfl)
              refine bodyPost_ret (ret_cell_tmp rfl _ _ _ _ _ _ rfl (blk8 HX2.out rfl) Try.underlying56 rfl (by exact infoRd) _ rfl) rfl ⟨⟨B, fn, cb, fs.map keepF, none, 0, 0⟩, by rw [HQP.out, HNUM.out.2.1]; rfl, ?_, kp8 (HK.out.trans HKZ.out (fun _ _ q => q)) (.inl kzz)⟩
              obtain ⟨j1, j2, j3, j4, j5⟩ := HFJ.out
              have hst := H.out.starts
              rw [HQP.out]
              exact
                { files := HRE.out.keepB (by omega) (rf_str _) hkq HX2.out rdZ_str
                  pend := ⟨rfl, by simp, fun h => absurd h (Nat.lt_irrefl 0)⟩
                  fnil := HBN.out
                  pnil := fun _ => ⟨rfl, rfl⟩
                  fok := ok_keep j4
                  cok := fun c hc => by cases hc
                  names := names_keep j5
                  seen := by show pk.kept = seenR (fs.map keepF); rw [seen_keep, j2]
                  kept := by show pk.kept = keptR (fs.map keepF); rw [kept_keep, j2]
                  sum := by show pk.ksum = sumR (fs.map keepF); rw [(sum_keep fs).1, j3]
                  ksum := by show pk.ksum = ksumR (fs.map keepF); rw [(sum_keep fs).2, j3]
                  nf := j1
                  room := HR.out.room
                  steps := by show -9223372036854775808 ≤ (0 : Int) ∧ (0 : Int) ≤ 9223372036854775807; omega
                  crash := by show (0 : Int) ≤ 0 ∧ (0 : Int) ≤ 9223372036854775807; omega
                  starts := by
                    show -9223372036854775808 ≤ wrp (p.starts + 1) ∧ wrp (p.starts + 1) ≤ 9223372036854775807
                    unfold wrp
                    rw [IntKind.wrap_i64]
                    omega }
  · have hd' : p.down = false := by simpa using hd
    have hT : Hid (p.restart chs = p ∧ p.restartE = 4) := Lib.hid (by unfold Pl.restart Pl.restartE; rw [hd']; exact ⟨rfl, rfl⟩)
    have HD := Lib.hid hd'
    clear hd
    rw [hT.out.1, hT.out.2]
    unfold rdV
    go_enter Try.func77, Try.ntmps77
    go_wp2_with fail
    refine bodyPost_ret (ret_cell_tmp rfl _ _ _ _ _ _ rfl (Blk.top (by simp)) Try.underlying56 rfl (by exact infoRd) _ rfl) rfl ⟨d, by rw [HD.out]; rfl, H.out.keep (((Kp.refl NoB w).alloc _).alloc _), ((Kp.refl NoB w).alloc _).alloc _⟩
end Go.Proofs.Ytegcbdfilkecpaa
/- The reference's journal: the small functions on texts: Four, Number, Zeros, Seal, Says; no condition but on lengths. -/
namespace Go.Proofs.Ytegcbdfilkecpaa
open Go.RowKit

attribute [local go_sem ↓] conv64
set_option maxRecDepth 100000 in
theorem four_rok (w : World) (n : Int) (hn : -9223372036854775808 ≤ n ∧ n ≤ 9223372036854775807) :
    Calls Try.prog 158 #[.int .i64 n] w fun e w' => e = .returned (.string (strOf (four n))) ∧ Kp NoB w w' := by
  have hb : Blk (w.alloc (.cells #[.int .u8 (n / 16777216 % 256), .int .u8 (n / 65536 % 256), .int .u8 (n / 256 % 256), .int .u8 (n % 256)] 5)) w.heap.size 5 (bytesV (four n)) := Blk.new _ _ _
  have h1 := hb.byAt 0 4 (Nat.le_refl _)
  have h2 := hb.byRd 0 4 (Nat.le_refl _)
  have h3 : ((four n).drop 0).take 4 = four n := rfl
  rw [h3] at h2
  clear h3 hb
  go_enter Try.func158, Try.ntmps158
  go_wp2_with fail
  go_ret
  exact ⟨by rfl, (Kp.refl NoB w).alloc _⟩
set_option maxRecDepth 100000 in
theorem zeros_rok (w : World) (n : Nat) (hn : n ≤ 1099511627776) :
    Calls Try.prog 159 #[.int .i64 n] w fun e w' => e = .returned (.string (strOf (zeros n))) ∧ Kp NoB w w' := by
  have hmk := run_make_row' (P := Try.prog) 42 5 (.int .u8 0) 1 Try.underlying42 infoU8z rfl .i64 .i64 n (by omega) (by omega) w
  rw [made_zeros] at hmk
  have hb := Blk.new w 5 (bytesV (zeros n))
  have h1 := hb.byAt 0 n (by simp [zeros])
  have h2 := hb.byRd 0 n (by simp [zeros])
  have h3 : ((zeros n).drop 0).take n = zeros n := by rw [List.drop_zero, List.take_of_length_le (by simp [zeros])]
  rw [h3] at h2
  clear h3 hb
  go_enter Try.func159, Try.ntmps159
  go_wp2_with fail
  go_ret
  exact ⟨by rfl, (Kp.refl NoB w).alloc _⟩
set_option maxRecDepth 100000 in
set_option maxHeartbeats 800000 in
theorem number_rok (w : World) (l : List Int) (a : Nat) (hr : ∀ y ∈ l, 0 ≤ y ∧ y < 256) (ha : a + 4 ≤ l.length) (hl : l.length ≤ 1099511627776) :
    Calls Try.prog 157 #[.string (strOf l), .int .i64 (a : Int)] w fun e w' => e = .returned (.int .i64 (num l a)) ∧ Kp NoB w w' := by
  have hg : ∀ j, j < l.length → 0 ≤ l.getD j 0 ∧ l.getD j 0 < 256 := fun j hj => hr _ (by rw [List.getD_eq_getElem?_getD, List.getElem?_eq_getElem hj]; exact List.getElem_mem hj)
  have hsz := strOf_size l
  have i0 := fun W => idxStr (s := strOf l) rfl hr (show a < l.length by omega) W
  have i1 := fun W => idxStr (s := strOf l) rfl hr (show a + 1 < l.length by omega) W
  have i2 := fun W => idxStr (s := strOf l) rfl hr (show a + 2 < l.length by omega) W
  have i3 := fun W => idxStr (s := strOf l) rfl hr (show a + 3 < l.length by omega) W
  rw [show ((a + 1 : Nat) : Int) = (a : Int) + 1 by omega] at i1
  rw [show ((a + 2 : Nat) : Int) = (a : Int) + 2 by omega] at i2
  rw [show ((a + 3 : Nat) : Int) = (a : Int) + 3 by omega] at i3
  have g0 := hg a (by omega)
  have g1 := hg (a + 1) (by omega)
  have g2 := hg (a + 2) (by omega)
  have g3 := hg (a + 3) (by omega)
  have hnum : Hid (num l a = l.getD a 0 * 16777216 + l.getD (a + 1) 0 * 65536 + l.getD (a + 2) 0 * 256 + l.getD (a + 3) 0) := Lib.hid rfl
  obtain ⟨x0, h0⟩ : ∃ x, l.getD a 0 = x := ⟨_, rfl⟩
  obtain ⟨x1, h1⟩ : ∃ x, l.getD (a + 1) 0 = x := ⟨_, rfl⟩
  obtain ⟨x2, h2⟩ : ∃ x, l.getD (a + 2) 0 = x := ⟨_, rfl⟩
  obtain ⟨x3, h3⟩ : ∃ x, l.getD (a + 3) 0 = x := ⟨_, rfl⟩
  rw [h0] at i0 g0 hnum
  rw [h1] at i1 g1 hnum
  rw [h2] at i2 g2 hnum
  rw [h3] at i3 g3 hnum
  have w1 : IntKind.i64.wrap ((a : Int) + 1) = (a : Int) + 1 := by rw [IntKind.wrap_i64]; omega
  have w2 : IntKind.i64.wrap ((a : Int) + 2) = (a : Int) + 2 := by rw [IntKind.wrap_i64]; omega
  have w3 : IntKind.i64.wrap ((a : Int) + 3) = (a : Int) + 3 := by rw [IntKind.wrap_i64]; omega
  clear h0 h1 h2 h3 hg hr
  go_enter Try.func157, Try.ntmps157
  go_wp2_with fail
  go_quiet (fail)
  go_wp2_with fail
  go_ret
  exact ⟨by rw [hnum.out]; rfl, (Kp.refl NoB w).drewN nq⟩
end Go.Proofs.Ytegcbdfilkecpaa
/- The reference's journal: a sealed sector, and what one says; no condition but on lengths. -/
namespace Go.Proofs.Ytegcbdfilkecpaa
open Go.RowKit

structure W4R (v : W4) : Prop where
  a : -9223372036854775808 ≤ v.a ∧ v.a ≤ 9223372036854775807
  b : -9223372036854775808 ≤ v.b ∧ v.b ≤ 9223372036854775807
  c : -9223372036854775808 ≤ v.c ∧ v.c ≤ 9223372036854775807
  d : -9223372036854775808 ≤ v.d ∧ v.d ≤ 9223372036854775807
theorem strF_size (n : Int) : (strOf (four n)).size = 4 := strOf_size _
set_option maxRecDepth 100000 in
set_option maxHeartbeats 800000 in
theorem seal_rok (w : World) (v : W4) (hv : W4R v) :
    Calls Try.prog 156 #[.agg #[.int .i64 v.a, .int .i64 v.b, .int .i64 v.c, .int .i64 v.d]] w fun e w' => e = .returned (.string (strOf (sealB v))) ∧ Kp NoB w w' := by
  have HV := Lib.hid hv
  obtain ⟨va, vb, vc, vd⟩ := v
  have hb : Blk (w.alloc (.cells #[.int .i64 va, .int .i64 vb, .int .i64 vc, .int .i64 vd] 183)) w.heap.size 183 #[.int .i64 va, .int .i64 vb, .int .i64 vc, .int .i64 vd] := Blk.new _ _ _
  have hk : Kp NoB w (w.alloc (.cells #[.int .i64 va, .int .i64 vb, .int .i64 vc, .int .i64 vd] 183)) := (Kp.refl NoB w).alloc _
  have hl := hb.lt
  clear hv
  go_enter Try.func156, Try.ntmps156
  go_upto_region 1 with fail
  generalize w.alloc (.cells #[.int .i64 va, .int .i64 vb, .int .i64 vc, .int .i64 vd] 183) = W at hb hk hl ⊢
  generalize hs0 : w.heap.size = s0 at hb hl ⊢
  have HS0 := Lib.hid hs0
  have HB := Lib.hid hb
  have HK := Lib.hid hk
  have C0 : Hid (∀ V, Kp NoB W V → V.cell? ⟨s0, 0, none⟩ = some (.int .i64 va)) := Lib.hid (fun V q => (hb.keep q (fun z => z)).cell 0)
  have C1 : Hid (∀ V, Kp NoB W V → V.cell? ⟨s0, 1, none⟩ = some (.int .i64 vb)) := Lib.hid (fun V q => (hb.keep q (fun z => z)).cell 1)
  have C2 : Hid (∀ V, Kp NoB W V → V.cell? ⟨s0, 2, none⟩ = some (.int .i64 vc)) := Lib.hid (fun V q => (hb.keep q (fun z => z)).cell 2)
  have C3 : Hid (∀ V, Kp NoB W V → V.cell? ⟨s0, 3, none⟩ = some (.int .i64 vd)) := Lib.hid (fun V q => (hb.keep q (fun z => z)).cell 3)
  have F0 : Hid (∀ V, Calls Try.prog 158 #[.int .i64 va] V fun e w' => e = .returned (.string (strOf (four va))) ∧ Kp NoB V w') := Lib.hid (fun V => four_rok V va HV.out.a)
  have F1 : Hid (∀ V, Calls Try.prog 158 #[.int .i64 vb] V fun e w' => e = .returned (.string (strOf (four vb))) ∧ Kp NoB V w') := Lib.hid (fun V => four_rok V vb HV.out.b)
  have F2 : Hid (∀ V, Calls Try.prog 158 #[.int .i64 vc] V fun e w' => e = .returned (.string (strOf (four vc))) ∧ Kp NoB V w') := Lib.hid (fun V => four_rok V vc HV.out.c)
  have F3 : Hid (∀ V, Calls Try.prog 158 #[.int .i64 vd] V fun e w' => e = .returned (.string (strOf (four vd))) ∧ Kp NoB V w') := Lib.hid (fun V => four_rok V vd HV.out.d)
  have sz := strF_size
  clear hs0 hb hk hl
  refine wp_region_held_drew (S := fun V => Kp NoB W V) (by kernel_rfl) (Kp.refl NoB W).drew (fun hHeld => ?_)
  have k0 : Kp NoB W W.drew := (Kp.refl NoB W).drew
  generalize W.drew = V0 at k0 hHeld ⊢
  refine tkS (i := 0) (v := (.pointer (some ⟨s0, 0, none⟩))) rfl (Or.inl ⟨by rfl, fun w' hq => by go_simp⟩) k0 ?_
  simp only [Act.put, skA, skB, skC]
  refine tkS (i := 1) (v := (.int .i64 va)) rfl (Or.inl ⟨by rfl, fun w' hq => by (have := C0.out w' hq); go_simp⟩) k0 ?_
  simp only [Act.put, skA, skB, skC]
  refine tkS (i := 3) (v := (.pointer (some ⟨s0, 1, none⟩))) rfl (Or.inl ⟨by rfl, fun w' hq => by go_simp⟩) k0 ?_
  simp only [Act.put, skA, skB, skC]
  refine tkS (i := 4) (v := (.int .i64 vb)) rfl (Or.inl ⟨by rfl, fun w' hq => by (have := C1.out w' hq); go_simp⟩) k0 ?_
  simp only [Act.put, skA, skB, skC]
  refine tkS (i := 7) (v := (.pointer (some ⟨s0, 2, none⟩))) rfl (Or.inl ⟨by rfl, fun w' hq => by go_simp⟩) k0 ?_
  simp only [Act.put, skA, skB, skC]
  refine tkS (i := 8) (v := (.int .i64 vc)) rfl (Or.inl ⟨by rfl, fun w' hq => by (have := C2.out w' hq); go_simp⟩) k0 ?_
  simp only [Act.put, skA, skB, skC]
  refine tkS (i := 11) (v := (.pointer (some ⟨s0, 3, none⟩))) rfl (Or.inl ⟨by rfl, fun w' hq => by go_simp⟩) k0 ?_
  simp only [Act.put, skA, skB, skC]
  refine tkS (i := 12) (v := (.int .i64 vd)) rfl (Or.inl ⟨by rfl, fun w' hq => by (have := C3.out w' hq); go_simp⟩) k0 ?_
  simp only [Act.put, skA, skB, skC]
  refine wpAnyH_ready (rs := [2]) (by kernel_rfl) (by simp) ?_
  refine AllReadyH.callR (fun x W' => x = .string (strOf (four va)) ∧ Kp NoB W W') rfl (by rfl) 158 #[.int .i64 va] (by first | (go_simp; done) | (go_simp; rfl)) (fun _ _ q => q.2) ((F0.out V0).mono (by rintro e w' ⟨rfl, hk⟩; exact ⟨_, rfl, rfl, k0.trans hk (fun _ _ q => q)⟩)) ?_ AllReadyH.nil
  rintro x V1 ⟨rfl, k1⟩
  simp only [Act.put, skA, skB, skC]
  refine wpAnyH_ready (rs := [5]) (by kernel_rfl) (by simp) ?_
  refine AllReadyH.callR (fun x W' => x = .string (strOf (four vb)) ∧ Kp NoB W W') rfl (by rfl) 158 #[.int .i64 vb] (by first | (go_simp; done) | (go_simp; rfl)) (fun _ _ q => q.2) ((F1.out V1).mono (by rintro e w' ⟨rfl, hk⟩; exact ⟨_, rfl, rfl, k1.trans hk (fun _ _ q => q)⟩)) ?_ AllReadyH.nil
  rintro x V2 ⟨rfl, k2⟩
  simp only [Act.put, skA, skB, skC]
  refine tkS (i := 6) (v := (.string (strOf (four va) ++ strOf (four vb)))) rfl (Or.inl ⟨by rfl, fun w' hq => by go_simp⟩) k2 ?_
  simp only [Act.put, skA, skB, skC]
  refine wpAnyH_ready (rs := [9]) (by kernel_rfl) (by simp) ?_
  refine AllReadyH.callR (fun x W' => x = .string (strOf (four vc)) ∧ Kp NoB W W') rfl (by rfl) 158 #[.int .i64 vc] (by first | (go_simp; done) | (go_simp; rfl)) (fun _ _ q => q.2) ((F2.out V2).mono (by rintro e w' ⟨rfl, hk⟩; exact ⟨_, rfl, rfl, k2.trans hk (fun _ _ q => q)⟩)) ?_ AllReadyH.nil
  rintro x V3 ⟨rfl, k3⟩
  simp only [Act.put, skA, skB, skC]
  have z1 : (strOf (four va) ++ strOf (four vb)).size = 8 := by rw [ByteArray.size_append, sz, sz]
  refine tkS (i := 10) (v := (.string (strOf (four va) ++ strOf (four vb) ++ strOf (four vc)))) rfl (Or.inl ⟨by rfl, fun w' hq => by go_simp⟩) k3 ?_
  simp only [Act.put, skA, skB, skC]
  refine wpAnyH_ready (rs := [13]) (by kernel_rfl) (by simp) ?_
  refine AllReadyH.callR (fun x W' => x = .string (strOf (four vd)) ∧ Kp NoB W W') rfl (by rfl) 158 #[.int .i64 vd] (by first | (go_simp; done) | (go_simp; rfl)) (fun _ _ q => q.2) ((F3.out V3).mono (by rintro e w' ⟨rfl, hk⟩; exact ⟨_, rfl, rfl, k3.trans hk (fun _ _ q => q)⟩)) ?_ AllReadyH.nil
  rintro x V4 ⟨rfl, k4⟩
  simp only [Act.put, skA, skB, skC]
  have z2 : (strOf (four va) ++ strOf (four vb) ++ strOf (four vc)).size = 12 := by rw [ByteArray.size_append, z1, sz]
  refine tkS (i := 14) (v := (.string (strOf (four va) ++ strOf (four vb) ++ strOf (four vc) ++ strOf (four vd)))) rfl (Or.inl ⟨by rfl, fun w' hq => by go_simp⟩) k4 ?_
  simp only [Act.put, skA, skB, skC]
  refine tkS (i := 15) (v := (.string (strOf (four va) ++ strOf (four vb) ++ strOf (four vc) ++ strOf (four vd)))) rfl (Or.inl ⟨by rfl, fun w' hq => by go_simp⟩) k4 ?_
  simp only [Act.put, skA, skB, skC]
  refine wpAnyH_done (by kernel_rfl) ?_ _
  have hS : strOf (four va) ++ strOf (four vb) ++ strOf (four vc) ++ strOf (four vd) = strOf (W4.bytes ⟨va, vb, vc, vd⟩) := by unfold W4.bytes; rw [strOf_app, strOf_app, strOf_app]
  rw [hS]
  obtain ⟨S, hSS⟩ : ∃ S, strOf (W4.bytes ⟨va, vb, vc, vd⟩) = S := ⟨_, rfl⟩
  have s0z : S.size = 16 := by rw [← hSS, strOf_size]; rfl
  have s1z : (S ++ S).size = 32 := by rw [ByteArray.size_append, s0z]
  have s2z : (S ++ S ++ S).size = 48 := by rw [ByteArray.size_append, s1z, s0z]
  have s3z : (strOf (zeros 16)).size = 16 := by rw [strOf_size]; rfl
  rw [hSS]
  have HSS := Lib.hid hSS
  have K4 := Lib.hid (HK.out.trans k4 (fun _ _ q => q))
  clear hS hSS hHeld sz z1 z2 k0 k1 k2 k3 k4
  go_wp2_with (go_at_call 159; go_must (refine (zeros_rok _ 16 (by omega)).mono ?_); rintro e w5 ⟨rfl, hk5⟩; have HK5 := Lib.hid hk5; clear hk5)
  go_ret
  refine ⟨?_, K4.out.trans HK5.out (fun _ _ q => q)⟩
  show Ending.returned (.string (S ++ S ++ S ++ strOf (zeros 16))) = _
  unfold sealB
  rw [strOf_app, strOf_app, strOf_app, HSS.out]
end Go.Proofs.Ytegcbdfilkecpaa
/- The reference's journal: what a sealed sector says; no condition but on lengths. -/
namespace Go.Proofs.Ytegcbdfilkecpaa
open Go.RowKit

theorem num_takeR (l : List Int) (a k : Nat) (h : a + 4 ≤ k) : num (l.take k) a = num l a := by
  unfold num
  have e : ∀ j, j < k → (l.take k).getD j 0 = l.getD j 0 := fun j hj => by rw [List.getD_eq_getElem?_getD, List.getD_eq_getElem?_getD, List.getElem?_take, if_pos hj]
  rw [e a (by omega), e (a + 1) (by omega), e (a + 2) (by omega), e (a + 3) (by omega)]
theorem says_at (l : List Int) (h : ¬ l.length < 64) : says l = if l.take 16 = (l.drop 16).take 16 then wordsAt l 0 else wordsAt l 32 := by
  unfold says openB
  rw [if_neg h]
  have e1 : (l.take 64).take 16 = l.take 16 := by rw [List.take_take]; rfl
  have e2 : ((l.take 64).drop 16).take 16 = (l.drop 16).take 16 := by rw [List.drop_take, List.take_take]; rfl
  rw [e1, e2]
  unfold wordsAt
  split
  · rw [num_takeR l 0 64 (by omega), num_takeR l (0 + 4) 64 (by omega), num_takeR l (0 + 8) 64 (by omega), num_takeR l (0 + 12) 64 (by omega)]
  · rw [num_takeR l 32 64 (by omega), num_takeR l (32 + 4) 64 (by omega), num_takeR l (32 + 8) 64 (by omega), num_takeR l (32 + 12) 64 (by omega)]
theorem strOf_inj {a b : List Int} (ha : ∀ y ∈ a, 0 ≤ y ∧ y < 256) (hb : ∀ y ∈ b, 0 ≤ y ∧ y < 256) (h : strOf a = strOf b) : a = b := by
  rw [← strI_strOf a ha, h, strI_strOf b hb]
def w4V (v : W4) : Value := .agg #[.int .i64 v.a, .int .i64 v.b, .int .i64 v.c, .int .i64 v.d]
theorem buildI0 (w : World) : (Instr.build 183 #[]).run Try.prog w = .ok (.agg #[.int .i64 0, .int .i64 0, .int .i64 0, .int .i64 0]) w := by kernel_rfl
theorem infoI4 : (Try.prog.info? 183).map (·.size) = some 4 := by kernel_rfl
set_option maxRecDepth 100000 in
set_option maxHeartbeats 800000 in
theorem says_rok (w : World) (l : List Int) (hr : ∀ y ∈ l, 0 ≤ y ∧ y < 256) (hl : l.length ≤ 1099511627776) :
    Calls Try.prog 122 #[.string (strOf l)] w fun e w' => e = .returned (w4V (says l)) ∧ Kp NoB w w' := by
  have HR := Lib.hid hr
  have hsz := strOf_size l
  unfold w4V
  by_cases h64 : l.length < 64
  · have hT : Hid (says l = ⟨0, 0, 0, 0⟩) := Lib.hid (by unfold says; rw [if_pos h64])
    rw [hT.out]
    have h64' : (l.length : Int) < 64 := by omega
    have hbu := buildI0
    clear hr
    go_enter Try.func122, Try.ntmps122
    go_wp2_with fail
    refine bodyPost_ret (results_cell_row rfl _ _ _ _ _ _ _ rfl (Blk.new _ _ _) Try.underlying183 rfl (by exact infoI4)) rfl ⟨rfl, (Kp.refl NoB w).alloc _⟩
  · have h64' : ¬ (l.length : Int) < 64 := by omega
    have hT := says_at l h64
    have x1 : ((strOf l).extract 0 16).size = 16 := by rw [ByteArray.size_extract]; omega
    have x2 : ((strOf l).extract 16 32).size = 16 := by rw [ByteArray.size_extract]; omega
    have hb := str_eqB ((strOf l).extract 0 16) ((strOf l).extract 16 32)
    have he : ((strOf l).extract 0 16 = (strOf l).extract 16 32) ↔ l.take 16 = (l.drop 16).take 16 := by
      rw [strOf_sub, strOf_sub, List.drop_zero]
      exact ⟨fun q => strOf_inj (fun y hy => hr y (List.mem_of_mem_take hy)) (fun y hy => hr y (List.mem_of_mem_drop (List.mem_of_mem_take hy))) q, fun q => congrArg strOf q⟩
    clear hr
    by_cases h : l.take 16 = (l.drop 16).take 16
    · rw [decide_eq_true (he.2 h)] at hb
      rw [if_pos h] at hT
      have HT := Lib.hid hT
      rw [hT]
      clear hT h he
      go_enter Try.func122, Try.ntmps122
      go_upto_region 4 with fail
      go_quiet (fail)
      have hb0 : Blk ((w.alloc (.cells #[.int .i64 0, .int .i64 0, .int .i64 0, .int .i64 0] 183)).drewN nq) w.heap.size 183 #[.int .i64 0, .int .i64 0, .int .i64 0, .int .i64 0] := (Blk.new _ _ _).drewN nq
      have hk0 : Kp NoB w ((w.alloc (.cells #[.int .i64 0, .int .i64 0, .int .i64 0, .int .i64 0] 183)).drewN nq) := ((Kp.refl NoB w).alloc _).drewN nq
      clear hb
      go_wp2_with fail
      refine (show Calls _ _ #[.string (strOf l), .int .i64 0] _ _ from number_rok _ l 0 HR.out (by omega) hl).mono ?_
      rintro e w1 ⟨rfl, hq1⟩
      have hb1 := hb0.keep hq1 (fun q => q)
      have hk1 := hk0.trans hq1 (fun _ _ q => q)
      go_wp2_with fail
      refine (show Calls _ _ #[.string (strOf l), .int .i64 4] _ _ from number_rok _ l 4 HR.out (by omega) hl).mono ?_
      rintro e w2 ⟨rfl, hq2⟩
      have hb2 := hb1.keep hq2 (fun q => q)
      have hk2 := hk1.trans hq2 (fun _ _ q => q)
      go_wp2_with fail
      refine (show Calls _ _ #[.string (strOf l), .int .i64 8] _ _ from number_rok _ l 8 HR.out (by omega) hl).mono ?_
      rintro e w3 ⟨rfl, hq3⟩
      have hb3 := hb2.keep hq3 (fun q => q)
      have hk3 := hk2.trans hq3 (fun _ _ q => q)
      go_wp2_with fail
      refine (show Calls _ _ #[.string (strOf l), .int .i64 12] _ _ from number_rok _ l 12 HR.out (by omega) hl).mono ?_
      rintro e w4 ⟨rfl, hq4⟩
      have hb4 := hb3.keep hq4 (fun q => q)
      have hk4 := hk3.trans hq4 (fun _ _ q => q)
      have HB := Lib.hid hb4
      have HK := Lib.hid hk4
      obtain ⟨c0, c1, c2, c3⟩ := show w4.cell? ⟨w.heap.size, 0, none⟩ = some (.int .i64 0) ∧ w4.cell? ⟨w.heap.size, 1, none⟩ = some (.int .i64 0) ∧ w4.cell? ⟨w.heap.size, 2, none⟩ = some (.int .i64 0) ∧ w4.cell? ⟨w.heap.size, 3, none⟩ = some (.int .i64 0) from ⟨hb4.cell 0, hb4.cell 1, hb4.cell 2, hb4.cell 3⟩
      obtain ⟨z0, z1, z2, z3⟩ := show w4.frozen? ⟨w.heap.size, 0, none⟩ = false ∧ w4.frozen? ⟨w.heap.size, 1, none⟩ = false ∧ w4.frozen? ⟨w.heap.size, 2, none⟩ = false ∧ w4.frozen? ⟨w.heap.size, 3, none⟩ = false from ⟨hb4.frozen 0, hb4.frozen 1, hb4.frozen 2, hb4.frozen 3⟩
      clear hb0 hb1 hb2 hb3 hb4 hk0 hk1 hk2 hk3 hk4 hq1 hq2 hq3 hq4
      go_wp2_with fail
      have hw : Blk ((((w4.setCell ⟨w.heap.size, 0, none⟩ (.int .i64 (num l 0))).setCell ⟨w.heap.size, 1, none⟩ (.int .i64 (num l 4))).setCell ⟨w.heap.size, 2, none⟩ (.int .i64 (num l 8))).setCell ⟨w.heap.size, 3, none⟩ (.int .i64 (num l 12))) w.heap.size 183 #[.int .i64 (num l 0), .int .i64 (num l 4), .int .i64 (num l 8), .int .i64 (num l 12)] := HB.out.whole #[.int .i64 (num l 0), .int .i64 (num l 4), .int .i64 (num l 8), .int .i64 (num l 12)] rfl
      refine bodyPost_ret (results_cell_row rfl _ _ _ _ _ _ _ rfl hw Try.underlying183 rfl (by exact infoI4)) rfl ⟨rfl, (((HK.out.setCell (p := ⟨w.heap.size, 0, none⟩) (.inl (Nat.le_refl _)) _).setCell (p := ⟨w.heap.size, 1, none⟩) (.inl (Nat.le_refl _)) _).setCell (p := ⟨w.heap.size, 2, none⟩) (.inl (Nat.le_refl _)) _).setCell (p := ⟨w.heap.size, 3, none⟩) (.inl (Nat.le_refl _)) _⟩
    · rw [decide_eq_false (fun q => h (he.1 q))] at hb
      rw [if_neg h] at hT
      have HT := Lib.hid hT
      rw [hT]
      clear hT h he
      go_enter Try.func122, Try.ntmps122
      go_upto_region 4 with fail
      go_quiet (fail)
      have hb0 : Blk ((w.alloc (.cells #[.int .i64 0, .int .i64 0, .int .i64 0, .int .i64 0] 183)).drewN nq) w.heap.size 183 #[.int .i64 0, .int .i64 0, .int .i64 0, .int .i64 0] := (Blk.new _ _ _).drewN nq
      have hk0 : Kp NoB w ((w.alloc (.cells #[.int .i64 0, .int .i64 0, .int .i64 0, .int .i64 0] 183)).drewN nq) := ((Kp.refl NoB w).alloc _).drewN nq
      clear hb
      go_wp2_with fail
      refine (show Calls _ _ #[.string (strOf l), .int .i64 32] _ _ from number_rok _ l 32 HR.out (by omega) hl).mono ?_
      rintro e w1 ⟨rfl, hq1⟩
      have hb1 := hb0.keep hq1 (fun q => q)
      have hk1 := hk0.trans hq1 (fun _ _ q => q)
      go_wp2_with fail
      refine (show Calls _ _ #[.string (strOf l), .int .i64 36] _ _ from number_rok _ l 36 HR.out (by omega) hl).mono ?_
      rintro e w2 ⟨rfl, hq2⟩
      have hb2 := hb1.keep hq2 (fun q => q)
      have hk2 := hk1.trans hq2 (fun _ _ q => q)
      go_wp2_with fail
      refine (show Calls _ _ #[.string (strOf l), .int .i64 40] _ _ from number_rok _ l 40 HR.out (by omega) hl).mono ?_
      rintro e w3 ⟨rfl, hq3⟩
      have hb3 := hb2.keep hq3 (fun q => q)
      have hk3 := hk2.trans hq3 (fun _ _ q => q)
      go_wp2_with fail
      refine (show Calls _ _ #[.string (strOf l), .int .i64 44] _ _ from number_rok _ l 44 HR.out (by omega) hl).mono ?_
      rintro e w4 ⟨rfl, hq4⟩
      have hb4 := hb3.keep hq4 (fun q => q)
      have hk4 := hk3.trans hq4 (fun _ _ q => q)
      have HB := Lib.hid hb4
      have HK := Lib.hid hk4
      obtain ⟨c0, c1, c2, c3⟩ := show w4.cell? ⟨w.heap.size, 0, none⟩ = some (.int .i64 0) ∧ w4.cell? ⟨w.heap.size, 1, none⟩ = some (.int .i64 0) ∧ w4.cell? ⟨w.heap.size, 2, none⟩ = some (.int .i64 0) ∧ w4.cell? ⟨w.heap.size, 3, none⟩ = some (.int .i64 0) from ⟨hb4.cell 0, hb4.cell 1, hb4.cell 2, hb4.cell 3⟩
      obtain ⟨z0, z1, z2, z3⟩ := show w4.frozen? ⟨w.heap.size, 0, none⟩ = false ∧ w4.frozen? ⟨w.heap.size, 1, none⟩ = false ∧ w4.frozen? ⟨w.heap.size, 2, none⟩ = false ∧ w4.frozen? ⟨w.heap.size, 3, none⟩ = false from ⟨hb4.frozen 0, hb4.frozen 1, hb4.frozen 2, hb4.frozen 3⟩
      clear hb0 hb1 hb2 hb3 hb4 hk0 hk1 hk2 hk3 hk4 hq1 hq2 hq3 hq4
      go_wp2_with fail
      have hw : Blk ((((w4.setCell ⟨w.heap.size, 0, none⟩ (.int .i64 (num l 32))).setCell ⟨w.heap.size, 1, none⟩ (.int .i64 (num l 36))).setCell ⟨w.heap.size, 2, none⟩ (.int .i64 (num l 40))).setCell ⟨w.heap.size, 3, none⟩ (.int .i64 (num l 44))) w.heap.size 183 #[.int .i64 (num l 32), .int .i64 (num l 36), .int .i64 (num l 40), .int .i64 (num l 44)] := HB.out.whole #[.int .i64 (num l 32), .int .i64 (num l 36), .int .i64 (num l 40), .int .i64 (num l 44)] rfl
      refine bodyPost_ret (results_cell_row rfl _ _ _ _ _ _ _ rfl hw Try.underlying183 rfl (by exact infoI4)) rfl ⟨rfl, (((HK.out.setCell (p := ⟨w.heap.size, 0, none⟩) (.inl (Nat.le_refl _)) _).setCell (p := ⟨w.heap.size, 1, none⟩) (.inl (Nat.le_refl _)) _).setCell (p := ⟨w.heap.size, 2, none⟩) (.inl (Nat.le_refl _)) _).setCell (p := ⟨w.heap.size, 3, none⟩) (.inl (Nat.le_refl _)) _⟩
end Go.Proofs.Ytegcbdfilkecpaa
/- The reference's journal: the text of a page, a page of a text; no condition but on lengths. -/
namespace Go.Proofs.Ytegcbdfilkecpaa
open Go.RowKit

/-- the first k of a row of bytes, then noughts -/
def upK (l : List Int) (k : Nat) : List Int := l.take k ++ List.replicate (256 - k) 0
theorem upK_len {l : List Int} {k : Nat} (h : k ≤ l.length) (hk : k ≤ 256) : (upK l k).length = 256 := by unfold upK; simp only [List.length_append, List.length_take, List.length_replicate]; omega
theorem upK_zero (l : List Int) : upK l 0 = zeros 256 := by unfold upK zeros; rw [List.take_zero, List.nil_append]
theorem upK_next {l : List Int} {k : Nat} (h : k < l.length) (hk : k < 256) : (upK l k).set k (l.getD k 0) = upK l (k + 1) := by
  unfold upK
  have hl : (l.take k).length = k := by rw [List.length_take]; omega
  rw [List.set_append_right _ _ (by omega), hl, Nat.sub_self, show 256 - k = (256 - (k + 1)) + 1 by omega, List.replicate_succ, List.set_cons_zero, List.take_add_one, List.getElem?_eq_getElem h, Option.toList_some, List.append_assoc, List.getD_eq_getElem?_getD, List.getElem?_eq_getElem h]
  rfl
theorem upK_end {l : List Int} {k : Nat} (h : k = min 256 l.length) : upK l k = sizedF l 256 := by
  unfold upK sizedF
  split
  · rw [show k = 256 by omega]; simp
  · rw [List.take_of_length_le (by omega), show k = l.length by omega]
theorem bytesV_setR (l : List Int) (k : Nat) (y : Int) : (bytesV l).setIfInBounds k (.int .u8 y) = bytesV (l.set k y) := by
  unfold bytesV
  rw [List.setIfInBounds_toArray, List.map_set]
theorem bytesV_getR {l : List Int} {k : Nat} (h : k < l.length) : (bytesV l)[k]? = some (.int .u8 (l.getD k 0)) := by
  unfold bytesV
  rw [List.getElem?_toArray, List.getElem?_map, List.getD_eq_getElem?_getD, List.getElem?_eq_getElem h]
  rfl
def TxRel (w : World) (s0 : Nat) (pg l : List Int) (c : Nat) (t1 : TypeId) (v : Value) (wr : World) : Prop :=
  ∃ k : Nat, v = .int .i64 (k : Int) ∧ k ≤ 256 ∧ k ≤ c ∧ Blk wr s0 24 (bytesV pg) ∧ Blk wr (s0 + 1) t1 (bytesV (upK l k)) ∧ Kp NoB w wr
attribute [local go_sem ↓] conv64 load26 store26 alloc26 build26
set_option maxRecDepth 100000 in
set_option maxHeartbeats 800000 in
theorem text_rok (w : World) (pg : List Int) (hl : pg.length = 256) (hr : ∀ y ∈ pg, 0 ≤ y ∧ y < 256) :
    Calls Try.prog 160 #[.agg (bytesV pg)] w fun e w' => e = .returned (.string (strOf pg)) ∧ Kp NoB w w' := by
  have HR := Lib.hid hr
  have HL := Lib.hid hl
  have hmk : (Instr.makeSlice 42 (.int .i64 256) (.int .i64 256)).run Try.prog (w.alloc (.cells (bytesV pg) 24)) = _ := run_make_row' (P := Try.prog) 42 5 (.int .u8 0) 1 Try.underlying42 infoU8z rfl .i64 .i64 256 (by omega) (by omega) (w.alloc (.cells (bytesV pg) 24))
  rw [made_zeros] at hmk
  have hb0 : Blk ((w.alloc (.cells (bytesV pg) 24)).alloc (.cells (bytesV (zeros 256)) 5)) w.heap.size 24 (bytesV pg) := (Blk.new _ _ _).alloc _
  have hb1 : Blk ((w.alloc (.cells (bytesV pg) 24)).alloc (.cells (bytesV (zeros 256)) 5)) (w.heap.size + 1) 5 (bytesV (zeros 256)) := Blk.top (by simp)
  have hk0 : Kp NoB w ((w.alloc (.cells (bytesV pg) 24)).alloc (.cells (bytesV (zeros 256)) 5)) := ((Kp.refl NoB w).alloc _).alloc _
  have hsz : (w.alloc (.cells (bytesV pg) 24)).heap.size = w.heap.size + 1 := by simp
  clear hr hl
  go_enter Try.func160, Try.ntmps160
  go_upto_region 3 with fail
  clear hmk
  generalize (w.alloc (.cells (bytesV pg) 24)).alloc (.cells (bytesV (zeros 256)) 5) = w2 at hb0 hb1 hk0 ⊢
  generalize hs0 : w.heap.size = s0 at hb0 hb1 hsz ⊢
  have HS0 := Lib.hid hs0
  have HB0 := Lib.hid hb0
  have HB1 := Lib.hid hb1
  have HK0 := Lib.hid hk0
  clear hs0 hb0 hb1 hk0 hsz
  go_loopw [4] (fun v wr => TxRel w s0 pg pg 256 5 v wr) (fun v _ => 256 - (intOf v).toNat)
  case atStart => exact ⟨0, rfl, by omega, by omega, HB0.out, by rw [upK_zero]; exact HB1.out, HK0.out⟩
  case round =>
    obtain ⟨wq, rfl⟩ : ∃ wq, wq = wr := ⟨_, rfl⟩
    obtain ⟨k, rfl, hk, _, hb0, hb1, hkp⟩ := hrel
    have X0 := Lib.hid hb0
    have X1 := Lib.hid hb1
    have XK := Lib.hid hkp
    by_cases hlt : k < 256
    · have hlt' : (k : Int) < 256 := by omega
      have hkl : k < pg.length := by have := HL.out; omega
      have c0 : wq.cell? ⟨s0, k, none⟩ = some (.int .u8 (pg.getD k 0)) := by rw [hb0.cell, bytesV_getR hkl]
      have hul : (upK pg k).length = 256 := upK_len (by omega) hk
      have c1 : wq.cell? ⟨s0 + 1, k, none⟩ = some (.int .u8 ((upK pg k).getD k 0)) := by rw [hb1.cell, bytesV_getR (by omega)]
      have z1 := hb1.frozen k
      have hN : Hid (TxRel w s0 pg pg 256 5 (.int .i64 ((k + 1 : Nat) : Int)) (wq.setCell ⟨s0 + 1, k, none⟩ (.int .u8 (pg.getD k 0)))) := Lib.hid ⟨k + 1, rfl, by omega, by omega, hb0.far (by show s0 ≠ s0 + 1; omega) _, by
        have := hb1.set_ k (.int .u8 (pg.getD k 0))
        rwa [bytesV_setR, upK_next hkl hlt] at this, hkp.setCell (.inl (by have := HS0.out; show w.heap.size ≤ s0 + 1; omega)) _⟩
      clear hb0 hb1 hkp hul hkl
      obtain ⟨y, hy⟩ : ∃ y, pg.getD k 0 = y := ⟨_, rfl⟩
      rw [hy] at c0 hN
      clear hy
      go_wp2_with fail
      go_roundw
      case rel => exact hN.out
      case measure => simp [intOf]; omega
    · have hlt' : ¬ (k : Int) < 256 := by omega
      obtain rfl : k = 256 := by omega
      have e1 : upK pg 256 = pg := by
        rw [upK_end (l := pg) (k := 256) (by have := HL.out; omega)]
        unfold sizedF
        rw [if_pos (by have := HL.out; omega), List.take_of_length_le (by have := HL.out; omega)]
      rw [e1] at hb1
      have h1 := hb1.byAt 0 256 (by have := HL.out; omega)
      have h2 := hb1.byRd 0 256 (by have := HL.out; omega)
      rw [List.drop_zero, List.take_of_length_le (by have := HL.out; omega)] at h2
      clear hb0 hb1 hkp e1
      go_wp2_with fail
      go_ret
      exact ⟨by rfl, XK.out⟩
set_option maxRecDepth 100000 in
set_option maxHeartbeats 800000 in
theorem pageof_rok (w : World) (l : List Int) (n : Int) (hr : ∀ y ∈ l, 0 ≤ y ∧ y < 256) (hl : l.length ≤ 1099511627776) (hn : 1 ≤ n ∧ n ≤ 1099511627776) :
    Calls Try.prog 74 #[.string (strOf l), .int .i64 n] w fun e w' => e = .returned (.agg (bytesV (pageOf l n.toNat))) ∧ Kp NoB w w' := by
  have HR := Lib.hid hr
  have HN := Lib.hid hn
  obtain ⟨m, hm⟩ : ∃ m : Nat, (n.toNat - 1) * 256 = m := ⟨_, rfl⟩
  have hmn : (n - 1) * 256 = (m : Int) := by omega
  have hm3 : m ≤ 281474976710656 := by omega
  have hsz := strOf_size l
  have hw1 : IntKind.i64.wrap (n - 1) = n - 1 := by rw [IntKind.wrap_i64]; omega
  have hw2 : IntKind.i64.wrap ((n - 1) * 256) = (m : Int) := by rw [hmn, IntKind.wrap_i64]; omega
  obtain ⟨d, hd⟩ : ∃ d, l.drop m = d := ⟨_, rfl⟩
  have hdl : d.length = l.length - m := by rw [← hd, List.length_drop]
  have hdg : ∀ k, m + k < l.length → d.getD k 0 = l.getD (m + k) 0 := fun k hk => by rw [← hd, List.getD_eq_getElem?_getD, List.getD_eq_getElem?_getD, List.getElem?_drop]
  have HDL := Lib.hid hdl
  have HDG := Lib.hid hdg
  have HPG : Hid (pageOf l n.toNat = sizedF d 256) := Lib.hid (by unfold pageOf; rw [hm, hd])
  have HLL := Lib.hid hl
  have hez : zero256 = bytesV (zeros 256) := by kernel_rfl
  have hb0 : Blk ((w.alloc (.cells zero256 24)).alloc (.cells zero256 24)) w.heap.size 24 (bytesV (zeros 256)) := by rw [← hez]; exact (Blk.new _ _ _).alloc _
  have hb1 : Blk ((w.alloc (.cells zero256 24)).alloc (.cells zero256 24)) (w.heap.size + 1) 24 (bytesV (zeros 256)) := by rw [← hez]; exact Blk.top (by simp)
  have hk0 : Kp NoB w ((w.alloc (.cells zero256 24)).alloc (.cells zero256 24)) := ((Kp.refl NoB w).alloc _).alloc _
  have hsz2 : (w.alloc (.cells zero256 24)).heap.size = w.heap.size + 1 := by simp
  clear hez
  clear hr hn hm hmn hd hdl hdg
  rw [HPG.out]
  go_enter Try.func74, Try.ntmps74
  go_upto_region 3 with fail
  generalize ((w.alloc (.cells zero256 24)).alloc (.cells zero256 24)) = w2 at hb0 hb1 hk0 ⊢
  generalize hs0 : w.heap.size = s0 at hb0 hb1 hsz2 ⊢
  have HS0 := Lib.hid hs0
  have HB0 := Lib.hid hb0
  have HB1 := Lib.hid hb1
  have HK0 := Lib.hid hk0
  clear hs0 hb0 hb1 hk0 hsz2
  go_loopw [6] (fun v wr => TxRel w s0 (zeros 256) d d.length 24 v wr) (fun v _ => 256 - (intOf v).toNat)
  case atStart => exact ⟨0, rfl, by omega, by omega, HB0.out, by rw [upK_zero]; exact HB1.out, HK0.out⟩
  case round =>
    obtain ⟨wq, rfl⟩ : ∃ wq, wq = wr := ⟨_, rfl⟩
    obtain ⟨k, rfl, hk, hkd, hb0, hb1, hkp⟩ := hrel
    have X0 := Lib.hid hb0
    have X1 := Lib.hid hb1
    have XK := Lib.hid hkp
    have hw3 : IntKind.i64.wrap ((m : Int) + (k : Int)) = (m : Int) + (k : Int) := by rw [IntKind.wrap_i64]; omega
    by_cases hlt : k < 256 ∧ m + k < l.length
    · have hlt' : (k : Int) < 256 := by omega
      have hmk : (m : Int) + (k : Int) < (l.length : Int) := by omega
      have hkl : k < d.length := by have := HDL.out; omega
      have hul : (upK d k).length = 256 := upK_len hkd hk
      have c1 : wq.cell? ⟨s0 + 1, k, none⟩ = some (.int .u8 ((upK d k).getD k 0)) := by rw [hb1.cell, bytesV_getR (by omega)]
      have z1 := hb1.frozen k
      have hix := fun W => idxStr (s := strOf l) rfl HR.out (show m + k < l.length by omega) W
      rw [show ((m + k : Nat) : Int) = (m : Int) + (k : Int) by omega, ← HDG.out k (by omega)] at hix
      have hN : Hid (TxRel w s0 (zeros 256) d d.length 24 (.int .i64 ((k + 1 : Nat) : Int)) (wq.setCell ⟨s0 + 1, k, none⟩ (.int .u8 (d.getD k 0)))) := Lib.hid ⟨k + 1, rfl, by omega, by omega, hb0.far (by show s0 ≠ s0 + 1; omega) _, by
        have := hb1.set_ k (.int .u8 (d.getD k 0))
        rwa [bytesV_setR, upK_next hkl hlt.1] at this, hkp.setCell (.inl (by have := HS0.out; show w.heap.size ≤ s0 + 1; omega)) _⟩
      clear hb0 hb1 hkp hul hkl hkd
      obtain ⟨y, hy⟩ : ∃ y, d.getD k 0 = y := ⟨_, rfl⟩
      rw [hy] at hix hN
      clear hy hlt
      go_wp2_with fail
      go_roundw
      case rel => exact hN.out
      case measure => simp [intOf]; omega
    · have hx : ¬ (k : Int) < 256 ∨ ((k : Int) < 256 ∧ ¬ (m : Int) + (k : Int) < (l.length : Int)) := by omega
      have hke : k = min 256 d.length := by have := HDL.out; omega
      have e1 : upK d k = sizedF d 256 := upK_end hke
      rw [e1] at hb1
      have hpl : (sizedF d 256).length = 256 := sizedF_len _ _
      have hbl : (bytesV (sizedF d 256)).size = 256 := by simp [bytesV, hpl]
      have hzl : (bytesV (zeros 256)).size = 256 := by unfold bytesV zeros; simp
      have t1 : wq.there (s0 + 1) 0 256 := hb1.thereAll 256 hbl
      have r1 : readRow wq (s0 + 1) 0 256 = bytesV (sizedF d 256) := hb1.readAll 256 hbl
      have t0 : wq.there s0 0 256 := hb0.thereAll 256 hzl
      have o1 : ones (bytesV (sizedF d 256)) := by unfold ones bytesV; simp only [List.all_toArray', List.all_eq_true]; exact u8_one _
      obtain ⟨P, hP⟩ : ∃ P, bytesV (sizedF d 256) = P := ⟨_, rfl⟩
      rw [hP] at r1 hbl o1
      have HP := Lib.hid hP
      have HBL := Lib.hid hbl
      have HW : Hid (Blk (wq.setCells s0 0 P.toList) s0 24 P) := Lib.hid (hb0.whole P (by rw [hbl, hzl]))
      have HKW : Hid (Kp NoB w (wq.setCells s0 0 P.toList)) := Lib.hid (Kp.setCells (.inl (by have := HS0.out; omega)) _ _ _ hkp)
      clear hb0 hb1 hkp e1 hke hlt hpl hzl hP
      rcases hx with hx | ⟨hx1, hx⟩
      all_goals
        go_wp2_with fail
        exact bodyPost_ret (results_cell_row rfl _ _ _ _ _ _ _ rfl HW.out Try.underlying24 rfl (by rw [HBL.out]; exact info26)) rfl ⟨by rw [HP.out], HKW.out⟩
end Go.Proofs.Ytegcbdfilkecpaa
/- The reference's journal: Ready, Count, Hot on the reference's disk; condition: fewer than 2^40 files. -/
namespace Go.Proofs.Ytegcbdfilkecpaa
open Go.RowKit

def jReady (p : Pl) : Int := if p.down then 7 else 0
set_option maxRecDepth 100000 in
set_option maxHeartbeats 800000 in
theorem ready_rok (w : World) (d : Rd) (p : Pl) (h : Rf w d p) (hnf : p.nf < 1099511627776) :
    Calls Try.prog 72 #[rdV d p] w fun e w' => e = .returned (.int .i64 (jReady p)) ∧ Kp NoB w w' := by
  have H := Lib.hid h
  have HNF := Lib.hid hnf
  have he : Hid (p.readE 0 0 = jReady p) := Lib.hid (by unfold Pl.readE jReady; simp)
  clear h hnf
  unfold rdV
  go_enter Try.func72, Try.ntmps72
  go_wp2_with fail
  refine (show Calls _ _ #[rdV d p, .string nmDb, .int .i64 0, .int .i64 0] _ _ from read_okR _ d p nmDb 0 0 (H.out.keep ((Kp.refl NoB w).alloc _)) HNF.out (by omega) (by omega)).mono ?_
  rintro e w2 ⟨rfl, hk⟩
  have HK := Lib.hid (((Kp.refl NoB w).alloc _).trans hk (fun _ _ q => q))
  clear hk
  rw [he.out]
  go_wp2_with fail
  go_ret
  exact ⟨rfl, HK.out⟩
set_option maxRecDepth 100000 in
set_option maxHeartbeats 800000 in
theorem count_rok (w : World) (d : Rd) (p : Pl) (h : Rf w d p) (hnf : p.nf < 1099511627776) :
    Calls Try.prog 73 #[rdV d p] w fun e w' => e = .returned (.int .i64 (p.jcount : Int)) ∧ Kp NoB w w' := by
  have H := Lib.hid h
  have HNF := Lib.hid hnf
  have hk1 : Kp NoB w (w.alloc (.cells (rdC d p) 56)) := (Kp.refl NoB w).alloc _
  have hb1 : Blk (w.alloc (.cells (rdC d p) 56)) w.heap.size 56 (rdC d p) := Blk.new _ _ _
  clear h hnf
  by_cases hd : p.down = true
  · have hr : Hid (jReady p = 7) := Lib.hid (by unfold jReady; rw [if_pos hd])
    have hc : Hid (p.jcount = 0) := Lib.hid (by unfold Pl.jcount Pl.len; rw [if_pos hd])
    rw [hc.out]
    clear hd
    unfold rdV
    go_enter Try.func73, Try.ntmps73
    go_wp2_with fail
    refine (show Calls _ _ #[rdV d p] _ _ from ready_rok _ d p (H.out.keep hk1) HNF.out).mono ?_
    rintro e w2 ⟨rfl, hk⟩
    have HK := Lib.hid (hk1.trans hk (fun _ _ q => q))
    clear hk
    rw [hr.out]
    go_wp2_with fail
    go_ret
    exact ⟨rfl, HK.out⟩
  · have hr : Hid (jReady p = 0) := Lib.hid (by unfold jReady; rw [if_neg hd])
    obtain ⟨n, hn⟩ : ∃ n, (p.seen nmDb).length = n := ⟨_, rfl⟩
    have hc : Hid (p.jcount = n / 256) := Lib.hid (by unfold Pl.jcount Pl.len; rw [if_neg hd, hn])
    rw [hc.out]
    have hsz := strOf_size (p.seen nmDb)
    rw [hn] at hsz
    have hn2 : n ≤ 1048576 := by rw [← hn]; exact (H.out.look nmDb).1.1
    clear hd hn
    unfold rdV
    go_enter Try.func73, Try.ntmps73
    go_wp2_with fail
    refine (show Calls _ _ #[rdV d p] _ _ from ready_rok _ d p (H.out.keep hk1) HNF.out).mono ?_
    rintro e w2 ⟨rfl, hk⟩
    have HK := Lib.hid (hk1.trans hk (fun _ _ q => q))
    obtain ⟨c0, c1, c2, c3, c4, c5, c6, c7⟩ := (hb1.keep hk (fun q => q)).rdc
    clear hk
    rw [hr.out]
    go_wp2_with fail
    refine (show Calls _ _ #[rdV d p, .string nmDb] _ _ from seen_ok _ d p nmDb (H.out.keep HK.out) HNF.out).mono ?_
    rintro e w3 ⟨rfl, hk⟩
    have HK3 := Lib.hid (HK.out.trans hk (fun _ _ q => q))
    clear hk
    go_wp2_with fail
    go_ret
    exact ⟨by rw [show ((n / 256 : Nat) : Int) = (n : Int) / 256 by omega]; rfl, HK3.out⟩
set_option maxRecDepth 100000 in
set_option maxHeartbeats 800000 in
theorem hot_rok (w : World) (d : Rd) (p : Pl) (h : Rf w d p) (hnf : p.nf < 1099511627776) :
    Calls Try.prog 75 #[rdV d p] w fun e w' => e = .returned (.bool p.jhot) ∧ Kp NoB w w' := by
  have H := Lib.hid h
  have HNF := Lib.hid hnf
  have hk1 : Kp NoB w (w.alloc (.cells (rdC d p) 56)) := (Kp.refl NoB w).alloc _
  have hb1 : Blk (w.alloc (.cells (rdC d p) 56)) w.heap.size 56 (rdC d p) := Blk.new _ _ _
  have hlk := (h.look nmJn).1
  have HLK := Lib.hid hlk
  obtain ⟨v, hv⟩ : ∃ v, says (p.seen nmJn) = v := ⟨_, rfl⟩
  have HV := Lib.hid hv
  obtain ⟨va, vb, vc, vd⟩ := v
  have hjh : p.jhot = (!p.down && decide (va ≠ 0)) := by unfold Pl.jhot Pl.jhead; rw [hv]
  have HJ := Lib.hid hjh
  clear h hnf hlk hv hjh
  unfold rdV
  go_enter Try.func75, Try.ntmps75
  go_wp2_with fail
  refine (show Calls _ _ #[rdV d p, .string nmJn] _ _ from seen_ok _ d p nmJn (H.out.keep hk1) HNF.out).mono ?_
  rintro e w2 ⟨rfl, hk⟩
  have HK2 := Lib.hid (hk1.trans hk (fun _ _ q => q))
  have HB2 := Lib.hid (hb1.keep hk (fun q => q))
  clear hk
  go_wp2_with fail
  refine (says_rok w2 (p.seen nmJn) HLK.out.2 (by have := HLK.out.1; omega)).mono ?_
  rintro e w3 ⟨rfl, hk⟩
  rw [HV.out]
  have HK3 := Lib.hid (HK2.out.trans hk (fun _ _ q => q))
  have HB3 := Lib.hid (HB2.out.keep hk (fun q => q))
  clear hk
  obtain ⟨c0, c1, c2, c3, c4, c5, c6, c7⟩ := HB3.out.rdc
  have hl0 := HB3.out.lt
  unfold w4V
  generalize hs0 : w.heap.size = s0 at hl0 c0 c1 c2 c3 c4 c5 c6 c7 HB3 ⊢
  have HS0 := Lib.hid hs0
  clear hs0
  go_wp2_with fail
  have hk4 : Kp NoB w3 (w3.alloc (.cells #[.int .i64 va, .int .i64 vb, .int .i64 vc, .int .i64 vd] 183)) := (Kp.refl NoB w3).alloc _
  have hb4 : Blk (w3.alloc (.cells #[.int .i64 va, .int .i64 vb, .int .i64 vc, .int .i64 vd] 183)) w3.heap.size 183 #[.int .i64 va, .int .i64 vb, .int .i64 vc, .int .i64 vd] := Blk.new _ _ _
  refine (show Calls _ _ #[rdV d p] _ _ from ready_rok _ d p (H.out.keep (HK3.out.trans hk4 (fun _ _ q => q))) HNF.out).mono ?_
  rintro e w5 ⟨rfl, hk5⟩
  have e0 : w5.cell? ⟨w3.heap.size, 0, none⟩ = some (.int .i64 va) := (hb4.keep hk5 (fun q => q)).cell 0
  have HK5 := Lib.hid ((HK3.out.trans hk4 (fun _ _ q => q)).trans hk5 (fun _ _ q => q))
  clear hk4 hb4 hk5
  unfold jReady
  by_cases hd : p.down = true
  · have hj : p.jhot = false := by rw [HJ.out, hd]; rfl
    have HJ2 := Lib.hid hj
    rw [if_pos hd]
    clear hj hd
    go_wp2_with fail
    go_ret
    exact ⟨by rw [HJ2.out]; rfl, HK5.out⟩
  · have hd' : p.down = false := by simpa using hd
    rw [if_neg hd]
    by_cases ha : va = 0
    · have hj : p.jhot = false := by rw [HJ.out, hd', ha]; rfl
      have HJ2 := Lib.hid hj
      subst ha
      clear hj hd hd'
      go_wp2_with fail
      go_ret
      exact ⟨by rw [HJ2.out]; rfl, HK5.out⟩
    · have hj : p.jhot = true := by rw [HJ.out, hd']; simpa using ha
      have HJ2 := Lib.hid hj
      have ha2 : (va != 0) = true := by simpa using ha
      have ha3 : (va == 0) = false := by simpa using ha
      clear hj hd hd'
      go_wp2_with fail
      go_ret
      exact ⟨by rw [HJ2.out]; rfl, HK5.out⟩
end Go.Proofs.Ytegcbdfilkecpaa
/- The reference's journal: steps in memory; Head, Has; no condition but on lengths. -/
namespace Go.Proofs.Ytegcbdfilkecpaa
open Go.RowKit

/-- a step, as cells -/
def stC (s : Stp) : List Value := [.int .i64 (s.k : Int), .string s.nm, .int .i64 s.at_, .string (strOf s.d)]
theorem st_len (l : List Stp) : ∀ x ∈ l.map stC, x.length = 4 := by
  intro x hx
  obtain ⟨c, _, rfl⟩ := List.mem_map.1 hx
  rfl
theorem st_one (l : List Stp) : ∀ u ∈ (l.map stC).flatten, u.oneCell' = true := by
  intro u hu
  obtain ⟨x, hx, h2⟩ := List.mem_flatten.1 hu
  obtain ⟨c, _, rfl⟩ := List.mem_map.1 hx
  unfold stC at h2
  simp at h2
  rcases h2 with rfl | rfl | rfl | rfl <;> rfl
/-- a list of steps of the caller's own -/
def OwnSt (w : World) (n0 : Nat) (v : Value) (l : List Stp) : Prop := w.ownsRow n0 221 4 v l.length (l.map stC).flatten
theorem OwnSt.rows {w : World} {n0 : Nat} {A : Option Addr} {n c : Nat} {l : List Stp} (h : OwnSt w n0 (.slice A n c) l) : n = l.length ∧ RowsC w A n 4 (l.map stC) := by
  have hn : n = l.length := by
    rcases h.2 with ⟨e, hl⟩ | ⟨g, cap, cur, e, _⟩
    · injection e with _ e2 _; omega
    · injection e with _ e2 _
  subst hn
  exact ⟨rfl, RowsC.own (base := n0) (e := 221) (cap := c) h (by rw [List.length_map]) (st_len l)⟩
theorem infoSt : (Try.prog.info? 221).map (fun i => (i.zero, i.size, i.bytes)) = some (some (.agg #[.int .i64 0, .string ⟨#[]⟩, .int .i64 0, .string ⟨#[]⟩]), 4, 48) := by kernel_rfl
set_option maxRecDepth 100000 in
set_option maxHeartbeats 800000 in
theorem head_rok (w : World) (nm : ByteArray) (v : W4) (hv : W4R v) :
    Calls Try.prog 121 #[.string nm, w4V v] w fun e w' => ∃ v', e = .returned v' ∧ OwnSt w' w.heap.size v' (headS nm v) ∧ Kp NoB w w' := by
  have HV := Lib.hid hv
  clear hv
  unfold w4V
  go_enter Try.func121, Try.ntmps121
  go_wp2_with fail
  refine (seal_rok _ v HV.out).mono ?_
  rintro e w2 ⟨rfl, hk⟩
  have HK := Lib.hid (((Kp.refl NoB w).alloc _).trans hk (fun _ _ q => q))
  clear hk
  go_wp2_with fail
  go_ret
  exact ⟨_, rfl, ⟨rfl, .inr ⟨w2.heap.size, 2, _, rfl, HK.out.size, heap_alloc_new _ _, Nat.le_refl _, by unfold maxLen; omega, rfl, rfl⟩⟩, HK.out.alloc _⟩
set_option maxRecDepth 100000 in
set_option maxHeartbeats 800000 in
theorem has_rok (w : World) (A : Option Addr) (m c : Nat) (l : List Pg) (n : Int) (hl : PgsAt w A m l) (hm : m ≤ 9223372036854775807) :
    Calls Try.prog 120 #[.slice A m c, .int .i64 n] w fun e w' => e = .returned (.bool (hasPg l n)) ∧ Kp NoB w w' := by
  have HL := Lib.hid hl
  have hlen : l.length = m := hl.len
  have HLEN := Lib.hid hlen
  clear hl hlen
  go_enter Try.func120, Try.ntmps120
  go_wp2_with fail
  go_loop [5] (fun v => ∃ k : Nat, v = .int .i64 (k : Int) ∧ k ≤ m ∧ ∀ x ∈ l.take k, x.n ≠ n) (fun v => m - (intOf v).toNat)
  case atStart => exact ⟨0, rfl, Nat.zero_le _, by simp⟩
  case round =>
    obtain ⟨k, rfl, hk, hlk⟩ := hrel
    have HLK := Lib.hid hlk
    clear hlk
    by_cases hlt : k < m
    · have hkl : k < l.length := by have := HLEN.out; omega
      obtain ⟨x, hx⟩ : ∃ x, l[k] = x := ⟨_, rfl⟩
      have hxk : l[k]? = some x := by rw [List.getElem?_eq_getElem hkl, hx]
      have HXK := Lib.hid hxk
      obtain ⟨g, o, rfl, hg, hc⟩ := (show RowsC w A m 257 (l.map pgL) from HL.out).cell (k := k) (x := pgL x) (by rw [List.getElem?_map, hxk]; rfl)
      have c0 := hc 0 _ rfl
      rw [Nat.add_zero] at c0
      have hkk : (k : Int) < (m : Int) := by omega
      obtain ⟨xn, hxn⟩ : ∃ y, x.n = y := ⟨_, rfl⟩
      rw [hxn] at c0
      have HXN := Lib.hid hxn
      clear hc hx hxk hkl hxn
      by_cases he : xn = n
      · have HE : Hid (hasPg l n = true) := Lib.hid ((hasPg_iff l n).2 ⟨x, List.mem_of_getElem? HXK.out, by rw [HXN.out, he]⟩)
        subst he
        go_wp2_with fail
        go_ret
        exact ⟨by rw [HE.out]; rfl, Kp.refl NoB w⟩
      · have he2 : (xn == n) = false := by simpa using he
        have HN : Hid (∀ y ∈ l.take (k + 1), y.n ≠ n) := Lib.hid (fun y hy => by
          rw [List.take_add_one, HXK.out] at hy
          rcases List.mem_append.1 hy with q | q
          · exact HLK.out y q
          · simp only [Option.toList_some, List.mem_singleton] at q
            rw [q, HXN.out]
            exact he)
        clear he
        go_wp2_with fail
        go_round
        case rel => exact ⟨k + 1, by go_num, by omega, HN.out⟩
        case measure => simp [intOf]; omega
    · have hlt' : ¬ (k : Int) < (m : Int) := by omega
      have HE : Hid (hasPg l n = false) := Lib.hid (by
        have h1 := HLK.out
        rw [List.take_of_length_le (by have := HLEN.out; omega)] at h1
        rcases hq : hasPg l n with _ | _
        · rfl
        · obtain ⟨y, hy, e⟩ := (hasPg_iff l n).1 hq
          exact absurd e (h1 y hy))
      go_wp2_with fail
      go_ret
      exact ⟨by rw [HE.out]; rfl, Kp.refl NoB w⟩
end Go.Proofs.Ytegcbdfilkecpaa
