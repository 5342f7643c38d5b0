/- Texts of this proof, one behind the other: lemmas and contracts; each says its own conditions. -/
import Derived.Test.YtoeldmkbmnkhkaaGreatP5
import Derived.Test.YtoeldmkbmnkhkaaGreatP8
import Derived.Test.YtoeldmkbmnkhkaaGreatP11
import Derived.Test.YtoeldmkbmnkhkaaGreatP12
import Derived.Test.YtoeldmkbmnkhkaaGreatP13
/- A database laid; is it laid; a number asked, a number set; no condition. -/
namespace Go.Proofs.YtoeldmkbmnkhkaaGreat
open Go.RowKit
attribute [local go_sem ↓] load26 store26 alloc26 build26 loadSf storeSf allocSf buildSf0 buildSfE

section
variable {L : Lab} {w : World} {t0 : Nat} {D : List (List Int)} {sv : List (List (List Int))}
theorem sf0_ok : SfOk sf0 := ⟨⟨by decide, by decide⟩, rfl, fun n hn => by rw [List.eq_of_mem_replicate hn]; decide⟩
set_option maxRecDepth 100000 in
set_option maxHeartbeats 800000 in
theorem lay_w (h : Wr L w t0 D sv) : Calls Tryz.prog 39 #[ptrV t0] w (WrEnd L w t0 (layS D).1 sv (.int .i64 (layS D).2)) := by
  have H := Lib.hid h
  clear h
  unfold ptrV at *
  go_enter Tryz.func39, Tryz.ntmps39
  go_wp2_with fail
  refine (count_w H.out).mono ?_
  rintro e w1 ⟨rfl, hk1⟩
  have K1 := Lib.hid hk1
  have HS := Lib.hid (shrS_all D)
  have HN : Hid (∃ n, (D.length : Int) = n) := Lib.hid ⟨_, rfl⟩
  obtain ⟨n, hn⟩ := HN.out
  rw [hn] at HS ⊢
  have HNN := Lib.hid hn
  clear hk1 HN hn
  go_wp2_with fail
  refine (shrink_w (H.out.keep K1.out) n).mono ?_
  rw [HS.out]
  rintro e w2 ⟨rfl, L2, h2, g2⟩
  have H2 := Lib.hid h2
  have G2 := Lib.hid ((Gw.nob K1.out).trans g2)
  clear h2 g2
  dsimp only
  go_wp2_with fail
  refine (count_w H2.out).mono ?_
  rintro e w3 ⟨rfl, hk3⟩
  rw [HNN.out]
  have K3 := Lib.hid hk3
  clear hk3
  by_cases h0 : 0 < n
  · have E : Hid (layS D = (D, 6)) := Lib.hid (by unfold layS; rw [if_pos (by have := HNN.out; omega)])
    go_wp2_with fail
    go_ret
    rw [E.out]
    exact ⟨rfl, L2, H2.out.keep K3.out, G2.out.trans (Gw.nob K3.out)⟩
  · have hD : D = [] := List.eq_nil_of_length_eq_zero (by have := HNN.out; omega)
    subst hD
    have E : Hid (layS [] = ([spg sf0], 0)) := Lib.hid rfl
    rw [E.out]
    have o0 := sfC_one sf0
    go_wp2_with fail
    refine (page_ok w3 sf0 sf0_ok).mono ?_
    rintro e w4 ⟨rfl, hk4⟩
    have HC := put_w ((H2.out.keep K3.out).keep hk4) 1 (spg sf0) (spg_bytes sf0_ok.len)
    rw [show putS [] 1 (spg sf0) = ([spg sf0], 0) from rfl] at HC
    have HC' := Lib.hid HC
    have G4 := Lib.hid ((G2.out.trans (Gw.nob K3.out)).trans (Gw.nob hk4))
    clear HC hk4
    go_wp2_with fail
    refine HC'.out.mono ?_
    rintro e w5 ⟨rfl, L5, h5, g5⟩
    dsimp only
    go_wp2_with fail
    go_ret
    exact ⟨rfl, L5, h5, G4.out.trans g5⟩
set_option maxRecDepth 100000 in
set_option maxHeartbeats 800000 in
theorem laid_w (h : Wr L w t0 D sv) : Calls Tryz.prog 62 #[ptrV t0] w fun e w' => e = .returned (.int .i64 (readE D)) ∧ Kp NoB w w' := by
  have HR := Lib.hid (read_w h)
  have HL := Lib.hid (readV_ok h).len
  clear h
  unfold ptrV at *
  go_enter Tryz.func62, Tryz.ntmps62
  go_wp2_with fail
  refine HR.out.mono ?_
  rintro e w1 ⟨rfl, hk⟩
  obtain ⟨o9, s9, t9, hb9, kk9⟩ := firstFacts w1 (readV D) HL.out
  have K := Lib.hid (hk.trans kk9 (fun _ _ q => q))
  generalize readV D = f at o9 s9 K ⊢
  clear hb9 kk9 hk
  dsimp only
  go_wp2_with fail
  go_ret
  exact ⟨rfl, K.out⟩
set_option maxRecDepth 100000 in
set_option maxHeartbeats 800000 in
theorem get_w (h : Wr L w t0 D sv) (i : Int) : Calls Tryz.prog 40 #[ptrV t0, .int .i64 i] w fun e w' => e = .returned (.tuple #[.int .u32 (getS D i).1, .int .i64 (getS D i).2]) ∧ Kp NoB w w' := by
  have HR := Lib.hid (read_w h)
  have HL := Lib.hid (readV_ok h).len
  clear h
  unfold ptrV at *
  cases hr : readS D with
  | none =>
    obtain ⟨e1, e2⟩ := readV_none hr
    have E : Hid (getS D i = (0, 8)) := Lib.hid (by unfold getS; rw [hr])
    rw [e1, e2] at HR
    clear hr e1 e2
    go_enter Tryz.func40, Tryz.ntmps40
    go_wp2_with fail
    refine HR.out.mono ?_
    rintro e w1 ⟨rfl, hk⟩
    obtain ⟨o9, s9, t9, hb9, kk9⟩ := firstFacts w1 sf0 rfl
    have K := Lib.hid (hk.trans kk9 (fun _ _ q => q))
    clear hb9 kk9 hk
    dsimp only
    go_wp2_with fail
    go_ret2
    exact ⟨by rw [E.out]; rfl, K.out⟩
  | some f =>
    obtain ⟨e1, e2⟩ := readV_some hr
    have E : Hid (getS D i = if i < 0 ∨ 8 ≤ i then (0, 2) else (f.ns.getD i.toNat 0, 0)) := Lib.hid (by unfold getS; rw [hr])
    rw [e1, e2] at HR
    rw [e1] at HL
    clear hr e1 e2
    by_cases hi : i < 0 ∨ 8 ≤ i
    · have E2 : Hid (getS D i = (0, 2)) := Lib.hid (by rw [E.out, if_pos hi])
      by_cases h1 : i < 0
      · clear hi
        go_enter Tryz.func40, Tryz.ntmps40
        go_wp2_with fail
        refine HR.out.mono ?_
        rintro e w1 ⟨rfl, hk⟩
        obtain ⟨o9, s9, t9, hb9, kk9⟩ := firstFacts w1 f HL.out
        have K := Lib.hid (hk.trans kk9 (fun _ _ q => q))
        clear hb9 kk9 hk
        dsimp only
        go_wp2_with fail
        go_ret2
        exact ⟨by rw [E2.out]; rfl, K.out⟩
      · have h2 : 8 ≤ i := hi.resolve_left h1
        clear hi
        go_enter Tryz.func40, Tryz.ntmps40
        go_wp2_with fail
        refine HR.out.mono ?_
        rintro e w1 ⟨rfl, hk⟩
        obtain ⟨o9, s9, t9, hb9, kk9⟩ := firstFacts w1 f HL.out
        have K := Lib.hid (hk.trans kk9 (fun _ _ q => q))
        clear hb9 kk9 hk
        dsimp only
        go_wp2_with fail
        go_ret2
        exact ⟨by rw [E2.out]; rfl, K.out⟩
    · have E2 : Hid (getS D i = (f.ns.getD i.toNat 0, 0)) := Lib.hid (by rw [E.out, if_neg hi])
      have h1 : ¬ i < 0 := fun q => hi (.inl q)
      have h2 : ¬ 8 ≤ i := fun q => hi (.inr q)
      obtain ⟨k, rfl⟩ : ∃ k : Nat, i = k := ⟨i.toNat, by omega⟩
      have hk8 : k < 8 := by omega
      have HK8 := Lib.hid hk8
      clear hi
      have hcases : k = 0 ∨ k = 1 ∨ k = 2 ∨ k = 3 ∨ k = 4 ∨ k = 5 ∨ k = 6 ∨ k = 7 := by omega
      clear h1 h2 hk8 E
      have HE2 := Lib.hid E2.out
      rcases hcases with rfl | rfl | rfl | rfl | rfl | rfl | rfl | rfl
      all_goals
        go_enter Tryz.func40, Tryz.ntmps40
        go_wp2_with fail
        refine HR.out.mono ?_
        rintro e w1 ⟨rfl, hk⟩
        obtain ⟨o9, s9, t9, hb9, kk9⟩ := firstFacts w1 f HL.out
        have K := Lib.hid (hk.trans kk9 (fun _ _ q => q))
        have ca := hb9.cell 1
        have cb := hb9.cell 2
        have cc := hb9.cell 3
        have cd := hb9.cell 4
        have ce := hb9.cell 5
        have cf := hb9.cell 6
        have cg := hb9.cell 7
        have ch := hb9.cell 8
        rw [show sfC f = sfC ⟨f.free, f.ns⟩ from rfl] at ca cb cc cd ce cf cg ch
        rw [sfC_at (i := 0) (by rw [HL.out]; decide)] at ca
        rw [sfC_at (i := 1) (by rw [HL.out]; decide)] at cb
        rw [sfC_at (i := 2) (by rw [HL.out]; decide)] at cc
        rw [sfC_at (i := 3) (by rw [HL.out]; decide)] at cd
        rw [sfC_at (i := 4) (by rw [HL.out]; decide)] at ce
        rw [sfC_at (i := 5) (by rw [HL.out]; decide)] at cf
        rw [sfC_at (i := 6) (by rw [HL.out]; decide)] at cg
        rw [sfC_at (i := 7) (by rw [HL.out]; decide)] at ch
        clear hb9 kk9 hk
        dsimp only
        go_wp2_with fail
        go_ret2
        exact ⟨by rw [E2.out]; rfl, K.out⟩
end
end Go.Proofs.YtoeldmkbmnkhkaaGreat
/- The free pages told; condition: a database whose free pages are a list. -/
namespace Go.Proofs.YtoeldmkbmnkhkaaGreat
open Go.RowKit
attribute [local go_sem ↓] load26 store26 alloc26 build26 loadSf storeSf allocSf buildSf0 buildSfE

def frs (l : List Int) : List Fr := l.map fun n => ⟨n, 0, []⟩
theorem frs_snoc (l : List Int) (n : Int) : frs (l ++ [n]) = frs l ++ [⟨n, 0, []⟩] := by simp [frs]
theorem cnt_frs : ∀ (k : Nat) (l : List Int), l.length = k → ∀ z, cntN (frs l) z = l.count z
  | 0, l, h, z => by
    rw [List.eq_nil_of_length_eq_zero h]
    rfl
  | k + 1, l, h, z => by
    obtain ⟨m, x, rfl⟩ : ∃ m x, l = m ++ [x] := ⟨l.dropLast, l.getLast (fun e => by rw [e] at h; cases h), (List.dropLast_concat_getLast _).symm⟩
    rw [frs_snoc, cntN_snoc, cnt_frs k m (by simpa using h), List.count_append, List.count_singleton]
    congr 1
    by_cases e : x = z
    · rw [if_pos e, e]
      simp
    · rw [if_neg e, if_neg (by simpa using e)]
/-- the pages met so far -/
structure SpF (w : World) (b : Nat) (fr : List Int) (k : Nat) (v : Value) (wr : World) : Prop where
  kp : Kp NoB w wr
  ct : CtM wr b k (frs (fr.take k))
  own : ∃ A cap, v = .slice A k cap ∧ wr.ownsRow w.heap.size 3 1 (.slice A k cap) k ((fr.take k).map (Value.int .i64))
theorem infoIntF : (Tryz.prog.info? 3).map (fun i => (i.zero, i.size, i.bytes)) = some (some (.int .i64 0), 1, 8) := by kernel_rfl
section
variable {L : Lab} {w : World} {t0 : Nat} {D : List (List Int)} {sv : List (List (List Int))}
theorem Rep.next_at {fr ns : List Int} (h : Rep D fr ns) {k : Nat} (hk : k < fr.length) : nextS D (fr.getD k 0) = (fr.getD (k + 1) 0, 0) := by
  have hd : ∀ (l : List Int) (k : Nat), k < l.length → l.drop k = l.getD k 0 :: l.drop (k + 1) := fun l k hk => by
    rw [List.getD_eq_getElem?_getD, List.getElem?_eq_getElem hk]
    exact List.drop_eq_getElem_cons hk
  have hch : ∀ (k : Nat) (l : List Int), chain D l → chain D (l.drop k) := fun k => by
    induction k with
    | zero => exact fun l h => h
    | succ k ih =>
      intro l h
      cases l with
      | nil => trivial
      | cons n l => exact ih l h.2.2.2
  have h1 := hch k fr h.ch
  rw [hd fr k hk] at h1
  obtain ⟨a, b, c, d⟩ := h1
  have hh : (fr.drop (k + 1)).headD 0 = fr.getD (k + 1) 0 := by
    rw [List.headD_eq_head?_getD, List.head?_drop, List.getD_eq_getElem?_getD]
  rw [hh] at c
  have hb : 0 ≤ fr.getD (k + 1) 0 ∧ fr.getD (k + 1) 0 < 4294967296 := by
    rw [List.getD_eq_getElem?_getD]
    rcases hq : fr[k + 1]? with _ | m
    · exact ⟨by decide, by decide⟩
    · have := chain_mem h.ch m (List.mem_of_getElem? hq)
      have := h.len
      show 0 ≤ m ∧ m < _
      omega
  have e : linkD D (fr.getD k 0) = fr.getD (k + 1) 0 := by
    unfold linkD
    rw [c, read_fpg hb]
    rfl
  unfold nextS
  rw [e, if_pos ⟨a, b, c.symm⟩]
set_option maxRecDepth 100000 in
set_option maxHeartbeats 1600000 in
theorem free_w (h : Wr L w t0 D sv) {fr ns : List Int} (hr : Rep D fr ns) : Calls Tryz.prog 18 #[ptrV t0] w fun e w' => ∃ A cap, e = .returned (.tuple #[.slice A fr.length cap, .int .i64 0]) ∧ w'.ownsRow w.heap.size 3 1 (.slice A fr.length cap) fr.length (fr.map (Value.int .i64)) ∧ Kp NoB w w' := by
  have H := Lib.hid h
  have HR := Lib.hid hr
  have HRD := Lib.hid (read_w h)
  obtain ⟨e1, e2⟩ := readV_some hr.read
  rw [e1, e2] at HRD
  have HNL := Lib.hid hr.nl
  obtain ⟨n0, hn0⟩ : ∃ n0, fr.headD 0 = n0 := ⟨_, rfl⟩
  rw [hn0] at HRD
  have HN0 : Hid (n0 = fr.getD 0 0) := Lib.hid (by
    rw [← hn0]
    cases fr <;> rfl)
  have HFL : Hid (fr.length ≤ 4096) := Lib.hid (by
    have := nodup_len 4096 fr hr.nd (fun x hx => by have := chain_mem hr.ch x hx; have := hr.len; omega)
    exact this)
  have hmm := @run_makeMap Tryz.prog
  obtain ⟨j0, hj0, hy0, hy1, hy2⟩ := info_parts infoIntF
  have HJ0 := Lib.hid hj0
  have HY0 := Lib.hid hy0
  have HY1 := Lib.hid hy1
  have HY2 := Lib.hid hy2
  clear hj0 hy0 hy1 hy2
  clear h hr e1 e2 hn0
  unfold ptrV at *
  go_enter Tryz.func18, Tryz.ntmps18
  go_wp2_with fail
  refine HRD.out.mono ?_
  rintro e w1 ⟨rfl, hk⟩
  obtain ⟨o9, s9, t9, hb9, kk9⟩ := firstFacts w1 ⟨n0, ns⟩ HNL.out
  have K := Lib.hid (hk.trans kk9 (fun _ _ q => q))
  have B := Lib.hid hb9
  dsimp only
  clear hk kk9 hb9
  go_upto_region 2 with fail
  have hb := B.out
  have hk := K.out
  clear t9 o9 s9 B K
  generalize (w1.alloc (.cells (sfC sf0) 114)).setCells w1.heap.size 0 (sfC ⟨n0, ns⟩).toList = w2 at hb hk ⊢
  have c0 : (w2.alloc (.map #[] 0)).cell? ⟨w1.heap.size, 0, none⟩ = some (.int .i64 n0) := (hb.alloc (.map #[] 0)).cell 0
  have K := Lib.hid hk
  clear hb hk
  go_wp2_with fail
  go_loopw [5, 6, 8] (fun v5 v6 v8 wr => v5 = .int .i64 0 ∧ ∃ k : Nat, k ≤ fr.length ∧ v8 = .int .i64 (fr.getD k 0) ∧ SpF w w2.heap.size fr k v6 wr) (fun _ v6 _ _ => fr.length - (match v6 with | .slice _ n _ => n | _ => 0))
  case atStart =>
    refine ⟨rfl, 0, Nat.zero_le _, by rw [HN0.out], K.out.alloc _, ctM_made w2, none, 0, rfl, World.ownsRow_nil _ _ _ _⟩
  case round =>
    obtain ⟨rfl, k, hk, rfl, hkp, hct, A, cap, rfl, hown⟩ := hrel
    have HKP := Lib.hid hkp
    have HCT := Lib.hid hct
    have HOW := Lib.hid hown
    clear hkp hct hown
    by_cases hlt : k < fr.length
    · have hmem : fr.getD k 0 ∈ fr := by rw [List.getD_eq_getElem?_getD, List.getElem?_eq_getElem hlt]; exact List.getElem_mem hlt
      have hrng := chain_mem HR.out.ch _ hmem
      have hDl := HR.out.len
      have HTK : Hid (fr.take (k + 1) = fr.take k ++ [fr.getD k 0]) := Lib.hid (by rw [List.take_add_one, List.getElem?_eq_getElem hlt, List.getD_eq_getElem?_getD, List.getElem?_eq_getElem hlt]; rfl)
      have hcnt1 : cntN (frs (fr.take k ++ [fr.getD k 0])) (fr.getD k 0) ≤ 1 := by
        rw [cnt_frs _ _ rfl, ← HTK.out]
        exact List.nodup_iff_count.1 (HR.out.nd.sublist (List.take_sublist _ _)) _
      have hcnt0 : cntN (frs (fr.take k)) (fr.getD k 0) = 0 := by
        rw [frs_snoc, cntN_snoc, if_pos rfl] at hcnt1
        omega
      have hcnt2 : cntN (frs (fr.take k) ++ [⟨fr.getD k 0, 0, []⟩]) (fr.getD k 0) = 1 := by rw [cntN_snoc, hcnt0, if_pos rfl]
      have HNX := Lib.hid (HR.out.next_at hlt)
      have hz : (Lit.int .i64 (fr.getD k 0)).wf = true := wfI (by omega)
      have hlook := ctM_look HCT.out hz
      rw [hcnt0] at hlook
      obtain ⟨W1, hput, hct1, hg1⟩ := ctM_put (f := ⟨fr.getD k 0, 0, []⟩) HCT.out (by have := HFL.out; unfold maxLen; omega) (by simp [frs]; have := HFL.out; omega) hz
      have hlook1 : ∀ V, Kp NoB W1 V → (Instr.lookup 127 (.map (some w2.heap.size)) (.int .i64 (fr.getD k 0)) false).run Tryz.prog V = .ok (.int .i64 1) V := fun V kv => by
        have := ctM_look (ctM_kp hct1 (kv.block _ (ctM_lt hct1) (fun q => q))) hz
        rw [hcnt2] at this
        exact this
      dsimp only at hput
      rw [hcnt0] at hput
      have hmo : ∃ es cl, wr.heap[w2.heap.size]? = some (.map es cl) := by
        obtain ⟨DD, ⟨es, cl, hb, _⟩, _⟩ := HCT.out
        exact ⟨es, cl, hb⟩
      have HOW1 : Hid (W1.ownsRow w.heap.size 3 1 (.slice A k cap) k ((fr.take k).map (Value.int .i64))) := Lib.hid (ownOwn HOW.out hg1 (fun r e => by
        cases e
        obtain ⟨es, cl, hb⟩ := hmo
        exact ⟨_, hb, rfl⟩))
      have HKP1 : Hid (Kp NoB w W1) := Lib.hid (HKP.out.grown hg1 (fun j e => by
        injection e with e
        rw [← e]
        exact .inl K.out.size))
      have HCT1 := Lib.hid hct1
      have HLK1 := Lib.hid hlook1
      have HCZ := Lib.hid (And.intro hcnt2 hz)
      have hk4 : (k : Int) < 4096 := by have := HFL.out; omega
      obtain ⟨n, hn⟩ : ∃ n, fr.getD k 0 = n := ⟨_, rfl⟩
      rw [hn] at HCZ hlook hput HCT1 HLK1 HTK HNX hrng ⊢
      have hput : (Instr.mapUpdate 127 (.map (some w2.heap.size)) (.int .i64 n) (.int .i64 1)).run Tryz.prog wr = .ok () W1 := hput
      have hnz : (n == 0) = false := beq_false_of_ne (by omega)
      have hnz2 : (n != 0) = true := bne_iff_ne.2 (by omega)
      have HLT : Hid (k < fr.length) := Lib.hid hlt
      clear c0 hmem hDl hcnt1 hcnt0 hcnt2 hz hct1 hg1 hlook1 hmo hn hlt hrng
      go_wp2_with (at_builtin; refine wpList_append_ownB rfl _ _ 22 rfl w.heap.size 3 j0 _ 1 8 Tryz.underlying22 HJ0.out HY0.out HY1.out HY2.out rfl (by omega) _ k _ rfl (HOW1.out.alloc _) ⟨W1.heap.size, 0, none⟩ 1 1 [.int .i64 n] rfl rfl (cell_one_new _ _ _) (by simp [Value.oneCell']) (by have := HFL.out; have := HLT.out; unfold maxLen; omega) (by have := HFL.out; have := HLT.out; omega) (by have := HKP1.out.size; simp; omega) ?_; intro v6 w6 hown6 hgr6 hb6; have HO6 := Lib.hid hown6; have HG6 := Lib.hid hgr6; clear hown6 hgr6 hb6)
      obtain ⟨A6, c6, rfl⟩ := own_slice HO6.out
      have HKP6 : Hid (Kp NoB w w6) := Lib.hid ((HKP1.out.alloc _).grown HG6.out (fun j hj => .inl (own_ge HOW1.out j hj)))
      have HCT6 : Hid (CtM w6 w2.heap.size (k + 1) (frs (fr.take k) ++ [⟨n, 0, []⟩])) := Lib.hid (by
        have hlt1 := ctM_lt HCT1.out
        refine ctM_kp HCT1.out ((HG6.out.block _ (by simp; omega) (fun q => ?_)).trans (Below.heap_alloc W1 _ _ hlt1))
        obtain ⟨cs, hc⟩ := own_type HOW1.out q.symm
        obtain ⟨DD, ⟨es, cl, hb, _⟩, _⟩ := HCT1.out
        rw [hb] at hc
        cases hc)
      have HLK6 := HLK1
      refine (next_w (H.out.keep HKP6.out) n).mono ?_
      rintro e w7 ⟨rfl, hk7⟩
      rw [HNX.out]
      have hct7 := ctM_kp HCT6.out (hk7.block _ (ctM_lt HCT6.out) (fun q => q))
      have hown7 := own_keepB HO6.out hk7 (fun _ _ q => q)
      have HKP7 := Lib.hid (HKP6.out.trans hk7 (fun _ _ q => q))
      obtain ⟨g6, rfl, _, _⟩ := own_at hown7 (by omega)
      have hcell : w7.cell? ⟨g6, k, none⟩ = some (.int .i64 n) := by
        rw [hown7.cellAt k (by omega), List.getElem?_append_right (by simp; omega)]
        have e0 : k - (List.map (Value.int .i64) (fr.take k)).length = 0 := by simp; have := HLT.out; omega
        rw [e0]
        rfl
      have hl7 : (Instr.lookup 127 (.map (some w2.heap.size)) (.int .i64 n) false).run Tryz.prog w7 = .ok (.int .i64 1) w7 := by
        have := ctM_look hct7 HCZ.out.2
        rw [HCZ.out.1] at this
        exact this
      have HO7 := Lib.hid hown7
      have HC7 := Lib.hid hct7
      clear hk7 hct7 hown7
      dsimp only
      go_wp2_with fail
      refine ⟨⟨rfl, k + 1, by have := HLT.out; omega, by rw [List.getD_eq_getElem?_getD], HKP7.out, ?_, some ⟨g6, 0, none⟩, c6, rfl, ?_⟩, by have := HLT.out; show fr.length - (k + 1) < fr.length - k; omega⟩
      · rw [HTK.out, frs_snoc]
        exact HC7.out
      · rw [HTK.out, List.map_append]
        exact HO7.out
    · obtain rfl : k = fr.length := by omega
      clear hlt hk
      have hnil : fr.getD fr.length 0 = 0 := by rw [List.getD_eq_getElem?_getD, List.getElem?_eq_none (Nat.le_refl _)]; rfl
      rw [hnil]
      clear c0 hnil
      go_wp2_with fail
      go_ret2
      refine ⟨A, cap, rfl, ?_, HKP.out⟩
      have := HOW.out
      rw [List.take_of_length_le (Nat.le_refl _)] at this
      exact this
end
end Go.Proofs.YtoeldmkbmnkhkaaGreat
/- A store opened on a disk; condition: the disk has room for changes in number. -/
namespace Go.Proofs.YtoeldmkbmnkhkaaGreat
open Go.RowKit

/-- how Open ends -/
def OpPost (L : Lab) (w : World) (db : Nat) (tb : Nat → Nat) (r : Pl × Option SdS × Int) (e : Ending) (w' : World) : Prop :=
  match r.2.1 with
  | some s => ∃ sb lb L', e = .returned (.tuple #[ptrV sb, .int .i64 0]) ∧ Sys L' w' sb db lb tb s (fun _ => none) ∧ Gw L w L' w'
  | none => e = .returned (.tuple #[.pointer none, .int .i64 r.2.2]) ∧ ∃ L', Dsk L' w' db r.1 ∧ Lok L' w' ∧ Gw L w L' w'
theorem open_fin {L L2 : Lab} {w w3 w5 : World} {db sb lb : Nat} {tb : Nat → Nat} {s : SdS} (hq : Dsk L2 w3 db s.p) (hl : Lok L2 w3) (hg : Gw L w L2 w3) (k : Kp NoB w3 w5) (hb : Blk w5 sb 140 (stC db lb tb s (fun _ => none))) (ht : Tab w5 lb s.hs) (hne : sb ≠ lb) (h1 : w3.heap.size ≤ sb) (h2 : w3.heap.size ≤ lb) :
    ∃ L', Sys L' w5 sb db lb tb s (fun _ => none) ∧ Gw L w L' w5 := by
  have e3 : (fun k => (if k = sb then 1 else if k = lb then 2 else L2 k) = 3) = fun k => L2 k = 3 := by
    funext k
    apply propext
    by_cases e1 : k = sb
    · subst e1
      rw [if_pos rfl, hl.new h1]
      decide
    · rw [if_neg e1]
      by_cases e2 : k = lb
      · subst e2
        rw [if_pos rfl, hl.new h2]
        decide
      · rw [if_neg e2]
  have hd := hq.keep k (fun _ q => q.elim) (fun _ _ _ q => q)
  unfold Dsk at hd
  rw [← e3] at hd
  refine ⟨fun k => if k = sb then 1 else if k = lb then 2 else L2 k, ⟨?_, if_pos rfl, ?_, hb, ht, hd, fun i t e => by cases e⟩, (hg.kp.trans k (fun _ _ q => q.elim)), fun k hk => ?_⟩
  · intro k' hk'
    dsimp only at hk'
    by_cases e1 : k' = sb
    · subst e1; exact hb.lt
    · rw [if_neg e1] at hk'
      by_cases e2 : k' = lb
      · subst e2; exact ht.lt
      · rw [if_neg e2] at hk'
        exact Nat.lt_of_lt_of_le (hl _ hk') k.size
  · show (if lb = sb then 1 else if lb = lb then 2 else L2 lb) = 2
    rw [if_neg (fun e => hne e.symm), if_pos rfl]
  · have := hg.kp.size
    show (if k = sb then 1 else if k = lb then 2 else L2 k) = L k
    rw [if_neg (by omega), if_neg (by omega)]
    exact hg.ext k hk
theorem CkPost_eq {S : Nat → Prop} {w : World} {db : Nat} {p : Pl} {m : Int} : CkPost S w db p m = fun e w' => e = .returned (.int .i64 (p.wcheck m).2) ∧ Dq S w w' db (p.wcheck m).1 := rfl
theorem buildSt (w : World) (db lb : Nat) (st : Int) (log : Bool) : (Instr.build 140 #[(0, ptrV db), (1, .int .i64 st), (2, .bool log), (3, .iface 133 (.agg #[ptrV db])), (4, ptrV lb)]).run Tryz.prog w =
    .ok (.agg #[ptrV db, .int .i64 st, .bool log, .iface 133 (.agg #[ptrV db]), ptrV lb, .pointer none, .pointer none, .pointer none, .pointer none, .pointer none, .pointer none, .pointer none, .pointer none]) w :=
  run_build w 140 _ _ (show Tryz.prog.built 140 [(0, ptrV db), (1, .int .i64 st), (2, .bool log), (3, .iface 133 (.agg #[ptrV db])), (4, ptrV lb)] = some _ from by kernel_rfl)
theorem exBuildSt (w : World) (ev : Operand → Value) (x0 x1 x2 x3 x4 : Operand) (db lb : Nat) (st : Int) (log : Bool) (ds : Option Tmp) (ty : TypeId) (ps : String) (af : Array Edge) (g : Option (Nat × Bool)) (h0 : ev x0 = ptrV db) (h1 : ev x1 = .int .i64 st) (h2 : ev x2 = .bool log) (h3 : ev x3 = .iface 133 (.agg #[ptrV db])) (h4 : ev x4 = ptrV lb) :
    (execOp ev ⟨ds, .build 140 #[(0, x0), (1, x1), (2, x2), (3, x3), (4, x4)], ty, ps, af, g⟩).run Tryz.prog w = .ok (.value (.agg #[ptrV db, .int .i64 st, .bool log, .iface 133 (.agg #[ptrV db]), ptrV lb, .pointer none, .pointer none, .pointer none, .pointer none, .pointer none, .pointer none, .pointer none, .pointer none])) w := by
  simp only [execOp, List.map_toArray, List.map_cons, List.map_nil, h0, h1, h2, h3, h4, Sem.run_bind, buildSt, Result.andThen_ok]
  rfl
section
variable {L : Lab} {w : World} {db : Nat} {p : Pl}
set_option maxRecDepth 100000 in
set_option maxHeartbeats 1600000 in
theorem open_s (h : Dsk L w db p) (hl : Lok L w) (log : Bool) (hm : p.sm 90000000) (hm2 : p.jrecover.1.sm 200000000) (tb : Nat → Nat) :
    Calls Tryz.prog 20 #[ptrV db, .bool log] w (OpPost L w db tb (SdS.open_ p log)) := by
  have HR := Lib.hid (recover_q h hm)
  have H := Lib.hid h
  have HL := Lib.hid hl
  have HM2 := Lib.hid hm2
  clear h hl hm hm2
  obtain ⟨PP, hPP⟩ : ∃ PP, OpPost L w db tb (SdS.open_ p log) = PP := ⟨_, rfl⟩
  have HPP := Lib.hid hPP
  rw [hPP]
  clear hPP
  unfold BkPost at HR
  unfold SdS.open_ at HPP
  obtain ⟨r, hr⟩ : ∃ r, p.jrecover = r := ⟨_, rfl⟩
  rw [hr] at HPP HR HM2
  clear hr
  obtain ⟨q, rb, re⟩ := r
  dsimp only at HPP HR HM2
  unfold ptrV at *
  by_cases h1 : re = 0
  · subst h1
    rw [if_neg (by decide)] at HPP
    obtain ⟨m, hmk⟩ : ∃ m, q.wmark = m := ⟨_, rfl⟩
    rw [hmk] at HPP
    obtain ⟨m, me⟩ := m
    dsimp only at HPP
    have HMK := Lib.hid hmk
    clear hmk
    by_cases h2 : me = 0
    · subst h2
      rw [if_neg (by decide)] at HPP
      cases log
      · rw [if_neg (by decide)] at HPP
        obtain ⟨c, hc⟩ : ∃ c, q.wcheck m = c := ⟨_, rfl⟩
        rw [hc] at HPP
        obtain ⟨r, ce⟩ := c
        dsimp only at HPP
        have HC := Lib.hid hc
        clear hc
        by_cases h3 : ce = 0
        · subst h3
          rw [if_neg (by decide)] at HPP
          have HST : Hid (∃ st, r.starts = st) := Lib.hid ⟨_, rfl⟩
          obtain ⟨st, hst⟩ := HST.out
          rw [hst] at HPP
          have HSTT := Lib.hid hst
          clear HST hst
          go_enter Tryz.func20, Tryz.ntmps20
          go_wp2_with fail
          refine HR.out.mono ?_
          rintro e w1 ⟨rfl, hq⟩
          obtain ⟨L1, hd1, hl1, hg1, _, _⟩ := Dsk.step hq HL.out
          go_wp2_with (go_at_call 71; refine (wmark_q hd1).mono ?_; rw [HMK.out]; rintro e w2 ⟨rfl, hk⟩)
          have hd2 := hd1.keep hk (fun _ q => q.elim) (fun _ _ _ q => q)
          refine (wcheck_q hd2 m HM2.out).mono ?_
          rw [CkPost_eq, HC.out]
          rintro e w3 ⟨rfl, hq3⟩
          obtain ⟨L3, hd3, hl3, hg3, _, _⟩ := Dsk.step hq3 (hl1.mono hk.size)
          have HD3 := Lib.hid hd3
          have HL3 := Lib.hid hl3
          have HG3 := Lib.hid ((hg1.trans (Gw.nob hk)).trans hg3)
          clear hd2 hd1 hl1 hg1 hk hq hq3 hl3 hg3 hd3
          dsimp only
          go_wp2_with fail
          refine (show Calls _ _ #[ptrV db] _ _ from starts_q HD3.out).mono ?_
          rintro e w4 ⟨rfl, rfl⟩
          rw [HSTT.out]
          dsimp only
          go_wp2_with fail
          refine (lk_new_ok w3).mono ?_
          rintro e w4 ⟨rfl, ht4, hk4⟩
          have HT4 := Lib.hid ht4
          have HK4 := Lib.hid hk4
          clear ht4 hk4
          dsimp only
          go_wp2_with (show wpList _ _ _ (⟨some 43, _, _, _, _, _⟩ :: _) _ _; refine wpList_val _ (exBuildSt _ _ _ _ _ _ _ db w3.heap.size st false _ _ _ _ _ rfl rfl rfl rfl rfl) ?_)
          rw [← HPP.out]
          obtain ⟨L', hS, hG⟩ := open_fin (tb := tb) (s := ⟨r, st, false, List.replicate 8 0⟩) HD3.out HL3.out HG3.out (HK4.out.alloc _) (sb := w4.heap.size) (lb := w3.heap.size) (Blk.new w4 140 (stC db w3.heap.size tb ⟨r, st, false, List.replicate 8 0⟩ (fun _ => none))) (HT4.out.keep ((Kp.refl NoB w4).alloc _) (fun q => q)) (by have := HT4.out.lt; omega) HK4.out.size (Nat.le_refl _)
          exact ⟨_, _, L', rfl, hS, hG⟩
        · rw [if_pos h3] at HPP
          have h3n : (ce != 0) = true := bne_iff_ne.2 h3
          clear h3
          go_enter Tryz.func20, Tryz.ntmps20
          go_wp2_with fail
          refine HR.out.mono ?_
          rintro e w1 ⟨rfl, hq⟩
          obtain ⟨L1, hd1, hl1, hg1, _, _⟩ := Dsk.step hq HL.out
          go_wp2_with (go_at_call 71; refine (wmark_q hd1).mono ?_; rw [HMK.out]; rintro e w2 ⟨rfl, hk⟩)
          have hd2 := hd1.keep hk (fun _ q => q.elim) (fun _ _ _ q => q)
          refine (wcheck_q hd2 m HM2.out).mono ?_
          rw [CkPost_eq, HC.out]
          rintro e w3 ⟨rfl, hq3⟩
          obtain ⟨L3, hd3, hl3, hg3, _, _⟩ := Dsk.step hq3 (hl1.mono hk.size)
          dsimp only
          go_wp2_with fail
          rw [← HPP.out]
          exact ⟨rfl, L3, hd3, hl3, (hg1.trans (Gw.nob hk)).trans hg3⟩
      · rw [if_pos rfl] at HPP
        have HST : Hid (∃ st, q.starts = st) := Lib.hid ⟨_, rfl⟩
        obtain ⟨st, hst⟩ := HST.out
        rw [hst] at HPP
        have HSTT := Lib.hid hst
        clear HST hst
        go_enter Tryz.func20, Tryz.ntmps20
        go_wp2_with fail
        refine HR.out.mono ?_
        rintro e w1 ⟨rfl, hq⟩
        obtain ⟨L1, hd1, hl1, hg1, _, _⟩ := Dsk.step hq HL.out
        have HD1 := Lib.hid hd1
        have HL1 := Lib.hid hl1
        have HG1 := Lib.hid hg1
        clear hq hd1 hl1 hg1
        go_wp2_with (go_at_call 71; refine (wmark_q HD1.out).mono ?_; rw [HMK.out]; rintro e w3 ⟨rfl, hk⟩; have HD3 := Lib.hid (HD1.out.keep hk (fun _ q => q.elim) (fun _ _ _ q => q)); have HL3 := Lib.hid (HL1.out.mono hk.size); have HG3 := Lib.hid (HG1.out.trans (Gw.nob hk)); clear hk)
        refine (show Calls _ _ #[ptrV db] _ _ from starts_q HD3.out).mono ?_
        rintro e w4 ⟨rfl, rfl⟩
        rw [HSTT.out]
        dsimp only
        go_wp2_with fail
        refine (lk_new_ok w3).mono ?_
        rintro e w4 ⟨rfl, ht4, hk4⟩
        have HT4 := Lib.hid ht4
        have HK4 := Lib.hid hk4
        clear ht4 hk4
        dsimp only
        go_wp2_with (show wpList _ _ _ (⟨some 43, _, _, _, _, _⟩ :: _) _ _; refine wpList_val _ (exBuildSt _ _ _ _ _ _ _ db w3.heap.size st true _ _ _ _ _ rfl rfl rfl rfl rfl) ?_)
        rw [← HPP.out]
        obtain ⟨L', hS, hG⟩ := open_fin (tb := tb) (s := ⟨q, st, true, List.replicate 8 0⟩) HD3.out HL3.out HG3.out (HK4.out.alloc _) (sb := w4.heap.size) (lb := w3.heap.size) (Blk.new w4 140 (stC db w3.heap.size tb ⟨q, st, true, List.replicate 8 0⟩ (fun _ => none))) (HT4.out.keep ((Kp.refl NoB w4).alloc _) (fun q => q)) (by have := HT4.out.lt; omega) HK4.out.size (Nat.le_refl _)
        exact ⟨_, _, L', rfl, hS, hG⟩
    · rw [if_pos h2] at HPP
      have h2t : (me == 0) = false := beq_false_of_ne h2
      have h2n : (me != 0) = true := by unfold bne; rw [h2t]; rfl
      clear h2
      cases log
      all_goals
        go_enter Tryz.func20, Tryz.ntmps20
        go_wp2_with fail
        refine HR.out.mono ?_
        rintro e w1 ⟨rfl, hq⟩
        obtain ⟨L1, hd1, hl1, hg1, _, _⟩ := Dsk.step hq HL.out
        go_wp2_with (go_at_call 71; refine (wmark_q hd1).mono ?_; rw [HMK.out]; rintro e w2 ⟨rfl, hk⟩)
        rw [← HPP.out]
        exact ⟨rfl, L1, hd1.keep hk (fun _ q => q.elim) (fun _ _ _ q => q), hl1.mono hk.size, hg1.trans (Gw.nob hk)⟩
  · rw [if_pos h1] at HPP
    have h1n : (re != 0) = true := bne_iff_ne.2 h1
    clear h1
    go_enter Tryz.func20, Tryz.ntmps20
    go_wp2_with fail
    refine HR.out.mono ?_
    rintro e w1 ⟨rfl, hq⟩
    obtain ⟨L1, hd1, hl1, hg1, _, _⟩ := Dsk.step hq HL.out
    go_wp2_with fail
    rw [← HPP.out]
    exact ⟨rfl, L1, hd1, hl1, hg1⟩
end
end Go.Proofs.YtoeldmkbmnkhkaaGreat
/- The ways' methods, met through the interface; no condition. -/
namespace Go.Proofs.YtoeldmkbmnkhkaaGreat
open Go.RowKit

theorem im_mark_j (db : Nat) (w : World) : (method 407 133 (.agg #[.pointer (some ⟨db, 0, none⟩)]) "bureau/store.mark").run Tryz.prog w = .ok (220, .agg #[.pointer (some ⟨db, 0, none⟩)]) w := by kernel_rfl
theorem im_count_j (db : Nat) (w : World) : (method 407 133 (.agg #[.pointer (some ⟨db, 0, none⟩)]) "bureau/store.count").run Tryz.prog w = .ok (217, .agg #[.pointer (some ⟨db, 0, none⟩)]) w := by kernel_rfl
theorem im_first_j (db : Nat) (w : World) : (method 407 133 (.agg #[.pointer (some ⟨db, 0, none⟩)]) "bureau/store.first").run Tryz.prog w = .ok (218, .agg #[.pointer (some ⟨db, 0, none⟩)]) w := by kernel_rfl
end Go.Proofs.YtoeldmkbmnkhkaaGreat
/- A transaction begun, in memory: the blocks are there; no condition. -/
namespace Go.Proofs.YtoeldmkbmnkhkaaGreat
open Go.RowKit Go.Maps

section
variable {L : Lab} {w w' : World} {sb db lb : Nat} {tb : Nat → Nat} {s : SdS} {ts : Nat → Option TxS}
theorem Sys.locks {hs : List Int} (h : Sys L w sb db lb tb s ts) (ht : Tab w' lb hs) (k : Kp (OnB lb) w w') : Sys L w' sb db lb tb { s with hs := hs } ts ∧ Gw L w L w' := by
  have e2 := h.l2
  have h0 : ∀ b, OnB lb b → L b = 2 := fun b q => by unfold OnB at q; rw [q]; exact e2
  refine ⟨⟨h.lab.mono k.size, h.l1, h.l2, h.blk.keep k (fun q => by have := h0 _ q; rw [h.l1] at this; cases this), ht, h.dq.keep k (fun b q => by rw [h0 b q]; decide) (fun g cs hg q => by
    have := h.tab.2
    unfold OnB at q
    subst q
    rw [hg] at this
    injection this with this
    injection this with _ this
    exact absurd this (by decide)), fun i t e => ⟨(h.tx i t e).1, (h.tx i t e).2.1, (h.tx i t e).2.2.keep (Sm.of k (fun _ _ => rfl) (fun b q z => by have := h0 b z; rw [this] at q; have := q.1; omega))⟩⟩, k.mono (fun b _ q => by rw [h0 b q]; decide), fun _ _ => rfl⟩
theorem stC_upd {tb tb' : Nat → Nat} {ts : Nat → Option TxS} {c g : Nat} {t : TxS} (hc : c < 8) (he : t.e = false) (hg : tb' c = g) (ho : ∀ j, j ≠ c → tb' j = tb j) :
    stC db lb tb' s (updT ts c t) = (stC db lb tb s ts).setIfInBounds (5 + c) (ptrV g) := by
  have h1 : slot tb' (updT ts c t) c = ptrV g := by unfold slot; rw [updT_at]; dsimp only; rw [he, hg]; rfl
  have h2 : ∀ j, j ≠ c → slot tb' (updT ts c t) j = slot tb ts j := fun j hj => by
    unfold slot updT
    rw [if_neg hj, ho j hj]
  have : c = 0 ∨ c = 1 ∨ c = 2 ∨ c = 3 ∨ c = 4 ∨ c = 5 ∨ c = 6 ∨ c = 7 := by omega
  unfold stC
  rcases this with rfl | rfl | rfl | rfl | rfl | rfl | rfl | rfl
  all_goals
    rw [h1]
    simp (config := { decide := true }) only [h2, ne_eq, not_false_eq_true]
    rfl
theorem begin_fin (h : Sys L w sb db lb tb s ts) {c g mb sm : Nat} {m n : Int} (hc : c < 8) (k : Kp (OnB sb) w w') (hb : Blk w' sb 140 ((stC db lb tb s ts).setIfInBounds (5 + c) (ptrV g)))
    (hg : Blk w' g 124 (txC ⟨c, m, n, n, PgM.none, PgM.none, false, false, []⟩ sb mb sm none 0)) (h1 : PgMap w' mb PgM.none) (h2 : PgMap w' sm PgM.none)
    (f1 : w.heap.size ≤ g) (f2 : w.heap.size ≤ mb) (f3 : w.heap.size ≤ sm) (d1 : g ≠ mb) (d2 : g ≠ sm) (d3 : mb ≠ sm) (hn : 0 ≤ n ∧ n ≤ 4096) :
    ∃ tb' L', tb' c = g ∧ Sys L' w' sb db lb tb' s (updT ts c ⟨c, m, n, n, PgM.none, PgM.none, false, false, []⟩) ∧ (∀ j, j ≠ c → tb' j = tb j) ∧ Gw L w L' w' := by
  obtain ⟨L', hL'⟩ : ∃ L' : Lab, L' = fun b => if b = g then 4 + 5 * c else if b = mb then 5 + 5 * c else if b = sm then 6 + 5 * c else L b := ⟨_, rfl⟩
  have eg : L' g = 4 + 5 * c := by rw [hL']; exact if_pos rfl
  have em : L' mb = 5 + 5 * c := by rw [hL']; show (if mb = g then _ else if mb = mb then _ else _) = _; rw [if_neg (fun e => d1 e.symm), if_pos rfl]
  have es : L' sm = 6 + 5 * c := by rw [hL']; show (if sm = g then _ else if sm = mb then _ else if sm = sm then _ else _) = _; rw [if_neg (fun e => d2 e.symm), if_neg (fun e => d3 e.symm), if_pos rfl]
  have eo : ∀ b, b ≠ g → b ≠ mb → b ≠ sm → L' b = L b := fun b q1 q2 q3 => by rw [hL']; show (if b = g then _ else if b = mb then _ else if b = sm then _ else _) = _; rw [if_neg q1, if_neg q2, if_neg q3]
  have eold : ∀ b, b < w.heap.size → L' b = L b := fun b q => eo b (by omega) (by omega) (by omega)
  clear hL'
  have e3 : (fun b => L' b = 3) = fun b => L b = 3 := by
    funext b
    apply propext
    by_cases q1 : b = g
    · subst q1; rw [eg, h.lab.new f1]; omega
    · by_cases q2 : b = mb
      · subst q2; rw [em, h.lab.new f2]; omega
      · by_cases q3 : b = sm
        · subst q3; rw [es, h.lab.new f3]; omega
        · rw [eo b q1 q2 q3]
  have hsb := h.blk.lt
  have hd := h.dq.keep k (fun b q => by unfold OnB at q; rw [q, h.l1]; decide) (fun b cs hq q => by
    have := h.blk
    unfold OnB at q
    subst q
    unfold Blk at this
    rw [hq] at this
    injection this with this
    injection this with _ this
    exact absurd this (by decide))
  unfold Dsk at hd
  rw [← e3] at hd
  have hml : mb < w'.heap.size := by obtain ⟨_, _, q⟩ := h1.obj; exact lt_of_heap q
  have hsl : sm < w'.heap.size := by obtain ⟨_, _, q⟩ := h2.obj; exact lt_of_heap q
  refine ⟨fun j => if j = c then g else tb j, L', if_pos rfl, ⟨?_, (eold _ hsb).trans h.l1, (eold _ h.tab.lt).trans h.l2, ?_, h.tab.keep k (fun q => by unfold OnB at q; have := h.l1; rw [← q, h.l2] at this; cases this), hd, ?_⟩, fun j hj => if_neg hj, k.mono (fun b _ q => by unfold OnB at q; rw [q, h.l1]; decide), eold⟩
  · intro b hbn
    by_cases q1 : b = g
    · subst q1; exact hg.lt
    · by_cases q2 : b = mb
      · subst q2; exact hml
      · by_cases q3 : b = sm
        · subst q3; exact hsl
        · rw [eo b q1 q2 q3] at hbn
          exact Nat.lt_of_lt_of_le (h.lab b hbn) k.size
  · have e4 := stC_upd (db := db) (lb := lb) (s := s) (tb := tb) (tb' := fun j => if j = c then g else tb j) (ts := ts) (c := c) (g := g) (t := ⟨c, m, n, n, PgM.none, PgM.none, false, false, []⟩) hc rfl (if_pos rfl) (fun j hj => if_neg hj)
    rw [e4]
    exact hb
  · intro j t e
    by_cases ej : j = c
    · subst ej
      rw [updT_at] at e
      injection e with e
      subst e
      refine ⟨hc, rfl, mb, sm, none, 0, [], ?_, em, es, ?_, h1, h2, SavM.nil _ _ _, hn⟩
      · rw [if_pos rfl]; exact eg
      · rw [if_pos rfl]; exact hg
    · unfold updT at e
      rw [if_neg ej] at e
      obtain ⟨a, b, d⟩ := h.tx j t e
      refine ⟨a, b, ?_⟩
      rw [if_neg ej]
      exact d.keep (Sm.of k eold (fun b q z => by unfold OnB at z; rw [z, h.l1] at q; have := q.1; omega))
end
end Go.Proofs.YtoeldmkbmnkhkaaGreat
/- A transaction begun; condition: a free place. -/
namespace Go.Proofs.YtoeldmkbmnkhkaaGreat
open Go.RowKit Go.Maps

def BePost (L : Lab) (w : World) (sb db lb : Nat) (tb : Nat → Nat) (ts : Nat → Option TxS) (c : Nat) (r : SdS × Option TxS × Int) (e : Ending) (w' : World) : Prop :=
  match r.2.1 with
  | some t => ∃ tb' L', e = .returned (.tuple #[ptrV (tb' c), .int .i64 0]) ∧ Sys L' w' sb db lb tb' r.1 (updT ts c t) ∧ (∀ j, j ≠ c → tb' j = tb j) ∧ Gw L w L' w'
  | none => e = .returned (.tuple #[.pointer none, .int .i64 r.2.2]) ∧ ∃ L', Sys L' w' sb db lb tb r.1 ts ∧ Gw L w L' w'
theorem buildTx (w : World) (sb sm c : Nat) (m : Int) : (Instr.build 124 #[(0, ptrV sb), (2, .int .i64 c), (3, .int .i64 m), (5, .map (some sm))]).run Tryz.prog w =
    .ok (.agg #[ptrV sb, .int .i64 0, .map none, .int .i64 c, .int .i64 m, .int .i64 0, .map (some sm), .bool false, .bool false, .slice none 0 0]) w :=
  run_build w 124 _ _ (show Tryz.prog.built 124 [(0, ptrV sb), (2, .int .i64 c), (3, .int .i64 m), (5, .map (some sm))] = some _ from by kernel_rfl)
theorem exBuildTx (w : World) (ev : Operand → Value) (x0 x1 x2 x3 : Operand) (sb sm c : Nat) (m : Int) (ds : Option Tmp) (ty : TypeId) (ps : String) (af : Array Edge) (g : Option (Nat × Bool)) (h0 : ev x0 = ptrV sb) (h1 : ev x1 = .int .i64 c) (h2 : ev x2 = .int .i64 m) (h3 : ev x3 = .map (some sm)) :
    (execOp ev ⟨ds, .build 124 #[(0, x0), (2, x1), (3, x2), (5, x3)], ty, ps, af, g⟩).run Tryz.prog w = .ok (.value (.agg #[ptrV sb, .int .i64 0, .map none, .int .i64 c, .int .i64 m, .int .i64 0, .map (some sm), .bool false, .bool false, .slice none 0 0])) w := by
  simp only [execOp, List.map_toArray, List.map_cons, List.map_nil, h0, h1, h2, h3, Sem.run_bind, buildTx, Result.andThen_ok]
  rfl
theorem jcount_rng {S : Nat → Prop} {w0 w : World} {db : Nat} {p : Pl} (h : Dq S w0 w db p) : 0 ≤ (p.jcount : Int) ∧ (p.jcount : Int) ≤ 4096 := by
  have h1 : p.len nmDb ≤ 1048576 := by
    unfold Pl.len
    split
    · omega
    · exact h.seen_le nmDb
  have h2 : p.jcount = p.len nmDb / 256 := rfl
  omega
section
variable {L : Lab} {w : World} {sb db lb : Nat} {tb : Nat → Nat} {s : SdS} {ts : Nat → Option TxS}
theorem lkE (hs : List Int) (c l : Int) : (lk_takeI hs c l).1 = 0 ∨ ((lk_takeI hs c l).1 != 0) = true := by
  by_cases h : (lk_takeI hs c l).1 = 0
  · exact .inl h
  · exact .inr (bne_iff_ne.2 h)
set_option maxRecDepth 100000 in
set_option maxHeartbeats 3200000 in
theorem begin_j (h : Sys L w sb db lb tb s ts) (hl : s.log = false) (ho : s.over = false) (c : Nat) (hc : c < 8) (hf : slot tb ts c = .pointer none) :
    Calls Tryz.prog 22 #[ptrV sb, .int .i64 c] w (BePost L w sb db lb tb ts c (s.begin_ c)) := by
  have HRDY := Lib.hid (ready_s h)
  have H := Lib.hid h
  have HC := Lib.hid hc
  have HF := Lib.hid hf
  clear h hf
  obtain ⟨PP, hPP⟩ : ∃ PP, BePost L w sb db lb tb ts c (s.begin_ c) = PP := ⟨_, rfl⟩
  have HPP := Lib.hid hPP
  rw [hPP]
  clear hPP
  have hc8 : (c : Int) < 8 := by omega
  unfold ptrV at *
  rw [ho] at HRDY
  have hs5 : ∀ W, Kp NoB w W → W.cell? ⟨sb, 5 + c, none⟩ = some (.pointer none) := fun W k => by
    rw [(H.out.blk.keep k (fun q => q)).cell]
    have hcc := HC.out
    have hff := HF.out
    have : c = 0 ∨ c = 1 ∨ c = 2 ∨ c = 3 ∨ c = 4 ∨ c = 5 ∨ c = 6 ∨ c = 7 := by omega
    rcases this with rfl | rfl | rfl | rfl | rfl | rfl | rfl | rfl <;> exact congrArg some hff
  have HS5 := Lib.hid hs5
  have hbg : s.begin_ c = if (lk_takeI s.hs c 1).1 ≠ 0 then ({ s with hs := (lk_takeI s.hs c 1).2 }, none, (lk_takeI s.hs c 1).1) else
      (if ((0, 0) : Int × Int).2 ≠ 0 then (({ s with hs := (lk_takeI s.hs c 1).2 } : SdS).free c 0, none, ((0, 0) : Int × Int).2) else ({ s with hs := (lk_takeI s.hs c 1).2 }, some ⟨c, ((0, 0) : Int × Int).1, (s.p.jcount : Int), (s.p.jcount : Int), PgM.none, PgM.none, false, false, []⟩, 0)) := by
    unfold SdS.begin_ SdS.lock SdS.lock1 SdS.mark SdS.count
    simp only [ho, hl]
    rfl
  have HBG := Lib.hid hbg
  have HL := Lib.hid hl
  clear hs5 hbg hl ho
  have im1 := im_first_j db
  have im2 := im_mark_j db
  have im3 := im_count_j db
  have hmm := @run_makeMap Tryz.prog
  have hB4 : ∀ W, (Blk W sb 140 (stC db lb tb s ts)) → W.cell? ⟨sb, 4, none⟩ = some (.pointer (some ⟨lb, 0, none⟩)) ∧ W.cell? ⟨sb, 3, none⟩ = some (.iface 133 (.agg #[.pointer (some ⟨db, 0, none⟩)])) := fun W hb => ⟨hb.cell 4, (hb.cell 3).trans (by rw [show (stC db lb tb s ts)[3]? = some (wayV s.log db) from rfl, HL.out]; rfl)⟩
  have HB4 := Lib.hid hB4
  clear hB4
  obtain ⟨le, hle⟩ : ∃ le, (lk_takeI s.hs c 1).1 = le := ⟨_, rfl⟩
  have hcase := lkE s.hs c 1
  have HLE := Lib.hid hle
  rw [hle] at hcase
  clear hle
  go_enter Tryz.func22, Tryz.ntmps22
  go_upto_region 8 with (go_at_call 75; refine HRDY.out.mono ?_; rintro e w1 ⟨rfl, hk⟩; have c5 := HS5.out w1 hk)
  have hb := H.out.blk.keep hk (fun q => q)
  have HBW := Lib.hid hb
  have HK1 := Lib.hid hk
  obtain ⟨c4, c3⟩ := HB4.out _ hb
  go_region_held3 (fun w' => w'.cell? ⟨sb, 4, none⟩ = some (.pointer (some ⟨lb, 0, none⟩)) ∧ w'.cell? ⟨sb, 3, none⟩ = some (.iface 133 (.agg #[.pointer (some ⟨db, 0, none⟩)]))) (first | exact ⟨c4, c3⟩ | exact ⟨d4, d3⟩ | exact ⟨d6, d5⟩ | go_keep) (first
    | (go_at_call 218
       refine (show Calls _ _ #[.agg #[ptrV db]] _ _ from first_j db _).mono ?_
       rintro e w2 ⟨rfl, hk2⟩
       have hk2' := (Kp.refl NoB w1).drew.trans hk2 (fun _ _ q => q)
       have HK2 := Lib.hid (HK1.out.trans hk2' (fun _ _ q => q))
       obtain ⟨d4, d3⟩ := HB4.out _ (HBW.out.keep hk2' (fun q => q))
       clear hk2 hk2')
    | (go_at_call 76
       refine (lk_take_ok _ lb s.hs c 1 (H.out.tab.keep HK2.out (fun q => q))).mono ?_
       rintro e w3 ⟨rfl, ht3, hk3⟩
       have HT3 := Lib.hid ht3
       have HK3 := Lib.hid hk3
       have hsl : sb ≠ lb := fun e => by have := H.out.l1; rw [e, H.out.l2] at this; cases this
       obtain ⟨d6, d5⟩ := HB4.out _ ((H.out.blk.keep HK2.out (fun q => q)).keep hk3 (fun q => hsl q))
       clear ht3 hk3 hsl
       rw [HLE.out]))
  clear hk c5 hb c4 c3
  have hS3 := (H.out.keep HK2.out).locks HT3.out HK3.out
  have HS3 := Lib.hid hS3
  have HG3 := Lib.hid ((Gw.nob HK2.out).trans hS3.2)
  clear hS3
  rcases hcase with rfl | hne
  · go_wp2_with fail
    refine (show Calls _ _ #[.agg #[ptrV db]] _ _ from mark_j db w3).mono ?_
    rintro e w4 ⟨rfl, hk4⟩
    have HK4 := Lib.hid hk4
    have hS4 := HS3.out.1.keep hk4
    have HS4 := Lib.hid hS4
    have HG4 := Lib.hid (HG3.out.trans (Gw.nob hk4))
    clear hk4 hS4
    dsimp only
    go_upto_region 16 with (show wpList _ _ _ (⟨some 65, _, _, _, _, _⟩ :: _) _ _; refine wpList_val _ (exBuildTx _ _ _ _ _ _ sb w4.heap.size c 0 _ _ _ _ _ rfl rfl rfl rfl) ?_)
    have hb5 : Blk ((w4.alloc (.map #[] 0)).alloc (.cells #[.pointer (some ⟨sb, 0, none⟩), .int .i64 0, .map none, .int .i64 c, .int .i64 0, .int .i64 0, .map (some w4.heap.size), .bool false, .bool false, .slice none 0 0] 124)) sb 140 (stC db lb tb s ts) := (HS4.out.blk.alloc _).alloc _
    have hg5 : Blk ((w4.alloc (.map #[] 0)).alloc (.cells #[.pointer (some ⟨sb, 0, none⟩), .int .i64 0, .map none, .int .i64 c, .int .i64 0, .int .i64 0, .map (some w4.heap.size), .bool false, .bool false, .slice none 0 0] 124)) (w4.heap.size + 1) 124 #[.pointer (some ⟨sb, 0, none⟩), .int .i64 0, .map none, .int .i64 c, .int .i64 0, .int .i64 0, .map (some w4.heap.size), .bool false, .bool false, .slice none 0 0] := Blk.newAt _ _ _ _ (by simp)
    have hk5 : Kp NoB w4 ((w4.alloc (.map #[] 0)).alloc (.cells #[.pointer (some ⟨sb, 0, none⟩), .int .i64 0, .map none, .int .i64 c, .int .i64 0, .int .i64 0, .map (some w4.heap.size), .bool false, .bool false, .slice none 0 0] 124)) := ((Kp.refl _ _).alloc _).alloc _
    have hm5 : PgMap ((w4.alloc (.map #[] 0)).alloc (.cells #[.pointer (some ⟨sb, 0, none⟩), .int .i64 0, .map none, .int .i64 c, .int .i64 0, .int .i64 0, .map (some w4.heap.size), .bool false, .bool false, .slice none 0 0] 124)) w4.heap.size PgM.none := (PgMap.made w4).keep ((Kp.refl NoB _).alloc _) (fun q => q)
    generalize (w4.alloc (.map #[] 0)).alloc (.cells #[.pointer (some ⟨sb, 0, none⟩), .int .i64 0, .map none, .int .i64 c, .int .i64 0, .int .i64 0, .map (some w4.heap.size), .bool false, .bool false, .slice none 0 0] 124) = w5 at hb5 hg5 hk5 hm5 ⊢
    obtain ⟨sm, hsm⟩ : ∃ sm, w4.heap.size = sm := ⟨_, rfl⟩
    obtain ⟨g, hg⟩ : ∃ g, w4.heap.size + 1 = g := ⟨_, rfl⟩
    rw [hg] at hg5 ⊢
    rw [hsm] at hg5 hm5 ⊢
    have HSM := Lib.hid hsm
    have HGE := Lib.hid hg
    have hsbg : sb ≠ g := by have := HS4.out.blk.lt; omega
    clear hsm hg
    obtain ⟨d8, d7⟩ := HB4.out _ hb5
    have HB5 := Lib.hid hb5
    have HG5 := Lib.hid hg5
    have HK5 := Lib.hid hk5
    have HM5 := Lib.hid hm5
    have HS5' := Lib.hid (HS4.out.keep hk5)
    clear hb5 hg5 hk5 hm5
    go_wp2_with fail
    refine (show Calls _ _ #[.agg #[ptrV db], .int .i64 0] _ _ from count_j (s := s) HS5'.out.dq 0).mono ?_
    rintro e w6 ⟨rfl, hk6⟩
    obtain ⟨n, hn⟩ : ∃ n, (s.p.jcount : Int) = n := ⟨_, rfl⟩
    have hnr := jcount_rng HS4.out.dq
    rw [hn] at hnr ⊢
    have HN := Lib.hid (And.intro hn hnr)
    have hb7 : Blk (w6.alloc (.map #[] 0)) sb 140 (stC db lb tb s ts) := (HB5.out.keep hk6 (fun q => q)).alloc _
    have hg7 := (HG5.out.keep hk6 (fun q => q)).alloc (.map #[] 0)
    have x1 := hg7.cell 1
    have x2 := hg7.cell 2
    have x5 := hg7.cell 5
    have z1 := hg7.frozen 1
    have z2 := hg7.frozen 2
    have z5 := hg7.frozen 5
    have y5 : (w6.alloc (.map #[] 0)).cell? ⟨sb, 5 + c, none⟩ = some (.pointer none) := by
      rw [hb7.cell]
      have hcc := HC.out
      have hff := HF.out
      have : c = 0 ∨ c = 1 ∨ c = 2 ∨ c = 3 ∨ c = 4 ∨ c = 5 ∨ c = 6 ∨ c = 7 := by omega
      rcases this with rfl | rfl | rfl | rfl | rfl | rfl | rfl | rfl <;> exact congrArg some hff
    have v5 := hb7.frozen (5 + c)
    have HB7 := Lib.hid hb7
    have HG7 := Lib.hid hg7
    have HK7 := Lib.hid ((HK5.out.trans hk6 (fun _ _ q => q)).alloc (.map #[] 0))
    have HM7 := Lib.hid ((HM5.out.keep hk6 (fun q => q)).keep ((Kp.refl NoB w6).alloc (.map #[] 0)) (fun q => q))
    have HMB := Lib.hid (PgMap.made w6)
    have HSZ6 : Hid (w4.heap.size + 2 ≤ w6.heap.size) := Lib.hid (by have := HG5.out.lt; have := hk6.size; have := HGE.out; omega)
    clear hnr hn hk6 hb7 hg7
    dsimp only
    go_wp2_with fail
    have hz := HSZ6.out
    have hsm := HSM.out
    have hge := HGE.out
    have hsl := HS4.out.blk.lt
    have kk : Kp (fun b => b = g ∨ b = sb) (w6.alloc (.map #[] 0)) (((((w6.alloc (.map #[] 0)).setCell ⟨g, 1, none⟩ (.int .i64 n)).setCell ⟨g, 1 + 1, none⟩ (.map (some w6.heap.size))).setCell ⟨g, 5, none⟩ (.int .i64 n)).setCell ⟨sb, 5 + c, none⟩ (.pointer (some ⟨g, 0, none⟩))) :=
      ((((Kp.refl (fun b => b = g ∨ b = sb) _).setCell (p := ⟨g, 1, none⟩) (.inr (.inl rfl)) _).setCell (p := ⟨g, 1 + 1, none⟩) (.inr (.inl rfl)) _).setCell (p := ⟨g, 5, none⟩) (.inr (.inl rfl)) _).setCell (p := ⟨sb, 5 + c, none⟩) (.inr (.inr rfl)) _
    have hbF := (((HB7.out.far (p := ⟨g, 1, none⟩) hsbg (.int .i64 n)).far (p := ⟨g, 1 + 1, none⟩) hsbg (.map (some w6.heap.size))).far (p := ⟨g, 5, none⟩) hsbg (.int .i64 n)).set_ (5 + c) (.pointer (some ⟨g, 0, none⟩))
    have hgF := (((HG7.out.set_ 1 (.int .i64 n)).set_ (1 + 1) (.map (some w6.heap.size))).set_ 5 (.int .i64 n)).far (p := ⟨sb, 5 + c, none⟩) (fun e => hsbg e.symm) (.pointer (some ⟨g, 0, none⟩))
    obtain ⟨tb', L', e1, hS, hoo, hG⟩ := begin_fin (c := c) (g := g) (mb := w6.heap.size) (sm := sm) (m := 0) (n := n) HS4.out hc
      ((HK7.out.mono (S' := OnB sb) (fun _ _ q => q.elim)).trans kk (fun b hb q => by
        rcases q with q | q
        · omega
        · exact q)) hbF hgF (HMB.out.keep kk (fun q => by rcases q with q | q <;> omega)) (HM7.out.keep kk (fun q => by rcases q with q | q <;> omega)) (by omega) (by omega) (by omega) (by omega) (by omega) (by omega) HN.out.2
    have E := HBG.out
    rw [HLE.out, if_neg (by decide), if_neg (by decide), HN.out.1] at E
    rw [← HPP.out, E]
    exact ⟨tb', L', by rw [e1]; rfl, hS, hoo, HG4.out.trans hG⟩
  · have hne2 : le ≠ 0 := bne_iff_ne.1 hne
    have E := HBG.out
    rw [HLE.out, if_pos hne2] at E
    have HE := Lib.hid E
    clear E hne2
    go_wp2_with fail
    rw [← HPP.out, HE.out]
    exact ⟨rfl, L, HS3.out.1, HG3.out⟩
end
end Go.Proofs.YtoeldmkbmnkhkaaGreat
/- A transaction by the journal writes from now on; condition: it may. -/
namespace Go.Proofs.YtoeldmkbmnkhkaaGreat
open Go.RowKit Go.Maps

section
variable {L : Lab} {w : World} {sb db lb : Nat} {tb : Nat → Nat} {s : SdS} {ts : Nat → Option TxS} {i : Nat} {t : TxS}
set_option maxRecDepth 100000 in
set_option maxHeartbeats 800000 in
theorem write_ok_j (h : Sys L w sb db lb tb s ts) (ht : ts i = some t) (hl : s.log = false) (hok : t.okE s = 0) (hw : t.w = false) (hm : t.mark = 0) (hlk : (lk_takeI s.hs t.c 2).1 = 0) :
    Calls Tryz.prog 25 #[ptrV (tb i)] w fun e w' => e = .returned (.int .i64 0) ∧ ∃ L', Sys L' w' sb db lb tb { s with hs := (lk_takeI s.hs t.c 2).2 } (updT ts i { t with w := true }) ∧ Gw L w L' w' := by
  obtain ⟨_, _, mb, sm, A, cap, ms, hn⟩ := h.tx i t ht
  have hok' := ok_t h ht
  rw [hok] at hok'
  have HOK := Lib.hid hok'
  have H := Lib.hid h
  have HT := Lib.hid ht
  have HN := Lib.hid hn
  have HL := Lib.hid hl
  have HLK := Lib.hid hlk
  clear h ht hn hok hok' hl hlk
  obtain ⟨g, hg⟩ : ∃ g, tb i = g := ⟨_, rfl⟩
  rw [hg] at HOK HN ⊢
  have HGG := Lib.hid hg
  clear hg
  have hne : g ≠ lb := fun e => by have := HN.out.lb; rw [e, H.out.l2] at this; omega
  have hsl : sb ≠ lb := fun e => by have := H.out.l1; rw [e, H.out.l2] at this; cases this
  have HNE := Lib.hid (And.intro hne hsl)
  obtain ⟨cc, hcc⟩ : ∃ cc : Int, (t.c : Int) = cc := ⟨_, rfl⟩
  rw [hcc] at HLK ⊢
  have HCC := Lib.hid hcc
  have im1 := im_mark_j db
  have hTX : ∀ W, Blk W g 124 (txC t sb mb sm A cap) → W.cell? ⟨g, 0, none⟩ = some (.pointer (some ⟨sb, 0, none⟩)) ∧ W.cell? ⟨g, 2 + 1, none⟩ = some (.int .i64 cc) ∧ W.cell? ⟨g, 3, none⟩ = some (.int .i64 cc) := fun W hb => by rw [← HCC.out]; exact ⟨hb.cell 0, hb.cell 3, hb.cell 3⟩
  have HTX := Lib.hid hTX
  have hST : ∀ W, Blk W sb 140 (stC db lb tb s ts) → W.cell? ⟨sb, 4, none⟩ = some (.pointer (some ⟨lb, 0, none⟩)) ∧ W.cell? ⟨sb, 3, none⟩ = some (.iface 133 (.agg #[.pointer (some ⟨db, 0, none⟩)])) := fun W hb => ⟨hb.cell 4, (hb.cell 3).trans (by rw [show (stC db lb tb s ts)[3]? = some (wayV s.log db) from rfl, HL.out]; rfl)⟩
  have HST := Lib.hid hST
  clear hTX hST hne hsl hcc
  unfold ptrV at *
  go_enter Tryz.func25, Tryz.ntmps25
  go_upto_region 4 with (go_at_call 66; refine HOK.out.mono ?_; rintro e w1 ⟨rfl, hk⟩; have c7 : w1.cell? ⟨g, 6 + 1, none⟩ = some (.bool false) := ((HN.out.blk.keep hk (fun q => q)).cell 7).trans (by rw [show (txC t sb mb sm A cap)[7]? = some (.bool t.w) from rfl, hw]))
  have K1 := Lib.hid hk
  obtain ⟨a0, a3, a3'⟩ := HTX.out _ (HN.out.blk.keep hk (fun q => q))
  obtain ⟨a4, a5⟩ := HST.out _ (H.out.blk.keep hk (fun q => q))
  refine wp_region_held_drew (S := (fun V => V.cell? ⟨g, 0, none⟩ = some (.pointer (some ⟨sb, 0, none⟩)) ∧ V.cell? ⟨g, 2 + 1, none⟩ = some (.int .i64 cc) ∧ V.cell? ⟨sb, 4, none⟩ = some (.pointer (some ⟨lb, 0, none⟩)))) (by kernel_rfl) (show (fun V => V.cell? ⟨g, 0, none⟩ = some (.pointer (some ⟨sb, 0, none⟩)) ∧ V.cell? ⟨g, 2 + 1, none⟩ = some (.int .i64 cc) ∧ V.cell? ⟨sb, 4, none⟩ = some (.pointer (some ⟨lb, 0, none⟩))) w1.drew from ⟨a0, a3, a4⟩) (fun hHeld => ?_)
  have hs0 : (fun V => V.cell? ⟨g, 0, none⟩ = some (.pointer (some ⟨sb, 0, none⟩)) ∧ V.cell? ⟨g, 2 + 1, none⟩ = some (.int .i64 cc) ∧ V.cell? ⟨sb, 4, none⟩ = some (.pointer (some ⟨lb, 0, none⟩))) w1.drew := ⟨a0, a3, a4⟩
  have hk0 : Kp NoB w1 w1.drew := (Kp.refl NoB w1).drew
  generalize w1.drew = W0 at hs0 hk0 hHeld ⊢
  refine tkS (i := 0) (v := (.pointer (some ⟨g, 0, none⟩))) rfl (Or.inl ⟨by rfl, fun w' hq => by go_simp⟩) hs0 ?_
  simp only [Act.put, skA, skB, skC]
  refine tkS (i := 1) (v := (.pointer (some ⟨g, 0, none⟩))) rfl (Or.inl ⟨by rfl, fun w' hq => by go_simp⟩) hs0 ?_
  simp only [Act.put, skA, skB, skC]
  refine tkS (i := 2) (v := (.pointer (some ⟨g, 0, none⟩))) rfl (Or.inl ⟨by rfl, fun w' hq => by go_simp⟩) hs0 ?_
  simp only [Act.put, skA, skB, skC]
  refine tkS (i := 3) (v := (.pointer (some ⟨sb, 0, none⟩))) rfl (Or.inl ⟨by rfl, fun w' hq => by obtain ⟨q0, q3, q4⟩ := hq; go_simp⟩) hs0 ?_
  simp only [Act.put, skA, skB, skC]
  refine tkS (i := 4) (v := (.pointer (some ⟨sb, 0, none⟩))) rfl (Or.inl ⟨by rfl, fun w' hq => by go_simp⟩) hs0 ?_
  simp only [Act.put, skA, skB, skC]
  refine tkS (i := 5) (v := (.pointer (some ⟨sb, 4, none⟩))) rfl (Or.inl ⟨by rfl, fun w' hq => by go_simp⟩) hs0 ?_
  simp only [Act.put, skA, skB, skC]
  refine tkS (i := 6) (v := (.pointer (some ⟨lb, 0, none⟩))) rfl (Or.inl ⟨by rfl, fun w' hq => by obtain ⟨q0, q3, q4⟩ := hq; go_simp⟩) hs0 ?_
  simp only [Act.put, skA, skB, skC]
  refine tkS (i := 7) (v := (.pointer (some ⟨g, 0, none⟩))) rfl (Or.inl ⟨by rfl, fun w' hq => by go_simp⟩) hs0 ?_
  simp only [Act.put, skA, skB, skC]
  refine tkS (i := 8) (v := (.pointer (some ⟨g, 0, none⟩))) rfl (Or.inl ⟨by rfl, fun w' hq => by go_simp⟩) hs0 ?_
  simp only [Act.put, skA, skB, skC]
  refine tkS (i := 9) (v := (.pointer (some ⟨g, 2 + 1, none⟩))) rfl (Or.inl ⟨by rfl, fun w' hq => by go_simp⟩) hs0 ?_
  simp only [Act.put, skA, skB, skC]
  refine tkS (i := 10) (v := (.int .i64 cc)) rfl (Or.inl ⟨by rfl, fun w' hq => by obtain ⟨q0, q3, q4⟩ := hq; go_simp⟩) hs0 ?_
  simp only [Act.put, skA, skB, skC]
  refine wpAnyH_ready (rs := [11]) (by kernel_rfl) (by simp) ?_
  refine AllReadyH.callR (fun x W' => x = .int .i64 (lk_hasI s.hs cc) ∧ W' = W0) rfl (by rfl) 78 #[.pointer (some ⟨lb, 0, none⟩), .int .i64 cc] (by first | (go_simp; done) | (go_simp; rfl)) (fun _ _ q => (by rw [q.2]; exact hs0)) ((lk_has_ok W0 lb s.hs cc ((H.out.tab.keep K1.out (fun q => q)).keep hk0 (fun q => q))).mono (by rintro e w19 ⟨rfl, rfl⟩; exact ⟨_, rfl, rfl, rfl⟩)) ?_ AllReadyH.nil
  rintro _ w2 ⟨rfl, hw2⟩
  subst hw2
  simp only [Act.put, skA, skB, skC]
  refine tkS (i := 12) (v := (.int .i64 (lk_hasI s.hs cc))) rfl (Or.inl ⟨by rfl, fun w' hq => by go_simp⟩) hs0 ?_
  simp only [Act.put, skA, skB, skC]
  refine wpAnyH_done (by kernel_rfl) ?_ _
  have K2 := Lib.hid (K1.out.trans hk0 (fun _ _ q => q))
  clear hHeld hs0 hk0 hk c7 a0 a3 a3' a4 a5
  obtain ⟨b0, b3, b3'⟩ := HTX.out _ (HN.out.blk.keep K2.out (fun q => q))
  obtain ⟨b4, b5⟩ := HST.out _ (H.out.blk.keep K2.out (fun q => q))
  generalize lk_hasI s.hs cc = hh
  go_upto_region 5 with fail
  refine wp_region_held_drew (S := (fun V => V.cell? ⟨g, 0, none⟩ = some (.pointer (some ⟨sb, 0, none⟩)) ∧ V.cell? ⟨g, 2 + 1, none⟩ = some (.int .i64 cc) ∧ V.cell? ⟨sb, 4, none⟩ = some (.pointer (some ⟨lb, 0, none⟩)))) (by kernel_rfl) (show (fun V => V.cell? ⟨g, 0, none⟩ = some (.pointer (some ⟨sb, 0, none⟩)) ∧ V.cell? ⟨g, 2 + 1, none⟩ = some (.int .i64 cc) ∧ V.cell? ⟨sb, 4, none⟩ = some (.pointer (some ⟨lb, 0, none⟩))) w2.drew from ⟨b0, b3, b4⟩) (fun hHeld => ?_)
  have hs0 : (fun V => V.cell? ⟨g, 0, none⟩ = some (.pointer (some ⟨sb, 0, none⟩)) ∧ V.cell? ⟨g, 2 + 1, none⟩ = some (.int .i64 cc) ∧ V.cell? ⟨sb, 4, none⟩ = some (.pointer (some ⟨lb, 0, none⟩))) w2.drew := ⟨b0, b3, b4⟩
  have hk0 : Kp NoB w2 w2.drew := (Kp.refl NoB w2).drew
  have hSK : ∀ V, Kp (OnB lb) w2 V → (fun V => V.cell? ⟨g, 0, none⟩ = some (.pointer (some ⟨sb, 0, none⟩)) ∧ V.cell? ⟨g, 2 + 1, none⟩ = some (.int .i64 cc) ∧ V.cell? ⟨sb, 4, none⟩ = some (.pointer (some ⟨lb, 0, none⟩))) V := fun V kv => by
    obtain ⟨q0, q3, _⟩ := HTX.out _ ((HN.out.blk.keep K2.out (fun q => q)).keep kv (fun q => HNE.out.1 q))
    obtain ⟨q4, _⟩ := HST.out _ ((H.out.blk.keep K2.out (fun q => q)).keep kv (fun q => HNE.out.2 q))
    exact ⟨q0, q3, q4⟩
  generalize w2.drew = W0 at hs0 hk0 hHeld ⊢
  have hk0' : Kp (OnB lb) w2 W0 := hk0.mono (fun _ _ q => q.elim)
  refine tkS (i := 0) (v := (.pointer (some ⟨g, 0, none⟩))) rfl (Or.inl ⟨by rfl, fun w' hq => by go_simp⟩) hs0 ?_
  simp only [Act.put, skA, skB, skC]
  refine tkS (i := 1) (v := (.pointer (some ⟨g, 0, none⟩))) rfl (Or.inl ⟨by rfl, fun w' hq => by go_simp⟩) hs0 ?_
  simp only [Act.put, skA, skB, skC]
  refine tkS (i := 2) (v := (.pointer (some ⟨g, 0, none⟩))) rfl (Or.inl ⟨by rfl, fun w' hq => by go_simp⟩) hs0 ?_
  simp only [Act.put, skA, skB, skC]
  refine tkS (i := 3) (v := (.pointer (some ⟨sb, 0, none⟩))) rfl (Or.inl ⟨by rfl, fun w' hq => by obtain ⟨q0, q3, q4⟩ := hq; go_simp⟩) hs0 ?_
  simp only [Act.put, skA, skB, skC]
  refine tkS (i := 4) (v := (.pointer (some ⟨sb, 0, none⟩))) rfl (Or.inl ⟨by rfl, fun w' hq => by go_simp⟩) hs0 ?_
  simp only [Act.put, skA, skB, skC]
  refine tkS (i := 5) (v := (.pointer (some ⟨sb, 4, none⟩))) rfl (Or.inl ⟨by rfl, fun w' hq => by go_simp⟩) hs0 ?_
  simp only [Act.put, skA, skB, skC]
  refine tkS (i := 6) (v := (.pointer (some ⟨lb, 0, none⟩))) rfl (Or.inl ⟨by rfl, fun w' hq => by obtain ⟨q0, q3, q4⟩ := hq; go_simp⟩) hs0 ?_
  simp only [Act.put, skA, skB, skC]
  refine tkS (i := 7) (v := (.pointer (some ⟨g, 0, none⟩))) rfl (Or.inl ⟨by rfl, fun w' hq => by go_simp⟩) hs0 ?_
  simp only [Act.put, skA, skB, skC]
  refine tkS (i := 8) (v := (.pointer (some ⟨g, 0, none⟩))) rfl (Or.inl ⟨by rfl, fun w' hq => by go_simp⟩) hs0 ?_
  simp only [Act.put, skA, skB, skC]
  refine tkS (i := 9) (v := (.pointer (some ⟨g, 2 + 1, none⟩))) rfl (Or.inl ⟨by rfl, fun w' hq => by go_simp⟩) hs0 ?_
  simp only [Act.put, skA, skB, skC]
  refine tkS (i := 10) (v := (.int .i64 cc)) rfl (Or.inl ⟨by rfl, fun w' hq => by obtain ⟨q0, q3, q4⟩ := hq; go_simp⟩) hs0 ?_
  simp only [Act.put, skA, skB, skC]
  refine wpAnyH_ready (rs := [11]) (by kernel_rfl) (by simp) ?_
  refine AllReadyH.callR (fun x W' => x = .int .i64 0 ∧ Tab W' lb (lk_takeI s.hs cc 2).2 ∧ Kp (OnB lb) w2 W') rfl (by rfl) 76 #[.pointer (some ⟨lb, 0, none⟩), .int .i64 cc, .int .i64 2] (by first | (go_simp; done) | (go_simp; rfl)) (fun _ _ q => (hSK _ q.2.2)) ((lk_take_ok W0 lb s.hs cc 2 ((H.out.tab.keep K2.out (fun q => q)).keep hk0 (fun q => q))).mono (by rintro e w19 ⟨rfl, ht, hk⟩; exact ⟨_, rfl, by rw [HLK.out], ht, hk0'.trans hk (fun _ _ q => q)⟩)) ?_ AllReadyH.nil
  rintro _ w3 ⟨rfl, ht3, hk3⟩
  simp only [Act.put, skA, skB, skC]
  refine tkS (i := 12) (v := (.int .i64 0)) rfl (Or.inl ⟨by rfl, fun w' hq => by go_simp⟩) (hSK _ hk3) ?_
  simp only [Act.put, skA, skB, skC]
  refine wpAnyH_done (by kernel_rfl) ?_ _
  have HT3 := Lib.hid ht3
  have K3 := Lib.hid hk3
  obtain ⟨c0, c3, c3'⟩ := HTX.out _ ((HN.out.blk.keep K2.out (fun q => q)).keep hk3 (fun q => HNE.out.1 q))
  obtain ⟨c4, c5⟩ := HST.out _ ((H.out.blk.keep K2.out (fun q => q)).keep hk3 (fun q => HNE.out.2 q))
  clear hHeld hs0 hk0 hk0' hSK ht3 hk3 b0 b3 b3' b4 b5
  have hS3 := (H.out.keep K2.out).locks HT3.out K3.out
  have HS3 := Lib.hid hS3
  clear hS3
  go_wp2_with fail
  refine (show Calls _ _ #[.agg #[ptrV db]] _ _ from mark_j db w3).mono ?_
  rintro e w4 ⟨rfl, hk4⟩
  have hS4 := HS3.out.1.keep hk4
  have hn4 : Blk w4 g 124 (txC t sb mb sm A cap) := ((HN.out.blk.keep K2.out (fun q => q)).keep K3.out (fun q => HNE.out.1 q)).keep hk4 (fun q => q)
  have d3 : w4.cell? ⟨g, 3 + 1, none⟩ = some (.int .i64 0) := (hn4.cell 4).trans (by rw [show (txC t sb mb sm A cap)[4]? = some (.int .i64 t.mark) from rfl, hm])
  have d7 : w4.cell? ⟨g, 6 + 1, none⟩ = some (.bool t.w) := hn4.cell 7
  have z7 : w4.frozen? ⟨g, 6 + 1, none⟩ = false := hn4.frozen 7
  have HS4 := Lib.hid hS4
  have HN4 := Lib.hid hn4
  have KA : Hid (Kp (OnB lb) w w4) := Lib.hid (((K2.out.mono (S' := OnB lb) (fun _ _ q => q.elim)).trans K3.out (fun _ _ q => q)).trans hk4 (fun _ _ q => q.elim))
  have G4 := Lib.hid (((Gw.nob K2.out).trans HS3.out.2).trans (Gw.nob hk4))
  clear hk4 hS4 hn4 hw hm
  dsimp only
  go_wp2_with fail
  go_ret
  have hn5 : TxN L w4 i sb g mb sm A cap ms t := HN.out.keep (Sm.of KA.out (fun _ _ => rfl) (fun b q z => by
    unfold OnB at z
    rw [z, H.out.l2] at q
    have := q.1
    omega))
  have hne : mb ≠ g := fun e => by
    have q1 := hn5.lb
    have q2 := hn5.lm
    rw [← e, q2] at q1
    omega
  have hgg := HGG.out
  subst hgg
  have hF := HS4.out.wrote (f := t.pg) (t' := { t with w := true }) HT.out hn5 ((Kp.refl (fun b => b = tb i ∨ b = mb) w4).setCell (p := ⟨tb i, 6 + 1, none⟩) (.inr (.inl rfl)) (.bool true)) (HN4.out.set_ 7 (.bool true)) (hn5.pg.keep ((Kp.refl (OnB (tb i)) w4).setCell (p := ⟨tb i, 6 + 1, none⟩) (.inr rfl) (.bool true)) (fun q => hne q)) rfl rfl rfl rfl hn5.rc
  exact ⟨rfl, L, hF.1, G4.out.trans hF.2⟩
end
end Go.Proofs.YtoeldmkbmnkhkaaGreat
/- The law's database: a disk of its own, a transaction that writes; laid, if it is to be; no condition. -/
namespace Go.Proofs.YtoeldmkbmnkhkaaGreat
open Go.RowKit

theorem opn_1 : (Pl.new 4000000).jrecover.2.2 = 0 := by kernel_rfl
theorem opn_2 : ((Pl.new 4000000).jrecover.1).wmark = (0, 0) := by kernel_rfl
theorem opn_3 : (((Pl.new 4000000).jrecover.1).wcheck 0).2 = 0 := by kernel_rfl
theorem opn_4 : (((Pl.new 4000000).jrecover.1).wcheck 0).1.down = false := by kernel_rfl
theorem opn_5 : (((Pl.new 4000000).jrecover.1).wcheck 0).1.jcount = 0 := by kernel_rfl
theorem opn_6 : (Pl.new 4000000).nf + (Pl.new 4000000).pd.length = 0 := by kernel_rfl
theorem opn_7 : (Pl.new 4000000).jrecover.1.nf + (Pl.new 4000000).jrecover.1.pd.length = 0 := by kernel_rfl
/-- the store as it is opened -/
def stN : SdS := ⟨(((Pl.new 4000000).jrecover.1).wcheck 0).1, (((Pl.new 4000000).jrecover.1).wcheck 0).1.starts, false, List.replicate 8 0⟩
theorem open_new : SdS.open_ (Pl.new 4000000) false = (stN.p, some stN, 0) := by
  unfold SdS.open_
  rw [if_neg (by rw [opn_1]; decide)]
  dsimp only
  rw [if_neg (by rw [opn_2]; decide), if_neg (by decide), opn_2]
  dsimp only
  rw [if_neg (by rw [opn_3]; decide)]
  rfl
theorem over_N (hs : List Int) : SdS.over { stN with hs := hs } = false := by
  unfold SdS.over stN
  dsimp only
  rw [opn_4]
  simp
def hs1 : List Int := [1, 0, 0, 0, 0, 0, 0, 0]
def hs2 : List Int := [2, 0, 0, 0, 0, 0, 0, 0]
def tN : TxS := ⟨0, 0, 0, 0, PgM.none, PgM.none, false, false, []⟩
theorem begin_N : stN.begin_ 0 = ({ stN with hs := hs1 }, some tN, 0) := by
  have h1 : lk_takeI stN.hs ((0 : Nat) : Int) 1 = (0, hs1) := by decide
  have h2 : stN.p.jcount = 0 := opn_5
  unfold SdS.begin_ SdS.lock SdS.lock1 SdS.mark SdS.count
  have h0 : stN.over = false := over_N stN.hs
  have h3 : stN.log = false := rfl
  simp only [h0, h3, h1, Bool.false_eq_true, if_false]
  rw [if_neg (by decide), if_neg (by decide)]
  show (_, some (TxS.mk 0 0 (stN.p.jcount : Int) (stN.p.jcount : Int) PgM.none PgM.none false false []), (0 : Int)) = _
  rw [h2]
  rfl
theorem sm_N : (Pl.new 4000000).sm 90000000 ∧ (Pl.new 4000000).jrecover.1.sm 200000000 := by
  have h1 := opn_6
  have h2 := opn_7
  unfold Pl.sm
  omega
theorem bool3 : ((fun _ => (0 : Nat) = 3) : Nat → Prop) = fun _ => False := by
  funext k
  apply propext
  constructor
  · intro q; cases q
  · exact fun q => q.elim
set_option maxRecDepth 100000 in
set_option maxHeartbeats 1600000 in
theorem open10_ok (w : World) (laid : Bool) : Calls Tryz.prog 14 #[.bool laid] w fun e w' => ∃ t0 L, e = .returned (.tuple #[ptrV t0, .bool true]) ∧ (Wr L w' t0 (if laid then [spg sf0] else []) [] ∧ ∀ b, b < w.heap.size → L b = 0) ∧ Kp NoB w w' := by
  have hr : (-9223372036854775808 : Int) ≤ 4000000 ∧ (4000000 : Int) ≤ 9223372036854775807 := by decide
  have HR := Lib.hid hr
  clear hr
  go_enter Tryz.func14, Tryz.ntmps14
  go_wp2_with fail
  refine (new_q w 4000000 HR.out).mono ?_
  rintro e w1 ⟨db, rfl, hq⟩
  obtain ⟨L1, hd1, hl1, hg1, _, _⟩ := Dsk.step (L := fun _ => 0) (by rw [bool3]; exact hq) (fun k q => absurd rfl q)
  have HC := Lib.hid (open_s hd1 hl1 false sm_N.1 sm_N.2 (fun _ => 0))
  have G1 := Lib.hid hg1
  clear hq hd1 hl1 hg1
  rw [open_new] at HC
  unfold ptrV at *
  dsimp only
  go_wp2_with fail
  refine HC.out.mono ?_
  rintro e w2 ⟨sb, lb, L2, rfl, hS2, hG2⟩
  have HB := Lib.hid (begin_j hS2 rfl (over_N stN.hs) 0 (by decide) rfl)
  rw [begin_N] at HB
  have G2 := Lib.hid (G1.out.trans hG2)
  clear hS2 hG2
  unfold ptrV at *
  dsimp only
  go_wp2_with fail
  refine HB.out.mono ?_
  rintro e w3 ⟨tb', L3, rfl, hS3, _, hG3⟩
  have HW := Lib.hid (write_ok_j hS3 (updT_at _ _ _) rfl (okE0 (over_N hs1) rfl) rfl rfl (by decide))
  have G3 := Lib.hid (G2.out.trans hG3)
  clear hS3 hG3
  obtain ⟨t0, ht0⟩ : ∃ t0, tb' 0 = t0 := ⟨_, rfl⟩
  rw [ht0] at HW ⊢
  have HT0 := Lib.hid ht0
  clear ht0
  unfold ptrV at *
  dsimp only
  go_wp2_with fail
  refine HW.out.mono ?_
  rintro e w4 ⟨rfl, L4, hS4, hG4⟩
  have hWr : Wr L4 w4 t0 [] [] := by
    refine ⟨_, _, _, _, _, _, 0, _, hS4, updT_at _ _ _, HT0.out, over_N _, rfl, rfl, rfl, ?_, rfl⟩
    funext k
    show (PgM.none k) = pgOf [] k
    unfold PgM.none pgOf
    split
    · rfl
    · rfl
  have G4 := Lib.hid (G3.out.trans hG4)
  have HWr := Lib.hid hWr
  clear hS4 hG4 hWr
  have fin : ∀ {L' : Lab} {w' : World}, Gw (fun _ => 0) w L' w' → Kp NoB w w' := fun h => h.kp.mono (fun b _ q => absurd rfl q)
  dsimp only
  cases laid
  · go_wp2_with fail
    go_ret2
    exact ⟨t0, rfl, ⟨L4, HWr.out, G4.out.ext⟩, fin G4.out⟩
  · go_wp2_with fail
    refine (show Calls _ _ #[ptrV t0] _ _ from lay_w HWr.out).mono ?_
    rintro e w5 ⟨rfl, L5, hW5, hG5⟩
    have HW5 := Lib.hid hW5
    have G5 := Lib.hid (G4.out.trans hG5)
    clear hW5 hG5
    rw [show layS [] = ([spg sf0], 0) from rfl]
    dsimp only
    go_wp2_with fail
    go_ret2
    exact ⟨t0, rfl, ⟨L5, HW5.out, G5.out.ext⟩, fin G5.out⟩
end Go.Proofs.YtoeldmkbmnkhkaaGreat
/- The space's answers that every law asks at its end; no condition. -/
namespace Go.Proofs.YtoeldmkbmnkhkaaGreat
open Go.RowKit

def D1 : List (List Int) := [spg sf0]
theorem rep1 : Rep D1 [] ns0 := rep_new
theorem take1 : takeS D1 = (D1 ++ [zeros 256], 2, 0) ∧ Rep (D1 ++ [zeros 256]) [] ns0 := rep1.take_nil (by decide)
theorem give1 {D : List (List Int)} {ns : List Int} (h : Rep D [] ns) : giveS D 1 = (D, 2) := by
  unfold giveS
  rw [h.read]
  dsimp only
  rw [if_pos (.inl (by decide))]
theorem get1 {D : List (List Int)} {ns : List Int} (h : Rep D [] ns) : getS D 8 = (0, 2) := by
  unfold getS
  rw [h.read]
  dsimp only
  rw [if_pos (.inr (by decide))]
set_option maxRecDepth 100000 in
set_option maxHeartbeats 1600000 in
theorem awake10_ok (w : World) : Calls Tryz.prog 13 #[] w fun e w' => e = .returned (.bool true) ∧ Kp NoB w w' := by
  go_enter Tryz.func13, Tryz.ntmps13
  go_wp2_with fail
  refine (open10_ok w false).mono ?_
  rintro e w1 ⟨t0, L1, rfl, ⟨hW, hL0⟩, hk⟩
  have HL0 := Lib.hid hL0
  have HW1 : Hid (Wr L1 w1 t0 [] []) := Lib.hid hW
  have K1 := Lib.hid hk
  clear hW hk hL0
  unfold ptrV
  dsimp only
  go_wp2_with fail
  refine (show Calls _ _ #[ptrV t0] _ _ from laid_w HW1.out).mono ?_
  rintro e w2 ⟨rfl, hk⟩
  rw [show readE [] = 8 from rfl]
  have K2 := Lib.hid hk
  clear hk
  dsimp only
  go_wp2_with fail
  refine (show Calls _ _ #[ptrV t0] _ _ from lay_w (HW1.out.keep K2.out)).mono ?_
  rintro e w3 ⟨rfl, L3, hW, hG⟩
  rw [show layS [] = (D1, 0) from rfl] at hW ⊢
  have HW3 := Lib.hid hW
  have G3 := Lib.hid ((Gw.nob (L := L1) K2.out).trans hG)
  clear hW hG
  dsimp only
  go_wp2_with fail
  refine (show Calls _ _ #[ptrV t0] _ _ from lay_w HW3.out).mono ?_
  rintro e w4 ⟨rfl, L4, hW, hG⟩
  rw [show layS D1 = (D1, 6) from rfl] at hW ⊢
  have HW4 := Lib.hid hW
  have G4 := Lib.hid (G3.out.trans hG)
  clear hW hG
  dsimp only
  go_wp2_with fail
  refine (show Calls _ _ #[ptrV t0] _ _ from take_w HW4.out).mono ?_
  rintro e w5 ⟨rfl, L5, hW, hG⟩
  rw [take1.1] at hW ⊢
  have HW5 := Lib.hid hW
  have G5 := Lib.hid (G4.out.trans hG)
  clear hW hG
  have HR := Lib.hid take1.2
  obtain ⟨D2, hD2⟩ : ∃ D2, D1 ++ [zeros 256] = D2 := ⟨_, rfl⟩
  rw [hD2] at HW5 HR
  clear hD2
  dsimp only
  go_wp2_with fail
  refine (show Calls _ _ #[ptrV t0, .int .i64 1] _ _ from give_w HW5.out 1).mono ?_
  rintro e w6 ⟨rfl, L6, hW, hG⟩
  rw [give1 HR.out] at hW ⊢
  have HW6 := Lib.hid hW
  have G6 := Lib.hid (G5.out.trans hG)
  clear hW hG
  dsimp only
  go_wp2_with fail
  refine (show Calls _ _ #[ptrV t0, .int .i64 8] _ _ from get_w HW6.out 8).mono ?_
  rintro e w7 ⟨rfl, hk⟩
  rw [get1 HR.out]
  have K7 := Lib.hid hk
  clear hk
  dsimp only
  go_wp2_with fail
  go_ret
  refine ⟨rfl, ?_⟩
  exact (K1.out.trans G6.out.kp (fun b hb q => absurd (HL0.out b hb) q)).trans K7.out (fun _ _ q => q)
end Go.Proofs.YtoeldmkbmnkhkaaGreat
/- The pages held and the pages given back, in memory and in plain Lean; no condition. -/
namespace Go.Proofs.YtoeldmkbmnkhkaaGreat
open Go.RowKit

theorem own_cutI {w : World} {base n c cap : Nat} {A : Option Addr} {xs : List Value} (h : w.ownsRow base 3 1 (.slice A n cap) n xs) (hc : c ≤ n) : w.ownsRow base 3 1 (.slice A c cap) c (xs.take c) := by
  have hl := h.1
  refine ⟨by rw [List.length_take, hl]; omega, ?_⟩
  rcases h.2 with ⟨q, h0⟩ | ⟨g, c', cur, hv, hb, hg, h1, h2, h3, h4⟩
  · injection q with q1 q2 q3
    subst q1 q3
    exact .inl ⟨by congr 1; omega, by omega⟩
  · injection hv with q1 q2 q3
    subst q1 q3
    exact .inr ⟨g, _, cur, rfl, hb, hg, by omega, h2, h3, by rw [← h4, List.take_take]; congr 1; omega⟩
theorem own_setI {w : World} {base g m c j : Nat} {xs : List Value} (h : w.ownsRow base 3 1 (.slice (some ⟨g, 0, none⟩) m c) m xs) (z : Value) : (w.setCell ⟨g, j, none⟩ z).ownsRow base 3 1 (.slice (some ⟨g, 0, none⟩) m c) m (xs.set j z) := by
  refine ⟨by rw [List.length_set]; exact h.1, ?_⟩
  rcases h.2 with ⟨q, _⟩ | ⟨g', c', cur, hv, hb, hg, h1, h2, h3, h4⟩
  · cases q
  · injection hv with q1 q2 q3
    injection q1 with q1
    injection q1 with q1
    subst q1 q3
    have hB : Blk w g 3 cur := hg
    refine .inr ⟨g, c, cur.setIfInBounds j z, rfl, hb, hB.set_ j z, h1, h2, by simpa using h3, ?_⟩
    rw [← h4, Array.toList_setIfInBounds, List.take_set]
/-- a row of pages' numbers of the law's own -/
structure OnR (L : Lab) (w : World) (B : Nat) (A : Option Addr) (c : Nat) (xs : List Int) : Prop where
  own : w.ownsRow B 3 1 (.slice A xs.length c) xs.length (xs.map (Value.int .i64))
  lab : ∀ g, (Value.slice A xs.length c).ownBlock = some g → L g = 0
/-- both rows, and the blocks of the callers' -/
structure OnM (w : World) (L : Lab) (wr : World) (A : Option Addr) (c : Nat) (xs : List Int) (A' : Option Addr) (c' : Nat) (ys : List Int) : Prop where
  lok : Lok L wr
  l0 : ∀ b, b < w.heap.size → L b = 0
  kp : Kp NoB w wr
  h1 : OnR L wr w.heap.size A c xs
  h2 : OnR L wr w.heap.size A' c' ys
  ap : ∀ g, (Value.slice A xs.length c).ownBlock = some g → (Value.slice A' ys.length c').ownBlock ≠ some g
section
variable {w wr w' : World} {L L' : Lab} {A A' : Option Addr} {c c' : Nat} {xs ys : List Int}
theorem OnM.swap (h : OnM w L wr A c xs A' c' ys) : OnM w L wr A' c' ys A c xs := ⟨h.lok, h.l0, h.kp, h.h2, h.h1, fun g q z => h.ap g z q⟩
theorem own_ltI {B n : Nat} {v : Value} {zs : List Value} (h : w.ownsRow B 3 1 v n zs) {g : Nat} (hg : v.ownBlock = some g) : g < w.heap.size := by
  obtain ⟨cs, q⟩ := own_type h hg
  exact lt_of_heap q
theorem OnM.gw (h : OnM w L wr A c xs A' c' ys) (hG : Gw L wr L' w') (hl : Lok L' w') : OnM w L' w' A c xs A' c' ys :=
  ⟨hl, fun b hb => (hG.ext b (Nat.lt_of_lt_of_le hb h.kp.size)).trans (h.l0 b hb), h.kp.trans hG.kp (fun b hb q => absurd (h.l0 b hb) q),
   ⟨own_keepB h.h1.own hG.kp (fun g q z => z (h.h1.lab g q)), fun g q => (hG.ext g (own_ltI h.h1.own q)).trans (h.h1.lab g q)⟩,
   ⟨own_keepB h.h2.own hG.kp (fun g q z => z (h.h2.lab g q)), fun g q => (hG.ext g (own_ltI h.h2.own q)).trans (h.h2.lab g q)⟩, h.ap⟩
theorem OnM.nob (h : OnM w L wr A c xs A' c' ys) (k : Kp NoB wr w') : OnM w L w' A c xs A' c' ys := h.gw (Gw.nob k) (h.lok.mono k.size)
theorem OnM.app (h : OnM w L wr A c xs A' c' ys) {n : Int} {v' : Value} (ho : w'.ownsRow w.heap.size 3 1 v' (xs.length + 1) (xs.map (Value.int .i64) ++ [.int .i64 n])) (hg : wr.grownBy w' (Value.slice A xs.length c).ownBlock)
    (hb : ∀ b, v'.ownBlock = some b → (Value.slice A xs.length c).ownBlock = some b ∨ wr.heap.size ≤ b) :
    ∃ A6 c6, v' = .slice A6 (xs.length + 1) c6 ∧ OnM w L w' A6 c6 (xs ++ [n]) A' c' ys ∧ Kp (fun b => (Value.slice A xs.length c).ownBlock = some b) wr w' := by
  obtain ⟨A6, c6, rfl⟩ := own_slice ho
  have hk : Kp (fun b => (Value.slice A xs.length c).ownBlock = some b) wr w' := ⟨hg.os, hg.tape, hg.output, hg.size, fun i hi hn => hg.block i hi (fun e => hn e.symm)⟩
  have hob : ∀ m, (Value.slice A6 m c6).ownBlock = (Value.slice A6 (xs.length + 1) c6).ownBlock := fun m => by cases A6 <;> rfl
  have hl : (xs ++ [n]).length = xs.length + 1 := by simp
  refine ⟨A6, c6, rfl, ⟨h.lok.mono hg.size, h.l0, h.kp.grown hg (fun j e => .inl (own_ge h.h1.own j e)), ⟨by rw [hl, List.map_append]; exact ho, fun g q => ?_⟩, ⟨own_keepB h.h2.own hk (fun g q z => h.ap g z q), h.h2.lab⟩, fun g q z => ?_⟩, hk⟩
  · rw [hob] at q
    rcases hb g q with q | q
    · exact h.h1.lab g q
    · exact h.lok.new q
  · rw [hob] at q
    rcases hb g q with q | q
    · exact h.ap g q z
    · have := own_ltI h.h2.own z
      omega
theorem OnM.cut (h : OnM w L wr A c xs A' c' ys) {m : Nat} (hm : m ≤ xs.length) : OnM w L wr A c (xs.take m) A' c' ys := by
  have hob : ∀ m, (Value.slice A m c).ownBlock = (Value.slice A xs.length c).ownBlock := fun m => by cases A <;> rfl
  have hl : (xs.take m).length = m := by rw [List.length_take]; omega
  refine ⟨h.lok, h.l0, h.kp, ⟨?_, fun g q => h.h1.lab g (by rw [hob] at q; exact q)⟩, h.h2, fun g q => h.ap g (by rw [hob] at q; exact q)⟩
  rw [hl, List.map_take]
  exact own_cutI h.h1.own hm
theorem OnM.set {g : Nat} (h : OnM w L wr (some ⟨g, 0, none⟩) c xs A' c' ys) (j : Nat) (v : Int) : OnM w L (wr.setCell ⟨g, j, none⟩ (.int .i64 v)) (some ⟨g, 0, none⟩) c (xs.set j v) A' c' ys := by
  have hk : Kp (OnB g) wr (wr.setCell ⟨g, j, none⟩ (.int .i64 v)) := (Kp.refl (OnB g) wr).setCell (p := ⟨g, j, none⟩) (.inr rfl) _
  have hge := own_ge h.h1.own g rfl
  refine ⟨h.lok.mono hk.size, h.l0, h.kp.trans hk (fun b hb q => by unfold OnB at q; omega), ⟨?_, fun g' q => h.h1.lab g' q⟩, ⟨own_keepB h.h2.own hk (fun g' q z => h.ap g rfl (by unfold OnB at z; rw [z] at q; exact q)), h.h2.lab⟩, fun g' q => h.ap g' q⟩
  rw [List.length_set, List.map_set]
  exact own_setI h.h1.own _
/-- the transaction stays where a row of the law's own changes -/
theorem Wr.row {t0 : Nat} {D : List (List Int)} {sv : List (List (List Int))} (h : Wr L wr t0 D sv) (hm : OnR L wr w.heap.size A c xs) (k : Kp (fun b => (Value.slice A xs.length c).ownBlock = some b) wr w') : Wr L w' t0 D sv :=
  h.keepC k (fun b q => hm.lab b q) (fun b ds hd q => by
    obtain ⟨cs, hc⟩ := own_type hm.own q
    rw [hd] at hc
    injection hc with hc
    injection hc with _ hc
    exact absurd hc (by decide))
end
/-! ### the plain state -/
structure OnP (D : List (List Int)) (held given : List Int) : Prop where
  rep : Rep D given.reverse ns0
  nd : (held ++ given).Nodup
  rng : ∀ n ∈ held ++ given, 2 ≤ n ∧ n ≤ (D.length : Int)
  cnt : held.length + given.length + 1 = D.length
theorem onp_new : OnP D1 [] [] := ⟨rep1, List.nodup_nil, fun n h => (by cases h), rfl⟩
theorem OnP.take_nil {D : List (List Int)} {held : List Int} (h : OnP D held []) (hl : D.length < 4096) : takeS D = (D ++ [zeros 256], (D.length : Int) + 1, 0) ∧ OnP (D ++ [zeros 256]) (held ++ [(D.length : Int) + 1]) [] ∧ ((D.length : Int) + 1) ∉ held := by
  have hr : Rep D [] ns0 := h.rep
  obtain ⟨e1, r1⟩ := hr.take_nil hl
  have hn : ((D.length : Int) + 1) ∉ held := fun q => by have := (h.rng _ (List.mem_append_left _ q)).2; omega
  refine ⟨e1, ⟨r1, ?_, fun n hn => ?_, ?_⟩, hn⟩
  · rw [List.append_nil]
    have := h.nd
    rw [List.append_nil] at this
    refine List.nodup_append.2 ⟨this, by simp, fun a ha b hb => ?_⟩
    rw [List.mem_singleton.1 hb]
    exact fun e => hn (e ▸ ha)
  · rw [List.append_nil] at hn
    rw [List.length_append]
    have hp := hr.pos
    rcases List.mem_append.1 hn with q | q
    · have := h.rng n (List.mem_append_left _ q)
      simp
      omega
    · rw [List.mem_singleton.1 q]
      simp
      omega
  · have := h.cnt
    simp at this ⊢
    omega
theorem OnP.take_cons {D : List (List Int)} {held g : List Int} {n : Int} (h : OnP D held (g ++ [n])) : ∃ D', takeS D = (D', n, 0) ∧ OnP D' (held ++ [n]) g ∧ D'.length = D.length ∧ n ∉ held ∧ 2 ≤ n ∧ n ≤ (D.length : Int) := by
  have hr : Rep D (n :: g.reverse) ns0 := by have := h.rep; rwa [List.reverse_append] at this
  obtain ⟨e1, r1⟩ := hr.take_cons
  have hnd := h.nd
  rw [← List.append_assoc] at hnd
  have hp : (held ++ [n] ++ g).Perm (held ++ g ++ [n]) := by
    rw [List.append_assoc, List.append_assoc]
    exact List.Perm.append_left _ List.perm_append_comm
  refine ⟨_, e1, ⟨r1, hp.nodup_iff.2 hnd, fun m hm => ?_, ?_⟩, by rw [List.length_set], fun q => ?_, h.rng n (by simp)⟩
  · rw [List.length_set]
    refine h.rng m ?_
    rw [← List.append_assoc]
    exact hp.mem_iff.1 hm
  · rw [List.length_set]
    have := h.cnt
    simp at this ⊢
    omega
  · exact (List.nodup_append.1 h.nd).2.2 n q n (by simp) rfl
theorem set_last {held : List Int} {i : Nat} (hi : i < held.length) : (((held.set i (held.getD (held.length - 1) 0)).take (held.length - 1)) ++ [held.getD i 0]).Perm held := by
  obtain ⟨ini, x, rfl⟩ : ∃ ini x, held = ini ++ [x] := ⟨held.dropLast, held.getLast (fun e => by rw [e] at hi; cases hi), (List.dropLast_concat_getLast _).symm⟩
  have hl : (ini ++ [x]).length - 1 = ini.length := by simp
  have hx : (ini ++ [x]).getD ini.length 0 = x := by simp
  rw [hl, hx]
  by_cases hlt : i < ini.length
  · rw [List.set_append_left _ _ hlt, List.take_left' (by simp), List.getD_eq_getElem?_getD, List.getElem?_append_left hlt, List.getElem?_eq_getElem hlt]
    show (ini.set i x ++ [ini[i]]).Perm (ini ++ [x])
    have e1 : ini = ini.take i ++ ini[i] :: ini.drop (i + 1) := by rw [← List.drop_eq_getElem_cons hlt, List.take_append_drop]
    have e2 : ini.set i x = ini.take i ++ x :: ini.drop (i + 1) := by rw [List.set_eq_take_append_cons_drop, if_pos hlt]
    rw [e2]
    conv => rhs; rw [e1]
    generalize ini.take i = a
    generalize ini.drop (i + 1) = b
    generalize ini[i] = y
    rw [List.append_assoc, List.append_assoc]
    refine List.Perm.append_left _ ?_
    show (x :: (b ++ [y])).Perm (y :: (b ++ [x]))
    exact (List.Perm.cons x (List.perm_append_singleton y b)).trans ((List.Perm.swap y x b).trans (List.Perm.cons y (List.perm_append_singleton x b).symm))
  · have e : i = ini.length := by simp at hi; omega
    subst e
    rw [List.set_append_right _ _ (Nat.le_refl _), Nat.sub_self, List.set_cons_zero, List.take_left' rfl, List.getD_eq_getElem?_getD, List.getElem?_append_right (Nat.le_refl _), Nat.sub_self]
    exact List.Perm.refl _
theorem OnP.give {D : List (List Int)} {held given : List Int} (h : OnP D held given) {i : Nat} (hi : i < held.length) :
    ∃ D', giveS D (held.getD i 0) = (D', 0) ∧ OnP D' ((held.set i (held.getD (held.length - 1) 0)).take (held.length - 1)) (given ++ [held.getD i 0]) ∧ D'.length = D.length := by
  have hmem : held.getD i 0 ∈ held := by rw [List.getD_eq_getElem?_getD, List.getElem?_eq_getElem hi]; exact List.getElem_mem hi
  have hr := h.rng _ (List.mem_append_left _ hmem)
  have hng : held.getD i 0 ∉ given := fun q => (List.nodup_append.1 h.nd).2.2 _ hmem _ q rfl
  obtain ⟨e1, r1⟩ := h.rep.give hr.1 hr.2 (by rw [List.mem_reverse]; exact hng)
  have hp := set_last hi
  generalize (held.set i (held.getD (held.length - 1) 0)).take (held.length - 1) = held' at hp ⊢
  generalize held.getD i 0 = n at *
  have hp2 : (held' ++ (given ++ [n])).Perm (held ++ given) := by
    have e : (held' ++ (given ++ [n])).Perm (held' ++ [n] ++ given) := by
      rw [List.append_assoc]
      exact List.Perm.append_left _ List.perm_append_comm
    exact e.trans (hp.append_right _)
  refine ⟨_, e1, ⟨by rw [List.reverse_append]; exact r1, hp2.nodup_iff.2 h.nd, fun m hm => ?_, ?_⟩, by rw [List.length_set, List.length_set]⟩
  · rw [List.length_set, List.length_set]
    exact h.rng m (hp2.mem_iff.1 hm)
  · rw [List.length_set, List.length_set]
    have h1 := hp2.length_eq
    have h2 := h.cnt
    simp at h1 ⊢
    omega
end Go.Proofs.YtoeldmkbmnkhkaaGreat
