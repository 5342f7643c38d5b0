/- Texts of this proof, one behind the other: lemmas and contracts; each says its own conditions. -/
import Derived.Test.YtegcbdfilkecpaaGreatQ11
import Derived.Test.YtegcbdfilkecpaaGreatQ16
import Derived.Test.YtegcbdfilkecpaaGreatQ17
import Derived.Test.YtegcbdfilkecpaaGreatQ18
namespace Go.Proofs.YtegcbdfilkecpaaGreat
section
open Go.RowKit
def IntoW (F : Nat → Value → Act) (G : World → Nat → Value → Prop) : Exit → Act → World → Prop
 | .normal, a, w => ∃ g v, a = F g v ∧ G w g v
 | _, _, _ => False
theorem wp_intoW {P : Program} {c : Code} {Q : Exit → Act → World → Prop} {a : Act} {w : World} (F : Nat → Value → Act) (G : World → Nat → Value → Prop) (h : c.wp P (IntoW F G) a w) (k : ∀ g v w', G w' g v → Q .normal (F g v) w') : c.wp P Q a w :=
 Code.wp_mono (fun e a w q => by cases e <;> first | exact q.elim | (obtain ⟨g, v, rfl, hg⟩ := q; exact k g v _ hg)) h
theorem intoW_of {F : Nat → Value → Act} {G : World → Nat → Value → Prop} {a : Act} {w : World} (g : Nat) (v : Value) (q : G w g v) (e : a = F g v) : IntoW F G .normal a w := ⟨g, v, e, q⟩
theorem own_lt {w : World} {base size n : Nat} {e : TypeId} {v : Value} {xs : List Value} (h : w.ownsRow base e size v n xs) : ∀ b, v.ownBlock = some b → b < w.heap.size := fun b hb => by
 rcases h.2 with ⟨rfl, _⟩ | ⟨g, cap, cur, rfl, _, hh, _⟩
 ·cases hb
 ·have e1 : g = b := by injection hb
  rw [← e1]
  exact lt_of_heap hh
def CkRel (S : Nat → Prop) (w3 : World) (db : Nat) (l : List Pg) (T : Pl × Int) (v6 v34 : Value) (wr : World) : Prop :=
 ∃ (i : Nat) (e : Int) (q : Pl), v34 = .int .i64 (i : Int) ∧ v6 = .int .i64 e ∧ i ≤ l.length ∧ Dq S w3 wr db q ∧ q.sm (20000 * (l.length - i) + 120000) ∧ T = if e = 0 then q.runS (homeW (l.drop i)) else (q, e)
theorem pgs_ownW {w : World} {n0 : Nat} {v : Value} {l : List Pg} (h : OwnPgs w n0 v l) {s : Nat} (hs : l.length = s) : ∃ A cap, v = .slice A s cap ∧ PgsAt w A s l ∧ (∀ g o, A = some ⟨g, o, none⟩ → n0 ≤ g) := by
 subst hs
 obtain ⟨A, cap, rfl⟩ := own_slice h.1
 refine ⟨A, cap, rfl, RowsC.own (base := n0) (cap := cap) (e := 49) ?_ (by simp) ?_, fun g o e => ?_⟩
 ·have h1 := h.1
  unfold pgsCells at h1
  rw [List.flatMap_def] at h1
  exact h1
 ·intro y hy
  obtain ⟨x, hx, rfl⟩ := List.mem_map.1 hy
  exact pgL_len (h.2 x hx)
 ·subst e
  rcases h.1.2 with ⟨h0, _⟩ | ⟨g', c, cur, hv, hb, _⟩
  ·cases h0
  ·injection hv with a b c
   injection a with a
   injection a with a b
   omega
theorem whome_len (p : Pl) (fs : List Fr) (m : Int) : (p.whome fs m).length ≤ (wcount p fs m).toNat := by
 unfold Pl.whome
 rw [List.length_map]
 exact Nat.le_trans (List.length_filter_le _ _) (by simp)
theorem wcheckS_eq (p : Pl) (fs : List Fr) (m : Int) : p.wcheckS fs m = (headS nmWal p.whead ++ homeW (p.whome fs m)) ++ ([⟨1, nmDb, wcount p fs m * 256, []⟩, ⟨2, nmDb, 0, []⟩] ++ if m = fs.length then headS nmWal ⟨0, 0, 0, 0⟩ else []) := by
 unfold Pl.wcheckS homeS
 simp only [List.append_assoc]
def CkPost (S : Nat → Prop) (w : World) (db : Nat) (p : Pl) (m : Int) (e : Ending) (w' : World) : Prop := e = .returned (.int .i64 (p.wcheck m).2) ∧ Dq S w w' db (p.wcheck m).1
section
variable {S : Nat → Prop} {w : World} {db : Nat} {p : Pl}
attribute [local go_sem ↓] loadPg storePg allocPg load26 store26 conv64 loadW4 storeW4
attribute [local go_sem] size_setCells
set_option maxRecDepth 100000 in
set_option maxHeartbeats 1600000 in
theorem wcheck_q (h : Dq S w w db p) (m : Int) (hm : p.sm 200000000) :
  Calls Tryz.prog 17 #[ptrV db, .int .i64 m] w (CkPost S w db p m) := by
 have H := zh h
 have HM := zh hm
 have HPST : Hid (∀ y q w', p.wcheck m = (q, y) → Dq S w w' db q → CkPost S w db p m (.returned (.int .i64 y)) w') := zh (fun y q w' e hd => by unfold CkPost; rw [e]; exact ⟨rfl, hd⟩)
 clear h hm
 obtain ⟨PP, hPP⟩ : ∃ PP, CkPost S w db p m = PP := ⟨_, rfl⟩
 rw [hPP] at HPST ⊢
 clear hPP
 unfold ptrV
 go_enter Tryz.func17, Tryz.ntmps17
 go_wp2_with fail
 refine (show Calls _ _ #[ptrV db, .int .i64 m] _ _ from asked_q H.out m).mono ?_
 rintro e w1 (⟨he, rfl, hk⟩ | ⟨he, lb, A, c, rfl, hl, hg, hk⟩)
 ·have HK := zh hk
  have he1 : (p.wopen.1 == 0) = false := by simpa using he
  have he2 : (p.wopen.1 != 0) = true := by simpa using he
  have HR : Hid (p.wcheck m = (p, p.wopen.1)) := zh (by unfold Pl.wcheck; rw [if_pos he])
  obtain ⟨e0, q0⟩ : ∃ e0, p.wopen.1 = e0 := ⟨_, rfl⟩
  rw [q0] at he1 he2 HR ⊢
  clear hk he q0
  go_wp2_with fail
  exact HPST.out _ _ _ HR.out (H.out.keep (HK.out.trans ((Kp.refl NoB w1).alloc _) (fun _ _ q => q)))
 ·have HK := zh hk
  have HL := zh hl
  have HE := zh he
  cases hmk : isMark p.wopen.2 m with
  | false =>
   have HR : Hid (p.wcheck m = (p, 4)) := zh (by unfold Pl.wcheck; rw [if_neg (by rw [he]; simp), if_pos hmk])
   rw [if_neg (by simp)]
   clear hk hl he hg hmk
   go_wp2_with fail
   exact HPST.out _ _ _ HR.out (H.out.keep (HK.out.trans ((Kp.refl NoB w1).alloc _) (fun _ _ q => q)))
  | true =>
   rw [if_pos rfl]
   by_cases h0 : m = 0
   ·have HR : Hid (p.wcheck m = (p, 0)) := zh (by unfold Pl.wcheck; rw [if_neg (by rw [he]; simp), if_neg (by rw [hmk]; simp), if_pos h0])
    have h01 : (m == 0) = true := by simpa using h0
    clear hk hl he hg hmk
    subst h0
    go_wp2_with fail
    exact HPST.out _ _ _ HR.out (H.out.keep (HK.out.trans ((Kp.refl NoB w1).alloc _) (fun _ _ q => q)))
   ·have HMK := zh hmk
    have h01 : (m == 0) = false := by simpa using h0
    obtain ⟨k, hmk2, hkl⟩ := mark_nat hmk
    have HWC : Hid (p.wcheck m = p.runS (p.wcheckS p.wopen.2 m)) := zh (by unfold Pl.wcheck; rw [if_neg (by rw [he]; simp), if_neg (by rw [hmk]; simp), if_neg h0])
    have HFL := zh (wopen_len he)
    have HRG : Hid (0 ≤ wcount p p.wopen.2 m ∧ wcount p p.wopen.2 m ≤ 4096) := zh (wcount_rng hl.ok (jcount_le H.out) hmk)
    have HLB : Hid (w.heap.size ≤ lb) := zh hg
    have hk0 : k ≠ 0 := fun e => h0 (by rw [hmk2, e]; rfl)
    subst hmk2
    have HKL := zh hkl
    clear hk hl he hg hmk h0 hkl
    dsimp only
    go_upto_region 4 with fail
    have hkL : Kp NoB w1 (w1.alloc (.cells #[.pointer (some ⟨lb, 0, none⟩)] 73)) := (Kp.refl NoB w1).alloc _
    have hbL : Blk (w1.alloc (.cells #[.pointer (some ⟨lb, 0, none⟩)] 73)) w1.heap.size 73 #[.pointer (some ⟨lb, 0, none⟩)] := Blk.new w1 73 #[.pointer (some ⟨lb, 0, none⟩)]
    generalize w1.alloc (.cells #[.pointer (some ⟨lb, 0, none⟩)] 73) = w2 at hkL hbL ⊢
    have HKW : Hid (Kp NoB w w2) := zh (HK.out.trans hkL (fun _ _ q => q))
    have HL2 : Hid (LgS w2 db lb p.whead A c p.wopen.2) := zh (HL.out.keep hkL)
    have HQ2 : Hid (Dq S w w2 db p) := zh (H.out.keep HKW.out)
    obtain ⟨B5, hb5⟩ : ∃ B5, w1.heap.size = B5 := ⟨_, rfl⟩
    rw [hb5] at hbL ⊢
    have HB5 : Hid (w.heap.size ≤ B5 ∧ B5 < w2.heap.size) := zh (by have := HK.out.size; have := hbL.lt; omega)
    have HBL := zh hbL
    obtain ⟨C, hC⟩ : ∃ C, wcount p p.wopen.2 (k : Int) = C := ⟨_, rfl⟩
    have HCC := zh hC
    obtain ⟨L, hL⟩ : ∃ L, p.whome p.wopen.2 (k : Int) = L := ⟨_, rfl⟩
    have HLL := zh hL
    clear hkL hbL hb5 hC hL
    apply wp_intoW (G := fun V g v => Blk V g 3 #[.int .i64 C] ∧ w2.heap.size ≤ g ∧ OwnPgs V w2.heap.size v L ∧ Kp NoB w2 V)
    ·refine wp_region_held_drew (S := fun V => Kp NoB w2 V) (by kernel_rfl) (Kp.refl NoB w2).drew (fun hHeld => ?_)
     have k0' : Kp NoB w2 w2.drew := (Kp.refl NoB w2).drew
     generalize w2.drew = V0 at k0' hHeld ⊢
     refine tkS (i := 0) (v := (.pointer (some ⟨lb, 0, none⟩))) rfl (Or.inl ⟨by rfl, fun w' hq => by have cc : w'.cell? ⟨B5, 0, none⟩ = some (.pointer (some ⟨lb, 0, none⟩)) := (hq.cell HBL.out.lt (fun q => q)).trans (HBL.out.cell 0); go_simp⟩) k0' ?_
     simp only [Act.put, sA, sB, sC]
     refine tkJ (i := 1) (v := (.int .i64 (k : Int))) rfl k0' ?_
     simp only [Act.put, sA, sB, sC]
     refine tkS (i := 3) (v := (.pointer (some ⟨lb, 0, none⟩))) rfl (Or.inl ⟨by rfl, fun w' hq => by have cc : w'.cell? ⟨B5, 0, none⟩ = some (.pointer (some ⟨lb, 0, none⟩)) := (hq.cell HBL.out.lt (fun q => q)).trans (HBL.out.cell 0); go_simp⟩) k0' ?_
     simp only [Act.put, sA, sB, sC]
     refine tkJ (i := 4) (v := (.int .i64 (k : Int))) rfl k0' ?_
     simp only [Act.put, sA, sB, sC]
     refine tkR [2, 6] ?_
     refine AllReadyH.callR (fun y W' => y = .int .i64 C ∧ W' = V0) rfl (by rfl) 33 #[.pointer (some ⟨lb, 0, none⟩), .int .i64 (k : Int)] (by first | (go_simp; done) | (go_simp; rfl)) (fun _ _ z => by rw [z.2]; exact k0') ((wcount_q (HQ2.out.keep k0') (HL2.out.keep k0') _ HMK.out).mono (by rintro e w19 ⟨rfl, hw⟩; exact ⟨_, rfl, by rw [HCC.out], hw.symm⟩)) ?_ ?_
     ·rintro y V0 ⟨rfl, rfl⟩
      simp only [Act.put, sA, sB, sC]
      refine tkR [5, 6] ?_
      refine AllReadyH.callR (fun y W' => OwnPgs W' w2.heap.size y L ∧ Kp NoB V0 W') rfl (by rfl) 48 #[.pointer (some ⟨lb, 0, none⟩), .int .i64 (k : Int)] (by first | (go_simp; done) | (go_simp; rfl)) (fun _ _ z => (k0').trans z.2 (fun _ _ q => q)) ((whome_q (HQ2.out.keep k0') (HL2.out.keep k0') k HKL.out HMK.out HFL.out).mono (by rintro e w19 ⟨v, rfl, ho, hk⟩; rw [HLL.out] at ho; exact ⟨v, rfl, ⟨ho.1.mono (Kp.size k0'), ho.2⟩, hk⟩)) ?_ ?_
      ·rintro yv V1 ⟨hoy0, kk1⟩
       have k1 := k0'.trans kk1 (fun _ _ q => q)
       simp only [Act.put, sA, sB, sC]
       refine tkR [6] ?_
       refine AllReadyH.valR (fun W' => W' = V1.alloc (.cells #[.int .i64 0] 3)) rfl (by rfl) _ _ (allocIntW V1 _ _ _ _ _ _) (fun W' e => by rw [e]; exact (k1).alloc _) rfl ?_ AllReadyH.nil
       rintro _ rfl
       have hbA : Blk (V1.alloc (.cells #[.int .i64 0] 3)) V1.heap.size 3 #[.int .i64 0] := Blk.new _ _ _
       have k2 : Kp NoB w2 (V1.alloc (.cells #[.int .i64 0] 3)) := k1.alloc _
       have hoy : OwnPgs (V1.alloc (.cells #[.int .i64 0] 3)) w2.heap.size yv L := ⟨own_keepB hoy0.1 ((Kp.refl NoB V1).alloc _) (fun _ _ q => q), hoy0.2⟩
       have hgA : w2.heap.size ≤ V1.heap.size := k1.size
       have hny : ∀ b, yv.ownBlock = some b → b ≠ V1.heap.size := fun b hb e => by have := own_lt hoy0.1 b hb; omega
       generalize V1.alloc (.cells #[.int .i64 0] 3) = V2 at hbA k2 hoy ⊢
       generalize V1.heap.size = gA at hbA hgA hny ⊢
       simp only [Act.put, sA, sB, sC]
       refine tkR [7] ?_
       have kst : Kp NoB w2 (V2.setCell ⟨gA, 0, none⟩ (.int .i64 C)) := (k2).setCell (p := ⟨gA, 0, none⟩) (.inl hgA) _
       refine AllReadyH.skipR rfl (by rfl) _ (stIntW hbA _ rfl rfl) kst ?_ AllReadyH.nil
       have hbF := hbA.set_ 0 (.int .i64 C)
       have hoF : OwnPgs (V2.setCell ⟨gA, 0, none⟩ (.int .i64 C)) w2.heap.size yv L := ⟨own_keepB hoy.1 ((Kp.refl (OnB gA) _).setCell (p := ⟨gA, 0, none⟩) (.inr rfl) _) (fun b hb q => hny b hb q), hoy.2⟩
       generalize V2.setCell ⟨gA, 0, none⟩ (.int .i64 C) = WE at hbF hoF kst ⊢
       refine tkJ (i := 8) (v := yv) rfl kst ?_
       simp only [Act.put, sA, sB, sC]
       refine wpAnyH_done (by kernel_rfl) ?_ _
       exact intoW_of gA yv ⟨hbF, hgA, hoF, kst⟩ rfl
      ·refine AllReadyH.valR (fun W' => W' = V0.alloc (.cells #[.int .i64 0] 3)) rfl (by rfl) _ _ (allocIntW V0 _ _ _ _ _ _) (fun W' e => by rw [e]; exact (k0').alloc _) rfl ?_ AllReadyH.nil
       rintro _ rfl
       have hbA0 : Blk (V0.alloc (.cells #[.int .i64 0] 3)) V0.heap.size 3 #[.int .i64 0] := Blk.new _ _ _
       have k1 : Kp NoB w2 (V0.alloc (.cells #[.int .i64 0] 3)) := k0'.alloc _
       have hgA : w2.heap.size ≤ V0.heap.size := k0'.size
       generalize V0.alloc (.cells #[.int .i64 0] 3) = V1 at hbA0 k1 ⊢
       generalize V0.heap.size = gA at hbA0 hgA ⊢
       simp only [Act.put, sA, sB, sC]
       refine tkR [5] ?_
       refine AllReadyH.callR (fun y W' => OwnPgs W' w2.heap.size y L ∧ (∀ b, y.ownBlock = some b → b ≠ gA) ∧ Kp NoB V1 W') rfl (by rfl) 48 #[.pointer (some ⟨lb, 0, none⟩), .int .i64 (k : Int)] (by first | (go_simp; done) | (go_simp; rfl)) (fun _ _ z => (k1).trans z.2.2 (fun _ _ q => q)) ((whome_q (HQ2.out.keep k1) (HL2.out.keep k1) k HKL.out HMK.out HFL.out).mono (by rintro e w19 ⟨v, rfl, ho, hk⟩; rw [HLL.out] at ho; exact ⟨v, rfl, ⟨ho.1.mono (Kp.size k1), ho.2⟩, (fun b hb e => by have h1 := own_ge ho.1 b hb; have h2 := hbA0.lt; omega), hk⟩)) ?_ AllReadyH.nil
       rintro yv V2 ⟨hoy, hny, kk2⟩
       have k2 := k1.trans kk2 (fun _ _ q => q)
       have hbA := hbA0.keep kk2 (fun q => q)
       simp only [Act.put, sA, sB, sC]
       refine tkR [7] ?_
       have kst : Kp NoB w2 (V2.setCell ⟨gA, 0, none⟩ (.int .i64 C)) := (k2).setCell (p := ⟨gA, 0, none⟩) (.inl hgA) _
       refine AllReadyH.skipR rfl (by rfl) _ (stIntW hbA _ rfl rfl) kst ?_ AllReadyH.nil
       have hbF := hbA.set_ 0 (.int .i64 C)
       have hoF : OwnPgs (V2.setCell ⟨gA, 0, none⟩ (.int .i64 C)) w2.heap.size yv L := ⟨own_keepB hoy.1 ((Kp.refl (OnB gA) _).setCell (p := ⟨gA, 0, none⟩) (.inr rfl) _) (fun b hb q => hny b hb q), hoy.2⟩
       generalize V2.setCell ⟨gA, 0, none⟩ (.int .i64 C) = WE at hbF hoF kst ⊢
       refine tkJ (i := 8) (v := yv) rfl kst ?_
       simp only [Act.put, sA, sB, sC]
       refine wpAnyH_done (by kernel_rfl) ?_ _
       exact intoW_of gA yv ⟨hbF, hgA, hoF, kst⟩ rfl
     ·refine AllReadyH.valR (fun W' => W' = V0.alloc (.cells #[.int .i64 0] 3)) rfl (by rfl) _ _ (allocIntW V0 _ _ _ _ _ _) (fun W' e => by rw [e]; exact (k0').alloc _) rfl ?_ AllReadyH.nil
      rintro _ rfl
      have hbA0 : Blk (V0.alloc (.cells #[.int .i64 0] 3)) V0.heap.size 3 #[.int .i64 0] := Blk.new _ _ _
      have k1 : Kp NoB w2 (V0.alloc (.cells #[.int .i64 0] 3)) := k0'.alloc _
      have hgA : w2.heap.size ≤ V0.heap.size := k0'.size
      generalize V0.alloc (.cells #[.int .i64 0] 3) = V1 at hbA0 k1 ⊢
      generalize V0.heap.size = gA at hbA0 hgA ⊢
      simp only [Act.put, sA, sB, sC]
      refine tkR [2] ?_
      refine AllReadyH.callR (fun y W' => y = .int .i64 C ∧ W' = V1) rfl (by rfl) 33 #[.pointer (some ⟨lb, 0, none⟩), .int .i64 (k : Int)] (by first | (go_simp; done) | (go_simp; rfl)) (fun _ _ z => by rw [z.2]; exact k1) ((wcount_q (HQ2.out.keep k1) (HL2.out.keep k1) _ HMK.out).mono (by rintro e w19 ⟨rfl, hw⟩; exact ⟨_, rfl, by rw [HCC.out], hw.symm⟩)) ?_ AllReadyH.nil
      rintro y V1 ⟨rfl, rfl⟩
      simp only [Act.put, sA, sB, sC]
      refine tkR [5] ?_
      refine AllReadyH.callR (fun y W' => OwnPgs W' w2.heap.size y L ∧ (∀ b, y.ownBlock = some b → b ≠ gA) ∧ Kp NoB V1 W') rfl (by rfl) 48 #[.pointer (some ⟨lb, 0, none⟩), .int .i64 (k : Int)] (by first | (go_simp; done) | (go_simp; rfl)) (fun _ _ z => (k1).trans z.2.2 (fun _ _ q => q)) ((whome_q (HQ2.out.keep k1) (HL2.out.keep k1) k HKL.out HMK.out HFL.out).mono (by rintro e w19 ⟨v, rfl, ho, hk⟩; rw [HLL.out] at ho; exact ⟨v, rfl, ⟨ho.1.mono (Kp.size k1), ho.2⟩, (fun b hb e => by have h1 := own_ge ho.1 b hb; have h2 := hbA0.lt; omega), hk⟩)) ?_ AllReadyH.nil
      rintro yv V2 ⟨hoy, hny, kk2⟩
      have k2 := k1.trans kk2 (fun _ _ q => q)
      have hbA := hbA0.keep kk2 (fun q => q)
      simp only [Act.put, sA, sB, sC]
      refine tkR [7] ?_
      have kst : Kp NoB w2 (V2.setCell ⟨gA, 0, none⟩ (.int .i64 C)) := (k2).setCell (p := ⟨gA, 0, none⟩) (.inl hgA) _
      refine AllReadyH.skipR rfl (by rfl) _ (stIntW hbA _ rfl rfl) kst ?_ AllReadyH.nil
      have hbF := hbA.set_ 0 (.int .i64 C)
      have hoF : OwnPgs (V2.setCell ⟨gA, 0, none⟩ (.int .i64 C)) w2.heap.size yv L := ⟨own_keepB hoy.1 ((Kp.refl (OnB gA) _).setCell (p := ⟨gA, 0, none⟩) (.inr rfl) _) (fun b hb q => hny b hb q), hoy.2⟩
      generalize V2.setCell ⟨gA, 0, none⟩ (.int .i64 C) = WE at hbF hoF kst ⊢
      refine tkJ (i := 8) (v := yv) rfl kst ?_
      simp only [Act.put, sA, sB, sC]
      refine wpAnyH_done (by kernel_rfl) ?_ _
      exact intoW_of gA yv ⟨hbF, hgA, hoF, kst⟩ rfl
    rintro B7 v8 w3 ⟨hb7, hg7, ho7, hk7⟩
    have HCR : Hid (0 ≤ C ∧ C ≤ 4096) := zh (by rw [← HCC.out]; exact HRG.out)
    have HPO : Hid (PgsOk L) := zh ⟨ho7.2, fun x hx => by
     rw [← HLL.out] at hx
     obtain ⟨h1, h2, -⟩ := (whome_mem _ _ _ _).1 hx
     rw [HCC.out] at h2
     have := HCR.out
     omega⟩
    obtain ⟨N, hN⟩ : ∃ N, L.length = N := ⟨_, rfl⟩
    have HLN := zh hN
    have HN4 : Hid (N ≤ 4096) := zh (by
     have h1 := whome_len p p.wopen.2 (k : Int)
     rw [HCC.out, HLL.out, hN] at h1
     have := HCR.out
     omega)
    obtain ⟨A8, c8, rfl, hpg, hpa⟩ := pgs_ownW ho7 hN
    have HPG := zh hpg
    have HKW3 : Hid (Kp NoB w w3) := zh (HKW.out.trans hk7 (fun _ _ q => q))
    have HAP : Hid (Apart S A8 N) := zh (fun g o e hn q => by have := H.out.lt _ q; have := hpa g o e; have := HKW.out.size; omega)
    have H3 : Hid (Dq S w3 w3 db p) := zh (H.out.base1 HKW3.out)
    have HLG : Hid (Blk w3 lb 83 (lgC db p.whead A p.wopen.2.length c)) := zh (HL2.out.b.keep hk7 (fun q => q))
    have HB53 := zh (HBL.out.keep hk7 (fun q => q))
    have HB73 := zh hb7
    have HNL : Hid (¬ S lb ∧ ¬ S B5 ∧ ¬ S B7) := zh (by
     have h1 := H.out.lt
     have h2 := HB5.out
     have h3 := HKW.out.size
     have h4 := HLB.out
     exact ⟨fun q => by have := h1 _ q; omega, fun q => by have := h1 _ q; omega, fun q => by have := h1 _ q; omega⟩)
    have c5 := HB53.out.cell 0
    clear hb7 hg7 ho7 hk7 hN hpg hpa
    go_wp2_with fail
    refine (wheal_q H3.out HLG.out HNL.out.1 (sm_mono HM.out (by omega))).mono ?_
    rintro e w4 ⟨rfl, h4⟩
    obtain ⟨T, hT⟩ : ∃ T, p.runS (headS nmWal p.whead ++ homeW L) = T := ⟨_, rfl⟩
    have HT := zh hT
    have hT2 := hT
    rw [runS_append] at hT2
    have HM1 : Hid ((p.runS (headS nmWal p.whead)).1.sm (20000 * (L.length - 0) + 120000)) := zh (sm_run (headS nmWal p.whead) (k := 20000 * (L.length - 0) + 120000) (sm_mono HM.out (by have := HN4.out; have := HLN.out; simp [headS]; omega)))
    obtain ⟨R0, hR0⟩ : ∃ R0, p.runS (headS nmWal p.whead) = R0 := ⟨_, rfl⟩
    rw [hR0] at h4 hT2 HM1 ⊢
    obtain ⟨q0, e0⟩ := R0
    dsimp only at h4 hT2 HM1 ⊢
    have HSTART : Hid (CkRel S w3 db L T (.int .i64 e0) (.int .i64 0) w4) := zh ⟨0, e0, q0, rfl, rfl, Nat.zero_le _, h4, HM1.out, hT2.symm⟩
    clear h4 hT hT2 hR0 c5
    go_wp2_with fail
    go_loopw [6, 34] (fun v6 v34 wr => CkRel S w3 db L T v6 v34 wr) (fun _ v _ => N - (intOf v).toNat)
    case atStart => exact HSTART.out
    case round =>
     obtain ⟨wq, rfl⟩ : ∃ wq, wq = wr := ⟨_, rfl⟩
     obtain ⟨i, e, q, rfl, rfl, hi, hq, hqm, hTe⟩ := hrel
     have hN5 : N ≤ 4096 := HN4.out
     have HQ := zh hq
     have HQM := zh hqm
     have HTE := zh hTe
     have hlr : PgsAt wq A8 N L := RowsC.keepS HPG.out hq.kp (fun g o e hn => HAP.out g o e hn)
     have HB5q := zh (HB53.out.keep hq.kp HNL.out.2.1)
     have HLGq := zh (HLG.out.keep hq.kp HNL.out.1)
     have HB7q := zh (HB73.out.keep hq.kp HNL.out.2.2)
     by_cases hlt : i < N
     ·have hii : (i : Int) < (N : Int) := by omega
      obtain ⟨g, o, rfl, hg, t1, r1⟩ := hlr.at_ i hlt
      obtain ⟨x, hx⟩ : ∃ x, L[i]? = some x := ⟨_, List.getElem?_eq_getElem (by rw [HLN.out]; exact hlt)⟩
      have hxe : L[i]'(by rw [HLN.out]; exact hlt) = x := (List.getElem?_eq_some_iff.1 hx).2
      rw [hxe] at r1
      have hxm : x ∈ L := List.mem_of_getElem? hx
      have hxo := HPO.out.ok x hxm
      have hxn := HPO.out.n x hxm
      have hdr : L.drop i = x :: L.drop (i + 1) := by rw [← hxe]; exact List.drop_eq_getElem_cons (by rw [HLN.out]; exact hlt)
      have HDR := zh hdr
      have hb := Blk.new wq 49 (pgA ⟨0, zeros 256⟩)
      have hb2 := hb.whole (pgA x) (by rw [pgA_size hxo]; rfl)
      have t2 := hb.thereAll 257 rfl
      have o1 := pgA_ones x
      have s1 := pgA_size hxo
      have hc0 := hb2.cell 0
      rw [show (pgA x)[0]? = some (.int .i64 x.n) from rfl] at hc0
      obtain ⟨hby, hrd⟩ := pg_by hb2 hxo
      have hk3 : Kp NoB wq ((wq.alloc (.cells (pgA ⟨0, zeros 256⟩) 49)).setCells wq.heap.size 0 (pgA x).toList) := Kp.setCells (.inl (Nat.le_refl _)) _ _ _ ((Kp.refl _ _).alloc _)
      have HK3 := zh hk3
      have HXO := zh hxo
      have HXN := zh hxn
      by_cases he0 : e = 0
      ·subst he0
       have HTE1 : Hid (T = q.runS (homeW (L.drop i))) := zh (by have h5 := HTE.out; rw [if_pos rfl] at h5; exact h5)
       have hG : wq.heap.size < ((wq.alloc (.cells (pgA ⟨0, zeros 256⟩) 49)).setCells wq.heap.size 0 (pgA x).toList).heap.size := by rw [size_setCells]; simp
       have HG := zh hG
       generalize hRR : pgA x = RR at r1 o1 s1 hc0 hby hrd HK3 HG ⊢
       clear hRR hk3 hxo hxn hq hqm hTe hlr hb hb2 hG hx hxe hxm hdr
       go_upto_region 10 with fail
       generalize hW3 : (wq.alloc (.cells (pgA ⟨0, zeros 256⟩) 49)).setCells wq.heap.size 0 RR.toList = w5 at hc0 hby hrd HK3 HG ⊢
       obtain ⟨G, hGG⟩ : ∃ G, wq.heap.size = G := ⟨_, rfl⟩
       rw [hGG] at hc0 hby hrd HG ⊢
       have HGG := zh hGG
       clear hGG hW3 t2 t1 r1
       have hwn : IntKind.i64.wrap (x.n - 1) = x.n - 1 := by have := HXN.out; rw [IntKind.wrap_i64]; omega
       have hwm : IntKind.i64.wrap ((x.n - 1) * 256) = (x.n - 1) * 256 := by have := HXN.out; rw [IntKind.wrap_i64]; omega
       have HSZ : Hid ((strOf x.b).size ≤ maxLen) := zh (by rw [strOf_size, HXO.out.len]; decide)
       have HSI : Hid (strI (strOf x.b) = x.b) := zh (strI_strOf _ HXO.out.rng)
       obtain ⟨S2, hq2, hS2⟩ := HQ.out.base
       have HQ2b := zh hq2
       have HS2 := zh hS2
       have H5 := zh (hq2.base1 HK3.out.drew)
       have HM2 := zh (sm_mono HQM.out (show 20000 ≤ 20000 * (L.length - i) + 120000 by omega))
       have hcB : w5.cell? ⟨B5, 0, none⟩ = some (.pointer (some ⟨lb, 0, none⟩)) := (HB5q.out.keep HK3.out (fun q => q)).cell 0
       have hcd : w5.cell? ⟨lb, 0, none⟩ = some (.pointer (some ⟨db, 0, none⟩)) := (HLGq.out.keep HK3.out (fun q => q)).cell 0
       have HCB := zh hcB
       have HCD := zh hcd
       have HC0 := zh hc0
       have HBY := zh hby
       have HRD := zh hrd
       obtain ⟨xn, hxn⟩ : ∃ xn, x.n = xn := ⟨_, rfl⟩
       obtain ⟨xb, hxb⟩ : ∃ xb, x.b = xb := ⟨_, rfl⟩
       rw [hxn] at hc0 hwn hwm HC0
       rw [hxb] at hrd HSZ HSI HRD
       have HXN2 := zh hxn
       have HXB2 := zh hxb
       have HNS2 : Hid (¬ S2 lb ∧ ¬ S2 B5 ∧ ¬ S2 G) := zh ⟨fun z => by
         rcases hS2 _ z with y | y
         ·exact HNL.out.1 y
         ·have := HLG.out.lt; omega, fun z => by
         rcases hS2 _ z with y | y
         ·exact HNL.out.2.1 y
         ·have := HB53.out.lt; omega, fun z => by have := hq2.lt _ z; have := HGG.out; omega⟩
       clear hq2 hS2 hxn hxb
       go_region_held3 (fun w' => w'.cell? ⟨B5, 0, none⟩ = some (.pointer (some ⟨lb, 0, none⟩)) ∧ w'.cell? ⟨lb, 0, none⟩ = some (.pointer (some ⟨db, 0, none⟩)) ∧ w'.cell? ⟨G, 0, none⟩ = some (.int .i64 xn) ∧ byAt w' G 1 256 ∧ byRd w' G 1 256 = xb)
        (first | exact ⟨hcB, hcd, hc0, hby, hrd⟩ | exact ⟨heB, he1, he0, he2⟩ | go_keep)
        (first
         | (go_at_call 25; go_must (refine (show Calls _ _ #[ptrV db, .string nmDb, .int .i64 ((xn - 1) * 256), .string (strOf xb)] _ _ from write_q H5.out nmDb ((xn - 1) * 256) (strOf xb) nmDb_le HSZ.out HM2.out).mono ?_); rintro e w6 ⟨rfl, h6⟩; rw [HSI.out] at h6; rw [HSI.out]; have H6 := zh h6
            have heB := (h6.kp.cell (block_lt_of_cell HCB.out) HNS2.out.2.1).trans HCB.out
            have he1 := (h6.kp.cell (block_lt_of_cell HCD.out) HNS2.out.1).trans HCD.out
            have he0 := (h6.kp.cell HG.out HNS2.out.2.2).trans HC0.out
            have he2 := by_keep h6.kp HG.out HNS2.out.2.2 HBY.out HRD.out
            clear h6))
       have h61 := Dq.tr (w0 := w3) H6.out (HQ.out.kp.trans HK3.out.drew (fun _ _ z => z.elim)) HS2.out HQ.out.lt
       have H61 := zh h61
       have HMW : Hid ((q.write nmDb ((xn - 1) * 256) xb).sm (20000 * (L.length - (i + 1)) + 120000)) := zh (sm_write _ _ _ (sm_mono HQM.out (by have := HLN.out; omega)))
       have HTN : Hid (T = if q.writeE nmDb ((xn - 1) * 256) xb = 0 then (q.write nmDb ((xn - 1) * 256) xb).runS (homeW (L.drop (i + 1))) else (q.write nmDb ((xn - 1) * 256) xb, q.writeE nmDb ((xn - 1) * 256) xb)) := zh (by
        rw [HTE1.out, HDR.out]
        show q.runS (⟨0, nmDb, (x.n - 1) * 256, x.b⟩ :: homeW (L.drop (i + 1))) = _
        rw [runS_cons, stE0, stP0, HXN2.out, HXB2.out])
       clear heB he1 he0 he2 hcB hcd hc0 hby hrd h61
       obtain ⟨er, her⟩ : ∃ er, q.writeE nmDb ((xn - 1) * 256) xb = er := ⟨_, rfl⟩
       obtain ⟨qw, hqw⟩ : ∃ qw, q.write nmDb ((xn - 1) * 256) xb = qw := ⟨_, rfl⟩
       rw [her, hqw] at HTN
       rw [hqw] at HMW H61
       rw [her]
       clear her hqw
       have HREL : Hid (CkRel S w3 db L T (.int .i64 er) (.int .i64 ((i : Int) + 1)) w6) := zh ⟨i + 1, er, qw, rfl, rfl, by have := HLN.out; omega, H61.out, HMW.out, HTN.out⟩
       go_wp2_with fail
       go_roundw
       case rel => exact HREL.out
       case measure => simp [intOf]; omega
      ·have he1 : (e == 0) = false := by simpa using he0
       have HREL : Hid (CkRel S w3 db L T (.int .i64 e) (.int .i64 ((i : Int) + 1)) ((wq.alloc (.cells (pgA ⟨0, zeros 256⟩) 49)).setCells wq.heap.size 0 (pgA x).toList)) := zh ⟨i + 1, e, q, rfl, rfl, by have := HLN.out; omega, hq.keep hk3, sm_mono hqm (by have := HLN.out; omega), by rw [hTe, if_neg he0, if_neg he0]⟩
       generalize hRR : pgA x = RR at r1 o1 s1 HREL ⊢
       clear hRR hk3 hxo hxn hq hqm hTe hlr hb hb2 hx hxe hxm hdr hc0 hby hrd HK3 he0
       go_wp2_with fail
       go_roundw
       case rel => exact HREL.out
       case measure => simp [intOf]; omega
     ·have hii : ¬ (i : Int) < (N : Int) := by omega
      obtain rfl : i = N := by have := HLN.out; omega
      have hTq : T = (q, e) := by
       rw [hTe, List.drop_eq_nil_iff.2 (by rw [HLN.out]; exact Nat.le_refl _)]
       by_cases h0 : e = 0
       ·rw [if_pos h0, h0]; rfl
       ·rw [if_neg h0]
      have HTQ := zh hTq
      have HWE : Hid (p.wcheck (k : Int) = if e = 0 then q.runS ([⟨1, nmDb, C * 256, []⟩, ⟨2, nmDb, 0, []⟩] ++ if (k : Int) = p.wopen.2.length then headS nmWal ⟨0, 0, 0, 0⟩ else []) else (q, e)) := zh (by
       rw [HWC.out, wcheckS_eq, HLL.out, HCC.out, runS_append, HT.out, hTq])
      clear hTe hTq hlr
      by_cases he0 : e = 0
      ·subst he0
       have HW1 : Hid (p.wcheck (k : Int) = q.runS ([⟨1, nmDb, C * 256, []⟩, ⟨2, nmDb, 0, []⟩] ++ if (k : Int) = p.wopen.2.length then headS nmWal ⟨0, 0, 0, 0⟩ else [])) := zh (by have h5 := HWE.out; rw [if_pos rfl] at h5; exact h5)
       obtain ⟨S2, hq2, hS2⟩ := HQ.out.base
       have HQ2b := zh hq2
       have HS2 := zh hS2
       have HNS2 : Hid (¬ S2 lb ∧ ¬ S2 B5 ∧ ¬ S2 B7) := zh ⟨fun z => by
         rcases hS2 _ z with y | y
         ·exact HNL.out.1 y
         ·have := HLG.out.lt; omega, fun z => by
         rcases hS2 _ z with y | y
         ·exact HNL.out.2.1 y
         ·have := HB53.out.lt; omega, fun z => by
         rcases hS2 _ z with y | y
         ·exact HNL.out.2.2 y
         ·have := HB73.out.lt; omega⟩
       have HCK : Hid (CkK db lb p.whead A c p.wopen.2.length B5 B7 C S2 wq) := zh ⟨⟨HLGq.out, HNS2.out.1⟩, ⟨HB5q.out, HNS2.out.2.1⟩, HB7q.out, HNS2.out.2.2⟩
       have HM2 := zh (sm_mono hqm (show 120000 ≤ 20000 * (L.length - i) + 120000 by omega))
       clear hq hqm hq2 hS2
       go_wp2_with fail
       refine (wck_all HQ2b.out p.wopen.2.length B5 B7 C HCR.out HCK.out (sm_mono HM2.out (by omega))).mono ?_
       rintro e w7 ⟨rfl, h7⟩
       obtain ⟨U, hU⟩ : ∃ U, q.runS [⟨1, nmDb, C * 256, []⟩, ⟨2, nmDb, 0, []⟩] = U := ⟨_, rfl⟩
       have HMU : Hid (U.1.sm 80000) := zh (by rw [← hU]; exact sm_run [⟨1, nmDb, C * 256, []⟩, ⟨2, nmDb, 0, []⟩] (k := 80000) (sm_mono HM2.out (by simp)))
       have HW2 : Hid (p.wcheck (k : Int) = if U.2 = 0 then U.1.runS (if (k : Int) = p.wopen.2.length then headS nmWal ⟨0, 0, 0, 0⟩ else []) else U) := zh (by rw [HW1.out, runS_append, hU])
       rw [hU] at h7 ⊢
       have H7 := zh h7
       have H73 : Hid (Dq S w3 w7 db U.1) := zh (Dq.tr (w0 := w3) h7 HQ.out.kp HS2.out HQ.out.lt)
       have c5 := (HB5q.out.keep h7.kp HNS2.out.2.1).cell 0
       have cl5 := (HLGq.out.keep h7.kp HNS2.out.1).cell 5
       have HFIN : Hid (∀ q' w', Dq S w3 w' db q' → Dq S w w' db q') := zh (fun q' w' hd => Dq.up (H.out.base1 HKW3.out) HKW3.out H.out.lt hd)
       clear h7 hU
       obtain ⟨u, ue⟩ := U
       dsimp only at HMU HW2 H7 H73 ⊢
       by_cases hu : ue = 0
       ·subst hu
        by_cases hkk : k = p.wopen.2.length
        ·have HW3 : Hid (p.wcheck (k : Int) = u.runS (headS nmWal ⟨0, 0, 0, 0⟩)) := zh (by rw [HW2.out, if_pos rfl, if_pos (by omega)])
         have HLG7 := zh (HLGq.out.keep H7.out.kp HNS2.out.1)
         obtain ⟨S3, h8, hS3⟩ := H7.out.base
         have H8 := zh h8
         have HS3 := zh hS3
         have HN3 : Hid (¬ S3 lb) := zh (fun z => by
          rcases hS3 _ z with y | y
          ·exact HNS2.out.1 y
          ·have := HLGq.out.lt; omega)
         have cl6 : w7.cell? ⟨lb, 5, none⟩ = some (.slice A k c) := by rw [hkk]; exact cl5
         clear h8 hS3 cl5 hkk
         go_wp2_with fail
         refine (show Calls _ _ #[_, .agg (w4A ⟨0, 0, 0, 0⟩)] _ _ from wseal_q H8.out (HLG7.out.cell 0) HN3.out ⟨0, 0, 0, 0⟩ (sm_mono HMU.out (by omega))).mono ?_
         rintro e w9 ⟨rfl, h9⟩
         have H9 : Hid (Dq S w w9 db (u.runS (headS nmWal ⟨0, 0, 0, 0⟩)).1) := zh (HFIN.out _ _ (Dq.tr (w0 := w3) (Dq.tr (w0 := wq) h9 H7.out.kp HS3.out H7.out.lt) HQ.out.kp HS2.out HQ.out.lt))
         obtain ⟨RU, hRU⟩ : ∃ RU, u.runS (headS nmWal ⟨0, 0, 0, 0⟩) = RU := ⟨_, rfl⟩
         rw [hRU] at H9 HW3 ⊢
         clear h9 hRU
         obtain ⟨ru, re⟩ := RU
         go_wp2_with fail
         exact HPST.out _ _ _ HW3.out H9.out
        ·have HW3 : Hid (p.wcheck (k : Int) = (u, 0)) := zh (by rw [HW2.out, if_pos rfl, if_neg (by omega)]; rfl)
         obtain ⟨NL, hNL⟩ : ∃ NL, p.wopen.2.length = NL := ⟨_, rfl⟩
         have cl6 : w7.cell? ⟨lb, 5, none⟩ = some (.slice A NL c) := by rw [← hNL]; exact cl5
         have hbk : ((k : Int) == (NL : Int)) = false := by
          rw [beq_eq_false_iff_ne]
          omega
         have hbn : ¬ k = NL := fun e => hkk (e.trans hNL.symm)
         clear cl5 hNL hkk
         go_wp2_with fail
         exact HPST.out _ _ _ HW3.out (HFIN.out _ _ H73.out)
       ·have HW3 : Hid (p.wcheck (k : Int) = (u, ue)) := zh (by rw [HW2.out, if_neg hu])
        have hu1 : (ue == 0) = false := by simpa using hu
        have hu2 : (ue != 0) = true := by simpa using hu
        clear hu
        go_wp2_with fail
        exact HPST.out _ _ _ HW3.out (HFIN.out _ _ H73.out)
      ·have HW1 : Hid (p.wcheck (k : Int) = (q, e)) := zh (by have h5 := HWE.out; rw [if_neg he0] at h5; exact h5)
       have he1 : (e == 0) = false := by simpa using he0
       have he2 : (e != 0) = true := by simpa using he0
       have HF : Hid (Dq S w wq db q) := zh (Dq.up (H.out.base1 HKW3.out) HKW3.out H.out.lt hq)
       clear hq hqm he0
       go_wp2_with fail
       exact HPST.out _ _ _ HW1.out HF.out
end
end
section
open Go.RowKit
structure JOp where
 do_ : Int
 n : Int
 at_ : Int
 count : Int
 pages : List Pg
 chs : List Int
 data : ByteArray
def wop (p : Pl) (x : JOp) : Pl :=
 if x.do_ = 0 then (p.wcommit x.count x.pages).1 else if x.do_ = 1 then (p.wcheck x.n).1 else if x.do_ = 2 then p else if x.do_ = 3 then p.setRoom x.n else
 if x.do_ = 4 then p.crashIn x.n else if x.do_ = 5 then p.crashNow.restart x.chs else if x.do_ = 6 then p.write (if x.n = 0 then nmDb else nmWal) x.at_ (strI x.data) else p
theorem newFr_lenR (c : Int) (l : List Pg) : (newFr c l).length ≤ l.length + 1 := by
 obtain ⟨init, f, e1, e2⟩ := newFr_cut c l
 have h := rawN_len l
 rw [e1] at h
 rw [e2]
 simpa using h
theorem sm_wcommitG {p : Pl} {k : Nat} {c : Int} {l : List Pg} (hl : l.length ≤ 60) (h : p.sm (k + 400000000)) : (p.wcommit c l).1.sm k := by
 have h1 : (p.runS (p.wcommitS p.wopen.2 (newFr c l))).1.sm k := sm_run _ (sm_mono h (by
  have := newFr_lenR c l
  unfold Pl.wcommitS headS
  simp only [List.length_append, List.length_cons, List.length_nil, frW_lenR]
  omega))
 unfold Pl.wcommit
 dsimp only
 split
 ·exact sm_mono h (by omega)
 ·split
  ·exact sm_mono h (by omega)
  ·split
   ·exact h1
   ·exact h1
theorem sm_wcheckG {p : Pl} {k : Nat} {m : Int} (hr : ∀ y ∈ p.seen nmWal, 0 ≤ y ∧ y < 256) (hd : (p.seen nmDb).length ≤ 1048576) (h : p.sm (k + 400000000)) : (p.wcheck m).1.sm k := by
 have hj : p.jcount ≤ 4096 := by unfold Pl.jcount Pl.len; split <;> omega
 unfold Pl.wcheck
 split
 ·exact sm_mono h (by omega)
 ·rename_i he
  split
  ·exact sm_mono h (by omega)
  ·rename_i hm
   split
   ·exact sm_mono h (by omega)
   ·have h1 := wcount_rng (frs_ok hr (by simpa using he) rfl) hj (by simpa using hm)
    have h2 := homeTo_len p p.wopen.2 m (wcount p p.wopen.2 m).toNat
    rw [← whome_to] at h2
    refine sm_run _ (sm_mono h ?_)
    unfold Pl.wcheckS homeS homeW headS
    split
    ·simp only [List.length_append, List.length_cons, List.length_nil, List.length_map]
     omega
    ·simp only [List.length_append, List.length_cons, List.length_nil, List.length_map]
     omega
theorem wop_sm {p : Pl} {k : Nat} (x : JOp) (hr : ∀ y ∈ p.seen nmWal, 0 ≤ y ∧ y < 256) (hs : (p.seen nmDb).length ≤ 1048576) (hl : x.pages.length ≤ 60) (h : p.sm (k + 400000000)) : (wop p x).sm k := by
 unfold wop
 split
 ·exact sm_wcommitG hl h
 ·split
  ·exact sm_wcheckG hr hs h
  ·split
   ·exact sm_mono h (by omega)
   ·split
    ·exact sm_mono (show (p.setRoom x.n).sm (k + 400000000) from h) (by omega)
    ·split
     ·exact sm_mono (show (p.crashIn x.n).sm (k + 400000000) from h) (by omega)
     ·split
      ·exact sm_restartD x.chs (sm_mono (show p.crashNow.sm (k + 400000000) from h) (by omega))
      ·split
       ·exact sm_write _ _ _ (sm_mono h (by omega))
       ·exact sm_mono h (by omega)
theorem guardPg : Tryz.prog.eqGuardType Tryz.prog.depth 49 = false := by kernel_rfl
theorem pgUnd : Tryz.prog.underlying 49 = some (.struct (Tryz.prog.fieldsOf 49)) := by kernel_rfl
theorem pgStood : Tryz.prog.stoodInHeld 49 = false := by kernel_rfl
theorem pgSz (w : World) : (sizeOf 46).run Tryz.prog w = .ok 256 w := by kernel_rfl
theorem ext1 (a : Value) (l : List Value) (n : Nat) (h : l.length = n) : ((a :: l).toArray).extract 1 (1 + n) = l.toArray := by
 subst h
 simp
theorem pgPart0 (w : World) (x : Pg) : (part 3 (pgA x) 0).run Tryz.prog w = .ok (.int .i64 x.n) w := by
 have h3 := Tryz.underlying3
 simp [part, isAgg, run_underlying h3, pgA, pgL]
theorem pgPart1 (w : World) (x : Pg) (hx : PgOk x) : (part 46 (pgA x) 1).run Tryz.prog w = .ok (.agg (x.b.map (Value.int .u8)).toArray) w := by
 have h26 := Tryz.underlying46
 have hsz := pgSz w
 have e : (pgA x).extract 1 (1 + 256) = (x.b.map (Value.int .u8)).toArray := ext1 _ _ 256 (by rw [List.length_map, hx.len])
 generalize pgA x = Z at e ⊢
 simp only [part, isAgg, Sem.run_bind, run_underlying h26, Result.andThen_ok, Sem.run_pure, if_true, hsz, e]
theorem pgQ0 (w : World) (d : Nat) (n : Int) : (Op.equalIn (d + 2) 3 (.int .i64 n) (.int .i64 n)).run Tryz.prog w = .ok true w := by
 rw [run_equalIn_int w (d + 1) 3 _ _ _ _ Tryz.underlying3, beq_self_eq_true]
theorem pgQ1 (w : World) (d : Nat) (b : List Int) (hb : b.length = 256) : (Op.equalIn (d + 2) 46 (.agg (b.map (Value.int .u8)).toArray) (.agg (b.map (Value.int .u8)).toArray)).run Tryz.prog w = .ok true w := by
 rw [run_equalIn_ints w d 46 _ _ _ Tryz.underlying46 Tryz.underlying5 sizeU8 b b hb hb, beq_self_eq_true]
theorem pgF : (Tryz.prog.fieldsOf 49).toList.map (fun f => (f.name, f.type, f.offset)) = [("N", 3, 0), ("P", 46, 1)] := by kernel_rfl
theorem eqF (w : World) (d : Nat) (Z Y : Array Value) (n : Int) (t1 t2 : TypeId) (F : List Field) (hf : F.map (fun f => (f.name, f.type, f.offset)) = [("N", t1, 0), ("P", t2, 1)])
  (p0 : (part t1 Z 0).run Tryz.prog w = .ok (.int .i64 n) w) (p1 : (part t2 Z 1).run Tryz.prog w = .ok (.agg Y) w)
  (q0 : (Op.equalIn d t1 (.int .i64 n) (.int .i64 n)).run Tryz.prog w = .ok true w) (q1 : (Op.equalIn d t2 (.agg Y) (.agg Y)).run Tryz.prog w = .ok true w) :
  (Op.eqFields d Z Z F).run Tryz.prog w = .ok true w := by
 rcases F with _ | ⟨a, _ | ⟨b, _ | ⟨c, F⟩⟩⟩
 ·simp at hf
 ·simp at hf
 ·simp only [List.map_cons, List.map_nil, List.cons.injEq, Prod.mk.injEq, and_true] at hf
  obtain ⟨⟨e1, e2, e3⟩, e4, e5, e6⟩ := hf
  have n1 : a.name ≠ "_" := by rw [e1]; decide
  have n2 : b.name ≠ "_" := by rw [e4]; decide
  simp only [Op.eqFields, if_pos n1, if_pos n2, e2, e3, e5, e6, Sem.run_bind, p0, p1, q0, q1, Result.andThen_ok, Bool.not_true, Bool.false_eq_true, if_false, Sem.run_pure]
 ·simp at hf
theorem eqPgSelf (w : World) (d : Nat) (x : Pg) (hx : PgOk x) : (Op.equalIn (d + 2 + 1) 49 (.agg (pgA x)) (.agg (pgA x))).run Tryz.prog w = .ok true w :=
 (run_equalIn_struct w (d + 2) 49 _ _ pgUnd pgStood).trans (eqF w (d + 2) _ _ x.n _ _ _ pgF (pgPart0 w x) (pgPart1 w x hx) (pgQ0 w d x.n) (pgQ1 w d x.b hx.len))
theorem neqPgA (w : World) (ev : Operand → Value) (ds : Option Tmp) {a b : Operand} {yt : TypeId} (ty : TypeId) (ps : String) {af : Array Edge} {g : Option (Nat × Bool)} {x : Pg} (hx : PgOk x) (ha : ev a = .agg (pgA x)) (hb : ev b = .agg (pgA x)) :
  (execOp ev ⟨ds, .binOp .neq 49 a b yt, ty, ps, af, g⟩).run Tryz.prog w = .ok (.value (.bool false)) w := by
 have hg : (eqGuard .neq 49 a b (ev a) (ev b)).run Tryz.prog w = .ok () w := by
  rw [ha, hb]
  exact run_eqGuard_agg w .neq 49 a b _ _ guardPg
 have hr : (binOp .neq 49 (ev a) (ev b)).run Tryz.prog w = .ok (.bool false) w := by
  rw [ha, hb, run_neq_struct, eqPgSelf w 9997 x hx]
  rfl
 simp only [execOp, Sem.run_bind, hg, Result.andThen_ok, hr, Sem.run_pure]
end
section
open Go.RowKit
def opV (x : JOp) (PA : Option Addr) (pn pc : Nat) (CA : Option Addr) (cn cc : Nat) : Array Value := #[.int .i64 x.do_, .int .i64 x.n, .int .i64 x.at_, .int .i64 x.count, .slice PA pn pc, .slice CA cn cc, .string x.data]
structure OpOk (S : Nat → Prop) (w : World) (x : JOp) (PA : Option Addr) (pn pc : Nat) (CA : Option Addr) (cn : Nat) : Prop where
 pg : PgsAt w PA pn x.pages
 pa : Apart S PA pn
 pok : ∀ y ∈ x.pages, PgOk y
 pn60 : pn ≤ 60
 pnil : PA = none → pn = 0 ∧ pc = 0
 ch : Nums w CA cn x.chs
 ca : Apart S CA cn
 chr : ∀ y ∈ x.chs, -9223372036854775808 ≤ y ∧ y ≤ 9223372036854775807
 cn63 : cn ≤ 9223372036854775807
 rn : -9223372036854775808 ≤ x.n ∧ x.n ≤ 9223372036854775807
 ra : -9223372036854775808 ≤ x.at_ ∧ x.at_ ≤ 9223372036854775807
 rc : -9223372036854775808 ≤ x.count ∧ x.count ≤ 9223372036854775807
 dl : x.data.size ≤ 2000
theorem OpOk.keep {S : Nat → Prop} {w w' : World} {x : JOp} {PA : Option Addr} {pn pc : Nat} {CA : Option Addr} {cn : Nat} (h : OpOk S w x PA pn pc CA cn) (k : Kp S w w') : OpOk S w' x PA pn pc CA cn :=
 {h with pg := RowsC.keepS h.pg k h.pa, ch := h.ch.keepG k h.ca }
structure DnB (S0 S : Nat → Prop) (w : World) (db : Nat) (p : Pl) (d : Rd) (x : JOp) (PA : Option Addr) (pn pc : Nat) (CA : Option Addr) (cn cc : Nat) (s0 : Nat) (w3 : World) : Prop where
 b0 : Blk w3 s0 29 (rdC d p)
 b1 : Blk w3 (s0 + 1) 34 (opV x PA pn pc CA cn cc)
 b2 : Blk w3 (s0 + 1 + 1) 29 rdZ
 kp : Kp S0 w w3
 q : Dq S w3 w3 db p
 r : Rf w3 d p
 o : OpOk S w3 x PA pn pc CA cn
 dk : ∀ b, S b → DkB w3 b
 lt0 : ∀ b, S0 b → b < s0
 lt : ∀ b, S b → S0 b ∨ s0 + 3 ≤ b
 pl : ∀ g o, PA = some ⟨g, o, none⟩ → 0 < pn → g < s0
 cl : ∀ g o, CA = some ⟨g, o, none⟩ → 0 < cn → g < s0
section
variable {S0 S : Nat → Prop} {w w3 : World} {db : Nat} {p : Pl} {d : Rd} {x : JOp} {PA : Option Addr} {pn pc : Nat} {CA : Option Addr} {cn cc s0 : Nat}
theorem DnB.start (hq : Dq S w w db p) (hr : Rf w d p) (hO : OpOk S w x PA pn pc CA cn) (hdk : ∀ b, S b → DkB w b) :
  DnB S S w db p d x PA pn pc CA cn cc w.heap.size (((w.alloc (.cells (rdC d p) 29)).alloc (.cells (opV x PA pn pc CA cn cc) 34)).alloc (.cells rdZ 29)) := by
 have hk : Kp NoB w (((w.alloc (.cells (rdC d p) 29)).alloc (.cells (opV x PA pn pc CA cn cc) 34)).alloc (.cells rdZ 29)) := (((Kp.refl NoB w).alloc _).alloc _).alloc _
 exact
  {b0 := ((Blk.new _ _ _).alloc _).alloc _
   b1 := (Blk.top (by simp)).alloc _
   b2 := Blk.top (by simp)
   kp := hk.mono (fun _ _ q => q.elim)
   q := hq.base1 hk
   r := hr.keep hk
   o := hO.keep (hk.mono (fun _ _ q => q.elim))
   dk := fun b hb => DkB.keep (S := S) (hdk b hb) hk (hq.lt b hb)
   lt0 := hq.lt
   lt := fun _ q => .inl q
   pl := fun g o e hn => PgsAt.lt hO.pg e hn
   cl := fun g o e hn => Nums.ltG hO.ch e hn }
theorem opC7 {wk : World} {g : Nat} {t : TypeId} (h : Blk wk g t (opV x PA pn pc CA cn cc)) :
  wk.cell? ⟨g, 0, none⟩ = some (.int .i64 x.do_) ∧ wk.cell? ⟨g, 1, none⟩ = some (.int .i64 x.n) ∧ wk.cell? ⟨g, 2, none⟩ = some (.int .i64 x.at_) ∧ wk.cell? ⟨g, 3, none⟩ = some (.int .i64 x.count) ∧
  wk.cell? ⟨g, 4, none⟩ = some (.slice PA pn pc) ∧ wk.cell? ⟨g, 5, none⟩ = some (.slice CA cn cc) ∧ wk.cell? ⟨g, 6, none⟩ = some (.string x.data) :=
 ⟨h.cell 0, h.cell 1, h.cell 2, h.cell 3, h.cell 4, h.cell 5, h.cell 6⟩
theorem DnB.not (h : DnB S0 S w db p d x PA pn pc CA cn cc s0 w3) {b : Nat} (h0 : s0 ≤ b) (h1 : b < s0 + 3) : ¬ S b := fun q => by
 rcases h.lt b q with z | z
 ·have := h.lt0 b z; omega
 ·omega
theorem DnB.to (h : DnB S0 S w db p d x PA pn pc CA cn cc s0 w3) {wk : World} (k : Kp S w3 wk) :
  DnB S0 S w db p d x PA pn pc CA cn cc s0 w3 ∧ Blk wk s0 29 (rdC d p) ∧ Blk wk (s0 + 1) 34 (opV x PA pn pc CA cn cc) ∧ Blk wk (s0 + 1 + 1) 29 rdZ ∧ Rf wk d p ∧ OpOk S wk x PA pn pc CA cn :=
 ⟨h, h.b0.keep k (h.not (by omega) (by omega)), h.b1.keep k (h.not (by omega) (by omega)), h.b2.keep k (h.not (by omega) (by omega)), h.r.keepT k h.dk, h.o.keep k⟩
theorem DnB.fin2 (h : DnB S0 S w db p d x PA pn pc CA cn cc s0 w3) (hs : w.heap.size = s0) {wk : World} {q : Pl} (hq : Dq S w3 wk db q) {w' : World} (k : Kp (fun b => b = s0 ∨ b = s0 + 1 + 1) wk w') : Dq S0 w w' db q :=
 hq.loc h.kp (fun b q => (h.lt b q).imp id (fun z => by omega)) (fun b q => by have := h.lt0 b q; omega) k (fun b q => by
  obtain ⟨_, b0, _, b2, _, _⟩ := h.to hq.kp
  have := h.b2.lt
  rcases q with rfl | rfl
  ·exact ⟨h.not (by omega) (by omega), by omega, by omega, _, _, b0, by decide⟩
  ·exact ⟨h.not (by omega) (by omega), by omega, by omega, _, _, b2, by decide⟩)
theorem DnB.fin (h : DnB S0 S w db p d x PA pn pc CA cn cc s0 w3) (hs : w.heap.size = s0) {wk : World} {q : Pl} (hq : Dq S w3 wk db q) {w' : World} (k : Kp (OnB (s0 + 1 + 1)) wk w') : Dq S0 w w' db q :=
 h.fin2 hs hq (k.mono (fun _ _ q => .inr q))
theorem DnB.crash (h : DnB S0 S w db p d x PA pn pc CA cn cc s0 w3) (hs : w.heap.size = s0) {w4 : World} (hq : Dq S w3 w4 db p.crashNow) : ∃ S', DnB S0 S' w db p.crashNow d x PA pn pc CA cn cc s0 (w4.setCell ⟨s0, 1, none⟩ (.bool true)) := by
 obtain ⟨S', hq', hS', hdk'⟩ := hq.baseT
 obtain ⟨_, b0, b1, b2, r, o⟩ := h.to hq.kp
 have h3 := h.b2.lt
 have hk : Kp (OnB s0) w4 (w4.setCell ⟨s0, 1, none⟩ (.bool true)) := (Kp.refl (OnB s0) w4).setAt (g := s0) rfl 1 _
 have hn0 : ∀ b, s0 ≤ b → b < s0 + 3 → ¬ S' b := fun b h0 h1 q => by
  rcases hS' b q with z | z
  ·exact h.not h0 h1 z
  ·omega
 have hap : ∀ {A : Option Addr} {n : Nat}, Apart S A n → (∀ g o, A = some ⟨g, o, none⟩ → 0 < n → g < w3.heap.size) → Apart S' A n := fun ha hl g o e hn q => by
  rcases hS' g q with z | z
  ·exact ha g o e hn z
  ·have := hl g o e hn; omega
 have hk0 : ∀ g, g ≠ s0 → ¬ OnB s0 g := fun g hg q => hg q
 have hrf : Rf (w4.setCell ⟨s0, 1, none⟩ (.bool true)) d p.crashNow := ((r.keepB hk b0 (rdC_str _ _))).crashNow
 refine ⟨S',
  {b0 := b0.set_ 1 (.bool true)
   b1 := b1.keep hk (hk0 _ (by omega))
   b2 := b2.keep hk (hk0 _ (by omega))
   kp := ((h.kp.trans hq.kp (fun i hi q => ?_)).trans hk (fun i hi q => ?_))
   q := ?_
   r := hrf
   o := ?_
   dk := fun b hb => (hdk' b hb).keepS hk (hq'.lt b hb) (hk0 b (fun e => hn0 b (by omega) (by omega) hb))
   lt0 := h.lt0
   lt := fun b hb => ?_
   pl := h.pl
   cl := h.cl }⟩
 ·rcases h.lt i q with z | z
  ·exact z
  ·omega
 ·have q' : i = s0 := q
  omega
 ·refine hq'.re hk (fun b q => ?_)
  have q' : b = s0 := q
  subst q'
  exact ⟨hn0 b (by omega) (by omega), by have := hq.kp.size; omega, _, _, b0, by decide⟩
 ·have hpg : Apart (OnB s0) PA pn := fun g o e hn q => by
   have q' : g = s0 := q
   subst q'
   have := h.pl _ o e hn; omega
  have hcg : Apart (OnB s0) CA cn := fun g o e hn q => by
   have q' : g = s0 := q
   subst q'
   have := h.cl _ o e hn; omega
  exact { o with
   pg := RowsC.keepS o.pg hk hpg
   pa := hap o.pa (fun g o' e hn => PgsAt.lt h.o.pg e hn)
   ch := o.ch.keepG hk hcg
   ca := hap o.ca (fun g o' e hn => Nums.ltG h.o.ch e hn) }
 ·rcases hS' b hb with z | z
  ·exact h.lt b z
  ·exact .inr (by omega)
end
theorem rdC_ones (d : Rd) (p : Pl) : (rdC d p).all (·.oneCell') = true := by unfold rdC; simp [Value.oneCell']
def DnPost (S : Nat → Prop) (w : World) (db : Nat) (q : Pl) (e : Ending) (w' : World) : Prop := ∃ d', e = .returned (.tuple #[rdV d' q, .bool true]) ∧ Rf w' d' q ∧ Dq S w w' db q
set_option maxRecDepth 100000 in
set_option maxHeartbeats 1600000 in
theorem done_3 (S : Nat → Prop) (w : World) (db : Nat) (p : Pl) (d : Rd) (x : JOp) (PA : Option Addr) (pn pc : Nat) (CA : Option Addr) (cn cc : Nat) (hq : Dq S w w db p) (hr : Rf w d p) (hO : OpOk S w x PA pn pc CA cn) (hdk : ∀ b, S b → DkB w b) (hsm : p.sm 600000000000) (hdo : x.do_ = 3) :
  Calls Tryz.prog 7 #[ptrV db, rdV d p, .agg (opV x PA pn pc CA cn cc)] w (DnPost S w db (p.setRoom x.n)) := by
 have hB := DnB.start (pc := pc) (cc := cc) hq hr hO hdk
 have HSM := zh hsm
 have HLT := zh hq.lt
 clear hq hr hO hdk hsm
 unfold rdC opV rdZ at hB
 unfold rdV opV
 rw [hdo]
 rw [hdo] at hB
 go_enter Tryz.func7, Tryz.ntmps7
 go_upto_region 1 with fail
 generalize (((w.alloc (.cells #[.bool true, .bool p.down, .slice d.fA d.fn d.fc, .slice d.pA d.pn d.pc, .int .i64 p.room, .int .i64 p.steps, .int .i64 p.crash, .int .i64 p.starts] 29)).alloc (.cells #[.int .i64 3, .int .i64 x.n, .int .i64 x.at_, .int .i64 x.count, .slice PA pn pc, .slice CA cn cc, .string x.data] 34)).alloc (.cells #[.bool false, .bool false, .slice none 0 0, .slice none 0 0, .int .i64 0, .int .i64 0, .int .i64 0, .int .i64 0] 29)) = w3 at hB ⊢
 generalize hs0 : w.heap.size = s0 at hB ⊢
 have HS0 := zh hs0
 have HB := zh hB
 clear hs0 hB
 have hl2 := HB.out.b2.lt
 have hl1 := HB.out.b1.lt
 have hl0 := HB.out.b0.lt
 obtain ⟨o0, o1, o2, o3, o4, o5, o6⟩ := opC7 HB.out.b1
 rw [hdo] at o0
 obtain ⟨c0, c1, c2, c3, c4, c5, c6, c7⟩ := HB.out.b0.rdc
 obtain ⟨y0, y1, y2, y3, y4, y5, y6, y7⟩ := HB.out.b2.c8
 obtain ⟨z0, z1, z2, z3, z4, z5, z6, z7⟩ := HB.out.b2.z8
 obtain ⟨x0, x1, x2, x3, x4, x5, x6, x7⟩ := HB.out.b0.z8
 go_wp2_with fail
 refine (setroom_q HB.out.q x.n HB.out.o.rn).mono ?_
 rintro e w4 ⟨rfl, hq⟩
 have HQ := zh hq
 obtain ⟨_, b0, b1, b2, r, o⟩ := HB.out.to hq.kp
 have HB0 := zh b0
 have HB1 := zh b1
 have HB2 := zh b2
 have HR := zh r
 have HO := zh o
 clear hq b0 b1 b2 r o c0 c1 c2 c3 c4 c5 c6 c7 y0 y1 y2 y3 y4 y5 y6 y7 z0 z1 z2 z3 z4 z5 z6 z7 x0 x1 x2 x3 x4 x5 x6 x7 o0 o1 o2 o3 o4 o5 o6 hl0 hl1 hl2
 have hl2 := HB2.out.lt
 have hl1 := HB1.out.lt
 have hl0 := HB0.out.lt
 obtain ⟨o0, o1, o2, o3, o4, o5, o6⟩ := opC7 HB1.out
 obtain ⟨c0, c1, c2, c3, c4, c5, c6, c7⟩ := HB0.out.rdc
 obtain ⟨y0, y1, y2, y3, y4, y5, y6, y7⟩ := HB2.out.c8
 obtain ⟨z0, z1, z2, z3, z4, z5, z6, z7⟩ := HB2.out.z8
 obtain ⟨x0, x1, x2, x3, x4, x5, x6, x7⟩ := HB0.out.z8
 go_wp2_with fail
 have hne : s0 + 1 + 1 ≠ s0 := by omega
 have kA : Kp (OnB s0) w4 (w4.setCell ⟨s0, 4, none⟩ (Value.int .i64 (max 0 x.n))) := (Kp.refl (OnB s0) w4).setAt (g := s0) rfl 4 _
 have hz := HB2.out.keep kA (fun q => hne q)
 refine bodyPost_ret (ret_cell_tmp rfl _ _ _ _ _ _ rfl (blk9 HB2.out rfl hne) Tryz.underlying29 rfl (by exact infoRd) _ rfl) rfl ⟨d, ?_, ?_, ?_⟩
 ·unfold rdV Pl.setRoom
  first | rw [hE.out] | skip
  rfl
 ·exact ((HR.out.setRoom x.n HB.out.o.rn.2).keepB kA HB0.out (rdC_str _ _)).keepB (kp8 (Kp.refl _ _) (.inr rfl)) hz rdZ_str
 ·exact HB.out.fin2 HS0.out HQ.out (kp9 (Kp.refl _ _) (.inr (.inl rfl)) (.inr (.inr rfl)))
set_option maxRecDepth 100000 in
set_option maxHeartbeats 1600000 in
theorem done_4 (S : Nat → Prop) (w : World) (db : Nat) (p : Pl) (d : Rd) (x : JOp) (PA : Option Addr) (pn pc : Nat) (CA : Option Addr) (cn cc : Nat) (hq : Dq S w w db p) (hr : Rf w d p) (hO : OpOk S w x PA pn pc CA cn) (hdk : ∀ b, S b → DkB w b) (hsm : p.sm 600000000000) (hdo : x.do_ = 4) :
  Calls Tryz.prog 7 #[ptrV db, rdV d p, .agg (opV x PA pn pc CA cn cc)] w (DnPost S w db (p.crashIn x.n)) := by
 have hB := DnB.start (pc := pc) (cc := cc) hq hr hO hdk
 have HSM := zh hsm
 have HLT := zh hq.lt
 clear hq hr hO hdk hsm
 unfold rdC opV rdZ at hB
 unfold rdV opV
 rw [hdo]
 rw [hdo] at hB
 go_enter Tryz.func7, Tryz.ntmps7
 go_upto_region 1 with fail
 generalize (((w.alloc (.cells #[.bool true, .bool p.down, .slice d.fA d.fn d.fc, .slice d.pA d.pn d.pc, .int .i64 p.room, .int .i64 p.steps, .int .i64 p.crash, .int .i64 p.starts] 29)).alloc (.cells #[.int .i64 4, .int .i64 x.n, .int .i64 x.at_, .int .i64 x.count, .slice PA pn pc, .slice CA cn cc, .string x.data] 34)).alloc (.cells #[.bool false, .bool false, .slice none 0 0, .slice none 0 0, .int .i64 0, .int .i64 0, .int .i64 0, .int .i64 0] 29)) = w3 at hB ⊢
 generalize hs0 : w.heap.size = s0 at hB ⊢
 have HS0 := zh hs0
 have HB := zh hB
 clear hs0 hB
 have hl2 := HB.out.b2.lt
 have hl1 := HB.out.b1.lt
 have hl0 := HB.out.b0.lt
 obtain ⟨o0, o1, o2, o3, o4, o5, o6⟩ := opC7 HB.out.b1
 rw [hdo] at o0
 obtain ⟨c0, c1, c2, c3, c4, c5, c6, c7⟩ := HB.out.b0.rdc
 obtain ⟨y0, y1, y2, y3, y4, y5, y6, y7⟩ := HB.out.b2.c8
 obtain ⟨z0, z1, z2, z3, z4, z5, z6, z7⟩ := HB.out.b2.z8
 obtain ⟨x0, x1, x2, x3, x4, x5, x6, x7⟩ := HB.out.b0.z8
 go_wp2_with fail
 refine (crashin_q HB.out.q x.n HB.out.o.rn).mono ?_
 rintro e w4 ⟨rfl, hq⟩
 have HQ := zh hq
 obtain ⟨_, b0, b1, b2, r, o⟩ := HB.out.to hq.kp
 have HB0 := zh b0
 have HB1 := zh b1
 have HB2 := zh b2
 have HR := zh r
 have HO := zh o
 clear hq b0 b1 b2 r o c0 c1 c2 c3 c4 c5 c6 c7 y0 y1 y2 y3 y4 y5 y6 y7 z0 z1 z2 z3 z4 z5 z6 z7 x0 x1 x2 x3 x4 x5 x6 x7 o0 o1 o2 o3 o4 o5 o6 hl0 hl1 hl2
 have hl2 := HB2.out.lt
 have hl1 := HB1.out.lt
 have hl0 := HB0.out.lt
 obtain ⟨o0, o1, o2, o3, o4, o5, o6⟩ := opC7 HB1.out
 obtain ⟨c0, c1, c2, c3, c4, c5, c6, c7⟩ := HB0.out.rdc
 obtain ⟨y0, y1, y2, y3, y4, y5, y6, y7⟩ := HB2.out.c8
 obtain ⟨z0, z1, z2, z3, z4, z5, z6, z7⟩ := HB2.out.z8
 obtain ⟨x0, x1, x2, x3, x4, x5, x6, x7⟩ := HB0.out.z8
 go_wp2_with fail
 have hne : s0 + 1 + 1 ≠ s0 := by omega
 have kA : Kp (OnB s0) w4 (w4.setCell ⟨s0, 6, none⟩ (Value.int .i64 (max 0 x.n))) := (Kp.refl (OnB s0) w4).setAt (g := s0) rfl 6 _
 have hz := HB2.out.keep kA (fun q => hne q)
 refine bodyPost_ret (ret_cell_tmp rfl _ _ _ _ _ _ rfl (blk9 HB2.out rfl hne) Tryz.underlying29 rfl (by exact infoRd) _ rfl) rfl ⟨d, ?_, ?_, ?_⟩
 ·unfold rdV Pl.crashIn
  first | rw [hE.out] | skip
  rfl
 ·exact ((HR.out.crashIn x.n HB.out.o.rn.2).keepB kA HB0.out (rdC_str _ _)).keepB (kp8 (Kp.refl _ _) (.inr rfl)) hz rdZ_str
 ·exact HB.out.fin2 HS0.out HQ.out (kp9 (Kp.refl _ _) (.inr (.inl rfl)) (.inr (.inr rfl)))
set_option maxRecDepth 100000 in
set_option maxHeartbeats 1600000 in
theorem done_7 (S : Nat → Prop) (w : World) (db : Nat) (p : Pl) (d : Rd) (x : JOp) (PA : Option Addr) (pn pc : Nat) (CA : Option Addr) (cn cc : Nat) (hq : Dq S w w db p) (hr : Rf w d p) (hO : OpOk S w x PA pn pc CA cn) (hdk : ∀ b, S b → DkB w b) (hsm : p.sm 600000000000) (hdo' : ∀ k : Int, 0 ≤ k → k ≤ 6 → x.do_ ≠ k) :
  Calls Tryz.prog 7 #[ptrV db, rdV d p, .agg (opV x PA pn pc CA cn cc)] w (DnPost S w db p) := by
 obtain ⟨DO, hdo⟩ : ∃ DO, x.do_ = DO := ⟨_, rfl⟩
 have hn : ∀ k : Int, 0 ≤ k → k ≤ 6 → (DO == k) = false := fun k h0 h1 => by
  have := hdo' k h0 h1
  rw [hdo] at this
  simpa using this
 have n0 := hn 0 (by omega) (by omega)
 have n1 := hn 1 (by omega) (by omega)
 have n2 := hn 2 (by omega) (by omega)
 have n3 := hn 3 (by omega) (by omega)
 have n4 := hn 4 (by omega) (by omega)
 have n5 := hn 5 (by omega) (by omega)
 have n6 := hn 6 (by omega) (by omega)
 clear hn hdo'
 have hB := DnB.start (pc := pc) (cc := cc) hq hr hO hdk
 have HSM := zh hsm
 have HLT := zh hq.lt
 clear hq hr hO hdk hsm
 unfold rdC opV rdZ at hB
 unfold rdV opV
 rw [hdo]
 rw [hdo] at hB
 go_enter Tryz.func7, Tryz.ntmps7
 go_upto_region 1 with fail
 generalize (((w.alloc (.cells #[.bool true, .bool p.down, .slice d.fA d.fn d.fc, .slice d.pA d.pn d.pc, .int .i64 p.room, .int .i64 p.steps, .int .i64 p.crash, .int .i64 p.starts] 29)).alloc (.cells #[.int .i64 DO, .int .i64 x.n, .int .i64 x.at_, .int .i64 x.count, .slice PA pn pc, .slice CA cn cc, .string x.data] 34)).alloc (.cells #[.bool false, .bool false, .slice none 0 0, .slice none 0 0, .int .i64 0, .int .i64 0, .int .i64 0, .int .i64 0] 29)) = w3 at hB ⊢
 generalize hs0 : w.heap.size = s0 at hB ⊢
 have HS0 := zh hs0
 have HB := zh hB
 clear hs0 hB
 have hl2 := HB.out.b2.lt
 have hl1 := HB.out.b1.lt
 have hl0 := HB.out.b0.lt
 obtain ⟨o0, o1, o2, o3, o4, o5, o6⟩ := opC7 HB.out.b1
 rw [hdo] at o0
 obtain ⟨c0, c1, c2, c3, c4, c5, c6, c7⟩ := HB.out.b0.rdc
 obtain ⟨y0, y1, y2, y3, y4, y5, y6, y7⟩ := HB.out.b2.c8
 obtain ⟨z0, z1, z2, z3, z4, z5, z6, z7⟩ := HB.out.b2.z8
 obtain ⟨x0, x1, x2, x3, x4, x5, x6, x7⟩ := HB.out.b0.z8
 have HB2 := zh HB.out.b2
 go_wp2_with fail
 refine bodyPost_ret (ret_cell_tmp rfl _ _ _ _ _ _ rfl (blk8 HB2.out rfl) Tryz.underlying29 rfl (by exact infoRd) _ rfl) rfl ⟨d, rfl, ?_, ?_⟩
 ·exact (HB.out.r).keepB (kp8 (Kp.refl _ w3) (.inr rfl)) HB2.out rdZ_str
 ·exact HB.out.fin HS0.out (HB.out.q) (kp8 (Kp.refl _ w3) (.inr rfl))
set_option maxRecDepth 100000 in
set_option maxHeartbeats 1600000 in
theorem done_1 (S : Nat → Prop) (w : World) (db : Nat) (p : Pl) (d : Rd) (x : JOp) (PA : Option Addr) (pn pc : Nat) (CA : Option Addr) (cn cc : Nat) (hq : Dq S w w db p) (hr : Rf w d p) (hO : OpOk S w x PA pn pc CA cn) (hdk : ∀ b, S b → DkB w b) (hsm : p.sm 600000000000) (hdo : x.do_ = 1) :
  Calls Tryz.prog 7 #[ptrV db, rdV d p, .agg (opV x PA pn pc CA cn cc)] w (DnPost S w db (p.wcheck x.n).1) := by
 have hB := DnB.start (pc := pc) (cc := cc) hq hr hO hdk
 have HSM := zh hsm
 have HLT := zh hq.lt
 clear hq hr hO hdk hsm
 unfold rdC opV rdZ at hB
 unfold rdV opV
 rw [hdo]
 rw [hdo] at hB
 go_enter Tryz.func7, Tryz.ntmps7
 go_upto_region 1 with fail
 generalize (((w.alloc (.cells #[.bool true, .bool p.down, .slice d.fA d.fn d.fc, .slice d.pA d.pn d.pc, .int .i64 p.room, .int .i64 p.steps, .int .i64 p.crash, .int .i64 p.starts] 29)).alloc (.cells #[.int .i64 1, .int .i64 x.n, .int .i64 x.at_, .int .i64 x.count, .slice PA pn pc, .slice CA cn cc, .string x.data] 34)).alloc (.cells #[.bool false, .bool false, .slice none 0 0, .slice none 0 0, .int .i64 0, .int .i64 0, .int .i64 0, .int .i64 0] 29)) = w3 at hB ⊢
 generalize hs0 : w.heap.size = s0 at hB ⊢
 have HS0 := zh hs0
 have HB := zh hB
 clear hs0 hB
 have hl2 := HB.out.b2.lt
 have hl1 := HB.out.b1.lt
 have hl0 := HB.out.b0.lt
 obtain ⟨o0, o1, o2, o3, o4, o5, o6⟩ := opC7 HB.out.b1
 rw [hdo] at o0
 obtain ⟨c0, c1, c2, c3, c4, c5, c6, c7⟩ := HB.out.b0.rdc
 obtain ⟨y0, y1, y2, y3, y4, y5, y6, y7⟩ := HB.out.b2.c8
 obtain ⟨z0, z1, z2, z3, z4, z5, z6, z7⟩ := HB.out.b2.z8
 obtain ⟨x0, x1, x2, x3, x4, x5, x6, x7⟩ := HB.out.b0.z8
 go_wp2_with fail
 refine (show Calls _ _ #[ptrV db, .int .i64 x.n] _ _ from wcheck_q HB.out.q x.n (sm_mono HSM.out (by omega))).mono ?_
 rintro e w4 ⟨rfl, hq⟩
 have HQ := zh hq
 obtain ⟨_, b0, b1, b2, r, o⟩ := HB.out.to hq.kp
 have HB0 := zh b0
 have HB1 := zh b1
 have HB2 := zh b2
 have HR := zh r
 have HO := zh o
 clear hq b0 b1 b2 r o c0 c1 c2 c3 c4 c5 c6 c7 y0 y1 y2 y3 y4 y5 y6 y7 z0 z1 z2 z3 z4 z5 z6 z7 x0 x1 x2 x3 x4 x5 x6 x7 o0 o1 o2 o3 o4 o5 o6 hl0 hl1 hl2
 have hl2 := HB2.out.lt
 have hl1 := HB1.out.lt
 have hl0 := HB0.out.lt
 obtain ⟨o0, o1, o2, o3, o4, o5, o6⟩ := opC7 HB1.out
 obtain ⟨c0, c1, c2, c3, c4, c5, c6, c7⟩ := HB0.out.rdc
 obtain ⟨y0, y1, y2, y3, y4, y5, y6, y7⟩ := HB2.out.c8
 obtain ⟨z0, z1, z2, z3, z4, z5, z6, z7⟩ := HB2.out.z8
 obtain ⟨x0, x1, x2, x3, x4, x5, x6, x7⟩ := HB0.out.z8
 go_wp2_with fail
 refine (show Calls _ _ #[rdV d p, .int .i64 x.n] _ _ from wcheck_rok w4 d p x.n HR.out (sm_mono HSM.out (by omega))).mono ?_
 rintro e w5 ⟨d5, rfl, h5, hk5⟩
 obtain ⟨q, E, hqE⟩ : ∃ q E, p.wcheck x.n = (q, E) := ⟨_, _, rfl⟩
 have HRUN := zh (show (p.wcheck x.n).1 = q by rw [hqE])
 rw [hqE] at h5 HQ ⊢
 clear hqE
 have HQ' := zh (HQ.out.keep hk5)
 have HB0' := zh (HB0.out.keep hk5 (fun q => q))
 have HB1' := zh (HB1.out.keep hk5 (fun q => q))
 have HB2' := zh (HB2.out.keep hk5 (fun q => q))
 have HR' := zh h5
 have HO' := zh (HO.out.keep (hk5.mono (fun _ _ q => q.elim)))
 clear hk5 h5 HQ HB0 HB1 HB2 HR HO c0 c1 c2 c3 c4 c5 c6 c7 y0 y1 y2 y3 y4 y5 y6 y7 z0 z1 z2 z3 z4 z5 z6 z7 x0 x1 x2 x3 x4 x5 x6 x7 o0 o1 o2 o3 o4 o5 o6 hl0 hl1 hl2
 have HQ := HQ'
 have HB0 := HB0'
 have HB1 := HB1'
 have HB2 := HB2'
 have HR := HR'
 have HO := HO'
 clear HQ' HB0' HB1' HB2' HR' HO'
 have hl2 := HB2.out.lt
 have hl1 := HB1.out.lt
 have hl0 := HB0.out.lt
 obtain ⟨o0, o1, o2, o3, o4, o5, o6⟩ := opC7 HB1.out
 obtain ⟨c0, c1, c2, c3, c4, c5, c6, c7⟩ := HB0.out.rdc
 obtain ⟨y0, y1, y2, y3, y4, y5, y6, y7⟩ := HB2.out.c8
 obtain ⟨z0, z1, z2, z3, z4, z5, z6, z7⟩ := HB2.out.z8
 obtain ⟨x0, x1, x2, x3, x4, x5, x6, x7⟩ := HB0.out.z8
 unfold rdV
 go_upto_region 15 with fail
 have hg2 : Blk (w5.alloc (.cells (rdC d5 q) 29)) w5.heap.size 29 (rdC d5 q) := Blk.new _ _ _
 have hk5 : Kp NoB w5 (w5.alloc (.cells (rdC d5 q) 29)) := (Kp.refl NoB w5).alloc _
 have h5 : Rf (w5.alloc (.cells (rdC d5 q) 29)) d5 (q) := HR.out.keep hk5
 unfold rdC at hg2 hk5 h5
 generalize hg : w5.heap.size = g at hg2 ⊢
 have hgl : s0 + 1 + 1 < g := by have := HB2.out.lt; omega
 generalize (w5.alloc (.cells #[.bool true, .bool (q).down, .slice d5.fA d5.fn d5.fc, .slice d5.pA d5.pn d5.pc, .int .i64 (q).room, .int .i64 (q).steps, .int .i64 (q).crash, .int .i64 (q).starts] 29)) = w6 at hg2 hk5 h5 ⊢
 have HG2 := zh (show Blk w6 g 29 (rdC d5 q) from hg2)
 have HGL := zh hgl
 have HKB := zh hk5
 clear hg2 hg hgl
 have HQ' := zh (HQ.out.keep hk5)
 have HB0' := zh (HB0.out.keep hk5 (fun q => q))
 have HB1' := zh (HB1.out.keep hk5 (fun q => q))
 have HB2' := zh (HB2.out.keep hk5 (fun q => q))
 have HR' := zh h5
 have HO' := zh (HO.out.keep (hk5.mono (fun _ _ q => q.elim)))
 clear hk5 h5 HQ HB0 HB1 HB2 HR HO c0 c1 c2 c3 c4 c5 c6 c7 y0 y1 y2 y3 y4 y5 y6 y7 z0 z1 z2 z3 z4 z5 z6 z7 x0 x1 x2 x3 x4 x5 x6 x7 o0 o1 o2 o3 o4 o5 o6 hl0 hl1 hl2
 have HQ := HQ'
 have HB0 := HB0'
 have HB1 := HB1'
 have HB2 := HB2'
 have HR := HR'
 have HO := HO'
 clear HQ' HB0' HB1' HB2' HR' HO'
 have hl2 := HB2.out.lt
 have hl1 := HB1.out.lt
 have hl0 := HB0.out.lt
 obtain ⟨o0, o1, o2, o3, o4, o5, o6⟩ := opC7 HB1.out
 obtain ⟨c0, c1, c2, c3, c4, c5, c6, c7⟩ := HB0.out.rdc
 obtain ⟨y0, y1, y2, y3, y4, y5, y6, y7⟩ := HB2.out.c8
 obtain ⟨z0, z1, z2, z3, z4, z5, z6, z7⟩ := HB2.out.z8
 obtain ⟨x0, x1, x2, x3, x4, x5, x6, x7⟩ := HB0.out.z8
 obtain ⟨g0, g1, g2, g3, g4, g5, g6, g7⟩ := HG2.out.rdc
 have hgs := HG2.out.lt
 have hgg : s0 < g ∧ s0 + 1 < g ∧ s0 + 1 + 1 < g := by have := HGL.out; omega
 go_wp2_with fail
 refine bodyPost_ret (ret_cell_tmp rfl _ _ _ _ _ _ rfl (blk8 HB2.out rfl) Tryz.underlying29 rfl (by exact infoRd) _ rfl) rfl ⟨d5, by rw [HRUN.out]; rfl, ?_, ?_⟩
 ·rw [HRUN.out]
  exact (HR.out).keepB (kp8 (Kp.refl _ w6) (.inr rfl)) HB2.out rdZ_str
 ·rw [HRUN.out]
  exact HB.out.fin HS0.out (HQ.out) (kp8 (Kp.refl _ w6) (.inr rfl))
end
section
open Go.RowKit
set_option maxRecDepth 100000 in
set_option maxHeartbeats 1600000 in
theorem done_5 (S : Nat → Prop) (w : World) (db : Nat) (p : Pl) (d : Rd) (x : JOp) (PA : Option Addr) (pn pc : Nat) (CA : Option Addr) (cn cc : Nat) (hq : Dq S w w db p) (hr : Rf w d p) (hO : OpOk S w x PA pn pc CA cn) (hdk : ∀ b, S b → DkB w b) (hsm : p.sm 600000000000) (hdo : x.do_ = 5) :
  Calls Tryz.prog 7 #[ptrV db, rdV d p, .agg (opV x PA pn pc CA cn cc)] w (DnPost S w db (p.crashNow.restart x.chs)) := by
 have hB := DnB.start (pc := pc) (cc := cc) hq hr hO hdk
 have HSM := zh hsm
 have HLT := zh hq.lt
 clear hq hr hO hdk hsm
 unfold rdC opV rdZ at hB
 unfold rdV opV
 rw [hdo]
 rw [hdo] at hB
 go_enter Tryz.func7, Tryz.ntmps7
 go_upto_region 1 with fail
 generalize (((w.alloc (.cells #[.bool true, .bool p.down, .slice d.fA d.fn d.fc, .slice d.pA d.pn d.pc, .int .i64 p.room, .int .i64 p.steps, .int .i64 p.crash, .int .i64 p.starts] 29)).alloc (.cells #[.int .i64 5, .int .i64 x.n, .int .i64 x.at_, .int .i64 x.count, .slice PA pn pc, .slice CA cn cc, .string x.data] 34)).alloc (.cells #[.bool false, .bool false, .slice none 0 0, .slice none 0 0, .int .i64 0, .int .i64 0, .int .i64 0, .int .i64 0] 29)) = w3 at hB ⊢
 generalize hs0 : w.heap.size = s0 at hB ⊢
 have HS0 := zh hs0
 have HB := zh hB
 clear hs0 hB
 have hl2 := HB.out.b2.lt
 have hl1 := HB.out.b1.lt
 have hl0 := HB.out.b0.lt
 obtain ⟨o0, o1, o2, o3, o4, o5, o6⟩ := opC7 HB.out.b1
 rw [hdo] at o0
 obtain ⟨c0, c1, c2, c3, c4, c5, c6, c7⟩ := HB.out.b0.rdc
 obtain ⟨y0, y1, y2, y3, y4, y5, y6, y7⟩ := HB.out.b2.c8
 obtain ⟨z0, z1, z2, z3, z4, z5, z6, z7⟩ := HB.out.b2.z8
 obtain ⟨x0, x1, x2, x3, x4, x5, x6, x7⟩ := HB.out.b0.z8
 go_wp2_with fail
 refine (crash_q HB.out.q).mono ?_
 rintro e w4 ⟨rfl, hq⟩
 have HQ := zh hq
 obtain ⟨_, b0, b1, b2, r, o⟩ := HB.out.to hq.kp
 have HB0 := zh b0
 have HB1 := zh b1
 have HB2 := zh b2
 have HR := zh r
 have HO := zh o
 clear hq b0 b1 b2 r o c0 c1 c2 c3 c4 c5 c6 c7 y0 y1 y2 y3 y4 y5 y6 y7 z0 z1 z2 z3 z4 z5 z6 z7 x0 x1 x2 x3 x4 x5 x6 x7 o0 o1 o2 o3 o4 o5 o6 hl0 hl1 hl2
 have hl2 := HB2.out.lt
 have hl1 := HB1.out.lt
 have hl0 := HB0.out.lt
 obtain ⟨o0, o1, o2, o3, o4, o5, o6⟩ := opC7 HB1.out
 obtain ⟨c0, c1, c2, c3, c4, c5, c6, c7⟩ := HB0.out.rdc
 obtain ⟨y0, y1, y2, y3, y4, y5, y6, y7⟩ := HB2.out.c8
 obtain ⟨z0, z1, z2, z3, z4, z5, z6, z7⟩ := HB2.out.z8
 obtain ⟨x0, x1, x2, x3, x4, x5, x6, x7⟩ := HB0.out.z8
 go_upto_region 27 with fail
 obtain ⟨S', hB5⟩ := HB.out.crash HS0.out HQ.out
 generalize w4.setCell ⟨s0, 1, none⟩ (.bool true) = w5 at hB5 ⊢
 have HSM5 : Hid (p.crashNow.sm 600000000000) := zh HSM.out
 clear HB HQ HB0 HB1 HB2 HR HO HSM c0 c1 c2 c3 c4 c5 c6 c7 y0 y1 y2 y3 y4 y5 y6 y7 z0 z1 z2 z3 z4 z5 z6 z7 x0 x1 x2 x3 x4 x5 x6 x7 o0 o1 o2 o3 o4 o5 o6 hl0 hl1 hl2
 have HB := zh hB5
 have HB0 := zh hB5.b0
 have HB1 := zh hB5.b1
 have HB2 := zh hB5.b2
 clear hB5
 have hl2 := HB2.out.lt
 have hl1 := HB1.out.lt
 have hl0 := HB0.out.lt
 obtain ⟨o0, o1, o2, o3, o4, o5, o6⟩ := opC7 HB1.out
 obtain ⟨c0, c1, c2, c3, c4, c5, c6, c7⟩ := HB0.out.rdc
 obtain ⟨y0, y1, y2, y3, y4, y5, y6, y7⟩ := HB2.out.c8
 obtain ⟨z0, z1, z2, z3, z4, z5, z6, z7⟩ := HB2.out.z8
 obtain ⟨x0, x1, x2, x3, x4, x5, x6, x7⟩ := HB0.out.z8
 go_wp2_with fail
 refine (restart_q HB.out.q CA cn cc x.chs HB.out.o.ch (fun g o e hn => ⟨Nums.ltG HB.out.o.ch e hn, HB.out.o.ca g o e hn⟩) HB.out.o.chr HB.out.o.cn63 (sm_mono HSM5.out (by omega))).mono ?_
 clear HB0 HB1 HB2
 rintro e w6 ⟨rfl, hq⟩
 have HQ := zh hq
 obtain ⟨_, b0, b1, b2, r, o⟩ := HB.out.to hq.kp
 have HB0 := zh b0
 have HB1 := zh b1
 have HB2 := zh b2
 have HR := zh r
 have HO := zh o
 clear hq b0 b1 b2 r o c0 c1 c2 c3 c4 c5 c6 c7 y0 y1 y2 y3 y4 y5 y6 y7 z0 z1 z2 z3 z4 z5 z6 z7 x0 x1 x2 x3 x4 x5 x6 x7 o0 o1 o2 o3 o4 o5 o6 hl0 hl1 hl2
 have hl2 := HB2.out.lt
 have hl1 := HB1.out.lt
 have hl0 := HB0.out.lt
 obtain ⟨o0, o1, o2, o3, o4, o5, o6⟩ := opC7 HB1.out
 obtain ⟨c0, c1, c2, c3, c4, c5, c6, c7⟩ := HB0.out.rdc
 obtain ⟨y0, y1, y2, y3, y4, y5, y6, y7⟩ := HB2.out.c8
 obtain ⟨z0, z1, z2, z3, z4, z5, z6, z7⟩ := HB2.out.z8
 obtain ⟨x0, x1, x2, x3, x4, x5, x6, x7⟩ := HB0.out.z8
 go_wp2_with fail
 refine (show Calls _ _ #[rdV d p.crashNow, .slice CA cn cc] _ _ from restart_okR w6 d p.crashNow CA cn cc x.chs HR.out HO.out.ch HO.out.chr HO.out.cn63 (by have := HSM5.out; unfold Pl.sm at this; omega) (by have := HSM5.out; unfold Pl.sm at this; omega)).mono ?_
 rintro e w7 ⟨d5, rfl, h5, hk5⟩
 obtain ⟨q, hqE⟩ : ∃ q, p.crashNow.restart x.chs = q := ⟨_, rfl⟩
 obtain ⟨E, hE⟩ : ∃ E, p.crashNow.restartE = E := ⟨_, rfl⟩
 have HRUN := zh hqE
 rw [hqE] at h5 HQ ⊢
 rw [hE]
 clear hqE hE
 have HQ' := zh (HQ.out.keep hk5)
 have HB0' := zh (HB0.out.keep hk5 (fun q => q))
 have HB1' := zh (HB1.out.keep hk5 (fun q => q))
 have HB2' := zh (HB2.out.keep hk5 (fun q => q))
 have HR' := zh h5
 have HO' := zh (HO.out.keep (hk5.mono (fun _ _ q => q.elim)))
 clear hk5 h5 HQ HB0 HB1 HB2 HR HO c0 c1 c2 c3 c4 c5 c6 c7 y0 y1 y2 y3 y4 y5 y6 y7 z0 z1 z2 z3 z4 z5 z6 z7 x0 x1 x2 x3 x4 x5 x6 x7 o0 o1 o2 o3 o4 o5 o6 hl0 hl1 hl2
 have HQ := HQ'
 have HB0 := HB0'
 have HB1 := HB1'
 have HB2 := HB2'
 have HR := HR'
 have HO := HO'
 clear HQ' HB0' HB1' HB2' HR' HO'
 have hl2 := HB2.out.lt
 have hl1 := HB1.out.lt
 have hl0 := HB0.out.lt
 obtain ⟨o0, o1, o2, o3, o4, o5, o6⟩ := opC7 HB1.out
 obtain ⟨c0, c1, c2, c3, c4, c5, c6, c7⟩ := HB0.out.rdc
 obtain ⟨y0, y1, y2, y3, y4, y5, y6, y7⟩ := HB2.out.c8
 obtain ⟨z0, z1, z2, z3, z4, z5, z6, z7⟩ := HB2.out.z8
 obtain ⟨x0, x1, x2, x3, x4, x5, x6, x7⟩ := HB0.out.z8
 unfold rdV
 go_upto_region 29 with fail
 have hg2 : Blk (w7.alloc (.cells (rdC d5 q) 29)) w7.heap.size 29 (rdC d5 q) := Blk.new _ _ _
 have hk5 : Kp NoB w7 (w7.alloc (.cells (rdC d5 q) 29)) := (Kp.refl NoB w7).alloc _
 have h5 : Rf (w7.alloc (.cells (rdC d5 q) 29)) d5 (q) := HR.out.keep hk5
 unfold rdC at hg2 hk5 h5
 generalize hg : w7.heap.size = g at hg2 ⊢
 have hgl : s0 + 1 + 1 < g := by have := HB2.out.lt; omega
 generalize (w7.alloc (.cells #[.bool true, .bool (q).down, .slice d5.fA d5.fn d5.fc, .slice d5.pA d5.pn d5.pc, .int .i64 (q).room, .int .i64 (q).steps, .int .i64 (q).crash, .int .i64 (q).starts] 29)) = w8 at hg2 hk5 h5 ⊢
 have HG2 := zh (show Blk w8 g 29 (rdC d5 q) from hg2)
 have HGL := zh hgl
 have HKB := zh hk5
 clear hg2 hg hgl
 have HQ' := zh (HQ.out.keep hk5)
 have HB0' := zh (HB0.out.keep hk5 (fun q => q))
 have HB1' := zh (HB1.out.keep hk5 (fun q => q))
 have HB2' := zh (HB2.out.keep hk5 (fun q => q))
 have HR' := zh h5
 have HO' := zh (HO.out.keep (hk5.mono (fun _ _ q => q.elim)))
 clear hk5 h5 HQ HB0 HB1 HB2 HR HO c0 c1 c2 c3 c4 c5 c6 c7 y0 y1 y2 y3 y4 y5 y6 y7 z0 z1 z2 z3 z4 z5 z6 z7 x0 x1 x2 x3 x4 x5 x6 x7 o0 o1 o2 o3 o4 o5 o6 hl0 hl1 hl2
 have HQ := HQ'
 have HB0 := HB0'
 have HB1 := HB1'
 have HB2 := HB2'
 have HR := HR'
 have HO := HO'
 clear HQ' HB0' HB1' HB2' HR' HO'
 have hl2 := HB2.out.lt
 have hl1 := HB1.out.lt
 have hl0 := HB0.out.lt
 obtain ⟨o0, o1, o2, o3, o4, o5, o6⟩ := opC7 HB1.out
 obtain ⟨c0, c1, c2, c3, c4, c5, c6, c7⟩ := HB0.out.rdc
 obtain ⟨y0, y1, y2, y3, y4, y5, y6, y7⟩ := HB2.out.c8
 obtain ⟨z0, z1, z2, z3, z4, z5, z6, z7⟩ := HB2.out.z8
 obtain ⟨x0, x1, x2, x3, x4, x5, x6, x7⟩ := HB0.out.z8
 obtain ⟨g0, g1, g2, g3, g4, g5, g6, g7⟩ := HG2.out.rdc
 have hgs := HG2.out.lt
 have hgg : s0 < g ∧ s0 + 1 < g ∧ s0 + 1 + 1 < g := by have := HGL.out; omega
 go_wp2_with fail
 refine bodyPost_ret (ret_cell_tmp rfl _ _ _ _ _ _ rfl (blk8 HB2.out rfl) Tryz.underlying29 rfl (by exact infoRd) _ rfl) rfl ⟨d5, by rw [HRUN.out]; rfl, ?_, ?_⟩
 ·rw [HRUN.out]
  exact (HR.out).keepB (kp8 (Kp.refl _ w8) (.inr rfl)) HB2.out rdZ_str
 ·rw [HRUN.out]
  exact HB.out.fin HS0.out (HQ.out) (kp8 (Kp.refl _ w8) (.inr rfl))
set_option maxRecDepth 100000 in
set_option maxHeartbeats 1600000 in
theorem done_6 (S : Nat → Prop) (w : World) (db : Nat) (p : Pl) (d : Rd) (x : JOp) (PA : Option Addr) (pn pc : Nat) (CA : Option Addr) (cn cc : Nat) (hq : Dq S w w db p) (hr : Rf w d p) (hO : OpOk S w x PA pn pc CA cn) (hdk : ∀ b, S b → DkB w b) (hsm : p.sm 600000000000) (hdo : x.do_ = 6) (nm : ByteArray) (hnm : (x.n = 0 ∧ nm = nmDb) ∨ (x.n ≠ 0 ∧ nm = nmWal)) :
  Calls Tryz.prog 7 #[ptrV db, rdV d p, .agg (opV x PA pn pc CA cn cc)] w (DnPost S w db (p.write nm x.at_ (strI x.data))) := by
 have hB := DnB.start (pc := pc) (cc := cc) hq hr hO hdk
 have HSM := zh hsm
 have HLT := zh hq.lt
 clear hq hr hO hdk hsm
 unfold rdC opV rdZ at hB
 unfold rdV opV
 rw [hdo]
 rw [hdo] at hB
 go_enter Tryz.func7, Tryz.ntmps7
 go_upto_region 1 with fail
 generalize (((w.alloc (.cells #[.bool true, .bool p.down, .slice d.fA d.fn d.fc, .slice d.pA d.pn d.pc, .int .i64 p.room, .int .i64 p.steps, .int .i64 p.crash, .int .i64 p.starts] 29)).alloc (.cells #[.int .i64 6, .int .i64 x.n, .int .i64 x.at_, .int .i64 x.count, .slice PA pn pc, .slice CA cn cc, .string x.data] 34)).alloc (.cells #[.bool false, .bool false, .slice none 0 0, .slice none 0 0, .int .i64 0, .int .i64 0, .int .i64 0, .int .i64 0] 29)) = w3 at hB ⊢
 generalize hs0 : w.heap.size = s0 at hB ⊢
 have HS0 := zh hs0
 have HB := zh hB
 clear hs0 hB
 have hl2 := HB.out.b2.lt
 have hl1 := HB.out.b1.lt
 have hl0 := HB.out.b0.lt
 obtain ⟨o0, o1, o2, o3, o4, o5, o6⟩ := opC7 HB.out.b1
 rw [hdo] at o0
 obtain ⟨c0, c1, c2, c3, c4, c5, c6, c7⟩ := HB.out.b0.rdc
 obtain ⟨y0, y1, y2, y3, y4, y5, y6, y7⟩ := HB.out.b2.c8
 obtain ⟨z0, z1, z2, z3, z4, z5, z6, z7⟩ := HB.out.b2.z8
 obtain ⟨x0, x1, x2, x3, x4, x5, x6, x7⟩ := HB.out.b0.z8
 have HDL : Hid (x.data.size ≤ maxLen) := zh (by have := HB.out.o.dl; unfold maxLen; omega)
 rcases hnm with ⟨hn, rfl⟩ | ⟨hn, rfl⟩
 ·rw [hn] at o1 ⊢
  clear hn
  go_wp2_with fail
  refine (show Calls _ _ #[ptrV db, .string nmDb, .int .i64 x.at_, .string x.data] _ _ from write_q HB.out.q nmDb x.at_ x.data nmD_le HDL.out (sm_mono HSM.out (by omega))).mono ?_
  rintro e w4 ⟨rfl, hq⟩
  have HQ := zh hq
  obtain ⟨_, b0, b1, b2, r, o⟩ := HB.out.to hq.kp
  have HB0 := zh b0
  have HB1 := zh b1
  have HB2 := zh b2
  have HR := zh r
  have HO := zh o
  clear hq b0 b1 b2 r o c0 c1 c2 c3 c4 c5 c6 c7 y0 y1 y2 y3 y4 y5 y6 y7 z0 z1 z2 z3 z4 z5 z6 z7 x0 x1 x2 x3 x4 x5 x6 x7 o0 o1 o2 o3 o4 o5 o6 hl0 hl1 hl2
  have hl2 := HB2.out.lt
  have hl1 := HB1.out.lt
  have hl0 := HB0.out.lt
  obtain ⟨o0, o1, o2, o3, o4, o5, o6⟩ := opC7 HB1.out
  obtain ⟨c0, c1, c2, c3, c4, c5, c6, c7⟩ := HB0.out.rdc
  obtain ⟨y0, y1, y2, y3, y4, y5, y6, y7⟩ := HB2.out.c8
  obtain ⟨z0, z1, z2, z3, z4, z5, z6, z7⟩ := HB2.out.z8
  obtain ⟨x0, x1, x2, x3, x4, x5, x6, x7⟩ := HB0.out.z8
  go_wp2_with fail
  refine (show Calls _ _ #[rdV d p, .string nmDb, .int .i64 x.at_, .string x.data] _ _ from write_okR w4 d p nmDb x.at_ x.data HR.out nmD_le HDL.out HB.out.o.ra (by have := HSM.out; unfold Pl.sm at this; omega) (by have := HSM.out; unfold Pl.sm at this; omega)).mono ?_
  rintro e w5 ⟨d5, rfl, h5, hk5⟩
  obtain ⟨q, hqE⟩ : ∃ q, p.write nmDb x.at_ (strI x.data) = q := ⟨_, rfl⟩
  obtain ⟨E, hE⟩ : ∃ E, p.writeE nmDb x.at_ (strI x.data) = E := ⟨_, rfl⟩
  have HRUN := zh hqE
  rw [hqE] at h5 HQ ⊢
  rw [hE]
  clear hqE hE
  have HQ' := zh (HQ.out.keep hk5)
  have HB0' := zh (HB0.out.keep hk5 (fun q => q))
  have HB1' := zh (HB1.out.keep hk5 (fun q => q))
  have HB2' := zh (HB2.out.keep hk5 (fun q => q))
  have HR' := zh h5
  have HO' := zh (HO.out.keep (hk5.mono (fun _ _ q => q.elim)))
  clear hk5 h5 HQ HB0 HB1 HB2 HR HO c0 c1 c2 c3 c4 c5 c6 c7 y0 y1 y2 y3 y4 y5 y6 y7 z0 z1 z2 z3 z4 z5 z6 z7 x0 x1 x2 x3 x4 x5 x6 x7 o0 o1 o2 o3 o4 o5 o6 hl0 hl1 hl2
  have HQ := HQ'
  have HB0 := HB0'
  have HB1 := HB1'
  have HB2 := HB2'
  have HR := HR'
  have HO := HO'
  clear HQ' HB0' HB1' HB2' HR' HO'
  have hl2 := HB2.out.lt
  have hl1 := HB1.out.lt
  have hl0 := HB0.out.lt
  obtain ⟨o0, o1, o2, o3, o4, o5, o6⟩ := opC7 HB1.out
  obtain ⟨c0, c1, c2, c3, c4, c5, c6, c7⟩ := HB0.out.rdc
  obtain ⟨y0, y1, y2, y3, y4, y5, y6, y7⟩ := HB2.out.c8
  obtain ⟨z0, z1, z2, z3, z4, z5, z6, z7⟩ := HB2.out.z8
  obtain ⟨x0, x1, x2, x3, x4, x5, x6, x7⟩ := HB0.out.z8
  unfold rdV
  go_upto_region 36 with fail
  have hg2 : Blk (w5.alloc (.cells (rdC d5 q) 29)) w5.heap.size 29 (rdC d5 q) := Blk.new _ _ _
  have hk5 : Kp NoB w5 (w5.alloc (.cells (rdC d5 q) 29)) := (Kp.refl NoB w5).alloc _
  have h5 : Rf (w5.alloc (.cells (rdC d5 q) 29)) d5 (q) := HR.out.keep hk5
  unfold rdC at hg2 hk5 h5
  generalize hg : w5.heap.size = g at hg2 ⊢
  have hgl : s0 + 1 + 1 < g := by have := HB2.out.lt; omega
  generalize (w5.alloc (.cells #[.bool true, .bool (q).down, .slice d5.fA d5.fn d5.fc, .slice d5.pA d5.pn d5.pc, .int .i64 (q).room, .int .i64 (q).steps, .int .i64 (q).crash, .int .i64 (q).starts] 29)) = w6 at hg2 hk5 h5 ⊢
  have HG2 := zh (show Blk w6 g 29 (rdC d5 q) from hg2)
  have HGL := zh hgl
  have HKB := zh hk5
  clear hg2 hg hgl
  have HQ' := zh (HQ.out.keep hk5)
  have HB0' := zh (HB0.out.keep hk5 (fun q => q))
  have HB1' := zh (HB1.out.keep hk5 (fun q => q))
  have HB2' := zh (HB2.out.keep hk5 (fun q => q))
  have HR' := zh h5
  have HO' := zh (HO.out.keep (hk5.mono (fun _ _ q => q.elim)))
  clear hk5 h5 HQ HB0 HB1 HB2 HR HO c0 c1 c2 c3 c4 c5 c6 c7 y0 y1 y2 y3 y4 y5 y6 y7 z0 z1 z2 z3 z4 z5 z6 z7 x0 x1 x2 x3 x4 x5 x6 x7 o0 o1 o2 o3 o4 o5 o6 hl0 hl1 hl2
  have HQ := HQ'
  have HB0 := HB0'
  have HB1 := HB1'
  have HB2 := HB2'
  have HR := HR'
  have HO := HO'
  clear HQ' HB0' HB1' HB2' HR' HO'
  have hl2 := HB2.out.lt
  have hl1 := HB1.out.lt
  have hl0 := HB0.out.lt
  obtain ⟨o0, o1, o2, o3, o4, o5, o6⟩ := opC7 HB1.out
  obtain ⟨c0, c1, c2, c3, c4, c5, c6, c7⟩ := HB0.out.rdc
  obtain ⟨y0, y1, y2, y3, y4, y5, y6, y7⟩ := HB2.out.c8
  obtain ⟨z0, z1, z2, z3, z4, z5, z6, z7⟩ := HB2.out.z8
  obtain ⟨x0, x1, x2, x3, x4, x5, x6, x7⟩ := HB0.out.z8
  obtain ⟨g0, g1, g2, g3, g4, g5, g6, g7⟩ := HG2.out.rdc
  have hgs := HG2.out.lt
  have hgg : s0 < g ∧ s0 + 1 < g ∧ s0 + 1 + 1 < g := by have := HGL.out; omega
  go_wp2_with fail
  refine bodyPost_ret (ret_cell_tmp rfl _ _ _ _ _ _ rfl (blk8 HB2.out rfl) Tryz.underlying29 rfl (by exact infoRd) _ rfl) rfl ⟨d5, by rw [HRUN.out]; rfl, ?_, ?_⟩
  ·rw [HRUN.out]
   exact (HR.out).keepB (kp8 (Kp.refl _ w6) (.inr rfl)) HB2.out rdZ_str
  ·rw [HRUN.out]
   exact HB.out.fin HS0.out (HQ.out) (kp8 (Kp.refl _ w6) (.inr rfl))
 ·go_wp2_with fail
  clear hn
  refine (show Calls _ _ #[ptrV db, .string nmWal, .int .i64 x.at_, .string x.data] _ _ from write_q HB.out.q nmWal x.at_ x.data nmW_le HDL.out (sm_mono HSM.out (by omega))).mono ?_
  rintro e w4 ⟨rfl, hq⟩
  have HQ := zh hq
  obtain ⟨_, b0, b1, b2, r, o⟩ := HB.out.to hq.kp
  have HB0 := zh b0
  have HB1 := zh b1
  have HB2 := zh b2
  have HR := zh r
  have HO := zh o
  clear hq b0 b1 b2 r o c0 c1 c2 c3 c4 c5 c6 c7 y0 y1 y2 y3 y4 y5 y6 y7 z0 z1 z2 z3 z4 z5 z6 z7 x0 x1 x2 x3 x4 x5 x6 x7 o0 o1 o2 o3 o4 o5 o6 hl0 hl1 hl2
  have hl2 := HB2.out.lt
  have hl1 := HB1.out.lt
  have hl0 := HB0.out.lt
  obtain ⟨o0, o1, o2, o3, o4, o5, o6⟩ := opC7 HB1.out
  obtain ⟨c0, c1, c2, c3, c4, c5, c6, c7⟩ := HB0.out.rdc
  obtain ⟨y0, y1, y2, y3, y4, y5, y6, y7⟩ := HB2.out.c8
  obtain ⟨z0, z1, z2, z3, z4, z5, z6, z7⟩ := HB2.out.z8
  obtain ⟨x0, x1, x2, x3, x4, x5, x6, x7⟩ := HB0.out.z8
  go_wp2_with fail
  refine (show Calls _ _ #[rdV d p, .string nmWal, .int .i64 x.at_, .string x.data] _ _ from write_okR w4 d p nmWal x.at_ x.data HR.out nmW_le HDL.out HB.out.o.ra (by have := HSM.out; unfold Pl.sm at this; omega) (by have := HSM.out; unfold Pl.sm at this; omega)).mono ?_
  rintro e w5 ⟨d5, rfl, h5, hk5⟩
  obtain ⟨q, hqE⟩ : ∃ q, p.write nmWal x.at_ (strI x.data) = q := ⟨_, rfl⟩
  obtain ⟨E, hE⟩ : ∃ E, p.writeE nmWal x.at_ (strI x.data) = E := ⟨_, rfl⟩
  have HRUN := zh hqE
  rw [hqE] at h5 HQ ⊢
  rw [hE]
  clear hqE hE
  have HQ' := zh (HQ.out.keep hk5)
  have HB0' := zh (HB0.out.keep hk5 (fun q => q))
  have HB1' := zh (HB1.out.keep hk5 (fun q => q))
  have HB2' := zh (HB2.out.keep hk5 (fun q => q))
  have HR' := zh h5
  have HO' := zh (HO.out.keep (hk5.mono (fun _ _ q => q.elim)))
  clear hk5 h5 HQ HB0 HB1 HB2 HR HO c0 c1 c2 c3 c4 c5 c6 c7 y0 y1 y2 y3 y4 y5 y6 y7 z0 z1 z2 z3 z4 z5 z6 z7 x0 x1 x2 x3 x4 x5 x6 x7 o0 o1 o2 o3 o4 o5 o6 hl0 hl1 hl2
  have HQ := HQ'
  have HB0 := HB0'
  have HB1 := HB1'
  have HB2 := HB2'
  have HR := HR'
  have HO := HO'
  clear HQ' HB0' HB1' HB2' HR' HO'
  have hl2 := HB2.out.lt
  have hl1 := HB1.out.lt
  have hl0 := HB0.out.lt
  obtain ⟨o0, o1, o2, o3, o4, o5, o6⟩ := opC7 HB1.out
  obtain ⟨c0, c1, c2, c3, c4, c5, c6, c7⟩ := HB0.out.rdc
  obtain ⟨y0, y1, y2, y3, y4, y5, y6, y7⟩ := HB2.out.c8
  obtain ⟨z0, z1, z2, z3, z4, z5, z6, z7⟩ := HB2.out.z8
  obtain ⟨x0, x1, x2, x3, x4, x5, x6, x7⟩ := HB0.out.z8
  unfold rdV
  go_upto_region 36 with fail
  have hg2 : Blk (w5.alloc (.cells (rdC d5 q) 29)) w5.heap.size 29 (rdC d5 q) := Blk.new _ _ _
  have hk5 : Kp NoB w5 (w5.alloc (.cells (rdC d5 q) 29)) := (Kp.refl NoB w5).alloc _
  have h5 : Rf (w5.alloc (.cells (rdC d5 q) 29)) d5 (q) := HR.out.keep hk5
  unfold rdC at hg2 hk5 h5
  generalize hg : w5.heap.size = g at hg2 ⊢
  have hgl : s0 + 1 + 1 < g := by have := HB2.out.lt; omega
  generalize (w5.alloc (.cells #[.bool true, .bool (q).down, .slice d5.fA d5.fn d5.fc, .slice d5.pA d5.pn d5.pc, .int .i64 (q).room, .int .i64 (q).steps, .int .i64 (q).crash, .int .i64 (q).starts] 29)) = w6 at hg2 hk5 h5 ⊢
  have HG2 := zh (show Blk w6 g 29 (rdC d5 q) from hg2)
  have HGL := zh hgl
  have HKB := zh hk5
  clear hg2 hg hgl
  have HQ' := zh (HQ.out.keep hk5)
  have HB0' := zh (HB0.out.keep hk5 (fun q => q))
  have HB1' := zh (HB1.out.keep hk5 (fun q => q))
  have HB2' := zh (HB2.out.keep hk5 (fun q => q))
  have HR' := zh h5
  have HO' := zh (HO.out.keep (hk5.mono (fun _ _ q => q.elim)))
  clear hk5 h5 HQ HB0 HB1 HB2 HR HO c0 c1 c2 c3 c4 c5 c6 c7 y0 y1 y2 y3 y4 y5 y6 y7 z0 z1 z2 z3 z4 z5 z6 z7 x0 x1 x2 x3 x4 x5 x6 x7 o0 o1 o2 o3 o4 o5 o6 hl0 hl1 hl2
  have HQ := HQ'
  have HB0 := HB0'
  have HB1 := HB1'
  have HB2 := HB2'
  have HR := HR'
  have HO := HO'
  clear HQ' HB0' HB1' HB2' HR' HO'
  have hl2 := HB2.out.lt
  have hl1 := HB1.out.lt
  have hl0 := HB0.out.lt
  obtain ⟨o0, o1, o2, o3, o4, o5, o6⟩ := opC7 HB1.out
  obtain ⟨c0, c1, c2, c3, c4, c5, c6, c7⟩ := HB0.out.rdc
  obtain ⟨y0, y1, y2, y3, y4, y5, y6, y7⟩ := HB2.out.c8
  obtain ⟨z0, z1, z2, z3, z4, z5, z6, z7⟩ := HB2.out.z8
  obtain ⟨x0, x1, x2, x3, x4, x5, x6, x7⟩ := HB0.out.z8
  obtain ⟨g0, g1, g2, g3, g4, g5, g6, g7⟩ := HG2.out.rdc
  have hgs := HG2.out.lt
  have hgg : s0 < g ∧ s0 + 1 < g ∧ s0 + 1 + 1 < g := by have := HGL.out; omega
  go_wp2_with fail
  refine bodyPost_ret (ret_cell_tmp rfl _ _ _ _ _ _ rfl (blk8 HB2.out rfl) Tryz.underlying29 rfl (by exact infoRd) _ rfl) rfl ⟨d5, by rw [HRUN.out]; rfl, ?_, ?_⟩
  ·rw [HRUN.out]
   exact (HR.out).keepB (kp8 (Kp.refl _ w6) (.inr rfl)) HB2.out rdZ_str
  ·rw [HRUN.out]
   exact HB.out.fin HS0.out (HQ.out) (kp8 (Kp.refl _ w6) (.inr rfl))
end
end Go.Proofs.YtegcbdfilkecpaaGreat
