/- Texts of this proof, one behind the other: lemmas and contracts; each says its own conditions. -/
import Derived.Test.YtoeldmkbmnkhkaaGreatP2
import Derived.Test.YtoeldmkbmnkhkaaGreatP9
import Derived.Test.YtoeldmkbmnkhkaaGreatP10
import Derived.Test.YtoeldmkbmnkhkaaGreatP11
import Derived.Lib.SlMapFilter
import Derived.Maps.Ext
import Derived.Laws.IdiomRangeMap
/- The log: pages brought home; condition: a disk. -/
namespace Go.Proofs.YtoeldmkbmnkhkaaGreat
open Go.RowKit

def IntoW (F : Nat → Value → Act) (G : World → Nat → Value → Prop) : Exit → Act → World → Prop
  | .normal, a, w => ∃ g v, a = F g v ∧ G w g v
  | _, _, _ => False
theorem wp_intoW {P : Program} {c : Code} {Q : Exit → Act → World → Prop} {a : Act} {w : World} (F : Nat → Value → Act) (G : World → Nat → Value → Prop) (h : c.wp P (IntoW F G) a w) (k : ∀ g v w', G w' g v → Q .normal (F g v) w') : c.wp P Q a w :=
  Code.wp_mono (fun e a w q => by cases e <;> first | exact q.elim | (obtain ⟨g, v, rfl, hg⟩ := q; exact k g v _ hg)) h
theorem intoW_of {F : Nat → Value → Act} {G : World → Nat → Value → Prop} {a : Act} {w : World} (g : Nat) (v : Value) (q : G w g v) (e : a = F g v) : IntoW F G .normal a w := ⟨g, v, e, q⟩
theorem own_lt {w : World} {base size n : Nat} {e : TypeId} {v : Value} {xs : List Value} (h : w.ownsRow base e size v n xs) : ∀ b, v.ownBlock = some b → b < w.heap.size := fun b hb => by
  rcases h.2 with ⟨rfl, _⟩ | ⟨g, cap, cur, rfl, _, hh, _⟩
  · cases hb
  · have e1 : g = b := by injection hb
    rw [← e1]
    exact lt_of_heap hh
def CkRel (S : Nat → Prop) (w3 : World) (db : Nat) (l : List Pg) (T : Pl × Int) (v6 v34 : Value) (wr : World) : Prop :=
  ∃ (i : Nat) (e : Int) (q : Pl), v34 = .int .i64 (i : Int) ∧ v6 = .int .i64 e ∧ i ≤ l.length ∧ Dq S w3 wr db q ∧ q.sm (20000 * (l.length - i) + 120000) ∧ T = if e = 0 then q.runS (homeW (l.drop i)) else (q, e)
theorem pgs_ownW {w : World} {n0 : Nat} {v : Value} {l : List Pg} (h : OwnPgs w n0 v l) {s : Nat} (hs : l.length = s) : ∃ A cap, v = .slice A s cap ∧ PgsAt w A s l ∧ (∀ g o, A = some ⟨g, o, none⟩ → n0 ≤ g) := by
  subst hs
  obtain ⟨A, cap, rfl⟩ := own_slice h.1
  refine ⟨A, cap, rfl, RowsC.own (base := n0) (cap := cap) (e := 208) ?_ (by simp) ?_, fun g o e => ?_⟩
  · have h1 := h.1
    unfold pgsCells at h1
    rw [List.flatMap_def] at h1
    exact h1
  · intro y hy
    obtain ⟨x, hx, rfl⟩ := List.mem_map.1 hy
    exact pgL_len (h.2 x hx)
  · subst e
    rcases h.1.2 with ⟨h0, _⟩ | ⟨g', c, cur, hv, hb, _⟩
    · cases h0
    · injection hv with a b c
      injection a with a
      injection a with a b
      omega
theorem whome_len (p : Pl) (fs : List Fr) (m : Int) : (p.whome fs m).length ≤ (wcount p fs m).toNat := by
  unfold Pl.whome
  rw [List.length_map]
  exact Nat.le_trans (List.length_filter_le _ _) (by simp)
theorem wcheckS_eq (p : Pl) (fs : List Fr) (m : Int) : p.wcheckS fs m = (headS nmWal p.whead ++ homeW (p.whome fs m)) ++ ([⟨1, nmDb, wcount p fs m * 256, []⟩, ⟨2, nmDb, 0, []⟩] ++ if m = fs.length then headS nmWal ⟨0, 0, 0, 0⟩ else []) := by
  unfold Pl.wcheckS homeS
  simp only [List.append_assoc]
def CkPost (S : Nat → Prop) (w : World) (db : Nat) (p : Pl) (m : Int) (e : Ending) (w' : World) : Prop := e = .returned (.int .i64 (p.wcheck m).2) ∧ Dq S w w' db (p.wcheck m).1
section
variable {S : Nat → Prop} {w : World} {db : Nat} {p : Pl}
attribute [local go_sem ↓] loadPg storePg allocPg load26 store26 conv64 loadW4 storeW4
attribute [local go_sem] size_setCells
set_option maxRecDepth 100000 in
set_option maxHeartbeats 1600000 in
theorem wcheck_q (h : Dq S w w db p) (m : Int) (hm : p.sm 200000000) :
    Calls Tryz.prog 72 #[ptrV db, .int .i64 m] w (CkPost S w db p m) := by
  have H := Lib.hid h
  have HM := Lib.hid hm
  have HPST : Hid (∀ y q w', p.wcheck m = (q, y) → Dq S w w' db q → CkPost S w db p m (.returned (.int .i64 y)) w') := Lib.hid (fun y q w' e hd => by unfold CkPost; rw [e]; exact ⟨rfl, hd⟩)
  clear h hm
  obtain ⟨PP, hPP⟩ : ∃ PP, CkPost S w db p m = PP := ⟨_, rfl⟩
  rw [hPP] at HPST ⊢
  clear hPP
  unfold ptrV
  go_enter Tryz.func72, Tryz.ntmps72
  go_wp2_with fail
  refine (show Calls _ _ #[ptrV db, .int .i64 m] _ _ from asked_q H.out m).mono ?_
  rintro e w1 (⟨he, rfl, hk⟩ | ⟨he, lb, A, c, rfl, hl, hg, hk⟩)
  · have HK := Lib.hid hk
    have he1 : (p.wopen.1 == 0) = false := by simpa using he
    have he2 : (p.wopen.1 != 0) = true := by simpa using he
    have HR : Hid (p.wcheck m = (p, p.wopen.1)) := Lib.hid (by unfold Pl.wcheck; rw [if_pos he])
    obtain ⟨e0, q0⟩ : ∃ e0, p.wopen.1 = e0 := ⟨_, rfl⟩
    rw [q0] at he1 he2 HR ⊢
    clear hk he q0
    go_wp2_with fail
    exact HPST.out _ _ _ HR.out (H.out.keep (HK.out.trans ((Kp.refl NoB w1).alloc _) (fun _ _ q => q)))
  · have HK := Lib.hid hk
    have HL := Lib.hid hl
    have HE := Lib.hid he
    cases hmk : isMark p.wopen.2 m with
    | false =>
      have HR : Hid (p.wcheck m = (p, 4)) := Lib.hid (by unfold Pl.wcheck; rw [if_neg (by rw [he]; simp), if_pos hmk])
      rw [if_neg (by simp)]
      clear hk hl he hg hmk
      go_wp2_with fail
      exact HPST.out _ _ _ HR.out (H.out.keep (HK.out.trans ((Kp.refl NoB w1).alloc _) (fun _ _ q => q)))
    | true =>
      rw [if_pos rfl]
      by_cases h0 : m = 0
      · have HR : Hid (p.wcheck m = (p, 0)) := Lib.hid (by unfold Pl.wcheck; rw [if_neg (by rw [he]; simp), if_neg (by rw [hmk]; simp), if_pos h0])
        have h01 : (m == 0) = true := by simpa using h0
        clear hk hl he hg hmk
        subst h0
        go_wp2_with fail
        exact HPST.out _ _ _ HR.out (H.out.keep (HK.out.trans ((Kp.refl NoB w1).alloc _) (fun _ _ q => q)))
      · have HMK := Lib.hid hmk
        have h01 : (m == 0) = false := by simpa using h0
        obtain ⟨k, hmk2, hkl⟩ := mark_nat hmk
        have HWC : Hid (p.wcheck m = p.runS (p.wcheckS p.wopen.2 m)) := Lib.hid (by unfold Pl.wcheck; rw [if_neg (by rw [he]; simp), if_neg (by rw [hmk]; simp), if_neg h0])
        have HFL := Lib.hid (wopen_len he)
        have HRG : Hid (0 ≤ wcount p p.wopen.2 m ∧ wcount p p.wopen.2 m ≤ 4096) := Lib.hid (wcount_rng hl.ok (jcount_le H.out) hmk)
        have HLB : Hid (w.heap.size ≤ lb) := Lib.hid hg
        have hk0 : k ≠ 0 := fun e => h0 (by rw [hmk2, e]; rfl)
        subst hmk2
        have HKL := Lib.hid hkl
        clear hk hl he hg hmk h0 hkl
        dsimp only
        go_upto_region 4 with fail
        have hkL : Kp NoB w1 (w1.alloc (.cells #[.pointer (some ⟨lb, 0, none⟩)] 199)) := (Kp.refl NoB w1).alloc _
        have hbL : Blk (w1.alloc (.cells #[.pointer (some ⟨lb, 0, none⟩)] 199)) w1.heap.size 199 #[.pointer (some ⟨lb, 0, none⟩)] := Blk.new w1 199 #[.pointer (some ⟨lb, 0, none⟩)]
        generalize w1.alloc (.cells #[.pointer (some ⟨lb, 0, none⟩)] 199) = w2 at hkL hbL ⊢
        have HKW : Hid (Kp NoB w w2) := Lib.hid (HK.out.trans hkL (fun _ _ q => q))
        have HL2 : Hid (LgS w2 db lb p.whead A c p.wopen.2) := Lib.hid (HL.out.keep hkL)
        have HQ2 : Hid (Dq S w w2 db p) := Lib.hid (H.out.keep HKW.out)
        obtain ⟨B5, hb5⟩ : ∃ B5, w1.heap.size = B5 := ⟨_, rfl⟩
        rw [hb5] at hbL ⊢
        have HB5 : Hid (w.heap.size ≤ B5 ∧ B5 < w2.heap.size) := Lib.hid (by have := HK.out.size; have := hbL.lt; omega)
        have HBL := Lib.hid hbL
        obtain ⟨C, hC⟩ : ∃ C, wcount p p.wopen.2 (k : Int) = C := ⟨_, rfl⟩
        have HCC := Lib.hid hC
        obtain ⟨L, hL⟩ : ∃ L, p.whome p.wopen.2 (k : Int) = L := ⟨_, rfl⟩
        have HLL := Lib.hid hL
        clear hkL hbL hb5 hC hL
        apply wp_intoW (G := fun V g v => Blk V g 3 #[.int .i64 C] ∧ w2.heap.size ≤ g ∧ OwnPgs V w2.heap.size v L ∧ Kp NoB w2 V)
        · refine wp_region_held_drew (S := fun V => Kp NoB w2 V) (by kernel_rfl) (Kp.refl NoB w2).drew (fun hHeld => ?_)
          have k0' : Kp NoB w2 w2.drew := (Kp.refl NoB w2).drew
          generalize w2.drew = V0 at k0' hHeld ⊢
          refine tkS (i := 0) (v := (.pointer (some ⟨lb, 0, none⟩))) rfl (Or.inl ⟨by rfl, fun w' hq => by have cc : w'.cell? ⟨B5, 0, none⟩ = some (.pointer (some ⟨lb, 0, none⟩)) := (hq.cell HBL.out.lt (fun q => q)).trans (HBL.out.cell 0); go_simp⟩) k0' ?_
          simp only [Act.put, skA, skB, skC]
          refine tkS (i := 1) (v := (.int .i64 (k : Int))) rfl (Or.inl ⟨by rfl, fun w' hq => by go_simp⟩) k0' ?_
          simp only [Act.put, skA, skB, skC]
          refine tkS (i := 3) (v := (.pointer (some ⟨lb, 0, none⟩))) rfl (Or.inl ⟨by rfl, fun w' hq => by have cc : w'.cell? ⟨B5, 0, none⟩ = some (.pointer (some ⟨lb, 0, none⟩)) := (hq.cell HBL.out.lt (fun q => q)).trans (HBL.out.cell 0); go_simp⟩) k0' ?_
          simp only [Act.put, skA, skB, skC]
          refine tkS (i := 4) (v := (.int .i64 (k : Int))) rfl (Or.inl ⟨by rfl, fun w' hq => by go_simp⟩) k0' ?_
          simp only [Act.put, skA, skB, skC]
          refine wpAnyH_ready (rs := [2, 6]) (by kernel_rfl) (by simp) ?_
          refine AllReadyH.callR (fun y W' => y = .int .i64 C ∧ W' = V0) rfl (by rfl) 120 #[.pointer (some ⟨lb, 0, none⟩), .int .i64 (k : Int)] (by first | (go_simp; done) | (go_simp; rfl)) (fun _ _ z => by rw [z.2]; exact k0') ((wcount_q (HQ2.out.keep k0') (HL2.out.keep k0') _ HMK.out).mono (by rintro e w19 ⟨rfl, hw⟩; exact ⟨_, rfl, by rw [HCC.out], hw.symm⟩)) ?_ ?_
          · rintro y V0 ⟨rfl, rfl⟩
            simp only [Act.put, skA, skB, skC]
            refine wpAnyH_ready (rs := [5, 6]) (by kernel_rfl) (by simp) ?_
            refine AllReadyH.callR (fun y W' => OwnPgs W' w2.heap.size y L ∧ Kp NoB V0 W') rfl (by rfl) 121 #[.pointer (some ⟨lb, 0, none⟩), .int .i64 (k : Int)] (by first | (go_simp; done) | (go_simp; rfl)) (fun _ _ z => (k0').trans z.2 (fun _ _ q => q)) ((whome_q (HQ2.out.keep k0') (HL2.out.keep k0') k HKL.out HMK.out HFL.out).mono (by rintro e w19 ⟨v, rfl, ho, hk⟩; rw [HLL.out] at ho; exact ⟨v, rfl, ⟨ho.1.mono (Kp.size k0'), ho.2⟩, hk⟩)) ?_ ?_
            · rintro yv V1 ⟨hoy0, kk1⟩
              have k1 := k0'.trans kk1 (fun _ _ q => q)
              simp only [Act.put, skA, skB, skC]
              refine wpAnyH_ready (rs := [6]) (by kernel_rfl) (by simp) ?_
              refine AllReadyH.valR (fun W' => W' = V1.alloc (.cells #[.int .i64 0] 3)) rfl (by rfl) _ _ (allocIntW V1 _ _ _ _ _ _) (fun W' e => by rw [e]; exact (k1).alloc _) rfl ?_ AllReadyH.nil
              rintro _ rfl
              have hbA : Blk (V1.alloc (.cells #[.int .i64 0] 3)) V1.heap.size 3 #[.int .i64 0] := Blk.new _ _ _
              have k2 : Kp NoB w2 (V1.alloc (.cells #[.int .i64 0] 3)) := k1.alloc _
              have hoy : OwnPgs (V1.alloc (.cells #[.int .i64 0] 3)) w2.heap.size yv L := ⟨own_keepB hoy0.1 ((Kp.refl NoB V1).alloc _) (fun _ _ q => q), hoy0.2⟩
              have hgA : w2.heap.size ≤ V1.heap.size := k1.size
              have hny : ∀ b, yv.ownBlock = some b → b ≠ V1.heap.size := fun b hb e => by have := own_lt hoy0.1 b hb; omega
              generalize V1.alloc (.cells #[.int .i64 0] 3) = V2 at hbA k2 hoy ⊢
              generalize V1.heap.size = gA at hbA hgA hny ⊢
              simp only [Act.put, skA, skB, skC]
              refine wpAnyH_ready (rs := [7]) (by kernel_rfl) (by simp) ?_
              have kst : Kp NoB w2 (V2.setCell ⟨gA, 0, none⟩ (.int .i64 C)) := (k2).setCell (p := ⟨gA, 0, none⟩) (.inl hgA) _
              refine AllReadyH.skipR rfl (by rfl) _ (stIntW hbA _ rfl rfl) kst ?_ AllReadyH.nil
              have hbF := hbA.set_ 0 (.int .i64 C)
              have hoF : OwnPgs (V2.setCell ⟨gA, 0, none⟩ (.int .i64 C)) w2.heap.size yv L := ⟨own_keepB hoy.1 ((Kp.refl (OnB gA) _).setCell (p := ⟨gA, 0, none⟩) (.inr rfl) _) (fun b hb q => hny b hb q), hoy.2⟩
              generalize V2.setCell ⟨gA, 0, none⟩ (.int .i64 C) = WE at hbF hoF kst ⊢
              refine tkS (i := 8) (v := yv) rfl (Or.inl ⟨by rfl, fun w' hq => by go_simp⟩) kst ?_
              simp only [Act.put, skA, skB, skC]
              refine wpAnyH_done (by kernel_rfl) ?_ _
              exact intoW_of gA yv ⟨hbF, hgA, hoF, kst⟩ rfl
            · refine AllReadyH.valR (fun W' => W' = V0.alloc (.cells #[.int .i64 0] 3)) rfl (by rfl) _ _ (allocIntW V0 _ _ _ _ _ _) (fun W' e => by rw [e]; exact (k0').alloc _) rfl ?_ AllReadyH.nil
              rintro _ rfl
              have hbA0 : Blk (V0.alloc (.cells #[.int .i64 0] 3)) V0.heap.size 3 #[.int .i64 0] := Blk.new _ _ _
              have k1 : Kp NoB w2 (V0.alloc (.cells #[.int .i64 0] 3)) := k0'.alloc _
              have hgA : w2.heap.size ≤ V0.heap.size := k0'.size
              generalize V0.alloc (.cells #[.int .i64 0] 3) = V1 at hbA0 k1 ⊢
              generalize V0.heap.size = gA at hbA0 hgA ⊢
              simp only [Act.put, skA, skB, skC]
              refine wpAnyH_ready (rs := [5]) (by kernel_rfl) (by simp) ?_
              refine AllReadyH.callR (fun y W' => OwnPgs W' w2.heap.size y L ∧ (∀ b, y.ownBlock = some b → b ≠ gA) ∧ Kp NoB V1 W') rfl (by rfl) 121 #[.pointer (some ⟨lb, 0, none⟩), .int .i64 (k : Int)] (by first | (go_simp; done) | (go_simp; rfl)) (fun _ _ z => (k1).trans z.2.2 (fun _ _ q => q)) ((whome_q (HQ2.out.keep k1) (HL2.out.keep k1) k HKL.out HMK.out HFL.out).mono (by rintro e w19 ⟨v, rfl, ho, hk⟩; rw [HLL.out] at ho; exact ⟨v, rfl, ⟨ho.1.mono (Kp.size k1), ho.2⟩, (fun b hb e => by have h1 := own_ge ho.1 b hb; have h2 := hbA0.lt; omega), hk⟩)) ?_ AllReadyH.nil
              rintro yv V2 ⟨hoy, hny, kk2⟩
              have k2 := k1.trans kk2 (fun _ _ q => q)
              have hbA := hbA0.keep kk2 (fun q => q)
              simp only [Act.put, skA, skB, skC]
              refine wpAnyH_ready (rs := [7]) (by kernel_rfl) (by simp) ?_
              have kst : Kp NoB w2 (V2.setCell ⟨gA, 0, none⟩ (.int .i64 C)) := (k2).setCell (p := ⟨gA, 0, none⟩) (.inl hgA) _
              refine AllReadyH.skipR rfl (by rfl) _ (stIntW hbA _ rfl rfl) kst ?_ AllReadyH.nil
              have hbF := hbA.set_ 0 (.int .i64 C)
              have hoF : OwnPgs (V2.setCell ⟨gA, 0, none⟩ (.int .i64 C)) w2.heap.size yv L := ⟨own_keepB hoy.1 ((Kp.refl (OnB gA) _).setCell (p := ⟨gA, 0, none⟩) (.inr rfl) _) (fun b hb q => hny b hb q), hoy.2⟩
              generalize V2.setCell ⟨gA, 0, none⟩ (.int .i64 C) = WE at hbF hoF kst ⊢
              refine tkS (i := 8) (v := yv) rfl (Or.inl ⟨by rfl, fun w' hq => by go_simp⟩) kst ?_
              simp only [Act.put, skA, skB, skC]
              refine wpAnyH_done (by kernel_rfl) ?_ _
              exact intoW_of gA yv ⟨hbF, hgA, hoF, kst⟩ rfl
          · refine AllReadyH.valR (fun W' => W' = V0.alloc (.cells #[.int .i64 0] 3)) rfl (by rfl) _ _ (allocIntW V0 _ _ _ _ _ _) (fun W' e => by rw [e]; exact (k0').alloc _) rfl ?_ AllReadyH.nil
            rintro _ rfl
            have hbA0 : Blk (V0.alloc (.cells #[.int .i64 0] 3)) V0.heap.size 3 #[.int .i64 0] := Blk.new _ _ _
            have k1 : Kp NoB w2 (V0.alloc (.cells #[.int .i64 0] 3)) := k0'.alloc _
            have hgA : w2.heap.size ≤ V0.heap.size := k0'.size
            generalize V0.alloc (.cells #[.int .i64 0] 3) = V1 at hbA0 k1 ⊢
            generalize V0.heap.size = gA at hbA0 hgA ⊢
            simp only [Act.put, skA, skB, skC]
            refine wpAnyH_ready (rs := [2]) (by kernel_rfl) (by simp) ?_
            refine AllReadyH.callR (fun y W' => y = .int .i64 C ∧ W' = V1) rfl (by rfl) 120 #[.pointer (some ⟨lb, 0, none⟩), .int .i64 (k : Int)] (by first | (go_simp; done) | (go_simp; rfl)) (fun _ _ z => by rw [z.2]; exact k1) ((wcount_q (HQ2.out.keep k1) (HL2.out.keep k1) _ HMK.out).mono (by rintro e w19 ⟨rfl, hw⟩; exact ⟨_, rfl, by rw [HCC.out], hw.symm⟩)) ?_ AllReadyH.nil
            rintro y V1 ⟨rfl, rfl⟩
            simp only [Act.put, skA, skB, skC]
            refine wpAnyH_ready (rs := [5]) (by kernel_rfl) (by simp) ?_
            refine AllReadyH.callR (fun y W' => OwnPgs W' w2.heap.size y L ∧ (∀ b, y.ownBlock = some b → b ≠ gA) ∧ Kp NoB V1 W') rfl (by rfl) 121 #[.pointer (some ⟨lb, 0, none⟩), .int .i64 (k : Int)] (by first | (go_simp; done) | (go_simp; rfl)) (fun _ _ z => (k1).trans z.2.2 (fun _ _ q => q)) ((whome_q (HQ2.out.keep k1) (HL2.out.keep k1) k HKL.out HMK.out HFL.out).mono (by rintro e w19 ⟨v, rfl, ho, hk⟩; rw [HLL.out] at ho; exact ⟨v, rfl, ⟨ho.1.mono (Kp.size k1), ho.2⟩, (fun b hb e => by have h1 := own_ge ho.1 b hb; have h2 := hbA0.lt; omega), hk⟩)) ?_ AllReadyH.nil
            rintro yv V2 ⟨hoy, hny, kk2⟩
            have k2 := k1.trans kk2 (fun _ _ q => q)
            have hbA := hbA0.keep kk2 (fun q => q)
            simp only [Act.put, skA, skB, skC]
            refine wpAnyH_ready (rs := [7]) (by kernel_rfl) (by simp) ?_
            have kst : Kp NoB w2 (V2.setCell ⟨gA, 0, none⟩ (.int .i64 C)) := (k2).setCell (p := ⟨gA, 0, none⟩) (.inl hgA) _
            refine AllReadyH.skipR rfl (by rfl) _ (stIntW hbA _ rfl rfl) kst ?_ AllReadyH.nil
            have hbF := hbA.set_ 0 (.int .i64 C)
            have hoF : OwnPgs (V2.setCell ⟨gA, 0, none⟩ (.int .i64 C)) w2.heap.size yv L := ⟨own_keepB hoy.1 ((Kp.refl (OnB gA) _).setCell (p := ⟨gA, 0, none⟩) (.inr rfl) _) (fun b hb q => hny b hb q), hoy.2⟩
            generalize V2.setCell ⟨gA, 0, none⟩ (.int .i64 C) = WE at hbF hoF kst ⊢
            refine tkS (i := 8) (v := yv) rfl (Or.inl ⟨by rfl, fun w' hq => by go_simp⟩) kst ?_
            simp only [Act.put, skA, skB, skC]
            refine wpAnyH_done (by kernel_rfl) ?_ _
            exact intoW_of gA yv ⟨hbF, hgA, hoF, kst⟩ rfl
        rintro B7 v8 w3 ⟨hb7, hg7, ho7, hk7⟩
        have HCR : Hid (0 ≤ C ∧ C ≤ 4096) := Lib.hid (by rw [← HCC.out]; exact HRG.out)
        have HPO : Hid (PgsOk L) := Lib.hid ⟨ho7.2, fun x hx => by
          rw [← HLL.out] at hx
          obtain ⟨h1, h2, -⟩ := (whome_mem _ _ _ _).1 hx
          rw [HCC.out] at h2
          have := HCR.out
          omega⟩
        obtain ⟨N, hN⟩ : ∃ N, L.length = N := ⟨_, rfl⟩
        have HLN := Lib.hid hN
        have HN4 : Hid (N ≤ 4096) := Lib.hid (by
          have h1 := whome_len p p.wopen.2 (k : Int)
          rw [HCC.out, HLL.out, hN] at h1
          have := HCR.out
          omega)
        obtain ⟨A8, c8, rfl, hpg, hpa⟩ := pgs_ownW ho7 hN
        have HPG := Lib.hid hpg
        have HKW3 : Hid (Kp NoB w w3) := Lib.hid (HKW.out.trans hk7 (fun _ _ q => q))
        have HAP : Hid (Apart S A8 N) := Lib.hid (fun g o e hn q => by have := H.out.lt _ q; have := hpa g o e; have := HKW.out.size; omega)
        have H3 : Hid (Dq S w3 w3 db p) := Lib.hid (H.out.base1 HKW3.out)
        have HLG : Hid (Blk w3 lb 204 (lgC db p.whead A p.wopen.2.length c)) := Lib.hid (HL2.out.b.keep hk7 (fun q => q))
        have HB53 := Lib.hid (HBL.out.keep hk7 (fun q => q))
        have HB73 := Lib.hid hb7
        have HNL : Hid (¬ S lb ∧ ¬ S B5 ∧ ¬ S B7) := Lib.hid (by
          have h1 := H.out.lt
          have h2 := HB5.out
          have h3 := HKW.out.size
          have h4 := HLB.out
          exact ⟨fun q => by have := h1 _ q; omega, fun q => by have := h1 _ q; omega, fun q => by have := h1 _ q; omega⟩)
        have c5 := HB53.out.cell 0
        clear hb7 hg7 ho7 hk7 hN hpg hpa
        go_wp2_with fail
        refine (wheal_q H3.out HLG.out HNL.out.1 (sm_mono HM.out (by omega))).mono ?_
        rintro e w4 ⟨rfl, h4⟩
        obtain ⟨T, hT⟩ : ∃ T, p.runS (headS nmWal p.whead ++ homeW L) = T := ⟨_, rfl⟩
        have HT := Lib.hid hT
        have hT2 := hT
        rw [runS_append] at hT2
        have HM1 : Hid ((p.runS (headS nmWal p.whead)).1.sm (20000 * (L.length - 0) + 120000)) := Lib.hid (sm_run (headS nmWal p.whead) (k := 20000 * (L.length - 0) + 120000) (sm_mono HM.out (by have := HN4.out; have := HLN.out; simp [headS]; omega)))
        obtain ⟨R0, hR0⟩ : ∃ R0, p.runS (headS nmWal p.whead) = R0 := ⟨_, rfl⟩
        rw [hR0] at h4 hT2 HM1 ⊢
        obtain ⟨q0, e0⟩ := R0
        dsimp only at h4 hT2 HM1 ⊢
        have HSTART : Hid (CkRel S w3 db L T (.int .i64 e0) (.int .i64 0) w4) := Lib.hid ⟨0, e0, q0, rfl, rfl, Nat.zero_le _, h4, HM1.out, hT2.symm⟩
        clear h4 hT hT2 hR0 c5
        go_wp2_with fail
        go_loopw [6, 34] (fun v6 v34 wr => CkRel S w3 db L T v6 v34 wr) (fun _ v _ => N - (intOf v).toNat)
        case atStart => exact HSTART.out
        case round =>
          obtain ⟨wq, rfl⟩ : ∃ wq, wq = wr := ⟨_, rfl⟩
          obtain ⟨i, e, q, rfl, rfl, hi, hq, hqm, hTe⟩ := hrel
          have hN5 : N ≤ 4096 := HN4.out
          have HQ := Lib.hid hq
          have HQM := Lib.hid hqm
          have HTE := Lib.hid hTe
          have hlr : PgsAt wq A8 N L := RowsC.keepS HPG.out hq.kp (fun g o e hn => HAP.out g o e hn)
          have HB5q := Lib.hid (HB53.out.keep hq.kp HNL.out.2.1)
          have HLGq := Lib.hid (HLG.out.keep hq.kp HNL.out.1)
          have HB7q := Lib.hid (HB73.out.keep hq.kp HNL.out.2.2)
          by_cases hlt : i < N
          · have hii : (i : Int) < (N : Int) := by omega
            obtain ⟨g, o, rfl, hg, t1, r1⟩ := hlr.at_ i hlt
            obtain ⟨x, hx⟩ : ∃ x, L[i]? = some x := ⟨_, List.getElem?_eq_getElem (by rw [HLN.out]; exact hlt)⟩
            have hxe : L[i]'(by rw [HLN.out]; exact hlt) = x := (List.getElem?_eq_some_iff.1 hx).2
            rw [hxe] at r1
            have hxm : x ∈ L := List.mem_of_getElem? hx
            have hxo := HPO.out.ok x hxm
            have hxn := HPO.out.n x hxm
            have hdr : L.drop i = x :: L.drop (i + 1) := by rw [← hxe]; exact List.drop_eq_getElem_cons (by rw [HLN.out]; exact hlt)
            have HDR := Lib.hid hdr
            have hb := Blk.new wq 208 (pgA ⟨0, zeros 256⟩)
            have hb2 := hb.whole (pgA x) (by rw [pgA_size hxo]; rfl)
            have t2 := hb.thereAll 257 rfl
            have o1 := pgA_ones x
            have s1 := pgA_size hxo
            have hc0 := hb2.cell 0
            rw [show (pgA x)[0]? = some (.int .i64 x.n) from rfl] at hc0
            obtain ⟨hby, hrd⟩ := pg_by hb2 hxo
            have hk3 : Kp NoB wq ((wq.alloc (.cells (pgA ⟨0, zeros 256⟩) 208)).setCells wq.heap.size 0 (pgA x).toList) := Kp.setCells (.inl (Nat.le_refl _)) _ _ _ ((Kp.refl _ _).alloc _)
            have HK3 := Lib.hid hk3
            have HXO := Lib.hid hxo
            have HXN := Lib.hid hxn
            by_cases he0 : e = 0
            · subst he0
              have HTE1 : Hid (T = q.runS (homeW (L.drop i))) := Lib.hid (by have h5 := HTE.out; rw [if_pos rfl] at h5; exact h5)
              have hG : wq.heap.size < ((wq.alloc (.cells (pgA ⟨0, zeros 256⟩) 208)).setCells wq.heap.size 0 (pgA x).toList).heap.size := by rw [size_setCells]; simp
              have HG := Lib.hid hG
              generalize hRR : pgA x = RR at r1 o1 s1 hc0 hby hrd HK3 HG ⊢
              clear hRR hk3 hxo hxn hq hqm hTe hlr hb hb2 hG hx hxe hxm hdr
              go_upto_region 10 with fail
              generalize hW3 : (wq.alloc (.cells (pgA ⟨0, zeros 256⟩) 208)).setCells wq.heap.size 0 RR.toList = w5 at hc0 hby hrd HK3 HG ⊢
              obtain ⟨G, hGG⟩ : ∃ G, wq.heap.size = G := ⟨_, rfl⟩
              rw [hGG] at hc0 hby hrd HG ⊢
              have HGG := Lib.hid hGG
              clear hGG hW3 t2 t1 r1
              have hwn : IntKind.i64.wrap (x.n - 1) = x.n - 1 := by have := HXN.out; rw [IntKind.wrap_i64]; omega
              have hwm : IntKind.i64.wrap ((x.n - 1) * 256) = (x.n - 1) * 256 := by have := HXN.out; rw [IntKind.wrap_i64]; omega
              have HSZ : Hid ((strOf x.b).size ≤ maxLen) := Lib.hid (by rw [strOf_size, HXO.out.len]; decide)
              have HSI : Hid (strI (strOf x.b) = x.b) := Lib.hid (strI_strOf _ HXO.out.rng)
              obtain ⟨S2, hq2, hS2⟩ := HQ.out.base
              have HQ2b := Lib.hid hq2
              have HS2 := Lib.hid hS2
              have H5 := Lib.hid (hq2.base1 HK3.out.drew)
              have HM2 := Lib.hid (sm_mono HQM.out (show 20000 ≤ 20000 * (L.length - i) + 120000 by omega))
              have hcB : w5.cell? ⟨B5, 0, none⟩ = some (.pointer (some ⟨lb, 0, none⟩)) := (HB5q.out.keep HK3.out (fun q => q)).cell 0
              have hcd : w5.cell? ⟨lb, 0, none⟩ = some (.pointer (some ⟨db, 0, none⟩)) := (HLGq.out.keep HK3.out (fun q => q)).cell 0
              have HCB := Lib.hid hcB
              have HCD := Lib.hid hcd
              have HC0 := Lib.hid hc0
              have HBY := Lib.hid hby
              have HRD := Lib.hid hrd
              obtain ⟨xn, hxn⟩ : ∃ xn, x.n = xn := ⟨_, rfl⟩
              obtain ⟨xb, hxb⟩ : ∃ xb, x.b = xb := ⟨_, rfl⟩
              rw [hxn] at hc0 hwn hwm HC0
              rw [hxb] at hrd HSZ HSI HRD
              have HXN2 := Lib.hid hxn
              have HXB2 := Lib.hid hxb
              have HNS2 : Hid (¬ S2 lb ∧ ¬ S2 B5 ∧ ¬ S2 G) := Lib.hid ⟨fun z => by
                  rcases hS2 _ z with y | y
                  · exact HNL.out.1 y
                  · have := HLG.out.lt; omega, fun z => by
                  rcases hS2 _ z with y | y
                  · exact HNL.out.2.1 y
                  · have := HB53.out.lt; omega, fun z => by have := hq2.lt _ z; have := HGG.out; omega⟩
              clear hq2 hS2 hxn hxb
              go_region_held3 (fun w' => w'.cell? ⟨B5, 0, none⟩ = some (.pointer (some ⟨lb, 0, none⟩)) ∧ w'.cell? ⟨lb, 0, none⟩ = some (.pointer (some ⟨db, 0, none⟩)) ∧ w'.cell? ⟨G, 0, none⟩ = some (.int .i64 xn) ∧ byAt w' G 1 256 ∧ byRd w' G 1 256 = xb)
                (first | exact ⟨hcB, hcd, hc0, hby, hrd⟩ | exact ⟨heB, he1, he0, he2⟩ | go_keep)
                (first
                  | (go_at_call 123; go_must (refine (show Calls _ _ #[ptrV db, .string nmDb, .int .i64 ((xn - 1) * 256), .string (strOf xb)] _ _ from write_q H5.out nmDb ((xn - 1) * 256) (strOf xb) nmDb_le HSZ.out HM2.out).mono ?_); rintro e w6 ⟨rfl, h6⟩; rw [HSI.out] at h6; rw [HSI.out]; have H6 := Lib.hid h6
                     have heB := (h6.kp.cell (block_lt_of_cell HCB.out) HNS2.out.2.1).trans HCB.out
                     have he1 := (h6.kp.cell (block_lt_of_cell HCD.out) HNS2.out.1).trans HCD.out
                     have he0 := (h6.kp.cell HG.out HNS2.out.2.2).trans HC0.out
                     have he2 := by_keep h6.kp HG.out HNS2.out.2.2 HBY.out HRD.out
                     clear h6))
              have h61 := Dq.tr (w0 := w3) H6.out (HQ.out.kp.trans HK3.out.drew (fun _ _ z => z.elim)) HS2.out HQ.out.lt
              have H61 := Lib.hid h61
              have HMW : Hid ((q.write nmDb ((xn - 1) * 256) xb).sm (20000 * (L.length - (i + 1)) + 120000)) := Lib.hid (sm_write _ _ _ (sm_mono HQM.out (by have := HLN.out; omega)))
              have HTN : Hid (T = if q.writeE nmDb ((xn - 1) * 256) xb = 0 then (q.write nmDb ((xn - 1) * 256) xb).runS (homeW (L.drop (i + 1))) else (q.write nmDb ((xn - 1) * 256) xb, q.writeE nmDb ((xn - 1) * 256) xb)) := Lib.hid (by
                rw [HTE1.out, HDR.out]
                show q.runS (⟨0, nmDb, (x.n - 1) * 256, x.b⟩ :: homeW (L.drop (i + 1))) = _
                rw [runS_cons, stE0, stP0, HXN2.out, HXB2.out])
              clear heB he1 he0 he2 hcB hcd hc0 hby hrd h61
              obtain ⟨er, her⟩ : ∃ er, q.writeE nmDb ((xn - 1) * 256) xb = er := ⟨_, rfl⟩
              obtain ⟨qw, hqw⟩ : ∃ qw, q.write nmDb ((xn - 1) * 256) xb = qw := ⟨_, rfl⟩
              rw [her, hqw] at HTN
              rw [hqw] at HMW H61
              rw [her]
              clear her hqw
              have HREL : Hid (CkRel S w3 db L T (.int .i64 er) (.int .i64 ((i : Int) + 1)) w6) := Lib.hid ⟨i + 1, er, qw, rfl, rfl, by have := HLN.out; omega, H61.out, HMW.out, HTN.out⟩
              go_wp2_with fail
              go_roundw
              case rel => exact HREL.out
              case measure => simp [intOf]; omega
            · have he1 : (e == 0) = false := by simpa using he0
              have HREL : Hid (CkRel S w3 db L T (.int .i64 e) (.int .i64 ((i : Int) + 1)) ((wq.alloc (.cells (pgA ⟨0, zeros 256⟩) 208)).setCells wq.heap.size 0 (pgA x).toList)) := Lib.hid ⟨i + 1, e, q, rfl, rfl, by have := HLN.out; omega, hq.keep hk3, sm_mono hqm (by have := HLN.out; omega), by rw [hTe, if_neg he0, if_neg he0]⟩
              generalize hRR : pgA x = RR at r1 o1 s1 HREL ⊢
              clear hRR hk3 hxo hxn hq hqm hTe hlr hb hb2 hx hxe hxm hdr hc0 hby hrd HK3 he0
              go_wp2_with fail
              go_roundw
              case rel => exact HREL.out
              case measure => simp [intOf]; omega
          · have hii : ¬ (i : Int) < (N : Int) := by omega
            obtain rfl : i = N := by have := HLN.out; omega
            have hTq : T = (q, e) := by
              rw [hTe, List.drop_eq_nil_iff.2 (by rw [HLN.out]; exact Nat.le_refl _)]
              by_cases h0 : e = 0
              · rw [if_pos h0, h0]; rfl
              · rw [if_neg h0]
            have HTQ := Lib.hid hTq
            have HWE : Hid (p.wcheck (k : Int) = if e = 0 then q.runS ([⟨1, nmDb, C * 256, []⟩, ⟨2, nmDb, 0, []⟩] ++ if (k : Int) = p.wopen.2.length then headS nmWal ⟨0, 0, 0, 0⟩ else []) else (q, e)) := Lib.hid (by
              rw [HWC.out, wcheckS_eq, HLL.out, HCC.out, runS_append, HT.out, hTq])
            clear hTe hTq hlr
            by_cases he0 : e = 0
            · subst he0
              have HW1 : Hid (p.wcheck (k : Int) = q.runS ([⟨1, nmDb, C * 256, []⟩, ⟨2, nmDb, 0, []⟩] ++ if (k : Int) = p.wopen.2.length then headS nmWal ⟨0, 0, 0, 0⟩ else [])) := Lib.hid (by have h5 := HWE.out; rw [if_pos rfl] at h5; exact h5)
              obtain ⟨S2, hq2, hS2⟩ := HQ.out.base
              have HQ2b := Lib.hid hq2
              have HS2 := Lib.hid hS2
              have HNS2 : Hid (¬ S2 lb ∧ ¬ S2 B5 ∧ ¬ S2 B7) := Lib.hid ⟨fun z => by
                  rcases hS2 _ z with y | y
                  · exact HNL.out.1 y
                  · have := HLG.out.lt; omega, fun z => by
                  rcases hS2 _ z with y | y
                  · exact HNL.out.2.1 y
                  · have := HB53.out.lt; omega, fun z => by
                  rcases hS2 _ z with y | y
                  · exact HNL.out.2.2 y
                  · have := HB73.out.lt; omega⟩
              have HCK : Hid (CkK db lb p.whead A c p.wopen.2.length B5 B7 C S2 wq) := Lib.hid ⟨⟨HLGq.out, HNS2.out.1⟩, ⟨HB5q.out, HNS2.out.2.1⟩, HB7q.out, HNS2.out.2.2⟩
              have HM2 := Lib.hid (sm_mono hqm (show 120000 ≤ 20000 * (L.length - i) + 120000 by omega))
              clear hq hqm hq2 hS2
              go_wp2_with fail
              refine (wck_all HQ2b.out p.wopen.2.length B5 B7 C HCR.out HCK.out (sm_mono HM2.out (by omega))).mono ?_
              rintro e w7 ⟨rfl, h7⟩
              obtain ⟨U, hU⟩ : ∃ U, q.runS [⟨1, nmDb, C * 256, []⟩, ⟨2, nmDb, 0, []⟩] = U := ⟨_, rfl⟩
              have HMU : Hid (U.1.sm 80000) := Lib.hid (by rw [← hU]; exact sm_run [⟨1, nmDb, C * 256, []⟩, ⟨2, nmDb, 0, []⟩] (k := 80000) (sm_mono HM2.out (by simp)))
              have HW2 : Hid (p.wcheck (k : Int) = if U.2 = 0 then U.1.runS (if (k : Int) = p.wopen.2.length then headS nmWal ⟨0, 0, 0, 0⟩ else []) else U) := Lib.hid (by rw [HW1.out, runS_append, hU])
              rw [hU] at h7 ⊢
              have H7 := Lib.hid h7
              have H73 : Hid (Dq S w3 w7 db U.1) := Lib.hid (Dq.tr (w0 := w3) h7 HQ.out.kp HS2.out HQ.out.lt)
              have c5 := (HB5q.out.keep h7.kp HNS2.out.2.1).cell 0
              have cl5 := (HLGq.out.keep h7.kp HNS2.out.1).cell 5
              have HFIN : Hid (∀ q' w', Dq S w3 w' db q' → Dq S w w' db q') := Lib.hid (fun q' w' hd => Dq.up (H.out.base1 HKW3.out) HKW3.out H.out.lt hd)
              clear h7 hU
              obtain ⟨u, ue⟩ := U
              dsimp only at HMU HW2 H7 H73 ⊢
              by_cases hu : ue = 0
              · subst hu
                by_cases hkk : k = p.wopen.2.length
                · have HW3 : Hid (p.wcheck (k : Int) = u.runS (headS nmWal ⟨0, 0, 0, 0⟩)) := Lib.hid (by rw [HW2.out, if_pos rfl, if_pos (by omega)])
                  have HLG7 := Lib.hid (HLGq.out.keep H7.out.kp HNS2.out.1)
                  obtain ⟨S3, h8, hS3⟩ := H7.out.base
                  have H8 := Lib.hid h8
                  have HS3 := Lib.hid hS3
                  have HN3 : Hid (¬ S3 lb) := Lib.hid (fun z => by
                    rcases hS3 _ z with y | y
                    · exact HNS2.out.1 y
                    · have := HLGq.out.lt; omega)
                  have cl6 : w7.cell? ⟨lb, 5, none⟩ = some (.slice A k c) := by rw [hkk]; exact cl5
                  clear h8 hS3 cl5 hkk
                  go_wp2_with fail
                  refine (show Calls _ _ #[_, .agg (w4A ⟨0, 0, 0, 0⟩)] _ _ from wseal_q H8.out (HLG7.out.cell 0) HN3.out ⟨0, 0, 0, 0⟩ (sm_mono HMU.out (by omega))).mono ?_
                  rintro e w9 ⟨rfl, h9⟩
                  have H9 : Hid (Dq S w w9 db (u.runS (headS nmWal ⟨0, 0, 0, 0⟩)).1) := Lib.hid (HFIN.out _ _ (Dq.tr (w0 := w3) (Dq.tr (w0 := wq) h9 H7.out.kp HS3.out H7.out.lt) HQ.out.kp HS2.out HQ.out.lt))
                  obtain ⟨RU, hRU⟩ : ∃ RU, u.runS (headS nmWal ⟨0, 0, 0, 0⟩) = RU := ⟨_, rfl⟩
                  rw [hRU] at H9 HW3 ⊢
                  clear h9 hRU
                  obtain ⟨ru, re⟩ := RU
                  go_wp2_with fail
                  exact HPST.out _ _ _ HW3.out H9.out
                · have HW3 : Hid (p.wcheck (k : Int) = (u, 0)) := Lib.hid (by rw [HW2.out, if_pos rfl, if_neg (by omega)]; rfl)
                  obtain ⟨NL, hNL⟩ : ∃ NL, p.wopen.2.length = NL := ⟨_, rfl⟩
                  have cl6 : w7.cell? ⟨lb, 5, none⟩ = some (.slice A NL c) := by rw [← hNL]; exact cl5
                  have hbk : ((k : Int) == (NL : Int)) = false := by
                    rw [beq_eq_false_iff_ne]
                    omega
                  have hbn : ¬ k = NL := fun e => hkk (e.trans hNL.symm)
                  clear cl5 hNL hkk
                  go_wp2_with fail
                  exact HPST.out _ _ _ HW3.out (HFIN.out _ _ H73.out)
              · have HW3 : Hid (p.wcheck (k : Int) = (u, ue)) := Lib.hid (by rw [HW2.out, if_neg hu])
                have hu1 : (ue == 0) = false := by simpa using hu
                have hu2 : (ue != 0) = true := by simpa using hu
                clear hu
                go_wp2_with fail
                exact HPST.out _ _ _ HW3.out (HFIN.out _ _ H73.out)
            · have HW1 : Hid (p.wcheck (k : Int) = (q, e)) := Lib.hid (by have h5 := HWE.out; rw [if_neg he0] at h5; exact h5)
              have he1 : (e == 0) = false := by simpa using he0
              have he2 : (e != 0) = true := by simpa using he0
              have HF : Hid (Dq S w wq db q) := Lib.hid (Dq.up (H.out.base1 HKW3.out) HKW3.out H.out.lt hq)
              clear hq hqm he0
              go_wp2_with fail
              exact HPST.out _ _ _ HW1.out HF.out
end
end Go.Proofs.YtoeldmkbmnkhkaaGreat
/- By the journal, by the log: what the two ways answer; condition: a disk that is not over-full of changes. -/
namespace Go.Proofs.YtoeldmkbmnkhkaaGreat
open Go.RowKit

section
attribute [local go_sem ↓] load26 store26 alloc26 build26
variable {L : Lab} {w : World} {sb db lb : Nat} {tb : Nat → Nat} {s : SdS} {ts : Nat → Option TxS}
theorem mark_j (p : Nat) (w : World) : Calls Tryz.prog 220 #[.agg #[ptrV p]] w fun e w' => e = .returned (.tuple #[.int .i64 0, .int .i64 0]) ∧ Kp NoB w w' := by
  unfold ptrV
  go_enter Tryz.func220, Tryz.ntmps220
  go_wp2
  go_ret2
  exact ⟨rfl, (Kp.refl _ _).alloc _⟩
theorem first_j (p : Nat) (w : World) : Calls Tryz.prog 218 #[.agg #[ptrV p]] w fun e w' => e = .returned (.int .i64 1) ∧ Kp NoB w w' := by
  unfold ptrV
  go_enter Tryz.func218, Tryz.ntmps218
  go_wp2
  go_ret
  exact ⟨rfl, (Kp.refl _ _).alloc _⟩
theorem count_j (h : Dsk L w db s.p) (m : Int) : Calls Tryz.prog 217 #[.agg #[ptrV db], .int .i64 m] w fun e w' => e = .returned (.int .i64 s.p.jcount) ∧ Kp NoB w w' := by
  have H := Lib.hid h
  clear h
  unfold ptrV
  go_enter Tryz.func217, Tryz.ntmps217
  go_wp2_with (go_at_call 155; refine (show Calls _ _ #[ptrV db] _ _ from count_q (H.out.keep ((Kp.refl NoB w).alloc _) (fun _ q => q.elim) (fun _ _ _ q => q))).mono ?_; rintro e w1 ⟨rfl, rfl⟩)
  go_ret
  exact ⟨rfl, (Kp.refl _ _).alloc _⟩
end
end Go.Proofs.YtoeldmkbmnkhkaaGreat
/- A transaction's count and pages; no condition. -/
namespace Go.Proofs.YtoeldmkbmnkhkaaGreat
open Go.RowKit

theorem TxS.okE_cases (s : SdS) (t : TxS) : t.okE s = 7 ∨ t.okE s = 0 := by
  unfold TxS.okE
  split
  · exact .inl rfl
  · exact .inr rfl
section
variable {L : Lab} {w : World} {sb db lb : Nat} {tb : Nat → Nat} {s : SdS} {ts : Nat → Option TxS} {i : Nat} {t : TxS}
theorem count_t (h : Sys L w sb db lb tb s ts) (ht : ts i = some t) : Calls Tryz.prog 16 #[ptrV (tb i)] w fun e w' => e = .returned (.int .i64 (t.cnt s)) ∧ Kp NoB w w' := by
  obtain ⟨_, _, mb, sm, A, cap, ms, hn⟩ := h.tx i t ht
  have hok := ok_t h ht
  have HB := Lib.hid hn.blk
  clear h hn ht
  unfold TxS.cnt
  unfold ptrV at *
  rcases TxS.okE_cases s t with ho | ho
  all_goals
    rw [ho] at hok ⊢
    have HO := Lib.hid hok
    clear hok ho
    go_enter Tryz.func16, Tryz.ntmps16
    go_wp2_with (go_at_call 66; refine HO.out.mono ?_; rintro e w1 ⟨rfl, hk⟩; have c1 : w1.cell? ⟨tb i, 1, none⟩ = some (.int .i64 t.count) := (HB.out.keep hk (fun q => q)).cell 1)
    go_ret
    exact ⟨rfl, hk⟩
theorem writer_t (h : Sys L w sb db lb tb s ts) (ht : ts i = some t) : Calls Tryz.prog 87 #[ptrV (tb i)] w fun e w' => e = .returned (.int .i64 (t.writerE s)) ∧ Kp NoB w w' := by
  obtain ⟨_, _, mb, sm, A, cap, ms, hn⟩ := h.tx i t ht
  have hok := ok_t h ht
  have HB := Lib.hid hn.blk
  clear h hn ht
  unfold TxS.writerE
  unfold ptrV at *
  obtain ⟨tw, htw⟩ : ∃ tw, t.w = tw := ⟨_, rfl⟩
  rw [htw]
  have HT := Lib.hid htw
  clear htw
  rcases TxS.okE_cases s t with ho | ho
  all_goals
    rw [ho] at hok ⊢
    have HO := Lib.hid hok
    clear hok ho
    cases tw
    all_goals
      go_enter Tryz.func87, Tryz.ntmps87
      go_wp2_with (go_at_call 66; refine HO.out.mono ?_; rintro e w1 ⟨rfl, hk⟩; have c7 : w1.cell? ⟨tb i, 6 + 1, none⟩ = some (.bool _) := ((HB.out.keep hk (fun q => q)).cell 7).trans (by rw [show (txC t sb mb sm A cap)[7]? = some (.bool t.w) from rfl, HT.out]))
      go_ret
      exact ⟨rfl, hk⟩
attribute [local go_sem ↓] load26 store26 alloc26 build26
theorem oz256 : ones zero256 := by rw [zero256_eq]; exact bytesV_one _
set_option maxRecDepth 100000 in
theorem sz256 : zero256.size = 256 := by rw [zero256_eq, bytesV_size]; rfl
/-- a page whose bytes are at hand -/
def pgK (s : SdS) (t : TxS) (n : Int) : List Int × Int := if t.okE s ≠ 0 then (zeros 256, 7) else if n < 1 ∨ t.count < n then (zeros 256, 4) else (pgVal t.pg n, 0)
set_option maxRecDepth 100000 in
set_option maxHeartbeats 1600000 in
theorem page_k (h : Sys L w sb db lb tb s ts) (ht : ts i = some t) (n : Int) (hk : t.okE s ≠ 0 ∨ n < 1 ∨ t.count < n ∨ (t.pg n.toNat).isSome = true) :
    Calls Tryz.prog 46 #[ptrV (tb i), .int .i64 n] w fun e w' => e = .returned (.tuple #[.agg (bytesV (pgK s t n).1), .int .i64 (pgK s t n).2]) ∧ Kp NoB w w' := by
  obtain ⟨_, _, mb, sm, A, cap, ms, hn⟩ := h.tx i t ht
  have HK0 := Lib.hid ((Kp.refl NoB w).alloc (.cells zero256 86))
  have hok := ok_t (h.keep HK0.out) ht
  have HB := Lib.hid hn.blk
  have HP := Lib.hid hn.pg
  have HRC := Lib.hid hn.rc
  have HB0 := Lib.hid (Blk.new w 86 zero256)
  have HGN : Hid (∀ W, Kp NoB w W → Blk W (tb i) 124 (txC t sb mb sm A cap)) := Lib.hid fun W k => HB.out.keep k (fun q => q)
  have oz := oz256
  have sz := sz256
  have HSZ := Lib.hid sz
  clear h hn ht
  obtain ⟨g, hg⟩ : ∃ g, tb i = g := ⟨_, rfl⟩
  rw [hg] at HB HGN hok ⊢
  clear hg
  unfold pgK
  unfold ptrV at *
  rcases TxS.okE_cases s t with ho | ho
  · rw [ho] at hok ⊢
    have HO := Lib.hid hok
    clear hok ho hk
    rw [if_pos (by decide)]
    go_enter Tryz.func46, Tryz.ntmps46
    go_wp2_with fail
    refine HO.out.mono ?_
    rintro e w1 ⟨rfl, hk⟩
    have hb2 := HB0.out.keep hk (fun q => q)
    have HK := Lib.hid (HK0.out.trans hk (fun _ _ q => q))
    have t2 : w1.there w.heap.size 0 256 := hb2.thereAll 256 sz
    have HB2 := Lib.hid hb2
    clear hk hb2
    go_wp2_with fail
    refine bodyPost_ret (ret_cell_tmp rfl _ _ _ _ _ _ rfl (HB2.out.whole zero256 rfl) Tryz.underlying86 rfl (by rw [HSZ.out]; exact info26) _ rfl) rfl ⟨by rw [zero256_eq]; rfl, ?_⟩
    exact Kp.setCells (.inl (Nat.le_refl _)) _ _ _ HK.out
  · have ho' := ho
    rw [ho] at hok ⊢
    have HO := Lib.hid hok
    clear hok
    rw [if_neg (by decide)]
    have hgo : ∀ w1, Kp NoB (w.alloc (.cells zero256 86)) w1 → Kp NoB w w1 := fun w1 k => HK0.out.trans k (fun _ _ q => q)
    have HGO := Lib.hid hgo
    clear hgo
    by_cases h1 : n < 1 ∨ t.count < n
    · rw [if_pos h1]
      clear hk ho ho'
      have HH := Lib.hid h1
      clear h1
      by_cases h1 : n < 1
      · go_enter Tryz.func46, Tryz.ntmps46
        go_wp2_with fail
        refine HO.out.mono ?_
        rintro e w1 ⟨rfl, hk⟩
        have hb2 := HB0.out.keep hk (fun q => q)
        have HK := Lib.hid (HGO.out _ hk)
        have t2 : w1.there w.heap.size 0 256 := hb2.thereAll 256 sz
        have HB2 := Lib.hid hb2
        clear hk hb2
        go_wp2_with fail
        refine bodyPost_ret (ret_cell_tmp rfl _ _ _ _ _ _ rfl (HB2.out.whole zero256 rfl) Tryz.underlying86 rfl (by rw [HSZ.out]; exact info26) _ rfl) rfl ⟨by rw [zero256_eq]; rfl, ?_⟩
        exact Kp.setCells (.inl (Nat.le_refl _)) _ _ _ HK.out
      · have h2 : t.count < n := HH.out.resolve_left h1
        go_enter Tryz.func46, Tryz.ntmps46
        go_wp2_with fail
        refine HO.out.mono ?_
        rintro e w1 ⟨rfl, hk⟩
        have hb2 := HB0.out.keep hk (fun q => q)
        have c1 : w1.cell? ⟨g, 1, none⟩ = some (.int .i64 t.count) := (HGN.out _ (HGO.out _ hk)).cell 1
        have HK := Lib.hid (HGO.out _ hk)
        have t2 : w1.there w.heap.size 0 256 := hb2.thereAll 256 sz
        have HB2 := Lib.hid hb2
        clear hk hb2
        go_wp2_with fail
        refine bodyPost_ret (ret_cell_tmp rfl _ _ _ _ _ _ rfl (HB2.out.whole zero256 rfl) Tryz.underlying86 rfl (by rw [HSZ.out]; exact info26) _ rfl) rfl ⟨by rw [zero256_eq]; rfl, ?_⟩
        exact Kp.setCells (.inl (Nat.le_refl _)) _ _ _ HK.out
    · rw [if_neg h1]
      have h11 : ¬ n < 1 := fun q => h1 (.inl q)
      have h12 : ¬ t.count < n := fun q => h1 (.inr q)
      have hs : (t.pg n.toNat).isSome = true := by
        rcases hk with q | q | q | q
        · exact absurd ho' (by rw [ho'] at q; exact absurd rfl q)
        · exact absurd q h11
        · exact absurd q h12
        · exact q
      have hpa : (pgAt t.pg n).isSome = true := by unfold pgAt; rw [if_pos (by omega)]; exact hs
      have hlen : (pgVal t.pg n).length = 256 := by
        unfold pgVal
        cases hq : pgAt t.pg n with
        | none => rw [hq] at hpa; cases hpa
        | some l =>
          unfold pgAt at hq
          rw [if_pos (by omega)] at hq
          exact (HP.out.1 _ _ hq).2.2.1
      have hlook : ∀ w1, Kp NoB w w1 → (Instr.lookup 119 (.map (some mb)) (.int .i64 n) true).run Tryz.prog w1 = .ok (.tuple #[.agg (bytesV (pgVal t.pg n)), .bool true]) w1 := fun w1 k => by
        have hwf : (Lit.int .i64 n).wf = true := by
          have := HRC.out
          exact (Lit.wf_int_iff .i64 _).2 ⟨by show (-9223372036854775808 : Int) ≤ n; omega, by show n ≤ (9223372036854775807 : Int); omega⟩
        rw [(HP.out.keep k (fun q => q)).look hwf, hpa]
      have HL := Lib.hid hlook
      obtain ⟨pg, hpg⟩ : ∃ pg, pgVal t.pg n = pg := ⟨_, rfl⟩
      rw [hpg] at hlen HL ⊢
      have op : ones (bytesV pg) := bytesV_one _
      have sp : (bytesV pg).size = 256 := by rw [bytesV_size]; exact hlen
      have HSP := Lib.hid sp
      clear hlook hpg hlen hpa hs hk ho ho' h1
      go_enter Tryz.func46, Tryz.ntmps46
      go_wp2_with fail
      refine HO.out.mono ?_
      rintro e w1 ⟨rfl, hk⟩
      have hb2 := HB0.out.keep hk (fun q => q)
      have hbt := HGN.out _ (HGO.out _ hk)
      have c1 : w1.cell? ⟨g, 1, none⟩ = some (.int .i64 t.count) := hbt.cell 1
      have c2 : w1.cell? ⟨g, 1 + 1, none⟩ = some (.map (some mb)) := hbt.cell 2
      have hl1 := HL.out _ (HGO.out _ hk)
      have HK := Lib.hid (HGO.out _ hk)
      have hb3 := Blk.new w1 86 zero256
      have hb4 := hb3.whole (bytesV pg) (by rw [sp, sz])
      have hb5 := (hb2.alloc (.cells zero256 86)).farCells (g' := w1.heap.size) (by have := hb2.lt; omega) (bytesV pg).toList 0
      have t3 : (w1.alloc (.cells zero256 86)).there w1.heap.size 0 256 := hb3.thereAll 256 sz
      have t4 : ((w1.alloc (.cells zero256 86)).setCells w1.heap.size 0 (bytesV pg).toList).there w1.heap.size 0 256 := hb4.thereAll 256 sp
      have r4 : readRow ((w1.alloc (.cells zero256 86)).setCells w1.heap.size 0 (bytesV pg).toList) w1.heap.size 0 256 = bytesV pg := hb4.readAll 256 sp
      have t5 : ((w1.alloc (.cells zero256 86)).setCells w1.heap.size 0 (bytesV pg).toList).there w.heap.size 0 256 := hb5.thereAll 256 sz
      have HK3 := Lib.hid (Kp.setCells (S := NoB) (.inl HK.out.size) (bytesV pg).toList 0 _ (HK.out.alloc (.cells zero256 86)))
      have HB5 := Lib.hid hb5
      clear hk hb2 hbt hb3 hb4 hb5
      go_wp2_with fail
      refine bodyPost_ret (ret_cell_tmp rfl _ _ _ _ _ _ rfl (HB5.out.whole (bytesV pg) (by rw [HSP.out, HSZ.out])) Tryz.underlying86 rfl (by rw [HSP.out]; exact info26) _ rfl) rfl ⟨rfl, ?_⟩
      exact Kp.setCells (.inl (Nat.le_refl _)) _ _ _ HK3.out
end
end Go.Proofs.YtoeldmkbmnkhkaaGreat
/- A page put by a transaction; no condition. -/
namespace Go.Proofs.YtoeldmkbmnkhkaaGreat
open Go.RowKit Go.Maps

def updT (ts : Nat → Option TxS) (i : Nat) (t : TxS) : Nat → Option TxS := fun j => if j = i then some t else ts j
theorem updT_at (ts : Nat → Option TxS) (i : Nat) (t : TxS) : updT ts i t i = some t := if_pos rfl
theorem updT_self {ts : Nat → Option TxS} {i : Nat} {t : TxS} (h : ts i = some t) : updT ts i t = ts := by
  funext j
  unfold updT
  split
  · rename_i e
    rw [e, h]
  · rfl
theorem mapTurned_kp {w w' : World} {b : Nat} (h : w.mapTurned w' b) : Kp (OnB b) w w' := by
  have hg := h.grown
  exact ⟨hg.os, hg.tape, hg.output, hg.size, fun k hk hn => hg.block k hk (fun e => hn (by injection e))⟩
section
variable {L : Lab} {w : World} {sb db lb : Nat} {tb : Nat → Nat} {s : SdS} {ts : Nat → Option TxS} {i : Nat} {t : TxS}
/-- how a call of a transaction ends -/
def TxPost (L : Lab) (w : World) (sb db lb : Nat) (tb : Nat → Nat) (s : SdS) (ts : Nat → Option TxS) (i : Nat) (r : TxS × Int) (e : Ending) (w' : World) : Prop :=
  e = .returned (.int .i64 r.2) ∧ ∃ L', Sys L' w' sb db lb tb s (updT ts i r.1) ∧ Gw L w L' w'
theorem TxPost.same (h : Sys L w sb db lb tb s ts) (ht : ts i = some t) {e0 : Int} {w' : World} (k : Kp NoB w w') : TxPost L w sb db lb tb s ts i (t, e0) (.returned (.int .i64 e0)) w' :=
  ⟨rfl, L, by rw [updT_self ht]; exact h.keep k, Gw.nob k⟩
theorem slot_upd {tb : Nat → Nat} {ts : Nat → Option TxS} {i : Nat} {t t' : TxS} (ht : ts i = some t) (he : t'.e = t.e) : slot tb (fun j => if j = i then some t' else ts j) i = slot tb ts i := by
  unfold slot
  dsimp only
  rw [if_pos rfl, ht]
  show (if t'.e = true then _ else _) = (if t.e = true then _ else _)
  rw [he]
/-- a transaction's own block and its pages have changed -/
theorem Sys.wrote (h : Sys L w sb db lb tb s ts) (ht : ts i = some t) {mb sm cap : Nat} {A : Option Addr} {ms : List Nat} (hn : TxN L w i sb (tb i) mb sm A cap ms t) {w' : World} {t' : TxS} {f : PgM}
    (k : Kp (fun b => b = tb i ∨ b = mb) w w') (hb : Blk w' (tb i) 124 (txC t' sb mb sm A cap)) (hp : PgMap w' mb t'.pg) (hsv : t'.saves = t.saves) (hse : t'.seen = t.seen) (hc : t'.c = t.c) (he : t'.e = t.e) (hr : 0 ≤ t'.count ∧ t'.count ≤ 4096) :
    Sys L w' sb db lb tb s (updT ts i t') ∧ Gw L w L w' := by
  have hL := (h.tx i t ht).1
  have hC := (h.tx i t ht).2.1
  have kl : Kp (fun b => txL i (L b)) w w' := k.mono (fun b _ q => by
    unfold txL
    rcases q with rfl | rfl
    · rw [hn.lb]; omega
    · rw [hn.lm]; omega)
  have hsm : Sm (fun j => j = 6 + 5 * i ∨ j = 7 + 5 * i ∨ j = 8 + 5 * i) L w L w' := Sm.of k (fun _ _ => rfl) (fun b q z => by
    rcases z with rfl | rfl
    · rw [hn.lb] at q; omega
    · rw [hn.lm] at q; omega)
  have hseen := hsm.m hn.seen hn.ls (.inl rfl)
  refine ⟨h.txs kl (fun _ _ => rfl) (h.lab.mono k.size) ?_ hL (hc.trans hC) ?_ (slot_upd ht he), ⟨kl.mono (fun b _ q => by have := q.1; omega), fun _ _ => rfl⟩⟩
  · intro b cs hcs hq
    by_cases e : b = tb i ∨ b = mb
    · rcases e with rfl | rfl
      · have := hn.blk
        unfold Blk at this
        rw [hcs] at this
        injection this with this
        injection this with _ this
        exact absurd this (by decide)
      · obtain ⟨es, cl, ho⟩ := hn.pg.obj
        rw [hcs] at ho
        injection ho with ho
        cases ho
    · exact hq.2 (k.block b (lt_of_heap hcs) e)
  · refine ⟨mb, sm, A, cap, ms, hn.lb, hn.lm, hn.ls, hb, hp, by rw [hse]; exact hseen.1, by rw [hsv]; exact hn.sav.keep (hsm.mono (fun j q => .inr q)), hr⟩
attribute [local go_sem ↓] load26 store26 alloc26 build26
set_option maxRecDepth 100000 in
set_option maxHeartbeats 1600000 in
theorem put_t (h : Sys L w sb db lb tb s ts) (ht : ts i = some t) (n : Int) (b : List Int) (hb : b.length = 256) (hbr : ∀ x ∈ b, 0 ≤ x ∧ x < 256) :
    Calls Tryz.prog 47 #[ptrV (tb i), .int .i64 n, .agg (bytesV b)] w (TxPost L w sb db lb tb s ts i (t.put s n b)) := by
  obtain ⟨_, _, mb, sm, A, cap, ms, hn⟩ := h.tx i t ht
  have HK0 := Lib.hid ((Kp.refl NoB w).alloc (.cells (bytesV b) 86))
  have hwr := writer_t (h.keep HK0.out) ht
  have H := Lib.hid h
  have HT := Lib.hid ht
  have HN := Lib.hid hn
  have HB0 := Lib.hid (Blk.new w 86 (bytesV b))
  have op : ones (bytesV b) := bytesV_one _
  have sp : (bytesV b).size = 256 := by rw [bytesV_size]; exact hb
  have HBB := Lib.hid hb
  have HBR := Lib.hid hbr
  have HSP := Lib.hid sp
  clear h hn ht hb hbr
  have HG := Lib.hid (rfl : tb i = tb i)
  obtain ⟨g, hg⟩ : ∃ g, tb i = g := ⟨_, rfl⟩
  rw [hg] at hwr ⊢
  rw [hg] at HN
  have HGG := Lib.hid hg
  clear hg HG
  have hrc := HN.out.rc
  obtain ⟨PP, hPP⟩ : ∃ PP, TxPost L w sb db lb tb s ts i (t.put s n b) = PP := ⟨_, rfl⟩
  have HPP := Lib.hid hPP
  rw [hPP]
  clear hPP
  have hcase : (t.writerE s = 7 ∨ t.writerE s = 191) ∨ t.writerE s = 0 := by
    unfold TxS.writerE
    split
    · exact .inl (.inl rfl)
    · split
      · exact .inr rfl
      · exact .inl (.inr rfl)
  unfold ptrV at *
  rcases hcase with (ho | ho) | ho
  · have HE : Hid (t.put s n b = (t, 7)) := Lib.hid (by unfold TxS.put; rw [if_pos (by rw [ho]; decide), ho])
    rw [ho] at hwr
    have HO := Lib.hid hwr
    clear hwr ho
    go_enter Tryz.func47, Tryz.ntmps47
    go_wp2_with (go_at_call 87; refine HO.out.mono ?_; rintro e w1 ⟨rfl, hk⟩)
    rw [← HPP.out, HE.out]
    exact TxPost.same H.out HT.out (HK0.out.trans hk (fun _ _ q => q))
  · have HE : Hid (t.put s n b = (t, 191)) := Lib.hid (by unfold TxS.put; rw [if_pos (by rw [ho]; decide), ho])
    rw [ho] at hwr
    have HO := Lib.hid hwr
    clear hwr ho
    go_enter Tryz.func47, Tryz.ntmps47
    go_wp2_with (go_at_call 87; refine HO.out.mono ?_; rintro e w1 ⟨rfl, hk⟩)
    rw [← HPP.out, HE.out]
    exact TxPost.same H.out HT.out (HK0.out.trans hk (fun _ _ q => q))
  · have hput : t.put s n b = if n < 1 ∨ t.count + 1 < n then (t, 4) else if 4096 < n then (t, 5) else ({ t with pg := t.pg.put n.toNat b, count := max t.count n }, 0) := by
      unfold TxS.put
      rw [if_neg (by rw [ho]; decide)]
    rw [ho] at hwr
    have HO := Lib.hid hwr
    clear hwr ho
    by_cases h1 : n < 1
    · have HE : Hid (t.put s n b = (t, 4)) := Lib.hid (by rw [hput, if_pos (.inl h1)])
      clear hput
      go_enter Tryz.func47, Tryz.ntmps47
      go_wp2_with (go_at_call 87; refine HO.out.mono ?_; rintro e w1 ⟨rfl, hk⟩)
      rw [← HPP.out, HE.out]
      exact TxPost.same H.out HT.out (HK0.out.trans hk (fun _ _ q => q))
    · by_cases h2 : t.count + 1 < n
      · have HE : Hid (t.put s n b = (t, 4)) := Lib.hid (by rw [hput, if_pos (.inr h2)])
        clear hput
        go_enter Tryz.func47, Tryz.ntmps47
        go_wp2_with (go_at_call 87; refine HO.out.mono ?_; rintro e w1 ⟨rfl, hk⟩; have c1 : w1.cell? ⟨g, 1, none⟩ = some (.int .i64 t.count) := (HN.out.blk.keep (HK0.out.trans hk (fun _ _ q => q)) (fun q => q)).cell 1)
        rw [← HPP.out, HE.out]
        exact TxPost.same H.out HT.out (HK0.out.trans hk (fun _ _ q => q))
      · by_cases h3 : 4096 < n
        · have HE : Hid (t.put s n b = (t, 5)) := Lib.hid (by rw [hput, if_neg (fun q => q.elim h1 h2), if_pos h3])
          clear hput
          go_enter Tryz.func47, Tryz.ntmps47
          go_wp2_with (go_at_call 87; refine HO.out.mono ?_; rintro e w1 ⟨rfl, hk⟩; have c1 : w1.cell? ⟨g, 1, none⟩ = some (.int .i64 t.count) := (HN.out.blk.keep (HK0.out.trans hk (fun _ _ q => q)) (fun q => q)).cell 1)
          rw [← HPP.out, HE.out]
          exact TxPost.same H.out HT.out (HK0.out.trans hk (fun _ _ q => q))
        · have HE : Hid (t.put s n b = ({ t with pg := t.pg.put n.toNat b, count := max t.count n }, 0)) := Lib.hid (by rw [hput, if_neg (fun q => q.elim h1 h2), if_neg h3])
          clear hput
          obtain ⟨m, rfl⟩ : ∃ m : Nat, n = m := ⟨n.toNat, by omega⟩
          go_enter Tryz.func47, Tryz.ntmps47
          go_upto_region 8 with (go_at_call 87; refine HO.out.mono ?_; rintro e w1 ⟨rfl, hk⟩; have c1 : w1.cell? ⟨g, 1, none⟩ = some (.int .i64 t.count) := (HN.out.blk.keep (HK0.out.trans hk (fun _ _ q => q)) (fun q => q)).cell 1)
          have hk1 := HK0.out.trans hk (fun _ _ q => q)
          have c2 : w1.cell? ⟨g, 1 + 1, none⟩ = some (.map (some mb)) := (HN.out.blk.keep hk1 (fun q => q)).cell 2
          have hb1 := HB0.out.keep hk (fun q => q)
          have t1 : w1.there w.heap.size 0 256 := hb1.thereAll 256 sp
          have r1 : readRow w1 w.heap.size 0 256 = bytesV b := hb1.readAll 256 sp
          obtain ⟨w2, hrun, hp2, htn⟩ := (HN.out.pg.keep hk1.drew (fun q => q)).put (z := m) (by omega) (by omega) HBB.out HBR.out
          have k2 := mapTurned_kp htn
          have hne : g ≠ mb := fun e => by
            have q1 := HN.out.lb
            have q2 := HN.out.lm
            rw [e, q2] at q1
            omega
          have hbt2 : Blk w2 g 124 (txC t sb mb sm A cap) := ((HN.out.blk.keep hk1 (fun q => q)).drew).keep k2 hne
          have c3 : w2.cell? ⟨g, 1, none⟩ = some (.int .i64 t.count) := hbt2.cell 1
          have z3 : w2.frozen? ⟨g, 1, none⟩ = false := hbt2.frozen 1
          have fin : Hid (PP (.returned (.int .i64 0)) (w2.setCell ⟨g, 1, none⟩ (.int .i64 (max t.count m)))) := Lib.hid (by
            rw [← HPP.out, HE.out]
            refine ⟨rfl, L, ?_⟩
            have hn' := HN.out
            have hgg := HGG.out
            subst hgg
            refine H.out.wrote HT.out hn' (f := t.pg) (((hk1.drew.mono (S' := fun b => b = tb i ∨ b = mb) (fun _ _ q => q.elim)).trans k2 (fun b _ q => .inr q)).setCell (p := ⟨tb i, 1, none⟩) (.inr (.inl rfl)) _) (hbt2.set_ 1 _) ?_ rfl rfl rfl rfl ?_
            · exact hp2.keep ((Kp.refl (OnB (tb i)) w2).setCell (p := ⟨tb i, 1, none⟩) (.inr rfl) _) (fun q => hne q.symm)
            · show 0 ≤ max t.count (m : Int) ∧ max t.count (m : Int) ≤ 4096
              omega)
          clear hk1 hb1 hp2 htn k2 hne hbt2
          go_region
          all_goals
            go_wp2_with fail
            exact fin.out
end
end Go.Proofs.YtoeldmkbmnkhkaaGreat
/- Pages above a number taken out of a map: maps.DeleteFunc at pages (the kit's walk of it is for elements of one cell: here at pages); no condition. -/
namespace Go.Proofs.YtoeldmkbmnkhkaaGreat
open Go.RowKit Go.Maps

theorem shrink1_ok (w : World) (x n : Int) (l : List Int) (hl : l.length = 256) (c : Nat) (hc : w.cell? ⟨c, 0, none⟩ = some (.int .i64 n)) :
    Calls Tryz.prog 89 #[.int .i64 x, .agg (bytesV l), .pointer (some ⟨c, 0, none⟩)] w fun e w' => e = .returned (.bool (decide (n < x))) ∧ Kp NoB w w' := by
  have hk := (Kp.refl NoB w).alloc (.cells (bytesV l) 86)
  have c1 : (w.alloc (.cells (bytesV l) 86)).cell? ⟨c, 0, none⟩ = some (.int .i64 n) := (hk.cell (World.block_lt_of_cell? _ _ hc) (fun q => q)).trans hc
  clear hc
  go_enter Tryz.func89, Tryz.ntmps89
  go_wp2
  go_ret
  exact ⟨rfl, hk⟩
theorem mem_of_atKey {es : List (Lit × DataW Value)} {kl : Lit} {v : Value} (h : ∀ zd, (DataW.map es).atKey kl zd = .held v) : ∃ p ∈ es, p.1 = kl ∧ p.2 = .held v := by
  have h1 := h (.held (.bool true))
  have h2 := h (.held (.bool false))
  unfold DataW.atKey at h1 h2
  dsimp only at h1 h2
  cases hf : es.find? (fun p => p.1.sameKey kl) with
  | none =>
    rw [hf] at h1 h2
    dsimp only at h1 h2
    have h3 := h1.trans h2.symm
    injection h3 with h3
    injection h3 with h3
    cases h3
  | some p =>
    rw [hf] at h1
    exact ⟨p, List.mem_of_find?_eq_some hf, WideAt.sameKey_eq (a := p.1) (b := kl) (by have q := List.find?_some hf; exact q), h1⟩
def pdK (n : Int) : Lit → DataW Value → Bool := fun kl _ => match kl with | .int _ a => decide (n < a) | _ => false
theorem atKey_del {es : List (Lit × DataW Value)} (hap : es.Pairwise (fun p q => p.1 ≠ q.1)) (n : Int) (z : Int) (zd : DataW Value) :
    (Lib.deleteFuncD (pdK n) (.map es)).atKey (.int .i64 z) zd = if n < z then zd else (DataW.map es).atKey (.int .i64 z) zd := by
  have hself : (Lit.int .i64 z).sameKey (Lit.int .i64 z) = true := WideAt.sameKey_self (show WideAt.IsKeyLit (.int .i64 z) from trivial)
  unfold Lib.deleteFuncD DataW.atKey
  dsimp only
  by_cases hlt : n < z
  · rw [if_pos hlt]
    have : (es.filter fun p => !pdK n p.1 p.2).find? (fun p => p.1.sameKey (.int .i64 z)) = none := by
      rw [List.find?_eq_none]
      intro p hp hs
      have e := WideAt.sameKey_eq hs
      have h2 := (List.mem_filter.1 hp).2
      rw [e] at h2
      simp [pdK] at h2
      omega
    rw [this]
  · rw [if_neg hlt, find_filter_keep (f := fun p : Lit × DataW Value => p.1.sameKey (.int .i64 z)) (g := fun p => !pdK n p.1 p.2) (fun p hp => by
      have e := WideAt.sameKey_eq hp
      rw [e]
      simp [pdK]
      omega)]
attribute [local go_sem ↓] load26 store26 alloc26 build26
set_option maxHeartbeats 4000000 in
set_option maxRecDepth 100000 in
theorem delp_ok (w : World) (b : Nat) (f : PgM) (h : PgMap w b f) (n : Nat) (c : Nat) (hc : w.cell? ⟨c, 0, none⟩ = some (.int .i64 (n : Int))) (hcb : c ≠ b) :
    Calls Tryz.prog 88 #[.map (some b), .func (.func 89) #[] #[.pointer (some ⟨c, 0, none⟩)]] w fun e w' => e = .returned (.tuple #[]) ∧ PgMap w' b (f.cut n) ∧ Kp (OnB b) w w' := by
  obtain ⟨hf, D, hown, hatF⟩ := h
  have hcl := World.block_lt_of_cell? _ _ hc
  obtain ⟨es0, rfl, hap, hkeys⟩ := hown.entries keyedIntS
  have hdel : ∀ (W : World) (x : Int) (l : List Int), w.grownBy W (some b) → l.length = 256 → Calls Tryz.prog 89 #[.int .i64 x, .agg (bytesV l), .pointer (some ⟨c, 0, none⟩)] W fun e w' => e = .returned (.bool (decide ((n : Int) < x))) ∧ W.grownBy w' none := by
    intro W x l hg hl
    have hcW : W.cell? ⟨c, 0, none⟩ = some (.int .i64 (n : Int)) := (World.cell?_of_block (a := ⟨c, 0, none⟩) (hg.block c hcl (fun e => hcb (by injection e)))).trans hc
    exact (shrink1_ok W x n l hl c hcW).mono fun e w' q => ⟨q.1, q.2.os, q.2.tape, q.2.output, q.2.size, fun k hk _ => q.2.block k hk (fun z => z)⟩
  have HD := Lib.hid hdel
  have HF := Lib.hid hf
  have HAT := Lib.hid hatF
  clear hdel hf hatF hc
  have fin : ∀ w', w'.ownsMap Tryz.prog 3 Rg b 4096 (Lib.deleteFuncD (pdK n) (.map es0)) → w.grownBy w' (some b) → PgMap w' b (f.cut n) ∧ Kp (OnB b) w w' := by
    intro w' ho hg
    have hF := HF.out.cut n
    refine ⟨⟨hF, _, ho, fun z hz zd => ?_⟩, ⟨hg.os, hg.tape, hg.output, hg.size, fun k hk hn => hg.block k hk (fun e => hn (by injection e))⟩⟩
    rw [atKey_del hap, HAT.out z hz]
    unfold pgAt PgM.cut
    by_cases hz0 : 0 ≤ z
    · rw [if_pos hz0, if_pos hz0]
      by_cases hlt : (n : Int) < z
      · rw [if_pos hlt, if_neg (by omega)]
      · rw [if_neg hlt, if_pos (by omega)]
    · rw [if_neg hz0, if_neg hz0]
      split <;> rfl
  have FIN := Lib.hid fin
  clear fin
  go_enter Tryz.func88, Tryz.ntmps88
  go_wp2_with (first
    | (at_range; refine wpList_range_own _ rfl _ 119 rfl 3 86 keyedIntS Tryz.underlying119 Rg b 4096 _ rfl hown ?_; intro w0 hrg0 hg0 hs0)
    | go_in)
  try go_frame
  go_loopw [8] (fun _ wr => ∃ (left : Lit → Bool) (cnt : Nat), wr.ranges Tryz.prog 3 Rg b w.heap.size 4096 (Fk (pdK n) es0 left) left cnt ∧ w.grownBy wr (some b))
    (fun _ wr => wr.rangeLeft b w.heap.size)
  case atStart => exact ⟨_, _, by rw [Fk_start hkeys]; exact hrg0, hg0.but _⟩
  case round =>
    obtain ⟨left, cnt, hrg, hgw⟩ := hrel
    go_wp2_with (first
      | (at_next; refine wpList_next_ranges _ rfl _ rfl 3 keyedIntS Rg (Value.int .i64) id (fun key kl hk => by obtain ⟨x, rfl, _⟩ := Maps.keyOf_int_inv Tryz.underlying3 hk; exact ⟨x, rfl⟩) (fun v _ _ => ⟨v, rfl⟩) b w.heap.size 4096 _ _ _ rfl hrg ?_ ?_)
      | go_in)
    · -- nothing is left
      intro _ hl0
      go_wp2
      go_end0
      have hf := FIN.out _ (by rw [← Fk_end hl0]; exact hrg.owns) hgw
      exact ⟨rfl, hf.1, hf.2⟩
    · -- an entry has come
      intro x cv kl y yp w1 cnt1 hkey hlx hv hat hrg1 hlt hg1 hs1 hen
      obtain ⟨x', ex, rfl, hwf⟩ := Maps.keyOf_int_inv Tryz.underlying3 hkey
      injection ex with _ ex
      subst ex
      unfold Rg at hv
      obtain ⟨rfl, rfl⟩ : DataW.held cv = y ∧ [] = yp := by injection hv with hv; injection hv with h1 h2; exact ⟨h1, h2⟩
      have hl : ∃ l, cv = .agg (bytesV l) ∧ l.length = 256 := by
        obtain ⟨p, hp, hp1, hp2⟩ := mem_of_atKey hat
        have hpm := (List.mem_filter.1 hp).1
        have h2 := WideAt.atKey_mem (.held cv) (hkeys p hpm) hap (show (p.1, p.2) ∈ es0 from hpm)
        rw [hp1] at h2
        have h3 := HAT.out x hwf (.nil)
        have h4 := WideAt.atKey_mem (.nil) (hkeys p hpm) hap (show (p.1, p.2) ∈ es0 from hpm)
        rw [hp1, h3, hp2] at h4
        cases hq : pgAt f x with
        | none => rw [hq] at h4; cases h4
        | some l =>
          rw [hq] at h4
          injection h4 with h4
          unfold pgAt at hq
          split at hq
          · exact ⟨l, h4.symm, (HF.out _ _ hq).2.2.1⟩
          · cases hq
      obtain ⟨l, rfl, hl⟩ := hl
      have hgw1 := hgw.andThen hg1 (fun j hj => by cases hj; exact Or.inl (Nat.le_refl _))
      have op : ones (bytesV l) := bytesV_one _
      have sp : (bytesV l).size = 256 := by rw [bytesV_size]; exact hl
      have hb3 := Blk.new w1 86 zero256
      have hb4 := hb3.whole (bytesV l) (by rw [sp, sz256])
      have t3 : (w1.alloc (.cells zero256 86)).there w1.heap.size 0 256 := hb3.thereAll 256 sz256
      have t4 : ((w1.alloc (.cells zero256 86)).setCells w1.heap.size 0 (bytesV l).toList).there w1.heap.size 0 256 := hb4.thereAll 256 sp
      have r4 : readRow ((w1.alloc (.cells zero256 86)).setCells w1.heap.size 0 (bytesV l).toList) w1.heap.size 0 256 = bytesV l := hb4.readAll 256 sp
      have k4 : Kp NoB w1 ((w1.alloc (.cells zero256 86)).setCells w1.heap.size 0 (bytesV l).toList) := Kp.setCells (.inl (Nat.le_refl _)) _ _ _ ((Kp.refl _ _).alloc _)
      have hg4 : w1.grownBy ((w1.alloc (.cells zero256 86)).setCells w1.heap.size 0 (bytesV l).toList) none := ⟨k4.os, k4.tape, k4.output, k4.size, fun k hk _ => k4.block k hk (fun z => z)⟩
      have hgw4 := hgw1.andThen hg4 (fun j hj => by cases hj)
      have hrg4 := hrg1.kept hg4 (by simp) (by simp)
      have hc := HD.out _ x l hgw4 hl
      have hbl := hrg1.owns.lt
      have hrl := hrg1.lt
      have oz := oz256
      have sz := sz256
      have HAP := Lib.hid hap
      have HRG := Lib.hid hrg
      have HRG4 := Lib.hid hrg4
      have HGW4 := Lib.hid hgw4
      have HC := Lib.hid hc
      clear hs1 hs0 hb3 hb4 k4 hg4 hl hap hrg hrg1 hrg4 hgw4 hgw hgw1 hc
      by_cases hlt2 : (n : Int) < x
      · -- struck
        have hc := HC.out
        rw [decide_eq_true hlt2] at hc
        go_wp2_with (first
          | (go_at_call 89; refine hc.mono ?_; rintro e w2 ⟨rfl, hg2⟩; have hrg2 := HRG4.out.kept hg2 (by simp) (by simp))
          | (at_delete; refine wpList_delete_ranges _ rfl _ _ 119 3 rfl 86 keyedIntS Tryz.underlying119 Rg b w.heap.size 4096 _ _ _ rfl hrg2 _ _ rfl hkey ?_; intro w3 cnt3 hrg3 hle hturn; go_frame)
          | go_in)
        rw [strike_twice] at hrg3
        go_roundw
        case rel => exact ⟨_, cnt3, by rw [← Fk_struck HAP.out (keyedIntS.key hkey) hlx (pd := pdK n) (decide_eq_true hlt2) hat]; exact hrg3, (HGW4.out.andThen hg2 (fun j hj => by cases hj)).andThen hturn.grown (fun j hj => by cases hj; exact Or.inr rfl)⟩
        case measure => rw [hrg3.left_eq, HRG.out.left_eq]; omega
      · -- stays
        have hc := HC.out
        rw [decide_eq_false hlt2] at hc
        go_wp2_with (first
          | (go_at_call 89; refine hc.mono ?_; rintro e w2 ⟨rfl, hg2⟩)
          | go_in)
        have hrg2 := HRG4.out.kept hg2 (by simp) (by simp)
        go_roundw
        case rel => exact ⟨_, cnt1, by rw [← Fk_stays HAP.out (keyedIntS.key hkey) hlx (pd := pdK n) (decide_eq_false (Int.not_lt.2 hlt2)) hat]; exact hrg2, HGW4.out.andThen hg2 (fun j hj => by cases hj)⟩
        case measure => rw [hrg2.left_eq, HRG.out.left_eq]; exact hlt
end Go.Proofs.YtoeldmkbmnkhkaaGreat
/- A transaction's pages above a number cut off; no condition. -/
namespace Go.Proofs.YtoeldmkbmnkhkaaGreat
open Go.RowKit Go.Maps

section
variable {L : Lab} {w : World} {sb db lb : Nat} {tb : Nat → Nat} {s : SdS} {ts : Nat → Option TxS} {i : Nat} {t : TxS}
set_option maxRecDepth 100000 in
set_option maxHeartbeats 1600000 in
theorem shrink_t (h : Sys L w sb db lb tb s ts) (ht : ts i = some t) (n : Int) :
    Calls Tryz.prog 48 #[ptrV (tb i), .int .i64 n] w (TxPost L w sb db lb tb s ts i (t.shrink s n)) := by
  obtain ⟨_, _, mb, sm, A, cap, ms, hn⟩ := h.tx i t ht
  have HK0 := Lib.hid ((Kp.refl NoB w).alloc (.cells #[.int .i64 n] 3))
  have hwr := writer_t (h.keep HK0.out) ht
  have H := Lib.hid h
  have HT := Lib.hid ht
  have HN := Lib.hid hn
  have HB0 := Lib.hid (Blk.new w 3 #[.int .i64 n])
  clear h hn ht
  obtain ⟨g, hg⟩ : ∃ g, tb i = g := ⟨_, rfl⟩
  rw [hg] at hwr ⊢
  rw [hg] at HN
  have HGG := Lib.hid hg
  clear hg
  have hrc := HN.out.rc
  obtain ⟨PP, hPP⟩ : ∃ PP, TxPost L w sb db lb tb s ts i (t.shrink s n) = PP := ⟨_, rfl⟩
  have HPP := Lib.hid hPP
  rw [hPP]
  clear hPP
  have hcase : (t.writerE s = 7 ∨ t.writerE s = 191) ∨ t.writerE s = 0 := by
    unfold TxS.writerE
    split
    · exact .inl (.inl rfl)
    · split
      · exact .inr rfl
      · exact .inl (.inr rfl)
  unfold ptrV at *
  rcases hcase with (ho | ho) | ho
  · have HE : Hid (t.shrink s n = (t, 7)) := Lib.hid (by unfold TxS.shrink; rw [if_pos (by rw [ho]; decide), ho])
    rw [ho] at hwr
    have HO := Lib.hid hwr
    clear hwr ho
    go_enter Tryz.func48, Tryz.ntmps48
    go_wp2_with (go_at_call 87; refine HO.out.mono ?_; rintro e w1 ⟨rfl, hk⟩)
    rw [← HPP.out, HE.out]
    exact TxPost.same H.out HT.out (HK0.out.trans hk (fun _ _ q => q))
  · have HE : Hid (t.shrink s n = (t, 191)) := Lib.hid (by unfold TxS.shrink; rw [if_pos (by rw [ho]; decide), ho])
    rw [ho] at hwr
    have HO := Lib.hid hwr
    clear hwr ho
    go_enter Tryz.func48, Tryz.ntmps48
    go_wp2_with (go_at_call 87; refine HO.out.mono ?_; rintro e w1 ⟨rfl, hk⟩)
    rw [← HPP.out, HE.out]
    exact TxPost.same H.out HT.out (HK0.out.trans hk (fun _ _ q => q))
  · have hsh : t.shrink s n = if n < 0 ∨ t.count < n then (t, 2) else ({ t with pg := t.pg.cut n.toNat, count := n }, 0) := by
      unfold TxS.shrink
      rw [if_neg (by rw [ho]; decide)]
    rw [ho] at hwr
    have HO := Lib.hid hwr
    clear hwr ho
    by_cases h1 : n < 0
    · have HE : Hid (t.shrink s n = (t, 2)) := Lib.hid (by rw [hsh, if_pos (.inl h1)])
      clear hsh
      go_enter Tryz.func48, Tryz.ntmps48
      go_wp2_with (go_at_call 87; refine HO.out.mono ?_; rintro e w1 ⟨rfl, hk⟩; have c0 : w1.cell? ⟨w.heap.size, 0, none⟩ = some (.int .i64 n) := (HB0.out.keep hk (fun q => q)).cell 0)
      go_quiet (fail)
      go_wp2_with fail
      rw [← HPP.out, HE.out]
      exact TxPost.same H.out HT.out ((HK0.out.trans hk (fun _ _ q => q)).drewN _)
    · by_cases h2 : t.count < n
      · have HE : Hid (t.shrink s n = (t, 2)) := Lib.hid (by rw [hsh, if_pos (.inr h2)])
        clear hsh
        go_enter Tryz.func48, Tryz.ntmps48
        go_wp2_with (go_at_call 87; refine HO.out.mono ?_; rintro e w1 ⟨rfl, hk⟩; have c0 : w1.cell? ⟨w.heap.size, 0, none⟩ = some (.int .i64 n) := (HB0.out.keep hk (fun q => q)).cell 0; have c1 : w1.cell? ⟨g, 1, none⟩ = some (.int .i64 t.count) := (HN.out.blk.keep (HK0.out.trans hk (fun _ _ q => q)) (fun q => q)).cell 1)
        go_quiet (fail)
        go_wp2_with fail
        rw [← HPP.out, HE.out]
        exact TxPost.same H.out HT.out ((HK0.out.trans hk (fun _ _ q => q)).drewN _)
      · have HE : Hid (t.shrink s n = ({ t with pg := t.pg.cut n.toNat, count := n }, 0)) := Lib.hid (by rw [hsh, if_neg (fun q => q.elim h1 h2)])
        clear hsh
        obtain ⟨m, rfl⟩ : ∃ m : Nat, n = m := ⟨n.toNat, by omega⟩
        go_enter Tryz.func48, Tryz.ntmps48
        go_wp2_with (go_at_call 87; refine HO.out.mono ?_; rintro e w1 ⟨rfl, hk⟩; have c0 : w1.cell? ⟨w.heap.size, 0, none⟩ = some (.int .i64 m) := (HB0.out.keep hk (fun q => q)).cell 0; have c1 : w1.cell? ⟨g, 1, none⟩ = some (.int .i64 t.count) := (HN.out.blk.keep (HK0.out.trans hk (fun _ _ q => q)) (fun q => q)).cell 1)
        go_quiet (fail)
        have hkd := (Kp.refl NoB w1).drewN nq
        have hk1 := (HK0.out.trans hk (fun _ _ q => q)).trans hkd (fun _ _ q => q)
        have hbt1 := HN.out.blk.keep hk1 (fun q => q)
        have hb01 := (HB0.out.keep hk (fun q => q)).keep hkd (fun q => q)
        have hp1 := HN.out.pg.keep hk1 (fun q => q)
        clear hk c0 c1 hkd
        generalize w1.drewN nq = w2 at hk1 hbt1 hb01 hp1 ⊢
        have c0 : w2.cell? ⟨w.heap.size, 0, none⟩ = some (.int .i64 m) := hb01.cell 0
        have c1 : w2.cell? ⟨g, 1, none⟩ = some (.int .i64 t.count) := hbt1.cell 1
        have c2 : w2.cell? ⟨g, 1 + 1, none⟩ = some (.map (some mb)) := hbt1.cell 2
        have z1 : w2.frozen? ⟨g, 1, none⟩ = false := hbt1.frozen 1
        have HX := Lib.hid (And.intro hk1 (And.intro hbt1 (And.intro hb01 hp1)))
        clear hk1 hbt1 hb01 hp1
        go_wp2_with fail
        obtain ⟨hk1, hbt1, hb01, hp1⟩ := HX.out
        have hne : g ≠ mb := fun e => by
          have q1 := HN.out.lb
          have q2 := HN.out.lm
          rw [e, q2] at q1
          omega
        have hgl := HN.out.blk.lt
        obtain ⟨es, cl, hob⟩ := HN.out.pg.obj
        have hml := lt_of_heap hob
        have hp3 : PgMap (w2.setCell ⟨g, 1, none⟩ (.int .i64 m)) mb t.pg := hp1.keep ((Kp.refl (OnB g) w2).setCell (p := ⟨g, 1, none⟩) (.inr rfl) _) (fun q => hne q.symm)
        have hb3 := hbt1.set_ 1 (.int .i64 m)
        have hc3 : (w2.setCell ⟨g, 1, none⟩ (.int .i64 m)).cell? ⟨w.heap.size, 0, none⟩ = some (.int .i64 m) := (hb01.far (p := ⟨g, 1, none⟩) (by show w.heap.size ≠ g; omega) _).cell 0
        have k3 : Kp (fun b => b = g ∨ b = mb) w (w2.setCell ⟨g, 1, none⟩ (.int .i64 m)) := (hk1.mono (S' := fun b => b = g ∨ b = mb) (fun _ _ q => q.elim)).setCell (p := ⟨g, 1, none⟩) (.inr (.inl rfl)) _
        have HX3 := Lib.hid (And.intro hb3 k3)
        refine (delp_ok _ mb t.pg hp3 m w.heap.size hc3 (by omega)).mono ?_
        clear hk1 hbt1 hb01 hp1 hp3 hb3 hc3 k3
        rintro e w4 ⟨rfl, hp4, k4⟩
        have HX4 := Lib.hid (And.intro hp4 k4)
        clear hp4 k4
        go_wp2_with fail
        obtain ⟨hp4, k4⟩ := HX4.out
        obtain ⟨hb3, k3⟩ := HX3.out
        rw [← HPP.out, HE.out]
        have hn' := HN.out
        have hgg := HGG.out
        subst hgg
        refine ⟨rfl, L, H.out.wrote HT.out hn' (f := t.pg) (k3.trans k4 (fun b _ q => .inr q)) (hb3.keep k4 hne) hp4 rfl rfl rfl rfl ?_⟩
        show 0 ≤ (m : Int) ∧ (m : Int) ≤ 4096
        omega
end
end Go.Proofs.YtoeldmkbmnkhkaaGreat
/- A transaction that writes, over an empty store: its pages as a list, its savepoints; no condition. -/
namespace Go.Proofs.YtoeldmkbmnkhkaaGreat
open Go.RowKit

def pgOf (D : List (List Int)) : PgM := fun n => if n = 0 then none else D[n - 1]?
structure WrT (t : TxS) (D : List (List Int)) (sv : List (List (List Int))) : Prop where
  w : t.w = true
  e : t.e = false
  count : t.count = D.length
  pg : t.pg = pgOf D
  saves : t.saves = sv.map fun E => ((E.length : Int), pgOf E)
/-- a transaction that writes has these pages and these savepoints -/
def Wr (L : Lab) (w : World) (t0 : Nat) (D : List (List Int)) (sv : List (List (List Int))) : Prop :=
  ∃ sb db lb tb s ts i t, Sys L w sb db lb tb s ts ∧ ts i = some t ∧ tb i = t0 ∧ s.over = false ∧ WrT t D sv
section
variable {L : Lab} {w w' : World} {t0 : Nat} {D : List (List Int)} {sv : List (List (List Int))}
theorem Wr.keep (h : Wr L w t0 D sv) (k : Kp NoB w w') : Wr L w' t0 D sv := by
  obtain ⟨sb, db, lb, tb, s, ts, i, t, h1, h2⟩ := h
  exact ⟨sb, db, lb, tb, s, ts, i, t, h1.keep k, h2⟩
theorem Wr.lok (h : Wr L w t0 D sv) : Lok L w := by
  obtain ⟨sb, db, lb, tb, s, ts, i, t, h1, h2⟩ := h
  exact h1.lab
theorem Wr.ok (h : Wr L w t0 D sv) : D.length ≤ 4096 ∧ ∀ l ∈ D, l.length = 256 ∧ ∀ x ∈ l, 0 ≤ x ∧ x < 256 := by
  obtain ⟨sb, db, lb, tb, s, ts, i, t, h1, h2, h3, h4, h5⟩ := h
  obtain ⟨_, _, mb, sm, A, cap, ms, hn⟩ := h1.tx i t h2
  have hc := hn.rc
  rw [h5.count] at hc
  refine ⟨by omega, fun l hl => ?_⟩
  obtain ⟨j, hj, rfl⟩ := List.mem_iff_getElem.1 hl
  have hp := hn.pg.1
  rw [h5.pg] at hp
  have := hp (j + 1) D[j] (by unfold pgOf; rw [if_neg (by omega), Nat.add_sub_cancel]; exact List.getElem?_eq_getElem hj)
  exact this.2.2
theorem bytes_of {l : List Int} (h : l.length = 256) (hr : ∀ x ∈ l, 0 ≤ x ∧ x < 256) : Bytes l := ⟨h, fun i => by
  unfold at_
  by_cases hi : i < l.length
  · rw [List.getElem?_eq_getElem hi]
    exact hr _ (List.getElem_mem hi)
  · rw [List.getElem?_eq_none (by omega)]
    exact ⟨by decide, by decide⟩⟩
theorem Bytes.mem {l : List Int} (h : Bytes l) : ∀ x ∈ l, 0 ≤ x ∧ x < 256 := fun x hx => by
  obtain ⟨j, hj, rfl⟩ := List.mem_iff_getElem.1 hx
  have := h.rng j
  unfold at_ at this
  rw [List.getElem?_eq_getElem hj] at this
  exact this
theorem zeros_bytes : Bytes (zeros 256) := bytes_of (by unfold zeros; rw [List.length_replicate]) (fun x hx => by
  unfold zeros at hx
  rw [List.eq_of_mem_replicate hx]
  decide)
theorem Wr.bytes (h : Wr L w t0 D sv) (n : Int) : Bytes (pgD D n) := by
  unfold pgD
  split
  · rename_i hn
    rw [List.getD_eq_getElem?_getD, List.getElem?_eq_getElem (by omega)]
    have := h.ok.2 _ (List.getElem_mem (show n.toNat - 1 < D.length by omega))
    exact bytes_of this.1 this.2
  · exact zeros_bytes
theorem okE0 {s : SdS} {t : TxS} (h : s.over = false) (he : t.e = false) : t.okE s = 0 := by
  unfold TxS.okE
  rw [h, he]
  rfl
theorem wrE0 {s : SdS} {t : TxS} (h : s.over = false) (he : t.e = false) (hw : t.w = true) : t.writerE s = 0 := by
  unfold TxS.writerE
  rw [if_neg (by rw [okE0 h he]; decide), if_pos hw]
theorem count_w (h : Wr L w t0 D sv) : Calls Tryz.prog 16 #[ptrV t0] w fun e w' => e = .returned (.int .i64 D.length) ∧ Kp NoB w w' := by
  obtain ⟨sb, db, lb, tb, s, ts, i, t, h1, h2, rfl, h4, h5⟩ := h
  have := count_t h1 h2
  unfold TxS.cnt at this
  rw [if_neg (by rw [okE0 h4 h5.e]; decide), h5.count] at this
  exact this
/-- does a page answer? -/
def pgE (D : List (List Int)) (n : Int) : Int := if 1 ≤ n ∧ n ≤ D.length then 0 else 4
theorem page_w (h : Wr L w t0 D sv) (n : Int) : Calls Tryz.prog 46 #[ptrV t0, .int .i64 n] w fun e w' => e = .returned (.tuple #[.agg (bytesV (pgD D n)), .int .i64 (pgE D n)]) ∧ Kp NoB w w' := by
  obtain ⟨sb, db, lb, tb, s, ts, i, t, h1, h2, rfl, h4, h5⟩ := h
  have hk : (n < 1 ∨ t.count < n ∨ (t.pg n.toNat).isSome = true) := by
    by_cases e1 : n < 1
    · exact .inl e1
    · by_cases e2 : t.count < n
      · exact .inr (.inl e2)
      · refine .inr (.inr ?_)
        rw [h5.count] at e2
        rw [h5.pg]
        unfold pgOf
        rw [if_neg (by omega), List.getElem?_eq_getElem (by omega)]
        rfl
  have := page_k h1 h2 n (.inr hk)
  have e : pgK s t n = (pgD D n, pgE D n) := by
    unfold pgK pgD pgE
    rw [if_neg (by rw [okE0 h4 h5.e]; decide), h5.count]
    by_cases e1 : 1 ≤ n ∧ n ≤ D.length
    · rw [if_neg (by omega), if_pos e1, if_pos e1]
      congr 1
      unfold pgVal pgAt
      rw [if_pos (by omega), h5.pg]
      unfold pgOf
      rw [if_neg (by omega), List.getElem?_eq_getElem (by omega), List.getD_eq_getElem?_getD, List.getElem?_eq_getElem (by omega)]
      rfl
    · rw [if_pos (by omega), if_neg e1, if_neg e1]
  rw [e] at this
  exact this
def putS (D : List (List Int)) (n : Int) (b : List Int) : List (List Int) × Int :=
  if n < 1 ∨ (D.length : Int) + 1 < n then (D, 4) else if 4096 < n then (D, 5) else (if n = (D.length : Int) + 1 then D ++ [b] else D.set (n.toNat - 1) b, 0)
def shrS (D : List (List Int)) (n : Int) : List (List Int) × Int := if n < 0 ∨ (D.length : Int) < n then (D, 2) else (D.take n.toNat, 0)
/-- how a call that may change something ends -/
def WrEnd (L : Lab) (w : World) (t0 : Nat) (D : List (List Int)) (sv : List (List (List Int))) (v : Value) (e : Ending) (w' : World) : Prop :=
  e = .returned v ∧ ∃ L', Wr L' w' t0 D sv ∧ Gw L w L' w'
theorem put_w (h : Wr L w t0 D sv) (n : Int) (b : List Int) (hb : Bytes b) : Calls Tryz.prog 47 #[ptrV t0, .int .i64 n, .agg (bytesV b)] w (WrEnd L w t0 (putS D n b).1 sv (.int .i64 (putS D n b).2)) := by
  obtain ⟨sb, db, lb, tb, s, ts, i, t, h1, h2, rfl, h4, h5⟩ := h
  refine (put_t h1 h2 n b hb.len hb.mem).mono ?_
  rintro e w' ⟨rfl, L', h6, h7⟩
  have e1 : t.put s n b = if n < 1 ∨ t.count + 1 < n then (t, 4) else if 4096 < n then (t, 5) else ({ t with pg := t.pg.put n.toNat b, count := max t.count n }, 0) := by
    unfold TxS.put
    rw [if_neg (by rw [wrE0 h4 h5.e h5.w]; decide)]
  rw [e1, h5.count] at h6 ⊢
  unfold putS
  by_cases c1 : n < 1 ∨ (D.length : Int) + 1 < n
  · rw [if_pos c1] at h6 ⊢
    rw [if_pos c1]
    exact ⟨rfl, L', ⟨sb, db, lb, tb, s, _, i, t, h6, updT_at _ _ _, rfl, h4, h5⟩, h7⟩
  · rw [if_neg c1] at h6 ⊢
    rw [if_neg c1]
    by_cases c2 : 4096 < n
    · rw [if_pos c2] at h6 ⊢
      rw [if_pos c2]
      exact ⟨rfl, L', ⟨sb, db, lb, tb, s, _, i, t, h6, updT_at _ _ _, rfl, h4, h5⟩, h7⟩
    · rw [if_neg c2] at h6 ⊢
      rw [if_neg c2]
      refine ⟨rfl, L', ⟨sb, db, lb, tb, s, _, i, _, h6, updT_at _ _ _, rfl, h4, h5.w, h5.e, ?_, ?_, h5.saves⟩, h7⟩
      · show max (D.length : Int) n = _
        split
        · rw [List.length_append]
          simp
          omega
        · rw [List.length_set]
          omega
      · show t.pg.put n.toNat b = _
        rw [h5.pg]
        funext k
        unfold PgM.put pgOf
        by_cases ek : k = n.toNat
        · rw [if_pos ek, if_neg (by omega)]
          split
          · rw [List.getElem?_append_right (by omega), show k - 1 - D.length = 0 from by omega]
            rfl
          · rw [List.getElem?_set, if_pos (by omega), if_pos (by omega)]
        · rw [if_neg ek]
          by_cases e0 : k = 0
          · rw [if_pos e0, if_pos e0]
          · rw [if_neg e0, if_neg e0]
            split
            · by_cases hlt : k - 1 < D.length
              · rw [List.getElem?_append_left hlt]
              · rw [List.getElem?_eq_none (by omega), List.getElem?_eq_none (by rw [List.length_append]; simp; omega)]
            · rw [List.getElem?_set, if_neg (by omega)]
theorem shrink_w (h : Wr L w t0 D sv) (n : Int) : Calls Tryz.prog 48 #[ptrV t0, .int .i64 n] w (WrEnd L w t0 (shrS D n).1 sv (.int .i64 (shrS D n).2)) := by
  obtain ⟨sb, db, lb, tb, s, ts, i, t, h1, h2, rfl, h4, h5⟩ := h
  refine (shrink_t h1 h2 n).mono ?_
  rintro e w' ⟨rfl, L', h6, h7⟩
  have e1 : t.shrink s n = if n < 0 ∨ t.count < n then (t, 2) else ({ t with pg := t.pg.cut n.toNat, count := n }, 0) := by
    unfold TxS.shrink
    rw [if_neg (by rw [wrE0 h4 h5.e h5.w]; decide)]
  rw [e1, h5.count] at h6 ⊢
  unfold shrS
  by_cases c1 : n < 0 ∨ (D.length : Int) < n
  · rw [if_pos c1] at h6 ⊢
    rw [if_pos c1]
    exact ⟨rfl, L', ⟨sb, db, lb, tb, s, _, i, t, h6, updT_at _ _ _, rfl, h4, h5⟩, h7⟩
  · rw [if_neg c1] at h6 ⊢
    rw [if_neg c1]
    refine ⟨rfl, L', ⟨sb, db, lb, tb, s, _, i, _, h6, updT_at _ _ _, rfl, h4, h5.w, h5.e, ?_, ?_, h5.saves⟩, h7⟩
    · show n = _
      rw [List.length_take]
      omega
    · show t.pg.cut n.toNat = _
      rw [h5.pg]
      funext k
      unfold PgM.cut pgOf
      by_cases e0 : k = 0
      · rw [if_pos e0, if_pos e0]
        split <;> rfl
      · rw [if_neg e0, if_neg e0, List.getElem?_take]
        by_cases hk : k ≤ n.toNat
        · rw [if_pos hk, if_pos (by omega)]
        · rw [if_neg hk, if_neg (by omega)]
end
end Go.Proofs.YtoeldmkbmnkhkaaGreat
/- The law's gone: a page's cells gone over, left early, and once more; no condition. -/
namespace Go.Proofs.YtoeldmkbmnkhkaaGreat
open Go.RowKit Go.Shelf
attribute [local go_sem ↓] load26 store26 alloc26 build26 slice26lo
attribute [local go_sem] Oper.semAt_some
theorem load26i (r : Option Nat) (w : World) (ev : Operand → Value) (ds : Option Tmp) (x : Operand) (ty : TypeId) (ps : String) (af : Array Edge) (g : Option (Nat × Bool)) (h : thereP w (ev x) 256) :
    (Oper.semAt r ev ⟨ds, .load 86 x, ty, ps, af, g⟩).run Tryz.prog w = .ok (.value (.agg (readP w (ev x) 256))) w := by
  rw [Oper.semAt_eq _ _ _ (by intro c h; cases h)]
  exact load26 w ev ds x ty ps af g h
theorem eqlSeq (w : World) (f : Fn) (b c : Array Value) : (binOp .eql 187 (.func f b c) .nilFunc).run Tryz.prog w = .ok (.bool false) w := by kernel_rfl

/-- the boxes of gone: s the first of the loop's two -/
structure GS (w w2 : World) (A : Option Addr) (n cap : Nat) (cs : List ByteArray) (early : Int) (s : Nat) (turn cnt : Int) (W : World) : Prop where
  k : Kp NoB w W
  bel : Below w2.heap.size w2 W
  le : w2.heap.size ≤ s
  b4 : Blk W (w.heap.size + 1) 99 #[.slice A n cap]
  b5 : Blk W (w.heap.size + 1 + 1) 3 #[.int .i64 early]
  b6 : Blk W (w.heap.size + 1 + 1 + 1) 4 #[.bool false]
  b8 : Blk W s 3 #[.int .i64 turn]
  b9 : Blk W (s + 1) 3 #[.int .i64 cnt]
  sl : Sl W A n cs
theorem blk_kept {W W' : World} {row : Option Nat} {g : Nat} {t : TypeId} {cs : Array Value} (h : Blk W g t cs) (hg : W.grownBy W' row) (hr : ∀ r, row = some r → ∃ o : Obj, W.heap[r]? = some o ∧ o.isCells = false) : Blk W' g t cs :=
  (hg.block g h.lt (fun e => by obtain ⟨o, ho, hc⟩ := hr g e.symm; rw [show W.heap[g]? = _ from h] at ho; cases ho; cases hc)).trans h
theorem sl_kept {W W' : World} {row : Option Nat} {A : Option Addr} {n : Nat} {cs : List ByteArray} (h : Sl W A n cs) (hg : W.grownBy W' row) (hr : ∀ r, row = some r → ∃ o : Obj, W.heap[r]? = some o ∧ o.isCells = false) : Sl W' A n cs :=
  ⟨h.1, fun hn => by
    obtain ⟨g, o, e, hl, hc⟩ := h.2 hn
    exact ⟨g, o, e, Nat.lt_of_lt_of_le hl hg.size, fun j hj => cell_kept (hc j hj) hg hr⟩⟩
theorem GS.kept {w w2 : World} {A : Option Addr} {n cap : Nat} {cs : List ByteArray} {early : Int} {s : Nat} {turn cnt : Int} {W W' : World} {row : Option Nat} (h : GS w w2 A n cap cs early s turn cnt W) (hw : w.heap.size ≤ w2.heap.size) (hg : W.grownBy W' row)
    (hr : ∀ r, row = some r → s + 1 < r ∧ ∃ o : Obj, W.heap[r]? = some o ∧ o.isCells = false) : GS w w2 A n cap cs early s turn cnt W' :=
  have hr' := fun r e => (hr r e).2
  ⟨h.k.grown hg (fun r e => .inl (by have := (hr r e).1; have := h.le; omega)), h.bel.grown hg h.bel.size (fun r e => by have := (hr r e).1; have := h.le; omega), h.le,
    blk_kept h.b4 hg hr', blk_kept h.b5 hg hr', blk_kept h.b6 hg hr', blk_kept h.b8 hg hr', blk_kept h.b9 hg hr', sl_kept h.sl hg hr'⟩
theorem GS.set {w w2 : World} {A : Option Addr} {n cap : Nat} {cs : List ByteArray} {early : Int} {s : Nat} {turn cnt : Int} {W : World} (h : GS w w2 A n cap cs early s turn cnt W) (hw : w.heap.size + 4 ≤ w2.heap.size) (x : Int)  : GS w w2 A n cap cs early s turn x (W.setCell ⟨s + 1, 0, none⟩ (.int .i64 x)) := by
  have hle := h.le
  have hsl : Sl (W.setCell ⟨s + 1, 0, none⟩ (.int .i64 x)) A n cs := by
    refine ⟨h.sl.1, fun hn => ?_⟩
    obtain ⟨g, o, e, hg, hc⟩ := h.sl.2 hn
    have hne : g ≠ s + 1 := by
      rintro rfl
      have h0 := hc 0 hn
      rw [h.b9.cell] at h0
      have := Array.getElem?_eq_some_iff.1 h0
      obtain ⟨hh, h2⟩ := this
      simp at hh
      have : o = 0 := by omega
      subst this
      simp at h2
    have kk := Kp.setCell (S := OnB (s + 1)) (p := ⟨s + 1, 0, none⟩) (Kp.refl _ W) (.inr rfl) (.int .i64 x)
    exact ⟨g, o, e, Nat.lt_of_lt_of_le hg kk.size, fun j hj => (kk.cell hg (fun q => hne q)).trans (hc j hj)⟩
  exact ⟨h.k.setCell (p := ⟨s + 1, 0, none⟩) (.inl (by show _ ≤ s + 1; omega)) _, h.bel.setCell (p := ⟨s + 1, 0, none⟩) (by show _ ≤ s + 1; omega) _, hle,
    h.b4.far (p := ⟨s + 1, 0, none⟩) (by show _ ≠ s + 1; omega) _, h.b5.far (p := ⟨s + 1, 0, none⟩) (by show _ ≠ s + 1; omega) _, h.b6.far (p := ⟨s + 1, 0, none⟩) (by show _ ≠ s + 1; omega) _, h.b8.far (p := ⟨s + 1, 0, none⟩) (by show _ ≠ s + 1; omega) _, h.b9.set_ 0 _, hsl⟩
theorem GS.own {w w2 : World} {A : Option Addr} {n cap : Nat} {cs : List ByteArray} {early : Int} {s : Nat} {turn : Int} {B : Nat} (hw : w.heap.size ≤ w2.heap.size) (hB : s + 2 ≤ B) (p : List Nat → Prop) (q : List Nat → Int) :
    OwnFrom B (fun (pre : List Nat) W => p pre ∧ GS w w2 A n cap cs early s turn (q pre) W) := fun pre W W' row hs hg hr =>
  ⟨hs.1, hs.2.kept hw hg (fun r e => ⟨by have := (hr r e).1; omega, (hr r e).2⟩)⟩
end Go.Proofs.YtoeldmkbmnkhkaaGreat
