/- Texts of this proof, one behind the other: lemmas and contracts; each says its own conditions. -/
import Derived.Test.YtegcbdfilkecpaaS5
import Derived.Test.YtegcbdfilkecpaaS7
import Derived.Test.YtegcbdfilkecpaaS8
import Derived.Test.YtegcbdfilkecpaaS9
import Derived.Test.YtegcbdfilkecpaaS10
/- The log: pages brought home; condition: a disk. -/
namespace Go.Proofs.Ytegcbdfilkecpaa
open Go.RowKit

def IntoW (F : Nat → Value → Act) (G : World → Nat → Value → Prop) : Exit → Act → World → Prop
  | .normal, a, w => ∃ g v, a = F g v ∧ G w g v
  | _, _, _ => False
theorem wp_intoW {P : Program} {c : Code} {Q : Exit → Act → World → Prop} {a : Act} {w : World} (F : Nat → Value → Act) (G : World → Nat → Value → Prop) (h : c.wp P (IntoW F G) a w) (k : ∀ g v w', G w' g v → Q .normal (F g v) w') : c.wp P Q a w :=
  Code.wp_mono (fun e a w q => by cases e <;> first | exact q.elim | (obtain ⟨g, v, rfl, hg⟩ := q; exact k g v _ hg)) h
theorem intoW_of {F : Nat → Value → Act} {G : World → Nat → Value → Prop} {a : Act} {w : World} (g : Nat) (v : Value) (q : G w g v) (e : a = F g v) : IntoW F G .normal a w := ⟨g, v, e, q⟩
theorem own_lt {w : World} {base size n : Nat} {e : TypeId} {v : Value} {xs : List Value} (h : w.ownsRow base e size v n xs) : ∀ b, v.ownBlock = some b → b < w.heap.size := fun b hb => by
  rcases h.2 with ⟨rfl, _⟩ | ⟨g, cap, cur, rfl, _, hh, _⟩
  · cases hb
  · have e1 : g = b := by injection hb
    rw [← e1]
    exact lt_of_heap hh
def CkRel (S : Nat → Prop) (w3 : World) (db : Nat) (l : List Pg) (T : Pl × Int) (v6 v34 : Value) (wr : World) : Prop :=
  ∃ (i : Nat) (e : Int) (q : Pl), v34 = .int .i64 (i : Int) ∧ v6 = .int .i64 e ∧ i ≤ l.length ∧ Dq S w3 wr db q ∧ q.sm (20000 * (l.length - i) + 120000) ∧ T = if e = 0 then q.runS (homeW (l.drop i)) else (q, e)
theorem pgs_ownW {w : World} {n0 : Nat} {v : Value} {l : List Pg} (h : OwnPgs w n0 v l) {s : Nat} (hs : l.length = s) : ∃ A cap, v = .slice A s cap ∧ PgsAt w A s l ∧ (∀ g o, A = some ⟨g, o, none⟩ → n0 ≤ g) := by
  subst hs
  obtain ⟨A, cap, rfl⟩ := own_slice h.1
  refine ⟨A, cap, rfl, RowsC.own (base := n0) (cap := cap) (e := 113) ?_ (by simp) ?_, fun g o e => ?_⟩
  · have h1 := h.1
    unfold pgsCells at h1
    rw [List.flatMap_def] at h1
    exact h1
  · intro y hy
    obtain ⟨x, hx, rfl⟩ := List.mem_map.1 hy
    exact pgL_len (h.2 x hx)
  · subst e
    rcases h.1.2 with ⟨h0, _⟩ | ⟨g', c, cur, hv, hb, _⟩
    · cases h0
    · injection hv with a b c
      injection a with a
      injection a with a b
      omega
theorem whome_len (p : Pl) (fs : List Fr) (m : Int) : (p.whome fs m).length ≤ (wcount p fs m).toNat := by
  unfold Pl.whome
  rw [List.length_map]
  exact Nat.le_trans (List.length_filter_le _ _) (by simp)
theorem wcheckS_eq (p : Pl) (fs : List Fr) (m : Int) : p.wcheckS fs m = (headS nmWal p.whead ++ homeW (p.whome fs m)) ++ ([⟨1, nmDb, wcount p fs m * 256, []⟩, ⟨2, nmDb, 0, []⟩] ++ if m = fs.length then headS nmWal ⟨0, 0, 0, 0⟩ else []) := by
  unfold Pl.wcheckS homeS
  simp only [List.append_assoc]
def CkPost (S : Nat → Prop) (w : World) (db : Nat) (p : Pl) (m : Int) (e : Ending) (w' : World) : Prop := e = .returned (.int .i64 (p.wcheck m).2) ∧ Dq S w w' db (p.wcheck m).1
section
variable {S : Nat → Prop} {w : World} {db : Nat} {p : Pl}
attribute [local go_sem ↓] loadPg storePg allocPg load26 store26 conv64 loadW4 storeW4
attribute [local go_sem] size_setCells
set_option maxRecDepth 100000 in
set_option maxHeartbeats 1600000 in
theorem wcheck_q (h : Dq S w w db p) (m : Int) (hm : p.sm 200000000) :
    Calls Try.prog 41 #[ptrV db, .int .i64 m] w (CkPost S w db p m) := by
  have H := Lib.hid h
  have HM := Lib.hid hm
  have HPST : Hid (∀ y q w', p.wcheck m = (q, y) → Dq S w w' db q → CkPost S w db p m (.returned (.int .i64 y)) w') := Lib.hid (fun y q w' e hd => by unfold CkPost; rw [e]; exact ⟨rfl, hd⟩)
  clear h hm
  obtain ⟨PP, hPP⟩ : ∃ PP, CkPost S w db p m = PP := ⟨_, rfl⟩
  rw [hPP] at HPST ⊢
  clear hPP
  unfold ptrV
  go_enter Try.func41, Try.ntmps41
  go_wp2_with fail
  refine (show Calls _ _ #[ptrV db, .int .i64 m] _ _ from asked_q H.out m).mono ?_
  rintro e w1 (⟨he, rfl, hk⟩ | ⟨he, lb, A, c, rfl, hl, hg, hk⟩)
  · have HK := Lib.hid hk
    have he1 : (p.wopen.1 == 0) = false := by simpa using he
    have he2 : (p.wopen.1 != 0) = true := by simpa using he
    have HR : Hid (p.wcheck m = (p, p.wopen.1)) := Lib.hid (by unfold Pl.wcheck; rw [if_pos he])
    obtain ⟨e0, q0⟩ : ∃ e0, p.wopen.1 = e0 := ⟨_, rfl⟩
    rw [q0] at he1 he2 HR ⊢
    clear hk he q0
    go_wp2_with fail
    exact HPST.out _ _ _ HR.out (H.out.keep (HK.out.trans ((Kp.refl NoB w1).alloc _) (fun _ _ q => q)))
  · have HK := Lib.hid hk
    have HL := Lib.hid hl
    have HE := Lib.hid he
    cases hmk : isMark p.wopen.2 m with
    | false =>
      have HR : Hid (p.wcheck m = (p, 4)) := Lib.hid (by unfold Pl.wcheck; rw [if_neg (by rw [he]; simp), if_pos hmk])
      rw [if_neg (by simp)]
      clear hk hl he hg hmk
      go_wp2_with fail
      exact HPST.out _ _ _ HR.out (H.out.keep (HK.out.trans ((Kp.refl NoB w1).alloc _) (fun _ _ q => q)))
    | true =>
      rw [if_pos rfl]
      by_cases h0 : m = 0
      · have HR : Hid (p.wcheck m = (p, 0)) := Lib.hid (by unfold Pl.wcheck; rw [if_neg (by rw [he]; simp), if_neg (by rw [hmk]; simp), if_pos h0])
        have h01 : (m == 0) = true := by simpa using h0
        clear hk hl he hg hmk
        subst h0
        go_wp2_with fail
        exact HPST.out _ _ _ HR.out (H.out.keep (HK.out.trans ((Kp.refl NoB w1).alloc _) (fun _ _ q => q)))
      · have HMK := Lib.hid hmk
        have h01 : (m == 0) = false := by simpa using h0
        obtain ⟨k, hmk2, hkl⟩ := mark_nat hmk
        have HWC : Hid (p.wcheck m = p.runS (p.wcheckS p.wopen.2 m)) := Lib.hid (by unfold Pl.wcheck; rw [if_neg (by rw [he]; simp), if_neg (by rw [hmk]; simp), if_neg h0])
        have HFL := Lib.hid (wopen_len he)
        have HRG : Hid (0 ≤ wcount p p.wopen.2 m ∧ wcount p p.wopen.2 m ≤ 4096) := Lib.hid (wcount_rng hl.ok (jcount_le H.out) hmk)
        have HLB : Hid (w.heap.size ≤ lb) := Lib.hid hg
        have hk0 : k ≠ 0 := fun e => h0 (by rw [hmk2, e]; rfl)
        subst hmk2
        have HKL := Lib.hid hkl
        clear hk hl he hg hmk h0 hkl
        dsimp only
        go_upto_region 4 with fail
        have hkL : Kp NoB w1 (w1.alloc (.cells #[.pointer (some ⟨lb, 0, none⟩)] 158)) := (Kp.refl NoB w1).alloc _
        have hbL : Blk (w1.alloc (.cells #[.pointer (some ⟨lb, 0, none⟩)] 158)) w1.heap.size 158 #[.pointer (some ⟨lb, 0, none⟩)] := Blk.new w1 158 #[.pointer (some ⟨lb, 0, none⟩)]
        generalize w1.alloc (.cells #[.pointer (some ⟨lb, 0, none⟩)] 158) = w2 at hkL hbL ⊢
        have HKW : Hid (Kp NoB w w2) := Lib.hid (HK.out.trans hkL (fun _ _ q => q))
        have HL2 : Hid (LgS w2 db lb p.whead A c p.wopen.2) := Lib.hid (HL.out.keep hkL)
        have HQ2 : Hid (Dq S w w2 db p) := Lib.hid (H.out.keep HKW.out)
        obtain ⟨B5, hb5⟩ : ∃ B5, w1.heap.size = B5 := ⟨_, rfl⟩
        rw [hb5] at hbL ⊢
        have HB5 : Hid (w.heap.size ≤ B5 ∧ B5 < w2.heap.size) := Lib.hid (by have := HK.out.size; have := hbL.lt; omega)
        have HBL := Lib.hid hbL
        obtain ⟨C, hC⟩ : ∃ C, wcount p p.wopen.2 (k : Int) = C := ⟨_, rfl⟩
        have HCC := Lib.hid hC
        obtain ⟨L, hL⟩ : ∃ L, p.whome p.wopen.2 (k : Int) = L := ⟨_, rfl⟩
        have HLL := Lib.hid hL
        clear hkL hbL hb5 hC hL
        apply wp_intoW (G := fun V g v => Blk V g 3 #[.int .i64 C] ∧ w2.heap.size ≤ g ∧ OwnPgs V w2.heap.size v L ∧ Kp NoB w2 V)
        · refine wp_region_held_drew (S := fun V => Kp NoB w2 V) (by kernel_rfl) (Kp.refl NoB w2).drew (fun hHeld => ?_)
          have k0' : Kp NoB w2 w2.drew := (Kp.refl NoB w2).drew
          generalize w2.drew = V0 at k0' hHeld ⊢
          refine tkS (i := 0) (v := (.pointer (some ⟨lb, 0, none⟩))) rfl (Or.inl ⟨by rfl, fun w' hq => by have cc : w'.cell? ⟨B5, 0, none⟩ = some (.pointer (some ⟨lb, 0, none⟩)) := (hq.cell HBL.out.lt (fun q => q)).trans (HBL.out.cell 0); go_simp⟩) k0' ?_
          simp only [Act.put, skA, skB, skC]
          refine tkS (i := 1) (v := (.int .i64 (k : Int))) rfl (Or.inl ⟨by rfl, fun w' hq => by go_simp⟩) k0' ?_
          simp only [Act.put, skA, skB, skC]
          refine tkS (i := 3) (v := (.pointer (some ⟨lb, 0, none⟩))) rfl (Or.inl ⟨by rfl, fun w' hq => by have cc : w'.cell? ⟨B5, 0, none⟩ = some (.pointer (some ⟨lb, 0, none⟩)) := (hq.cell HBL.out.lt (fun q => q)).trans (HBL.out.cell 0); go_simp⟩) k0' ?_
          simp only [Act.put, skA, skB, skC]
          refine tkS (i := 4) (v := (.int .i64 (k : Int))) rfl (Or.inl ⟨by rfl, fun w' hq => by go_simp⟩) k0' ?_
          simp only [Act.put, skA, skB, skC]
          refine wpAnyH_ready (rs := [2, 6]) (by kernel_rfl) (by simp) ?_
          refine AllReadyH.callR (fun y W' => y = .int .i64 C ∧ W' = V0) rfl (by rfl) 99 #[.pointer (some ⟨lb, 0, none⟩), .int .i64 (k : Int)] (by first | (go_simp; done) | (go_simp; rfl)) (fun _ _ z => by rw [z.2]; exact k0') ((wcount_q (HQ2.out.keep k0') (HL2.out.keep k0') _ HMK.out).mono (by rintro e w19 ⟨rfl, hw⟩; exact ⟨_, rfl, by rw [HCC.out], hw.symm⟩)) ?_ ?_
          · rintro y V0 ⟨rfl, rfl⟩
            simp only [Act.put, skA, skB, skC]
            refine wpAnyH_ready (rs := [5, 6]) (by kernel_rfl) (by simp) ?_
            refine AllReadyH.callR (fun y W' => OwnPgs W' w2.heap.size y L ∧ Kp NoB V0 W') rfl (by rfl) 100 #[.pointer (some ⟨lb, 0, none⟩), .int .i64 (k : Int)] (by first | (go_simp; done) | (go_simp; rfl)) (fun _ _ z => (k0').trans z.2 (fun _ _ q => q)) ((whome_q (HQ2.out.keep k0') (HL2.out.keep k0') k HKL.out HMK.out HFL.out).mono (by rintro e w19 ⟨v, rfl, ho, hk⟩; rw [HLL.out] at ho; exact ⟨v, rfl, ⟨ho.1.mono (Kp.size k0'), ho.2⟩, hk⟩)) ?_ ?_
            · rintro yv V1 ⟨hoy0, kk1⟩
              have k1 := k0'.trans kk1 (fun _ _ q => q)
              simp only [Act.put, skA, skB, skC]
              refine wpAnyH_ready (rs := [6]) (by kernel_rfl) (by simp) ?_
              refine AllReadyH.valR (fun W' => W' = V1.alloc (.cells #[.int .i64 0] 3)) rfl (by rfl) _ _ (allocIntW V1 _ _ _ _ _ _) (fun W' e => by rw [e]; exact (k1).alloc _) rfl ?_ AllReadyH.nil
              rintro _ rfl
              have hbA : Blk (V1.alloc (.cells #[.int .i64 0] 3)) V1.heap.size 3 #[.int .i64 0] := Blk.new _ _ _
              have k2 : Kp NoB w2 (V1.alloc (.cells #[.int .i64 0] 3)) := k1.alloc _
              have hoy : OwnPgs (V1.alloc (.cells #[.int .i64 0] 3)) w2.heap.size yv L := ⟨own_keepB hoy0.1 ((Kp.refl NoB V1).alloc _) (fun _ _ q => q), hoy0.2⟩
              have hgA : w2.heap.size ≤ V1.heap.size := k1.size
              have hny : ∀ b, yv.ownBlock = some b → b ≠ V1.heap.size := fun b hb e => by have := own_lt hoy0.1 b hb; omega
              generalize V1.alloc (.cells #[.int .i64 0] 3) = V2 at hbA k2 hoy ⊢
              generalize V1.heap.size = gA at hbA hgA hny ⊢
              simp only [Act.put, skA, skB, skC]
              refine wpAnyH_ready (rs := [7]) (by kernel_rfl) (by simp) ?_
              have kst : Kp NoB w2 (V2.setCell ⟨gA, 0, none⟩ (.int .i64 C)) := (k2).setCell (p := ⟨gA, 0, none⟩) (.inl hgA) _
              refine AllReadyH.skipR rfl (by rfl) _ (stIntW hbA _ rfl rfl) kst ?_ AllReadyH.nil
              have hbF := hbA.set_ 0 (.int .i64 C)
              have hoF : OwnPgs (V2.setCell ⟨gA, 0, none⟩ (.int .i64 C)) w2.heap.size yv L := ⟨own_keepB hoy.1 ((Kp.refl (OnB gA) _).setCell (p := ⟨gA, 0, none⟩) (.inr rfl) _) (fun b hb q => hny b hb q), hoy.2⟩
              generalize V2.setCell ⟨gA, 0, none⟩ (.int .i64 C) = WE at hbF hoF kst ⊢
              refine tkS (i := 8) (v := yv) rfl (Or.inl ⟨by rfl, fun w' hq => by go_simp⟩) kst ?_
              simp only [Act.put, skA, skB, skC]
              refine wpAnyH_done (by kernel_rfl) ?_ _
              exact intoW_of gA yv ⟨hbF, hgA, hoF, kst⟩ rfl
            · refine AllReadyH.valR (fun W' => W' = V0.alloc (.cells #[.int .i64 0] 3)) rfl (by rfl) _ _ (allocIntW V0 _ _ _ _ _ _) (fun W' e => by rw [e]; exact (k0').alloc _) rfl ?_ AllReadyH.nil
              rintro _ rfl
              have hbA0 : Blk (V0.alloc (.cells #[.int .i64 0] 3)) V0.heap.size 3 #[.int .i64 0] := Blk.new _ _ _
              have k1 : Kp NoB w2 (V0.alloc (.cells #[.int .i64 0] 3)) := k0'.alloc _
              have hgA : w2.heap.size ≤ V0.heap.size := k0'.size
              generalize V0.alloc (.cells #[.int .i64 0] 3) = V1 at hbA0 k1 ⊢
              generalize V0.heap.size = gA at hbA0 hgA ⊢
              simp only [Act.put, skA, skB, skC]
              refine wpAnyH_ready (rs := [5]) (by kernel_rfl) (by simp) ?_
              refine AllReadyH.callR (fun y W' => OwnPgs W' w2.heap.size y L ∧ (∀ b, y.ownBlock = some b → b ≠ gA) ∧ Kp NoB V1 W') rfl (by rfl) 100 #[.pointer (some ⟨lb, 0, none⟩), .int .i64 (k : Int)] (by first | (go_simp; done) | (go_simp; rfl)) (fun _ _ z => (k1).trans z.2.2 (fun _ _ q => q)) ((whome_q (HQ2.out.keep k1) (HL2.out.keep k1) k HKL.out HMK.out HFL.out).mono (by rintro e w19 ⟨v, rfl, ho, hk⟩; rw [HLL.out] at ho; exact ⟨v, rfl, ⟨ho.1.mono (Kp.size k1), ho.2⟩, (fun b hb e => by have h1 := own_ge ho.1 b hb; have h2 := hbA0.lt; omega), hk⟩)) ?_ AllReadyH.nil
              rintro yv V2 ⟨hoy, hny, kk2⟩
              have k2 := k1.trans kk2 (fun _ _ q => q)
              have hbA := hbA0.keep kk2 (fun q => q)
              simp only [Act.put, skA, skB, skC]
              refine wpAnyH_ready (rs := [7]) (by kernel_rfl) (by simp) ?_
              have kst : Kp NoB w2 (V2.setCell ⟨gA, 0, none⟩ (.int .i64 C)) := (k2).setCell (p := ⟨gA, 0, none⟩) (.inl hgA) _
              refine AllReadyH.skipR rfl (by rfl) _ (stIntW hbA _ rfl rfl) kst ?_ AllReadyH.nil
              have hbF := hbA.set_ 0 (.int .i64 C)
              have hoF : OwnPgs (V2.setCell ⟨gA, 0, none⟩ (.int .i64 C)) w2.heap.size yv L := ⟨own_keepB hoy.1 ((Kp.refl (OnB gA) _).setCell (p := ⟨gA, 0, none⟩) (.inr rfl) _) (fun b hb q => hny b hb q), hoy.2⟩
              generalize V2.setCell ⟨gA, 0, none⟩ (.int .i64 C) = WE at hbF hoF kst ⊢
              refine tkS (i := 8) (v := yv) rfl (Or.inl ⟨by rfl, fun w' hq => by go_simp⟩) kst ?_
              simp only [Act.put, skA, skB, skC]
              refine wpAnyH_done (by kernel_rfl) ?_ _
              exact intoW_of gA yv ⟨hbF, hgA, hoF, kst⟩ rfl
          · refine AllReadyH.valR (fun W' => W' = V0.alloc (.cells #[.int .i64 0] 3)) rfl (by rfl) _ _ (allocIntW V0 _ _ _ _ _ _) (fun W' e => by rw [e]; exact (k0').alloc _) rfl ?_ AllReadyH.nil
            rintro _ rfl
            have hbA0 : Blk (V0.alloc (.cells #[.int .i64 0] 3)) V0.heap.size 3 #[.int .i64 0] := Blk.new _ _ _
            have k1 : Kp NoB w2 (V0.alloc (.cells #[.int .i64 0] 3)) := k0'.alloc _
            have hgA : w2.heap.size ≤ V0.heap.size := k0'.size
            generalize V0.alloc (.cells #[.int .i64 0] 3) = V1 at hbA0 k1 ⊢
            generalize V0.heap.size = gA at hbA0 hgA ⊢
            simp only [Act.put, skA, skB, skC]
            refine wpAnyH_ready (rs := [2]) (by kernel_rfl) (by simp) ?_
            refine AllReadyH.callR (fun y W' => y = .int .i64 C ∧ W' = V1) rfl (by rfl) 99 #[.pointer (some ⟨lb, 0, none⟩), .int .i64 (k : Int)] (by first | (go_simp; done) | (go_simp; rfl)) (fun _ _ z => by rw [z.2]; exact k1) ((wcount_q (HQ2.out.keep k1) (HL2.out.keep k1) _ HMK.out).mono (by rintro e w19 ⟨rfl, hw⟩; exact ⟨_, rfl, by rw [HCC.out], hw.symm⟩)) ?_ AllReadyH.nil
            rintro y V1 ⟨rfl, rfl⟩
            simp only [Act.put, skA, skB, skC]
            refine wpAnyH_ready (rs := [5]) (by kernel_rfl) (by simp) ?_
            refine AllReadyH.callR (fun y W' => OwnPgs W' w2.heap.size y L ∧ (∀ b, y.ownBlock = some b → b ≠ gA) ∧ Kp NoB V1 W') rfl (by rfl) 100 #[.pointer (some ⟨lb, 0, none⟩), .int .i64 (k : Int)] (by first | (go_simp; done) | (go_simp; rfl)) (fun _ _ z => (k1).trans z.2.2 (fun _ _ q => q)) ((whome_q (HQ2.out.keep k1) (HL2.out.keep k1) k HKL.out HMK.out HFL.out).mono (by rintro e w19 ⟨v, rfl, ho, hk⟩; rw [HLL.out] at ho; exact ⟨v, rfl, ⟨ho.1.mono (Kp.size k1), ho.2⟩, (fun b hb e => by have h1 := own_ge ho.1 b hb; have h2 := hbA0.lt; omega), hk⟩)) ?_ AllReadyH.nil
            rintro yv V2 ⟨hoy, hny, kk2⟩
            have k2 := k1.trans kk2 (fun _ _ q => q)
            have hbA := hbA0.keep kk2 (fun q => q)
            simp only [Act.put, skA, skB, skC]
            refine wpAnyH_ready (rs := [7]) (by kernel_rfl) (by simp) ?_
            have kst : Kp NoB w2 (V2.setCell ⟨gA, 0, none⟩ (.int .i64 C)) := (k2).setCell (p := ⟨gA, 0, none⟩) (.inl hgA) _
            refine AllReadyH.skipR rfl (by rfl) _ (stIntW hbA _ rfl rfl) kst ?_ AllReadyH.nil
            have hbF := hbA.set_ 0 (.int .i64 C)
            have hoF : OwnPgs (V2.setCell ⟨gA, 0, none⟩ (.int .i64 C)) w2.heap.size yv L := ⟨own_keepB hoy.1 ((Kp.refl (OnB gA) _).setCell (p := ⟨gA, 0, none⟩) (.inr rfl) _) (fun b hb q => hny b hb q), hoy.2⟩
            generalize V2.setCell ⟨gA, 0, none⟩ (.int .i64 C) = WE at hbF hoF kst ⊢
            refine tkS (i := 8) (v := yv) rfl (Or.inl ⟨by rfl, fun w' hq => by go_simp⟩) kst ?_
            simp only [Act.put, skA, skB, skC]
            refine wpAnyH_done (by kernel_rfl) ?_ _
            exact intoW_of gA yv ⟨hbF, hgA, hoF, kst⟩ rfl
        rintro B7 v8 w3 ⟨hb7, hg7, ho7, hk7⟩
        have HCR : Hid (0 ≤ C ∧ C ≤ 4096) := Lib.hid (by rw [← HCC.out]; exact HRG.out)
        have HPO : Hid (PgsOk L) := Lib.hid ⟨ho7.2, fun x hx => by
          rw [← HLL.out] at hx
          obtain ⟨h1, h2, -⟩ := (whome_mem _ _ _ _).1 hx
          rw [HCC.out] at h2
          have := HCR.out
          omega⟩
        obtain ⟨N, hN⟩ : ∃ N, L.length = N := ⟨_, rfl⟩
        have HLN := Lib.hid hN
        have HN4 : Hid (N ≤ 4096) := Lib.hid (by
          have h1 := whome_len p p.wopen.2 (k : Int)
          rw [HCC.out, HLL.out, hN] at h1
          have := HCR.out
          omega)
        obtain ⟨A8, c8, rfl, hpg, hpa⟩ := pgs_ownW ho7 hN
        have HPG := Lib.hid hpg
        have HKW3 : Hid (Kp NoB w w3) := Lib.hid (HKW.out.trans hk7 (fun _ _ q => q))
        have HAP : Hid (Apart S A8 N) := Lib.hid (fun g o e hn q => by have := H.out.lt _ q; have := hpa g o e; have := HKW.out.size; omega)
        have H3 : Hid (Dq S w3 w3 db p) := Lib.hid (H.out.base1 HKW3.out)
        have HLG : Hid (Blk w3 lb 163 (lgC db p.whead A p.wopen.2.length c)) := Lib.hid (HL2.out.b.keep hk7 (fun q => q))
        have HB53 := Lib.hid (HBL.out.keep hk7 (fun q => q))
        have HB73 := Lib.hid hb7
        have HNL : Hid (¬ S lb ∧ ¬ S B5 ∧ ¬ S B7) := Lib.hid (by
          have h1 := H.out.lt
          have h2 := HB5.out
          have h3 := HKW.out.size
          have h4 := HLB.out
          exact ⟨fun q => by have := h1 _ q; omega, fun q => by have := h1 _ q; omega, fun q => by have := h1 _ q; omega⟩)
        have c5 := HB53.out.cell 0
        clear hb7 hg7 ho7 hk7 hN hpg hpa
        go_wp2_with fail
        refine (wheal_q H3.out HLG.out HNL.out.1 (sm_mono HM.out (by omega))).mono ?_
        rintro e w4 ⟨rfl, h4⟩
        obtain ⟨T, hT⟩ : ∃ T, p.runS (headS nmWal p.whead ++ homeW L) = T := ⟨_, rfl⟩
        have HT := Lib.hid hT
        have hT2 := hT
        rw [runS_append] at hT2
        have HM1 : Hid ((p.runS (headS nmWal p.whead)).1.sm (20000 * (L.length - 0) + 120000)) := Lib.hid (sm_run (headS nmWal p.whead) (k := 20000 * (L.length - 0) + 120000) (sm_mono HM.out (by have := HN4.out; have := HLN.out; simp [headS]; omega)))
        obtain ⟨R0, hR0⟩ : ∃ R0, p.runS (headS nmWal p.whead) = R0 := ⟨_, rfl⟩
        rw [hR0] at h4 hT2 HM1 ⊢
        obtain ⟨q0, e0⟩ := R0
        dsimp only at h4 hT2 HM1 ⊢
        have HSTART : Hid (CkRel S w3 db L T (.int .i64 e0) (.int .i64 0) w4) := Lib.hid ⟨0, e0, q0, rfl, rfl, Nat.zero_le _, h4, HM1.out, hT2.symm⟩
        clear h4 hT hT2 hR0 c5
        go_wp2_with fail
        go_loopw [6, 34] (fun v6 v34 wr => CkRel S w3 db L T v6 v34 wr) (fun _ v _ => N - (intOf v).toNat)
        case atStart => exact HSTART.out
        case round =>
          obtain ⟨wq, rfl⟩ : ∃ wq, wq = wr := ⟨_, rfl⟩
          obtain ⟨i, e, q, rfl, rfl, hi, hq, hqm, hTe⟩ := hrel
          have hN5 : N ≤ 4096 := HN4.out
          have HQ := Lib.hid hq
          have HQM := Lib.hid hqm
          have HTE := Lib.hid hTe
          have hlr : PgsAt wq A8 N L := RowsC.keepS HPG.out hq.kp (fun g o e hn => HAP.out g o e hn)
          have HB5q := Lib.hid (HB53.out.keep hq.kp HNL.out.2.1)
          have HLGq := Lib.hid (HLG.out.keep hq.kp HNL.out.1)
          have HB7q := Lib.hid (HB73.out.keep hq.kp HNL.out.2.2)
          by_cases hlt : i < N
          · have hii : (i : Int) < (N : Int) := by omega
            obtain ⟨g, o, rfl, hg, t1, r1⟩ := hlr.at_ i hlt
            obtain ⟨x, hx⟩ : ∃ x, L[i]? = some x := ⟨_, List.getElem?_eq_getElem (by rw [HLN.out]; exact hlt)⟩
            have hxe : L[i]'(by rw [HLN.out]; exact hlt) = x := (List.getElem?_eq_some_iff.1 hx).2
            rw [hxe] at r1
            have hxm : x ∈ L := List.mem_of_getElem? hx
            have hxo := HPO.out.ok x hxm
            have hxn := HPO.out.n x hxm
            have hdr : L.drop i = x :: L.drop (i + 1) := by rw [← hxe]; exact List.drop_eq_getElem_cons (by rw [HLN.out]; exact hlt)
            have HDR := Lib.hid hdr
            have hb := Blk.new wq 113 (pgA ⟨0, zeros 256⟩)
            have hb2 := hb.whole (pgA x) (by rw [pgA_size hxo]; rfl)
            have t2 := hb.thereAll 257 rfl
            have o1 := pgA_ones x
            have s1 := pgA_size hxo
            have hc0 := hb2.cell 0
            rw [show (pgA x)[0]? = some (.int .i64 x.n) from rfl] at hc0
            obtain ⟨hby, hrd⟩ := pg_by hb2 hxo
            have hk3 : Kp NoB wq ((wq.alloc (.cells (pgA ⟨0, zeros 256⟩) 113)).setCells wq.heap.size 0 (pgA x).toList) := Kp.setCells (.inl (Nat.le_refl _)) _ _ _ ((Kp.refl _ _).alloc _)
            have HK3 := Lib.hid hk3
            have HXO := Lib.hid hxo
            have HXN := Lib.hid hxn
            by_cases he0 : e = 0
            · subst he0
              have HTE1 : Hid (T = q.runS (homeW (L.drop i))) := Lib.hid (by have h5 := HTE.out; rw [if_pos rfl] at h5; exact h5)
              have hG : wq.heap.size < ((wq.alloc (.cells (pgA ⟨0, zeros 256⟩) 113)).setCells wq.heap.size 0 (pgA x).toList).heap.size := by rw [size_setCells]; simp
              have HG := Lib.hid hG
              generalize hRR : pgA x = RR at r1 o1 s1 hc0 hby hrd HK3 HG ⊢
              clear hRR hk3 hxo hxn hq hqm hTe hlr hb hb2 hG hx hxe hxm hdr
              go_upto_region 10 with fail
              generalize hW3 : (wq.alloc (.cells (pgA ⟨0, zeros 256⟩) 113)).setCells wq.heap.size 0 RR.toList = w5 at hc0 hby hrd HK3 HG ⊢
              obtain ⟨G, hGG⟩ : ∃ G, wq.heap.size = G := ⟨_, rfl⟩
              rw [hGG] at hc0 hby hrd HG ⊢
              have HGG := Lib.hid hGG
              clear hGG hW3 t2 t1 r1
              have hwn : IntKind.i64.wrap (x.n - 1) = x.n - 1 := by have := HXN.out; rw [IntKind.wrap_i64]; omega
              have hwm : IntKind.i64.wrap ((x.n - 1) * 256) = (x.n - 1) * 256 := by have := HXN.out; rw [IntKind.wrap_i64]; omega
              have HSZ : Hid ((strOf x.b).size ≤ maxLen) := Lib.hid (by rw [strOf_size, HXO.out.len]; decide)
              have HSI : Hid (strI (strOf x.b) = x.b) := Lib.hid (strI_strOf _ HXO.out.rng)
              obtain ⟨S2, hq2, hS2⟩ := HQ.out.base
              have HQ2b := Lib.hid hq2
              have HS2 := Lib.hid hS2
              have H5 := Lib.hid (hq2.base1 HK3.out.drew)
              have HM2 := Lib.hid (sm_mono HQM.out (show 20000 ≤ 20000 * (L.length - i) + 120000 by omega))
              have hcB : w5.cell? ⟨B5, 0, none⟩ = some (.pointer (some ⟨lb, 0, none⟩)) := (HB5q.out.keep HK3.out (fun q => q)).cell 0
              have hcd : w5.cell? ⟨lb, 0, none⟩ = some (.pointer (some ⟨db, 0, none⟩)) := (HLGq.out.keep HK3.out (fun q => q)).cell 0
              have HCB := Lib.hid hcB
              have HCD := Lib.hid hcd
              have HC0 := Lib.hid hc0
              have HBY := Lib.hid hby
              have HRD := Lib.hid hrd
              obtain ⟨xn, hxn⟩ : ∃ xn, x.n = xn := ⟨_, rfl⟩
              obtain ⟨xb, hxb⟩ : ∃ xb, x.b = xb := ⟨_, rfl⟩
              rw [hxn] at hc0 hwn hwm HC0
              rw [hxb] at hrd HSZ HSI HRD
              have HXN2 := Lib.hid hxn
              have HXB2 := Lib.hid hxb
              have HNS2 : Hid (¬ S2 lb ∧ ¬ S2 B5 ∧ ¬ S2 G) := Lib.hid ⟨fun z => by
                  rcases hS2 _ z with y | y
                  · exact HNL.out.1 y
                  · have := HLG.out.lt; omega, fun z => by
                  rcases hS2 _ z with y | y
                  · exact HNL.out.2.1 y
                  · have := HB53.out.lt; omega, fun z => by have := hq2.lt _ z; have := HGG.out; omega⟩
              clear hq2 hS2 hxn hxb
              go_region_held3 (fun w' => w'.cell? ⟨B5, 0, none⟩ = some (.pointer (some ⟨lb, 0, none⟩)) ∧ w'.cell? ⟨lb, 0, none⟩ = some (.pointer (some ⟨db, 0, none⟩)) ∧ w'.cell? ⟨G, 0, none⟩ = some (.int .i64 xn) ∧ byAt w' G 1 256 ∧ byRd w' G 1 256 = xb)
                (first | exact ⟨hcB, hcd, hc0, hby, hrd⟩ | exact ⟨heB, he1, he0, he2⟩ | go_keep)
                (first
                  | (go_at_call 78; go_must (refine (show Calls _ _ #[ptrV db, .string nmDb, .int .i64 ((xn - 1) * 256), .string (strOf xb)] _ _ from write_q H5.out nmDb ((xn - 1) * 256) (strOf xb) nmDb_le HSZ.out HM2.out).mono ?_); rintro e w6 ⟨rfl, h6⟩; rw [HSI.out] at h6; rw [HSI.out]; have H6 := Lib.hid h6
                     have heB := (h6.kp.cell (block_lt_of_cell HCB.out) HNS2.out.2.1).trans HCB.out
                     have he1 := (h6.kp.cell (block_lt_of_cell HCD.out) HNS2.out.1).trans HCD.out
                     have he0 := (h6.kp.cell HG.out HNS2.out.2.2).trans HC0.out
                     have he2 := by_keep h6.kp HG.out HNS2.out.2.2 HBY.out HRD.out
                     clear h6))
              have h61 := Dq.tr (w0 := w3) H6.out (HQ.out.kp.trans HK3.out.drew (fun _ _ z => z.elim)) HS2.out HQ.out.lt
              have H61 := Lib.hid h61
              have HMW : Hid ((q.write nmDb ((xn - 1) * 256) xb).sm (20000 * (L.length - (i + 1)) + 120000)) := Lib.hid (sm_write _ _ _ (sm_mono HQM.out (by have := HLN.out; omega)))
              have HTN : Hid (T = if q.writeE nmDb ((xn - 1) * 256) xb = 0 then (q.write nmDb ((xn - 1) * 256) xb).runS (homeW (L.drop (i + 1))) else (q.write nmDb ((xn - 1) * 256) xb, q.writeE nmDb ((xn - 1) * 256) xb)) := Lib.hid (by
                rw [HTE1.out, HDR.out]
                show q.runS (⟨0, nmDb, (x.n - 1) * 256, x.b⟩ :: homeW (L.drop (i + 1))) = _
                rw [runS_cons, stE0, stP0, HXN2.out, HXB2.out])
              clear heB he1 he0 he2 hcB hcd hc0 hby hrd h61
              obtain ⟨er, her⟩ : ∃ er, q.writeE nmDb ((xn - 1) * 256) xb = er := ⟨_, rfl⟩
              obtain ⟨qw, hqw⟩ : ∃ qw, q.write nmDb ((xn - 1) * 256) xb = qw := ⟨_, rfl⟩
              rw [her, hqw] at HTN
              rw [hqw] at HMW H61
              rw [her]
              clear her hqw
              have HREL : Hid (CkRel S w3 db L T (.int .i64 er) (.int .i64 ((i : Int) + 1)) w6) := Lib.hid ⟨i + 1, er, qw, rfl, rfl, by have := HLN.out; omega, H61.out, HMW.out, HTN.out⟩
              go_wp2_with fail
              go_roundw
              case rel => exact HREL.out
              case measure => simp [intOf]; omega
            · have he1 : (e == 0) = false := by simpa using he0
              have HREL : Hid (CkRel S w3 db L T (.int .i64 e) (.int .i64 ((i : Int) + 1)) ((wq.alloc (.cells (pgA ⟨0, zeros 256⟩) 113)).setCells wq.heap.size 0 (pgA x).toList)) := Lib.hid ⟨i + 1, e, q, rfl, rfl, by have := HLN.out; omega, hq.keep hk3, sm_mono hqm (by have := HLN.out; omega), by rw [hTe, if_neg he0, if_neg he0]⟩
              generalize hRR : pgA x = RR at r1 o1 s1 HREL ⊢
              clear hRR hk3 hxo hxn hq hqm hTe hlr hb hb2 hx hxe hxm hdr hc0 hby hrd HK3 he0
              go_wp2_with fail
              go_roundw
              case rel => exact HREL.out
              case measure => simp [intOf]; omega
          · have hii : ¬ (i : Int) < (N : Int) := by omega
            obtain rfl : i = N := by have := HLN.out; omega
            have hTq : T = (q, e) := by
              rw [hTe, List.drop_eq_nil_iff.2 (by rw [HLN.out]; exact Nat.le_refl _)]
              by_cases h0 : e = 0
              · rw [if_pos h0, h0]; rfl
              · rw [if_neg h0]
            have HTQ := Lib.hid hTq
            have HWE : Hid (p.wcheck (k : Int) = if e = 0 then q.runS ([⟨1, nmDb, C * 256, []⟩, ⟨2, nmDb, 0, []⟩] ++ if (k : Int) = p.wopen.2.length then headS nmWal ⟨0, 0, 0, 0⟩ else []) else (q, e)) := Lib.hid (by
              rw [HWC.out, wcheckS_eq, HLL.out, HCC.out, runS_append, HT.out, hTq])
            clear hTe hTq hlr
            by_cases he0 : e = 0
            · subst he0
              have HW1 : Hid (p.wcheck (k : Int) = q.runS ([⟨1, nmDb, C * 256, []⟩, ⟨2, nmDb, 0, []⟩] ++ if (k : Int) = p.wopen.2.length then headS nmWal ⟨0, 0, 0, 0⟩ else [])) := Lib.hid (by have h5 := HWE.out; rw [if_pos rfl] at h5; exact h5)
              obtain ⟨S2, hq2, hS2⟩ := HQ.out.base
              have HQ2b := Lib.hid hq2
              have HS2 := Lib.hid hS2
              have HNS2 : Hid (¬ S2 lb ∧ ¬ S2 B5 ∧ ¬ S2 B7) := Lib.hid ⟨fun z => by
                  rcases hS2 _ z with y | y
                  · exact HNL.out.1 y
                  · have := HLG.out.lt; omega, fun z => by
                  rcases hS2 _ z with y | y
                  · exact HNL.out.2.1 y
                  · have := HB53.out.lt; omega, fun z => by
                  rcases hS2 _ z with y | y
                  · exact HNL.out.2.2 y
                  · have := HB73.out.lt; omega⟩
              have HCK : Hid (CkK db lb p.whead A c p.wopen.2.length B5 B7 C S2 wq) := Lib.hid ⟨⟨HLGq.out, HNS2.out.1⟩, ⟨HB5q.out, HNS2.out.2.1⟩, HB7q.out, HNS2.out.2.2⟩
              have HM2 := Lib.hid (sm_mono hqm (show 120000 ≤ 20000 * (L.length - i) + 120000 by omega))
              clear hq hqm hq2 hS2
              go_wp2_with fail
              refine (wck_all HQ2b.out p.wopen.2.length B5 B7 C HCR.out HCK.out (sm_mono HM2.out (by omega))).mono ?_
              rintro e w7 ⟨rfl, h7⟩
              obtain ⟨U, hU⟩ : ∃ U, q.runS [⟨1, nmDb, C * 256, []⟩, ⟨2, nmDb, 0, []⟩] = U := ⟨_, rfl⟩
              have HMU : Hid (U.1.sm 80000) := Lib.hid (by rw [← hU]; exact sm_run [⟨1, nmDb, C * 256, []⟩, ⟨2, nmDb, 0, []⟩] (k := 80000) (sm_mono HM2.out (by simp)))
              have HW2 : Hid (p.wcheck (k : Int) = if U.2 = 0 then U.1.runS (if (k : Int) = p.wopen.2.length then headS nmWal ⟨0, 0, 0, 0⟩ else []) else U) := Lib.hid (by rw [HW1.out, runS_append, hU])
              rw [hU] at h7 ⊢
              have H7 := Lib.hid h7
              have H73 : Hid (Dq S w3 w7 db U.1) := Lib.hid (Dq.tr (w0 := w3) h7 HQ.out.kp HS2.out HQ.out.lt)
              have c5 := (HB5q.out.keep h7.kp HNS2.out.2.1).cell 0
              have cl5 := (HLGq.out.keep h7.kp HNS2.out.1).cell 5
              have HFIN : Hid (∀ q' w', Dq S w3 w' db q' → Dq S w w' db q') := Lib.hid (fun q' w' hd => Dq.up (H.out.base1 HKW3.out) HKW3.out H.out.lt hd)
              clear h7 hU
              obtain ⟨u, ue⟩ := U
              dsimp only at HMU HW2 H7 H73 ⊢
              by_cases hu : ue = 0
              · subst hu
                by_cases hkk : k = p.wopen.2.length
                · have HW3 : Hid (p.wcheck (k : Int) = u.runS (headS nmWal ⟨0, 0, 0, 0⟩)) := Lib.hid (by rw [HW2.out, if_pos rfl, if_pos (by omega)])
                  have HLG7 := Lib.hid (HLGq.out.keep H7.out.kp HNS2.out.1)
                  obtain ⟨S3, h8, hS3⟩ := H7.out.base
                  have H8 := Lib.hid h8
                  have HS3 := Lib.hid hS3
                  have HN3 : Hid (¬ S3 lb) := Lib.hid (fun z => by
                    rcases hS3 _ z with y | y
                    · exact HNS2.out.1 y
                    · have := HLGq.out.lt; omega)
                  have cl6 : w7.cell? ⟨lb, 5, none⟩ = some (.slice A k c) := by rw [hkk]; exact cl5
                  clear h8 hS3 cl5 hkk
                  go_wp2_with fail
                  refine (show Calls _ _ #[_, .agg (w4A ⟨0, 0, 0, 0⟩)] _ _ from wseal_q H8.out (HLG7.out.cell 0) HN3.out ⟨0, 0, 0, 0⟩ (sm_mono HMU.out (by omega))).mono ?_
                  rintro e w9 ⟨rfl, h9⟩
                  have H9 : Hid (Dq S w w9 db (u.runS (headS nmWal ⟨0, 0, 0, 0⟩)).1) := Lib.hid (HFIN.out _ _ (Dq.tr (w0 := w3) (Dq.tr (w0 := wq) h9 H7.out.kp HS3.out H7.out.lt) HQ.out.kp HS2.out HQ.out.lt))
                  obtain ⟨RU, hRU⟩ : ∃ RU, u.runS (headS nmWal ⟨0, 0, 0, 0⟩) = RU := ⟨_, rfl⟩
                  rw [hRU] at H9 HW3 ⊢
                  clear h9 hRU
                  obtain ⟨ru, re⟩ := RU
                  go_wp2_with fail
                  exact HPST.out _ _ _ HW3.out H9.out
                · have HW3 : Hid (p.wcheck (k : Int) = (u, 0)) := Lib.hid (by rw [HW2.out, if_pos rfl, if_neg (by omega)]; rfl)
                  obtain ⟨NL, hNL⟩ : ∃ NL, p.wopen.2.length = NL := ⟨_, rfl⟩
                  have cl6 : w7.cell? ⟨lb, 5, none⟩ = some (.slice A NL c) := by rw [← hNL]; exact cl5
                  have hbk : ((k : Int) == (NL : Int)) = false := by
                    rw [beq_eq_false_iff_ne]
                    omega
                  have hbn : ¬ k = NL := fun e => hkk (e.trans hNL.symm)
                  clear cl5 hNL hkk
                  go_wp2_with fail
                  exact HPST.out _ _ _ HW3.out (HFIN.out _ _ H73.out)
              · have HW3 : Hid (p.wcheck (k : Int) = (u, ue)) := Lib.hid (by rw [HW2.out, if_neg hu])
                have hu1 : (ue == 0) = false := by simpa using hu
                have hu2 : (ue != 0) = true := by simpa using hu
                clear hu
                go_wp2_with fail
                exact HPST.out _ _ _ HW3.out (HFIN.out _ _ H73.out)
            · have HW1 : Hid (p.wcheck (k : Int) = (q, e)) := Lib.hid (by have h5 := HWE.out; rw [if_neg he0] at h5; exact h5)
              have he1 : (e == 0) = false := by simpa using he0
              have he2 : (e != 0) = true := by simpa using he0
              have HF : Hid (Dq S w wq db q) := Lib.hid (Dq.up (H.out.base1 HKW3.out) HKW3.out H.out.lt hq)
              clear hq hqm he0
              go_wp2_with fail
              exact HPST.out _ _ _ HW1.out HF.out
end
end Go.Proofs.Ytegcbdfilkecpaa
/- The log: the answers that every law asks at its end; no condition. -/
namespace Go.Proofs.Ytegcbdfilkecpaa
open Go.RowKit

attribute [local go_sem ↓] load26 store26 alloc26 build26
set_option maxRecDepth 100000 in
set_option maxHeartbeats 800000 in
theorem wfull_ok (w : World) (b : Int) : Calls Try.prog 93 #[.int .u8 b] w fun e w' => e = .returned (.agg (bytesV (fullL b))) ∧ Kp NoB w w' := by
  have HST : Hid (FuS w b 0 ((w.alloc (.cells zero256 24)).alloc (.cells zero256 24))) := Lib.hid ⟨((Kp.refl _ _).alloc _).alloc _, (Blk.new _ _ _).alloc _, Blk.newAt _ _ _ _ (by simp)⟩
  go_enter Try.func93, Try.ntmps93
  go_wp2_with fail
  refine forget (p := fun wx => Code.wp _ _ _ _ wx) (FuS w b 0) HST.out ?_
  intro W hW
  have HW := Lib.hid hW
  clear hW HST
  go_loopw [4] (fun v wr => ∃ i : Nat, i ≤ 256 ∧ v = .int .i64 i ∧ FuS w b i wr) (fun v _ => 256 - (intOf v).toNat)
  case atStart => exact ⟨0, by omega, rfl, HW.out⟩
  case round =>
    obtain ⟨i, hi, rfl, hs⟩ := hrel
    have HS := Lib.hid hs
    by_cases hlt : i < 256
    · have hii : (i : Int) < 256 := by omega
      have c2 : wr.cell? ⟨w.heap.size + 1, i, none⟩ = some (.int .u8 0) := by
        rw [hs.b2.cell]
        unfold bytesV
        rw [List.getElem?_toArray, List.getElem?_map, upF_at _ _ hlt]
        rfl
      have z2 : wr.frozen? ⟨w.heap.size + 1, i, none⟩ = false := hs.b2.frozen i
      clear hs
      go_wp2_with fail
      refine ⟨⟨i + 1, by omega, by congr 1, ?_⟩, by simp [intOf]; omega⟩
      have h := HS.out
      refine ⟨h.kp.setCell (p := ⟨w.heap.size + 1, i, none⟩) (.inl (by show _ ≤ w.heap.size + 1; omega)) _, h.b1.far (p := ⟨w.heap.size + 1, i, none⟩) (by simp) _, ?_⟩
      have := h.b2.set_ i (.int .u8 b)
      rwa [bytesV_setJ, upF_set _ _ hlt] at this
    · have hii : ¬ (i : Int) < 256 := by omega
      obtain rfl : i = 256 := by omega
      have b2 := hs.b2
      rw [upF_all] at b2
      have sl : (fullL b).length = 256 := List.length_replicate ..
      have t1 : wr.there (w.heap.size + 1) 0 256 := b2.thereAll 256 (by rw [bytesV_size, sl])
      have r1 : readRow wr (w.heap.size + 1) 0 256 = bytesV (fullL b) := b2.readAll 256 (by rw [bytesV_size, sl])
      have t2 : wr.there w.heap.size 0 256 := hs.b1.thereAll 256 (by rw [zero256_eq, bytesV_size]; rfl)
      have o1 := bytesV_one (fullL b)
      have s1 : (bytesV (fullL b)).size = 256 := by rw [bytesV_size, sl]
      obtain ⟨RR, hRR⟩ : ∃ RR, bytesV (fullL b) = RR := ⟨_, rfl⟩
      rw [hRR] at r1 o1 s1
      have HRR := Lib.hid hRR
      have S1 := Lib.hid s1
      clear hs b2 sl hRR
      go_wp2_with fail
      refine bodyPost_ret (ret_cell1 rfl _ _ _ _ _ _ rfl (HS.out.b1.whole RR (by rw [S1.out, zero256_eq, bytesV_size]; rfl)) Try.underlying24 rfl (by rw [S1.out]; exact info26)) rfl ⟨by rw [HRR.out], ?_⟩
      exact Kp.setCells (.inl (by omega)) _ _ _ HS.out.kp
def aw3L : List Pg := [⟨1, fullL 3⟩]
def awQ1 : Pl × Int × Int := (Pl.new 5000).wcommit 2 aw2L
def awQ2 : Pl × Int × Int := awQ1.1.wcommit 2 aw3L
set_option maxRecDepth 100000 in
theorem wawE : awQ1.2.1 = 2 ∧ awQ1.2.2 = 0 ∧ awQ2.2.1 = 3 ∧ awQ2.2.2 = 0 ∧ awQ2.1.wpg 2 1 = (fullL 1, 0) ∧ awQ2.1.wpg 1 1 = (zeros 256, 4) ∧ (Pl.new 5000).nf = 0 ∧ (Pl.new 5000).pd.length = 0 ∧ decide (awQ1.1.nf ≤ 1000) = true ∧ decide (awQ1.1.pd.length ≤ 1000) = true := by
  refine ⟨?_, ?_, ?_, ?_, ?_, ?_, ?_, ?_, ?_, ?_⟩ <;> kernel_rfl
attribute [local go_sem ↓] eql26
set_option maxRecDepth 100000 in
set_option maxHeartbeats 1600000 in
theorem wawake_ok (w : World) : Calls Try.prog 36 #[] w fun e w' => e = .returned (.bool true) ∧ Kp NoB w w' := by
  have E := Lib.hid wawE
  have l1 : (fullL 1).length = 256 := List.length_replicate ..
  have l2 : (fullL 2).length = 256 := List.length_replicate ..
  have l3 : (fullL 3).length = 256 := List.length_replicate ..
  have s1 : (pgA ⟨1, fullL 1⟩).size = 257 := by unfold pgA pgL; rw [List.size_toArray, List.length_cons, List.length_map, l1]
  have s2 : (pgA ⟨2, fullL 2⟩).size = 257 := by unfold pgA pgL; rw [List.size_toArray, List.length_cons, List.length_map, l2]
  have s3 : (pgA ⟨1, fullL 3⟩).size = 257 := by unfold pgA pgL; rw [List.size_toArray, List.length_cons, List.length_map, l3]
  go_enter Try.func36, Try.ntmps36
  go_wp2_with fail
  refine (new_q w 5000 (by omega)).mono ?_
  rintro e w1 ⟨db, rfl, h1⟩
  have H1 := Lib.hid h1
  clear h1
  go_wp2_with fail
  refine (wfull_ok w1 1).mono ?_
  rintro e w2 ⟨rfl, hk2⟩
  have HK2 := Lib.hid hk2
  clear hk2
  go_wp2_with (show wpList _ _ _ (⟨some 14, _, _, _, _, _⟩ :: _) _ _; refine wpList_val _ (exBuildPg2 _ _ _ _ 1 (fullL 1) l1 _ _ _ _ _ rfl rfl) ?_)
  refine (wfull_ok w2 2).mono ?_
  rintro e w3 ⟨rfl, hk3⟩
  have HK3 := Lib.hid (HK2.out.trans hk3 (fun _ _ q => q))
  clear hk3
  go_wp2_with (first
    | (show wpList _ _ _ (⟨some 16, _, _, _, _, _⟩ :: _) _ _; refine wpList_val _ (exBuildPg2 _ _ _ _ 2 (fullL 2) l2 _ _ _ _ _ rfl rfl) ?_)
    | (show wpList _ _ _ (⟨some 17, _, _, _, _, _⟩ :: _) _ _; refine wpList_val _ (exSlicePg2 _ _ _ _ (pgA ⟨1, fullL 1⟩) (pgA ⟨2, fullL 2⟩) _ _ _ _ _ rfl rfl s1 s2) ?_))
  have hsm : (Pl.new 5000).sm 100000000 := by unfold Pl.sm; rw [E.out.2.2.2.2.2.2.1, E.out.2.2.2.2.2.2.2.1]; omega
  have hsm1 : awQ1.1.sm 100000000 := by
    have h1 := of_decide_eq_true E.out.2.2.2.2.2.2.2.2.1
    have h2 := of_decide_eq_true E.out.2.2.2.2.2.2.2.2.2
    unfold Pl.sm
    omega
  have HSM1 := Lib.hid hsm1
  have hok2 : ∀ x ∈ aw2L, PgOk x := by
    intro x hx
    unfold aw2L at hx
    simp only [List.mem_cons, List.not_mem_nil, or_false] at hx
    rcases hx with rfl | rfl
    · exact ⟨l1, full_rng 1 (by omega), by show _ ≤ (1 : Int) ∧ (1 : Int) ≤ _; omega⟩
    · exact ⟨l2, full_rng 2 (by omega), by show _ ≤ (2 : Int) ∧ (2 : Int) ≤ _; omega⟩
  obtain ⟨S2, hq2, hS2⟩ := (H1.out.keep HK3.out).base
  have hka : Kp NoB w3 (w3.alloc (.cells (pgA ⟨1, fullL 1⟩ ++ pgA ⟨2, fullL 2⟩) 113)) := (Kp.refl _ _).alloc _
  have hpg : PgsAt (w3.alloc (.cells (pgA ⟨1, fullL 1⟩ ++ pgA ⟨2, fullL 2⟩) 113)) (some ⟨w3.heap.size, 0, none⟩) 2 aw2L := pgs_blk (t := 113) (by
    have := Blk.new w3 113 (pgA ⟨1, fullL 1⟩ ++ pgA ⟨2, fullL 2⟩)
    have e : pgA ⟨1, fullL 1⟩ ++ pgA ⟨2, fullL 2⟩ = (pgsCells aw2L).toArray := by
      unfold pgsCells aw2L pgA
      simp
    rwa [e] at this ⊢) rfl hok2
  have hlt2 := hq2.lt
  have hcm := wcommit_q (hq2.base1 hka) 2 (by omega) (some ⟨w3.heap.size, 0, none⟩) 2 2 aw2L hpg (fun g o e hn q => by injection e with e; injection e with e1 e2; have := hlt2 g q; omega) hok2 (by omega) hsm
  clear hpg
  refine hcm.mono ?_
  clear hcm
  rintro e w5 ⟨rfl, h5⟩
  have h5' : Dq S2 (w3.alloc (.cells (pgA ⟨1, fullL 1⟩ ++ pgA ⟨2, fullL 2⟩) 113)) w5 db awQ1.1 := h5
  rw [show ((Pl.new 5000).wcommit 2 aw2L).2.1 = 2 from E.out.1, show ((Pl.new 5000).wcommit 2 aw2L).2.2 = 0 from E.out.2.1]
  have h6 := Dq.tr (w0 := w) h5' ((H1.out.keep HK3.out).kp.trans hka (fun _ _ q => q.elim)) hS2 (fun b q => q.elim)
  have H6 := Lib.hid h6
  clear h5 h5' h6 hka hq2 hS2 hlt2 hsm hsm1 hok2
  go_wp2_with fail
  refine (wfull_ok w5 3).mono ?_
  rintro e w6 ⟨rfl, hk6⟩
  have H7 := Lib.hid (H6.out.keep hk6)
  clear hk6
  go_wp2_with (first
    | (show wpList _ _ _ (⟨some 24, _, _, _, _, _⟩ :: _) _ _; refine wpList_val _ (exBuildPg2 _ _ _ _ 1 (fullL 3) l3 _ _ _ _ _ rfl rfl) ?_)
    | (show wpList _ _ _ (⟨some 25, _, _, _, _, _⟩ :: _) _ _; refine wpList_val _ (exSlicePg _ _ _ (pgA ⟨1, fullL 3⟩) _ _ _ _ _ rfl s3) ?_))
  have hok3 : ∀ x ∈ aw3L, PgOk x := by
    intro x hx
    unfold aw3L at hx
    simp only [List.mem_cons, List.not_mem_nil, or_false] at hx
    subst hx
    exact ⟨l3, full_rng 3 (by omega), by show _ ≤ (1 : Int) ∧ (1 : Int) ≤ _; omega⟩
  obtain ⟨S3, hq3, hS3⟩ := H7.out.base
  have hka : Kp NoB w6 (w6.alloc (.cells (pgA ⟨1, fullL 3⟩) 113)) := (Kp.refl _ _).alloc _
  have hpg : PgsAt (w6.alloc (.cells (pgA ⟨1, fullL 3⟩) 113)) (some ⟨w6.heap.size, 0, none⟩) 1 aw3L := pgs_blk (t := 113) (by
    have := Blk.new w6 113 (pgA ⟨1, fullL 3⟩)
    have e : pgA ⟨1, fullL 3⟩ = (pgsCells aw3L).toArray := by
      unfold pgsCells aw3L pgA
      simp
    rwa [e] at this ⊢) rfl hok3
  have hlt3 := hq3.lt
  have hcm := wcommit_q (hq3.base1 hka) 2 (by omega) (some ⟨w6.heap.size, 0, none⟩) 1 1 aw3L hpg (fun g o e hn q => by injection e with e; injection e with e1 e2; have := hlt3 g q; omega) hok3 (by omega) HSM1.out
  clear hpg
  refine hcm.mono ?_
  clear hcm
  rintro e w8 ⟨rfl, h8⟩
  have h8' : Dq S3 (w6.alloc (.cells (pgA ⟨1, fullL 3⟩) 113)) w8 db awQ2.1 := h8
  rw [show (awQ1.1.wcommit 2 aw3L).2.1 = 3 from E.out.2.2.1, show (awQ1.1.wcommit 2 aw3L).2.2 = 0 from E.out.2.2.2.1]
  have h9 := Dq.tr (w0 := w) h8' (H7.out.kp.trans hka (fun _ _ q => q.elim)) hS3 (fun b q => q.elim)
  have H9 := Lib.hid h9
  clear h8 h8' h9 hka hq3 hS3 hlt3 hok3
  go_wp2_with fail
  refine (wpg_q H9.out 2 1 (by omega)).mono ?_
  rintro e w9 ⟨rfl, hk9⟩
  rw [E.out.2.2.2.2.1]
  have H10 := Lib.hid (H9.out.keep hk9)
  have hbz := Blk.new w9 24 zero256
  have hbf := hbz.whole (bytesV (fullL 1)) (by rw [zero256_eq, bytesV_size, bytesV_size, l1]; rfl)
  have tz := hbz.thereAll 256 (by rw [zero256_eq, bytesV_size]; rfl)
  have of2 := bytesV_one (fullL 1)
  have sf2 : (bytesV (fullL 1)).size = 256 := by rw [bytesV_size, l1]
  have hk7 : Kp NoB w9 ((w9.alloc (.cells zero256 24)).setCells w9.heap.size 0 (bytesV (fullL 1)).toList) := Kp.setCells (.inl (Nat.le_refl _)) _ _ _ ((Kp.refl _ _).alloc _)
  have HBF := Lib.hid hbf
  have HK7 := Lib.hid hk7
  clear hk9 hbz hbf hk7
  go_upto_region 5 with fail
  obtain ⟨Bg, hBg⟩ : ∃ Bg, w9.heap.size = Bg := ⟨_, rfl⟩
  generalize (w9.alloc (.cells zero256 24)).setCells w9.heap.size 0 (bytesV (fullL 1)).toList = w10 at HBF HK7 ⊢
  rw [hBg] at HBF ⊢
  clear hBg tz
  go_wp2_with fail
  refine (wpg_q (H10.out.keep HK7.out) 1 1 (by omega)).mono ?_
  rintro e w11 ⟨rfl, hk11⟩
  rw [E.out.2.2.2.2.2.1]
  have HZ2 : Hid (bytesV (zeros 256) = zero256) := Lib.hid zero256_eq.symm
  rw [show bytesV ((zeros 256, (4 : Int)).1) = zero256 from HZ2.out]
  have hbz := Blk.new w11 24 zero256
  have tz := hbz.thereAll 256 (by rw [zero256_eq, bytesV_size]; rfl)
  have oz : ones zero256 := by rw [zero256_eq]; exact bytesV_one _
  have sz : zero256.size = 256 := by rw [zero256_eq, bytesV_size]; rfl
  have hk12 : Kp NoB w11 ((w11.alloc (.cells zero256 24)).setCells w11.heap.size 0 zero256.toList) := Kp.setCells (.inl (Nat.le_refl _)) _ _ _ ((Kp.refl _ _).alloc _)
  have HB12 := Lib.hid ((HBF.out.keep hk11 (fun q => q)).keep hk12 (fun q => q))
  have HPX : Hid (Kp NoB w ((w11.alloc (.cells zero256 24)).setCells w11.heap.size 0 zero256.toList)) := Lib.hid (((H10.out.keep HK7.out).keep (hk11.trans hk12 (fun _ _ q => q))).kp)
  clear hk11 hbz hk12
  go_upto_region 6 with fail
  generalize (w11.alloc (.cells zero256 24)).setCells w11.heap.size 0 zero256.toList = w12 at HB12 HPX ⊢
  refine wp_region_held_drew (S := fun W' => W'.rangeAt Bg 0 ((fullL 1).map (Value.int .u8))) (by kernel_rfl) (blk_rg8 HB12.out) (fun hHeld => ?_)
  have h0 : Blk w12.drew Bg 24 (bytesV (fullL 1)) := HB12.out
  have hk0 : Kp NoB w12 w12.drew := (Kp.refl NoB w12).drew
  have hi1 : (Try.prog.info? 24).map (·.size) = some ((fullL 1).map (Value.int .u8)).length := by rw [List.length_map, l1]; exact info26
  have hu := Try.underlying24
  generalize w12.drew = W0 at h0 hk0 hHeld ⊢
  refine tkS (i := 0) (v := (.int .i64 2)) rfl (Or.inl ⟨by rfl, fun w' hq => by go_simp⟩) (blk_rg8 h0) ?_
  simp only [Act.put, skA, skB, skC]
  refine tkS (i := 1) (v := (.bool true)) rfl (Or.inl ⟨by rfl, fun w' hq => by go_simp⟩) (blk_rg8 h0) ?_
  simp only [Act.put, skA, skB, skC]
  refine tkS (i := 2) (v := (.bool true)) rfl (Or.inl ⟨by rfl, fun w' hq => by go_simp⟩) (blk_rg8 h0) ?_
  simp only [Act.put, skA, skB, skC]
  refine tkS (i := 3) (v := (.int .i64 3)) rfl (Or.inl ⟨by rfl, fun w' hq => by go_simp⟩) (blk_rg8 h0) ?_
  simp only [Act.put, skA, skB, skC]
  refine tkS (i := 4) (v := (.bool true)) rfl (Or.inl ⟨by rfl, fun w' hq => by go_simp⟩) (blk_rg8 h0) ?_
  simp only [Act.put, skA, skB, skC]
  refine tkS (i := 5) (v := (.bool true)) rfl (Or.inl ⟨by rfl, fun w' hq => by go_simp⟩) (blk_rg8 h0) ?_
  simp only [Act.put, skA, skB, skC]
  refine tkS (i := 6) (v := (.bool true)) rfl (Or.inl ⟨by rfl, fun w' hq => by go_simp⟩) (blk_rg8 h0) ?_
  simp only [Act.put, skA, skB, skC]
  refine tkS (i := 7) (v := (.int .i64 0)) rfl (Or.inl ⟨by rfl, fun w' hq => by go_simp⟩) (blk_rg8 h0) ?_
  simp only [Act.put, skA, skB, skC]
  refine tkS (i := 8) (v := (.bool true)) rfl (Or.inl ⟨by rfl, fun w' hq => by go_simp⟩) (blk_rg8 h0) ?_
  simp only [Act.put, skA, skB, skC]
  refine tkS (i := 9) (v := (.bool true)) rfl (Or.inl ⟨by rfl, fun w' hq => by go_simp⟩) (blk_rg8 h0) ?_
  simp only [Act.put, skA, skB, skC]
  refine tkS (i := 10) (v := (.bool true)) rfl (Or.inl ⟨by rfl, fun w' hq => by go_simp⟩) (blk_rg8 h0) ?_
  simp only [Act.put, skA, skB, skC]
  refine tkS (i := 11) (v := (.int .i64 0)) rfl (Or.inl ⟨by rfl, fun w' hq => by go_simp⟩) (blk_rg8 h0) ?_
  simp only [Act.put, skA, skB, skC]
  refine tkS (i := 12) (v := (.bool true)) rfl (Or.inl ⟨by rfl, fun w' hq => by go_simp⟩) (blk_rg8 h0) ?_
  simp only [Act.put, skA, skB, skC]
  refine tkS (i := 13) (v := (.bool true)) rfl (Or.inl ⟨by rfl, fun w' hq => by go_simp⟩) (blk_rg8 h0) ?_
  simp only [Act.put, skA, skB, skC]
  refine tkS (i := 14) (v := (.bool true)) rfl (Or.inl ⟨by rfl, fun w' hq => by go_simp⟩) (blk_rg8 h0) ?_
  simp only [Act.put, skA, skB, skC]
  refine tkS (i := 15) (v := (.int .i64 0)) rfl (Or.inl ⟨by rfl, fun w' hq => by go_simp⟩) (blk_rg8 h0) ?_
  simp only [Act.put, skA, skB, skC]
  refine tkS (i := 16) (v := (.bool true)) rfl (Or.inl ⟨by rfl, fun w' hq => by go_simp⟩) (blk_rg8 h0) ?_
  simp only [Act.put, skA, skB, skC]
  refine tkS (i := 17) (v := (.bool true)) rfl (Or.inl ⟨by rfl, fun w' hq => by go_simp⟩) (blk_rg8 h0) ?_
  simp only [Act.put, skA, skB, skC]
  refine tkS (i := 18) (v := (.bool true)) rfl (Or.inl ⟨by rfl, fun w' hq => by go_simp⟩) (blk_rg8 h0) ?_
  simp only [Act.put, skA, skB, skC]
  refine tkS (i := 19) (v := .agg (((fullL 1).map (Value.int .u8))).toArray) rfl (yieldsIf_load_mid (by rfl) _ _ rfl _ _ rfl ((fullL 1).map (Value.int .u8)) _ (fun _ q => q) hu rfl hi1) (blk_rg8 h0) ?_
  simp only [Act.put, skA, skB, skC]
  refine wpAnyH_ready (rs := [20]) (by kernel_rfl) (by simp) ?_
  refine AllReadyH.callR (fun x W' => x = .agg (bytesV (fullL 1)) ∧ Blk W' Bg 24 (bytesV (fullL 1)) ∧ Kp NoB w12 W') rfl (by rfl) 93 #[.int .u8 1] (by first | (go_simp; done) | (go_simp; rfl)) (fun _ _ q => (blk_rg8 q.2.1)) ((wfull_ok W0 1).mono (by rintro e w19 ⟨rfl, hk⟩; exact ⟨_, rfl, rfl, h0.keep hk (fun q => q), hk0.trans hk (fun _ _ q => q)⟩)) ?_ AllReadyH.nil
  rintro _ W1 ⟨rfl, h1, hk1⟩
  simp only [Act.put, skA, skB, skC]
  refine tkS (i := 21) (v := .bool true) rfl (Or.inl ⟨by rfl, fun w' hq => eqTrue w' _ _ _ _ rfl rfl l1⟩) (blk_rg8 h1) ?_
  simp only [Act.put, skA, skB, skC]
  refine tkS (i := 22) (v := (.bool true)) rfl (Or.inl ⟨by rfl, fun w' hq => by go_simp⟩) (blk_rg8 h1) ?_
  simp only [Act.put, skA, skB, skC]
  refine tkS (i := 23) (v := (.bool true)) rfl (Or.inl ⟨by rfl, fun w' hq => by go_simp⟩) (blk_rg8 h1) ?_
  simp only [Act.put, skA, skB, skC]
  refine tkS (i := 24) (v := (.int .i64 4)) rfl (Or.inl ⟨by rfl, fun w' hq => by go_simp⟩) (blk_rg8 h1) ?_
  simp only [Act.put, skA, skB, skC]
  refine tkS (i := 25) (v := (.bool true)) rfl (Or.inl ⟨by rfl, fun w' hq => by go_simp⟩) (blk_rg8 h1) ?_
  simp only [Act.put, skA, skB, skC]
  refine tkS (i := 26) (v := (.bool true)) rfl (Or.inl ⟨by rfl, fun w' hq => by go_simp⟩) (blk_rg8 h1) ?_
  simp only [Act.put, skA, skB, skC]
  refine tkS (i := 27) (v := (.bool true)) rfl (Or.inl ⟨by rfl, fun w' hq => by go_simp⟩) (blk_rg8 h1) ?_
  simp only [Act.put, skA, skB, skC]
  refine wpAnyH_done (by kernel_rfl) ?_ _
  have HK9 := Lib.hid (HPX.out.trans hk1 (fun _ _ q => q))
  clear hHeld h0 h1 hk0 hk1 hi1 hu
  go_wp2_with fail
  go_ret
  exact ⟨rfl, HK9.out⟩
end Go.Proofs.Ytegcbdfilkecpaa
/- The log: the pages of a change; condition: the change lies in memory. -/
namespace Go.Proofs.Ytegcbdfilkecpaa
open Go.RowKit

section
attribute [local go_sem ↓] loadPg storePg allocPg exSlicePg
set_option maxRecDepth 100000 in
set_option maxHeartbeats 6000000 in
theorem wpages_q (w : World) (hm : Bool) (C : Int) (A : Option Addr) (nb cb : Nat) (bs : List Int) (hb : Bs w A nb bs) (hnb : nb ≤ 9223372036854775807) (old : Nat) (hold : old ≤ 4096) :
    Calls Try.prog 94 #[.agg #[.bool hm, .int .i64 C, .slice A nb cb], .int .i64 (old : Int)] w fun e w' => ∃ (N : Nat) (v : Value), N ≤ 15 ∧ e = .returned (.tuple #[.int .i64 (N : Int), v]) ∧ OwnPgs w' w.heap.size v (chPgs bs old N) ∧ Kp NoB w w' := by
  have hkb : Kp NoB w (w.alloc (.cells #[.bool hm, .int .i64 C, .slice A nb cb] 81)) := (Kp.refl _ _).alloc _
  have hbd : Blk (w.alloc (.cells #[.bool hm, .int .i64 C, .slice A nb cb] 81)) w.heap.size 81 #[.bool hm, .int .i64 C, .slice A nb cb] := Blk.new _ _ _
  obtain ⟨w1, hw1⟩ : ∃ w1, w.alloc (.cells #[.bool hm, .int .i64 C, .slice A nb cb] 81) = w1 := ⟨_, rfl⟩
  have hs1 : w1.heap.size = w.heap.size + 1 := by rw [← hw1]; simp
  rw [hw1] at hkb hbd
  have HKB := Lib.hid hkb
  have HBD := Lib.hid hbd
  have HB := Lib.hid (hb.keep hkb)
  have HS1 := Lib.hid hs1
  have LB := Lib.hid hb.1
  have c0 : w1.cell? ⟨w.heap.size, 1, none⟩ = some (.int .i64 C) := hbd.cell 1
  have c1 : w1.cell? ⟨w.heap.size, 2, none⟩ = some (.slice A nb cb) := hbd.cell 2
  obtain ⟨N, hN, hbits⟩ := and15 C
  obtain ⟨j0, hj0, hy0, hy1, hy2⟩ := info_parts infoPgA
  have HJ0 := Lib.hid hj0
  have HY0 := Lib.hid hy0
  have HY1 := Lib.hid hy1
  have HY2 := Lib.hid hy2
  have l255 : (fullL 255).length = 256 := List.length_replicate ..
  clear hkb hbd hb hs1 hj0 hy0 hy1 hy2
  go_enter Try.func94, Try.ntmps94
  go_wp2_with fail
  go_loopw [7, 8] (fun v7 v8 wr => PaRel w1 bs old N v7 v8 wr) (fun _ v _ => N + 1 - (intOf v).toNat)
  case atStart => exact ⟨0, rfl, Nat.zero_le _, ⟨World.ownsRow_nil _ _ _ _, by simp [chPgs]⟩, Kp.refl _ _⟩
  case round =>
    obtain ⟨wq, rfl⟩ : ∃ wq, wq = wr := ⟨_, rfl⟩
    obtain ⟨j, rfl, hj, how, hkp⟩ := hrel
    have HOW := Lib.hid how
    have HKP := Lib.hid hkp
    have c1 : wq.cell? ⟨w.heap.size, 2, none⟩ = some (.slice A nb cb) := by rw [hkp.cell HBD.out.lt (fun q => q)]; exact c1
    obtain ⟨A7, c7, rfl⟩ := own_slice how.1
    have hcl := chPgs_len bs old j
    obtain ⟨L, hL⟩ : ∃ L, chPgs bs old j = L := ⟨_, rfl⟩
    obtain ⟨nl, hnl⟩ : ∃ nl, L.length = nl := ⟨_, rfl⟩
    rw [hL] at HOW hcl ⊢
    rw [hnl] at hcl ⊢
    have HL := Lib.hid hL
    have HNL := Lib.hid hnl
    clear how hkp hL hnl
    by_cases hlt : j < N
    · have hkk : (j : Int) + 1 ≤ (N : Int) := by omega
      have hw0 : IntKind.i64.wrap (j : Int) = (j : Int) := by rw [IntKind.wrap_i64]; omega
      by_cases hin : j < nb
      · have hii : (j : Int) + 1 ≤ (nb : Int) := by omega
        obtain ⟨y, hy⟩ : ∃ y, bs[j]? = some y := ⟨_, List.getElem?_eq_getElem (by have := LB.out; omega)⟩
        have hyr := HB.out.2.1 y (List.mem_of_getElem? hy)
        have hgd : bs.getD j 0 = y := by rw [List.getD_eq_getElem?_getD, hy]; rfl
        obtain ⟨g, o, e, hg, hc⟩ := (HB.out.keep HKP.out).2.2 j y hy
        subst e
        have HGD := Lib.hid hgd
        have HYR := Lib.hid hyr
        have l1 : (fullL y).length = 256 := List.length_replicate ..
        clear hgd hyr hy
        by_cases hz : y = 0
        · have hz1 : (y != 0) = false := by rw [hz]; rfl
          have hz2 : (y == 0) = true := by rw [hz]; rfl
          have HZ := Lib.hid hz
          subst hz
          by_cases ho : old ≤ j
          · have hoo : (old : Int) < (j : Int) + 1 := by omega
            go_wp2_with fail
            refine (wfull_ok wq 255).mono ?_
            rintro e w2 ⟨rfl, hk2⟩
            have HK2 := Lib.hid hk2
            have s1 : (pgA ⟨(j : Int) + 1, fullL 255⟩).size = 257 := by unfold pgA pgL; rw [List.size_toArray, List.length_cons, List.length_map, l255]
            have ok1 : PgOk ⟨(j : Int) + 1, fullL 255⟩ := full_pg (by omega) (by omega)
            have OK1 := Lib.hid ok1
            clear hk2 ok1
            go_wp2_with (show wpList _ _ _ (⟨some 49, _, _, _, _, _⟩ :: _) _ _; refine wpList_val _ (exBuildPg2 _ _ _ _ ((j : Int) + 1) (fullL 255) l255 _ _ _ _ _ rfl rfl) ?_)
            have hcn := pg_new w2 ⟨(j : Int) + 1, fullL 255⟩
            have how3 := HOW.out.1
            rw [HNL.out] at how3
            refine wp_append_ownB (.tmp 46) (.tmp 50) 22 rfl w1.heap.size 113 j0 _ 257 264 Try.underlying22 HJ0.out HY0.out HY1.out HY2.out rfl (by omega) (.slice A7 nl c7) nl (pgsCells L) rfl
              (own_keepB how3 (HK2.out.alloc _) (fun _ _ q => q)) ⟨w2.heap.size, 0, none⟩ 1 1 (pgL ⟨(j : Int) + 1, fullL 255⟩) rfl (pgL_len OK1.out) hcn (pgL_one _) (by unfold maxLen; omega) (by omega)
              (by have h1 := HKP.out.size; have h2 := HK2.out.size; simp; omega) ?_
            intro v7 w7 hown7 hgrow7 hb7
            obtain ⟨A8, c8, rfl⟩ := own_slice hown7
            have hk7 := ((HKP.out.trans HK2.out (fun _ _ q => q)).alloc (.cells (pgA ⟨(j : Int) + 1, fullL 255⟩) 113)).own hgrow7 rfl how3
            have HK7 := Lib.hid hk7
            have HO7 := Lib.hid hown7
            clear hown7 hgrow7 hb7 hk7 hcn how3
            go_wp2_with fail
            have hce : chPg bs old j = [⟨(j : Int) + 1, fullL 255⟩] := by unfold chPg; rw [if_neg (by rw [HGD.out]; simp), if_pos ho]
            refine ⟨⟨j + 1, by congr 1, by omega, ⟨?_, ?_⟩, HK7.out⟩, by simp [intOf]; omega⟩
            · have := HO7.out
              unfold chPgs
              rw [HL.out, hce, List.length_append, HNL.out]
              unfold pgsCells at this ⊢
              rw [List.flatMap_append]
              simpa using this
            · intro z hz
              unfold chPgs at hz
              rw [HL.out, hce] at hz
              rcases List.mem_append.1 hz with q | q
              · exact HOW.out.2 z q
              · rw [List.mem_singleton.1 q]; exact OK1.out
          · have hoo : ¬ (old : Int) < (j : Int) + 1 := by omega
            go_wp2_with fail
            have hce : chPg bs old j = [] := by unfold chPg; rw [if_neg (by rw [HGD.out]; simp), if_neg ho]
            refine ⟨⟨j + 1, by congr 1, by omega, ?_, HKP.out⟩, by simp [intOf]; omega⟩
            unfold chPgs
            rw [HL.out, hce, List.append_nil]
            exact ⟨by have := HOW.out.1; rw [HNL.out] at this ⊢; exact this, HOW.out.2⟩
        · have hz1 : (y != 0) = true := by simpa using hz
          have hz2 : (y == 0) = false := by simpa using hz
          go_wp2_with fail
          refine (wfull_ok wq y).mono ?_
          rintro e w2 ⟨rfl, hk2⟩
          have HK2 := Lib.hid hk2
          have s1 : (pgA ⟨(j : Int) + 1, fullL y⟩).size = 257 := by unfold pgA pgL; rw [List.size_toArray, List.length_cons, List.length_map, l1]
          have ok1 : PgOk ⟨(j : Int) + 1, fullL y⟩ := full_pg (by omega) HYR.out
          have OK1 := Lib.hid ok1
          clear hk2 ok1
          go_wp2_with (show wpList _ _ _ (⟨some 40, _, _, _, _, _⟩ :: _) _ _; refine wpList_val _ (exBuildPg2 _ _ _ _ ((j : Int) + 1) (fullL y) l1 _ _ _ _ _ rfl rfl) ?_)
          have hcn := pg_new w2 ⟨(j : Int) + 1, fullL y⟩
          have how3 := HOW.out.1
          rw [HNL.out] at how3
          refine wp_append_ownB (.tmp 31) (.tmp 41) 22 rfl w1.heap.size 113 j0 _ 257 264 Try.underlying22 HJ0.out HY0.out HY1.out HY2.out rfl (by omega) (.slice A7 nl c7) nl (pgsCells L) rfl
            (own_keepB how3 (HK2.out.alloc _) (fun _ _ q => q)) ⟨w2.heap.size, 0, none⟩ 1 1 (pgL ⟨(j : Int) + 1, fullL y⟩) rfl (pgL_len OK1.out) hcn (pgL_one _) (by unfold maxLen; omega) (by omega)
            (by have h1 := HKP.out.size; have h2 := HK2.out.size; simp; omega) ?_
          intro v7 w7 hown7 hgrow7 hb7
          obtain ⟨A8, c8, rfl⟩ := own_slice hown7
          have hk7 := ((HKP.out.trans HK2.out (fun _ _ q => q)).alloc (.cells (pgA ⟨(j : Int) + 1, fullL y⟩) 113)).own hgrow7 rfl how3
          have HK7 := Lib.hid hk7
          have HO7 := Lib.hid hown7
          clear hown7 hgrow7 hb7 hk7 hcn how3
          go_wp2_with fail
          have hce : chPg bs old j = [⟨(j : Int) + 1, fullL y⟩] := by unfold chPg; rw [if_pos ⟨by rw [LB.out]; exact hin, by rw [HGD.out]; exact hz⟩, HGD.out]
          refine ⟨⟨j + 1, by congr 1, by omega, ⟨?_, ?_⟩, HK7.out⟩, by simp [intOf]; omega⟩
          · have := HO7.out
            unfold chPgs
            rw [HL.out, hce, List.length_append, HNL.out]
            unfold pgsCells at this ⊢
            rw [List.flatMap_append]
            simpa using this
          · intro z hz
            unfold chPgs at hz
            rw [HL.out, hce] at hz
            rcases List.mem_append.1 hz with q | q
            · exact HOW.out.2 z q
            · rw [List.mem_singleton.1 q]; exact OK1.out
      · have hii : ¬ (j : Int) + 1 ≤ (nb : Int) := by omega
        by_cases ho : old ≤ j
        · have hoo : (old : Int) < (j : Int) + 1 := by omega
          go_wp2_with fail
          refine (wfull_ok wq 255).mono ?_
          rintro e w2 ⟨rfl, hk2⟩
          have HK2 := Lib.hid hk2
          have s1 : (pgA ⟨(j : Int) + 1, fullL 255⟩).size = 257 := by unfold pgA pgL; rw [List.size_toArray, List.length_cons, List.length_map, l255]
          have ok1 : PgOk ⟨(j : Int) + 1, fullL 255⟩ := full_pg (by omega) (by omega)
          have OK1 := Lib.hid ok1
          clear hk2 ok1
          go_wp2_with (show wpList _ _ _ (⟨some 49, _, _, _, _, _⟩ :: _) _ _; refine wpList_val _ (exBuildPg2 _ _ _ _ ((j : Int) + 1) (fullL 255) l255 _ _ _ _ _ rfl rfl) ?_)
          have hcn := pg_new w2 ⟨(j : Int) + 1, fullL 255⟩
          have how3 := HOW.out.1
          rw [HNL.out] at how3
          refine wp_append_ownB (.tmp 46) (.tmp 50) 22 rfl w1.heap.size 113 j0 _ 257 264 Try.underlying22 HJ0.out HY0.out HY1.out HY2.out rfl (by omega) (.slice A7 nl c7) nl (pgsCells L) rfl
            (own_keepB how3 (HK2.out.alloc _) (fun _ _ q => q)) ⟨w2.heap.size, 0, none⟩ 1 1 (pgL ⟨(j : Int) + 1, fullL 255⟩) rfl (pgL_len OK1.out) hcn (pgL_one _) (by unfold maxLen; omega) (by omega)
            (by have h1 := HKP.out.size; have h2 := HK2.out.size; simp; omega) ?_
          intro v7 w7 hown7 hgrow7 hb7
          obtain ⟨A8, c8, rfl⟩ := own_slice hown7
          have hk7 := ((HKP.out.trans HK2.out (fun _ _ q => q)).alloc (.cells (pgA ⟨(j : Int) + 1, fullL 255⟩) 113)).own hgrow7 rfl how3
          have HK7 := Lib.hid hk7
          have HO7 := Lib.hid hown7
          clear hown7 hgrow7 hb7 hk7 hcn how3
          go_wp2_with fail
          have hce : chPg bs old j = [⟨(j : Int) + 1, fullL 255⟩] := by unfold chPg; rw [if_neg (by rw [LB.out]; omega), if_pos ho]
          refine ⟨⟨j + 1, by congr 1, by omega, ⟨?_, ?_⟩, HK7.out⟩, by simp [intOf]; omega⟩
          · have := HO7.out
            unfold chPgs
            rw [HL.out, hce, List.length_append, HNL.out]
            unfold pgsCells at this ⊢
            rw [List.flatMap_append]
            simpa using this
          · intro z hz
            unfold chPgs at hz
            rw [HL.out, hce] at hz
            rcases List.mem_append.1 hz with q | q
            · exact HOW.out.2 z q
            · rw [List.mem_singleton.1 q]; exact OK1.out
        · have hoo : ¬ (old : Int) < (j : Int) + 1 := by omega
          go_wp2_with fail
          have hce : chPg bs old j = [] := by unfold chPg; rw [if_neg (by rw [LB.out]; omega), if_neg ho]
          refine ⟨⟨j + 1, by congr 1, by omega, ?_, HKP.out⟩, by simp [intOf]; omega⟩
          unfold chPgs
          rw [HL.out, hce, List.append_nil]
          exact ⟨by have := HOW.out.1; rw [HNL.out] at this ⊢; exact this, HOW.out.2⟩
    · have hkk : ¬ (j : Int) + 1 ≤ (N : Int) := by omega
      obtain rfl : j = N := by omega
      go_wp2_with fail
      go_ret2
      have hs9 := HS1.out
      refine ⟨j, hN, _, rfl, ⟨own_low ?_ (show w.heap.size ≤ w1.heap.size by omega), ?_⟩, HKB.out.trans HKP.out (fun _ _ q => q)⟩
      · rw [HL.out, HNL.out]
        have := HOW.out.1
        rw [HNL.out] at this
        exact this
      · rw [HL.out]; exact HOW.out.2
end
end Go.Proofs.Ytegcbdfilkecpaa
/- The log: pages changed; condition: lists that may lie in memory. -/
namespace Go.Proofs.Ytegcbdfilkecpaa
open Go.RowKit

section
attribute [local go_sem ↓] load26 store26 alloc26 build26 exSliceP1
set_option maxRecDepth 100000 in
set_option maxHeartbeats 1600000 in
theorem wafter_q (w : World) (A B : Option Addr) (m n ca cb : Nat) (was : List (List Int)) (l : List Pg) (c : Nat) (ha : RawsAt w A m was) (hA : A = none → m = 0 ∧ ca = 0) (oka : rawOk was) (hb : PgsAt w B n l) (okb : ∀ x ∈ l, PgOk x ∧ 1 ≤ x.n ∧ x.n ≤ (c : Int)) (hm : m ≤ 5000) (hn : n ≤ 5000) (hc : c ≤ 5000) :
    Calls Try.prog 95 #[.slice A m ca, .int .i64 (c : Int), .slice B n cb] w fun e w' => ∃ v, e = .returned v ∧ OwnRaw w' w.heap.size v (afterL was c l) ∧ Kp NoB w w' := by
  have HA := Lib.hid ha
  have HAN := Lib.hid hA
  have OA := Lib.hid oka
  have HB := Lib.hid hb
  have OB := Lib.hid okb
  have LA := Lib.hid ha.len
  have LB := Lib.hid hb.len
  obtain ⟨j0, hj0, hy0, hy1, hy2⟩ := info_parts infoPg26
  have HJ0 := Lib.hid hj0
  have HY0 := Lib.hid hy0
  have HY1 := Lib.hid hy1
  have HY2 := Lib.hid hy2
  have HCZ : Hid ((Value.agg zero256).cells.size = 256) := Lib.hid (by rw [show (Value.agg zero256).cells = zero256 from rfl, zero256_eq, bytesV_size]; rfl)
  have HOWN : Hid ((w.alloc (.cells #[] 24)).ownsRow w.heap.size 24 256 (.slice (some ⟨w.heap.size, 0, none⟩) 0 0) 0 []) := Lib.hid ⟨rfl, .inr ⟨w.heap.size, 0, #[], rfl, Nat.le_refl _, heap_alloc_new _ _, Nat.le_refl _, by simp, rfl, rfl⟩⟩
  have HFL : Hid ((was.map fun (b : List Int) => b.map (Value.int .u8)).flatten = rawCells was) := Lib.hid (by unfold rawCells; rw [List.flatMap_def])
  clear ha hA oka hb okb hj0 hy0 hy1 hy2
  go_enter Try.func95, Try.ntmps95
  go_wp2_with (at_builtin; refine wpList_append_srcN rfl _ _ 38 rfl w.heap.size 24 j0 _ 256 256 Try.underlying38 HJ0.out HY0.out HY1.out HY2.out HCZ.out (by omega) _ 0 [] rfl HOWN.out A m ca (rawCells was) rfl HAN.out (by rw [rawCells_len OA.out, LA.out]) (fun hn => by have := (HA.out.keep ((Kp.refl NoB w).alloc (.cells #[] 24))).src hn (by omega); rw [HFL.out] at this; exact this) (rawCells_one was) (by unfold maxLen; omega) (by omega) (by simp) ?_; intro v1 w1 hown1 hgrow1; rw [Nat.zero_add, List.nil_append] at hown1; have HO1 := Lib.hid hown1; have hk1 := (((Kp.refl NoB w).alloc (.cells #[] 24)).own (v := .slice (some ⟨w.heap.size, 0, none⟩) 0 0) hgrow1 rfl HOWN.out); have HK1 := Lib.hid hk1; clear hown1 hgrow1 hk1)
  go_loopw [7] (fun v7 wr => AfRel w was c v7 wr) (fun v7 _ => c - lenOf v7)
  case atStart => exact ⟨0, by omega, ⟨by rw [List.replicate_zero, List.append_nil, LA.out]; exact HO1.out, by rw [List.replicate_zero, List.append_nil]; exact OA.out⟩, HK1.out⟩
  case round =>
    obtain ⟨j, hj, how, hkp⟩ := hrel
    have HOW := Lib.hid how
    have HKP := Lib.hid hkp
    obtain ⟨A7, c7, rfl⟩ := own_slice how.1
    have hll : (was ++ List.replicate j zPg).length = m + j := by rw [List.length_append, List.length_replicate, LA.out]
    rw [hll] at how ⊢
    have how1 := how.1
    rw [hll] at HOW
    have HOW1 := Lib.hid how1
    have HJ := Lib.hid hj
    have hj2 : m + j ≤ max m c := by have := LA.out; omega
    clear how how1 hkp hj
    by_cases hlt : m + j < c
    · have hii : ((m + j : Nat) : Int) < (c : Int) := by omega
      have o1 : ones zero256 := by rw [zero256_eq]; exact bytesV_one _
      have sz : zero256.size = 256 := by rw [zero256_eq, bytesV_size]; rfl
      obtain ⟨N, hN⟩ : ∃ N, m + j = N := ⟨_, rfl⟩
      rw [hN] at hii HOW HOW1 ⊢
      have HN := Lib.hid hN
      clear hN
      go_wp2_with fail
      have hcn := raw_new wr zPg
      refine wp_append_ownB (.tmp 16) (.tmp 18) 38 rfl w.heap.size 24 j0 _ 256 256 Try.underlying38 HJ0.out HY0.out HY1.out HY2.out HCZ.out (by omega) (.slice A7 N c7) N (rawCells (was ++ List.replicate j zPg)) rfl
        (own_keepB (by have := HOW1.out; rw [hll, HN.out] at this; exact this) ((Kp.refl NoB wr).alloc _) (fun _ _ q => q)) ⟨wr.heap.size, 0, none⟩ 1 1 (zPg.map (Value.int .u8)) rfl (by rw [List.length_map, zPg_ok.1]) hcn (u8_one zPg) (by have := HN.out; unfold maxLen; omega) (by have := HN.out; omega) (by have h1 := HKP.out.size; simp; omega) ?_
      intro v7 w7 hown7 hgrow7 hb7
      obtain ⟨A8, c8, rfl⟩ := own_slice hown7
      have hk7 := (HKP.out.alloc (.cells zero256 24)).own hgrow7 rfl HOW1.out
      have HK7 := Lib.hid hk7
      have HO7 := Lib.hid hown7
      clear hown7 hgrow7 hb7 hk7 hcn
      go_wp2_with fail
      refine ⟨⟨j + 1, by have := LA.out; have := HN.out; omega, ⟨?_, rawOk_rep OA.out _⟩, HK7.out⟩, by simp [lenOf]; omega⟩
      have h := HO7.out
      have e1 : was ++ List.replicate (j + 1) zPg = (was ++ List.replicate j zPg) ++ [zPg] := by rw [List.replicate_succ', List.append_assoc]
      have e2 : ((was ++ List.replicate j zPg) ++ [zPg]).length = N + 1 := by rw [List.length_append, hll, HN.out]; rfl
      rw [e1, e2, rawCells_app]
      unfold rawCells at h ⊢
      simpa using h
    · have hii : ¬ ((m + j : Nat) : Int) < (c : Int) := by omega
      have how2 := HOW1.out
      rw [hll] at how2
      have hcut := own_cut how2 (show c ≤ m + j by omega)
      rw [rawCells_take (rawOk_rep OA.out j) c (by rw [hll]; omega), padPg_of (by rw [LA.out]; exact hj2) (by rw [LA.out]; omega)] at hcut
      have HCUT := Lib.hid hcut
      have HC7 := Lib.hid (own_cap how2)
      have hle : (c : Int) ≤ (c7 : Int) := by have := own_cap how2; omega
      have hle2 : c ≤ c7 := by have := own_cap how2; omega
      clear hcut how2 HOW1
      obtain ⟨wq, rfl⟩ : ∃ wq, wq = wr := ⟨_, rfl⟩
      clear HOW HJ hj2 hlt hll HO1 HK1
      go_wp2_with fail
      go_loopw [8] (fun v8 wr => Af2Rel w was c l (.slice A7 c c7) v8 wr) (fun v8 _ => n - (intOf v8).toNat)
      case atStart => exact ⟨0, rfl, by omega, ⟨by rw [List.take_zero, List.foldl_nil, padPg_len]; exact HCUT.out, by rw [List.take_zero, List.foldl_nil]; exact padPg_ok OA.out c⟩, HKP.out⟩
      case round =>
        obtain ⟨k, rfl, hk, how, hkp⟩ := hrel
        have HOW := Lib.hid how
        have HKQ := Lib.hid hkp
        have hLB := LB.out
        obtain ⟨O, hO⟩ : ∃ O, (l.take k).foldl setPg (padPg was c) = O := ⟨_, rfl⟩
        have hOl : O.length = c := by rw [← hO, fold_len, padPg_len]
        rw [hO] at HOW
        have HOO := Lib.hid hO
        have HOL := Lib.hid hOl
        clear how hkp hO
        by_cases hlt : k < n
        · have hkk : (k : Int) < (n : Int) := by omega
          obtain ⟨x, hx⟩ : ∃ x, l[k]? = some x := ⟨_, List.getElem?_eq_getElem (by omega)⟩
          have hxo := OB.out x (List.mem_of_getElem? hx)
          obtain ⟨gb, ob, rfl, hgb, hcn, hcr⟩ := (HB.out.keep HKQ.out).rg k hlt hx
          obtain ⟨d, hd⟩ : ∃ d : Nat, x.n = (d : Int) + 1 := ⟨(x.n - 1).toNat, by omega⟩
          have hdc : d < c := by omega
          have hown := HOW.out.1
          rw [hOl] at hown
          obtain ⟨g, ds, e, hg, -, -, -⟩ := own_full hown (by omega)
          subst e
          obtain ⟨hown2, hth⟩ := own_setPg (w := wr.drew) hown HOW.out.2 hOl hdc x.b hxo.1.len
          have HOWN2 := Lib.hid hown2
          have HTH := Lib.hid hth
          have HG := Lib.hid hg
          have HX := Lib.hid hx
          have HXO := Lib.hid hxo
          have HD := Lib.hid hd
          rw [hd] at hcn
          clear hown hown2 hth hg hx hxo hd
          go_upto_region 8 with fail
          refine wp_region_held_drew (S := fun W' => W'.cell? ⟨gb, ob + k * 257, none⟩ = some (.int .i64 ((d : Int) + 1)) ∧ W'.rangeAt gb (ob + k * 257 + 1) (x.b.map (Value.int .u8))) (by kernel_rfl) ⟨hcn, hcr⟩ (fun hHeld => ?_)
          have hs0 : wr.drew.cell? ⟨gb, ob + k * 257, none⟩ = some (.int .i64 ((d : Int) + 1)) ∧ wr.drew.rangeAt gb (ob + k * 257 + 1) (x.b.map (Value.int .u8)) := ⟨hcn, hcr⟩
          have HK0 := Lib.hid (HKQ.out.drew)
          have HOWN3 : Hid ((wr.drew.setCells g (d * 256) (x.b.map (Value.int .u8))).ownsRow w.heap.size 24 256 (.slice (some ⟨g, 0, none⟩) c c7) c (rawCells (O.set d x.b))) := HOWN2
          have HTH3 : Hid (wr.drew.there g (d * 256) 256) := HTH
          have hne : gb ≠ g := fun e => by
            have h1 := HB.out.lt (g := gb) (o := ob) rfl (by omega)
            have h2 := HG.out
            omega
          have HNE := Lib.hid hne
          have hw1 : IntKind.i64.wrap (d : Int) = (d : Int) := by rw [IntKind.wrap_i64]; omega
          have hi8 : (Try.prog.info? 24).map (·.size) = some (x.b.map (Value.int .u8)).length := by rw [List.length_map, HXO.out.1.len]; exact info26
          have hu := Try.underlying24
          clear HOWN2 HTH hne
          generalize wr.drew = W0 at hs0 hHeld HK0 HOWN3 HTH3 ⊢
          refine tkS (i := 0) (v := (.slice (some ⟨g, 0, none⟩) c c7)) rfl (Or.inl ⟨by rfl, fun w' hq => by go_simp⟩) hs0 ?_
          simp only [Act.put, skA, skB, skC]
          refine tkS (i := 1) (v := (.slice (some ⟨gb, ob, none⟩) n cb)) rfl (Or.inl ⟨by rfl, fun w' hq => by go_simp⟩) hs0 ?_
          simp only [Act.put, skA, skB, skC]
          refine tkS (i := 2) (v := (.int .i64 (k : Int))) rfl (Or.inl ⟨by rfl, fun w' hq => by go_simp⟩) hs0 ?_
          simp only [Act.put, skA, skB, skC]
          refine tkS (i := 3) (v := (.pointer (some ⟨gb, ob + k * 257, none⟩))) rfl (Or.inl ⟨by rfl, fun w' hq => by go_simp⟩) hs0 ?_
          simp only [Act.put, skA, skB, skC]
          refine tkS (i := 4) (v := (.pointer (some ⟨gb, ob + k * 257, none⟩))) rfl (Or.inl ⟨by rfl, fun w' hq => by go_simp⟩) hs0 ?_
          simp only [Act.put, skA, skB, skC]
          refine tkS (i := 5) (v := .int .i64 ((d : Int) + 1)) rfl (Or.inl ⟨by rfl, fun w' hq => by have hq1 := hq.1; clear hq; go_simp⟩) hs0 ?_
          simp only [Act.put, skA, skB, skC]
          refine tkS (i := 6) (v := (.int .i64 (d : Int))) rfl (Or.inl ⟨by rfl, fun w' hq => by go_simp⟩) hs0 ?_
          simp only [Act.put, skA, skB, skC]
          refine tkS (i := 7) (v := (.slice (some ⟨gb, ob, none⟩) n cb)) rfl (Or.inl ⟨by rfl, fun w' hq => by go_simp⟩) hs0 ?_
          simp only [Act.put, skA, skB, skC]
          refine tkS (i := 8) (v := (.int .i64 (k : Int))) rfl (Or.inl ⟨by rfl, fun w' hq => by go_simp⟩) hs0 ?_
          simp only [Act.put, skA, skB, skC]
          refine tkS (i := 9) (v := (.pointer (some ⟨gb, ob + k * 257, none⟩))) rfl (Or.inl ⟨by rfl, fun w' hq => by go_simp⟩) hs0 ?_
          simp only [Act.put, skA, skB, skC]
          refine tkS (i := 10) (v := (.pointer (some ⟨gb, ob + k * 257 + 1, none⟩))) rfl (Or.inl ⟨by rfl, fun w' hq => by go_simp⟩) hs0 ?_
          simp only [Act.put, skA, skB, skC]
          refine tkS (i := 11) (v := .agg ((x.b.map (Value.int .u8))).toArray) rfl (yieldsIf_load_mid (by rfl) _ _ rfl _ _ rfl (x.b.map (Value.int .u8)) _ (fun _ q => q.2) hu rfl hi8) hs0 ?_
          simp only [Act.put, skA, skB, skC]
          refine tkS (i := 12) (v := (.pointer (some ⟨g, d * 256, none⟩))) rfl (Or.inl ⟨by rfl, fun w' hq => by go_simp⟩) hs0 ?_
          simp only [Act.put, skA, skB, skC]
          refine wpAnyH_ready (rs := [13]) (by kernel_rfl) (by simp) ?_
          refine AllReadyH.storeL rfl (by rfl) g (d * 256) (x.b.map (Value.int .u8)).toArray (by rfl) (by rfl) (by rw [List.size_toArray, List.length_map, HXO.out.1.len]; exact HTH3.out) (by rw [List.size_toArray]; exact hi8) (bytesV_one x.b) ?_ ?_ AllReadyH.nil
          · have hne := HNE.out
            exact ⟨(cell_setCells_far g hne _ _ W0).trans hs0.1, fun j v hj => (cell_setCells_far g hne _ _ W0).trans (hs0.2 j v hj)⟩
          refine wpAnyH_done (by kernel_rfl) ?_ _
          have HKN := Lib.hid (Kp.setCells (.inl HG.out) (x.b.map (Value.int .u8)) (d * 256) _ HK0.out)
          clear hHeld hs0 hi8 hu HTH3
          generalize W0.setCells g (d * 256) (x.b.map (Value.int .u8)) = W1 at HOWN3 HKN ⊢
          go_wp2_with fail
          have hst : (l.take (k + 1)).foldl setPg (padPg was c) = O.set d x.b := by
            rw [List.take_add_one, HX.out, List.foldl_append, HOO.out]
            show setPg O x = _
            unfold setPg
            rw [show x.n.toNat - 1 = d by have := HD.out; omega]
          have hok2 : rawOk (O.set d x.b) := fun b hb => by
            rcases List.mem_or_eq_of_mem_set hb with q | q
            · exact HOW.out.2 b q
            · rw [q]; exact ⟨HXO.out.1.len, HXO.out.1.rng⟩
          refine ⟨⟨k + 1, by congr 1, by omega, ⟨?_, by rw [hst]; exact hok2⟩, HKN.out⟩, by simp [intOf]; omega⟩
          rw [hst, List.length_set, hOl]
          exact HOWN3.out
        · have hkk : ¬ (k : Int) < (n : Int) := by omega
          obtain rfl : k = n := by omega
          go_wp2_with fail
          go_ret
          have h1 := HOO.out
          rw [List.take_of_length_le (by rw [LB.out]; exact Nat.le_refl _)] at h1
          unfold afterL
          rw [h1]
          refine ⟨_, rfl, ⟨?_, HOW.out.2⟩, HKQ.out⟩
          exact HOW.out.1
end
end Go.Proofs.Ytegcbdfilkecpaa
/- The log: a change done; condition: a disk whose log opens. -/
namespace Go.Proofs.Ytegcbdfilkecpaa
open Go.RowKit

/-- what a change makes: the disk, an error, the pages that there must be -/
def DoR (p : Pl) (hm : Bool) (bs : List Int) (q : Pl) (E : Int) (NOW : List (List Int)) : Prop :=
  (hm = false ∧ ∃ N : Nat, N ≤ 15 ∧ q = (p.wcommit (N : Int) (chPgs bs (tellP p p.wmark.1).length N)).1 ∧ E = (p.wcommit (N : Int) (chPgs bs (tellP p p.wmark.1).length N)).2.2 ∧ NOW = afterL (tellP p p.wmark.1) N (chPgs bs (tellP p p.wmark.1).length N)) ∨
  (hm = true ∧ ∃ m : Nat, isMark p.wopen.2 (m : Int) = true ∧ q = (p.wcheck (m : Int)).1 ∧ E = (p.wcheck (m : Int)).2 ∧ NOW = tellP p p.wmark.1)
def DoPost (S : Nat → Prop) (w : World) (db : Nat) (p : Pl) (hm : Bool) (bs : List Int) (e : Ending) (w' : World) : Prop :=
  ∃ q E NOW v S', DoR p hm bs q E NOW ∧ e = .returned (.tuple #[v, .int .i64 E]) ∧ Dq S' w' w' db q ∧ Kp S w w' ∧ (∀ b, S' b → S b ∨ w.heap.size ≤ b) ∧ RwS S' w' v NOW
theorem and1023 (C : Int) : ∃ N : Nat, N ≤ 1023 ∧ bits BinOp.and IntKind.i64 C 1023 = (N : Int) := by
  have e : bits BinOp.and IntKind.i64 C 1023 = IntKind.i64.wrap ((BitVec.ofInt 64 C &&& BitVec.ofInt 64 1023).toNat) := rfl
  have h : (BitVec.ofInt 64 C &&& BitVec.ofInt 64 1023).toNat ≤ 1023 := by
    rw [BitVec.toNat_and]
    exact Nat.and_le_right
  refine ⟨(BitVec.ofInt 64 C &&& BitVec.ofInt 64 1023).toNat, h, ?_⟩
  rw [e, IntKind.wrap_i64]
  omega
theorem nums_own {w : World} {b n cap : Nat} {A : Option Addr} {l : List Int} (h : w.ownsRow b 3 1 (.slice A n cap) n (l.map (Value.int .i64))) (hl : l.length = n) : Nums w A n l := by
  refine ⟨hl, fun hn => ?_⟩
  obtain ⟨g, ds, rfl, hg, hb⟩ := own_blkN h hn
  refine ⟨g, 0, rfl, hb.lt, fun k hk => ?_⟩
  rw [hb.cell]
  simp only [Nat.zero_add, List.getElem?_toArray]
  rw [List.getElem?_append_left (by rw [List.length_map]; omega), List.getElem?_map, List.getD_eq_getElem?_getD, List.getElem?_eq_getElem (by omega)]
  rfl
theorem marksTo_pos (fs : List Fr) (n : Nat) : 0 < (marksTo fs (n + 1)).length := by
  have h : (0 : Int) ∈ marksTo fs (n + 1) := by
    unfold marksTo
    refine List.mem_map.2 ⟨0, List.mem_filter.2 ⟨List.mem_range.2 (by omega), rfl⟩, rfl⟩
  exact List.length_pos_of_mem h
theorem marksTo_mem {fs : List Fr} {n k : Nat} (hk : k < (marksTo fs n).length) : ∃ m : Nat, (marksTo fs n).getD k 0 = (m : Int) ∧ isMark fs (m : Int) = true ∧ m < n := by
  have h := List.getElem_mem hk
  rw [List.getD_eq_getElem?_getD, List.getElem?_eq_getElem hk]
  generalize (marksTo fs n)[k] = x at h ⊢
  unfold marksTo at h
  obtain ⟨m, hm, rfl⟩ := List.mem_map.1 h
  obtain ⟨h1, h2⟩ := List.mem_filter.1 hm
  exact ⟨m, rfl, h2, List.mem_range.1 h1⟩
theorem tellP_len (p : Pl) (m : Int) : (tellP p m).length = (p.wcnt m).1.toNat := by unfold tellP; exact tellK_len _ _ _
section
variable {S : Nat → Prop} {w : World} {db : Nat} {p : Pl}
attribute [local go_sem ↓] load26 store26 alloc26 build26 exSliceP1
set_option maxRecDepth 100000 in
set_option maxHeartbeats 1600000 in
theorem do_home (h : Dq S w w db p) (C : Int) (A : Option Addr) (nb cb : Nat) (bs : List Int) (ho : p.wopen.1 = 0) (hm : p.sm 200000000) :
    Calls Try.prog 37 #[ptrV db, .agg #[.bool true, .int .i64 C, .slice A nb cb]] w (DoPost S w db p true bs) := by
  have hkb : Kp NoB w (w.alloc (.cells #[.bool true, .int .i64 C, .slice A nb cb] 81)) := (Kp.refl _ _).alloc _
  have hbd : Blk (w.alloc (.cells #[.bool true, .int .i64 C, .slice A nb cb] 81)) w.heap.size 81 #[.bool true, .int .i64 C, .slice A nb cb] := Blk.new _ _ _
  have H := Lib.hid h
  have HO := Lib.hid ho
  have HM := Lib.hid hm
  have HPST : Hid (∀ q E NOW v S' w', DoR p true bs q E NOW → Dq S' w' w' db q → Kp S w w' → (∀ b, S' b → S b ∨ w.heap.size ≤ b) → RwS S' w' v NOW → DoPost S w db p true bs (.returned (.tuple #[v, .int .i64 E])) w') := Lib.hid (fun q E NOW v S' w' a b c d e => ⟨q, E, NOW, v, S', a, rfl, b, c, d, e⟩)
  obtain ⟨PP, hPP⟩ : ∃ PP, DoPost S w db p true bs = PP := ⟨_, rfl⟩
  rw [hPP] at HPST ⊢
  clear hPP h ho hm
  obtain ⟨w1, hw1⟩ : ∃ w1, w.alloc (.cells #[.bool true, .int .i64 C, .slice A nb cb] 81) = w1 := ⟨_, rfl⟩
  rw [hw1] at hkb hbd
  have HKB := Lib.hid hkb
  have HBD := Lib.hid hbd
  have c00 : w1.cell? ⟨w.heap.size, 0, none⟩ = some (.bool true) := hbd.cell 0
  have HC1 : Hid (w1.cell? ⟨w.heap.size, 1, none⟩ = some (.int .i64 C)) := Lib.hid (hbd.cell 1)
  obtain ⟨M, hM, hbits⟩ := and1023 C
  clear hkb hbd
  unfold ptrV
  go_enter Try.func37, Try.ntmps37
  go_wp2_with fail
  refine (show Calls _ _ #[ptrV db] _ _ from wmark_q (H.out.keep HKB.out)).mono ?_
  rintro e w2 ⟨rfl, hk2⟩
  have HK2 := Lib.hid hk2
  clear hk2 c00
  dsimp only
  go_wp2_with fail
  refine (show Calls _ _ #[ptrV db, .int .i64 p.wmark.1] _ _ from wtell_q ((H.out.keep HKB.out).keep HK2.out) p.wmark.1).mono ?_
  rintro e w3 ⟨v, rfl, how, hk3⟩
  have hrg := wcnt_rng H.out p.wmark.1
  have htl := tellP_len p p.wmark.1
  obtain ⟨V, hV⟩ : ∃ V, tellP p p.wmark.1 = V := ⟨_, rfl⟩
  rw [hV] at how htl
  obtain ⟨s, hs⟩ : ∃ s, V.length = s := ⟨_, rfl⟩
  obtain ⟨A1, c1, rfl, hraw, hnone, hge1⟩ := raws_own2 how hs
  have hs5 : s ≤ 5000 := by omega
  have HV := Lib.hid hV
  have HROK := Lib.hid how.2
  have HRAW := Lib.hid hraw
  have HGE1 := Lib.hid hge1
  have HS5 := Lib.hid hs5
  have HK3 := Lib.hid hk3
  have HK13 := Lib.hid (HK2.out.trans hk3 (fun _ _ q => q))
  have c0 : w3.cell? ⟨w.heap.size, 0, none⟩ = some (.bool true) := (HK13.out.cell HBD.out.lt (fun q => q)).trans (HBD.out.cell 0)
  have c1' : w3.cell? ⟨w.heap.size, 1, none⟩ = some (.int .i64 C) := (HK13.out.cell HBD.out.lt (fun q => q)).trans HC1.out
  clear how hraw hnone hge1 hk3 hrg htl hV hs hs5
  go_wp2_with fail
  refine (show Calls _ _ #[ptrV db] _ _ from wmarks_q (((H.out.keep HKB.out).keep HK2.out).keep HK3.out)).mono ?_
  rintro e w4 (⟨e1, _, _⟩ | ⟨_, v, rfl, how, hk4⟩)
  · exact absurd HO.out e1
  · have hpos := marksTo_pos p.wopen.2 p.wopen.2.length
    have hmem := fun k => marksTo_mem (fs := p.wopen.2) (n := p.wopen.2.length + 1) (k := k)
    have hle := marksTo_len p.wopen.2 (p.wopen.2.length + 1)
    have hwl := wopen_len HO.out
    obtain ⟨L, hL⟩ : ∃ L, marksTo p.wopen.2 (p.wopen.2.length + 1) = L := ⟨_, rfl⟩
    rw [hL] at how hpos hmem hle
    obtain ⟨n, hn⟩ : ∃ n, L.length = n := ⟨_, rfl⟩
    rw [hn] at how hpos hmem hle
    obtain ⟨A4, c4, rfl⟩ := own_slice how
    have hnm := nums_own how hn
    have hlt : M % n < n := Nat.mod_lt _ hpos
    obtain ⟨m, hm1, hm2, hm3⟩ := hmem _ hlt
    obtain ⟨g, o, e, hg, hc⟩ := hnm.2 hpos
    subst e
    have cm := hc _ hlt
    rw [hm1] at cm
    have hn9 : n ≤ 1048577 := by omega
    have HM2 := Lib.hid hm2
    have HK4 := Lib.hid hk4
    have c1'' : w4.cell? ⟨w.heap.size, 1, none⟩ = some (.int .i64 C) := (hk4.cell (Nat.lt_of_lt_of_le HBD.out.lt HK13.out.size) (fun q => q)).trans c1'
    have hz0 : ((n : Int) == 0) = false := by simp; omega
    have hz1 : ¬ (n : Int) = 0 := by omega
    have hmod : Int.tmod (M : Int) (n : Int) = ((M % n : Nat) : Int) := rfl
    have hM9 : ((M % n : Nat) : Int) < (n : Int) := by omega
    obtain ⟨r, hr⟩ : ∃ r, M % n = r := ⟨_, rfl⟩
    rw [hr] at hmod cm hM9 hlt
    clear how hL hnm hg hc hm1 hm2 hm3 hmem hn hk4 c0 c1' hle hwl hr
    go_wp2_with fail
    have hk04 := HKB.out.trans (HK13.out.trans HK4.out (fun _ _ q => q)) (fun _ _ q => q)
    have HK04 := Lib.hid hk04
    refine (show Calls _ _ #[ptrV db, .int .i64 (m : Int)] _ _ from wcheck_q (H.out.base1 hk04) (m : Int) HM.out).mono ?_
    rintro e w5 ⟨rfl, h5⟩
    have hk5 := h5.kp
    obtain ⟨S5, hq5, hS5⟩ := h5.base
    have HQ5 := Lib.hid hq5
    have HK5 := Lib.hid hk5
    have HS5' := Lib.hid hS5
    clear hk04 h5 hk5 hq5 hS5
    go_wp2_with fail
    refine HPST.out _ _ _ _ S5 _ (.inr ⟨rfl, m, HM2.out, rfl, rfl, rfl⟩) HQ5.out ((HK04.out.mono (fun _ _ q => q.elim)).trans HK5.out (fun b _ q => q)) (fun b q => by
      rcases HS5'.out b q with z | z
      · exact .inl z
      · have := HK04.out.size; exact .inr (by omega)) ?_
    rw [HV.out]
    refine RwS.keep (S := S) ⟨A1, s, c1, rfl, HRAW.out.keep HK4.out, HROK.out, HS5.out, fun g o e _ q => ?_⟩ HK5.out HS5'.out
    have h1 := HGE1.out g o e
    have h2 := H.out.lt g q
    have h3 := HKB.out.size
    have h4 := HK2.out.size
    omega
set_option maxRecDepth 100000 in
set_option maxHeartbeats 1600000 in
theorem do_change (h : Dq S w w db p) (C : Int) (A : Option Addr) (nb cb : Nat) (bs : List Int) (hb : Bs w A nb bs) (hnb : nb ≤ 9223372036854775807) (hm : p.sm 200000000) :
    Calls Try.prog 37 #[ptrV db, .agg #[.bool false, .int .i64 C, .slice A nb cb]] w (DoPost S w db p false bs) := by
  have hkb : Kp NoB w (w.alloc (.cells #[.bool false, .int .i64 C, .slice A nb cb] 81)) := (Kp.refl _ _).alloc _
  have hbd : Blk (w.alloc (.cells #[.bool false, .int .i64 C, .slice A nb cb] 81)) w.heap.size 81 #[.bool false, .int .i64 C, .slice A nb cb] := Blk.new _ _ _
  have H := Lib.hid h
  have HB := Lib.hid hb
  have HNB := Lib.hid hnb
  have HM := Lib.hid hm
  have HPST : Hid (∀ q E NOW v S' w', DoR p false bs q E NOW → Dq S' w' w' db q → Kp S w w' → (∀ b, S' b → S b ∨ w.heap.size ≤ b) → RwS S' w' v NOW → DoPost S w db p false bs (.returned (.tuple #[v, .int .i64 E])) w') := Lib.hid (fun q E NOW v S' w' a b c d e => ⟨q, E, NOW, v, S', a, rfl, b, c, d, e⟩)
  obtain ⟨PP, hPP⟩ : ∃ PP, DoPost S w db p false bs = PP := ⟨_, rfl⟩
  rw [hPP] at HPST ⊢
  clear hPP h hb hnb hm
  obtain ⟨w1, hw1⟩ : ∃ w1, w.alloc (.cells #[.bool false, .int .i64 C, .slice A nb cb] 81) = w1 := ⟨_, rfl⟩
  rw [hw1] at hkb hbd
  have HKB := Lib.hid hkb
  have HBD := Lib.hid hbd
  have c00 : w1.cell? ⟨w.heap.size, 0, none⟩ = some (.bool false) := hbd.cell 0
  have HC1 : Hid (w1.cell? ⟨w.heap.size, 1, none⟩ = some (.int .i64 C)) := Lib.hid (hbd.cell 1)
  clear hkb hbd
  unfold ptrV
  go_enter Try.func37, Try.ntmps37
  go_wp2_with fail
  refine (show Calls _ _ #[ptrV db] _ _ from wmark_q (H.out.keep HKB.out)).mono ?_
  rintro e w2 ⟨rfl, hk2⟩
  have HK2 := Lib.hid hk2
  clear hk2 c00
  dsimp only
  go_wp2_with fail
  refine (show Calls _ _ #[ptrV db, .int .i64 p.wmark.1] _ _ from wtell_q ((H.out.keep HKB.out).keep HK2.out) p.wmark.1).mono ?_
  rintro e w3 ⟨v, rfl, how, hk3⟩
  have hrg := wcnt_rng H.out p.wmark.1
  have htl := tellP_len p p.wmark.1
  obtain ⟨V, hV⟩ : ∃ V, tellP p p.wmark.1 = V := ⟨_, rfl⟩
  rw [hV] at how htl
  obtain ⟨s, hs⟩ : ∃ s, V.length = s := ⟨_, rfl⟩
  obtain ⟨A1, c1, rfl, hraw, hnone, hge1⟩ := raws_own2 how hs
  have hs5 : s ≤ 4096 := by omega
  have HV := Lib.hid hV
  have HROK := Lib.hid how.2
  have HRAW := Lib.hid hraw
  have HGE1 := Lib.hid hge1
  have HS5 := Lib.hid hs5
  have HK3 := Lib.hid hk3
  have HK13 := Lib.hid (HK2.out.trans hk3 (fun _ _ q => q))
  have c0 : w3.cell? ⟨w.heap.size, 0, none⟩ = some (.bool false) := (HK13.out.cell HBD.out.lt (fun q => q)).trans (HBD.out.cell 0)
  have c1' : w3.cell? ⟨w.heap.size, 1, none⟩ = some (.int .i64 C) := (HK13.out.cell HBD.out.lt (fun q => q)).trans HC1.out
  have HNONE := Lib.hid hnone
  have HV0 := Lib.hid (show (tellP p p.wmark.1).length = s by rw [hV]; exact hs)
  have f2 : w3.cell? ⟨w.heap.size, 2, none⟩ = some (.slice A nb cb) := (HK13.out.cell HBD.out.lt (fun q => q)).trans (HBD.out.cell 2)
  have hk03 := HKB.out.trans HK13.out (fun _ _ q => q)
  have HK03 := Lib.hid hk03
  clear how hraw hnone hge1 hk3 hrg htl hV hs hs5 hk03
  go_wp2_with fail
  refine (wpages_q w3 false C A nb cb bs (HB.out.keep HK03.out) HNB.out s (by have := HS5.out; omega)).mono ?_
  rintro e w4 ⟨N, v, hN, rfl, hown, hk4⟩
  obtain ⟨mm, hm⟩ : ∃ mm, (chPgs bs s N).length = mm := ⟨_, rfl⟩
  have hmN : mm ≤ N := by rw [← hm]; exact chPgs_len bs s N
  obtain ⟨A2, c2, rfl, hpg, hge2⟩ := pgs_own2 hown hm
  have HN := Lib.hid hN
  have HMM := Lib.hid hm
  have HMN := Lib.hid hmN
  have HPG := Lib.hid hpg
  have HGE2 := Lib.hid hge2
  have HK4 := Lib.hid hk4
  have HOKL := Lib.hid (chPgs_ok HB.out.2.1 (old := s) hN)
  clear hN hm hmN hpg hge2 hk4 hown c0 c1' f2
  go_wp2_with fail
  have hk04 := HK03.out.trans HK4.out (fun _ _ q => q)
  have HK04 := Lib.hid hk04
  have hlt := H.out.lt
  have hap : Apart S A2 mm := fun g o e _ q => by
    have h1 := HGE2.out g o e
    have h2 := hlt g q
    have h3 := HK03.out.size
    omega
  refine (show Calls _ _ #[ptrV db, .int .i64 (N : Int), .slice A2 mm c2] _ _ from wcommit_q (H.out.base1 hk04) (N : Int) (by have := HN.out; omega) A2 mm c2 _ HPG.out hap HOKL.out (by have := HMN.out; have := HN.out; omega) (sm_mono HM.out (by omega))).mono ?_
  rintro e w5 ⟨rfl, h5⟩
  have hk5 := h5.kp
  have hpg5 : PgsAt w5 A2 mm (chPgs bs s N) := RowsC.keepS HPG.out hk5 hap
  have hra5 : RawsAt w5 A1 s V := (HRAW.out.keep HK4.out).keepS hk5 (fun g o e _ q => by
    have h1 := HGE1.out g o e
    have h2 := hlt g q
    have h3 := HKB.out.size
    have h4 := HK2.out.size
    omega)
  obtain ⟨S5, hq5, hS5⟩ := h5.base
  have hlt5 := hq5.lt
  have HQ5 := Lib.hid hq5
  have HK5 := Lib.hid hk5
  have HS5' := Lib.hid hS5
  have HPG5 := Lib.hid hpg5
  have HRA5 := Lib.hid hra5
  have HLT5 := Lib.hid hlt5
  clear hk04 h5 hk5 hpg5 hra5 hq5 hS5 hlt5 hlt hap
  dsimp only
  go_wp2_with fail
  refine (wafter_q w5 A1 A2 s mm c1 c2 V (chPgs bs s N) N HRA5.out HNONE.out HROK.out HPG5.out (fun x hx => ⟨HOKL.out x hx, chPgs_n hx⟩) (by have := HS5.out; omega) (by have := HMN.out; have := HN.out; omega) (by have := HN.out; omega)).mono ?_
  rintro e w6 ⟨v, rfl, how6, hk6⟩
  obtain ⟨A3, c3, rfl, hraw6, -, hge6⟩ := raws_own2 how6 (s := N) (by unfold afterL; rw [fold_len, padPg_len])
  have HROK6 := Lib.hid how6.2
  have HRAW6 := Lib.hid hraw6
  have HGE6 := Lib.hid hge6
  have HK6 := Lib.hid hk6
  clear how6 hraw6 hge6 hk6
  go_wp2_with fail
  refine HPST.out (p.wcommit (N : Int) (chPgs bs s N)).1 _ (afterL V N (chPgs bs s N)) _ S5 _ (.inl ⟨rfl, N, HN.out, ?_, ?_, ?_⟩) (HQ5.out.base1 HK6.out) (((HK04.out.mono (fun _ _ q => q.elim)).trans HK5.out (fun b _ q => q)).trans (HK6.out.mono (fun _ _ q => q.elim)) (fun b _ q => q)) (fun b q => by
    rcases HS5'.out b q with z | z
    · exact .inl z
    · have := HK04.out.size; exact .inr (by omega)) ?_
  · rw [HV0.out]
  · rw [HV0.out]
  · rw [HV0.out, HV.out]
  · exact ⟨A3, N, c3, rfl, HRAW6.out, HROK6.out, by have := HN.out; omega, fun g o e _ q => by
      have h1 := HGE6.out g o e
      have h2 := HLT5.out g q
      omega⟩
theorem do_q (h : Dq S w w db p) (hm : Bool) (C : Int) (A : Option Addr) (nb cb : Nat) (bs : List Int) (hb : Bs w A nb bs) (hnb : nb ≤ 9223372036854775807) (ho : p.wopen.1 = 0) (hs : p.sm 200000000) :
    Calls Try.prog 37 #[ptrV db, .agg #[.bool hm, .int .i64 C, .slice A nb cb]] w (DoPost S w db p hm bs) := by
  cases hm with
  | true => exact do_home h C A nb cb bs ho hs
  | false => exact do_change h C A nb cb bs hb hnb hs
end
end Go.Proofs.Ytegcbdfilkecpaa
/- The log in plain Lean: what a change makes of a disk that may fall, as the statements ask it. -/
namespace Go.Proofs.Ytegcbdfilkecpaa
open Go
set_option maxRecDepth 100000

/-- a disk with these pages at its last mark, behind so many changes -/
def AtV (p : Pl) (V : List (List Int)) (k : Nat) : Prop := ∃ fs o, AtW p fs o ∧ fs.length ≤ 15 * k ∧ viewW fs o = V
theorem atv_facts {p : Pl} {V : List (List Int)} {k : Nat} (h : AtV p V k) : p.down = false ∧ p.wopen.1 = 0 ∧ p.wmark.2 = 0 ∧ tellP p p.wmark.1 = V ∧ V.length ≤ 15 := by
  obtain ⟨fs, o, ha, _, rfl⟩ := h
  obtain ⟨h1, h2⟩ := tell_last ha
  refine ⟨ha.pre.lv.up, by rw [(open_at ha).1], by rw [h1], by rw [h1]; exact h2, by rw [viewW_len]; exact cL_le ha.gd.ok⟩
theorem crw_in {A : List Int → List Int → Prop} {p : Pl} (h : CrW A p) (c : Int) : CrW A (p.crashIn c) := ⟨fell_inw h.1 c, h.2⟩
theorem crw_atv {fs fs' : List Fr} {o o' : List Int} {k : Nat} {p : Pl} (h : CrW (fun D J => Gd fs o D J ∨ Gd fs' o' D J) p) (h1 : fs.length ≤ 15 * k) (h2 : fs'.length ≤ 15 * k) (c : Int) (chs : List Int) :
    AtV ((p.crashIn c).restart chs) (viewW fs o) k ∨ AtV ((p.crashIn c).restart chs) (viewW fs' o') k := by
  obtain ⟨hp, _, hg, hk, hpd⟩ := crw_again (crw_in h c) chs
  rcases hg with q | q
  · exact .inl ⟨fs, o, atw_of hp hk hpd q, h1, rfl⟩
  · exact .inr ⟨fs', o', atw_of hp hk hpd q, h2, rfl⟩
theorem sm_wcommit {p : Pl} {k c : Nat} {l : List Pg} (hl : l.length ≤ 2000) (h : p.sm (k + 400000000)) : (p.wcommit (c : Int) l).1.sm k := by
  unfold Pl.wcommit
  dsimp only
  split
  · exact sm_mono h (by omega)
  · split
    · exact sm_mono h (by omega)
    · have h1 : (p.runS (p.wcommitS p.wopen.2 (newFr (c : Int) l))).1.sm k := by
        refine sm_run _ (sm_mono h ?_)
        have hn := newFr_len9 (c : Int) l
        have hw : ∀ (l : List Fr) (k : Nat), (frW k l).length = l.length := fun l => by
          induction l with
          | nil => intro k; rfl
          | cons f r ih => intro k; show (frW (k + 1) r).length + 1 = _; rw [ih]; rfl
        unfold Pl.wcommitS headS
        simp only [List.length_append, List.length_cons, List.length_nil, hw]
        omega
      split
      · exact h1
      · exact h1
theorem sm_wcheck {p : Pl} {k m : Nat} (hl : (p.whome p.wopen.2 (m : Int)).length ≤ 2000) (h : p.sm (k + 400000000)) : (p.wcheck (m : Int)).1.sm k := by
  unfold Pl.wcheck
  split
  · exact sm_mono h (by omega)
  · split
    · exact sm_mono h (by omega)
    · split
      · exact sm_mono h (by omega)
      · refine sm_run _ (sm_mono h ?_)
        unfold Pl.wcheckS headS homeS homeW
        simp only [List.length_append, List.length_cons, List.length_nil, List.length_map]
        split <;> simp only [List.length_cons, List.length_nil] <;> omega
theorem whome_len9 {p : Pl} {fs : List Fr} {o : List Int} (h : AtW p fs o) (m : Nat) (hm : isMark fs (m : Int) = true) : (p.whome fs (m : Int)).length ≤ 15 := by
  have hw : wcount p fs (m : Int) ≤ 15 := by
    by_cases h0 : m = 0
    · subst h0
      show (p.jcount : Int) ≤ 15
      have h1 := h.pre.lv.len nmDb
      unfold capOfw at h1
      rw [if_pos rfl] at h1
      unfold Pl.jcount Pl.len
      rw [h.pre.lv.up]
      simp only [Bool.false_eq_true, if_false]
      omega
    · obtain ⟨f, hf, _, _⟩ := mark_frame (by omega) hm
      rw [count_mark (by omega) hf]
      have := (h.gd.ok.ok f (List.mem_of_getElem? hf)).e0
      omega
  unfold Pl.whome
  rw [List.length_map]
  refine Nat.le_trans (List.length_filter_le _ _) ?_
  rw [List.length_range']
  omega
/-- what a change makes -/
theorem do_law {p q : Pl} {V NOW : List (List Int)} {k a : Nat} {hm : Bool} {bs : List Int} {E : Int} (h : AtV p V k) (hk : k ≤ 11) (hb : ∀ y ∈ bs, (0 : Int) ≤ y ∧ y < 256) (hsm : p.sm (a + 400000000)) (hr : DoR p hm bs q E NOW) :
    q.sm a ∧ ((E = 0 ∧ AtV q NOW (k + 1)) ∨ (E = 7 ∧ q.down = true ∧ ∀ c chs, AtV ((q.crashIn c).restart chs) V (k + 1) ∨ AtV ((q.crashIn c).restart chs) NOW (k + 1))) := by
  obtain ⟨_, _, _, htell, hVl⟩ := atv_facts h
  obtain ⟨fs, o, ha, hl, hv⟩ := h
  rcases hr with ⟨_, N, hN, e1, e2, e3⟩ | ⟨_, m, hm1, e1, e2, e3⟩
  · rw [htell] at e1 e2 e3
    have hlen : V.length = cL fs o := by rw [← hv, viewW_len]
    rw [hlen] at e1 e2 e3
    have hcl := chPgs_len bs (cL fs o) N
    refine ⟨by rw [e1]; exact sm_wcommit (by omega) hsm, ?_⟩
    have hvn := view_new fs o bs N
    rw [hv] at hvn
    have hnl : (fs ++ newFr (N : Int) (chPgs bs (cL fs o) N)).length ≤ 15 * (k + 1) := by
      rw [List.length_append, newFr_len9]
      omega
    rcases at_wcommit ha (by omega) N hN bs hb with ⟨x0, x1⟩ | ⟨x0, x1⟩
    · exact .inl ⟨e2.trans x0, _, _, by rw [e1]; exact x1, hnl, by rw [e3, hvn]⟩
    · refine .inr ⟨e2.trans x0, by rw [e1]; exact x1.1.down, fun c chs => ?_⟩
      rw [e1, e3, ← hvn, ← hv]
      exact crw_atv x1 (by omega) hnl c chs
  · rw [htell] at e3
    have hop := (open_at ha).1
    rw [hop] at hm1
    refine ⟨by rw [e1]; exact sm_wcheck (by rw [hop]; have := whome_len9 ha m hm1; show (p.whome fs (m : Int)).length ≤ 2000; omega) hsm, ?_⟩
    rcases at_wcheck ha m hm1 with ⟨x0, fs', o', x1, x2, x3, _⟩ | ⟨x0, fs', o', x1, x2, x3⟩
    · exact .inl ⟨e2.trans x0, fs', o', by rw [e1]; exact x1, by omega, by rw [x2, hv, e3]⟩
    · refine .inr ⟨e2.trans x0, by rw [e1]; exact x1.1.down, fun c chs => ?_⟩
      have := crw_atv x1 (k := k + 1) (by omega) (by omega) c chs
      rw [x2, hv] at this
      rw [e1, e3]
      exact this
theorem zero_pre : Prew (Pl.new 200000) := by
  have h0 : ∀ s, ((Pl.new 200000).seen s).length ≤ capOfw s := fun s => Nat.zero_le _
  refine ⟨⟨rfl, Int.le_refl 0, by decide, rfl, rfl, h0, h0⟩, (by intro c hc; cases hc), ⟨Nat.zero_le _, (by intro c hc; cases hc)⟩, ⟨Nat.zero_le _, (by intro c hc; cases hc)⟩⟩
theorem atw_new : AtW (Pl.new 200000) [] [] :=
  atw_of zero_pre rfl rfl ⟨⟨.inl ⟨rfl, rfl⟩, rfl⟩, fsok_flat (c := 0) rfl (by omega), Fix.refl _ _, fun _ => rfl⟩
end Go.Proofs.Ytegcbdfilkecpaa
