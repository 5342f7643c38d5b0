/- Texts of this proof, one behind the other: lemmas and contracts; each says its own conditions. -/
import Derived.Test.YtoeldmkbmnkhkaaGreatP2
import Derived.Test.YtoeldmkbmnkhkaaGreatP4
import Derived.Test.YtoeldmkbmnkhkaaGreatP5
import Derived.Test.YtoeldmkbmnkhkaaGreatP6
import Derived.Test.YtoeldmkbmnkhkaaGreatP7
import Derived.BigQuiet
/- The log: a frame read off a text; condition: a text of at most the model's length. -/
namespace Go.Proofs.YtoeldmkbmnkhkaaGreat
open Go.RowKit

def IntoG (F : Nat → Act) (G : World → Nat → Prop) : Exit → Act → World → Prop
  | .normal, a, w => ∃ g, a = F g ∧ G w g
  | _, _, _ => False
theorem wp_intoG {P : Program} {c : Code} {Q : Exit → Act → World → Prop} {a : Act} {w : World} (F : Nat → Act) (G : World → Nat → Prop) (h : c.wp P (IntoG F G) a w) (k : ∀ g w', G w' g → Q .normal (F g) w') : c.wp P Q a w :=
  Code.wp_mono (fun e a w q => by cases e <;> first | exact q.elim | (obtain ⟨g, rfl, hg⟩ := q; exact k g _ hg)) h
theorem intoG_of {F : Nat → Act} {G : World → Nat → Prop} {a : Act} {w : World} (g : Nat) (q : G w g) (e : a = F g) : IntoG F G .normal a w := ⟨g, e, q⟩
def frV (n en : Int) (s : ByteArray) : Array Value := (.int .i64 n :: ((zeros 256).map (Value.int .u8) ++ [.int .i64 en, .string s])).toArray
theorem frV_size (n en : Int) (s : ByteArray) : (frV n en s).size = 259 := by
  unfold frV
  rw [List.size_toArray, List.length_cons, List.length_append, List.length_map]
  unfold zeros
  rw [List.length_replicate]
  rfl
theorem frV_ones (n en : Int) (s : ByteArray) : ones (frV n en s) := by
  refine ones_of (fun u hu => ?_)
  rcases List.mem_cons.1 hu with rfl | hu
  · rfl
  · rcases List.mem_append.1 hu with hu | hu
    · exact u8_one _ u hu
    · simp only [List.mem_cons, List.not_mem_nil, or_false] at hu
      rcases hu with rfl | rfl <;> rfl
theorem zeros256 : (zeros 256).length = 256 := List.length_replicate ..
theorem fr0_size : fr0.size = 259 := frV_size 0 0 ⟨#[]⟩
theorem fr0_ones : ones fr0 := frV_ones 0 0 ⟨#[]⟩
/-- what parse makes of a text -/
def ParsePost (b : List Int) (w : World) (e : Ending) (w' : World) : Prop := ∃ cs, e = .returned (.tuple #[.agg cs, .bool (frP b).isSome]) ∧ cs.size = 259 ∧ ones cs ∧ (∀ f, frP b = some f → cs = (frL f).toArray) ∧ Kp NoB w w'
attribute [local go_sem ↓] loadFr storeFr allocFr buildFr0
set_option maxRecDepth 100000 in
set_option maxHeartbeats 1600000 in
theorem parse_q (w : World) (b : List Int) (hb : ∀ y ∈ b, 0 ≤ y ∧ y < 256) (hl : b.length ≤ 1048576) : Calls Tryz.prog 152 #[.string (strOf b)] w (ParsePost b w) := by
  have hsz := strOf_size b
  have HB := Lib.hid hb
  have HF0 := Lib.hid fr0_size
  have hone := fr0_ones
  clear hb
  by_cases hs : b.length < 320
  · have hs1 : ((strOf b).size : Int) < 320 := by omega
    have HP : Hid (frP b = none) := Lib.hid (by unfold frP; rw [if_pos hs])
    obtain ⟨s, he⟩ : ∃ s, strOf b = s := ⟨_, rfl⟩
    rw [he] at hs1 ⊢
    clear hsz hs he
    go_enter Tryz.func152, Tryz.ntmps152
    go_upto_region 1 with fail
    have hb2 : Blk (w.alloc (.cells fr0 236)) w.heap.size 236 fr0 := Blk.new _ _ _
    have hk2 : Kp NoB w (w.alloc (.cells fr0 236)) := (Kp.refl NoB w).alloc _
    have ht2 := hb2.thereAll 259 HF0.out
    have hgs : w.heap.size ≤ w.heap.size := Nat.le_refl _
    generalize w.alloc (.cells fr0 236) = w1 at hb2 hk2 ht2 ⊢
    have hsz0 := HF0.out
    go_wp2_with fail
    refine bodyPost_ret (ret_cell_tmp rfl _ _ _ _ _ _ rfl (hb2.whole fr0 rfl) Tryz.underlying236 rfl (by rw [fr0_size]; exact infoFrS) _ rfl) rfl ⟨fr0, by rw [HP.out]; rfl, HF0.out, fr0_ones, (fun f q => by rw [HP.out] at q; cases q), Kp.setCells (.inl hgs) _ _ _ hk2⟩
  · have hs1 : ¬ ((strOf b).size : Int) < 320 := by omega
    obtain ⟨s, he⟩ : ∃ s, strOf b = s := ⟨_, rfl⟩
    rw [he] at hs1 hsz ⊢
    have HS := Lib.hid he
    have HLE : Hid (320 ≤ b.length) := Lib.hid (by omega)
    have h4 : s.extract 4 s.size = strOf (b.drop 4) := by rw [← he, strOf_sub, strOf_size, List.take_of_length_le (by rw [List.length_drop]; omega)]
    have h8 : s.extract 8 64 = strOf ((b.drop 8).take 56) := by rw [← he]; exact strOf_sub b 8 64
    have h64 : s.extract 64 320 = strOf ((b.drop 64).take 256) := by rw [← he]; exact strOf_sub b 64 320
    obtain ⟨s4, e4⟩ : ∃ s4, s.extract 4 s.size = s4 := ⟨_, rfl⟩
    obtain ⟨s8, e8⟩ : ∃ s8, s.extract 8 64 = s8 := ⟨_, rfl⟩
    obtain ⟨sT, eT⟩ : ∃ sT, s.extract 64 320 = sT := ⟨_, rfl⟩
    have HS4 : Hid (strOf (b.drop 4) = s4) := Lib.hid (by rw [← h4, e4])
    have HS8 : Hid (strOf ((b.drop 8).take 56) = s8) := Lib.hid (by rw [← h8, e8])
    have HST : Hid (strOf ((b.drop 64).take 256) = sT) := Lib.hid (by rw [← h64, eT])
    have HX4 := Lib.hid e4
    have HX8 := Lib.hid e8
    have HX64 := Lib.hid eT
    obtain ⟨N, hN⟩ : ∃ N, num b 0 = N := ⟨_, rfl⟩
    obtain ⟨E, hE⟩ : ∃ E, num b 4 = E := ⟨_, rfl⟩
    have HN := Lib.hid hN
    have HE : Hid (num (b.drop 4) 0 = E) := Lib.hid (by rw [← hE]; unfold num; simp only [List.getD_eq_getElem?_getD, List.getElem?_drop])
    have HNE := Lib.hid hE
    have hge : 320 ≤ s.size := by omega
    have hi4 : (4 : Int) ≤ (s.size : Int) := by omega
    have hi64 : (64 : Int) ≤ (s.size : Int) := by omega
    have hi320 : (320 : Int) ≤ (s.size : Int) := by omega
    clear hs he h4 h8 h64 hN hE hsz
    go_enter Tryz.func152, Tryz.ntmps152
    go_upto_region 1 with fail
    have hb2 : Blk (w.alloc (.cells fr0 236)) w.heap.size 236 fr0 := Blk.new _ _ _
    have hk2 : Kp NoB w (w.alloc (.cells fr0 236)) := (Kp.refl NoB w).alloc _
    generalize w.alloc (.cells fr0 236) = w1 at hb2 hk2 ⊢
    obtain ⟨g2, hg2⟩ : ∃ g2, w.heap.size = g2 := ⟨_, rfl⟩
    rw [hg2] at hb2 ⊢
    have HG2 := Lib.hid hg2
    have HB2 := Lib.hid hb2
    have HK2 := Lib.hid hk2
    clear hg2 hb2 hk2
    go_upto_region 3 with fail
    apply wp_intoG (G := fun W g4 => Blk W g4 236 (frV N E sT) ∧ Kp NoB w1 W)
    · refine wp_region_held_drew (S := fun V => Kp NoB w1 V) (by kernel_rfl) (Kp.refl NoB w1).drew (fun hHeld => ?_)
      have k0 : Kp NoB w1 w1.drew := (Kp.refl NoB w1).drew
      generalize w1.drew = V0 at k0 hHeld ⊢
      refine tkS (i := 0) (v := (.string s)) rfl (Or.inl ⟨by rfl, fun w' hq => by go_simp⟩) k0 ?_
      simp only [Act.put, skA, skB, skC]
      refine tkS (i := 3) (v := (.string s)) rfl (Or.inl ⟨by rfl, fun w' hq => by go_simp⟩) k0 ?_
      simp only [Act.put, skA, skB, skC]
      refine tkS (i := 4) (v := (.string s4)) rfl (Or.inl ⟨by rfl, fun w' hq => by have ee := e4; go_simp⟩) k0 ?_
      simp only [Act.put, skA, skB, skC]
      refine tkS (i := 6) (v := (.string s)) rfl (Or.inl ⟨by rfl, fun w' hq => by go_simp⟩) k0 ?_
      simp only [Act.put, skA, skB, skC]
      refine tkS (i := 7) (v := (.string sT)) rfl (Or.inl ⟨by rfl, fun w' hq => by have ee := eT; go_simp⟩) k0 ?_
      simp only [Act.put, skA, skB, skC]
      refine wpAnyH_ready (rs := [1, 9]) (by kernel_rfl) (by simp) ?_
      refine AllReadyH.callR (fun y W' => y = .int .i64 N ∧ Kp NoB V0 W') rfl (by rfl) 178 #[.string s] (by first | (go_simp; done) | (go_simp; rfl)) (fun _ _ q => k0.trans q.2 (fun _ _ z => z)) ((show Calls _ _ #[.string s] _ _ by rw [← HS.out]; exact number_q V0 b HB.out (by have := HLE.out; omega)).mono (by rintro e w19 ⟨rfl, hk⟩; exact ⟨_, rfl, by rw [HN.out], hk⟩)) ?_ ?_
      · rintro y V1 ⟨rfl, kk1⟩
        have k1 := k0.trans kk1 (fun _ _ z => z)
        simp only [Act.put, skA, skB, skC]
        refine tkS (i := 2) (v := .agg (pgA ⟨N, zeros 256⟩)) rfl (Or.inl ⟨by rfl, fun w' hq => exBuildPg1 w' _ _ N _ _ _ _ _ rfl⟩) k1 ?_
        simp only [Act.put, skA, skB, skC]
        refine wpAnyH_ready (rs := [5, 9]) (by kernel_rfl) (by simp) ?_
        refine AllReadyH.callR (fun y W' => y = .int .i64 E ∧ Kp NoB V1 W') rfl (by rfl) 178 #[.string s4] (by first | (go_simp; done) | (go_simp; rfl)) (fun _ _ q => k1.trans q.2 (fun _ _ z => z)) ((show Calls _ _ #[.string s4] _ _ by rw [← HS4.out]; exact number_q V1 (b.drop 4) (fun y hy => HB.out y (List.mem_of_mem_drop hy)) (by rw [List.length_drop]; have := HLE.out; omega)).mono (by rintro e w19 ⟨rfl, hk⟩; exact ⟨_, rfl, by rw [HE.out], hk⟩)) ?_ ?_
        · rintro y V2 ⟨rfl, kk2⟩
          have k2 := k1.trans kk2 (fun _ _ z => z)
          simp only [Act.put, skA, skB, skC]
          refine tkS (i := 8) (v := .agg (frV N E sT)) rfl (Or.inl ⟨by rfl, fun w' hq => exBuildFr3 w' _ _ _ _ N E (zeros 256) sT zeros256 _ _ _ _ _ rfl rfl rfl⟩) k2 ?_
          simp only [Act.put, skA, skB, skC]
          refine wpAnyH_ready (rs := [9]) (by kernel_rfl) (by simp) ?_
          refine AllReadyH.valR (fun W' => W' = V2.alloc (.cells fr0 236)) rfl (by rfl) _ _ (allocFr V2 _ _ _ _ _ _) (fun W' e => by rw [e]; exact k2.alloc _) rfl ?_ AllReadyH.nil
          rintro _ rfl
          have hb4 : Blk (V2.alloc (.cells fr0 236)) V2.heap.size 236 fr0 := Blk.new _ _ _
          have k3 : Kp NoB w1 (V2.alloc (.cells fr0 236)) := k2.alloc _
          have hg4 : w1.heap.size ≤ V2.heap.size := k2.size
          generalize V2.alloc (.cells fr0 236) = V3 at hb4 k3 ⊢
          generalize V2.heap.size = g4 at hb4 hg4 ⊢
          simp only [Act.put, skA, skB, skC]
          refine wpAnyH_ready (rs := [10]) (by kernel_rfl) (by simp) ?_
          have hbe := hb4.whole (frV N E sT) (by rw [frV_size, fr0_size])
          have hkc : Kp NoB w1 (V3.setCells g4 0 (frV N E sT).toList) := Kp.setCells (S := NoB) (.inl hg4) _ _ _ k3
          refine AllReadyH.storeL rfl (by rfl) g4 0 (frV N E sT) rfl rfl (hb4.thereAll _ (by rw [frV_size, fr0_size])) (by rw [frV_size]; exact infoFrS) (frV_ones _ _ _) hkc ?_ AllReadyH.nil
          generalize V3.setCells g4 0 (frV N E sT).toList = W9 at hbe hkc ⊢
          refine wpAnyH_done (by kernel_rfl) ?_ _
          exact intoG_of g4 ⟨hbe, hkc⟩ rfl
        · refine AllReadyH.valR (fun W' => W' = V1.alloc (.cells fr0 236)) rfl (by rfl) _ _ (allocFr V1 _ _ _ _ _ _) (fun W' e => by rw [e]; exact k1.alloc _) rfl ?_ AllReadyH.nil
          rintro _ rfl
          have hb4 : Blk (V1.alloc (.cells fr0 236)) V1.heap.size 236 fr0 := Blk.new _ _ _
          have k2 : Kp NoB w1 (V1.alloc (.cells fr0 236)) := k1.alloc _
          have hg4 : w1.heap.size ≤ V1.heap.size := k1.size
          generalize V1.alloc (.cells fr0 236) = V2 at hb4 k2 ⊢
          generalize V1.heap.size = g4 at hb4 hg4 ⊢
          simp only [Act.put, skA, skB, skC]
          refine wpAnyH_ready (rs := [5]) (by kernel_rfl) (by simp) ?_
          refine AllReadyH.callR (fun y W' => y = .int .i64 E ∧ Kp NoB V2 W') rfl (by rfl) 178 #[.string s4] (by first | (go_simp; done) | (go_simp; rfl)) (fun _ _ q => k2.trans q.2 (fun _ _ z => z)) ((show Calls _ _ #[.string s4] _ _ by rw [← HS4.out]; exact number_q V2 (b.drop 4) (fun y hy => HB.out y (List.mem_of_mem_drop hy)) (by rw [List.length_drop]; have := HLE.out; omega)).mono (by rintro e w19 ⟨rfl, hk⟩; exact ⟨_, rfl, by rw [HE.out], hk⟩)) ?_ AllReadyH.nil
          rintro y V3 ⟨rfl, kk3⟩
          have k3 := k2.trans kk3 (fun _ _ z => z)
          have hb4 := hb4.keep kk3 (fun q => q)
          simp only [Act.put, skA, skB, skC]
          refine tkS (i := 8) (v := .agg (frV N E sT)) rfl (Or.inl ⟨by rfl, fun w' hq => exBuildFr3 w' _ _ _ _ N E (zeros 256) sT zeros256 _ _ _ _ _ rfl rfl rfl⟩) k3 ?_
          simp only [Act.put, skA, skB, skC]
          refine wpAnyH_ready (rs := [10]) (by kernel_rfl) (by simp) ?_
          have hbe := hb4.whole (frV N E sT) (by rw [frV_size, fr0_size])
          have hkc : Kp NoB w1 (V3.setCells g4 0 (frV N E sT).toList) := Kp.setCells (S := NoB) (.inl hg4) _ _ _ k3
          refine AllReadyH.storeL rfl (by rfl) g4 0 (frV N E sT) rfl rfl (hb4.thereAll _ (by rw [frV_size, fr0_size])) (by rw [frV_size]; exact infoFrS) (frV_ones _ _ _) hkc ?_ AllReadyH.nil
          generalize V3.setCells g4 0 (frV N E sT).toList = W9 at hbe hkc ⊢
          refine wpAnyH_done (by kernel_rfl) ?_ _
          exact intoG_of g4 ⟨hbe, hkc⟩ rfl
      · refine AllReadyH.valR (fun W' => W' = V0.alloc (.cells fr0 236)) rfl (by rfl) _ _ (allocFr V0 _ _ _ _ _ _) (fun W' e => by rw [e]; exact k0.alloc _) rfl ?_ AllReadyH.nil
        rintro _ rfl
        have hb4 : Blk (V0.alloc (.cells fr0 236)) V0.heap.size 236 fr0 := Blk.new _ _ _
        have k1 : Kp NoB w1 (V0.alloc (.cells fr0 236)) := k0.alloc _
        have hg4 : w1.heap.size ≤ V0.heap.size := k0.size
        generalize V0.alloc (.cells fr0 236) = V1 at hb4 k1 ⊢
        generalize V0.heap.size = g4 at hb4 hg4 ⊢
        simp only [Act.put, skA, skB, skC]
        refine wpAnyH_ready (rs := [1]) (by kernel_rfl) (by simp) ?_
        refine AllReadyH.callR (fun y W' => y = .int .i64 N ∧ Kp NoB V1 W') rfl (by rfl) 178 #[.string s] (by first | (go_simp; done) | (go_simp; rfl)) (fun _ _ q => k1.trans q.2 (fun _ _ z => z)) ((show Calls _ _ #[.string s] _ _ by rw [← HS.out]; exact number_q V1 b HB.out (by have := HLE.out; omega)).mono (by rintro e w19 ⟨rfl, hk⟩; exact ⟨_, rfl, by rw [HN.out], hk⟩)) ?_ AllReadyH.nil
        rintro y V2 ⟨rfl, kk2⟩
        have k2 := k1.trans kk2 (fun _ _ z => z)
        have hb4 := hb4.keep kk2 (fun q => q)
        simp only [Act.put, skA, skB, skC]
        refine tkS (i := 2) (v := .agg (pgA ⟨N, zeros 256⟩)) rfl (Or.inl ⟨by rfl, fun w' hq => exBuildPg1 w' _ _ N _ _ _ _ _ rfl⟩) k2 ?_
        simp only [Act.put, skA, skB, skC]
        refine wpAnyH_ready (rs := [5]) (by kernel_rfl) (by simp) ?_
        refine AllReadyH.callR (fun y W' => y = .int .i64 E ∧ Kp NoB V2 W') rfl (by rfl) 178 #[.string s4] (by first | (go_simp; done) | (go_simp; rfl)) (fun _ _ q => k2.trans q.2 (fun _ _ z => z)) ((show Calls _ _ #[.string s4] _ _ by rw [← HS4.out]; exact number_q V2 (b.drop 4) (fun y hy => HB.out y (List.mem_of_mem_drop hy)) (by rw [List.length_drop]; have := HLE.out; omega)).mono (by rintro e w19 ⟨rfl, hk⟩; exact ⟨_, rfl, by rw [HE.out], hk⟩)) ?_ AllReadyH.nil
        rintro y V3 ⟨rfl, kk3⟩
        have k3 := k2.trans kk3 (fun _ _ z => z)
        have hb4 := hb4.keep kk3 (fun q => q)
        simp only [Act.put, skA, skB, skC]
        refine tkS (i := 8) (v := .agg (frV N E sT)) rfl (Or.inl ⟨by rfl, fun w' hq => exBuildFr3 w' _ _ _ _ N E (zeros 256) sT zeros256 _ _ _ _ _ rfl rfl rfl⟩) k3 ?_
        simp only [Act.put, skA, skB, skC]
        refine wpAnyH_ready (rs := [10]) (by kernel_rfl) (by simp) ?_
        have hbe := hb4.whole (frV N E sT) (by rw [frV_size, fr0_size])
        have hkc : Kp NoB w1 (V3.setCells g4 0 (frV N E sT).toList) := Kp.setCells (S := NoB) (.inl hg4) _ _ _ k3
        refine AllReadyH.storeL rfl (by rfl) g4 0 (frV N E sT) rfl rfl (hb4.thereAll _ (by rw [frV_size, fr0_size])) (by rw [frV_size]; exact infoFrS) (frV_ones _ _ _) hkc ?_ AllReadyH.nil
        generalize V3.setCells g4 0 (frV N E sT).toList = W9 at hbe hkc ⊢
        refine wpAnyH_done (by kernel_rfl) ?_ _
        exact intoG_of g4 ⟨hbe, hkc⟩ rfl
    · rintro g4 w2 ⟨hb4, hk4⟩
      have HB4 := Lib.hid hb4
      have HB22 := Lib.hid (HB2.out.keep hk4 (fun q => q))
      have HK4 := Lib.hid (HK2.out.trans hk4 (fun _ _ q => q))
      have c4n : w2.cell? ⟨g4, 0, none⟩ = some (.int .i64 N) := hb4.cell 0
      have c4e : w2.cell? ⟨g4, 257, none⟩ = some (.int .i64 E) := by
        rw [hb4.cell]
        unfold frV
        rw [List.getElem?_toArray, List.getElem?_cons_succ, List.getElem?_append_right (by rw [List.length_map, zeros256]; omega), List.length_map, zeros256]
        rfl
      have ht4 := HB4.out.thereAll 259 (frV_size N E sT)
      have hr4 := HB4.out.readAll 259 (frV_size N E sT)
      have ht2 := HB22.out.thereAll 259 HF0.out
      have hl4 := HB4.out.lt
      have hl2 := HB22.out.lt
      have hfs := frV_size N E sT
      have hfo := frV_ones N E sT
      clear hb4 hk4 HB2 HK2
      have hz56 : strOf (zeros 56) = ⟨#[0, 0, 0, 0, 0, 0, 0, 0, 0, 0, 0, 0, 0, 0, 0, 0, 0, 0, 0, 0, 0, 0, 0, 0, 0, 0, 0, 0, 0, 0, 0, 0, 0, 0, 0, 0, 0, 0, 0, 0, 0, 0, 0, 0, 0, 0, 0, 0, 0, 0, 0, 0, 0, 0, 0, 0]⟩ := by kernel_rfl
      have hbq := str_eqB s8 ⟨#[0, 0, 0, 0, 0, 0, 0, 0, 0, 0, 0, 0, 0, 0, 0, 0, 0, 0, 0, 0, 0, 0, 0, 0, 0, 0, 0, 0, 0, 0, 0, 0, 0, 0, 0, 0, 0, 0, 0, 0, 0, 0, 0, 0, 0, 0, 0, 0, 0, 0, 0, 0, 0, 0, 0, 0]⟩
      rw [show ((⟨#[0, 0, 0, 0, 0, 0, 0, 0, 0, 0, 0, 0, 0, 0, 0, 0, 0, 0, 0, 0, 0, 0, 0, 0, 0, 0, 0, 0, 0, 0, 0, 0, 0, 0, 0, 0, 0, 0, 0, 0, 0, 0, 0, 0, 0, 0, 0, 0, 0, 0, 0, 0, 0, 0, 0, 0]⟩ : ByteArray).toList : List UInt8) = [0, 0, 0, 0, 0, 0, 0, 0, 0, 0, 0, 0, 0, 0, 0, 0, 0, 0, 0, 0, 0, 0, 0, 0, 0, 0, 0, 0, 0, 0, 0, 0, 0, 0, 0, 0, 0, 0, 0, 0, 0, 0, 0, 0, 0, 0, 0, 0, 0, 0, 0, 0, 0, 0, 0, 0] from by rw [ByteArray.toList_eq]] at hbq
      have hiff : s8 = ⟨#[0, 0, 0, 0, 0, 0, 0, 0, 0, 0, 0, 0, 0, 0, 0, 0, 0, 0, 0, 0, 0, 0, 0, 0, 0, 0, 0, 0, 0, 0, 0, 0, 0, 0, 0, 0, 0, 0, 0, 0, 0, 0, 0, 0, 0, 0, 0, 0, 0, 0, 0, 0, 0, 0, 0, 0]⟩ ↔ (b.drop 8).take 56 = zeros 56 := by
        rw [← hz56, ← HS8.out]
        constructor
        · intro q
          have := congrArg strI q
          rw [strI_strOf _ (fun y hy => HB.out y (List.mem_of_mem_drop (List.mem_of_mem_take hy))), strI_strOf _ (zeros_rng 56)] at this
          exact this
        · intro q
          rw [q]
      have hN0 := num_ge HB.out 0
      have hE0 := num_ge HB.out 4
      rw [HN.out] at hN0
      rw [HNE.out] at hE0
      have HFN : Hid (¬ ((b.drop 8).take 56 = zeros 56 ∧ N ≤ 4096 ∧ E ≤ 4097 ∧ (0 < N ∨ 0 < E)) → frP b = none) := Lib.hid (fun q => by unfold frP; rw [if_neg (by have := HLE.out; omega), HN.out, HNE.out, if_neg q])
      have HFS : Hid ((b.drop 8).take 56 = zeros 56 ∧ N ≤ 4096 ∧ E ≤ 4097 ∧ (0 < N ∨ 0 < E) → frP b = some ⟨N, E, (b.drop 64).take 256⟩) := Lib.hid (fun q => by unfold frP; rw [if_neg (by have := HLE.out; omega), HN.out, HNE.out, if_pos q])
      have HCN : Hid (frP b = none → ∀ f, frP b = some f → frV N E sT = (frL f).toArray) := Lib.hid (fun q f h => by rw [q] at h; cases h)
      have HCS : Hid (frP b = some ⟨N, E, (b.drop 64).take 256⟩ → ∀ f, frP b = some f → frV N E sT = (frL f).toArray) := Lib.hid (fun q f h => by
        rw [q] at h
        injection h with h
        rw [← h]
        unfold frV frL
        rw [HST.out])
      clear hz56
      by_cases hz : (b.drop 8).take 56 = zeros 56
      · rw [decide_eq_true (hiff.2 hz)] at hbq
        by_cases hn : N ≤ 4096
        · by_cases hen : E ≤ 4097
          · by_cases hp : 0 < N
            · have HFP := Lib.hid (HFS.out ⟨hz, hn, hen, .inl hp⟩)
              have HFC := Lib.hid (HCS.out HFP.out)
              clear hiff hz
              go_wp2_with fail
              refine bodyPost_ret (ret_cell_tmp rfl _ _ _ _ _ _ rfl (HB22.out.whole (frV N E sT) (by rw [frV_size, HF0.out])) Tryz.underlying236 rfl (by rw [frV_size]; exact infoFrS) _ rfl) rfl ⟨frV N E sT, by rw [HFP.out]; rfl, frV_size N E sT, frV_ones N E sT, HFC.out, Kp.setCells (.inl (by rw [HG2.out]; exact Nat.le_refl _)) _ _ _ HK4.out⟩
            · by_cases hpe : 0 < E
              · have HFP := Lib.hid (HFS.out ⟨hz, hn, hen, .inr hpe⟩)
                have HFC := Lib.hid (HCS.out HFP.out)
                clear hiff hz
                go_wp2_with fail
                refine bodyPost_ret (ret_cell_tmp rfl _ _ _ _ _ _ rfl (HB22.out.whole (frV N E sT) (by rw [frV_size, HF0.out])) Tryz.underlying236 rfl (by rw [frV_size]; exact infoFrS) _ rfl) rfl ⟨frV N E sT, by rw [HFP.out]; rfl, frV_size N E sT, frV_ones N E sT, HFC.out, Kp.setCells (.inl (by rw [HG2.out]; exact Nat.le_refl _)) _ _ _ HK4.out⟩
              · have HFP := Lib.hid (HFN.out (fun q => by omega))
                have HFC := Lib.hid (HCN.out HFP.out)
                clear hiff hz
                go_wp2_with fail
                refine bodyPost_ret (ret_cell_tmp rfl _ _ _ _ _ _ rfl (HB22.out.whole (frV N E sT) (by rw [frV_size, HF0.out])) Tryz.underlying236 rfl (by rw [frV_size]; exact infoFrS) _ rfl) rfl ⟨frV N E sT, by rw [HFP.out]; rfl, frV_size N E sT, frV_ones N E sT, HFC.out, Kp.setCells (.inl (by rw [HG2.out]; exact Nat.le_refl _)) _ _ _ HK4.out⟩
          · have HFP := Lib.hid (HFN.out (fun q => hen q.2.2.1))
            have HFC := Lib.hid (HCN.out HFP.out)
            clear hiff hz
            go_wp2_with fail
            refine bodyPost_ret (ret_cell_tmp rfl _ _ _ _ _ _ rfl (HB22.out.whole (frV N E sT) (by rw [frV_size, HF0.out])) Tryz.underlying236 rfl (by rw [frV_size]; exact infoFrS) _ rfl) rfl ⟨frV N E sT, by rw [HFP.out]; rfl, frV_size N E sT, frV_ones N E sT, HFC.out, Kp.setCells (.inl (by rw [HG2.out]; exact Nat.le_refl _)) _ _ _ HK4.out⟩
        · have HFP := Lib.hid (HFN.out (fun q => hn q.2.1))
          have HFC := Lib.hid (HCN.out HFP.out)
          clear hiff hz
          go_wp2_with fail
          refine bodyPost_ret (ret_cell_tmp rfl _ _ _ _ _ _ rfl (HB22.out.whole (frV N E sT) (by rw [frV_size, HF0.out])) Tryz.underlying236 rfl (by rw [frV_size]; exact infoFrS) _ rfl) rfl ⟨frV N E sT, by rw [HFP.out]; rfl, frV_size N E sT, frV_ones N E sT, HFC.out, Kp.setCells (.inl (by rw [HG2.out]; exact Nat.le_refl _)) _ _ _ HK4.out⟩
      · rw [decide_eq_false (fun q => hz (hiff.1 q))] at hbq
        have HFP := Lib.hid (HFN.out (fun q => hz q.1))
        have HFC := Lib.hid (HCN.out HFP.out)
        clear hiff hz
        go_wp2_with fail
        refine bodyPost_ret (ret_cell_tmp rfl _ _ _ _ _ _ rfl (HB22.out.whole (frV N E sT) (by rw [frV_size, HF0.out])) Tryz.underlying236 rfl (by rw [frV_size]; exact infoFrS) _ rfl) rfl ⟨frV N E sT, by rw [HFP.out]; rfl, frV_size N E sT, frV_ones N E sT, HFC.out, Kp.setCells (.inl (by rw [HG2.out]; exact Nat.le_refl _)) _ _ _ HK4.out⟩
end Go.Proofs.YtoeldmkbmnkhkaaGreat
/- The log: opened; condition: a disk. -/
namespace Go.Proofs.YtoeldmkbmnkhkaaGreat
open Go.RowKit

/-- a log in memory -/
def lgC (db : Nat) (H : W4) (A : Option Addr) (n c : Nat) : Array Value := #[ptrV db, .int .u32 H.a, .int .u32 H.b, .int .u32 H.c, .int .u32 H.d, .slice A n c]
def frCells (fs : List Fr) : List Value := fs.flatMap frL
def OpenPost (p : Pl) (db : Nat) (w : World) (e : Ending) (w' : World) : Prop :=
  (p.wopen.1 ≠ 0 ∧ e = .returned (.tuple #[.pointer none, .int .i64 p.wopen.1]) ∧ Kp NoB w w') ∨
  (p.wopen.1 = 0 ∧ ∃ (lb : Nat) (A : Option Addr) (c : Nat), e = .returned (.tuple #[.pointer (some ⟨lb, 0, none⟩), .int .i64 0]) ∧ Blk w' lb 204 (lgC db p.whead A p.wopen.2.length c) ∧
    w'.ownsRow w.heap.size 236 259 (.slice A p.wopen.2.length c) p.wopen.2.length (frCells p.wopen.2) ∧ w.heap.size ≤ lb ∧ Kp NoB w w')
attribute [local go_sem ↓] loadFr storeFr allocFr loadSec storeSec loadW4 storeW4
theorem nmW_le : nmWal.size ≤ maxLen := by decide
set_option maxRecDepth 100000 in
set_option maxHeartbeats 1600000 in
theorem wopen_down {S : Nat → Prop} {W0 w : World} {db : Nat} {p : Pl} (h : Dq S W0 w db p) (hd : p.down = true) : Calls Tryz.prog 118 #[ptrV db] w (OpenPost p db w) := by
  have H := Lib.hid h
  clear h
  have HD := Lib.hid hd
  have hre : p.readE 0 64 = 7 := by unfold Pl.readE; rw [if_pos hd]
  have HRE := Lib.hid hre
  clear hd hre
  unfold ptrV
  go_enter Tryz.func118, Tryz.ntmps118
  go_wp2_with fail
  refine (show Calls _ _ #[ptrV db, .string ⟨#[119, 97, 108]⟩, .int .i64 0, .int .i64 64] _ _ from read_q H.out nmWal 0 64 nmW_le (by omega) (by omega)).mono ?_
  rintro e w1 ⟨rfl, hk1⟩
  rw [HRE.out]
  have HK1 := Lib.hid hk1
  clear hk1
  go_wp2_with fail
  go_ret2
  have hwo : p.wopen.1 = 7 := by unfold Pl.wopen; rw [if_pos HD.out]
  exact .inl ⟨by rw [hwo]; decide, by rw [hwo]; rfl, HK1.out⟩
structure OpW (w : World) (db lb : Nat) (H : W4) (A : Option Addr) (n c : Nat) (W : World) : Prop where
  b : Blk W lb 204 (lgC db H A n c)
  ge : w.heap.size ≤ lb
  kp : Kp NoB w W
theorem OpW.keep {w : World} {db lb : Nat} {H : W4} {A : Option Addr} {n c : Nat} {W W' : World} (h : OpW w db lb H A n c W) (k : Kp NoB W W') : OpW w db lb H A n c W' := ⟨h.b.keep k (fun q => q), h.ge, h.kp.trans k (fun _ _ q => q)⟩
theorem OpW.new {w w1 : World} {db : Nat} (hk : Kp NoB w w1) : OpW w db w1.heap.size ⟨0, 0, 0, 0⟩ none 0 0 (w1.alloc (.cells #[.pointer (some ⟨db, 0, none⟩), .int .u32 0, .int .u32 0, .int .u32 0, .int .u32 0, .slice none 0 0] 204)) :=
  ⟨Blk.new _ _ _, hk.size, hk.trans ((Kp.refl _ _).alloc _) (fun _ _ q => q)⟩
theorem OpW.cl {w : World} {db lb : Nat} {H : W4} {A : Option Addr} {n c : Nat} {W : World} (h : OpW w db lb H A n c W) : W.cell? ⟨lb, 0, none⟩ = some (.pointer (some ⟨db, 0, none⟩)) ∧ W.cell? ⟨lb, 1, none⟩ = some (.int .u32 H.a) ∧ W.cell? ⟨lb, 2, none⟩ = some (.int .u32 H.b) ∧ W.cell? ⟨lb, 3, none⟩ = some (.int .u32 H.c) ∧ W.cell? ⟨lb, 4, none⟩ = some (.int .u32 H.d) ∧ W.cell? ⟨lb, 5, none⟩ = some (.slice A n c) :=
  ⟨h.b.cell 0, h.b.cell 1, h.b.cell 2, h.b.cell 3, h.b.cell 4, h.b.cell 5⟩
set_option maxRecDepth 100000 in
set_option maxHeartbeats 1600000 in
theorem wopen_short {S : Nat → Prop} {W0 w : World} {db : Nat} {p : Pl} (h : Dq S W0 w db p) (hd : p.down = false) (hs : (p.seen nmWal).length < 64) : Calls Tryz.prog 118 #[ptrV db] w (OpenPost p db w) := by
  have H := Lib.hid h
  have hh : p.whead = ⟨0, 0, 0, 0⟩ := by unfold Pl.whead says; rw [if_pos hs]
  have HH := Lib.hid hh
  have hwo : p.wopen = (0, []) := by
    unfold Pl.wopen
    rw [hd, hh]
    rfl
  have HWO := Lib.hid hwo
  have hre : p.readE 0 64 = 0 := by unfold Pl.readE; rw [hd]; decide
  have hrd : p.read nmWal 0 64 = (p.seen nmWal).take 64 := by unfold Pl.read; rw [if_pos hre]; rfl
  have hre2 : p.readE 0 1048576 = 0 := by unfold Pl.readE; rw [hd]; decide
  have HRE := Lib.hid hre
  have HRD := Lib.hid hrd
  have HRE2 := Lib.hid hre2
  have hsz : (strOf ((p.seen nmWal).take 64)).size < 64 := by rw [strOf_size, List.length_take]; omega
  clear hd hre hrd hre2 hh hwo h hs
  unfold ptrV
  go_enter Tryz.func118, Tryz.ntmps118
  go_wp2_with fail
  refine (show Calls _ _ #[ptrV db, .string ⟨#[119, 97, 108]⟩, .int .i64 0, .int .i64 64] _ _ from read_q H.out nmWal 0 64 nmW_le (by omega) (by omega)).mono ?_
  rintro e w1 ⟨rfl, hk1⟩
  rw [HRE.out, HRD.out]
  have HK1 := Lib.hid hk1
  generalize strOf ((p.seen nmWal).take 64) = s at hsz ⊢
  have hs1 : ¬ (s.size : Int) = 64 := by omega
  clear hk1 hsz
  go_upto_region 5 with fail
  refine forget (p := fun wx => Code.wp _ _ _ _ wx) (OpW w db w1.heap.size ⟨0, 0, 0, 0⟩ none 0 0) (OpW.new HK1.out) ?_
  intro w2 h2
  obtain ⟨lb, hlb⟩ : ∃ lb, w1.heap.size = lb := ⟨_, rfl⟩
  rw [hlb] at h2 ⊢
  have HP2 := Lib.hid h2
  obtain ⟨c0, c1, c2, c3, c4, c5⟩ := h2.cl
  clear h2 hlb
  go_wp2_with fail
  refine (show Calls _ _ #[ptrV db, .string ⟨#[119, 97, 108]⟩, .int .i64 0, .int .i64 1048576] _ _ from read_q (H.out.keep HP2.out.kp) nmWal 0 1048576 nmW_le (by omega) (by omega)).mono ?_
  rintro e w3 ⟨rfl, hk3⟩
  rw [HRE2.out]
  have HP3 := Lib.hid (HP2.out.keep hk3)
  obtain ⟨c0, c1, c2, c3, c4, c5⟩ := HP3.out.cl
  generalize strOf (p.read nmWal 0 1048576) = sa
  clear hk3
  go_wp2_with fail
  refine wp_loop_rounds 1 ?_
  rw [rounds_succ]
  go_wp2_with fail
  go_ret2
  exact .inr ⟨by rw [HWO.out], lb, none, 0, rfl, by rw [HWO.out, HH.out]; exact HP3.out.b, by rw [HWO.out]; exact World.ownsRow_nil _ _ _ _, HP3.out.ge, HP3.out.kp⟩
end Go.Proofs.YtoeldmkbmnkhkaaGreat
/- The journal: may pages be changed; no condition but on the counts. -/
namespace Go.Proofs.YtoeldmkbmnkhkaaGreat
open Go.RowKit

section
attribute [local go_sem ↓] loadPg storePg allocPg
end
end Go.Proofs.YtoeldmkbmnkhkaaGreat
/- The journal: a page's number searched among pages in order; no condition but on the counts. -/
namespace Go.Proofs.YtoeldmkbmnkhkaaGreat
open Go.RowKit

section
attribute [local go_sem ↓] loadPg storePg allocPg
end
end Go.Proofs.YtoeldmkbmnkhkaaGreat
/- The journal: the function values of Recover and Commit; no condition but on the counts. -/
namespace Go.Proofs.YtoeldmkbmnkhkaaGreat
open Go.RowKit

theorem kept_pgs (A : Option Addr) (n : Nat) (l : List Pg) : Kept fun S w => PgsAt w A n l ∧ Apart S A n := fun S S' w w' h k hS => by
  refine ⟨RowsC.keepS h.1 k (fun g o e hn => h.2 g o e hn), fun g o e hn q => ?_⟩
  rcases hS g q with q | q
  · exact h.2 g o e hn q
  · have := h.1.lt e hn
    omega
section
variable {S : Nat → Prop} {w : World} {db : Nat} {p : Pl}
attribute [local go_sem ↓] loadW4 storeW4
set_option maxRecDepth 100000 in
theorem sealAt_q (h : Dq S w w db p) (v : W4) (Bd Bw : Nat) (hd : Blk w Bd 191 #[ptrV db]) (hw : Blk w Bw 193 (w4A v)) (hm : p.sm 40000) :
    Calls Tryz.prog 113 #[.pointer (some ⟨Bd, 0, none⟩), .pointer (some ⟨Bw, 0, none⟩)] w fun e w' => e = .returned (.int .i64 (p.runS (headS nmJn v)).2) ∧ Dq S w w' db (p.runS (headS nmJn v)).1 := by
  have H := Lib.hid h
  have HM := Lib.hid hm
  have cd : w.cell? ⟨Bd, 0, none⟩ = some (.pointer (some ⟨db, 0, none⟩)) := hd.cell 0
  have t0 : w.there Bw 0 4 := hw.thereAll 4 rfl
  have r0 : readRow w Bw 0 4 = w4A v := hw.readAll 4 rfl
  clear h hm hd hw
  go_enter Tryz.func113, Tryz.ntmps113
  go_wp2_with fail
  refine (show Calls _ _ #[.agg #[ptrV db], _] _ _ from jseal_q H.out v HM.out).mono ?_
  rintro e w4 ⟨rfl, h4⟩
  have H4 := Lib.hid h4
  clear h4
  go_wp2_with fail
  go_ret
  exact ⟨rfl, H4.out⟩
set_option maxRecDepth 100000 in
theorem putAt_q (h : Dq S w w db p) (v : W4) (hb : 0 ≤ v.b ∧ v.b ≤ 4096) (Bd Bw Bp : Nat) (A : Option Addr) (n cap : Nat) (l : List Pg) (hd : Blk w Bd 191 #[ptrV db]) (hw : Blk w Bw 193 (w4A v)) (hp : Blk w Bp 149 #[.slice A n cap])
    (hl : PgsAt w A n l) (hA : Apart S A n) (hok : PgsOk l) (hm : p.sm (20000 * (n + 3))) (hnn : n < 1099511627776) :
    Calls Tryz.prog 115 #[.pointer (some ⟨Bd, 0, none⟩), .pointer (some ⟨Bw, 0, none⟩), .pointer (some ⟨Bp, 0, none⟩)] w fun e w' => e = .returned (.int .i64 (p.runS (homeS v.b l)).2) ∧ Dq S w w' db (p.runS (homeS v.b l)).1 := by
  have H := Lib.hid h
  have HM := Lib.hid hm
  have HL := Lib.hid hl
  have HA := Lib.hid hA
  have HOK := Lib.hid hok
  have HB := Lib.hid hb
  have cd : w.cell? ⟨Bd, 0, none⟩ = some (.pointer (some ⟨db, 0, none⟩)) := hd.cell 0
  have cb : w.cell? ⟨Bw, 1, none⟩ = some (.int .u32 v.b) := hw.cell 1
  have cp : w.cell? ⟨Bp, 0, none⟩ = some (.slice A n cap) := hp.cell 0
  have hwb : IntKind.i64.wrap v.b = v.b := by rw [IntKind.wrap_i64]; omega
  clear h hm hd hw hp hl hA hok
  go_enter Tryz.func115, Tryz.ntmps115
  go_wp2_with fail
  refine (show Calls _ _ #[.agg #[ptrV db], _, _] _ _ from jput_q H.out v.b HB.out A n cap l HL.out HA.out HOK.out HM.out hnn).mono ?_
  rintro e w4 ⟨rfl, h4⟩
  have H4 := Lib.hid h4
  clear h4
  go_wp2_with fail
  go_ret
  exact ⟨rfl, H4.out⟩
set_option maxRecDepth 100000 in
theorem seal0_q (h : Dq S w w db p) (Bd : Nat) (hd : Blk w Bd 191 #[ptrV db]) (hm : p.sm 40000) :
    Calls Tryz.prog 117 #[.pointer (some ⟨Bd, 0, none⟩)] w fun e w' => e = .returned (.int .i64 (p.runS (headS nmJn ⟨0, 0, 0, 0⟩)).2) ∧ Dq S w w' db (p.runS (headS nmJn ⟨0, 0, 0, 0⟩)).1 := by
  have H := Lib.hid h
  have HM := Lib.hid hm
  have cd : w.cell? ⟨Bd, 0, none⟩ = some (.pointer (some ⟨db, 0, none⟩)) := hd.cell 0
  clear h hm hd
  go_enter Tryz.func117, Tryz.ntmps117
  go_wp2_with fail
  refine (show Calls _ _ #[.agg #[ptrV db], .agg (w4A ⟨0, 0, 0, 0⟩)] _ _ from jseal_q H.out ⟨0, 0, 0, 0⟩ HM.out).mono ?_
  rintro e w4 ⟨rfl, h4⟩
  have H4 := Lib.hid h4
  clear h4
  go_wp2_with fail
  go_ret
  exact ⟨rfl, H4.out⟩
end
end Go.Proofs.YtoeldmkbmnkhkaaGreat
/- The journal: taken back; no condition but on the counts. -/
namespace Go.Proofs.YtoeldmkbmnkhkaaGreat
open Go.RowKit

theorem seqR_one (r : Pl → Pl × Int) (p : Pl) : seqR [r] p = r p := by
  unfold seqR
  split
  · rename_i h
    unfold seqR
    rw [← h]
  · rfl
theorem seqR_cons (r : Pl → Pl × Int) (rs : List (Pl → Pl × Int)) (p : Pl) : seqR (r :: rs) p = if (r p).2 = 0 then seqR rs (r p).1 else r p := rfl
theorem seqR3 (a b c : List Stp) (p : Pl) : seqR [fun p => p.runS a, fun p => p.runS b, fun p => p.runS c] p = p.runS (a ++ (b ++ c)) := by
  rw [runS_append, seqR_cons]
  split
  · rw [runS_append, seqR_cons]
    split
    · rw [seqR_one]
    · rfl
  · rfl
theorem seqR2 (a b : List Stp) (p : Pl) : seqR [fun p => p.runS a, fun p => p.runS b] p = p.runS (a ++ b) := by
  rw [runS_append, seqR_cons]
  split
  · rw [seqR_one]
  · rfl
theorem recsPg_ok {jl : List Int} {top : Int} : ∀ (i k : Nat) (last : Int) (l : List Pg), recsPg jl top i k last = some l → 0 ≤ last → l.length = i ∧ ∀ x ∈ l, last < x.n ∧ x.n ≤ top
  | 0, k, last, l, h, _ => by
    have : l = [] := by
      have h2 : some [] = some l := h
      injection h2 with h2
      exact h2.symm
    subst this
    simp
  | i + 1, k, last, l, h, h0 => by
    rw [recsPg_succ] at h
    generalize (jl.drop (64 + 320 * k)).take 320 = b at h
    split at h
    · cases h
    · split at h
      · rename_i hb
        cases hr : recsPg jl top i (k + 1) (num b 0) with
        | none => rw [hr] at h; cases h
        | some r =>
          rw [hr] at h
          injection h with h
          subst h
          obtain ⟨h1, h2⟩ := recsPg_ok i (k + 1) (num b 0) r hr (by omega)
          refine ⟨by simp [h1], fun x hx => ?_⟩
          rcases List.mem_cons.1 hx with rfl | hx
          · exact hb.2
          · have := h2 x hx
            omega
      · cases h
theorem recordsPg_ok {jl : List Int} {v : W4} {l : List Pg} (hv : W4Ok v) (ha : 1 ≤ v.a) (h : recordsPg jl v = some l) : l.length ≤ 4096 ∧ (∀ x ∈ l, 1 ≤ x.n ∧ x.n ≤ 4096) ∧ v.b ≤ 4096 := by
  unfold recordsPg at h
  split at h
  · cases h
  · rename_i hb
    obtain ⟨h1, h2⟩ := recsPg_ok _ _ _ _ h (by omega)
    refine ⟨by omega, fun x hx => ?_, by omega⟩
    have := h2 x hx
    omega
theorem wordsAt_ok {l : List Int} (h : ∀ y ∈ l, 0 ≤ y ∧ y < 256) (a : Nat) : W4Ok (wordsAt l a) := ⟨num_rng h _, num_rng h _, num_rng h _, num_rng h _⟩
theorem says_ok {l : List Int} (h : ∀ y ∈ l, 0 ≤ y ∧ y < 256) : W4Ok (says l) := by
  have h64 : ∀ y ∈ l.take 64, 0 ≤ y ∧ y < 256 := fun y hy => h y (List.mem_of_mem_take hy)
  unfold says
  split
  · constructor <;> constructor <;> decide
  · unfold openB
    split
    · exact wordsAt_ok h64 _
    · exact wordsAt_ok h64 _
theorem pgs_own {w : World} {n0 n cap : Nat} {A : Option Addr} {l : List Pg} (h : OwnPgs w n0 (.slice A n cap) l) (hn : l.length = n) : PgsAt w A n l := by
  subst hn
  refine RowsC.own (base := n0) (cap := cap) (e := 208) ?_ (by simp) ?_
  · have h1 := h.1
    unfold pgsCells at h1
    rw [List.flatMap_def] at h1
    exact h1
  · intro x hx
    obtain ⟨y, hy, rfl⟩ := List.mem_map.1 hx
    exact pgL_len (h.2 y hy)
def BkPost (S : Nat → Prop) (w : World) (db : Nat) (p : Pl) (e : Ending) (w' : World) : Prop := e = .returned (.tuple #[.bool p.jrecover.2.1, .int .i64 p.jrecover.2.2]) ∧ Dq S w w' db p.jrecover.1
section
variable {S : Nat → Prop} {w : World} {db : Nat} {p : Pl}
attribute [local go_sem ↓] loadW4 storeW4
set_option maxRecDepth 100000 in
set_option maxHeartbeats 1600000 in
theorem recover_q (h : Dq S w w db p) (hm : p.sm 90000000) :
    Calls Tryz.prog 70 #[ptrV db] w (BkPost S w db p) := by
  have H := Lib.hid h
  have HM := Lib.hid hm
  rcases hdn : p.down with _ | _
  · have HD := Lib.hid hdn
    have hw0 : p.wrong = 0 := by unfold Pl.wrong; rw [hdn]; rfl
    have HW0 := Lib.hid hw0
    rcases hhot : p.jhot with _ | _
    · have e1 : p.jrecover = (p, false, 0) := by unfold Pl.jrecover; rw [hdn, hhot]; rfl
      have HE1 := Lib.hid e1
      have HH := Lib.hid hhot
      clear h hm hdn hw0 hhot e1
      unfold ptrV
      go_enter Tryz.func70, Tryz.ntmps70
      go_wp2_with fail
      refine (show Calls _ _ #[ptrV db] _ _ from ready_q H.out).mono ?_
      rintro e w2 ⟨rfl, hk⟩
      rw [HW0.out]
      have HK := Lib.hid hk
      clear hk
      go_wp2_with fail
      refine (show Calls _ _ #[ptrV db] _ _ from hot_q (H.out.keep HK.out)).mono ?_
      rintro e w3 ⟨rfl, hk3⟩
      rw [HH.out]
      have HK3 := Lib.hid (HK.out.trans hk3 (fun _ _ q => q))
      clear hk3
      go_wp2_with fail
      go_ret2
      unfold BkPost
      rw [HE1.out]
      exact ⟨rfl, H.out.keep HK3.out⟩
    · have HH := Lib.hid hhot
      have hok := says_ok (H.out.seen_rng nmJn)
      have HOK := Lib.hid (show W4Ok p.jhead from hok)
      have hne : (p.jhead).a ≠ 0 := by
        unfold Pl.jhot at hhot
        rw [hdn] at hhot
        simpa using hhot
      have HA1 := Lib.hid (show 1 ≤ (p.jhead).a by have := (show W4Ok p.jhead from hok).a; omega)
      have hjd : p.jheadD = p.jhead := by unfold Pl.jheadD; rw [hdn]; rfl
      have HJD := Lib.hid hjd
      have e1 : p.jrecover = match recordsPg (p.seen nmJn) p.jhead with | none => (p, false, 8) | some l => ((p.runS (Pl.recS p.jhead l)).1, decide ((p.runS (Pl.recS p.jhead l)).2 = 0), (p.runS (Pl.recS p.jhead l)).2) := by
        unfold Pl.jrecover; rw [hdn, hhot]; rfl
      have HE1 := Lib.hid e1
      clear h hm hdn hw0 hhot e1 hok hne hjd
      unfold ptrV
      go_enter Tryz.func70, Tryz.ntmps70
      go_wp2_with fail
      refine (show Calls _ _ #[ptrV db] _ _ from ready_q H.out).mono ?_
      rintro e w2 ⟨rfl, hk⟩
      rw [HW0.out]
      have HK := Lib.hid hk
      clear hk
      go_wp2_with fail
      refine (show Calls _ _ #[ptrV db] _ _ from hot_q (H.out.keep HK.out)).mono ?_
      rintro e w3 ⟨rfl, hk3⟩
      rw [HH.out]
      have HK3 := Lib.hid (HK.out.trans hk3 (fun _ _ q => q))
      clear hk3
      go_wp2_with fail
      have hbd : Blk (w3.alloc (.cells #[ptrV db] 191)) w3.heap.size 191 #[ptrV db] := Blk.new _ _ _
      have hk4 : Kp NoB w (w3.alloc (.cells #[ptrV db] 191)) := HK3.out.alloc _
      have HBD := Lib.hid hbd
      have HK4 := Lib.hid hk4
      clear hbd hk4
      refine (show Calls _ _ #[.agg #[ptrV db]] _ _ from head_q (H.out.keep HK4.out)).mono ?_
      rintro e w4 ⟨rfl, hk4⟩
      rw [HJD.out]
      have hbd4 := HBD.out.keep hk4 (fun q => q)
      have hlt4 := hbd4.lt
      have hk5 := HK4.out.trans hk4 (fun _ _ q => q)
      have hb := Blk.new w4 193 #[.int .u32 0, .int .u32 0, .int .u32 0, .int .u32 0]
      have hbw := hb.whole (w4A p.jhead) rfl
      have tb := hb.thereAll 4 rfl
      have o1 := w4A_ones p.jhead
      have s1 : (w4A p.jhead).size = 4 := rfl
      have hk6 : Kp NoB w4 ((w4.alloc (.cells #[.int .u32 0, .int .u32 0, .int .u32 0, .int .u32 0] 193)).setCells w4.heap.size 0 (w4A p.jhead).toList) := Kp.setCells (.inl (Nat.le_refl _)) _ _ _ ((Kp.refl _ _).alloc _)
      have hbd6 := hbd4.keep hk6 (fun q => q)
      have cd6 := hbd6.cell 0
      have tw6 := hbw.thereAll 4 rfl
      have rw6 := hbw.readAll 4 rfl
      have HK6 := Lib.hid (hk5.trans hk6 (fun _ _ q => q))
      have HBW := Lib.hid hbw
      have HBD6 := Lib.hid hbd6
      have HNE : Hid (w3.heap.size < w4.heap.size) := Lib.hid hlt4
      obtain ⟨RR, hRR⟩ : ∃ RR, w4A p.jhead = RR := ⟨_, rfl⟩
      rw [hRR] at o1 s1 HK6 HBW HBD6 cd6 tw6 rw6 ⊢
      have HRR := Lib.hid hRR
      unfold ptrV at cd6
      rw [show (#[Value.pointer (some ⟨db, 0, none⟩)] : Array Value)[0]? = some (Value.pointer (some ⟨db, 0, none⟩)) from rfl] at cd6
      clear hk4 hbd4 hk5 hb hbw hk6 hbd6 hRR hlt4
      go_wp2_with fail
      generalize (w4.alloc (.cells #[.int .u32 0, .int .u32 0, .int .u32 0, .int .u32 0] 193)).setCells w4.heap.size 0 RR.toList = w5 at HK6 HBW HBD6 cd6 tw6 rw6 ⊢
      obtain ⟨Bd, hBd⟩ : ∃ Bd, w3.heap.size = Bd := ⟨_, rfl⟩
      obtain ⟨Bw, hBw⟩ : ∃ Bw, w4.heap.size = Bw := ⟨_, rfl⟩
      have HSB : Hid (w.heap.size ≤ Bd ∧ w.heap.size ≤ Bw) := Lib.hid (by
        have h1 := HK3.out.size
        have h2 := HNE.out
        omega)
      rw [hBd] at HBD6 cd6 ⊢
      rw [hBw] at HBW tw6 rw6 ⊢
      clear hBd hBw
      rw [← HRR.out]
      refine (show Calls _ _ #[.agg #[ptrV db], _] _ _ from records_q (H.out.base1 HK6.out) HD.out p.jhead HOK.out HA1.out).mono ?_
      rintro e w6 ⟨hk7, hr⟩
      rcases hr with ⟨hrn, rfl⟩ | ⟨l, vv, hrs, rfl, how⟩
      · have e2 : p.jrecover = (p, false, 8) := by rw [HE1.out, hrn]
        have HE2 := Lib.hid e2
        have HK7 := Lib.hid (HK6.out.trans hk7 (fun _ _ q => q))
        clear hk7 hrn e2
        go_wp2_with fail
        go_ret2
        unfold BkPost
        rw [HE2.out]
        exact ⟨rfl, H.out.keep (HK7.out.alloc _)⟩
      · obtain ⟨A, cap, rfl⟩ := own_slice how.1
        obtain ⟨n, hn⟩ : ∃ n, l.length = n := ⟨_, rfl⟩
        have how2 : OwnPgs w6 w5.heap.size (.slice A n cap) l := by rw [← hn]; exact how
        have hpg := pgs_own how2 hn
        obtain ⟨hl1, hl2, hl3⟩ := recordsPg_ok HOK.out HA1.out hrs
        have hpo : PgsOk l := ⟨how.2, hl2⟩
        have e2 : p.jrecover = ((p.runS (Pl.recS p.jhead l)).1, decide ((p.runS (Pl.recS p.jhead l)).2 = 0), (p.runS (Pl.recS p.jhead l)).2) := by rw [HE1.out, hrs]
        have HE2 := Lib.hid e2
        have hAp : ∀ g o, A = some ⟨g, o, none⟩ → 0 < n → w5.heap.size ≤ g := fun g o e hn0 => by
          have h1 := how2.1
          rw [hn] at h1
          obtain ⟨g', hg, hb, _⟩ := own_at h1 hn0
          rw [e] at hg
          injection hg with hg
          injection hg with hg
          omega
        have HPG := Lib.hid hpg
        have HPO := Lib.hid hpo
        have HAP := Lib.hid hAp
        have HN := Lib.hid hn
        have HL4 := Lib.hid hl1
        have HVB := Lib.hid (show 0 ≤ p.jhead.b ∧ p.jhead.b ≤ 4096 from ⟨HOK.out.b.1, hl3⟩)
        have HK7 := Lib.hid (HK6.out.trans hk7 (fun _ _ q => q))
        have HBD7 := Lib.hid (HBD6.out.keep hk7 (fun q => q))
        have HBW7 := Lib.hid (HBW.out.keep hk7 (fun q => q))
        rw [hn]
        clear hk7 hrs how how2 hpg hpo hl1 hl2 hl3 e2 hAp hn cd6 tw6 rw6 o1 s1
        go_wp2_with fail
        have hka : Kp NoB w6 (w6.alloc (.cells #[.slice A n cap] 149)) := (Kp.refl _ _).alloc _
        have hbp : Blk (w6.alloc (.cells #[.slice A n cap] 149)) w6.heap.size 149 #[.slice A n cap] := Blk.new _ _ _
        have hs8 : (w6.alloc (.cells #[.slice A n cap] 149)).heap.size = w6.heap.size + 1 := by simp
        generalize w6.alloc (.cells #[.slice A n cap] 149) = w8 at hka hbp hs8 ⊢
        have hb9 := Blk.newAt w8 233 #[.func (.func 113) #[] #[.pointer (some ⟨Bd, 0, none⟩), .pointer (some ⟨Bw, 0, none⟩)], .func (.func 115) #[] #[.pointer (some ⟨Bd, 0, none⟩), .pointer (some ⟨Bw, 0, none⟩), .pointer (some ⟨w6.heap.size, 0, none⟩)], .func (.func 117) #[] #[.pointer (some ⟨Bd, 0, none⟩)]] _ hs8
        have hkb := (Kp.refl NoB w8).alloc (.cells #[.func (.func 113) #[] #[.pointer (some ⟨Bd, 0, none⟩), .pointer (some ⟨Bw, 0, none⟩)], .func (.func 115) #[] #[.pointer (some ⟨Bd, 0, none⟩), .pointer (some ⟨Bw, 0, none⟩), .pointer (some ⟨w6.heap.size, 0, none⟩)], .func (.func 117) #[] #[.pointer (some ⟨Bd, 0, none⟩)]] 233)
        generalize w8.alloc (.cells #[.func (.func 113) #[] #[.pointer (some ⟨Bd, 0, none⟩), .pointer (some ⟨Bw, 0, none⟩)], .func (.func 115) #[] #[.pointer (some ⟨Bd, 0, none⟩), .pointer (some ⟨Bw, 0, none⟩), .pointer (some ⟨w6.heap.size, 0, none⟩)], .func (.func 117) #[] #[.pointer (some ⟨Bd, 0, none⟩)]] 233) = w9 at hb9 hkb ⊢
        have hkab := hka.trans hkb (fun _ _ q => q)
        have hk9 := HK7.out.trans hkab (fun _ _ q => q)
        have hlt := H.out.lt
        have h6s := HK7.out.size
        have hnS : ∀ g, w.heap.size ≤ g → ¬ S g := fun g hg q => by have := hlt g q; omega
        have hKK : (fun S w => ((Blk w Bd 191 #[ptrV db] ∧ ¬ S Bd) ∧ (Blk w Bw 193 (w4A p.jhead) ∧ ¬ S Bw)) ∧ ((Blk w w6.heap.size 149 #[.slice A n cap] ∧ ¬ S w6.heap.size) ∧ (PgsAt w A n l ∧ Apart S A n))) S w9 :=
          ⟨⟨⟨HBD7.out.keep hkab (fun q => q), hnS _ HSB.out.1⟩, ⟨by rw [HRR.out]; exact HBW7.out.keep hkab (fun q => q), hnS _ HSB.out.2⟩⟩,
           ⟨⟨hbp.keep hkb (fun q => q), hnS _ h6s⟩, ⟨HPG.out.keep hkab, fun g o e hn0 => hnS _ (by have h1 := HAP.out g o e hn0; have h2 := HK6.out.size; omega)⟩⟩⟩
        have hcost : p.sm (40000 + (20000 * (n + 3) + (40000 + 0))) := sm_mono HM.out (by have h1 := HL4.out; have h2 := HN.out; omega)
        refine (all_steps (n := 3) (cap := 3) (((kept_blk Bd 191 #[ptrV db]).and (kept_blk Bw 193 (w4A p.jhead))).and ((kept_blk w6.heap.size 149 #[.slice A n cap]).and (kept_pgs A n l)))
          [⟨113, #[], #[.pointer (some ⟨Bd, 0, none⟩), .pointer (some ⟨Bw, 0, none⟩)], fun p' => p'.runS (headS nmJn p.jhead), 40000⟩,
           ⟨115, #[], #[.pointer (some ⟨Bd, 0, none⟩), .pointer (some ⟨Bw, 0, none⟩), .pointer (some ⟨w6.heap.size, 0, none⟩)], fun p' => p'.runS (homeS p.jhead.b l), 20000 * (n + 3)⟩,
           ⟨117, #[], #[.pointer (some ⟨Bd, 0, none⟩)], fun p' => p'.runS (headS nmJn ⟨0, 0, 0, 0⟩), 40000⟩]
          S w9 p ?_ rfl (by omega) hb9 (hnS _ (by omega)) (H.out.base1 hk9) hKK hcost).mono ?_
        · intro s hs
          simp only [List.mem_cons, List.not_mem_nil, or_false] at hs
          rcases hs with rfl | rfl | rfl
          · exact ⟨enters_of Tryz.func113 (by kernel_rfl) rfl, fun S w p' h hk hm => sealAt_q h p.jhead Bd Bw hk.1.1.1 hk.1.2.1 hm, fun p' k hm => sm_run _ (by exact hm)⟩
          · exact ⟨enters_of Tryz.func115 (by kernel_rfl) rfl, fun S w p' h hk hm => putAt_q h p.jhead HVB.out Bd Bw _ A n cap l hk.1.1.1 hk.1.2.1 hk.2.1.1 hk.2.2.1 hk.2.2.2 HPO.out hm (by have h1 := HL4.out; have h2 := HN.out; omega), fun p' k hm => sm_run _ (sm_mono hm (by have h2 := HN.out; simp only [homeS, homeW, List.length_append, List.length_map, List.length_cons, List.length_nil]; omega))⟩
          · exact ⟨enters_of Tryz.func117 (by kernel_rfl) rfl, fun S w p' h hk hm => seal0_q h Bd hk.1.1.1 hm, fun p' k hm => sm_run _ (by exact hm)⟩
        · rintro e w10 ⟨he, h10⟩
          have hz : seqR [fun p' => p'.runS (headS nmJn p.jhead), fun p' => p'.runS (homeS p.jhead.b l), fun p' => p'.runS (headS nmJn ⟨0, 0, 0, 0⟩)] p = p.runS (Pl.recS p.jhead l) := seqR3 _ _ _ p
          obtain ⟨Z, hZ⟩ : ∃ Z, p.runS (Pl.recS p.jhead l) = Z := ⟨_, rfl⟩
          rw [hZ] at hz HE2
          change Dq S w9 w10 db (seqR [fun p' => p'.runS (headS nmJn p.jhead), fun p' => p'.runS (homeS p.jhead.b l), fun p' => p'.runS (headS nmJn ⟨0, 0, 0, 0⟩)] p).1 at h10
          rw [hz] at h10
          have H10 := Lib.hid (Dq.up (H.out.base1 hk9) hk9 hlt h10)
          have HFIN : Hid (∀ b, b = decide (Z.2 = 0) → BkPost S w db p (.returned (.tuple #[.bool b, .int .i64 Z.2])) w10) := Lib.hid (fun b hb => by
            unfold BkPost
            rw [HE2.out, hb]
            exact ⟨rfl, H10.out⟩)
          have he2 : e = .returned (.int .i64 Z.2) := he.trans (by rw [← hz]; rfl)
          subst he2
          generalize Z.2 = z2 at HFIN ⊢
          clear hka hbp hs8 hb9 hkb hkab hk9 hlt h6s hnS hKK hcost he h10 hz hZ
          by_cases h0 : z2 = 0
          · subst h0
            go_wp2_with fail
            go_ret2
            exact HFIN.out true rfl
          · have hb0 : (z2 == 0) = false := by simpa using h0
            have hb1 : (z2 != 0) = true := by simpa using h0
            have H0 := Lib.hid h0
            go_wp2_with fail
            go_ret2
            exact HFIN.out false (by rw [decide_eq_false H0.out])
  · have HD := Lib.hid hdn
    have hw0 : p.wrong = 7 := by unfold Pl.wrong; rw [hdn]; rfl
    have HW0 := Lib.hid hw0
    have e1 : p.jrecover = (p, false, 7) := by unfold Pl.jrecover; rw [hdn]; rfl
    have HE1 := Lib.hid e1
    clear h hm hdn hw0 e1
    unfold ptrV
    go_enter Tryz.func70, Tryz.ntmps70
    go_wp2_with fail
    refine (show Calls _ _ #[ptrV db] _ _ from ready_q H.out).mono ?_
    rintro e w2 ⟨rfl, hk⟩
    rw [HW0.out]
    have HK := Lib.hid hk
    clear hk
    go_wp2_with fail
    go_ret2
    unfold BkPost
    rw [HE1.out]
    exact ⟨rfl, H.out.keep HK.out⟩
end
end Go.Proofs.YtoeldmkbmnkhkaaGreat
/- The reference's disk: with; condition: fewer than 2^40 files. -/
namespace Go.Proofs.YtoeldmkbmnkhkaaGreat
open Go.RowKit

theorem Blk.c8 {w : World} {g : Nat} {t : TypeId} {a0 a1 a2 a3 a4 a5 a6 a7 : Value} (h : Blk w g t #[a0, a1, a2, a3, a4, a5, a6, a7]) :
    w.cell? ⟨g, 0, none⟩ = some a0 ∧ w.cell? ⟨g, 1, none⟩ = some a1 ∧ w.cell? ⟨g, 2, none⟩ = some a2 ∧ w.cell? ⟨g, 3, none⟩ = some a3 ∧ w.cell? ⟨g, 4, none⟩ = some a4 ∧ w.cell? ⟨g, 5, none⟩ = some a5 ∧ w.cell? ⟨g, 6, none⟩ = some a6 ∧ w.cell? ⟨g, 7, none⟩ = some a7 :=
  ⟨h.cell 0, h.cell 1, h.cell 2, h.cell 3, h.cell 4, h.cell 5, h.cell 6, h.cell 7⟩
theorem Blk.z8 {w : World} {g : Nat} {t : TypeId} {cs : Array Value} (h : Blk w g t cs) :
    w.frozen? ⟨g, 0, none⟩ = false ∧ w.frozen? ⟨g, 1, none⟩ = false ∧ w.frozen? ⟨g, 2, none⟩ = false ∧ w.frozen? ⟨g, 3, none⟩ = false ∧ w.frozen? ⟨g, 4, none⟩ = false ∧ w.frozen? ⟨g, 5, none⟩ = false ∧ w.frozen? ⟨g, 6, none⟩ = false ∧ w.frozen? ⟨g, 7, none⟩ = false :=
  ⟨h.frozen 0, h.frozen 1, h.frozen 2, h.frozen 3, h.frozen 4, h.frozen 5, h.frozen 6, h.frozen 7⟩
theorem Blk.c3 {w : World} {g : Nat} {t : TypeId} {a0 a1 a2 : Value} (h : Blk w g t #[a0, a1, a2]) : w.cell? ⟨g, 0, none⟩ = some a0 ∧ w.cell? ⟨g, 1, none⟩ = some a1 ∧ w.cell? ⟨g, 2, none⟩ = some a2 :=
  ⟨h.cell 0, h.cell 1, h.cell 2⟩
end Go.Proofs.YtoeldmkbmnkhkaaGreat
/- The reference's disk: what a choice makes of what is kept; condition: at most 1048576 bytes. -/
namespace Go.Proofs.YtoeldmkbmnkhkaaGreat
open Go.RowKit

end Go.Proofs.YtoeldmkbmnkhkaaGreat
/- The reference's disk: fits; condition: a number from 0 on. -/
namespace Go.Proofs.YtoeldmkbmnkhkaaGreat
open Go.RowKit

end Go.Proofs.YtoeldmkbmnkhkaaGreat
/- The reference's list of files as the plain state: look-up, sums, names; no condition. -/
namespace Go.Proofs.YtoeldmkbmnkhkaaGreat
open Go.RowKit

theorem Rf.look {w : World} {d : Rd} {p : Pl} (h : Rf w d p) (s : ByteArray) : ((p.seen s).length ≤ 1048576 ∧ ∀ y ∈ p.seen s, 0 ≤ y ∧ y < 256) ∧ ((p.kept s).length ≤ 1048576 ∧ ∀ y ∈ p.kept s, 0 ≤ y ∧ y < 256) := by
  rw [h.seen, h.kept]
  unfold seenR keptR
  cases hq : findR d.fs s with
  | none => simp
  | some f =>
    have hf := h.fok f (List.mem_of_find?_eq_some hq)
    exact ⟨⟨hf.sl, hf.srng⟩, hf.kl, hf.krng⟩
end Go.Proofs.YtoeldmkbmnkhkaaGreat
/- The reference's disk: a step, Read, on the plain state; no condition but on the count of files. -/
namespace Go.Proofs.YtoeldmkbmnkhkaaGreat
open Go.RowKit

end Go.Proofs.YtoeldmkbmnkhkaaGreat
/- The reference's disk: New; no condition. -/
namespace Go.Proofs.YtoeldmkbmnkhkaaGreat
open Go.RowKit

end Go.Proofs.YtoeldmkbmnkhkaaGreat
/- The journal in plain Lean: what the steps laid aside answer; no condition. -/
namespace Go.Proofs.YtoeldmkbmnkhkaaGreat
open Go

/-- no file is longer than may be -/
def Pl.le (p : Pl) : Prop := ∀ s, (p.seen s).length ≤ 1048576
end Go.Proofs.YtoeldmkbmnkhkaaGreat
/- The journal: pages gathered that are to be laid aside: rules of the region that gathers; no condition. -/
namespace Go.Proofs.YtoeldmkbmnkhkaaGreat
open Go Go.RowKit

section
variable {P : Program} {ops : Array Oper} {Q : Exit → Act → World → Prop} {md : Region.Mode} {S : World → Prop} {fuel : Nat} {listed : Array Bool} {a : Act} {w : World} {i : Nat} {rs : List Nat}
variable {ds : Option Tmp} {op : Op} {ty : TypeId} {ps : String} {af : Array Edge}
/-- an operation that yields nothing -/
theorem AllReadyH.skipR {gd : Option (Nat × Bool)} (ho : ops[i]? = some ⟨none, op, ty, ps, af, gd⟩) (hw : Region.wanted ⟨none, op, ty, ps, af, gd⟩ (yielded ops a.tmps) = true) (w' : World)
    (hr : (execOp a.eval ⟨none, op, ty, ps, af, gd⟩).run P w = .ok .skip w') (hS : S w')
    (hn : wpAnyH P md ops Q S fuel (listed.setIfInBounds i true) a w')
    (hs : AllReadyH P md ops Q S fuel listed a w rs) : AllReadyH P md ops Q S fuel listed a w (i :: rs) :=
  AllReadyH.cons ho (fun K hK => by
    rw [if_pos hw]
    unfold Oper.wp
    rw [hr, Oper.upon_skip]
    exact hK.out _ _ hS (fun _ => hn)) hs
/-- an append to a row of the caller's own -/
theorem AllReadyH.appendB {s x : Operand} {t : TypeId} (ho : ops[i]? = some ⟨ds, .call { callee := .builtin .append, args := #[s, x], argTypes := #[t, t] }, ty, ps, af, none⟩) (hw : Region.wanted ⟨ds, .call { callee := .builtin .append, args := #[s, x], argTypes := #[t, t] }, ty, ps, af, none⟩ (yielded ops a.tmps) = true)
    (base : Nat) (e : TypeId) (j : TypeInfo) (z : Value) (size bytes : Nat) (ht : P.underlying t = some (.slice e)) (hi : P.info? e = some j) (hz : j.zero = some z)
    (hsize : j.size = size) (hby : j.bytes = bytes) (hzs : z.cells.size = size) (hsz : 0 < size)
    (v : Value) (n : Nat) (xs : List Value) (hsv : a.eval s = v) (hown : w.ownsRow base e size v n xs)
    (ad : Addr) (m c : Nat) (news : List Value) (hx : a.eval x = .slice (some ad) m c) (hl : news.length = m * size) (hnews : ∀ j u, news[j]? = some u → w.cell? (ad.add j) = some u) (h1 : ∀ u ∈ news, u.oneCell' = true)
    (h63 : n + m ≤ maxLen) (hbytes : (n + m) * bytes ≤ 140737488355328) (hbase : base ≤ w.heap.size)
    (hS : ∀ v' w', w'.ownsRow base e size v' (n + m) (xs ++ news) → w.grownBy w' v.ownBlock → (∀ b, v'.ownBlock = some b → v.ownBlock = some b ∨ w.heap.size ≤ b) → S w')
    (hn : ∀ v' w', w'.ownsRow base e size v' (n + m) (xs ++ news) → w.grownBy w' v.ownBlock → (∀ b, v'.ownBlock = some b → v.ownBlock = some b ∨ w.heap.size ≤ b) → wpAnyH P md ops Q S fuel (listed.setIfInBounds i true) (a.put ds v') w')
    (hs : AllReadyH P md ops Q S fuel listed a w rs) : AllReadyH P md ops Q S fuel listed a w (i :: rs) :=
  AllReadyH.cons ho (fun K hK => by
    rw [if_pos hw]
    exact wp_append_ownB s x t rfl base e j z size bytes ht hi hz hsize hby hzs hsz v n xs hsv hown ad m c news hx hl hnews h1 h63 hbytes hbase
      (fun v' w' q1 q2 q3 => hK.out _ _ (hS v' w' q1 q2 q3) (fun _ => hn v' w' q1 q2 q3))) hs
end
theorem stSl {w : World} {g : Nat} {v0 : Value} (h : Blk w g 149 #[v0]) (ev : Operand → Value) {x y : Operand} {A : Option Addr} {n c : Nat} {ty : TypeId} {ps : String} {af : Array Edge} {gd : Option (Nat × Bool)} (hx : ev x = .pointer (some ⟨g, 0, none⟩)) (hy : ev y = .slice A n c) :
    (execOp ev ⟨none, .store 149 x y, ty, ps, af, gd⟩).run Tryz.prog w = .ok .skip (w.setCell ⟨g, 0, none⟩ (.slice A n c)) := by
  have hc : w.cell? ⟨g, 0, none⟩ = some v0 := h.cell 0
  have hf : w.frozen? ⟨g, 0, none⟩ = false := h.frozen 0
  simp only [execOp, hx, hy]
  go_simp
/-- in the midst of the region -/
structure CoT (wL : World) (Ba Bd db : Nat) (v10 : Value) (W : World) : Prop where
  kl : Kp (OnB Ba) wL W
  ba : Blk W Ba 149 #[v10]
  bd : Blk W Bd 191 #[ptrV db]
structure CoS (wL : World) (Ba Bd db : Nat) (v10 : Value) (W0 W : World) : Prop extends CoT wL Ba Bd db v10 W where
  kp : Kp NoB W0 W
section
variable {wL : World} {Ba Bd db : Nat} {v10 : Value} {W0 W W' : World}
theorem CoT.sp (h : CoT wL Ba Bd db v10 W) : W.rangeAt Bd 0 [ptrV db] := Blk.range (xa := []) (xb := [ptrV db]) (xd := []) h.bd 0 rfl
theorem CoS.sp (h : CoS wL Ba Bd db v10 W0 W) : W.rangeAt Bd 0 [ptrV db] := h.toCoT.sp
theorem CoT.keep (h : CoT wL Ba Bd db v10 W) (k : Kp NoB W W') : CoT wL Ba Bd db v10 W' := ⟨h.kl.trans k (fun _ _ q => q.elim), h.ba.keep k (fun q => q), h.bd.keep k (fun q => q)⟩
theorem CoS.keep (h : CoS wL Ba Bd db v10 W0 W) (k : Kp NoB W W') : CoS wL Ba Bd db v10 W0 W' := ⟨h.toCoT.keep k, h.kp.trans k (fun _ _ q => q)⟩
theorem CoS.alloc (h : CoS wL Ba Bd db v10 W0 W) (o : Obj) : CoS wL Ba Bd db v10 W0 (W.alloc o) := h.keep ((Kp.refl _ _).alloc o)
theorem CoS.grown (h : CoS wL Ba Bd db v10 W0 W) {o : Obj} {w' : World} (hg : (W.alloc o).grownBy w' v10.ownBlock) {e : TypeId} {size n : Nat} {xs : List Value} {wx : World} (ho : wx.ownsRow wL.heap.size e size v10 n xs) (hBa : Ba < wL.heap.size := by omega) (hBd : Bd < wL.heap.size := by omega) : CoT wL Ba Bd db v10 w' := by
  have h2 := (h.alloc o).toCoT
  have hk : Kp (fun k => v10.ownBlock = some k) (W.alloc o) w' := (Kp.refl _ _).grown hg (fun k hk => .inr hk)
  have hge := own_ge ho
  exact ⟨h2.kl.own hg rfl ho, h2.ba.keep hk (fun q => by have := hge _ q; omega), h2.bd.keep hk (fun q => by have := hge _ q; omega)⟩
end
end Go.Proofs.YtoeldmkbmnkhkaaGreat
/- An append of what lies behind a slice that may be nil, among the ready operations; no condition. -/
namespace Go.Proofs.YtoeldmkbmnkhkaaGreat
open Go.RowKit

section
variable {P : Program} {ops : Array Oper} {Q : Exit → Act → World → Prop} {md : Region.Mode} {S : World → Prop} {fuel : Nat} {listed : Array Bool} {a : Act} {w : World} {i : Nat} {rs : List Nat}
variable {ds : Option Tmp} {ty : TypeId} {ps : String} {af : Array Edge}
end
theorem Blk.sp {w : World} {g : Nat} {t : TypeId} {cs : List Value} (h : Blk w g t cs.toArray) : w.rangeAt g 0 cs := fun j u hj => by
  rw [Nat.zero_add, h.cell, List.getElem?_toArray]
  exact hj
theorem Blk.past {w w' : World} {g : Nat} {t : TypeId} {cs : Array Value} {row : Option Nat} (h : Blk w g t cs) (hg : w.grownBy w' row) (hr : ∀ k, row = some k → k ≠ g) : Blk w' g t cs :=
  h.keep ((Kp.refl (fun b => b ≠ g) w).grown hg (fun k hk => .inr (hr k hk))) (fun q => q rfl)
theorem Blk.rc {w : World} {g : Nat} {t : TypeId} {x : Cg} (h : Blk w g t #[.string x.nm, .int .i64 x.sec, .int .i64 x.n, .string (strOf x.s)]) : ∀ j u, (rcCells x)[j]? = some u → w.cell? ((⟨g, 0, none⟩ : Addr).add j) = some u := fun j u hj => by
  rw [add_mk, Nat.zero_add, h.cell]
  show (rcCells x).toArray[j]? = some u
  rw [List.getElem?_toArray]
  exact hj
end Go.Proofs.YtoeldmkbmnkhkaaGreat
