/- Texts of this proof, one behind the other: lemmas and contracts; each says its own conditions. -/
import Derived.Test.YtegcbdfilkecpaaGreatQ6
import Derived.Test.YtegcbdfilkecpaaGreatQ7
import Derived.Test.YtegcbdfilkecpaaGreatQ9
import Derived.Laws.Cover3
import Derived.RangeFuncNested
import Derived.RangeFuncBound
import Derived.RangeFuncCalls
import Derived.RangeFuncLeaves
import Derived.RangeFuncBox
import Derived.Shelf.Abstract
import Derived.Shelf.RegionOpen
import Derived.WalkKit
import Derived.OwnWalkIn
import Derived.TacticsInMore
import Derived.LoopNIn
import Derived.LoopIn
import Derived.Maps.AppendAt
namespace Go.Proofs.YtegcbdfilkecpaaGreat
section
open Go.RowKit
def IntoG (F : Nat → Act) (G : World → Nat → Prop) : Exit → Act → World → Prop
 | .normal, a, w => ∃ g, a = F g ∧ G w g
 | _, _, _ => False
theorem wp_intoG {P : Program} {c : Code} {Q : Exit → Act → World → Prop} {a : Act} {w : World} (F : Nat → Act) (G : World → Nat → Prop) (h : c.wp P (IntoG F G) a w) (k : ∀ g w', G w' g → Q .normal (F g) w') : c.wp P Q a w :=
 Code.wp_mono (fun e a w q => by cases e <;> first | exact q.elim | (obtain ⟨g, rfl, hg⟩ := q; exact k g _ hg)) h
theorem intoG_of {F : Nat → Act} {G : World → Nat → Prop} {a : Act} {w : World} (g : Nat) (q : G w g) (e : a = F g) : IntoG F G .normal a w := ⟨g, e, q⟩
def frV (n en : Int) (s : ByteArray) : Array Value := (.int .i64 n :: ((zeros 256).map (Value.int .u8) ++ [.int .i64 en, .string s])).toArray
theorem frV_size (n en : Int) (s : ByteArray) : (frV n en s).size = 259 := by
 unfold frV
 rw [List.size_toArray, List.length_cons, List.length_append, List.length_map]
 unfold zeros
 rw [List.length_replicate]
 rfl
theorem frV_ones (n en : Int) (s : ByteArray) : ones (frV n en s) := by
 refine ones_of (fun u hu => ?_)
 rcases List.mem_cons.1 hu with rfl | hu
 ·rfl
 ·rcases List.mem_append.1 hu with hu | hu
  ·exact u8_one _ u hu
  ·simp only [List.mem_cons, List.not_mem_nil, or_false] at hu
   rcases hu with rfl | rfl <;> rfl
theorem zeros256 : (zeros 256).length = 256 := List.length_replicate ..
theorem fr0_size : fr0.size = 259 := frV_size 0 0 ⟨#[]⟩
theorem fr0_ones : ones fr0 := frV_ones 0 0 ⟨#[]⟩
def ParsePost (b : List Int) (w : World) (e : Ending) (w' : World) : Prop := ∃ cs, e = .returned (.tuple #[.agg cs, .bool (frP b).isSome]) ∧ cs.size = 259 ∧ ones cs ∧ (∀ f, frP b = some f → cs = (frL f).toArray) ∧ Kp NoB w w'
attribute [local go_sem ↓] loadFr storeFr allocFr buildFr0
set_option maxRecDepth 100000 in
set_option maxHeartbeats 1600000 in
theorem parse_q (w : World) (b : List Int) (hb : ∀ y ∈ b, 0 ≤ y ∧ y < 256) (hl : b.length ≤ 1048576) : Calls Tryz.prog 77 #[.string (strOf b)] w (ParsePost b w) := by
 have hsz := strOf_size b
 have HB := zh hb
 have HF0 := zh fr0_size
 have hone := fr0_ones
 clear hb
 by_cases hs : b.length < 320
 ·have hs1 : ((strOf b).size : Int) < 320 := by omega
  have HP : Hid (frP b = none) := zh (by unfold frP; rw [if_pos hs])
  obtain ⟨s, he⟩ : ∃ s, strOf b = s := ⟨_, rfl⟩
  rw [he] at hs1 ⊢
  clear hsz hs he
  go_enter Tryz.func77, Tryz.ntmps77
  go_upto_region 1 with fail
  have hb2 : Blk (w.alloc (.cells fr0 85)) w.heap.size 85 fr0 := Blk.new _ _ _
  have hk2 : Kp NoB w (w.alloc (.cells fr0 85)) := (Kp.refl NoB w).alloc _
  have ht2 := hb2.thereAll 259 HF0.out
  have hgs : w.heap.size ≤ w.heap.size := Nat.le_refl _
  generalize w.alloc (.cells fr0 85) = w1 at hb2 hk2 ht2 ⊢
  have hsz0 := HF0.out
  go_wp2_with fail
  refine bodyPost_ret (ret_cell_tmp rfl _ _ _ _ _ _ rfl (hb2.whole fr0 rfl) Tryz.underlying85 rfl (by rw [fr0_size]; exact infoFrS) _ rfl) rfl ⟨fr0, by rw [HP.out]; rfl, HF0.out, fr0_ones, (fun f q => by rw [HP.out] at q; cases q), Kp.setCells (.inl hgs) _ _ _ hk2⟩
 ·have hs1 : ¬ ((strOf b).size : Int) < 320 := by omega
  obtain ⟨s, he⟩ : ∃ s, strOf b = s := ⟨_, rfl⟩
  rw [he] at hs1 hsz ⊢
  have HS := zh he
  have HLE : Hid (320 ≤ b.length) := zh (by omega)
  have h4 : s.extract 4 s.size = strOf (b.drop 4) := by rw [← he, strOf_sub, strOf_size, List.take_of_length_le (by rw [List.length_drop]; omega)]
  have h8 : s.extract 8 64 = strOf ((b.drop 8).take 56) := by rw [← he]; exact strOf_sub b 8 64
  have h64 : s.extract 64 320 = strOf ((b.drop 64).take 256) := by rw [← he]; exact strOf_sub b 64 320
  obtain ⟨s4, e4⟩ : ∃ s4, s.extract 4 s.size = s4 := ⟨_, rfl⟩
  obtain ⟨s8, e8⟩ : ∃ s8, s.extract 8 64 = s8 := ⟨_, rfl⟩
  obtain ⟨sT, eT⟩ : ∃ sT, s.extract 64 320 = sT := ⟨_, rfl⟩
  have HS4 : Hid (strOf (b.drop 4) = s4) := zh (by rw [← h4, e4])
  have HS8 : Hid (strOf ((b.drop 8).take 56) = s8) := zh (by rw [← h8, e8])
  have HST : Hid (strOf ((b.drop 64).take 256) = sT) := zh (by rw [← h64, eT])
  have HX4 := zh e4
  have HX8 := zh e8
  have HX64 := zh eT
  obtain ⟨N, hN⟩ : ∃ N, num b 0 = N := ⟨_, rfl⟩
  obtain ⟨E, hE⟩ : ∃ E, num b 4 = E := ⟨_, rfl⟩
  have HN := zh hN
  have HE : Hid (num (b.drop 4) 0 = E) := zh (by rw [← hE]; unfold num; simp only [List.getD_eq_getElem?_getD, List.getElem?_drop])
  have HNE := zh hE
  have hge : 320 ≤ s.size := by omega
  have hi4 : (4 : Int) ≤ (s.size : Int) := by omega
  have hi64 : (64 : Int) ≤ (s.size : Int) := by omega
  have hi320 : (320 : Int) ≤ (s.size : Int) := by omega
  clear hs he h4 h8 h64 hN hE hsz
  go_enter Tryz.func77, Tryz.ntmps77
  go_upto_region 1 with fail
  have hb2 : Blk (w.alloc (.cells fr0 85)) w.heap.size 85 fr0 := Blk.new _ _ _
  have hk2 : Kp NoB w (w.alloc (.cells fr0 85)) := (Kp.refl NoB w).alloc _
  generalize w.alloc (.cells fr0 85) = w1 at hb2 hk2 ⊢
  obtain ⟨g2, hg2⟩ : ∃ g2, w.heap.size = g2 := ⟨_, rfl⟩
  rw [hg2] at hb2 ⊢
  have HG2 := zh hg2
  have HB2 := zh hb2
  have HK2 := zh hk2
  clear hg2 hb2 hk2
  go_upto_region 3 with fail
  apply wp_intoG (G := fun W g4 => Blk W g4 85 (frV N E sT) ∧ Kp NoB w1 W)
  ·refine wp_region_held_drew (S := fun V => Kp NoB w1 V) (by kernel_rfl) (Kp.refl NoB w1).drew (fun hHeld => ?_)
   have k0 : Kp NoB w1 w1.drew := (Kp.refl NoB w1).drew
   generalize w1.drew = V0 at k0 hHeld ⊢
   refine tkJ (i := 0) (v := (.string s)) rfl k0 ?_
   simp only [Act.put, sA, sB, sC]
   refine tkJ (i := 3) (v := (.string s)) rfl k0 ?_
   simp only [Act.put, sA, sB, sC]
   refine tkS (i := 4) (v := (.string s4)) rfl (Or.inl ⟨by rfl, fun w' hq => by have ee := e4; go_simp⟩) k0 ?_
   simp only [Act.put, sA, sB, sC]
   refine tkJ (i := 6) (v := (.string s)) rfl k0 ?_
   simp only [Act.put, sA, sB, sC]
   refine tkS (i := 7) (v := (.string sT)) rfl (Or.inl ⟨by rfl, fun w' hq => by have ee := eT; go_simp⟩) k0 ?_
   simp only [Act.put, sA, sB, sC]
   refine tkR [1, 9] ?_
   refine AllReadyH.callR (fun y W' => y = .int .i64 N ∧ Kp NoB V0 W') rfl (by rfl) 108 #[.string s] (by first | (go_simp; done) | (go_simp; rfl)) (fun _ _ q => k0.trans q.2 (fun _ _ z => z)) ((show Calls _ _ #[.string s] _ _ by rw [← HS.out]; exact number_q V0 b HB.out (by have := HLE.out; omega)).mono (by rintro e w19 ⟨rfl, hk⟩; exact ⟨_, rfl, by rw [HN.out], hk⟩)) ?_ ?_
   ·rintro y V1 ⟨rfl, kk1⟩
    have k1 := k0.trans kk1 (fun _ _ z => z)
    simp only [Act.put, sA, sB, sC]
    refine tkS (i := 2) (v := .agg (pgA ⟨N, zeros 256⟩)) rfl (Or.inl ⟨by rfl, fun w' hq => exBuildPg1 w' _ _ N _ _ _ _ _ rfl⟩) k1 ?_
    simp only [Act.put, sA, sB, sC]
    refine tkR [5, 9] ?_
    refine AllReadyH.callR (fun y W' => y = .int .i64 E ∧ Kp NoB V1 W') rfl (by rfl) 108 #[.string s4] (by first | (go_simp; done) | (go_simp; rfl)) (fun _ _ q => k1.trans q.2 (fun _ _ z => z)) ((show Calls _ _ #[.string s4] _ _ by rw [← HS4.out]; exact number_q V1 (b.drop 4) (fun y hy => HB.out y (List.mem_of_mem_drop hy)) (by rw [List.length_drop]; have := HLE.out; omega)).mono (by rintro e w19 ⟨rfl, hk⟩; exact ⟨_, rfl, by rw [HE.out], hk⟩)) ?_ ?_
    ·rintro y V2 ⟨rfl, kk2⟩
     have k2 := k1.trans kk2 (fun _ _ z => z)
     simp only [Act.put, sA, sB, sC]
     refine tkS (i := 8) (v := .agg (frV N E sT)) rfl (Or.inl ⟨by rfl, fun w' hq => exBuildFr3 w' _ _ _ _ N E (zeros 256) sT zeros256 _ _ _ _ _ rfl rfl rfl⟩) k2 ?_
     simp only [Act.put, sA, sB, sC]
     refine tkR [9] ?_
     refine AllReadyH.valR (fun W' => W' = V2.alloc (.cells fr0 85)) rfl (by rfl) _ _ (allocFr V2 _ _ _ _ _ _) (fun W' e => by rw [e]; exact k2.alloc _) rfl ?_ AllReadyH.nil
     rintro _ rfl
     have hb4 : Blk (V2.alloc (.cells fr0 85)) V2.heap.size 85 fr0 := Blk.new _ _ _
     have k3 : Kp NoB w1 (V2.alloc (.cells fr0 85)) := k2.alloc _
     have hg4 : w1.heap.size ≤ V2.heap.size := k2.size
     generalize V2.alloc (.cells fr0 85) = V3 at hb4 k3 ⊢
     generalize V2.heap.size = g4 at hb4 hg4 ⊢
     simp only [Act.put, sA, sB, sC]
     refine tkR [10] ?_
     have hbe := hb4.whole (frV N E sT) (by rw [frV_size, fr0_size])
     have hkc : Kp NoB w1 (V3.setCells g4 0 (frV N E sT).toList) := Kp.setCells (S := NoB) (.inl hg4) _ _ _ k3
     refine AllReadyH.storeL rfl (by rfl) g4 0 (frV N E sT) rfl rfl (hb4.thereAll _ (by rw [frV_size, fr0_size])) (by rw [frV_size]; exact infoFrS) (frV_ones _ _ _) hkc ?_ AllReadyH.nil
     generalize V3.setCells g4 0 (frV N E sT).toList = W9 at hbe hkc ⊢
     refine wpAnyH_done (by kernel_rfl) ?_ _
     exact intoG_of g4 ⟨hbe, hkc⟩ rfl
    ·refine AllReadyH.valR (fun W' => W' = V1.alloc (.cells fr0 85)) rfl (by rfl) _ _ (allocFr V1 _ _ _ _ _ _) (fun W' e => by rw [e]; exact k1.alloc _) rfl ?_ AllReadyH.nil
     rintro _ rfl
     have hb4 : Blk (V1.alloc (.cells fr0 85)) V1.heap.size 85 fr0 := Blk.new _ _ _
     have k2 : Kp NoB w1 (V1.alloc (.cells fr0 85)) := k1.alloc _
     have hg4 : w1.heap.size ≤ V1.heap.size := k1.size
     generalize V1.alloc (.cells fr0 85) = V2 at hb4 k2 ⊢
     generalize V1.heap.size = g4 at hb4 hg4 ⊢
     simp only [Act.put, sA, sB, sC]
     refine tkR [5] ?_
     refine AllReadyH.callR (fun y W' => y = .int .i64 E ∧ Kp NoB V2 W') rfl (by rfl) 108 #[.string s4] (by first | (go_simp; done) | (go_simp; rfl)) (fun _ _ q => k2.trans q.2 (fun _ _ z => z)) ((show Calls _ _ #[.string s4] _ _ by rw [← HS4.out]; exact number_q V2 (b.drop 4) (fun y hy => HB.out y (List.mem_of_mem_drop hy)) (by rw [List.length_drop]; have := HLE.out; omega)).mono (by rintro e w19 ⟨rfl, hk⟩; exact ⟨_, rfl, by rw [HE.out], hk⟩)) ?_ AllReadyH.nil
     rintro y V3 ⟨rfl, kk3⟩
     have k3 := k2.trans kk3 (fun _ _ z => z)
     have hb4 := hb4.keep kk3 (fun q => q)
     simp only [Act.put, sA, sB, sC]
     refine tkS (i := 8) (v := .agg (frV N E sT)) rfl (Or.inl ⟨by rfl, fun w' hq => exBuildFr3 w' _ _ _ _ N E (zeros 256) sT zeros256 _ _ _ _ _ rfl rfl rfl⟩) k3 ?_
     simp only [Act.put, sA, sB, sC]
     refine tkR [10] ?_
     have hbe := hb4.whole (frV N E sT) (by rw [frV_size, fr0_size])
     have hkc : Kp NoB w1 (V3.setCells g4 0 (frV N E sT).toList) := Kp.setCells (S := NoB) (.inl hg4) _ _ _ k3
     refine AllReadyH.storeL rfl (by rfl) g4 0 (frV N E sT) rfl rfl (hb4.thereAll _ (by rw [frV_size, fr0_size])) (by rw [frV_size]; exact infoFrS) (frV_ones _ _ _) hkc ?_ AllReadyH.nil
     generalize V3.setCells g4 0 (frV N E sT).toList = W9 at hbe hkc ⊢
     refine wpAnyH_done (by kernel_rfl) ?_ _
     exact intoG_of g4 ⟨hbe, hkc⟩ rfl
   ·refine AllReadyH.valR (fun W' => W' = V0.alloc (.cells fr0 85)) rfl (by rfl) _ _ (allocFr V0 _ _ _ _ _ _) (fun W' e => by rw [e]; exact k0.alloc _) rfl ?_ AllReadyH.nil
    rintro _ rfl
    have hb4 : Blk (V0.alloc (.cells fr0 85)) V0.heap.size 85 fr0 := Blk.new _ _ _
    have k1 : Kp NoB w1 (V0.alloc (.cells fr0 85)) := k0.alloc _
    have hg4 : w1.heap.size ≤ V0.heap.size := k0.size
    generalize V0.alloc (.cells fr0 85) = V1 at hb4 k1 ⊢
    generalize V0.heap.size = g4 at hb4 hg4 ⊢
    simp only [Act.put, sA, sB, sC]
    refine tkR [1] ?_
    refine AllReadyH.callR (fun y W' => y = .int .i64 N ∧ Kp NoB V1 W') rfl (by rfl) 108 #[.string s] (by first | (go_simp; done) | (go_simp; rfl)) (fun _ _ q => k1.trans q.2 (fun _ _ z => z)) ((show Calls _ _ #[.string s] _ _ by rw [← HS.out]; exact number_q V1 b HB.out (by have := HLE.out; omega)).mono (by rintro e w19 ⟨rfl, hk⟩; exact ⟨_, rfl, by rw [HN.out], hk⟩)) ?_ AllReadyH.nil
    rintro y V2 ⟨rfl, kk2⟩
    have k2 := k1.trans kk2 (fun _ _ z => z)
    have hb4 := hb4.keep kk2 (fun q => q)
    simp only [Act.put, sA, sB, sC]
    refine tkS (i := 2) (v := .agg (pgA ⟨N, zeros 256⟩)) rfl (Or.inl ⟨by rfl, fun w' hq => exBuildPg1 w' _ _ N _ _ _ _ _ rfl⟩) k2 ?_
    simp only [Act.put, sA, sB, sC]
    refine tkR [5] ?_
    refine AllReadyH.callR (fun y W' => y = .int .i64 E ∧ Kp NoB V2 W') rfl (by rfl) 108 #[.string s4] (by first | (go_simp; done) | (go_simp; rfl)) (fun _ _ q => k2.trans q.2 (fun _ _ z => z)) ((show Calls _ _ #[.string s4] _ _ by rw [← HS4.out]; exact number_q V2 (b.drop 4) (fun y hy => HB.out y (List.mem_of_mem_drop hy)) (by rw [List.length_drop]; have := HLE.out; omega)).mono (by rintro e w19 ⟨rfl, hk⟩; exact ⟨_, rfl, by rw [HE.out], hk⟩)) ?_ AllReadyH.nil
    rintro y V3 ⟨rfl, kk3⟩
    have k3 := k2.trans kk3 (fun _ _ z => z)
    have hb4 := hb4.keep kk3 (fun q => q)
    simp only [Act.put, sA, sB, sC]
    refine tkS (i := 8) (v := .agg (frV N E sT)) rfl (Or.inl ⟨by rfl, fun w' hq => exBuildFr3 w' _ _ _ _ N E (zeros 256) sT zeros256 _ _ _ _ _ rfl rfl rfl⟩) k3 ?_
    simp only [Act.put, sA, sB, sC]
    refine tkR [10] ?_
    have hbe := hb4.whole (frV N E sT) (by rw [frV_size, fr0_size])
    have hkc : Kp NoB w1 (V3.setCells g4 0 (frV N E sT).toList) := Kp.setCells (S := NoB) (.inl hg4) _ _ _ k3
    refine AllReadyH.storeL rfl (by rfl) g4 0 (frV N E sT) rfl rfl (hb4.thereAll _ (by rw [frV_size, fr0_size])) (by rw [frV_size]; exact infoFrS) (frV_ones _ _ _) hkc ?_ AllReadyH.nil
    generalize V3.setCells g4 0 (frV N E sT).toList = W9 at hbe hkc ⊢
    refine wpAnyH_done (by kernel_rfl) ?_ _
    exact intoG_of g4 ⟨hbe, hkc⟩ rfl
  ·rintro g4 w2 ⟨hb4, hk4⟩
   have HB4 := zh hb4
   have HB22 := zh (HB2.out.keep hk4 (fun q => q))
   have HK4 := zh (HK2.out.trans hk4 (fun _ _ q => q))
   have c4n : w2.cell? ⟨g4, 0, none⟩ = some (.int .i64 N) := hb4.cell 0
   have c4e : w2.cell? ⟨g4, 257, none⟩ = some (.int .i64 E) := by
    rw [hb4.cell]
    unfold frV
    rw [List.getElem?_toArray, List.getElem?_cons_succ, List.getElem?_append_right (by rw [List.length_map, zeros256]; omega), List.length_map, zeros256]
    rfl
   have ht4 := HB4.out.thereAll 259 (frV_size N E sT)
   have hr4 := HB4.out.readAll 259 (frV_size N E sT)
   have ht2 := HB22.out.thereAll 259 HF0.out
   have hl4 := HB4.out.lt
   have hl2 := HB22.out.lt
   have hfs := frV_size N E sT
   have hfo := frV_ones N E sT
   clear hb4 hk4 HB2 HK2
   have hz56 : strOf (zeros 56) = ⟨#[0, 0, 0, 0, 0, 0, 0, 0, 0, 0, 0, 0, 0, 0, 0, 0, 0, 0, 0, 0, 0, 0, 0, 0, 0, 0, 0, 0, 0, 0, 0, 0, 0, 0, 0, 0, 0, 0, 0, 0, 0, 0, 0, 0, 0, 0, 0, 0, 0, 0, 0, 0, 0, 0, 0, 0]⟩ := by kernel_rfl
   have hbq := str_eqB s8 ⟨#[0, 0, 0, 0, 0, 0, 0, 0, 0, 0, 0, 0, 0, 0, 0, 0, 0, 0, 0, 0, 0, 0, 0, 0, 0, 0, 0, 0, 0, 0, 0, 0, 0, 0, 0, 0, 0, 0, 0, 0, 0, 0, 0, 0, 0, 0, 0, 0, 0, 0, 0, 0, 0, 0, 0, 0]⟩
   rw [show ((⟨#[0, 0, 0, 0, 0, 0, 0, 0, 0, 0, 0, 0, 0, 0, 0, 0, 0, 0, 0, 0, 0, 0, 0, 0, 0, 0, 0, 0, 0, 0, 0, 0, 0, 0, 0, 0, 0, 0, 0, 0, 0, 0, 0, 0, 0, 0, 0, 0, 0, 0, 0, 0, 0, 0, 0, 0]⟩ : ByteArray).toList : List UInt8) = [0, 0, 0, 0, 0, 0, 0, 0, 0, 0, 0, 0, 0, 0, 0, 0, 0, 0, 0, 0, 0, 0, 0, 0, 0, 0, 0, 0, 0, 0, 0, 0, 0, 0, 0, 0, 0, 0, 0, 0, 0, 0, 0, 0, 0, 0, 0, 0, 0, 0, 0, 0, 0, 0, 0, 0] from by rw [ByteArray.toList_eq]] at hbq
   have hiff : s8 = ⟨#[0, 0, 0, 0, 0, 0, 0, 0, 0, 0, 0, 0, 0, 0, 0, 0, 0, 0, 0, 0, 0, 0, 0, 0, 0, 0, 0, 0, 0, 0, 0, 0, 0, 0, 0, 0, 0, 0, 0, 0, 0, 0, 0, 0, 0, 0, 0, 0, 0, 0, 0, 0, 0, 0, 0, 0]⟩ ↔ (b.drop 8).take 56 = zeros 56 := by
    rw [← hz56, ← HS8.out]
    constructor
    ·intro q
     have := congrArg strI q
     rw [strI_strOf _ (fun y hy => HB.out y (List.mem_of_mem_drop (List.mem_of_mem_take hy))), strI_strOf _ (zeros_rng 56)] at this
     exact this
    ·intro q
     rw [q]
   have hN0 := num_ge HB.out 0
   have hE0 := num_ge HB.out 4
   rw [HN.out] at hN0
   rw [HNE.out] at hE0
   have HFN : Hid (¬ ((b.drop 8).take 56 = zeros 56 ∧ N ≤ 4096 ∧ E ≤ 4097 ∧ (0 < N ∨ 0 < E)) → frP b = none) := zh (fun q => by unfold frP; rw [if_neg (by have := HLE.out; omega), HN.out, HNE.out, if_neg q])
   have HFS : Hid ((b.drop 8).take 56 = zeros 56 ∧ N ≤ 4096 ∧ E ≤ 4097 ∧ (0 < N ∨ 0 < E) → frP b = some ⟨N, E, (b.drop 64).take 256⟩) := zh (fun q => by unfold frP; rw [if_neg (by have := HLE.out; omega), HN.out, HNE.out, if_pos q])
   have HCN : Hid (frP b = none → ∀ f, frP b = some f → frV N E sT = (frL f).toArray) := zh (fun q f h => by rw [q] at h; cases h)
   have HCS : Hid (frP b = some ⟨N, E, (b.drop 64).take 256⟩ → ∀ f, frP b = some f → frV N E sT = (frL f).toArray) := zh (fun q f h => by
    rw [q] at h
    injection h with h
    rw [← h]
    unfold frV frL
    rw [HST.out])
   clear hz56
   by_cases hz : (b.drop 8).take 56 = zeros 56
   ·rw [decide_eq_true (hiff.2 hz)] at hbq
    by_cases hn : N ≤ 4096
    ·by_cases hen : E ≤ 4097
     ·by_cases hp : 0 < N
      ·have HFP := zh (HFS.out ⟨hz, hn, hen, .inl hp⟩)
       have HFC := zh (HCS.out HFP.out)
       clear hiff hz
       go_wp2_with fail
       refine bodyPost_ret (ret_cell_tmp rfl _ _ _ _ _ _ rfl (HB22.out.whole (frV N E sT) (by rw [frV_size, HF0.out])) Tryz.underlying85 rfl (by rw [frV_size]; exact infoFrS) _ rfl) rfl ⟨frV N E sT, by rw [HFP.out]; rfl, frV_size N E sT, frV_ones N E sT, HFC.out, Kp.setCells (.inl (by rw [HG2.out]; exact Nat.le_refl _)) _ _ _ HK4.out⟩
      ·by_cases hpe : 0 < E
       ·have HFP := zh (HFS.out ⟨hz, hn, hen, .inr hpe⟩)
        have HFC := zh (HCS.out HFP.out)
        clear hiff hz
        go_wp2_with fail
        refine bodyPost_ret (ret_cell_tmp rfl _ _ _ _ _ _ rfl (HB22.out.whole (frV N E sT) (by rw [frV_size, HF0.out])) Tryz.underlying85 rfl (by rw [frV_size]; exact infoFrS) _ rfl) rfl ⟨frV N E sT, by rw [HFP.out]; rfl, frV_size N E sT, frV_ones N E sT, HFC.out, Kp.setCells (.inl (by rw [HG2.out]; exact Nat.le_refl _)) _ _ _ HK4.out⟩
       ·have HFP := zh (HFN.out (fun q => by omega))
        have HFC := zh (HCN.out HFP.out)
        clear hiff hz
        go_wp2_with fail
        refine bodyPost_ret (ret_cell_tmp rfl _ _ _ _ _ _ rfl (HB22.out.whole (frV N E sT) (by rw [frV_size, HF0.out])) Tryz.underlying85 rfl (by rw [frV_size]; exact infoFrS) _ rfl) rfl ⟨frV N E sT, by rw [HFP.out]; rfl, frV_size N E sT, frV_ones N E sT, HFC.out, Kp.setCells (.inl (by rw [HG2.out]; exact Nat.le_refl _)) _ _ _ HK4.out⟩
     ·have HFP := zh (HFN.out (fun q => hen q.2.2.1))
      have HFC := zh (HCN.out HFP.out)
      clear hiff hz
      go_wp2_with fail
      refine bodyPost_ret (ret_cell_tmp rfl _ _ _ _ _ _ rfl (HB22.out.whole (frV N E sT) (by rw [frV_size, HF0.out])) Tryz.underlying85 rfl (by rw [frV_size]; exact infoFrS) _ rfl) rfl ⟨frV N E sT, by rw [HFP.out]; rfl, frV_size N E sT, frV_ones N E sT, HFC.out, Kp.setCells (.inl (by rw [HG2.out]; exact Nat.le_refl _)) _ _ _ HK4.out⟩
    ·have HFP := zh (HFN.out (fun q => hn q.2.1))
     have HFC := zh (HCN.out HFP.out)
     clear hiff hz
     go_wp2_with fail
     refine bodyPost_ret (ret_cell_tmp rfl _ _ _ _ _ _ rfl (HB22.out.whole (frV N E sT) (by rw [frV_size, HF0.out])) Tryz.underlying85 rfl (by rw [frV_size]; exact infoFrS) _ rfl) rfl ⟨frV N E sT, by rw [HFP.out]; rfl, frV_size N E sT, frV_ones N E sT, HFC.out, Kp.setCells (.inl (by rw [HG2.out]; exact Nat.le_refl _)) _ _ _ HK4.out⟩
   ·rw [decide_eq_false (fun q => hz (hiff.1 q))] at hbq
    have HFP := zh (HFN.out (fun q => hz q.1))
    have HFC := zh (HCN.out HFP.out)
    clear hiff hz
    go_wp2_with fail
    refine bodyPost_ret (ret_cell_tmp rfl _ _ _ _ _ _ rfl (HB22.out.whole (frV N E sT) (by rw [frV_size, HF0.out])) Tryz.underlying85 rfl (by rw [frV_size]; exact infoFrS) _ rfl) rfl ⟨frV N E sT, by rw [HFP.out]; rfl, frV_size N E sT, frV_ones N E sT, HFC.out, Kp.setCells (.inl (by rw [HG2.out]; exact Nat.le_refl _)) _ _ _ HK4.out⟩
end
section
open Go.RowKit
def lgC (db : Nat) (H : W4) (A : Option Addr) (n c : Nat) : Array Value := #[ptrV db, .int .u32 H.a, .int .u32 H.b, .int .u32 H.c, .int .u32 H.d, .slice A n c]
def frCells (fs : List Fr) : List Value := fs.flatMap frL
def OpenPost (p : Pl) (db : Nat) (w : World) (e : Ending) (w' : World) : Prop :=
 (p.wopen.1 ≠ 0 ∧ e = .returned (.tuple #[.pointer none, .int .i64 p.wopen.1]) ∧ Kp NoB w w') ∨
 (p.wopen.1 = 0 ∧ ∃ (lb : Nat) (A : Option Addr) (c : Nat), e = .returned (.tuple #[.pointer (some ⟨lb, 0, none⟩), .int .i64 0]) ∧ Blk w' lb 83 (lgC db p.whead A p.wopen.2.length c) ∧
  w'.ownsRow w.heap.size 85 259 (.slice A p.wopen.2.length c) p.wopen.2.length (frCells p.wopen.2) ∧ w.heap.size ≤ lb ∧ Kp NoB w w')
attribute [local go_sem ↓] loadFr storeFr allocFr loadSec storeSec loadW4 storeW4
theorem nmW_le : nmWal.size ≤ maxLen := by decide
set_option maxRecDepth 100000 in
set_option maxHeartbeats 1600000 in
theorem wopen_down {S : Nat → Prop} {W0 w : World} {db : Nat} {p : Pl} (h : Dq S W0 w db p) (hd : p.down = true) : Calls Tryz.prog 31 #[ptrV db] w (OpenPost p db w) := by
 have H := zh h
 clear h
 have HD := zh hd
 have hre : p.readE 0 64 = 7 := by unfold Pl.readE; rw [if_pos hd]
 have HRE := zh hre
 clear hd hre
 unfold ptrV
 go_enter Tryz.func31, Tryz.ntmps31
 go_wp2_with fail
 refine (show Calls _ _ #[ptrV db, .string ⟨#[119, 97, 108]⟩, .int .i64 0, .int .i64 64] _ _ from read_q H.out nmWal 0 64 nmW_le (by omega) (by omega)).mono ?_
 rintro e w1 ⟨rfl, hk1⟩
 rw [HRE.out]
 have HK1 := zh hk1
 clear hk1
 go_wp2_with fail
 go_ret2
 have hwo : p.wopen.1 = 7 := by unfold Pl.wopen; rw [if_pos HD.out]
 exact .inl ⟨by rw [hwo]; decide, by rw [hwo]; rfl, HK1.out⟩
structure OpW (w : World) (db lb : Nat) (H : W4) (A : Option Addr) (n c : Nat) (W : World) : Prop where
 b : Blk W lb 83 (lgC db H A n c)
 ge : w.heap.size ≤ lb
 kp : Kp NoB w W
theorem OpW.keep {w : World} {db lb : Nat} {H : W4} {A : Option Addr} {n c : Nat} {W W' : World} (h : OpW w db lb H A n c W) (k : Kp NoB W W') : OpW w db lb H A n c W' := ⟨h.b.keep k (fun q => q), h.ge, h.kp.trans k (fun _ _ q => q)⟩
theorem OpW.new {w w1 : World} {db : Nat} (hk : Kp NoB w w1) : OpW w db w1.heap.size ⟨0, 0, 0, 0⟩ none 0 0 (w1.alloc (.cells #[.pointer (some ⟨db, 0, none⟩), .int .u32 0, .int .u32 0, .int .u32 0, .int .u32 0, .slice none 0 0] 83)) :=
 ⟨Blk.new _ _ _, hk.size, hk.trans ((Kp.refl _ _).alloc _) (fun _ _ q => q)⟩
theorem OpW.cl {w : World} {db lb : Nat} {H : W4} {A : Option Addr} {n c : Nat} {W : World} (h : OpW w db lb H A n c W) : W.cell? ⟨lb, 0, none⟩ = some (.pointer (some ⟨db, 0, none⟩)) ∧ W.cell? ⟨lb, 1, none⟩ = some (.int .u32 H.a) ∧ W.cell? ⟨lb, 2, none⟩ = some (.int .u32 H.b) ∧ W.cell? ⟨lb, 3, none⟩ = some (.int .u32 H.c) ∧ W.cell? ⟨lb, 4, none⟩ = some (.int .u32 H.d) ∧ W.cell? ⟨lb, 5, none⟩ = some (.slice A n c) :=
 ⟨h.b.cell 0, h.b.cell 1, h.b.cell 2, h.b.cell 3, h.b.cell 4, h.b.cell 5⟩
set_option maxRecDepth 100000 in
set_option maxHeartbeats 1600000 in
theorem wopen_short {S : Nat → Prop} {W0 w : World} {db : Nat} {p : Pl} (h : Dq S W0 w db p) (hd : p.down = false) (hs : (p.seen nmWal).length < 64) : Calls Tryz.prog 31 #[ptrV db] w (OpenPost p db w) := by
 have H := zh h
 have hh : p.whead = ⟨0, 0, 0, 0⟩ := by unfold Pl.whead says; rw [if_pos hs]
 have HH := zh hh
 have hwo : p.wopen = (0, []) := by
  unfold Pl.wopen
  rw [hd, hh]
  rfl
 have HWO := zh hwo
 have hre : p.readE 0 64 = 0 := by unfold Pl.readE; rw [hd]; decide
 have hrd : p.read nmWal 0 64 = (p.seen nmWal).take 64 := by unfold Pl.read; rw [if_pos hre]; rfl
 have hre2 : p.readE 0 1048576 = 0 := by unfold Pl.readE; rw [hd]; decide
 have HRE := zh hre
 have HRD := zh hrd
 have HRE2 := zh hre2
 have hsz : (strOf ((p.seen nmWal).take 64)).size < 64 := by rw [strOf_size, List.length_take]; omega
 clear hd hre hrd hre2 hh hwo h hs
 unfold ptrV
 go_enter Tryz.func31, Tryz.ntmps31
 go_wp2_with fail
 refine (show Calls _ _ #[ptrV db, .string ⟨#[119, 97, 108]⟩, .int .i64 0, .int .i64 64] _ _ from read_q H.out nmWal 0 64 nmW_le (by omega) (by omega)).mono ?_
 rintro e w1 ⟨rfl, hk1⟩
 rw [HRE.out, HRD.out]
 have HK1 := zh hk1
 generalize strOf ((p.seen nmWal).take 64) = s at hsz ⊢
 have hs1 : ¬ (s.size : Int) = 64 := by omega
 clear hk1 hsz
 go_upto_region 5 with fail
 refine forget (p := fun wx => Code.wp _ _ _ _ wx) (OpW w db w1.heap.size ⟨0, 0, 0, 0⟩ none 0 0) (OpW.new HK1.out) ?_
 intro w2 h2
 obtain ⟨lb, hlb⟩ : ∃ lb, w1.heap.size = lb := ⟨_, rfl⟩
 rw [hlb] at h2 ⊢
 have HP2 := zh h2
 obtain ⟨c0, c1, c2, c3, c4, c5⟩ := h2.cl
 clear h2 hlb
 go_wp2_with fail
 refine (show Calls _ _ #[ptrV db, .string ⟨#[119, 97, 108]⟩, .int .i64 0, .int .i64 1048576] _ _ from read_q (H.out.keep HP2.out.kp) nmWal 0 1048576 nmW_le (by omega) (by omega)).mono ?_
 rintro e w3 ⟨rfl, hk3⟩
 rw [HRE2.out]
 have HP3 := zh (HP2.out.keep hk3)
 obtain ⟨c0, c1, c2, c3, c4, c5⟩ := HP3.out.cl
 generalize strOf (p.read nmWal 0 1048576) = sa
 clear hk3
 go_wp2_with fail
 refine wp_loop_rounds 1 ?_
 rw [rounds_succ]
 go_wp2_with fail
 go_ret2
 exact .inr ⟨by rw [HWO.out], lb, none, 0, rfl, by rw [HWO.out, HH.out]; exact HP3.out.b, by rw [HWO.out]; exact World.ownsRow_nil _ _ _ _, HP3.out.ge, HP3.out.kp⟩
end
section
open Go.RowKit
theorem frozen_past (w : World) (g j lo hi : Nat) (cs : Array Value) (t : TypeId) (hg : w.heap[g]? = some (.cells cs t (lo, hi))) (hj : j < lo) : w.frozen? ⟨g, j, none⟩ = false := by
 simp [World.frozen?, hg]
 omega
theorem secOf (w : World) (z : List Int) (hz : ∀ y ∈ z, 0 ≤ y ∧ y < 256) (hl : z.length = 64) : ∃ cap w', (convert 9 68 (.string (strOf z))).run Tryz.prog w = .ok (.slice (some ⟨w.heap.size, 0, none⟩) 64 cap) w' ∧ Kp NoB w w' ∧ w'.there w.heap.size 0 64 ∧ readRow w' w.heap.size 0 64 = bytesV z := by
 have h := run_bytes_of_string w 9 68 5 (strOf z) Tryz.underlying9 Tryz.underlying68 Tryz.underlying5
 have hsz : (strOf z).size = 64 := by rw [strOf_size, hl]
 rw [hsz] at h
 obtain ⟨cap, hcap⟩ : ∃ c, grownCap w 64 0 5 = c := ⟨_, rfl⟩
 rw [hcap] at h
 obtain ⟨fz, hfz⟩ : ∃ fz, ((bytesRow (strOf z) cap).size, (bytesRow (strOf z) cap).size + 1) = fz := ⟨_, rfl⟩
 have hbs : 64 ≤ (bytesRow (strOf z) cap).size := by
  unfold bytesRow
  rw [Array.size_append, Array.size_map]
  have : (strOf z).data.size = 64 := hsz
  omega
 rw [hfz] at h
 have hg : (w.drew.alloc (.cells (bytesRow (strOf z) cap) 5 fz)).heap[w.heap.size]? = some (.cells (bytesRow (strOf z) cap) 5 fz) := heap_alloc_new w.drew (.cells (bytesRow (strOf z) cap) 5 fz)
 have hc : ∀ j, j < 64 → (w.drew.alloc (.cells (bytesRow (strOf z) cap) 5 fz)).cell? ⟨w.heap.size, j, none⟩ = some (.int .u8 (z.getD j 0)) := fun j hj => by
  have hjs : j < (strOf z).data.size := by show j < (strOf z).size; omega
  have hrow := cell_of_row (w.drew.alloc (.cells (bytesRow (strOf z) cap) 5 fz)) w.heap.size j (bytesRow (strOf z) cap) 5 fz hg
  rw [hrow, bytesRow_at _ _ j hjs]
  refine congrArg (fun y : Int => some (Value.int .u8 y)) ?_
  have h1 : z.getD j 0 = (strI (strOf z)).getD j 0 := by rw [strI_strOf z hz]
  rw [h1]
  unfold strI
  rw [List.getD_eq_getElem?_getD, List.getElem?_map, List.getElem?_eq_getElem (by simpa using hjs)]
  simp
 have hkw : Kp NoB w (w.drew.alloc (.cells (bytesRow (strOf z) cap) 5 fz)) := (Kp.refl NoB w).drew.alloc _
 have hfr : ∀ j, j < 64 → (w.drew.alloc (.cells (bytesRow (strOf z) cap) 5 fz)).frozen? ⟨w.heap.size, j, none⟩ = false := fun j hj =>
  frozen_past _ w.heap.size j fz.1 fz.2 _ _ hg (by rw [← hfz]; exact Nat.lt_of_lt_of_le hj hbs)
 clear hfz hbs hcap
 generalize w.drew.alloc (.cells (bytesRow (strOf z) cap) 5 fz) = W at h hg hc hfr hkw
 refine ⟨cap, W, h, hkw, fun j hj => ⟨?_, ?_⟩, ?_⟩
 ·rw [Nat.zero_add, hc j hj]; rfl
 ·rw [Nat.zero_add]; exact hfr j hj
 ·unfold readRow bytesV
  refine congrArg List.toArray ?_
  apply List.ext_getElem
  ·simp [hl]
  ·intro i h1 h2
   have hi : i < 64 := by simpa using h1
   simp only [List.getElem_map, List.getElem_range, Nat.zero_add]
   rw [hc i hi]
   simp [List.getD_eq_getElem?_getD, List.getElem?_eq_getElem (show i < z.length by omega)]
theorem OpW.head {w : World} {db lb : Nat} {H H' : W4} {A : Option Addr} {n c : Nat} {W : World} (h : OpW w db lb H A n c W) : OpW w db lb H' A n c (W.setCells lb 1 (w4A H').toList) :=
 ⟨Blk.cellsL (xa := [ptrV db]) (xb := [.int .u32 H.a, .int .u32 H.b, .int .u32 H.c, .int .u32 H.d]) (xd := [.slice A n c]) (xs := (w4A H').toList) h.b 1 rfl rfl, h.ge, Kp.setCells (.inl h.ge) _ _ _ h.kp⟩
theorem OpW.slice {w : World} {db lb : Nat} {H : W4} {A A' : Option Addr} {n c n' c' : Nat} {W : World} (h : OpW w db lb H A n c W) : OpW w db lb H A' n' c' (W.setCell ⟨lb, 5, none⟩ (.slice A' n' c')) :=
 ⟨h.b.set_ 5 _, h.ge, h.kp.setCell (.inl h.ge) _⟩
theorem OpW.grown {w : World} {db lb : Nat} {H : W4} {A : Option Addr} {n c : Nat} {W W' W0 : World} {base m : Nat} {v : Value} {xs : List Value} {e : TypeId} (h : OpW w db lb H A n c W) (hg : W.grownBy W' v.ownBlock) (ho : W0.ownsRow base e 259 v m xs) (hb : lb < base) : OpW w db lb H A n c W' :=
 ⟨Blk.past h.b hg (fun k hk => by have := own_ge ho k hk; omega), h.ge, h.kp.own hg rfl (ho.mono (by have := h.ge; omega))⟩
theorem loadFrV {w : World} {g : Nat} {cs : Array Value} (h : Blk w g 85 cs) (hs : cs.size = 259) (ev : Operand → Value) {x : Operand} {ds : Option Tmp} {ty : TypeId} {ps : String} {af : Array Edge} {gd : Option (Nat × Bool)} (hx : ev x = .pointer (some ⟨g, 0, none⟩)) :
  (execOp ev ⟨ds, .load 85 x, ty, ps, af, gd⟩).run Tryz.prog w = .ok (.value (.agg cs)) w := by
 have h1 := loadFr w ev ds x ty ps af gd (by rw [hx]; exact h.thereAll 259 hs)
 rw [hx, readP_mk, h.readAll 259 hs] at h1
 exact h1
theorem stFs {w : World} {g : Nat} {cs : Array Value} (h : Blk w g 83 cs) (hs : cs.size = 6) (ev : Operand → Value) {x y : Operand} {A : Option Addr} {n c : Nat} {ty : TypeId} {ps : String} {af : Array Edge} {gd : Option (Nat × Bool)} (hx : ev x = .pointer (some ⟨g, 5, none⟩)) (hy : ev y = .slice A n c) :
  (execOp ev ⟨none, .store 81 x y, ty, ps, af, gd⟩).run Tryz.prog w = .ok .skip (w.setCell ⟨g, 5, none⟩ (.slice A n c)) := by
 have hc : w.cell? ⟨g, 5, none⟩ = some (cs[5]'(by omega)) := by rw [h.cell]; exact Array.getElem?_eq_getElem _
 have hf : w.frozen? ⟨g, 5, none⟩ = false := h.frozen 5
 simp only [execOp, hx, hy]
 go_simp
theorem ldFs {w : World} {g : Nat} {A : Option Addr} {n c : Nat} (hc : w.cell? ⟨g, 5, none⟩ = some (.slice A n c)) (ev : Operand → Value) {x : Operand} {ds : Option Tmp} {ty : TypeId} {ps : String} {af : Array Edge} {gd : Option (Nat × Bool)} (hx : ev x = .pointer (some ⟨g, 5, none⟩)) :
  (execOp ev ⟨ds, .load 81 x, ty, ps, af, gd⟩).run Tryz.prog w = .ok (.value (.slice A n c)) w := by
 simp only [execOp, hx]
 go_simp
theorem fr_new (w : World) (f : Fr) : ∀ j u, (frL f)[j]? = some u → (w.alloc (.cells (frL f).toArray 85)).cell? ((⟨w.heap.size, 0, none⟩ : Addr).add j) = some u := by
 intro j u hj
 rw [add_mk, Nat.zero_add, (Blk.new w 85 (frL f).toArray).cell, List.getElem?_toArray]
 exact hj
theorem frCells_len : ∀ fs : List Fr, (frCells fs).length = fs.length * 259
 | [] => rfl
 | f :: r => by
  show (frL f ++ frCells r).length = _
  rw [List.length_append, frL_len, frCells_len r, List.length_cons]
  omega
structure Wlg (p : Pl) (l : List Int) : Prop where
 e : p.seen nmWal = l
 rng : ∀ y ∈ l, 0 ≤ y ∧ y < 256
 le : l.length ≤ 1048576
 ge : 64 ≤ l.length
attribute [local go_sem ↓] loadFr storeFr allocFr loadSec storeSec loadW4 storeW4
set_option maxRecDepth 100000 in
set_option maxHeartbeats 1600000 in
theorem wopen_long {S : Nat → Prop} {W0 w : World} {db : Nat} {p : Pl} (h : Dq S W0 w db p) (hd : p.down = false) (hs : 64 ≤ (p.seen nmWal).length) : Calls Tryz.prog 31 #[ptrV db] w (OpenPost p db w) := by
 have H := zh h
 obtain ⟨l, hl⟩ : ∃ l, p.seen nmWal = l := ⟨_, rfl⟩
 have hL : Wlg p l := ⟨hl, by rw [← hl]; exact h.seen_rng nmWal, by rw [← hl]; exact h.seen_le nmWal, by rw [← hl]; exact hs⟩
 have HL := zh hL
 rw [hl] at hs
 have hz64 : (l.take 64).length = 64 := by rw [List.length_take]; omega
 have hzr : ∀ y ∈ l.take 64, 0 ≤ y ∧ y < 256 := fun y hy => hL.rng y (List.mem_of_mem_take hy)
 have hh : p.whead = openB (l.take 64) := by unfold Pl.whead says; rw [hl, if_neg (by omega)]
 have hok : W4Ok p.whead := says_ok (h.seen_rng nmWal)
 have HOK := zh hok
 have hre : p.readE 0 64 = 0 := by unfold Pl.readE; rw [hd]; decide
 have hrd : p.read nmWal 0 64 = l.take 64 := by unfold Pl.read; rw [if_pos hre, hl]; rfl
 have hre2 : p.readE 0 1048576 = 0 := by unfold Pl.readE; rw [hd]; decide
 have hrd2 : p.read nmWal 0 1048576 = l := by
  unfold Pl.read
  rw [if_pos hre2, hl]
  show (l.drop 0).take 1048576 = l
  rw [List.drop_zero, List.take_of_length_le hL.le]
 have HD := zh hd
 have HRE := zh hre
 have HRD := zh hrd
 have HRE2 := zh hre2
 have HRD2 := zh hrd2
 obtain ⟨z, hz⟩ : ∃ z, l.take 64 = z := ⟨_, rfl⟩
 rw [hz] at hz64 hzr hh HRD
 obtain ⟨h4, hh4⟩ : ∃ h4, p.whead = h4 := ⟨_, rfl⟩
 rw [hh4] at HOK
 have HH4 := zh hh4
 have HOB : Hid (openB z = h4) := zh (by rw [← hh, hh4])
 have HZ64 := zh hz64
 have HZR := zh hzr
 have hsz : (strOf z).size = 64 := by rw [strOf_size, hz64]
 clear hd hre hrd hre2 hrd2 hh h hs hl hL hz hz64 hzr hh4 hok
 unfold ptrV
 go_enter Tryz.func31, Tryz.ntmps31
 go_wp2_with fail
 refine (show Calls _ _ #[ptrV db, .string ⟨#[119, 97, 108]⟩, .int .i64 0, .int .i64 64] _ _ from read_q H.out nmWal 0 64 nmW_le (by omega) (by omega)).mono ?_
 rintro e w1 ⟨rfl, hk1⟩
 rw [HRE.out, HRD.out]
 have HK1 := zh hk1
 have hs1 : ((strOf z).size : Int) = 64 := by omega
 clear hk1 hsz
 go_upto_region 5 with fail
 refine forget (p := fun wx => Code.wp _ _ _ _ wx) (OpW w db w1.heap.size ⟨0, 0, 0, 0⟩ none 0 0) (OpW.new HK1.out) ?_
 intro w2 h2
 obtain ⟨lb, hlb⟩ : ∃ lb, w1.heap.size = lb := ⟨_, rfl⟩
 rw [hlb] at h2 ⊢
 have HP2 := zh h2
 obtain ⟨cap, w3, hcv, hk3, ht3, hr3⟩ := secOf w2 z HZR.out HZ64.out
 have hat : ∀ W, (Instr.arrayAt 119 (.slice (some ⟨w2.heap.size, 0, none⟩) 64 cap)).run Tryz.prog W = .ok (.pointer (some ⟨w2.heap.size, 0, none⟩)) W := fun W => run_arrayAt W 119 _ 64 _ 64 cap Tryz.underlying119 (by omega)
 have HP3 := zh (h2.keep hk3)
 obtain ⟨s, hss⟩ : ∃ s, strOf z = s := ⟨_, rfl⟩
 rw [hss] at hs1 hcv ⊢
 clear h2 hlb hk3 hss
 go_upto_region 6 with fail
 go_wp2_with fail
 refine (open_ok _ z HZ64.out HZR.out).mono ?_
 rintro e w4 ⟨rfl, hk4⟩
 rw [HOB.out]
 have HP4 := zh (HP3.out.keep hk4)
 have ht4 : w4.there lb 1 4 := HP4.out.b.there (by show _ ≤ 6; omega)
 have hag : aggOK (.agg (w4A h4)) 4 := ⟨rfl, w4A_ones h4⟩
 clear hk4 hcv hat ht3 hr3
 go_upto_region 7 with fail
 refine forget (p := fun wx => Code.wp _ _ _ _ wx) (OpW w db lb h4 none 0 0) HP4.out.head ?_
 intro w5 h5
 have HP5 := zh h5
 have FB : Hid (1048576 < h4.a ∨ h4.b ≠ 0 ∨ h4.c ≠ 0 ∨ h4.d ≠ 0 → OpenPost p db w (.returned (.tuple #[.pointer none, .int .i64 8])) w5) := zh (fun hb => by
  have hwo : p.wopen = (8, []) := by
   unfold Pl.wopen
   rw [HD.out, HH4.out, if_neg (by decide), if_pos hb]
  exact .inl ⟨by rw [hwo]; decide, by rw [hwo], HP5.out.kp⟩)
 obtain ⟨va, vb, vc, vd⟩ := h4
 obtain ⟨c0, c1, c2, c3, c4, c5⟩ := h5.cl
 have hra := HOK.out.a
 dsimp only at c1 c2 c3 c4 hra FB
 clear h5 ht4 hag hs1
 by_cases hA : 1048576 < va
 ·go_wp2_with fail
  go_ret2
  exact FB.out (.inl hA)
 ·by_cases hB : vb = 0
  ·subst hB
   by_cases hC : vc = 0
   ·subst hC
    by_cases hD : vd = 0
    ·subst hD
     clear FB
     go_wp2_with fail
     refine (show Calls _ _ #[ptrV db, .string ⟨#[119, 97, 108]⟩, .int .i64 0, .int .i64 1048576] _ _ from read_q (H.out.keep HP5.out.kp) nmWal 0 1048576 nmW_le (by omega) (by omega)).mono ?_
     rintro e w6 ⟨rfl, hk6⟩
     rw [HRE2.out, HRD2.out]
     have h6 := HP5.out.keep hk6
     have HP6 := zh h6
     obtain ⟨c0, c1, c2, c3, c4, c5⟩ := h6.cl
     obtain ⟨K, hK⟩ : ∃ K : Nat, va = K := ⟨va.toNat, by omega⟩
     subst hK
     have hK1 : K ≤ 1048576 := by omega
     have hwK : IntKind.i64.wrap (K : Int) = (K : Int) := by rw [IntKind.wrap_i64]; omega
     have hsl := strOf_size l
     have hle := HL.out.le
     obtain ⟨sa, hsa⟩ : ∃ sa, strOf l = sa := ⟨_, rfl⟩
     rw [hsa] at hsl ⊢
     have HSA := zh hsa
     have hsz2 : sa.size ≤ 1048576 := by omega
     have HSL := zh hsl
     have HLB := zh h6.b.lt
     clear hk6 h6 hsa hsl hle
     go_wp2_with fail
     go_loopw [76] (fun v W => ∃ (k : Nat) (fs : List Fr) (A : Option Addr) (c : Nat), v = .int .i64 (k : Int) ∧ k ≤ K ∧ frsAt l k = some fs ∧ OpW w db lb ⟨(K : Int), 0, 0, 0⟩ A k c W ∧ W.ownsRow w6.heap.size 85 259 (.slice A k c) k (frCells fs) ∧ w6.heap.size ≤ W.heap.size) (fun v _ => K - (intOf v).toNat)
     case atStart => exact ⟨0, [], none, 0, rfl, Nat.zero_le _, rfl, HP6.out, World.ownsRow_nil _ _ _ _, Nat.le_refl _⟩
     case round =>
      obtain ⟨wq, rfl⟩ : ∃ wq, wq = wr := ⟨_, rfl⟩
      obtain ⟨k, fs, A, c, rfl, hk, hfs, hop, how, h66⟩ := hrel
      have H66 := zh h66
      have HFS := zh hfs
      have HOP := zh hop
      have HOW := zh how
      clear c0 c1 c2 c3 c4 c5
      obtain ⟨c0, c1, c2, c3, c4, c5⟩ := hop.cl
      by_cases hlt : k < K
      ·have hkk : (k : Int) < (K : Int) := by omega
       clear hop how hfs h66
       go_wp2_with fail
       refine (wat_q _ k (by omega)).mono ?_
       rintro e w7 ⟨rfl, rfl⟩
       obtain ⟨q, hq⟩ : ∃ q, 64 + 320 * k = q := ⟨_, rfl⟩
       rw [hq]
       have HQ := zh hq
       clear hq
       have FN : Hid (frAt l k = none → ∀ W, Kp NoB w W → OpenPost p db w (.returned (.tuple #[.pointer none, .int .i64 8])) W) := zh (fun hf W hkp => by
        have hwo : p.wopen = (8, []) := by
         have hb : ¬ (1048576 < (K : Int) ∨ (0 : Int) ≠ 0 ∨ (0 : Int) ≠ 0 ∨ (0 : Int) ≠ 0) := by omega
         unfold Pl.wopen
         rw [HD.out, HH4.out, if_neg (by decide), if_neg hb, HL.out.e]
         show (match frsAt l K with | none => _ | some fs => _) = _
         rw [frsAt_none hf hlt]
        exact .inl ⟨by rw [hwo]; decide, by rw [hwo], hkp⟩)
       have hfp := frAt_P l k
       rw [HQ.out] at hfp
       have HFP := zh hfp
       clear hfp
       by_cases hmn : sa.size ≤ q
       ·have hm1 : ((sa.size : Nat) : Int) ≤ ((q : Nat) : Int) := by omega
        go_wp2_with fail
        refine (show Calls _ _ #[.string (strOf [])] _ _ from parse_q wq [] (by simp) (by simp)).mono ?_
        rintro e w8 ⟨cs, rfl, hcs, hcone, -, hk8⟩
        rw [show (frP []).isSome = false from rfl]
        have ht8 : (w8.alloc (.cells fr0 85)).there w8.heap.size 0 259 := (Blk.new _ _ _).thereAll 259 fr0_size
        have hag : aggOK (.agg cs) 259 := ⟨hcs, hcone⟩
        have HK8 : Hid (Kp NoB w ((w8.alloc (.cells fr0 85)).setCells w8.heap.size 0 cs.toList)) := zh (Kp.setCells (.inl (HOP.out.kp.trans hk8 (fun _ _ q => q)).size) _ _ _ ((HOP.out.kp.trans hk8 (fun _ _ q => q)).alloc _))
        clear hk8 hcs hcone c0 c1 c2 c3 c4 c5
        go_wp2_with fail
        go_ret2
        refine FN.out ?_ _ HK8.out
        rw [HFP.out, List.drop_of_length_le (by have := HSL.out; omega)]
        rfl
       ·have hm1 : ¬ ((sa.size : Nat) : Int) ≤ ((q : Nat) : Int) := by omega
        have hex : sa.extract q sa.size = strOf (l.drop q) := by
         rw [← HSA.out, strOf_sub, strOf_size, List.take_of_length_le (by rw [List.length_drop]; omega)]
        obtain ⟨b, hb⟩ : ∃ b, l.drop q = b := ⟨_, rfl⟩
        rw [hb] at hex
        have hbr : ∀ y ∈ b, 0 ≤ y ∧ y < 256 := fun y hy => HL.out.rng y (List.mem_of_mem_drop (by rw [hb]; exact hy))
        have hbl : b.length ≤ 1048576 := by rw [← hb, List.length_drop]; have := HL.out.le; omega
        have HFB : Hid (frAt l k = frP b) := zh (by rw [HFP.out, hb])
        have HBR := zh hbr
        have HBL := zh hbl
        have HEX := zh hex
        clear hbr hbl hb hex
        go_wp2_with fail
        rw [HEX.out]
        refine (parse_q wq b HBR.out HBL.out).mono ?_
        rintro e w8 ⟨cs, rfl, hcs, hcone, hcf, hk8⟩
        have ht8 : (w8.alloc (.cells fr0 85)).there w8.heap.size 0 259 := (Blk.new _ _ _).thereAll 259 fr0_size
        have hag : aggOK (.agg cs) 259 := ⟨hcs, hcone⟩
        have hop8 := HOP.out.keep hk8
        have how8 := own_keepB HOW.out hk8 (fun _ _ q => q)
        have hk9 : Kp NoB w8 ((w8.alloc (.cells fr0 85)).setCells w8.heap.size 0 cs.toList) := Kp.setCells (.inl (Nat.le_refl _)) _ _ _ ((Kp.refl NoB w8).alloc _)
        have hb9 : Blk ((w8.alloc (.cells fr0 85)).setCells w8.heap.size 0 cs.toList) w8.heap.size 85 cs := (Blk.new _ _ _).whole cs (by rw [fr0_size, hcs])
        have HK9 := zh hk9
        have HB9 := zh hb9
        have HOP8 := zh hop8
        have HOW8 := zh how8
        have HCF := zh hcf
        have H68 : Hid (w6.heap.size ≤ w8.heap.size) := zh (Nat.le_trans H66.out hk8.size)
        clear hk8 hk9 hb9 hop8 how8 hcf hcone c0 c1 c2 c3 c4 c5
        obtain ⟨of, hof⟩ : ∃ of, frP b = of := ⟨_, rfl⟩
        rw [hof]
        have HOF := zh hof
        clear hof
        cases of with
        | none =>
         rw [show (none : Option Fr).isSome = false from rfl]
         clear hcs
         go_wp2_with fail
         go_ret2
         exact FN.out (by rw [HFB.out, HOF.out]) _ (HOP8.out.keep HK9.out).kp
        | some f =>
         rw [show (some f).isSome = true from rfl]
         have hce := HCF.out f HOF.out
         subst hce
         clear hcs
         go_upto_region 16 with fail
         obtain ⟨j0, hj0, hy0, hy1, hy2⟩ := info_parts infoFr
         have hop9 := HOP8.out.keep HK9.out
         have how9 := own_keepB HOW8.out HK9.out (fun _ _ q => q)
         have h69 : w6.heap.size ≤ ((w8.alloc (.cells fr0 85)).setCells w8.heap.size 0 (frL f).toArray.toList).heap.size := Nat.le_trans H68.out HK9.out.size
         have hb9 := HB9.out
         have hlg : ∀ b, (Value.slice A k c).ownBlock = some b → b ≠ w8.heap.size := fun b hb => by have := (HOW8.out.lt b hb).2; omega
         have h6g := H68.out
         clear HK9 HB9 HOP8 HOW8 H68 H66 HOP HOW ht8 hag HCF
         generalize (w8.alloc (.cells fr0 85)).setCells w8.heap.size 0 (frL f).toArray.toList = w9 at hop9 how9 hb9 h69 ⊢
         obtain ⟨g4, hg4⟩ : ∃ g4, w8.heap.size = g4 := ⟨_, rfl⟩
         rw [hg4] at hb9 hlg h6g ⊢
         clear hg4
         have hs9 : Blk w9.drew g4 85 (frL f).toArray := hb9.drew
         have hop0 := hop9.keep (Kp.refl NoB w9).drew
         have how0 := own_keepB how9 (Kp.refl NoB w9).drew (fun _ _ q => q)
         have h60 : w6.heap.size ≤ w9.drew.heap.size := h69
         refine wp_region_held_drew (S := fun V => Blk V g4 85 (frL f).toArray) (by kernel_rfl) hs9 (fun hHeld => ?_)
         generalize w9.drew = V0 at hs9 hop0 how0 h60 hHeld ⊢
         have hfl : (frL f).toArray.size = 259 := by rw [List.size_toArray, frL_len]
         have cc : V0.cell? ⟨lb, 5, none⟩ = some (.slice A k c) := hop0.b.cell 5
         refine tkJ (i := 0) (v := (.pointer (some ⟨lb, 0, none⟩))) rfl hs9 ?_
         simp only [Act.put, sA, sB, sC]
         refine tkJ (i := 1) (v := (.pointer (some ⟨lb, 0, none⟩))) rfl hs9 ?_
         simp only [Act.put, sA, sB, sC]
         refine tkJ (i := 2) (v := (.pointer (some ⟨lb, 0, none⟩))) rfl hs9 ?_
         simp only [Act.put, sA, sB, sC]
         refine tkJ (i := 3) (v := (.pointer (some ⟨lb, 5, none⟩))) rfl hs9 ?_
         simp only [Act.put, sA, sB, sC]
         refine tkS (i := 5) (v := .agg (frL f).toArray) rfl (Or.inl ⟨by rfl, fun w' hq => loadFrV hq hfl _ rfl⟩) hs9 ?_
         simp only [Act.put, sA, sB, sC]
         have hop1 := hop0.keep ((Kp.refl NoB V0).alloc (.cells (frL f).toArray 85))
         have how1 := own_keepB how0 ((Kp.refl NoB V0).alloc (.cells (frL f).toArray 85)) (fun _ _ q => q)
         have hs1 := hs9.alloc (.cells (frL f).toArray 85)
         have hbase : w6.heap.size ≤ (V0.alloc (.cells (frL f).toArray 85)).heap.size := Nat.le_trans h60 ((Kp.refl NoB V0).alloc (.cells (frL f).toArray 85)).size
         refine tkR [4, 6] ?_
         refine AllReadyH.valR (fun W' => V0 = W') rfl (by rfl) (.slice A k c) V0 (by go_simp) (fun W' e => by rw [← e]; exact hs9) rfl ?_ (AllReadyH.valR (fun W' => W' = V0.alloc (.cells (frL f).toArray 85)) rfl (by rfl) _ _ (exSliceFr V0 _ _ _ _ _ _ _ _ rfl hfl) (fun W' e => by rw [e]; exact hs1) rfl ?_ AllReadyH.nil)
         ·rintro _ rfl
          simp only [Act.put, sA, sB, sC]
          refine tkR [6] ?_
          refine AllReadyH.valR (fun W' => W' = V0.alloc (.cells (frL f).toArray 85)) rfl (by rfl) _ _ (exSliceFr V0 _ _ _ _ _ _ _ _ rfl hfl) (fun W' e => by rw [e]; exact hs1) rfl ?_ AllReadyH.nil
          rintro _ rfl
          simp only [Act.put, sA, sB, sC]
          refine tkR [7] ?_
          refine AllReadyH.appendB rfl (by rfl) w6.heap.size 85 j0 _ 259 288 Tryz.underlying81 hj0 hy0 hy1 hy2 rfl (by omega) (.slice A k c) k (frCells fs) rfl how1 ⟨V0.heap.size, 0, none⟩ 1 1 (frL f) rfl (frL_len f) (fr_new V0 f) (frL_one f) (by unfold maxLen; omega) (by omega) hbase (fun v' w' hown hgrow hb => Blk.past hs1 hgrow hlg) ?_ AllReadyH.nil
          intro v7 w10 hown7 hgrow7 hb7
          simp only [Act.put, sA, sB, sC]
          obtain ⟨A7, c7, rfl⟩ := own_slice hown7
          have hs7 := Blk.past hs1 hgrow7 hlg
          have hop10 := hop1.grown hgrow7 how1 HLB.out
          have h6X : w6.heap.size ≤ w10.heap.size := by
           obtain ⟨gg, -, q1, q2⟩ := own_at hown7 (by omega)
           omega
          refine tkJ (i := 8) (v := (.pointer (some ⟨lb, 0, none⟩))) rfl hs7 ?_
          simp only [Act.put, sA, sB, sC]
          refine tkJ (i := 9) (v := (.pointer (some ⟨lb, 5, none⟩))) rfl hs7 ?_
          simp only [Act.put, sA, sB, sC]
          refine tkR [10] ?_
          refine AllReadyH.skipR rfl (by rfl) (w10.setCell ⟨lb, 5, none⟩ (.slice A7 (k + 1) c7)) (stFs hop10.b rfl _ rfl rfl) (hs7.far (by have := HLB.out; show g4 ≠ lb; omega) _) ?_ AllReadyH.nil
          refine wpAnyH_done (by kernel_rfl) ?_ _
          have HOP11 := zh (hop10.slice (A' := A7) (n' := k + 1) (c' := c7))
          have HOW11 := zh (own_keepB hown7 ((Kp.refl (OnB lb) w10).setAt (g := lb) rfl 5 (.slice A7 (k + 1) c7)) (fun g hg e => by have h1 := own_ge hown7 g hg; have h2 := HLB.out; have h3 : g = lb := e; omega))
          have H11 : Hid (w6.heap.size ≤ (w10.setCell ⟨lb, 5, none⟩ (.slice A7 (k + 1) c7)).heap.size) := zh (Nat.le_trans h6X (by simp))
          generalize w10.setCell ⟨lb, 5, none⟩ (.slice A7 (k + 1) c7) = w11 at HOP11 HOW11 H11 ⊢
          clear hHeld hown7 hgrow7 hb7 hs7 hop10 hs1 hs9 hop0 hop1 how0 how1 cc h60 h6X hlg h6g hbase hop9 how9 hb9 h69 hj0 hy0 hy1 hy2
          go_wp2_with fail
          go_roundw
          case rel =>
           refine ⟨k + 1, fs ++ [f], A7, c7, by go_num, by omega, frsAt_next HFS.out (by rw [HFB.out, HOF.out]), HOP11.out, ?_, H11.out⟩
           have h9 := HOW11.out
           unfold frCells at h9 ⊢
           rw [List.flatMap_append]
           simpa using h9
          case measure => simp [intOf]; omega
         ·rintro _ rfl
          simp only [Act.put, sA, sB, sC]
          have cc1 : (V0.alloc (.cells (frL f).toArray 85)).cell? ⟨lb, 5, none⟩ = some (.slice A k c) := hop1.b.cell 5
          refine tkR [4] ?_
          refine AllReadyH.valR (fun W' => W' = V0.alloc (.cells (frL f).toArray 85)) rfl (by rfl) (.slice A k c) _ (ldFs cc1 _ rfl) (fun W' e => by rw [e]; exact hs1) rfl ?_ AllReadyH.nil
          rintro _ rfl
          simp only [Act.put, sA, sB, sC]
          clear cc1
          refine tkR [7] ?_
          refine AllReadyH.appendB rfl (by rfl) w6.heap.size 85 j0 _ 259 288 Tryz.underlying81 hj0 hy0 hy1 hy2 rfl (by omega) (.slice A k c) k (frCells fs) rfl how1 ⟨V0.heap.size, 0, none⟩ 1 1 (frL f) rfl (frL_len f) (fr_new V0 f) (frL_one f) (by unfold maxLen; omega) (by omega) hbase (fun v' w' hown hgrow hb => Blk.past hs1 hgrow hlg) ?_ AllReadyH.nil
          intro v7 w10 hown7 hgrow7 hb7
          simp only [Act.put, sA, sB, sC]
          obtain ⟨A7, c7, rfl⟩ := own_slice hown7
          have hs7 := Blk.past hs1 hgrow7 hlg
          have hop10 := hop1.grown hgrow7 how1 HLB.out
          have h6X : w6.heap.size ≤ w10.heap.size := by
           obtain ⟨gg, -, q1, q2⟩ := own_at hown7 (by omega)
           omega
          refine tkJ (i := 8) (v := (.pointer (some ⟨lb, 0, none⟩))) rfl hs7 ?_
          simp only [Act.put, sA, sB, sC]
          refine tkJ (i := 9) (v := (.pointer (some ⟨lb, 5, none⟩))) rfl hs7 ?_
          simp only [Act.put, sA, sB, sC]
          refine tkR [10] ?_
          refine AllReadyH.skipR rfl (by rfl) (w10.setCell ⟨lb, 5, none⟩ (.slice A7 (k + 1) c7)) (stFs hop10.b rfl _ rfl rfl) (hs7.far (by have := HLB.out; show g4 ≠ lb; omega) _) ?_ AllReadyH.nil
          refine wpAnyH_done (by kernel_rfl) ?_ _
          have HOP11 := zh (hop10.slice (A' := A7) (n' := k + 1) (c' := c7))
          have HOW11 := zh (own_keepB hown7 ((Kp.refl (OnB lb) w10).setAt (g := lb) rfl 5 (.slice A7 (k + 1) c7)) (fun g hg e => by have h1 := own_ge hown7 g hg; have h2 := HLB.out; have h3 : g = lb := e; omega))
          have H11 : Hid (w6.heap.size ≤ (w10.setCell ⟨lb, 5, none⟩ (.slice A7 (k + 1) c7)).heap.size) := zh (Nat.le_trans h6X (by simp))
          generalize w10.setCell ⟨lb, 5, none⟩ (.slice A7 (k + 1) c7) = w11 at HOP11 HOW11 H11 ⊢
          clear hHeld hown7 hgrow7 hb7 hs7 hop10 hs1 hs9 hop0 hop1 how0 how1 cc h60 h6X hlg h6g hbase hop9 how9 hb9 h69 hj0 hy0 hy1 hy2
          go_wp2_with fail
          go_roundw
          case rel =>
           refine ⟨k + 1, fs ++ [f], A7, c7, by go_num, by omega, frsAt_next HFS.out (by rw [HFB.out, HOF.out]), HOP11.out, ?_, H11.out⟩
           have h9 := HOW11.out
           unfold frCells at h9 ⊢
           rw [List.flatMap_append]
           simpa using h9
          case measure => simp [intOf]; omega
      ·have hkk : ¬ (k : Int) < (K : Int) := by omega
       obtain rfl : k = K := by omega
       have hwo : p.wopen = if lastEn fs = 0 then (8, []) else (0, fs) := by
        have hb : ¬ (1048576 < (k : Int) ∨ (0 : Int) ≠ 0 ∨ (0 : Int) ≠ 0 ∨ (0 : Int) ≠ 0) := by omega
        unfold Pl.wopen
        rw [HD.out, HH4.out, if_neg (by decide), if_neg hb, HL.out.e]
        show (match frsAt l k with | none => _ | some fs => _) = _
        rw [HFS.out]
       have HWO := zh hwo
       have hln := frsAt_len HFS.out
       have HLN := zh hln
       have HEND : Hid (lastEn fs ≠ 0 → OpenPost p db w (.returned (.tuple #[.pointer (some ⟨lb, 0, none⟩), .int .i64 0])) wq) := zh (fun he => by
        rw [if_neg he] at hwo
        exact .inr ⟨by rw [hwo], lb, A, c, rfl, by rw [hwo, HH4.out, hln]; exact hop.b, by rw [hwo, hln]; exact how.mono (by have := HP6.out.kp.size; omega), hop.ge, hop.kp⟩)
       have HBD : Hid (lastEn fs = 0 → OpenPost p db w (.returned (.tuple #[.pointer none, .int .i64 8])) wq) := zh (fun he => by
        rw [if_pos he] at hwo
        exact .inl ⟨by rw [hwo]; decide, by rw [hwo], hop.kp⟩)
       clear hop hwo hln h66
       cases k with
       | zero =>
        have h0 : fs = [] := List.length_eq_zero_iff.1 HLN.out
        subst h0
        clear how hfs
        go_wp2_with fail
        go_ret2
        exact HEND.out (by decide)
       | succ n =>
        obtain ⟨g, hA, hg1, hg2⟩ := own_at how (by omega)
        subst hA
        obtain ⟨gs, f, hgs, hfe⟩ : ∃ gs f, fs = gs ++ [f] ∧ gs.length = n := by
         rcases List.eq_nil_or_concat fs with q | ⟨gs, f, q⟩
         ·rw [q] at HLN; exact absurd HLN.out (by simp)
         ·refine ⟨gs, f, by rw [q, List.concat_eq_append], ?_⟩
          have := HLN.out
          rw [q, List.concat_eq_append, List.length_append] at this
          simp at this
          omega
        subst hgs
        have hle : lastEn (gs ++ [f]) = f.en := by unfold lastEn; simp
        rw [hle] at HEND HBD
        have ce : wq.cell? ⟨g, n * 259 + 257, none⟩ = some (.int .i64 f.en) := by
         rw [how.cellAt (n * 259 + 257) (by omega)]
         unfold frCells
         rw [List.flatMap_append, List.getElem?_append_right (by have := frCells_len gs; unfold frCells at this; rw [this, hfe]; omega)]
         have h2 := frCells_len gs
         unfold frCells at h2
         rw [h2, hfe, show n * 259 + 257 - n * 259 = 257 by omega]
         show ([f].flatMap frL)[257]? = _
         rw [List.flatMap_cons, List.flatMap_nil, List.append_nil]
         unfold frL zeros
         rw [List.getElem?_cons_succ, List.getElem?_append_right (by simp)]
         simp
        have hw1 : IntKind.i64.wrap (((n + 1 : Nat) : Int) - 1) = (n : Int) := by rw [IntKind.wrap_i64]; omega
        obtain ⟨en, hen⟩ : ∃ en, f.en = en := ⟨_, rfl⟩
        rw [hen] at ce HEND HBD
        clear how hfs hen hle
        by_cases he : en = 0
        ·subst he
         go_wp2_with fail
         go_ret2
         first | exact HBD.out rfl | exact HBD.out trivial
        ·have he1 : (en == 0) = false := by simpa using he
         go_wp2_with fail
         go_ret2
         exact HEND.out he
    ·have hD1 : (vd != 0) = true := by simpa using hD
     have hD2 : (vd == 0) = false := by simpa using hD
     go_wp2_with fail
     go_ret2
     exact FB.out (.inr (.inr (.inr hD)))
   ·have hC1 : (vc != 0) = true := by simpa using hC
    have hC2 : (vc == 0) = false := by simpa using hC
    go_wp2_with fail
    go_ret2
    exact FB.out (.inr (.inr (.inl hC)))
  ·have hB1 : (vb != 0) = true := by simpa using hB
   have hB2 : (vb == 0) = false := by simpa using hB
   go_wp2_with fail
   go_ret2
   exact FB.out (.inr (.inl hB))
theorem wopen_q {S : Nat → Prop} {W0 w : World} {db : Nat} {p : Pl} (h : Dq S W0 w db p) : Calls Tryz.prog 31 #[ptrV db] w (OpenPost p db w) := by
 by_cases hd : p.down = true
 ·exact wopen_down h hd
 ·have hd' : p.down = false := by simpa using hd
  by_cases hs : (p.seen nmWal).length < 64
  ·exact wopen_short h hd' hs
  ·exact wopen_long h hd' (by omega)
end
section
open Go.RowKit
structure LgS (w : World) (db lb : Nat) (H : W4) (A : Option Addr) (c : Nat) (fs : List Fr) : Prop where
 b : Blk w lb 83 (lgC db H A fs.length c)
 o : w.ownsRow 0 85 259 (.slice A fs.length c) fs.length (frCells fs)
 ok : ∀ f ∈ fs, FrOk f
section
variable {w w' : World} {db lb : Nat} {H : W4} {A : Option Addr} {c : Nat} {fs : List Fr}
theorem LgS.keep (h : LgS w db lb H A c fs) (k : Kp NoB w w') : LgS w' db lb H A c fs := ⟨h.b.keep k (fun q => q), own_keepB h.o k (fun _ _ q => q), h.ok⟩
theorem LgS.cl (h : LgS w db lb H A c fs) : w.cell? ⟨lb, 0, none⟩ = some (.pointer (some ⟨db, 0, none⟩)) ∧ w.cell? ⟨lb, 5, none⟩ = some (.slice A fs.length c) := ⟨h.b.cell 0, h.b.cell 5⟩
theorem LgS.len (h : LgS w db lb H A c fs) : fs.length ≤ 9223372036854775807 := by
 have h1 := own_cap h.o
 rcases h.o.2 with ⟨q, _⟩ | ⟨g, cap, cur, q, _, _, _, hm, _⟩
 ·injection q with _ q1 q2; omega
 ·injection q with _ q1 q2
  unfold maxLen at hm
  omega
theorem frCells_at (fs : List Fr) (i : Nat) (hi : i < fs.length) (j : Nat) (hj : j < 259) : (frCells fs)[i * 259 + j]? = (frL (fs[i]'hi))[j]? := by
 have e : fs = fs.take i ++ fs[i]'hi :: fs.drop (i + 1) := by rw [List.getElem_cons_drop, List.take_append_drop]
 have hl : (fs.take i).length = i := by rw [List.length_take]; omega
 have h1 : frCells fs = frCells (fs.take i) ++ (frL (fs[i]'hi) ++ frCells (fs.drop (i + 1))) := by
  conv => lhs; rw [e]
  unfold frCells
  rw [List.flatMap_append, List.flatMap_cons]
 rw [h1, List.getElem?_append_right (by rw [frCells_len, hl]; omega), frCells_len, hl, show i * 259 + j - i * 259 = j by omega, List.getElem?_append_left (by rw [frL_len]; exact hj)]
theorem frL_n (f : Fr) : (frL f)[0]? = some (.int .i64 f.n) := rfl
theorem frL_en (f : Fr) : (frL f)[257]? = some (.int .i64 f.en) := by
 unfold frL zeros
 rw [List.getElem?_cons_succ, List.getElem?_append_right (by rw [List.length_map, List.length_replicate]; omega), List.length_map, List.length_replicate]
 rfl
theorem frL_b (f : Fr) : (frL f)[258]? = some (.string (strOf f.b)) := by
 unfold frL zeros
 rw [List.getElem?_cons_succ, List.getElem?_append_right (by rw [List.length_map, List.length_replicate]; omega), List.length_map, List.length_replicate]
 rfl
theorem LgS.fr (h : LgS w db lb H A c fs) (i : Nat) (hi : i < fs.length) : ∃ g, A = some ⟨g, 0, none⟩ ∧ w.cell? ⟨g, i * 259, none⟩ = some (.int .i64 (fs[i]'hi).n) ∧ w.cell? ⟨g, i * 259 + 257, none⟩ = some (.int .i64 (fs[i]'hi).en) ∧ w.cell? ⟨g, i * 259 + 258, none⟩ = some (.string (strOf (fs[i]'hi).b)) := by
 obtain ⟨g, hA, -, -⟩ := own_at h.o (by omega)
 have ho := h.o
 rw [hA] at ho
 have hc : ∀ j, j < 259 → w.cell? ⟨g, i * 259 + j, none⟩ = (frL (fs[i]'hi))[j]? := fun j hj => by
  rw [ho.cellAt (i * 259 + j) (by omega), frCells_at fs i hi j hj]
 have h0 := hc 0 (by omega)
 rw [Nat.add_zero, frL_n] at h0
 exact ⟨g, hA, h0, (hc 257 (by omega)).trans (frL_en _), (hc 258 (by omega)).trans (frL_b _)⟩
theorem mark_cases (fs : List Fr) (m : Int) : m = 0 ∨ m < 0 ∨ (fs.length : Int) < m ∨ ∃ i, ∃ h : i < fs.length, m = ((i + 1 : Nat) : Int) := by
 rcases Int.lt_trichotomy m 0 with q | q | q
 ·exact .inr (.inl q)
 ·exact .inl q
 ·by_cases q2 : (fs.length : Int) < m
  ·exact .inr (.inr (.inl q2))
  ·exact .inr (.inr (.inr ⟨m.toNat - 1, by omega, by omega⟩))
theorem isMark_at (fs : List Fr) (i : Nat) (h : i < fs.length) : isMark fs ((i + 1 : Nat) : Int) = decide (0 < (fs[i]'h).en) := by
 unfold isMark
 rw [decide_eq_false (by omega), decide_eq_true (by omega)]
 show (false || (true && _)) = _
 rw [show (((i + 1 : Nat) : Int)).toNat - 1 = i by omega, List.getElem?_eq_getElem h]
 simp
set_option maxRecDepth 100000 in
set_option maxHeartbeats 1600000 in
theorem is_q (h : LgS w db lb H A c fs) (m : Int) : Calls Tryz.prog 84 #[.pointer (some ⟨lb, 0, none⟩), .int .i64 m] w fun e w' => e = .returned (.bool (isMark fs m)) ∧ w = w' := by
 obtain ⟨c0, c5⟩ := h.cl
 have hln := h.len
 rcases mark_cases fs m with rfl | hm | hm | ⟨i, hi, rfl⟩
 ·have e : isMark fs 0 = true := by unfold isMark; rfl
  rw [e]
  clear h e
  go_enter Tryz.func84, Tryz.ntmps84
  go_wp2_with fail
  go_ret
  exact ⟨rfl, rfl⟩
 ·have e : isMark fs m = false := by
   unfold isMark
   rw [decide_eq_false (by omega), decide_eq_false (by omega)]
   rfl
  rw [e]
  have h1 : (m == 0) = false := by simp; omega
  have h2 : ¬ (0 < m) := by omega
  clear h e hm hln
  go_enter Tryz.func84, Tryz.ntmps84
  go_wp2_with fail
  go_ret
  exact ⟨rfl, rfl⟩
 ·have e : isMark fs m = false := by
   unfold isMark
   rw [decide_eq_false (by omega), decide_eq_false (by omega)]
   rfl
  rw [e]
  have h1 : (m == 0) = false := by simp; omega
  have h2 : 0 < m := by omega
  have h3 : ¬ m ≤ (fs.length : Int) := by omega
  clear h e hm
  go_enter Tryz.func84, Tryz.ntmps84
  go_wp2_with fail
  go_ret
  exact ⟨rfl, rfl⟩
 ·obtain ⟨g, hA, -, ce, -⟩ := h.fr i hi
  subst hA
  rw [isMark_at fs i hi]
  have hw1 : IntKind.i64.wrap (((i + 1 : Nat) : Int) - 1) = (i : Int) := by rw [IntKind.wrap_i64]; omega
  obtain ⟨en, hen⟩ : ∃ en, (fs[i]'hi).en = en := ⟨_, rfl⟩
  rw [hen] at ce ⊢
  have h3 : ((i + 1 : Nat) : Int) ≤ (fs.length : Int) := by omega
  clear h hen
  by_cases he : 0 < en
  ·rw [decide_eq_true he]
   go_enter Tryz.func84, Tryz.ntmps84
   go_wp2_with fail
   go_ret
   exact ⟨rfl, rfl⟩
  ·rw [decide_eq_false he]
   go_enter Tryz.func84, Tryz.ntmps84
   go_wp2_with fail
   go_ret
   exact ⟨rfl, rfl⟩
set_option maxRecDepth 100000 in
set_option maxHeartbeats 1600000 in
theorem wcount_q {S : Nat → Prop} {W0 : World} {p : Pl} (hq : Dq S W0 w db p) (h : LgS w db lb H A c fs) (m : Int) (hm : isMark fs m = true) : Calls Tryz.prog 33 #[.pointer (some ⟨lb, 0, none⟩), .int .i64 m] w fun e w' => e = .returned (.int .i64 (wcount p fs m)) ∧ w = w' := by
 obtain ⟨c0, c5⟩ := h.cl
 have hln := h.len
 rcases mark_cases fs m with rfl | hm1 | hm1 | ⟨i, hi, rfl⟩
 ·have e : wcount p fs 0 = p.jcount := by unfold wcount; rfl
  rw [e]
  have HQ := zh hq
  clear h e hq hm
  go_enter Tryz.func33, Tryz.ntmps33
  go_wp2_with fail
  refine (show Calls _ _ #[ptrV db] _ _ from count_q HQ.out).mono ?_
  rintro e w1 ⟨rfl, rfl⟩
  go_wp2_with fail
  go_ret
  exact ⟨rfl, rfl⟩
 ·have e : isMark fs m = false := by
   unfold isMark
   rw [decide_eq_false (by omega), decide_eq_false (by omega)]
   rfl
  rw [e] at hm
  cases hm
 ·have e : isMark fs m = false := by
   unfold isMark
   rw [decide_eq_false (by omega), decide_eq_false (by omega)]
   rfl
  rw [e] at hm
  cases hm
 ·obtain ⟨g, hA, -, ce, -⟩ := h.fr i hi
  subst hA
  have hok := (h.ok _ (List.getElem_mem hi)).e0
  have e : wcount p fs ((i + 1 : Nat) : Int) = (fs[i]'hi).en - 1 := by
   unfold wcount
   rw [if_neg (by omega), show (((i + 1 : Nat) : Int)).toNat - 1 = i by omega, List.getElem?_eq_getElem hi]
  rw [e]
  have hw1 : IntKind.i64.wrap (((i + 1 : Nat) : Int) - 1) = (i : Int) := by rw [IntKind.wrap_i64]; omega
  obtain ⟨en, hen⟩ : ∃ en, (fs[i]'hi).en = en := ⟨_, rfl⟩
  rw [hen] at ce hok ⊢
  have hw2 : IntKind.i64.wrap (en - 1) = en - 1 := by rw [IntKind.wrap_i64]; omega
  clear h hen e hq hm hok
  go_enter Tryz.func33, Tryz.ntmps33
  go_wp2_with fail
  go_ret
  exact ⟨rfl, rfl⟩
theorem lg_of {p : Pl} {base : Nat} (hr : ∀ y ∈ p.seen nmWal, 0 ≤ y ∧ y < 256) (he : p.wopen.1 = 0) (hb : Blk w lb 83 (lgC db p.whead A p.wopen.2.length c)) (ho : w.ownsRow base 85 259 (.slice A p.wopen.2.length c) p.wopen.2.length (frCells p.wopen.2)) : LgS w db lb p.whead A c p.wopen.2 := by
 refine ⟨hb, ho.mono (Nat.zero_le _), ?_⟩
 revert he
 unfold Pl.wopen
 split
 ·intro he; cases he
 ·split
  ·intro he; cases he
  ·cases hf : frsAt (p.seen nmWal) p.whead.a.toNat with
   | none => intro he; cases he
   | some g =>
    dsimp only
    split
    ·intro he; cases he
    ·exact fun _ => frsAt_ok hr hf
def AskedPost (p : Pl) (m : Int) (db : Nat) (w : World) (e : Ending) (w' : World) : Prop :=
 (p.wopen.1 ≠ 0 ∧ e = .returned (.tuple #[.pointer none, .int .i64 p.wopen.1]) ∧ Kp NoB w w') ∨
 (p.wopen.1 = 0 ∧ ∃ (lb : Nat) (A : Option Addr) (c : Nat), e = .returned (.tuple #[.pointer (some ⟨lb, 0, none⟩), .int .i64 (if isMark p.wopen.2 m = true then 0 else 4)]) ∧ LgS w' db lb p.whead A c p.wopen.2 ∧ w.heap.size ≤ lb ∧ Kp NoB w w')
set_option maxRecDepth 100000 in
set_option maxHeartbeats 1600000 in
theorem asked_q {S : Nat → Prop} {W0 : World} {p : Pl} (hq : Dq S W0 w db p) (m : Int) : Calls Tryz.prog 40 #[ptrV db, .int .i64 m] w (AskedPost p m db w) := by
 have HQ := zh hq
 clear hq
 unfold ptrV
 go_enter Tryz.func40, Tryz.ntmps40
 go_wp2_with fail
 refine (show Calls _ _ #[ptrV db] _ _ from wopen_q HQ.out).mono ?_
 rintro e w1 (⟨he, rfl, hk⟩ | ⟨he, lb, A, c, rfl, hb, ho, hg, hk⟩)
 ·have HE := zh he
  have HK := zh hk
  have he1 : (p.wopen.1 == 0) = false := by simpa using he
  clear hk he
  have HAP : Hid (∀ e0, p.wopen.1 = e0 → AskedPost p m db w (.returned (.tuple #[.pointer none, .int .i64 e0])) w1) := zh (fun e0 q => .inl ⟨HE.out, by rw [q], HK.out⟩)
  obtain ⟨e0, q0⟩ : ∃ e0, p.wopen.1 = e0 := ⟨_, rfl⟩
  have HP := zh (HAP.out e0 q0)
  rw [q0] at he1 ⊢
  clear q0 HAP
  go_wp2_with fail
  go_ret2
  exact HP.out
 ·have hl := lg_of (HQ.out.seen_rng nmWal) he hb ho
  have HL := zh hl
  have HP : Hid (AskedPost p m db w (.returned (.tuple #[.pointer (some ⟨lb, 0, none⟩), .int .i64 (if isMark p.wopen.2 m = true then 0 else 4)])) w1) := zh (.inr ⟨he, lb, A, c, rfl, hl, hg, hk⟩)
  clear hl hb ho hg hk he
  go_wp2_with fail
  refine (is_q HL.out m).mono ?_
  rintro e w2 ⟨rfl, rfl⟩
  cases hmk : isMark p.wopen.2 m with
  | true =>
   rw [hmk] at HP
   clear hmk
   go_wp2_with fail
   go_ret2
   exact HP.out
  | false =>
   rw [hmk] at HP
   clear hmk
   go_wp2_with fail
   go_ret2
   exact HP.out
end
end
section
open Go.RowKit
attribute [local go_sem ↓] load26 store26 alloc26 build26
set_option maxRecDepth 100000 in
set_option maxHeartbeats 1600000 in
theorem frpage_q (w : World) (f : Fr) (h : FrOk f) : Calls Tryz.prog 86 #[.agg (frL f).toArray] w fun e w' => e = .returned (.agg (bytesV f.b)) ∧ Kp NoB w w' := by
 have hlen := h.len
 have hsz : (strOf f.b).size = 256 := by rw [strOf_size, hlen]
 have hsi := strI_strOf f.b h.rng
 have HB1 : Hid (Blk ((w.alloc (.cells (frL f).toArray 85)).alloc (.cells zero256 46)) w.heap.size 85 (frL f).toArray) := zh ((Blk.new _ _ _).alloc _)
 have HB2 : Hid (Blk ((w.alloc (.cells (frL f).toArray 85)).alloc (.cells zero256 46)) (w.heap.size + 1) 46 zero256) := zh (Blk.newAt _ _ _ _ (by simp))
 have HK0 : Hid (Kp NoB w ((w.alloc (.cells (frL f).toArray 85)).alloc (.cells zero256 46))) := zh (((Kp.refl _ _).alloc _).alloc _)
 obtain ⟨C, hC⟩ : ∃ C, (frL f).toArray = C := ⟨_, rfl⟩
 rw [hC] at HB1 HB2 HK0 ⊢
 have HC := zh hC
 have HLEN := zh hlen
 have HSI := zh hsi
 have HSZ := zh hsz
 clear h hC hlen hsi hsz
 go_enter Tryz.func86, Tryz.ntmps86
 go_upto_region 1 with fail
 have hb1 := HB1.out
 have hb2 := HB2.out
 have hk0 := HK0.out
 generalize (w.alloc (.cells C 85)).alloc (.cells zero256 46) = w1 at hb1 hb2 hk0 ⊢
 clear HB1 HB2 HK0
 have c258 : ∀ V, Blk V w.heap.size 85 C → V.cell? ⟨w.heap.size, 258, none⟩ = some (.string (strOf f.b)) := fun V hV => by
  rw [hV.cell, ← HC.out, List.getElem?_toArray]
  exact frL_b f
 have cs := c258 w1 hb1
 obtain ⟨s, hs⟩ : ∃ s, strOf f.b = s := ⟨_, rfl⟩
 rw [hs] at cs HSI HSZ c258
 have hs0 : s.toList.isEmpty = false := by
  rw [ByteArray.toList_eq]
  cases hl : s.data.toList with
  | nil =>
   have h1 : s.data.size = 0 := by rw [← Array.length_toList, hl]; rfl
   have h2 : s.data.size = 256 := HSZ.out
   omega
  | cons _ _ => rfl
 have HS := zh hs
 clear hs
 go_upto_region 2 with fail
 have hcf := c258
 refine wp_region_held_drew (S := fun V => V.cell? ⟨w.heap.size, 258, none⟩ = some (.string s)) (by kernel_rfl) cs (fun hHeld => ?_)
 have hb3 : Blk w1.drew w.heap.size 85 C := hb1.drew
 have hb4 : Blk w1.drew (w.heap.size + 1) 46 zero256 := hb2.drew
 have hk3 : Kp NoB w w1.drew := hk0.drew
 generalize w1.drew = V0 at hb3 hb4 hk3 ⊢
 have cs3 := c258 V0 hb3
 have hcsz : C.size = 259 := by rw [← HC.out, List.size_toArray, frL_len]
 have ht5 : V0.there w.heap.size 1 s.size := hb3.there (by rw [HSZ.out, hcsz]; omega)
 have hcp := copyS V0 w.heap.size 1 256 256 s (by rw [HSZ.out]; omega) ht5
 rw [HSI.out] at hcp
 have hz : C = ([Value.int .i64 f.n] ++ (zeros 256).map (Value.int .u8) ++ [Value.int .i64 f.en, Value.string s]).toArray := by
  rw [← HC.out]
  unfold frL
  rw [HS.out, List.append_assoc]
  rfl
 have hb5 : Blk (V0.setCells w.heap.size 1 (f.b.map (Value.int .u8))) w.heap.size 85 ([Value.int .i64 f.n] ++ f.b.map (Value.int .u8) ++ [Value.int .i64 f.en, Value.string s]).toArray :=
  Blk.cellsL (by rw [← hz]; exact hb3) 1 rfl (by rw [List.length_map, List.length_map, HLEN.out]; exact zeros256)
 have hb6 := hb4.farCells (show w.heap.size + 1 ≠ w.heap.size by omega) (f.b.map (Value.int .u8)) 1 V0
 have hk6 : Kp NoB w (V0.setCells w.heap.size 1 (f.b.map (Value.int .u8))) := Kp.setCells (.inl (Nat.le_refl _)) _ _ _ hk3
 have cs6 : (V0.setCells w.heap.size 1 (f.b.map (Value.int .u8))).cell? ⟨w.heap.size, 258, none⟩ = some (.string s) := by
  rw [hb5.cell, List.getElem?_toArray, List.append_assoc, List.getElem?_append_right (by simp), List.getElem?_append_right (by rw [List.length_map, HLEN.out]; simp)]
  rw [List.length_map, HLEN.out]
  rfl
 refine tkJ (i := 0) (v := (.pointer (some ⟨w.heap.size, 0, none⟩))) rfl cs3 ?_
 simp only [Act.put, sA, sB, sC]
 refine tkJ (i := 1) (v := (.pointer (some ⟨w.heap.size, 1, none⟩))) rfl cs3 ?_
 simp only [Act.put, sA, sB, sC]
 refine tkJ (i := 2) (v := (.slice (some ⟨w.heap.size, 1, none⟩) 256 256)) rfl cs3 ?_
 simp only [Act.put, sA, sB, sC]
 refine tkJ (i := 3) (v := (.pointer (some ⟨w.heap.size, 258, none⟩))) rfl cs3 ?_
 simp only [Act.put, sA, sB, sC]
 refine tkS (i := 4) (v := (.string s)) rfl (Or.inl ⟨by rfl, fun w' hq => by have cc := hq; go_simp⟩) cs3 ?_
 simp only [Act.put, sA, sB, sC]
 refine tkR [5] ?_
 refine AllReadyH.valR (fun W' => W' = V0.setCells w.heap.size 1 (f.b.map (Value.int .u8))) rfl (by rfl) _ _ (copyS_exec hcp _ rfl rfl) (fun W' e => by rw [e]; exact cs6) rfl ?_ AllReadyH.nil
 rintro _ rfl
 simp only [Act.put, sA, sB, sC]
 refine wpAnyH_done (by kernel_rfl) ?_ _
 have hr7 := hb5.read 1 256 rfl (by rw [List.length_map, HLEN.out])
 have ht7 := Blk.there (n := 256) (o := 1) hb5 (by simp [HLEN.out])
 have t4 := hb6.thereAll 256 (by rw [zero256_eq, bytesV_size]; rfl)
 generalize V0.setCells w.heap.size 1 (f.b.map (Value.int .u8)) = w7 at hr7 ht7 hb6 hk6 t4 ⊢
 have HK7 := zh hk6
 have HB6 := zh hb6
 obtain ⟨RR, hRR⟩ : ∃ RR, bytesV f.b = RR := ⟨_, rfl⟩
 have hr8 : readRow w7 w.heap.size 1 256 = RR := by rw [hr7, ← hRR]; rfl
 have o1 : ones RR := by rw [← hRR]; exact bytesV_one f.b
 have s1 : RR.size = 256 := by rw [← hRR, bytesV_size, HLEN.out]
 have HRR := zh hRR
 have S1 := zh s1
 clear hHeld hr7 hb5 hb3 hb4 hk3 cs3 cs6 hcp ht5 hcsz hk6 hRR hz c258 hcf hb6
 go_wp2_with fail
 refine bodyPost_ret (ret_cell1 rfl _ _ _ _ _ _ rfl (HB6.out.whole RR (by rw [S1.out, zero256_eq, bytesV_size]; rfl)) Tryz.underlying46 rfl (by rw [S1.out]; exact info26)) rfl ⟨by rw [HRR.out], ?_⟩
 exact Kp.setCells (.inl (by omega)) _ _ _ HK7.out
end
section
open Go.RowKit
namespace Pl
def wmark (p : Pl) : Int × Int := if p.wopen.1 ≠ 0 then (0, p.wopen.1) else ((p.wopen.2.length : Int), 0)
def wcnt (p : Pl) (m : Int) : Int × Int := if p.wopen.1 ≠ 0 then (0, p.wopen.1) else if isMark p.wopen.2 m = true then (wcount p p.wopen.2 m, 0) else (0, 4)
end Pl
section
variable {S : Nat → Prop} {W0 w : World} {db : Nat} {p : Pl}
set_option maxRecDepth 100000 in
theorem wcheckq_q (hq : Dq S W0 w db p) : Calls Tryz.prog 59 #[ptrV db] w fun e w' => e = .returned (.int .i64 p.wopen.1) ∧ Kp NoB w w' := by
 have HQ := zh hq
 clear hq
 unfold ptrV
 go_enter Tryz.func59, Tryz.ntmps59
 go_wp2_with fail
 refine (show Calls _ _ #[ptrV db] _ _ from wopen_q HQ.out).mono ?_
 rintro e w1 (⟨he, rfl, hk⟩ | ⟨he, lb, A, c, rfl, hb, ho, hg, hk⟩)
 ·have HK := zh hk
  clear hk he
  go_wp2_with fail
  go_ret
  exact ⟨rfl, HK.out⟩
 ·have HK := zh hk
  have HE1 := zh he
  clear hk he hb ho hg
  go_wp2_with fail
  go_ret
  exact ⟨(by rw [HE1.out]; rfl), HK.out⟩
set_option maxRecDepth 100000 in
theorem wmark_q (hq : Dq S W0 w db p) : Calls Tryz.prog 56 #[ptrV db] w fun e w' => e = .returned (.tuple #[.int .i64 p.wmark.1, .int .i64 p.wmark.2]) ∧ Kp NoB w w' := by
 have HQ := zh hq
 clear hq
 unfold ptrV
 go_enter Tryz.func56, Tryz.ntmps56
 go_wp2_with fail
 refine (show Calls _ _ #[ptrV db] _ _ from wopen_q HQ.out).mono ?_
 rintro e w1 (⟨he, rfl, hk⟩ | ⟨he, lb, A, c, rfl, hb, ho, hg, hk⟩)
 ·have HK := zh hk
  have e1 : p.wmark = (0, p.wopen.1) := by unfold Pl.wmark; rw [if_pos he]
  have he1 : (p.wopen.1 == 0) = false := by simpa using he
  have he2 : (p.wopen.1 != 0) = true := by simpa using he
  obtain ⟨e0, q0⟩ : ∃ e0, p.wopen.1 = e0 := ⟨_, rfl⟩
  rw [q0] at he1 he2 e1 ⊢
  have HE1 := zh e1
  clear hk he e1 q0
  go_wp2_with fail
  go_ret2
  exact ⟨(by rw [HE1.out]; rfl), HK.out⟩
 ·have HK := zh hk
  have e1 : p.wmark = ((p.wopen.2.length : Int), 0) := by unfold Pl.wmark; rw [if_neg (by rw [he]; simp)]
  have HE1 := zh e1
  have c5 : w1.cell? ⟨lb, 5, none⟩ = some (.slice A p.wopen.2.length c) := hb.cell 5
  clear hk he hb ho hg e1
  go_wp2_with fail
  go_ret2
  exact ⟨(by rw [HE1.out]; rfl), HK.out⟩
set_option maxRecDepth 100000 in
theorem wcnt_q (hq : Dq S W0 w db p) (m : Int) : Calls Tryz.prog 58 #[ptrV db, .int .i64 m] w fun e w' => e = .returned (.tuple #[.int .i64 (p.wcnt m).1, .int .i64 (p.wcnt m).2]) ∧ Kp NoB w w' := by
 have HQ := zh hq
 clear hq
 unfold ptrV
 go_enter Tryz.func58, Tryz.ntmps58
 go_wp2_with fail
 refine (show Calls _ _ #[ptrV db, .int .i64 m] _ _ from asked_q HQ.out m).mono ?_
 rintro e w1 (⟨he, rfl, hk⟩ | ⟨he, lb, A, c, rfl, hl, hg, hk⟩)
 ·have HK := zh hk
  have e1 : p.wcnt m = (0, p.wopen.1) := by unfold Pl.wcnt; rw [if_pos he]
  have he1 : (p.wopen.1 == 0) = false := by simpa using he
  have he2 : (p.wopen.1 != 0) = true := by simpa using he
  obtain ⟨e0, q0⟩ : ∃ e0, p.wopen.1 = e0 := ⟨_, rfl⟩
  rw [q0] at he1 he2 e1 ⊢
  have HE1 := zh e1
  clear hk he e1 q0
  go_wp2_with fail
  go_ret2
  exact ⟨(by rw [HE1.out]; rfl), HK.out⟩
 ·have HK := zh hk
  have HL := zh hl
  cases hmk : isMark p.wopen.2 m with
  | true =>
   have e1 : p.wcnt m = (wcount p p.wopen.2 m, 0) := by unfold Pl.wcnt; rw [if_neg (by rw [he]; simp), if_pos hmk]
   have HE1 := zh e1
   rw [if_pos rfl]
   have HM := zh hmk
   clear hk hl he hg e1 hmk
   go_wp2_with fail
   refine (wcount_q (HQ.out.keep HK.out) HL.out m HM.out).mono ?_
   rintro e w2 ⟨rfl, rfl⟩
   go_wp2_with fail
   go_ret2
   exact ⟨(by rw [HE1.out]; rfl), HK.out⟩
  | false =>
   have e1 : p.wcnt m = (0, 4) := by unfold Pl.wcnt; rw [if_neg (by rw [he]; simp), if_neg (by rw [hmk]; simp)]
   have HE1 := zh e1
   rw [if_neg (by simp)]
   clear hk hl he hg e1 hmk
   go_wp2_with fail
   go_ret2
   exact ⟨(by rw [HE1.out]; rfl), HK.out⟩
end
end
section
open Go.RowKit
section
variable {S : Nat → Prop} {w : World} {db lb : Nat} {p : Pl}
set_option maxRecDepth 100000 in
theorem wsync_q (h : Dq S w w db p) (hc : w.cell? ⟨lb, 0, none⟩ = some (.pointer (some ⟨db, 0, none⟩))) (hm : p.sm 20000) :
  Calls Tryz.prog 81 #[.pointer (some ⟨lb, 0, none⟩)] w fun e w' => e = .returned (.int .i64 p.syncE) ∧ Dq S w w' db (p.sync nmWal) := by
 have H := zh h
 have HM := zh hm
 clear h hm
 go_enter Tryz.func81, Tryz.ntmps81
 go_wp2_with fail
 refine (show Calls _ _ #[ptrV db, .string nmWal] _ _ from sync_q H.out nmWal nmW_le HM.out).mono ?_
 rintro e w4 ⟨rfl, h4⟩
 have H4 := zh h4
 clear h4
 go_wp2_with fail
 go_ret
 exact ⟨rfl, H4.out⟩
set_option maxRecDepth 100000 in
theorem upto_q (w : World) (lb : Nat) (m : Int) :
  Calls Tryz.prog 85 #[.pointer (some ⟨lb, 0, none⟩), .int .i64 m] w fun e w' => e = .returned (.func (.func 110) #[] #[.pointer (some ⟨w.heap.size + 1, 0, none⟩), .pointer (some ⟨w.heap.size, 0, none⟩)]) ∧ w' = (w.alloc (.cells #[.pointer (some ⟨lb, 0, none⟩)] 73)).alloc (.cells #[.int .i64 m] 3) := by
 go_enter Tryz.func85, Tryz.ntmps85
 go_wp2_with fail
 go_ret
 exact ⟨rfl, rfl⟩
end
end
section
open Go.RowKit Go.Shelf
attribute [local go_sem] Oper.semAt_some
theorem Blk.below {w w' : World} {g : Nat} {t : TypeId} {cs : Array Value} (h : Blk w g t cs) (k : Below w.heap.size w w') : Blk w' g t cs := (k.block g h.lt).trans h
theorem LgS.below {w w' : World} {db lb : Nat} {H : W4} {A : Option Addr} {c : Nat} {fs : List Fr} (h : LgS w db lb H A c fs) (k : Below w.heap.size w w') : LgS w' db lb H A c fs :=
 ⟨h.b.below k, ⟨h.o.1, h.o.2.elim .inl (fun ⟨g, cap, cur, e, hb, hg, r⟩ => .inr ⟨g, cap, cur, e, hb, (k.block g (lt_of_heap hg)).trans hg, r⟩)⟩, h.ok⟩
theorem loadFrI (r : Option Nat) (w : World) (ev : Operand → Value) (ds : Option Tmp) (x : Operand) (ty : TypeId) (ps : String) (af : Array Edge) (g : Option (Nat × Bool)) (h : thereP w (ev x) 259) :
  (Oper.semAt r ev ⟨ds, .load 85 x, ty, ps, af, g⟩).run Tryz.prog w = .ok (.value (.agg (readP w (ev x) 259))) w := by
 rw [Oper.semAt_eq _ _ _ (by intro c h; cases h)]
 exact loadFr w ev ds x ty ps af g h
attribute [local go_sem ↓] loadFrI
theorem frCells_split (fs : List Fr) (i : Nat) (hi : i < fs.length) : frCells fs = frCells (fs.take i) ++ frL (fs.getD i ⟨0, 0, []⟩) ++ frCells (fs.drop (i + 1)) := by
 have e : fs = fs.take i ++ fs[i]'hi :: fs.drop (i + 1) := by rw [List.getElem_cons_drop, List.take_append_drop]
 have h1 : fs.getD i ⟨0, 0, []⟩ = fs[i]'hi := by rw [List.getD_eq_getElem?_getD, List.getElem?_eq_getElem hi]; rfl
 rw [h1]
 conv => lhs; rw [e]
 unfold frCells
 rw [List.flatMap_append, List.flatMap_cons, List.append_assoc]
theorem LgS.row {w : World} {db lb : Nat} {H : W4} {A : Option Addr} {c : Nat} {fs : List Fr} (h : LgS w db lb H A c fs) (i : Nat) (hi : i < fs.length) : ∃ g, A = some ⟨g, 0, none⟩ ∧ w.there g (i * 259) 259 ∧ readRow w g (i * 259) 259 = (frL (fs.getD i ⟨0, 0, []⟩)).toArray := by
 obtain ⟨g, ds, hA, -, hb⟩ := own_blkN h.o (by omega)
 refine ⟨g, hA, hb.there ?_, ?_⟩
 ·rw [List.size_toArray, List.length_append, frCells_len]
  have : (i + 1) * 259 ≤ fs.length * 259 := Nat.mul_le_mul_right _ hi
  omega
 ·rw [frCells_split fs i hi, List.append_assoc] at hb
  exact hb.read (i * 259) 259 (by rw [frCells_len, List.length_take]; congr 1; omega) (frL_len _)
def encF (fs : List Fr) (m k : Nat) : Array Value := #[.agg (frL (fs.getD (m - 1 - k) ⟨0, 0, []⟩)).toArray]
set_option maxRecDepth 100000 in
set_option maxHeartbeats 2000000 in
theorem up1_in (F : Fence) (n : Nat) (h7 : F.fn 110) (hro : F.round = none) (hn : 1 ≤ n) (l B C n₀ db lb : Nat) (H : W4) (A : Option Addr) (c : Nat) (fs : List Fr) (m : Nat) (hm : m ≤ fs.length)
  (J Jx : List Nat → World → Prop)
  (hY : ∀ pre (x : Nat) W, J pre W → pre.length < m → YieldAt F (n - 1) Tryz.prog l (encF fs m x) W fun e W' =>
   (e = .returned (.bool true) ∧ J (pre ++ [x]) W' ∧ Below n₀ W W') ∨ (e = .returned (.bool false) ∧ Jx (pre ++ [x]) W'))
  (w W : World) (hw : w.heap.size = n₀) (hL : LgS w db lb H A c fs) (hB : Blk w B 3 #[.int .i64 (m : Int)]) (hC : Blk w C 73 #[.pointer (some ⟨lb, 0, none⟩)]) (hBel : Below n₀ w W) (h0 : J [] W) :
  CallsIn F n Tryz.prog 110 #[.func (.yield l) #[] #[], .pointer (some ⟨B, 0, none⟩), .pointer (some ⟨C, 0, none⟩)] W fun e W' => (∃ v, e = .returned v) ∧
   ((∃ ys, ys = List.range m ∧ J ys W') ∨ (∃ pre, (∃ k, k ≤ m ∧ pre = List.range k) ∧ Jx pre W')) := by
 subst hw
 have HL := zh hL
 have HB := zh hB
 have HC := zh hC
 have hlen := hL.len
 have c1 : W.cell? ⟨B, 0, none⟩ = some (.int .i64 (m : Int)) := (hB.below hBel).cell 0
 have hw1 : IntKind.i64.wrap ((m : Int) - 1) = (m : Int) - 1 := by rw [IntKind.wrap_i64]; omega
 clear hL hB hC
 refine callsIn_of_wp Tryz.func110 rfl h7 ?_ hro
 simp only [Tryz.ntmps110, List.size_toArray, List.length_cons, List.length_nil, Nat.reduceAdd, Nat.reduceSub, Array.replicate_succ, Array.replicate_zero, List.push_toArray, List.append_toArray, List.nil_append, List.cons_append]
 gi_wp2
 gi_loopw [4] (fun i wr => ∃ k : Nat, k ≤ m ∧ i = .int .i64 ((m : Int) - 1 - (k : Int)) ∧ J (List.range k) wr ∧ Below w.heap.size w wr)
  (fun i _ => (intOf i + 1).toNat)
 case atStart => exact ⟨0, Nat.zero_le _, by simp, h0, hBel⟩
 case round =>
  obtain ⟨k, hk, rfl, hJs, hnx⟩ := hrel
  by_cases hlt : k < m
  ·have hl2 := HL.out.below hnx
   have c0 : wr.cell? ⟨C, 0, none⟩ = some (.pointer (some ⟨lb, 0, none⟩)) := (HC.out.below hnx).cell 0
   have c5 := hl2.cl.2
   obtain ⟨q, hq⟩ : ∃ q : Nat, m - 1 - k = q := ⟨_, rfl⟩
   have hqi : (m : Int) - 1 - (k : Int) = (q : Int) := by omega
   rw [hqi]
   have hql : q < fs.length := by omega
   obtain ⟨g, hA, hth, hrd⟩ := hl2.row q hql
   subst hA
   obtain ⟨fn, tmps, assign, body, hy, hR⟩ := hY _ k wr hJs (by rw [List.length_range]; exact hlt)
   unfold encF at hy
   rw [hq] at hy
   obtain ⟨fv, hfv⟩ : ∃ fv, (frL (fs.getD q ⟨0, 0, []⟩)).toArray = fv := ⟨_, rfl⟩
   rw [hfv] at hrd hy
   clear hl2 hql
   gi_wp2
   refine hR.mono ?_
   rintro e W3 (⟨rfl, hJ3, hk3⟩ | ⟨rfl, hJx3⟩)
   ·have hw2 : IntKind.i64.wrap ((q : Int) - 1) = (q : Int) - 1 := by rw [IntKind.wrap_i64]; omega
    gi_wp2
    go_roundw
    case rel => exact ⟨k + 1, by omega, by first | (congr 1; done) | (congr 1; omega), by rw [List.range_succ]; exact hJ3, hnx.trans hk3⟩
    case measure => first | (simp [intOf]; done) | (simp [intOf]; omega)
   ·gi_wp2
    refine bodyPost_ret (results_none rfl _ _ _) rfl ?_
    exact ⟨⟨_, rfl⟩, .inr ⟨_, ⟨k + 1, by omega, by rw [List.range_succ]⟩, hJx3⟩⟩
  ·obtain rfl : k = m := by omega
   have hqi : (k : Int) - 1 - (k : Int) = -1 := by omega
   rw [hqi]
   gi_wp2
   go_end0
   exact ⟨⟨_, rfl⟩, .inl ⟨_, rfl, hJs⟩⟩
theorem up_stops (F : Fence) (n : Nat) (h7 : F.fn 110) (hro : F.round = none) (hn : 1 ≤ n) (B C db lb : Nat) (H : W4) (A : Option Addr) (c : Nat) (fs : List Fr) (m : Nat) (hm : m ≤ fs.length) (w : World) (hL : LgS w db lb H A c fs) (hB : Blk w B 3 #[.int .i64 (m : Int)]) (hC : Blk w C 73 #[.pointer (some ⟨lb, 0, none⟩)]) :
  SeqStopsK F n Tryz.prog 110 #[.pointer (some ⟨B, 0, none⟩), .pointer (some ⟨C, 0, none⟩)] (encF fs m) (Below w.heap.size) (fun ys => ys = List.range m)
   (fun pre => ∃ k, k ≤ m ∧ pre = List.range k) m w := fun l J Jx W hW _ _ hY h0 =>
 up1_in F n h7 hro hn l B C w.heap.size db lb H A c fs m hm J Jx hY w W rfl hL hB hC hW h0
end
end Go.Proofs.YtegcbdfilkecpaaGreat
