/- Texts of this proof, one behind the other: lemmas and contracts; each says its own conditions. -/
import Derived.Test.YtegcbdfilkecpaaM1
import Derived.Test.YtegcbdfilkecpaaM12
import Derived.Test.YtegcbdfilkecpaaM13
/- The reference's journal: Records; condition: a text of at most 1048576 bytes, words of 32 bits. -/
namespace Go.Proofs.Ytegcbdfilkecpaa
open Go.RowKit

theorem ownPgs_rows {w : World} {n0 n c : Nat} {A : Option Addr} {l : List Pg} (h : OwnPgs w n0 (.slice A n c) l) : n = l.length ∧ PgsAt w A n l := by
  have hn : n = l.length := by
    rcases h.1.2 with ⟨e, hl⟩ | ⟨g, cap, cur, e, _⟩
    · injection e with _ e2 _; omega
    · injection e with _ e2 _
  subst hn
  have hx : ∀ x ∈ l.map pgL, x.length = 257 := fun x hx => by
    obtain ⟨y, hy, rfl⟩ := List.mem_map.1 hx
    exact pgL_len (h.2 y hy)
  have e : pgsCells l = (l.map pgL).flatten := by unfold pgsCells; rw [List.flatMap_def]
  exact ⟨rfl, RowsC.own (base := n0) (e := 113) (cap := c) (by rw [← e]; exact h.1) (by rw [List.length_map]) hx⟩
def RrPost (w : World) (r : Option (List Pg)) (e : Ending) (w' : World) : Prop :=
  Kp NoB w w' ∧ ((r = none ∧ e = .returned (.tuple #[.slice none 0 0, .bool false])) ∨ ∃ l v, r = some l ∧ e = .returned (.tuple #[v, .bool true]) ∧ OwnPgs w' w.heap.size v l)
/-- the last number laid -/
def lastN (acc : List Pg) : Int := match acc.getLast? with | some y => y.n | none => 0
def RrRel (w1 : World) (l : List Int) (vb : Int) (N : Nat) (R : Option (List Pg)) (v6 v7 : Value) (wr : World) : Prop :=
  ∃ (k : Nat) (acc : List Pg), v7 = .int .i64 (k : Int) ∧ k ≤ N ∧ acc.length = k ∧ 0 ≤ lastN acc ∧ R = (recsPg l vb (N - k) k (lastN acc)).map (acc ++ ·) ∧ OwnPgs wr w1.heap.size v6 acc ∧ Kp NoB w1 wr
theorem lastN_app (acc : List Pg) (x : Pg) : lastN (acc ++ [x]) = x.n := by unfold lastN; simp
attribute [local go_sem ↓] loadPg storePg allocPg exSlicePg
set_option maxRecDepth 100000 in
set_option maxHeartbeats 1600000 in
theorem records_rok (w : World) (l : List Int) (v : W4) (hr : ∀ y ∈ l, 0 ≤ y ∧ y < 256) (hl : l.length ≤ 1048576) (hv : W4Ok v) (ha : 1 ≤ v.a) :
    Calls Try.prog 126 #[.string (strOf l), w4V v] w (RrPost w (recordsPg l v)) := by
  have HR := Lib.hid hr
  have HL := Lib.hid hl
  obtain ⟨R, hR⟩ : ∃ R, recordsPg l v = R := ⟨_, rfl⟩
  have HRR := Lib.hid hR
  rw [hR]
  obtain ⟨va, vb, vc, vd⟩ := v
  have hva := hv.a
  have hvb := hv.b
  have hra : 0 ≤ va ∧ va < 4294967296 := hva
  have hrb : 0 ≤ vb ∧ vb < 4294967296 := hvb
  have ha' : 1 ≤ va := ha
  have hb : Blk (w.alloc (.cells #[.int .i64 va, .int .i64 vb, .int .i64 vc, .int .i64 vd] 183)) w.heap.size 183 #[.int .i64 va, .int .i64 vb, .int .i64 vc, .int .i64 vd] := Blk.new _ _ _
  have hk : Kp NoB w (w.alloc (.cells #[.int .i64 va, .int .i64 vb, .int .i64 vc, .int .i64 vd] 183)) := (Kp.refl NoB w).alloc _
  have hbad : Hid (4096 < va - 1 ∨ 4096 < vb ∨ vc ≠ 0 ∨ vd ≠ 0 → R = none) := Lib.hid (fun q => by rw [← hR]; unfold recordsPg; rw [if_pos q])
  have hwa : IntKind.i64.wrap (va - 1) = va - 1 := by rw [IntKind.wrap_i64]; omega
  have hsz := strOf_size l
  clear hr hl hR hv ha hva hvb
  unfold w4V
  by_cases hA : 4096 < va - 1
  · have hRn := hbad.out (.inl hA)
    have HRN := Lib.hid hRn
    clear hRn
    go_enter Try.func126, Try.ntmps126
    go_wp2_with fail
    go_ret2
    exact ⟨hk, .inl ⟨HRN.out, rfl⟩⟩
  by_cases hB : 4096 < vb
  · have HRN := Lib.hid (hbad.out (.inr (.inl hB)))
    go_enter Try.func126, Try.ntmps126
    go_wp2_with fail
    go_ret2
    exact ⟨hk, .inl ⟨HRN.out, rfl⟩⟩
  by_cases hC : vc = 0
  · by_cases hD : vd = 0
    · subst hC hD
      obtain ⟨N, hN⟩ : ∃ N : Nat, va = (N : Int) + 1 := ⟨(va - 1).toNat, by omega⟩
      subst hN
      have hR0 : Hid (R = recsPg l vb N 0 0) := Lib.hid (by
        rw [← HRR.out]
        unfold recordsPg
        rw [if_neg (by show ¬ (4096 < (N : Int) + 1 - 1 ∨ 4096 < vb ∨ (0 : Int) ≠ 0 ∨ (0 : Int) ≠ 0); omega)]
        show recsPg l vb ((N : Int) + 1 - 1).toNat 0 0 = _
        rw [show ((N : Int) + 1 - 1).toNat = N by omega])
      have hN4 : N ≤ 4096 := by omega
      have hwa : IntKind.i64.wrap ((N : Int) + 1 - 1) = (N : Int) := by rw [IntKind.wrap_i64]; omega
      obtain ⟨j0, hj0, hy0, hy1, hy2⟩ := info_parts infoPgA
      have HJ0 := Lib.hid hj0
      have HY0 := Lib.hid hy0
      have HY1 := Lib.hid hy1
      have HY2 := Lib.hid hy2
      clear hj0 hy0 hy1 hy2 hA ha'
      go_enter Try.func126, Try.ntmps126
      go_upto_region 1 with fail
      generalize w.alloc (.cells #[.int .i64 ((N : Int) + 1), .int .i64 vb, .int .i64 0, .int .i64 0] 183) = w1 at hb hk ⊢
      generalize hs0 : w.heap.size = s0 at hb ⊢
      have HS0 := Lib.hid hs0
      have HB := Lib.hid hb
      have HK := Lib.hid hk
      have c0 : w1.cell? ⟨s0, 0, none⟩ = some (.int .i64 ((N : Int) + 1)) := hb.cell 0
      have c1 : w1.cell? ⟨s0, 1, none⟩ = some (.int .i64 vb) := hb.cell 1
      have c2 : w1.cell? ⟨s0, 2, none⟩ = some (.int .i64 0) := hb.cell 2
      have c3 : w1.cell? ⟨s0, 3, none⟩ = some (.int .i64 0) := hb.cell 3
      have hnn : ¬ 4096 < (N : Int) := by omega
      have hl0 := hb.lt
      clear hs0 hb hk
      go_wp2_with fail
      go_loopw [6, 7, 8, 9] (fun v6 v7 v8 v9 wr => RrRel w1 l vb N R v6 v7 wr) (fun _ v _ _ _ => N - (intOf v).toNat)
      case atStart => exact ⟨0, [], rfl, Nat.zero_le _, rfl, Int.le_refl _, by rw [hR0.out]; simp [lastN], ⟨World.ownsRow_nil _ _ _ _, by simp⟩, Kp.refl _ _⟩
      case round =>
        obtain ⟨wq, rfl⟩ : ∃ wq, wq = wr := ⟨_, rfl⟩
        obtain ⟨k, acc, rfl, hk, hal, hla, hre, how, hkp⟩ := hrel
        have HAL := Lib.hid hal
        have HLA := Lib.hid hla
        have HRE := Lib.hid hre
        have HOW := Lib.hid how
        have HKP := Lib.hid hkp
        obtain ⟨A6, cap6, rfl⟩ := own_slice how.1
        have c0 : wq.cell? ⟨s0, 0, none⟩ = some (.int .i64 ((N : Int) + 1)) := (hkp.cell hl0 (fun q => q)).trans c0
        have c1 : wq.cell? ⟨s0, 1, none⟩ = some (.int .i64 vb) := (hkp.cell hl0 (fun q => q)).trans c1
        have hl0 : s0 < wq.heap.size := Nat.lt_of_lt_of_le hl0 hkp.size
        rw [hal]
        clear c2 c3 hal hla hre how
        by_cases hlt : k < N
        · have hkk : (k : Int) < (N : Int) := by omega
          obtain ⟨a, ha⟩ : ∃ a : Nat, 64 + 320 * k = a := ⟨_, rfl⟩
          have hw1 : IntKind.i64.wrap (320 * (k : Int)) = 320 * (k : Int) := by rw [IntKind.wrap_i64]; omega
          have hw2 : IntKind.i64.wrap (64 + 320 * (k : Int)) = (a : Int) := by rw [IntKind.wrap_i64]; omega
          have hw3 : IntKind.i64.wrap ((a : Int) + 320) = (a : Int) + 320 := by rw [IntKind.wrap_i64]; omega
          obtain ⟨a4, ha4⟩ : ∃ a4 : Nat, a + 4 = a4 := ⟨_, rfl⟩
          obtain ⟨a64, ha64⟩ : ∃ a64 : Nat, a + 64 = a64 := ⟨_, rfl⟩
          have hw4 : IntKind.i64.wrap ((a : Int) + 4) = (a4 : Int) := by rw [IntKind.wrap_i64]; omega
          have hw5 : IntKind.i64.wrap ((a : Int) + 64) = (a64 : Int) := by rw [IntKind.wrap_i64]; omega
          have h46 : a4 ≤ a64 := by omega
          have HA4 := Lib.hid ha4
          have HA64 := Lib.hid ha64
          clear ha4 ha64
          have hst := recs_step l vb N k (lastN acc) hlt
          rw [ha] at hst
          have HST := Lib.hid hst
          have HA := Lib.hid ha
          clear hst ha
          by_cases hlong : l.length < a + 320
          · have hcc : (l.length : Int) < (a : Int) + 320 := by omega
            have HRN : Hid (R = none) := Lib.hid (by
              rw [HRE.out, HST.out.1 (by rw [List.length_take, List.length_drop]; omega)]
              rfl)
            go_wp2_with fail
            go_ret2
            exact ⟨HK.out.trans HKP.out (fun _ _ q => q), .inl ⟨HRN.out, rfl⟩⟩
          · have hcc : ¬ (l.length : Int) < (a : Int) + 320 := by omega
            go_upto_region 11 with (go_at_call 157; go_must (refine (number_rok _ l a HR.out (by omega) (by have := HL.out; omega)).mono ?_); rintro e w3 ⟨rfl, hk3⟩; have HK3 := Lib.hid hk3; clear hk3)
            have hk3 := HK3.out
            have c1w : w3.drew.cell? ⟨s0, 1, none⟩ = some (.int .i64 vb) := (hk3.cell hl0 (fun q => q)).trans c1
            have hl3 : s0 < w3.drew.heap.size := Nat.lt_of_lt_of_le hl0 hk3.size
            obtain ⟨b, hb⟩ : ∃ b, (l.drop a).take 320 = b := ⟨_, rfl⟩
            have hbl : b.length = 320 := by rw [← hb, List.length_take, List.length_drop]; omega
            obtain ⟨x, hx⟩ : ∃ x, num l a = x := ⟨_, rfl⟩
            have hxb : num b 0 = x := by
              rw [← hx, ← hb]
              unfold num
              have e : ∀ j, j < 320 → ((l.drop a).take 320).getD j 0 = l.getD (a + j) 0 := fun j hj => by rw [List.getD_eq_getElem?_getD, List.getD_eq_getElem?_getD, List.getElem?_take, if_pos hj, List.getElem?_drop]
              rw [e 0 (by omega), e (0 + 1) (by omega), e (0 + 2) (by omega), e (0 + 3) (by omega)]
              simp only [Nat.zero_add, Nat.add_zero]
            have hxr : 0 ≤ x ∧ x < 4294967296 := by rw [← hx]; exact num_rng HR.out a
            have hz : (b.drop 4).take 60 = (l.drop a4).take 60 := by rw [← HA4.out, ← hb, List.drop_take, List.take_take, List.drop_drop]; rfl
            have hst := HST.out.2 (by rw [hb]; omega)
            rw [hb, hxb, hz] at hst
            have HST2 := Lib.hid hst
            have ha64l : a64 ≤ l.length := by have := HA64.out; omega
            have ha63 : l.length ≤ 9223372036854775807 := by have := HL.out; omega
            have x1 : ((strOf l).extract a4 a64).size = 60 := by rw [ByteArray.size_extract]; have := HA4.out; have := HA64.out; omega
            have hbq := str_eqB ((strOf l).extract a4 a64) (strOf (zeros 60))
            have he : ((strOf l).extract a4 a64 = strOf (zeros 60)) ↔ (l.drop a4).take 60 = zeros 60 := by
              rw [strOf_sub, show a64 - a4 = 60 by have := HA4.out; have := HA64.out; omega]
              exact ⟨fun q => strOf_inj (fun y hy => HR.out y (List.mem_of_mem_drop (List.mem_of_mem_take hy))) (zeros_rng 60) q, fun q => congrArg strOf q⟩
            rw [hx]
            have HB9 := Lib.hid hb
            have HBL := Lib.hid hbl
            clear hb hbl hx hxb hz hst hk3
            by_cases hzz : (l.drop a4).take 60 = zeros 60
            · rw [decide_eq_true (he.2 hzz)] at hbq
              have HZZ := Lib.hid hzz
              clear hzz he
              by_cases hx1 : x < 1
              · have HRN : Hid (R = none) := Lib.hid (by
                  rw [HRE.out, HST2.out.2 (fun q => by have := q.2.1; have := HLA.out; omega)]
                  rfl)
                refine wp_region_held_drew (S := fun V => Kp NoB wq V) (by kernel_rfl) HK3.out.drew (fun hHeld => ?_)
                have k0 : Kp NoB wq w3.drew := HK3.out.drew
                generalize w3.drew = V0 at k0 hHeld ⊢
                refine tkS (i := 0) (v := (.string (strOf l))) rfl (Or.inl ⟨by rfl, fun w' hq => by go_simp⟩) k0 ?_
                simp only [Act.put, skA, skB, skC]
                refine tkS (i := 1) (v := (.int .i64 (a : Int))) rfl (Or.inl ⟨by rfl, fun w' hq => by go_simp⟩) k0 ?_
                simp only [Act.put, skA, skB, skC]
                refine tkS (i := 2) (v := (.int .i64 (a4 : Int))) rfl (Or.inl ⟨by rfl, fun w' hq => by go_simp⟩) k0 ?_
                simp only [Act.put, skA, skB, skC]
                refine tkS (i := 3) (v := (.int .i64 (a : Int))) rfl (Or.inl ⟨by rfl, fun w' hq => by go_simp⟩) k0 ?_
                simp only [Act.put, skA, skB, skC]
                refine tkS (i := 4) (v := (.int .i64 (a64 : Int))) rfl (Or.inl ⟨by rfl, fun w' hq => by go_simp⟩) k0 ?_
                simp only [Act.put, skA, skB, skC]
                refine tkS (i := 5) (v := (.string ((strOf l).extract a4 a64))) rfl (Or.inl ⟨by rfl, fun w' hq => by go_simp⟩) k0 ?_
                simp only [Act.put, skA, skB, skC]
                refine wpAnyH_ready (rs := [6]) (by kernel_rfl) (by simp) ?_
                refine AllReadyH.callR (fun y W' => y = .string (strOf (zeros 60)) ∧ Kp NoB wq W') rfl (by rfl) 159 #[.int .i64 60] (by first | (go_simp; done) | (go_simp; rfl)) (fun _ _ q => q.2) ((zeros_rok V0 60 (by omega)).mono (by rintro e w' ⟨rfl, hk⟩; exact ⟨_, rfl, rfl, k0.trans hk (fun _ _ q => q)⟩)) ?_ AllReadyH.nil
                rintro y V1 ⟨rfl, k1⟩
                simp only [Act.put, skA, skB, skC]
                refine tkS (i := 7) (v := (.bool false)) rfl (Or.inl ⟨by rfl, fun w' hq => by go_simp⟩) k1 ?_
                simp only [Act.put, skA, skB, skC]
                refine tkS (i := 8) (v := (.bool false)) rfl (Or.inl ⟨by rfl, fun w' hq => by go_simp⟩) k1 ?_
                simp only [Act.put, skA, skB, skC]
                refine tkS (i := 9) (v := (.int .i64 x)) rfl (Or.inl ⟨by rfl, fun w' hq => by go_simp⟩) k1 ?_
                simp only [Act.put, skA, skB, skC]
                refine tkS (i := 10) (v := (.bool true)) rfl (Or.inl ⟨by rfl, fun w' hq => by go_simp⟩) k1 ?_
                simp only [Act.put, skA, skB, skC]
                refine tkS (i := 11) (v := (.bool true)) rfl (Or.inl ⟨by rfl, fun w' hq => by go_simp⟩) k1 ?_
                simp only [Act.put, skA, skB, skC]
                refine tkS (i := 12) (v := (.bool true)) rfl (Or.inl ⟨by rfl, fun w' hq => by go_simp⟩) k1 ?_
                simp only [Act.put, skA, skB, skC]
                refine tkS (i := 13) (v := undef) rfl (Or.inr ⟨by rfl, rfl⟩) k1 ?_
                simp only [Act.put, skA, skB, skC]
                refine tkS (i := 14) (v := undef) rfl (Or.inr ⟨by rfl, rfl⟩) k1 ?_
                simp only [Act.put, skA, skB, skC]
                refine tkS (i := 15) (v := undef) rfl (Or.inr ⟨by rfl, rfl⟩) k1 ?_
                simp only [Act.put, skA, skB, skC]
                refine tkS (i := 16) (v := undef) rfl (Or.inr ⟨by rfl, rfl⟩) k1 ?_
                simp only [Act.put, skA, skB, skC]
                refine tkS (i := 17) (v := (.bool true)) rfl (Or.inl ⟨by rfl, fun w' hq => by go_simp⟩) k1 ?_
                simp only [Act.put, skA, skB, skC]
                refine tkS (i := 18) (v := (.bool true)) rfl (Or.inl ⟨by rfl, fun w' hq => by go_simp⟩) k1 ?_
                simp only [Act.put, skA, skB, skC]
                refine tkS (i := 19) (v := undef) rfl (Or.inr ⟨by rfl, rfl⟩) k1 ?_
                simp only [Act.put, skA, skB, skC]
                refine tkS (i := 20) (v := undef) rfl (Or.inr ⟨by rfl, rfl⟩) k1 ?_
                simp only [Act.put, skA, skB, skC]
                refine tkS (i := 21) (v := undef) rfl (Or.inr ⟨by rfl, rfl⟩) k1 ?_
                simp only [Act.put, skA, skB, skC]
                refine tkS (i := 22) (v := undef) rfl (Or.inr ⟨by rfl, rfl⟩) k1 ?_
                simp only [Act.put, skA, skB, skC]
                refine tkS (i := 23) (v := undef) rfl (Or.inr ⟨by rfl, rfl⟩) k1 ?_
                simp only [Act.put, skA, skB, skC]
                refine tkS (i := 24) (v := undef) rfl (Or.inr ⟨by rfl, rfl⟩) k1 ?_
                simp only [Act.put, skA, skB, skC]
                refine tkS (i := 25) (v := undef) rfl (Or.inr ⟨by rfl, rfl⟩) k1 ?_
                simp only [Act.put, skA, skB, skC]
                refine tkS (i := 26) (v := undef) rfl (Or.inr ⟨by rfl, rfl⟩) k1 ?_
                simp only [Act.put, skA, skB, skC]
                refine tkS (i := 27) (v := undef) rfl (Or.inr ⟨by rfl, rfl⟩) k1 ?_
                simp only [Act.put, skA, skB, skC]
                refine tkS (i := 28) (v := undef) rfl (Or.inr ⟨by rfl, rfl⟩) k1 ?_
                simp only [Act.put, skA, skB, skC]
                refine tkS (i := 29) (v := undef) rfl (Or.inr ⟨by rfl, rfl⟩) k1 ?_
                simp only [Act.put, skA, skB, skC]
                refine tkS (i := 30) (v := undef) rfl (Or.inr ⟨by rfl, rfl⟩) k1 ?_
                simp only [Act.put, skA, skB, skC]
                refine tkS (i := 31) (v := (.bool true)) rfl (Or.inl ⟨by rfl, fun w' hq => by go_simp⟩) k1 ?_
                simp only [Act.put, skA, skB, skC]
                refine wpAnyH_done (by kernel_rfl) ?_ _
                have HK4 := Lib.hid k1
                clear hHeld k0 k1
                go_wp2_with fail
                go_ret2
                exact ⟨HK.out.trans (HKP.out.trans HK4.out (fun _ _ q => q)) (fun _ _ q => q), .inl ⟨HRN.out, rfl⟩⟩
              · by_cases hx2 : vb < x
                · have HRN : Hid (R = none) := Lib.hid (by
                    rw [HRE.out, HST2.out.2 (fun q => by have := q.2.2; omega)]
                    rfl)
                  refine wp_region_held_drew (S := fun V => Kp NoB wq V) (by kernel_rfl) HK3.out.drew (fun hHeld => ?_)
                  have k0 : Kp NoB wq w3.drew := HK3.out.drew
                  generalize w3.drew = V0 at k0 hHeld ⊢
                  refine tkS (i := 0) (v := (.string (strOf l))) rfl (Or.inl ⟨by rfl, fun w' hq => by go_simp⟩) k0 ?_
                  simp only [Act.put, skA, skB, skC]
                  refine tkS (i := 1) (v := (.int .i64 (a : Int))) rfl (Or.inl ⟨by rfl, fun w' hq => by go_simp⟩) k0 ?_
                  simp only [Act.put, skA, skB, skC]
                  refine tkS (i := 2) (v := (.int .i64 (a4 : Int))) rfl (Or.inl ⟨by rfl, fun w' hq => by go_simp⟩) k0 ?_
                  simp only [Act.put, skA, skB, skC]
                  refine tkS (i := 3) (v := (.int .i64 (a : Int))) rfl (Or.inl ⟨by rfl, fun w' hq => by go_simp⟩) k0 ?_
                  simp only [Act.put, skA, skB, skC]
                  refine tkS (i := 4) (v := (.int .i64 (a64 : Int))) rfl (Or.inl ⟨by rfl, fun w' hq => by go_simp⟩) k0 ?_
                  simp only [Act.put, skA, skB, skC]
                  refine tkS (i := 5) (v := (.string ((strOf l).extract a4 a64))) rfl (Or.inl ⟨by rfl, fun w' hq => by go_simp⟩) k0 ?_
                  simp only [Act.put, skA, skB, skC]
                  refine wpAnyH_ready (rs := [6]) (by kernel_rfl) (by simp) ?_
                  refine AllReadyH.callR (fun y W' => y = .string (strOf (zeros 60)) ∧ Kp NoB wq W') rfl (by rfl) 159 #[.int .i64 60] (by first | (go_simp; done) | (go_simp; rfl)) (fun _ _ q => q.2) ((zeros_rok V0 60 (by omega)).mono (by rintro e w' ⟨rfl, hk⟩; exact ⟨_, rfl, rfl, k0.trans hk (fun _ _ q => q)⟩)) ?_ AllReadyH.nil
                  rintro y V1 ⟨rfl, k1⟩
                  simp only [Act.put, skA, skB, skC]
                  refine tkS (i := 7) (v := (.bool false)) rfl (Or.inl ⟨by rfl, fun w' hq => by go_simp⟩) k1 ?_
                  simp only [Act.put, skA, skB, skC]
                  refine tkS (i := 8) (v := (.bool false)) rfl (Or.inl ⟨by rfl, fun w' hq => by go_simp⟩) k1 ?_
                  simp only [Act.put, skA, skB, skC]
                  refine tkS (i := 9) (v := (.int .i64 x)) rfl (Or.inl ⟨by rfl, fun w' hq => by go_simp⟩) k1 ?_
                  simp only [Act.put, skA, skB, skC]
                  refine tkS (i := 10) (v := (.bool false)) rfl (Or.inl ⟨by rfl, fun w' hq => by go_simp⟩) k1 ?_
                  simp only [Act.put, skA, skB, skC]
                  refine tkS (i := 11) (v := (.bool false)) rfl (Or.inl ⟨by rfl, fun w' hq => by go_simp⟩) k1 ?_
                  simp only [Act.put, skA, skB, skC]
                  refine tkS (i := 12) (v := (.bool false)) rfl (Or.inl ⟨by rfl, fun w' hq => by go_simp⟩) k1 ?_
                  simp only [Act.put, skA, skB, skC]
                  refine tkS (i := 13) (v := (.int .i64 x)) rfl (Or.inl ⟨by rfl, fun w' hq => by go_simp⟩) k1 ?_
                  simp only [Act.put, skA, skB, skC]
                  refine tkS (i := 14) (v := (.pointer (some ⟨s0, 1, none⟩))) rfl (Or.inl ⟨by rfl, fun w' hq => by go_simp⟩) k1 ?_
                  simp only [Act.put, skA, skB, skC]
                  refine tkS (i := 15) (v := (.int .i64 vb)) rfl (Or.inl ⟨by rfl, fun w' hq => by (have := (hq.cell hl0 (fun q => q)).trans c1); go_simp⟩) k1 ?_
                  simp only [Act.put, skA, skB, skC]
                  refine tkS (i := 16) (v := (.bool true)) rfl (Or.inl ⟨by rfl, fun w' hq => by go_simp⟩) k1 ?_
                  simp only [Act.put, skA, skB, skC]
                  refine tkS (i := 17) (v := (.bool true)) rfl (Or.inl ⟨by rfl, fun w' hq => by go_simp⟩) k1 ?_
                  simp only [Act.put, skA, skB, skC]
                  refine tkS (i := 18) (v := (.bool true)) rfl (Or.inl ⟨by rfl, fun w' hq => by go_simp⟩) k1 ?_
                  simp only [Act.put, skA, skB, skC]
                  refine tkS (i := 19) (v := undef) rfl (Or.inr ⟨by rfl, rfl⟩) k1 ?_
                  simp only [Act.put, skA, skB, skC]
                  refine tkS (i := 20) (v := undef) rfl (Or.inr ⟨by rfl, rfl⟩) k1 ?_
                  simp only [Act.put, skA, skB, skC]
                  refine tkS (i := 21) (v := undef) rfl (Or.inr ⟨by rfl, rfl⟩) k1 ?_
                  simp only [Act.put, skA, skB, skC]
                  refine tkS (i := 22) (v := undef) rfl (Or.inr ⟨by rfl, rfl⟩) k1 ?_
                  simp only [Act.put, skA, skB, skC]
                  refine tkS (i := 23) (v := undef) rfl (Or.inr ⟨by rfl, rfl⟩) k1 ?_
                  simp only [Act.put, skA, skB, skC]
                  refine tkS (i := 24) (v := undef) rfl (Or.inr ⟨by rfl, rfl⟩) k1 ?_
                  simp only [Act.put, skA, skB, skC]
                  refine tkS (i := 25) (v := undef) rfl (Or.inr ⟨by rfl, rfl⟩) k1 ?_
                  simp only [Act.put, skA, skB, skC]
                  refine tkS (i := 26) (v := undef) rfl (Or.inr ⟨by rfl, rfl⟩) k1 ?_
                  simp only [Act.put, skA, skB, skC]
                  refine tkS (i := 27) (v := undef) rfl (Or.inr ⟨by rfl, rfl⟩) k1 ?_
                  simp only [Act.put, skA, skB, skC]
                  refine tkS (i := 28) (v := undef) rfl (Or.inr ⟨by rfl, rfl⟩) k1 ?_
                  simp only [Act.put, skA, skB, skC]
                  refine tkS (i := 29) (v := undef) rfl (Or.inr ⟨by rfl, rfl⟩) k1 ?_
                  simp only [Act.put, skA, skB, skC]
                  refine tkS (i := 30) (v := undef) rfl (Or.inr ⟨by rfl, rfl⟩) k1 ?_
                  simp only [Act.put, skA, skB, skC]
                  refine tkS (i := 31) (v := (.bool true)) rfl (Or.inl ⟨by rfl, fun w' hq => by go_simp⟩) k1 ?_
                  simp only [Act.put, skA, skB, skC]
                  refine wpAnyH_done (by kernel_rfl) ?_ _
                  have HK4 := Lib.hid k1
                  clear hHeld k0 k1
                  go_wp2_with fail
                  go_ret2
                  exact ⟨HK.out.trans (HKP.out.trans HK4.out (fun _ _ q => q)) (fun _ _ q => q), .inl ⟨HRN.out, rfl⟩⟩
                · obtain ⟨ln, hln⟩ : ∃ y, lastN acc = y := ⟨_, rfl⟩
                  have HLN := Lib.hid hln
                  rw [hln] at HST2 HLA
                  clear hln
                  have hk63 : k < 9223372036854775807 := by omega
                  rcases k with _ | k
                  · have hl0' : ln = 0 := by
                      have h1 := HAL.out
                      have h2 := HLN.out
                      rw [List.eq_nil_of_length_eq_zero h1] at h2
                      exact h2.symm
                    have HOKR := Lib.hid (HST2.out.1 ⟨HZZ.out, by omega, by omega⟩)
                    clear hl0'
                    refine wp_region_held_drew (S := fun V => Kp NoB wq V) (by kernel_rfl) HK3.out.drew (fun hHeld => ?_)
                    have k0 : Kp NoB wq w3.drew := HK3.out.drew
                    generalize w3.drew = V0 at k0 hHeld ⊢
                    refine tkS (i := 0) (v := (.string (strOf l))) rfl (Or.inl ⟨by rfl, fun w' hq => by go_simp⟩) k0 ?_
                    simp only [Act.put, skA, skB, skC]
                    refine tkS (i := 1) (v := (.int .i64 (a : Int))) rfl (Or.inl ⟨by rfl, fun w' hq => by go_simp⟩) k0 ?_
                    simp only [Act.put, skA, skB, skC]
                    refine tkS (i := 2) (v := (.int .i64 (a4 : Int))) rfl (Or.inl ⟨by rfl, fun w' hq => by go_simp⟩) k0 ?_
                    simp only [Act.put, skA, skB, skC]
                    refine tkS (i := 3) (v := (.int .i64 (a : Int))) rfl (Or.inl ⟨by rfl, fun w' hq => by go_simp⟩) k0 ?_
                    simp only [Act.put, skA, skB, skC]
                    refine tkS (i := 4) (v := (.int .i64 (a64 : Int))) rfl (Or.inl ⟨by rfl, fun w' hq => by go_simp⟩) k0 ?_
                    simp only [Act.put, skA, skB, skC]
                    refine tkS (i := 5) (v := (.string ((strOf l).extract a4 a64))) rfl (Or.inl ⟨by rfl, fun w' hq => by go_simp⟩) k0 ?_
                    simp only [Act.put, skA, skB, skC]
                    refine wpAnyH_ready (rs := [6]) (by kernel_rfl) (by simp) ?_
                    refine AllReadyH.callR (fun y W' => y = .string (strOf (zeros 60)) ∧ Kp NoB wq W') rfl (by rfl) 159 #[.int .i64 60] (by first | (go_simp; done) | (go_simp; rfl)) (fun _ _ q => q.2) ((zeros_rok V0 60 (by omega)).mono (by rintro e w' ⟨rfl, hk⟩; exact ⟨_, rfl, rfl, k0.trans hk (fun _ _ q => q)⟩)) ?_ AllReadyH.nil
                    rintro y V1 ⟨rfl, k1⟩
                    simp only [Act.put, skA, skB, skC]
                    refine tkS (i := 7) (v := (.bool false)) rfl (Or.inl ⟨by rfl, fun w' hq => by go_simp⟩) k1 ?_
                    simp only [Act.put, skA, skB, skC]
                    refine tkS (i := 8) (v := (.bool false)) rfl (Or.inl ⟨by rfl, fun w' hq => by go_simp⟩) k1 ?_
                    simp only [Act.put, skA, skB, skC]
                    refine tkS (i := 9) (v := (.int .i64 x)) rfl (Or.inl ⟨by rfl, fun w' hq => by go_simp⟩) k1 ?_
                    simp only [Act.put, skA, skB, skC]
                    refine tkS (i := 10) (v := (.bool false)) rfl (Or.inl ⟨by rfl, fun w' hq => by go_simp⟩) k1 ?_
                    simp only [Act.put, skA, skB, skC]
                    refine tkS (i := 11) (v := (.bool false)) rfl (Or.inl ⟨by rfl, fun w' hq => by go_simp⟩) k1 ?_
                    simp only [Act.put, skA, skB, skC]
                    refine tkS (i := 12) (v := (.bool false)) rfl (Or.inl ⟨by rfl, fun w' hq => by go_simp⟩) k1 ?_
                    simp only [Act.put, skA, skB, skC]
                    refine tkS (i := 13) (v := (.int .i64 x)) rfl (Or.inl ⟨by rfl, fun w' hq => by go_simp⟩) k1 ?_
                    simp only [Act.put, skA, skB, skC]
                    refine tkS (i := 14) (v := (.pointer (some ⟨s0, 1, none⟩))) rfl (Or.inl ⟨by rfl, fun w' hq => by go_simp⟩) k1 ?_
                    simp only [Act.put, skA, skB, skC]
                    refine tkS (i := 15) (v := (.int .i64 vb)) rfl (Or.inl ⟨by rfl, fun w' hq => by (have := (hq.cell hl0 (fun q => q)).trans c1); go_simp⟩) k1 ?_
                    simp only [Act.put, skA, skB, skC]
                    refine tkS (i := 16) (v := (.bool false)) rfl (Or.inl ⟨by rfl, fun w' hq => by go_simp⟩) k1 ?_
                    simp only [Act.put, skA, skB, skC]
                    refine tkS (i := 17) (v := (.bool false)) rfl (Or.inl ⟨by rfl, fun w' hq => by go_simp⟩) k1 ?_
                    simp only [Act.put, skA, skB, skC]
                    refine tkS (i := 18) (v := (.bool false)) rfl (Or.inl ⟨by rfl, fun w' hq => by go_simp⟩) k1 ?_
                    simp only [Act.put, skA, skB, skC]
                    refine tkS (i := 19) (v := (.int .i64 0)) rfl (Or.inl ⟨by rfl, fun w' hq => by go_simp⟩) k1 ?_
                    simp only [Act.put, skA, skB, skC]
                    refine tkS (i := 20) (v := (.bool false)) rfl (Or.inl ⟨by rfl, fun w' hq => by go_simp⟩) k1 ?_
                    simp only [Act.put, skA, skB, skC]
                    refine tkS (i := 21) (v := (.bool false)) rfl (Or.inl ⟨by rfl, fun w' hq => by go_simp⟩) k1 ?_
                    simp only [Act.put, skA, skB, skC]
                    refine tkS (i := 22) (v := undef) rfl (Or.inr ⟨by rfl, rfl⟩) k1 ?_
                    simp only [Act.put, skA, skB, skC]
                    refine tkS (i := 23) (v := undef) rfl (Or.inr ⟨by rfl, rfl⟩) k1 ?_
                    simp only [Act.put, skA, skB, skC]
                    refine tkS (i := 24) (v := undef) rfl (Or.inr ⟨by rfl, rfl⟩) k1 ?_
                    simp only [Act.put, skA, skB, skC]
                    refine tkS (i := 25) (v := undef) rfl (Or.inr ⟨by rfl, rfl⟩) k1 ?_
                    simp only [Act.put, skA, skB, skC]
                    refine tkS (i := 26) (v := undef) rfl (Or.inr ⟨by rfl, rfl⟩) k1 ?_
                    simp only [Act.put, skA, skB, skC]
                    refine tkS (i := 27) (v := undef) rfl (Or.inr ⟨by rfl, rfl⟩) k1 ?_
                    simp only [Act.put, skA, skB, skC]
                    refine tkS (i := 28) (v := undef) rfl (Or.inr ⟨by rfl, rfl⟩) k1 ?_
                    simp only [Act.put, skA, skB, skC]
                    refine tkS (i := 29) (v := undef) rfl (Or.inr ⟨by rfl, rfl⟩) k1 ?_
                    simp only [Act.put, skA, skB, skC]
                    refine tkS (i := 30) (v := (.bool false)) rfl (Or.inl ⟨by rfl, fun w' hq => by go_simp⟩) k1 ?_
                    simp only [Act.put, skA, skB, skC]
                    refine tkS (i := 31) (v := (.bool false)) rfl (Or.inl ⟨by rfl, fun w' hq => by go_simp⟩) k1 ?_
                    simp only [Act.put, skA, skB, skC]
                    refine wpAnyH_done (by kernel_rfl) ?_ _
                    have HK4 := Lib.hid k1
                    clear hHeld k0 k1
                    have HOWK : Hid (V1.ownsRow w1.heap.size 113 257 (.slice _ (0) cap6) (0) (pgsCells acc)) := Lib.hid (by have h1 := HOW.out.1; rw [HAL.out] at h1; exact own_keepB h1 HK4.out (fun _ _ q => q))
                    obtain ⟨pb, hpb⟩ : ∃ pb, b.drop 64 = pb := ⟨_, rfl⟩
                    have hpl : pb.length = 256 := by rw [← hpb, List.length_drop, HBL.out]
                    have hpe : (l.drop a64).take 256 = pb := by rw [← hpb, ← HB9.out, List.drop_take, List.drop_drop, HA64.out]
                    have hpr : ∀ y ∈ pb, 0 ≤ y ∧ y < 256 := fun y hy => by rw [← hpe] at hy; exact HR.out y (List.mem_of_mem_drop (List.mem_of_mem_take hy))
                    have HPO : Hid (PgOk ⟨x, pb⟩) := Lib.hid ⟨hpl, hpr, by show _ ≤ x ∧ x ≤ _; omega⟩
                    have HPE : Hid (pageOf (l.drop a64) 1 = pb) := Lib.hid (by
                      unfold pageOf sizedF
                      rw [show (1 - 1) * 256 = 0 from rfl, List.drop_zero, if_pos (by rw [List.length_drop]; have := HA64.out; omega)]
                      exact hpe)
                    have y1 : (strOf l).extract a64 l.length = strOf (l.drop a64) := by rw [strOf_sub, List.take_of_length_le (by rw [List.length_drop]; exact Nat.le_refl _)]
                    have y2 : ((strOf l).extract a64 l.length).size = l.length - a64 := by rw [ByteArray.size_extract]; omega
                    rw [hpb] at HOKR
                    have HPL := Lib.hid hpl
                    clear hpb hpl hpe hpr
                    go_wp2_with fail
                    refine (show Calls _ _ #[.string (strOf (l.drop a64)), .int .i64 1] _ _ from pageof_rok V1 (l.drop a64) 1 (fun y hy => HR.out y (List.mem_of_mem_drop hy)) (by rw [List.length_drop]; have := HL.out; omega) (by omega)).mono ?_
                    rintro e V2 ⟨rfl, hkv⟩
                    rw [show (1 : Int).toNat = 1 from rfl, HPE.out]
                    have HKV := Lib.hid hkv
                    have HOWV := Lib.hid (own_keepB HOWK.out hkv (fun _ _ q => q))
                    have hrs : (pgA ⟨x, pb⟩).size = 257 := pgA_size HPO.out
                    have hcn := pg_new V2 ⟨x, pb⟩
                    obtain ⟨RR, hRR⟩ : ∃ RR, pgA ⟨x, pb⟩ = RR := ⟨_, rfl⟩
                    have HRR9 := Lib.hid hRR
                    clear hkv y1 y2
                    go_wp2_with (first
                      | (show wpList _ _ _ (⟨some 86, _, _, _, _, _⟩ :: _) _ _; refine wpList_val _ (exBuildPg2 _ _ _ _ x pb HPL.out _ _ _ _ _ rfl rfl) ?_; rw [HRR9.out]; rw [HRR9.out] at hrs hcn)
                      | (at_builtin; refine wpList_append_ownB rfl _ _ 22 rfl w1.heap.size 113 j0 _ 257 264 Try.underlying22 HJ0.out HY0.out HY1.out HY2.out rfl (by omega) _ (0) (pgsCells acc) rfl (own_keepB HOWV.out ((Kp.refl NoB V2).alloc _) (fun _ _ q => q)) ⟨V2.heap.size, 0, none⟩ 1 1 (pgL ⟨x, pb⟩) rfl (pgL_len HPO.out) hcn (pgL_one _) (by unfold maxLen; omega) (by omega) (by have h1 := HKP.out.size; have h2 := HK4.out.size; have h3 := HKV.out.size; simp; omega) ?_; intro v7 w7 hown7 hgrow7 _; have HO7 := Lib.hid hown7; have hk7 := (((HKP.out.trans HK4.out (fun _ _ q => q)).trans HKV.out (fun _ _ q => q)).alloc (.cells RR 113)).own hgrow7 rfl HOWV.out; have HK7 := Lib.hid hk7; clear hown7 hgrow7 hk7))
                    refine ⟨⟨0 + 1, acc ++ [⟨x, pb⟩], by first | rfl | (simp; done) | (congr 1; omega), by omega, by rw [List.length_append, HAL.out]; rfl, by rw [lastN_app]; show 0 ≤ x; omega, ?_, ⟨?_, ?_⟩, HK7.out⟩, by simp [intOf]; omega⟩
                    · rw [HRE.out, HLN.out, HOKR.out, lastN_app]
                      show _ = Option.map _ (recsPg l vb (N - (0 + 1)) (0 + 1) x)
                      cases recsPg l vb (N - (0 + 1)) (0 + 1) x <;> simp
                    · have h9 := HO7.out
                      unfold pgsCells at h9 ⊢
                      rw [List.flatMap_append, List.length_append, HAL.out]
                      simpa using h9
                    · intro y hy
                      rcases List.mem_append.1 hy with q | q
                      · exact HOW.out.2 y q
                      · rw [List.mem_singleton.1 q]; exact HPO.out
                  · obtain ⟨hn1, hpg⟩ := ownPgs_rows HOW.out
                    have hkl2 : k < acc.length := by have := HAL.out; omega
                    obtain ⟨y, hy⟩ : ∃ y, acc[k] = y := ⟨_, rfl⟩
                    have hyk : acc[k]? = some y := by rw [List.getElem?_eq_getElem hkl2, hy]
                    obtain ⟨g6, o6, hA6, hg6, hcy⟩ := (show RowsC wq A6 acc.length 257 (acc.map pgL) from hpg).cell (k := k) (x := pgL y) (by rw [List.getElem?_map, hyk]; rfl)
                    subst hA6
                    have d0 : wq.cell? ⟨g6, o6 + k * 257, none⟩ = some (.int .i64 ln) := by
                      have h1 := hcy 0 _ rfl
                      have h2 : y.n = ln := by
                        rw [← HLN.out]
                        unfold lastN
                        rw [List.getLast?_eq_getElem?, HAL.out, Nat.add_sub_cancel, hyk]
                      rw [Nat.add_zero] at h1
                      rw [← h2]
                      exact h1
                    have hwk : IntKind.i64.wrap (((k + 1 : Nat) : Int) - 1) = (k : Int) := by rw [IntKind.wrap_i64]; omega
                    have hkp1 : (0 : Int) < ((k + 1 : Nat) : Int) := by omega
                    have hkb : (k : Int) < ((k + 1 : Nat) : Int) := by omega
                    have hkb2 : k + 1 ≤ 9223372036854775807 := by omega
                    have hwk2 : IntKind.i64.wrap (k : Int) = (k : Int) := by rw [IntKind.wrap_i64]; omega
                    have hkb3 : ¬ (k : Int) + 1 ≤ (k : Int) := by omega
                    clear hn1 hpg hkl2 hy hyk hcy
                    by_cases hxl : x ≤ ln
                    · have HRN : Hid (R = none) := Lib.hid (by
                        rw [HRE.out, HLN.out, HST2.out.2 (fun q => by have := q.2.1; omega)]
                        rfl)
                      refine wp_region_held_drew (S := fun V => Kp NoB wq V) (by kernel_rfl) HK3.out.drew (fun hHeld => ?_)
                      have k0 : Kp NoB wq w3.drew := HK3.out.drew
                      generalize w3.drew = V0 at k0 hHeld ⊢
                      refine tkS (i := 0) (v := (.string (strOf l))) rfl (Or.inl ⟨by rfl, fun w' hq => by go_simp⟩) k0 ?_
                      simp only [Act.put, skA, skB, skC]
                      refine tkS (i := 1) (v := (.int .i64 (a : Int))) rfl (Or.inl ⟨by rfl, fun w' hq => by go_simp⟩) k0 ?_
                      simp only [Act.put, skA, skB, skC]
                      refine tkS (i := 2) (v := (.int .i64 (a4 : Int))) rfl (Or.inl ⟨by rfl, fun w' hq => by go_simp⟩) k0 ?_
                      simp only [Act.put, skA, skB, skC]
                      refine tkS (i := 3) (v := (.int .i64 (a : Int))) rfl (Or.inl ⟨by rfl, fun w' hq => by go_simp⟩) k0 ?_
                      simp only [Act.put, skA, skB, skC]
                      refine tkS (i := 4) (v := (.int .i64 (a64 : Int))) rfl (Or.inl ⟨by rfl, fun w' hq => by go_simp⟩) k0 ?_
                      simp only [Act.put, skA, skB, skC]
                      refine tkS (i := 5) (v := (.string ((strOf l).extract a4 a64))) rfl (Or.inl ⟨by rfl, fun w' hq => by go_simp⟩) k0 ?_
                      simp only [Act.put, skA, skB, skC]
                      refine wpAnyH_ready (rs := [6]) (by kernel_rfl) (by simp) ?_
                      refine AllReadyH.callR (fun y W' => y = .string (strOf (zeros 60)) ∧ Kp NoB wq W') rfl (by rfl) 159 #[.int .i64 60] (by first | (go_simp; done) | (go_simp; rfl)) (fun _ _ q => q.2) ((zeros_rok V0 60 (by omega)).mono (by rintro e w' ⟨rfl, hk⟩; exact ⟨_, rfl, rfl, k0.trans hk (fun _ _ q => q)⟩)) ?_ AllReadyH.nil
                      rintro y V1 ⟨rfl, k1⟩
                      simp only [Act.put, skA, skB, skC]
                      refine tkS (i := 7) (v := (.bool false)) rfl (Or.inl ⟨by rfl, fun w' hq => by go_simp⟩) k1 ?_
                      simp only [Act.put, skA, skB, skC]
                      refine tkS (i := 8) (v := (.bool false)) rfl (Or.inl ⟨by rfl, fun w' hq => by go_simp⟩) k1 ?_
                      simp only [Act.put, skA, skB, skC]
                      refine tkS (i := 9) (v := (.int .i64 x)) rfl (Or.inl ⟨by rfl, fun w' hq => by go_simp⟩) k1 ?_
                      simp only [Act.put, skA, skB, skC]
                      refine tkS (i := 10) (v := (.bool false)) rfl (Or.inl ⟨by rfl, fun w' hq => by go_simp⟩) k1 ?_
                      simp only [Act.put, skA, skB, skC]
                      refine tkS (i := 11) (v := (.bool false)) rfl (Or.inl ⟨by rfl, fun w' hq => by go_simp⟩) k1 ?_
                      simp only [Act.put, skA, skB, skC]
                      refine tkS (i := 12) (v := (.bool false)) rfl (Or.inl ⟨by rfl, fun w' hq => by go_simp⟩) k1 ?_
                      simp only [Act.put, skA, skB, skC]
                      refine tkS (i := 13) (v := (.int .i64 x)) rfl (Or.inl ⟨by rfl, fun w' hq => by go_simp⟩) k1 ?_
                      simp only [Act.put, skA, skB, skC]
                      refine tkS (i := 14) (v := (.pointer (some ⟨s0, 1, none⟩))) rfl (Or.inl ⟨by rfl, fun w' hq => by go_simp⟩) k1 ?_
                      simp only [Act.put, skA, skB, skC]
                      refine tkS (i := 15) (v := (.int .i64 vb)) rfl (Or.inl ⟨by rfl, fun w' hq => by (have := (hq.cell hl0 (fun q => q)).trans c1); go_simp⟩) k1 ?_
                      simp only [Act.put, skA, skB, skC]
                      refine tkS (i := 16) (v := (.bool false)) rfl (Or.inl ⟨by rfl, fun w' hq => by go_simp⟩) k1 ?_
                      simp only [Act.put, skA, skB, skC]
                      refine tkS (i := 17) (v := (.bool false)) rfl (Or.inl ⟨by rfl, fun w' hq => by go_simp⟩) k1 ?_
                      simp only [Act.put, skA, skB, skC]
                      refine tkS (i := 18) (v := (.bool false)) rfl (Or.inl ⟨by rfl, fun w' hq => by go_simp⟩) k1 ?_
                      simp only [Act.put, skA, skB, skC]
                      refine tkS (i := 19) (v := (.int .i64 ((k + 1 : Nat) : Int))) rfl (Or.inl ⟨by rfl, fun w' hq => by go_simp⟩) k1 ?_
                      simp only [Act.put, skA, skB, skC]
                      refine tkS (i := 20) (v := (.bool true)) rfl (Or.inl ⟨by rfl, fun w' hq => by go_simp⟩) k1 ?_
                      simp only [Act.put, skA, skB, skC]
                      refine tkS (i := 21) (v := (.bool true)) rfl (Or.inl ⟨by rfl, fun w' hq => by go_simp⟩) k1 ?_
                      simp only [Act.put, skA, skB, skC]
                      refine tkS (i := 22) (v := (.int .i64 x)) rfl (Or.inl ⟨by rfl, fun w' hq => by go_simp⟩) k1 ?_
                      simp only [Act.put, skA, skB, skC]
                      refine tkS (i := 23) (v := (.slice (some ⟨g6, o6, none⟩) (k + 1) cap6)) rfl (Or.inl ⟨by rfl, fun w' hq => by go_simp⟩) k1 ?_
                      simp only [Act.put, skA, skB, skC]
                      refine tkS (i := 24) (v := (.int .i64 ((k + 1 : Nat) : Int))) rfl (Or.inl ⟨by rfl, fun w' hq => by go_simp⟩) k1 ?_
                      simp only [Act.put, skA, skB, skC]
                      refine tkS (i := 25) (v := (.int .i64 (k : Int))) rfl (Or.inl ⟨by rfl, fun w' hq => by go_simp⟩) k1 ?_
                      simp only [Act.put, skA, skB, skC]
                      refine tkS (i := 26) (v := (.pointer (some ⟨g6, o6 + k * 257, none⟩))) rfl (Or.inl ⟨by rfl, fun w' hq => by go_simp⟩) k1 ?_
                      simp only [Act.put, skA, skB, skC]
                      refine tkS (i := 27) (v := (.pointer (some ⟨g6, o6 + k * 257, none⟩))) rfl (Or.inl ⟨by rfl, fun w' hq => by go_simp⟩) k1 ?_
                      simp only [Act.put, skA, skB, skC]
                      refine tkS (i := 28) (v := (.int .i64 ln)) rfl (Or.inl ⟨by rfl, fun w' hq => by (have := (hq.cell hg6 (fun q => q)).trans d0); go_simp⟩) k1 ?_
                      simp only [Act.put, skA, skB, skC]
                      refine tkS (i := 29) (v := (.bool true)) rfl (Or.inl ⟨by rfl, fun w' hq => by go_simp⟩) k1 ?_
                      simp only [Act.put, skA, skB, skC]
                      refine tkS (i := 30) (v := (.bool true)) rfl (Or.inl ⟨by rfl, fun w' hq => by go_simp⟩) k1 ?_
                      simp only [Act.put, skA, skB, skC]
                      refine tkS (i := 31) (v := (.bool true)) rfl (Or.inl ⟨by rfl, fun w' hq => by go_simp⟩) k1 ?_
                      simp only [Act.put, skA, skB, skC]
                      refine wpAnyH_done (by kernel_rfl) ?_ _
                      have HK4 := Lib.hid k1
                      clear hHeld k0 k1
                      go_wp2_with fail
                      go_ret2
                      exact ⟨HK.out.trans (HKP.out.trans HK4.out (fun _ _ q => q)) (fun _ _ q => q), .inl ⟨HRN.out, rfl⟩⟩
                    · have HOKR := Lib.hid (HST2.out.1 ⟨HZZ.out, by omega, by omega⟩)
                      refine wp_region_held_drew (S := fun V => Kp NoB wq V) (by kernel_rfl) HK3.out.drew (fun hHeld => ?_)
                      have k0 : Kp NoB wq w3.drew := HK3.out.drew
                      generalize w3.drew = V0 at k0 hHeld ⊢
                      refine tkS (i := 0) (v := (.string (strOf l))) rfl (Or.inl ⟨by rfl, fun w' hq => by go_simp⟩) k0 ?_
                      simp only [Act.put, skA, skB, skC]
                      refine tkS (i := 1) (v := (.int .i64 (a : Int))) rfl (Or.inl ⟨by rfl, fun w' hq => by go_simp⟩) k0 ?_
                      simp only [Act.put, skA, skB, skC]
                      refine tkS (i := 2) (v := (.int .i64 (a4 : Int))) rfl (Or.inl ⟨by rfl, fun w' hq => by go_simp⟩) k0 ?_
                      simp only [Act.put, skA, skB, skC]
                      refine tkS (i := 3) (v := (.int .i64 (a : Int))) rfl (Or.inl ⟨by rfl, fun w' hq => by go_simp⟩) k0 ?_
                      simp only [Act.put, skA, skB, skC]
                      refine tkS (i := 4) (v := (.int .i64 (a64 : Int))) rfl (Or.inl ⟨by rfl, fun w' hq => by go_simp⟩) k0 ?_
                      simp only [Act.put, skA, skB, skC]
                      refine tkS (i := 5) (v := (.string ((strOf l).extract a4 a64))) rfl (Or.inl ⟨by rfl, fun w' hq => by go_simp⟩) k0 ?_
                      simp only [Act.put, skA, skB, skC]
                      refine wpAnyH_ready (rs := [6]) (by kernel_rfl) (by simp) ?_
                      refine AllReadyH.callR (fun y W' => y = .string (strOf (zeros 60)) ∧ Kp NoB wq W') rfl (by rfl) 159 #[.int .i64 60] (by first | (go_simp; done) | (go_simp; rfl)) (fun _ _ q => q.2) ((zeros_rok V0 60 (by omega)).mono (by rintro e w' ⟨rfl, hk⟩; exact ⟨_, rfl, rfl, k0.trans hk (fun _ _ q => q)⟩)) ?_ AllReadyH.nil
                      rintro y V1 ⟨rfl, k1⟩
                      simp only [Act.put, skA, skB, skC]
                      refine tkS (i := 7) (v := (.bool false)) rfl (Or.inl ⟨by rfl, fun w' hq => by go_simp⟩) k1 ?_
                      simp only [Act.put, skA, skB, skC]
                      refine tkS (i := 8) (v := (.bool false)) rfl (Or.inl ⟨by rfl, fun w' hq => by go_simp⟩) k1 ?_
                      simp only [Act.put, skA, skB, skC]
                      refine tkS (i := 9) (v := (.int .i64 x)) rfl (Or.inl ⟨by rfl, fun w' hq => by go_simp⟩) k1 ?_
                      simp only [Act.put, skA, skB, skC]
                      refine tkS (i := 10) (v := (.bool false)) rfl (Or.inl ⟨by rfl, fun w' hq => by go_simp⟩) k1 ?_
                      simp only [Act.put, skA, skB, skC]
                      refine tkS (i := 11) (v := (.bool false)) rfl (Or.inl ⟨by rfl, fun w' hq => by go_simp⟩) k1 ?_
                      simp only [Act.put, skA, skB, skC]
                      refine tkS (i := 12) (v := (.bool false)) rfl (Or.inl ⟨by rfl, fun w' hq => by go_simp⟩) k1 ?_
                      simp only [Act.put, skA, skB, skC]
                      refine tkS (i := 13) (v := (.int .i64 x)) rfl (Or.inl ⟨by rfl, fun w' hq => by go_simp⟩) k1 ?_
                      simp only [Act.put, skA, skB, skC]
                      refine tkS (i := 14) (v := (.pointer (some ⟨s0, 1, none⟩))) rfl (Or.inl ⟨by rfl, fun w' hq => by go_simp⟩) k1 ?_
                      simp only [Act.put, skA, skB, skC]
                      refine tkS (i := 15) (v := (.int .i64 vb)) rfl (Or.inl ⟨by rfl, fun w' hq => by (have := (hq.cell hl0 (fun q => q)).trans c1); go_simp⟩) k1 ?_
                      simp only [Act.put, skA, skB, skC]
                      refine tkS (i := 16) (v := (.bool false)) rfl (Or.inl ⟨by rfl, fun w' hq => by go_simp⟩) k1 ?_
                      simp only [Act.put, skA, skB, skC]
                      refine tkS (i := 17) (v := (.bool false)) rfl (Or.inl ⟨by rfl, fun w' hq => by go_simp⟩) k1 ?_
                      simp only [Act.put, skA, skB, skC]
                      refine tkS (i := 18) (v := (.bool false)) rfl (Or.inl ⟨by rfl, fun w' hq => by go_simp⟩) k1 ?_
                      simp only [Act.put, skA, skB, skC]
                      refine tkS (i := 19) (v := (.int .i64 ((k + 1 : Nat) : Int))) rfl (Or.inl ⟨by rfl, fun w' hq => by go_simp⟩) k1 ?_
                      simp only [Act.put, skA, skB, skC]
                      refine tkS (i := 20) (v := (.bool true)) rfl (Or.inl ⟨by rfl, fun w' hq => by go_simp⟩) k1 ?_
                      simp only [Act.put, skA, skB, skC]
                      refine tkS (i := 21) (v := (.bool true)) rfl (Or.inl ⟨by rfl, fun w' hq => by go_simp⟩) k1 ?_
                      simp only [Act.put, skA, skB, skC]
                      refine tkS (i := 22) (v := (.int .i64 x)) rfl (Or.inl ⟨by rfl, fun w' hq => by go_simp⟩) k1 ?_
                      simp only [Act.put, skA, skB, skC]
                      refine tkS (i := 23) (v := (.slice (some ⟨g6, o6, none⟩) (k + 1) cap6)) rfl (Or.inl ⟨by rfl, fun w' hq => by go_simp⟩) k1 ?_
                      simp only [Act.put, skA, skB, skC]
                      refine tkS (i := 24) (v := (.int .i64 ((k + 1 : Nat) : Int))) rfl (Or.inl ⟨by rfl, fun w' hq => by go_simp⟩) k1 ?_
                      simp only [Act.put, skA, skB, skC]
                      refine tkS (i := 25) (v := (.int .i64 (k : Int))) rfl (Or.inl ⟨by rfl, fun w' hq => by go_simp⟩) k1 ?_
                      simp only [Act.put, skA, skB, skC]
                      refine tkS (i := 26) (v := (.pointer (some ⟨g6, o6 + k * 257, none⟩))) rfl (Or.inl ⟨by rfl, fun w' hq => by go_simp⟩) k1 ?_
                      simp only [Act.put, skA, skB, skC]
                      refine tkS (i := 27) (v := (.pointer (some ⟨g6, o6 + k * 257, none⟩))) rfl (Or.inl ⟨by rfl, fun w' hq => by go_simp⟩) k1 ?_
                      simp only [Act.put, skA, skB, skC]
                      refine tkS (i := 28) (v := (.int .i64 ln)) rfl (Or.inl ⟨by rfl, fun w' hq => by (have := (hq.cell hg6 (fun q => q)).trans d0); go_simp⟩) k1 ?_
                      simp only [Act.put, skA, skB, skC]
                      refine tkS (i := 29) (v := (.bool false)) rfl (Or.inl ⟨by rfl, fun w' hq => by go_simp⟩) k1 ?_
                      simp only [Act.put, skA, skB, skC]
                      refine tkS (i := 30) (v := (.bool false)) rfl (Or.inl ⟨by rfl, fun w' hq => by go_simp⟩) k1 ?_
                      simp only [Act.put, skA, skB, skC]
                      refine tkS (i := 31) (v := (.bool false)) rfl (Or.inl ⟨by rfl, fun w' hq => by go_simp⟩) k1 ?_
                      simp only [Act.put, skA, skB, skC]
                      refine wpAnyH_done (by kernel_rfl) ?_ _
                      have HK4 := Lib.hid k1
                      clear hHeld k0 k1
                      have HOWK : Hid (V1.ownsRow w1.heap.size 113 257 (.slice _ (k + 1) cap6) (k + 1) (pgsCells acc)) := Lib.hid (by have h1 := HOW.out.1; rw [HAL.out] at h1; exact own_keepB h1 HK4.out (fun _ _ q => q))
                      obtain ⟨pb, hpb⟩ : ∃ pb, b.drop 64 = pb := ⟨_, rfl⟩
                      have hpl : pb.length = 256 := by rw [← hpb, List.length_drop, HBL.out]
                      have hpe : (l.drop a64).take 256 = pb := by rw [← hpb, ← HB9.out, List.drop_take, List.drop_drop, HA64.out]
                      have hpr : ∀ y ∈ pb, 0 ≤ y ∧ y < 256 := fun y hy => by rw [← hpe] at hy; exact HR.out y (List.mem_of_mem_drop (List.mem_of_mem_take hy))
                      have HPO : Hid (PgOk ⟨x, pb⟩) := Lib.hid ⟨hpl, hpr, by show _ ≤ x ∧ x ≤ _; omega⟩
                      have HPE : Hid (pageOf (l.drop a64) 1 = pb) := Lib.hid (by
                        unfold pageOf sizedF
                        rw [show (1 - 1) * 256 = 0 from rfl, List.drop_zero, if_pos (by rw [List.length_drop]; have := HA64.out; omega)]
                        exact hpe)
                      have y1 : (strOf l).extract a64 l.length = strOf (l.drop a64) := by rw [strOf_sub, List.take_of_length_le (by rw [List.length_drop]; exact Nat.le_refl _)]
                      have y2 : ((strOf l).extract a64 l.length).size = l.length - a64 := by rw [ByteArray.size_extract]; omega
                      rw [hpb] at HOKR
                      have HPL := Lib.hid hpl
                      clear hpb hpl hpe hpr
                      go_wp2_with fail
                      refine (show Calls _ _ #[.string (strOf (l.drop a64)), .int .i64 1] _ _ from pageof_rok V1 (l.drop a64) 1 (fun y hy => HR.out y (List.mem_of_mem_drop hy)) (by rw [List.length_drop]; have := HL.out; omega) (by omega)).mono ?_
                      rintro e V2 ⟨rfl, hkv⟩
                      rw [show (1 : Int).toNat = 1 from rfl, HPE.out]
                      have HKV := Lib.hid hkv
                      have HOWV := Lib.hid (own_keepB HOWK.out hkv (fun _ _ q => q))
                      have hrs : (pgA ⟨x, pb⟩).size = 257 := pgA_size HPO.out
                      have hcn := pg_new V2 ⟨x, pb⟩
                      obtain ⟨RR, hRR⟩ : ∃ RR, pgA ⟨x, pb⟩ = RR := ⟨_, rfl⟩
                      have HRR9 := Lib.hid hRR
                      clear hkv y1 y2
                      go_wp2_with (first
                        | (show wpList _ _ _ (⟨some 86, _, _, _, _, _⟩ :: _) _ _; refine wpList_val _ (exBuildPg2 _ _ _ _ x pb HPL.out _ _ _ _ _ rfl rfl) ?_; rw [HRR9.out]; rw [HRR9.out] at hrs hcn)
                        | (at_builtin; refine wpList_append_ownB rfl _ _ 22 rfl w1.heap.size 113 j0 _ 257 264 Try.underlying22 HJ0.out HY0.out HY1.out HY2.out rfl (by omega) _ (k + 1) (pgsCells acc) rfl (own_keepB HOWV.out ((Kp.refl NoB V2).alloc _) (fun _ _ q => q)) ⟨V2.heap.size, 0, none⟩ 1 1 (pgL ⟨x, pb⟩) rfl (pgL_len HPO.out) hcn (pgL_one _) (by unfold maxLen; omega) (by omega) (by have h1 := HKP.out.size; have h2 := HK4.out.size; have h3 := HKV.out.size; simp; omega) ?_; intro v7 w7 hown7 hgrow7 _; have HO7 := Lib.hid hown7; have hk7 := (((HKP.out.trans HK4.out (fun _ _ q => q)).trans HKV.out (fun _ _ q => q)).alloc (.cells RR 113)).own hgrow7 rfl HOWV.out; have HK7 := Lib.hid hk7; clear hown7 hgrow7 hk7))
                      refine ⟨⟨k + 1 + 1, acc ++ [⟨x, pb⟩], by first | rfl | (simp; done) | (congr 1; omega), by omega, by rw [List.length_append, HAL.out]; rfl, by rw [lastN_app]; show 0 ≤ x; omega, ?_, ⟨?_, ?_⟩, HK7.out⟩, by simp [intOf]; omega⟩
                      · rw [HRE.out, HLN.out, HOKR.out, lastN_app]
                        show _ = Option.map _ (recsPg l vb (N - (k + 1 + 1)) (k + 1 + 1) x)
                        cases recsPg l vb (N - (k + 1 + 1)) (k + 1 + 1) x <;> simp
                      · have h9 := HO7.out
                        unfold pgsCells at h9 ⊢
                        rw [List.flatMap_append, List.length_append, HAL.out]
                        simpa using h9
                      · intro y hy
                        rcases List.mem_append.1 hy with q | q
                        · exact HOW.out.2 y q
                        · rw [List.mem_singleton.1 q]; exact HPO.out
            · rw [decide_eq_false (fun q => hzz (he.1 q))] at hbq
              have HRN : Hid (R = none) := Lib.hid (by
                rw [HRE.out, HST2.out.2 (fun q => hzz q.1)]
                rfl)
              clear hzz he
              refine wp_region_held_drew (S := fun V => Kp NoB wq V) (by kernel_rfl) HK3.out.drew (fun hHeld => ?_)
              have k0 : Kp NoB wq w3.drew := HK3.out.drew
              generalize w3.drew = V0 at k0 hHeld ⊢
              refine tkS (i := 0) (v := (.string (strOf l))) rfl (Or.inl ⟨by rfl, fun w' hq => by go_simp⟩) k0 ?_
              simp only [Act.put, skA, skB, skC]
              refine tkS (i := 1) (v := (.int .i64 (a : Int))) rfl (Or.inl ⟨by rfl, fun w' hq => by go_simp⟩) k0 ?_
              simp only [Act.put, skA, skB, skC]
              refine tkS (i := 2) (v := (.int .i64 (a4 : Int))) rfl (Or.inl ⟨by rfl, fun w' hq => by go_simp⟩) k0 ?_
              simp only [Act.put, skA, skB, skC]
              refine tkS (i := 3) (v := (.int .i64 (a : Int))) rfl (Or.inl ⟨by rfl, fun w' hq => by go_simp⟩) k0 ?_
              simp only [Act.put, skA, skB, skC]
              refine tkS (i := 4) (v := (.int .i64 (a64 : Int))) rfl (Or.inl ⟨by rfl, fun w' hq => by go_simp⟩) k0 ?_
              simp only [Act.put, skA, skB, skC]
              refine tkS (i := 5) (v := (.string ((strOf l).extract a4 a64))) rfl (Or.inl ⟨by rfl, fun w' hq => by go_simp⟩) k0 ?_
              simp only [Act.put, skA, skB, skC]
              refine wpAnyH_ready (rs := [6]) (by kernel_rfl) (by simp) ?_
              refine AllReadyH.callR (fun y W' => y = .string (strOf (zeros 60)) ∧ Kp NoB wq W') rfl (by rfl) 159 #[.int .i64 60] (by first | (go_simp; done) | (go_simp; rfl)) (fun _ _ q => q.2) ((zeros_rok V0 60 (by omega)).mono (by rintro e w' ⟨rfl, hk⟩; exact ⟨_, rfl, rfl, k0.trans hk (fun _ _ q => q)⟩)) ?_ AllReadyH.nil
              rintro y V1 ⟨rfl, k1⟩
              simp only [Act.put, skA, skB, skC]
              refine tkS (i := 7) (v := (.bool true)) rfl (Or.inl ⟨by rfl, fun w' hq => by go_simp⟩) k1 ?_
              simp only [Act.put, skA, skB, skC]
              refine tkS (i := 8) (v := (.bool true)) rfl (Or.inl ⟨by rfl, fun w' hq => by go_simp⟩) k1 ?_
              simp only [Act.put, skA, skB, skC]
              refine tkS (i := 9) (v := undef) rfl (Or.inr ⟨by rfl, rfl⟩) k1 ?_
              simp only [Act.put, skA, skB, skC]
              refine tkS (i := 10) (v := undef) rfl (Or.inr ⟨by rfl, rfl⟩) k1 ?_
              simp only [Act.put, skA, skB, skC]
              refine tkS (i := 11) (v := (.bool true)) rfl (Or.inl ⟨by rfl, fun w' hq => by go_simp⟩) k1 ?_
              simp only [Act.put, skA, skB, skC]
              refine tkS (i := 12) (v := (.bool true)) rfl (Or.inl ⟨by rfl, fun w' hq => by go_simp⟩) k1 ?_
              simp only [Act.put, skA, skB, skC]
              refine tkS (i := 13) (v := undef) rfl (Or.inr ⟨by rfl, rfl⟩) k1 ?_
              simp only [Act.put, skA, skB, skC]
              refine tkS (i := 14) (v := undef) rfl (Or.inr ⟨by rfl, rfl⟩) k1 ?_
              simp only [Act.put, skA, skB, skC]
              refine tkS (i := 15) (v := undef) rfl (Or.inr ⟨by rfl, rfl⟩) k1 ?_
              simp only [Act.put, skA, skB, skC]
              refine tkS (i := 16) (v := undef) rfl (Or.inr ⟨by rfl, rfl⟩) k1 ?_
              simp only [Act.put, skA, skB, skC]
              refine tkS (i := 17) (v := (.bool true)) rfl (Or.inl ⟨by rfl, fun w' hq => by go_simp⟩) k1 ?_
              simp only [Act.put, skA, skB, skC]
              refine tkS (i := 18) (v := (.bool true)) rfl (Or.inl ⟨by rfl, fun w' hq => by go_simp⟩) k1 ?_
              simp only [Act.put, skA, skB, skC]
              refine tkS (i := 19) (v := undef) rfl (Or.inr ⟨by rfl, rfl⟩) k1 ?_
              simp only [Act.put, skA, skB, skC]
              refine tkS (i := 20) (v := undef) rfl (Or.inr ⟨by rfl, rfl⟩) k1 ?_
              simp only [Act.put, skA, skB, skC]
              refine tkS (i := 21) (v := undef) rfl (Or.inr ⟨by rfl, rfl⟩) k1 ?_
              simp only [Act.put, skA, skB, skC]
              refine tkS (i := 22) (v := undef) rfl (Or.inr ⟨by rfl, rfl⟩) k1 ?_
              simp only [Act.put, skA, skB, skC]
              refine tkS (i := 23) (v := undef) rfl (Or.inr ⟨by rfl, rfl⟩) k1 ?_
              simp only [Act.put, skA, skB, skC]
              refine tkS (i := 24) (v := undef) rfl (Or.inr ⟨by rfl, rfl⟩) k1 ?_
              simp only [Act.put, skA, skB, skC]
              refine tkS (i := 25) (v := undef) rfl (Or.inr ⟨by rfl, rfl⟩) k1 ?_
              simp only [Act.put, skA, skB, skC]
              refine tkS (i := 26) (v := undef) rfl (Or.inr ⟨by rfl, rfl⟩) k1 ?_
              simp only [Act.put, skA, skB, skC]
              refine tkS (i := 27) (v := undef) rfl (Or.inr ⟨by rfl, rfl⟩) k1 ?_
              simp only [Act.put, skA, skB, skC]
              refine tkS (i := 28) (v := undef) rfl (Or.inr ⟨by rfl, rfl⟩) k1 ?_
              simp only [Act.put, skA, skB, skC]
              refine tkS (i := 29) (v := undef) rfl (Or.inr ⟨by rfl, rfl⟩) k1 ?_
              simp only [Act.put, skA, skB, skC]
              refine tkS (i := 30) (v := undef) rfl (Or.inr ⟨by rfl, rfl⟩) k1 ?_
              simp only [Act.put, skA, skB, skC]
              refine tkS (i := 31) (v := (.bool true)) rfl (Or.inl ⟨by rfl, fun w' hq => by go_simp⟩) k1 ?_
              simp only [Act.put, skA, skB, skC]
              refine wpAnyH_done (by kernel_rfl) ?_ _
              have HK4 := Lib.hid k1
              clear hHeld k0 k1
              go_wp2_with fail
              go_ret2
              exact ⟨HK.out.trans (HKP.out.trans HK4.out (fun _ _ q => q)) (fun _ _ q => q), .inl ⟨HRN.out, rfl⟩⟩
        · have hkk : ¬ (k : Int) < (N : Int) := by omega
          obtain rfl : k = N := by omega
          have HRS : Hid (R = some acc) := Lib.hid (by
            rw [HRE.out, Nat.sub_self]
            show (some []).map (acc ++ ·) = _
            simp)
          go_wp2_with fail
          go_ret2
          refine ⟨HK.out.trans HKP.out (fun _ _ q => q), .inr ⟨acc, _, HRS.out, rfl, ?_⟩⟩
          have h1 := HOW.out
          rw [HAL.out] at h1
          exact ⟨by have h2 := h1.1; rw [HAL.out] at h2 ⊢; exact h2.mono HK.out.size, h1.2⟩
    · subst hC
      have HRN := Lib.hid (hbad.out (.inr (.inr (.inr hD))))
      have hd1 : (vd != 0) = true := by simpa using hD
      have hd2 : (vd == 0) = false := by simpa using hD
      go_enter Try.func126, Try.ntmps126
      go_wp2_with fail
      go_ret2
      exact ⟨hk, .inl ⟨HRN.out, rfl⟩⟩
  · have HRN := Lib.hid (hbad.out (.inr (.inr (.inl hC))))
    have hd1 : (vc != 0) = true := by simpa using hC
    have hd2 : (vc == 0) = false := by simpa using hC
    go_enter Try.func126, Try.ntmps126
    go_wp2_with fail
    go_ret2
    exact ⟨hk, .inl ⟨HRN.out, rfl⟩⟩
end Go.Proofs.Ytegcbdfilkecpaa
/- The journal: all pages told, as a list; no condition but on the counts. -/
namespace Go.Proofs.Ytegcbdfilkecpaa
open Go.RowKit

theorem infoPg26 : (Try.prog.info? 24).map (fun i => (i.zero, i.size, i.bytes)) = some (some (.agg zero256), 256, 256) := by kernel_rfl
theorem sliceP1 (w : World) (cs : Array Value) (hs : cs.size = 256) : (Instr.buildSlice 38 1 #[(0, .agg cs)]).run Try.prog w = .ok (.slice (some ⟨w.heap.size, 0, none⟩) 1 1) (w.alloc (.cells cs 24)) := by
  obtain ⟨i, hi, h0, h1, h2⟩ := info_parts infoPg26
  have hu := Try.underlying38
  have hc : (Value.agg cs).cells = cs := rfl
  have hf : ∀ Z : Array Value, Z.size = 256 → Instr.fill (fun i => some (i * 256, 256)) Z [(0, .agg cs)] = some cs := fun Z hZ => by
    have := Go.Great.fill_whole (s := 256) (by omega) [.agg cs] Z (by simp [hc, hs]) (by simp [hZ])
    simpa [hc] using this
  simp [Instr.buildSlice, run_underlying hu, sizeOf, typeInfo, hi, h1, zeroValue26, newRow, newObj]
  rw [hf _ (by simp)]
  rfl
theorem exSliceP1 (w : World) (ev : Operand → Value) (x : Operand) (cs : Array Value) (ds : Option Tmp) (ty : TypeId) (ps : String) (af : Array Edge) (g : Option (Nat × Bool)) (hx : ev x = .agg cs) (hs : cs.size = 256) :
    (execOp ev ⟨ds, .buildSlice 38 1 #[(0, x)], ty, ps, af, g⟩).run Try.prog w = .ok (.value (.slice (some ⟨w.heap.size, 0, none⟩) 1 1)) (w.alloc (.cells cs 24)) := by
  simp only [execOp, List.map_toArray, List.map_cons, List.map_nil, hx, Sem.run_bind, sliceP1 w cs hs, Result.andThen_ok]
  rfl
section
variable {S : Nat → Prop} {W0 w : World} {db : Nat} {p : Pl}
attribute [local go_sem ↓] load26 store26 alloc26 build26 exSliceP1
end
end Go.Proofs.Ytegcbdfilkecpaa
/- The journal: two lists of pages held against each other; no condition but on the counts. -/
namespace Go.Proofs.Ytegcbdfilkecpaa
open Go.RowKit

def RawsAt (w : World) (A : Option Addr) (n : Nat) (l : List (List Int)) : Prop := RowsC w A n 256 (l.map fun b => b.map (Value.int .u8))
theorem RawsAt.len {w : World} {A : Option Addr} {n : Nat} {l : List (List Int)} (h : RawsAt w A n l) : l.length = n := by have := h.1; simpa using this
theorem RawsAt.keep {w w' : World} {A : Option Addr} {n : Nat} {l : List (List Int)} (h : RawsAt w A n l) (k : Kp NoB w w') : RawsAt w' A n l := RowsC.keep h k
theorem RawsAt.at_ {w : World} {A : Option Addr} {n : Nat} {l : List (List Int)} (h : RawsAt w A n l) (k : Nat) (hk : k < n) : ∃ g o, A = some ⟨g, o, none⟩ ∧ g < w.heap.size ∧ w.rangeAt g (o + k * 256) ((l[k]'(by rw [h.len]; exact hk)).map (Value.int .u8)) := by
  have hkl : k < (l.map fun (b : List Int) => b.map (Value.int .u8)).length := by have := h.1; omega
  obtain ⟨g, o, e, hg, hc⟩ := h.2.2 (by omega)
  refine ⟨g, o, e, hg, fun j v hj => ?_⟩
  have hl : ((l.map fun (b : List Int) => b.map (Value.int .u8))[k]).length = 256 := h.2.1 _ (List.getElem_mem hkl)
  have hjl : j < 256 := by
    have h1 := (List.getElem?_eq_some_iff.1 hj).1
    simp only [List.getElem_map] at hl
    omega
  rw [(hc k hkl j hjl).1]
  simp only [List.getElem_map]
  exact hj
section
attribute [local go_sem ↓] load26 store26 alloc26 build26
end
end Go.Proofs.Ytegcbdfilkecpaa
/- The journal: what pages are behind a change, as a list; condition: at most 5000 pages, their numbers in order. -/
namespace Go.Proofs.Ytegcbdfilkecpaa
open Go.RowKit

section
attribute [local go_sem ↓] load26 store26 alloc26 build26 exSliceP1
def lenOf : Value → Nat
  | .slice _ n _ => n
  | _ => 0
end
end Go.Proofs.Ytegcbdfilkecpaa
/- The journal: the pages of a change; no condition but on the bytes' length and the old count. -/
namespace Go.Proofs.Ytegcbdfilkecpaa
open Go.RowKit

/-- a row of bytes of the caller -/
def Bs (w : World) (A : Option Addr) (n : Nat) (bs : List Int) : Prop := bs.length = n ∧ (∀ y ∈ bs, 0 ≤ y ∧ y < 256) ∧ ∀ k y, bs[k]? = some y → ∃ g o, A = some ⟨g, o, none⟩ ∧ g < w.heap.size ∧ w.cell? ⟨g, o + k, none⟩ = some (.int .u8 y)
theorem Bs.keep {w w' : World} {A : Option Addr} {n : Nat} {bs : List Int} (h : Bs w A n bs) (k : Kp NoB w w') : Bs w' A n bs :=
  ⟨h.1, h.2.1, fun j y hy => by
    obtain ⟨g, o, e, hg, hc⟩ := h.2.2 j y hy
    exact ⟨g, o, e, Nat.lt_of_lt_of_le hg k.size, (k.cell hg (fun q => q)).trans hc⟩⟩
section
attribute [local go_sem ↓] loadPg storePg allocPg exSlicePg
end
end Go.Proofs.Ytegcbdfilkecpaa
/- The journal in plain Lean on a disk that does not crash: a commit is done whole or not at all; condition: at most 2000 pages. -/
namespace Go.Proofs.Ytegcbdfilkecpaa
open Go

end Go.Proofs.Ytegcbdfilkecpaa
/- The journal in plain Lean on a disk that does not crash: what a commit answers and leaves; condition: at most 2000 pages. -/
namespace Go.Proofs.Ytegcbdfilkecpaa
open Go

end Go.Proofs.Ytegcbdfilkecpaa
/- The journal in plain Lean on a disk that does not crash: a commit, whole; condition: at most 2000 pages. -/
namespace Go.Proofs.Ytegcbdfilkecpaa
open Go

end Go.Proofs.Ytegcbdfilkecpaa
/- The journal: the pages of a change fit, and what is behind them, in plain Lean. -/
namespace Go.Proofs.Ytegcbdfilkecpaa

end Go.Proofs.Ytegcbdfilkecpaa
/- The reference's journal: Recover; condition: fewer than 2^39 files and changes. -/
namespace Go.Proofs.Ytegcbdfilkecpaa
open Go.RowKit

theorem nmD_le : nmDb.size ≤ maxLen := by unfold maxLen; decide
theorem nmJ_le : nmJn.size ≤ maxLen := by unfold maxLen; decide
theorem st_head (v : W4) : ∀ s ∈ headS nmJn v, StOk s := by
  intro s hs
  unfold headS at hs
  rcases List.mem_cons.1 hs with rfl | hs
  · exact ⟨nmJ_le, by show (-9223372036854775808 : Int) ≤ 0 ∧ (0 : Int) ≤ 9223372036854775807; omega, seal_rng v, by show (sealB v).length ≤ maxLen; rw [seal_len]; unfold maxLen; omega, by show (0 : Nat) ≤ 2; omega⟩
  · rw [List.mem_singleton.1 hs]
    exact ⟨nmJ_le, by show (-9223372036854775808 : Int) ≤ 0 ∧ (0 : Int) ≤ 9223372036854775807; omega, by simp, by simp, Nat.le_refl _⟩
theorem st_home {count : Int} {l : List Pg} (hc : -1099511627776 ≤ count ∧ count ≤ 1099511627776) (hl : ∀ x ∈ l, PgOk x ∧ 1 ≤ x.n ∧ x.n ≤ 1099511627776) : ∀ s ∈ homeS count l, StOk s := by
  intro s hs
  unfold homeS homeW at hs
  rcases List.mem_append.1 hs with q | q
  · obtain ⟨x, hx, rfl⟩ := List.mem_map.1 q
    obtain ⟨h1, h2, h3⟩ := hl x hx
    exact ⟨nmD_le, by show -9223372036854775808 ≤ (x.n - 1) * 256 ∧ (x.n - 1) * 256 ≤ 9223372036854775807; omega, h1.rng, by show x.b.length ≤ maxLen; rw [h1.len]; unfold maxLen; omega, by show (0 : Nat) ≤ 2; omega⟩
  · rcases List.mem_cons.1 q with rfl | q
    · exact ⟨nmD_le, by show -9223372036854775808 ≤ count * 256 ∧ count * 256 ≤ 9223372036854775807; omega, by simp, by simp, by show (1 : Nat) ≤ 2; omega⟩
    · rw [List.mem_singleton.1 q]
      exact ⟨nmD_le, by show (-9223372036854775808 : Int) ≤ 0 ∧ (0 : Int) ≤ 9223372036854775807; omega, by simp, by simp, Nat.le_refl _⟩
theorem OwnSt.cat {w : World} {n0 : Nat} {v : Value} {a b : List Stp} (h : w.ownsRow n0 221 4 v (a.length + b.length) ((a.map stC).flatten ++ (b.map stC).flatten)) : OwnSt w n0 v (a ++ b) := by
  unfold OwnSt
  rw [List.length_append, List.map_append, List.flatten_append]
  exact h
theorem recS_len (v : W4) (l : List Pg) : (Pl.recS v l).length = l.length + 6 := by
  unfold Pl.recS homeS homeW headS
  simp only [List.length_append, List.length_cons, List.length_nil, List.length_map]
  omega
/-- steps behind steps -/
theorem wpList_append_st {w : World} {ops : Array Oper} {rest : List Oper} {o : Oper} {a : Act} {Q : Exit → Act → World → Prop} (hgd : o.guard = none) (s x : Operand)
    (ho : o.op = .call { callee := .builtin .append, args := #[s, x], argTypes := #[181, 181] })
    (n1 n2 : Nat) (v1 v2 : Value) (la lb : List Stp) (hs : a.eval s = v1) (h1 : OwnSt w n1 v1 la) (hx : a.eval x = v2) (h2 : OwnSt w n2 v2 lb) (hlen : la.length + lb.length ≤ 1099511627776) (hbase : n1 ≤ w.heap.size)
    (h : ∀ v' w', OwnSt w' n1 v' (la ++ lb) → w.grownBy w' v1.ownBlock → wpList Try.prog ops Q rest (a.put o.dst v') w') : wpList Try.prog ops Q (o :: rest) a w := by
  obtain ⟨j0, hj0, hj1⟩ := Option.map_eq_some_iff.1 infoSt
  simp only [Prod.mk.injEq] at hj1
  obtain ⟨A2, c2, rfl⟩ := own_slice h2
  obtain ⟨hn2, hr2⟩ := OwnSt.rows h2
  refine wpList_append_srcN hgd s x 181 ho n1 221 j0 _ 4 48 Try.underlying181 hj0 hj1.1 hj1.2.1 hj1.2.2 rfl (by omega) v1 la.length (la.map stC).flatten hs h1 A2 lb.length c2 (lb.map stC).flatten hx (own_nil h2) (by rw [flat_len 4 _ (st_len lb), List.length_map]) (fun hn => hr2.src hn (by omega)) (st_one lb) (by unfold maxLen; omega) (by omega) hbase ?_
  intro v' w' q1 q2
  exact h v' w' (OwnSt.cat q1) q2
theorem OwnSt.keep {w w' : World} {n0 : Nat} {v : Value} {l : List Stp} (h : OwnSt w n0 v l) (k : Kp NoB w w') : OwnSt w' n0 v l := own_keepB h k (fun _ _ q => q)
end Go.Proofs.Ytegcbdfilkecpaa
/- The reference's journal: Recover, walked; condition: fewer than 2^39 files and changes. -/
namespace Go.Proofs.Ytegcbdfilkecpaa
open Go.RowKit

set_option maxRecDepth 100000 in
set_option maxHeartbeats 1600000 in
theorem recover_rok (w : World) (d : Rd) (p : Pl) (h : Rf w d p) (hsm : p.sm 100000000) :
    Calls Try.prog 71 #[rdV d p] w fun e w' => ∃ d', e = .returned (.tuple #[rdV d' p.jrecover.1, .bool p.jrecover.2.1, .int .i64 p.jrecover.2.2]) ∧ Rf w' d' p.jrecover.1 ∧ Kp NoB w w' := by
  have H := Lib.hid h
  have HSM := Lib.hid hsm
  have HNF : Hid (p.nf < 1099511627776) := Lib.hid (by unfold Pl.sm at hsm; omega)
  have hlk := (h.look nmJn).1
  have HLK := Lib.hid hlk
  have hb0 : Blk ((w.alloc (.cells (rdC d p) 56)).alloc (.cells rdZ 56)) w.heap.size 56 (rdC d p) := (Blk.new w _ _).alloc _
  have hb2 : Blk ((w.alloc (.cells (rdC d p) 56)).alloc (.cells rdZ 56)) (w.heap.size + 1) 56 rdZ := Blk.top (by simp)
  have hk : Kp NoB w ((w.alloc (.cells (rdC d p) 56)).alloc (.cells rdZ 56)) := ((Kp.refl NoB w).alloc _).alloc _
  clear h hsm hlk
  unfold rdV
  go_enter Try.func71, Try.ntmps71
  go_wp2_with fail
  refine (show Calls _ _ #[rdV d p] _ _ from ready_rok _ d p (H.out.keep hk) HNF.out).mono ?_
  rintro e w2 ⟨rfl, hk2⟩
  have HB0 := Lib.hid (hb0.keep hk2 (fun q => q))
  have HB2 := Lib.hid (hb2.keep hk2 (fun q => q))
  have HK := Lib.hid (hk.trans hk2 (fun _ _ q => q))
  clear hb0 hb2 hk hk2
  generalize hs0 : w.heap.size = s0 at HB0 HB2 ⊢
  have HS0 := Lib.hid hs0
  have kz : w.heap.size ≤ s0 + 1 := by omega
  clear hs0
  have hl0 := HB0.out.lt
  have hl2 := HB2.out.lt
  obtain ⟨c0, c1, c2, c3, c4, c5, c6, c7⟩ := HB0.out.rdc
  obtain ⟨y0, y1, y2, y3, y4, y5, y6, y7⟩ := HB2.out.c8
  obtain ⟨z0, z1, z2, z3, z4, z5, z6, z7⟩ := HB2.out.z8
  unfold jReady
  by_cases hd : p.down = true
  · have hT : Hid (p.jrecover = (p, false, 7)) := Lib.hid (by unfold Pl.jrecover; rw [if_pos hd])
    rw [if_pos hd]
    clear hd
    go_wp2_with fail
    have HRUN := hT
    first
      | exact bodyPost_ret (ret_cell_tmp2 rfl _ _ _ _ _ _ rfl (blk8 HB2.out rfl) Try.underlying56 rfl (by exact infoRd) _ _ rfl rfl) rfl ⟨d, by rw [HRUN.out]; rfl, by rw [HRUN.out]; exact H.out.keep (kp8 HK.out (.inl kz)), kp8 HK.out (.inl kz)⟩
  · have hd' : p.down = false := by simpa using hd
    have HD := Lib.hid hd'
    rw [if_neg hd]
    clear hd hd'
    go_wp2_with fail
    refine (show Calls _ _ #[rdV d p] _ _ from hot_rok _ d p (H.out.keep HK.out) HNF.out).mono ?_
    rintro e w3 ⟨rfl, hk3⟩
    have HB0' := Lib.hid (HB0.out.keep hk3 (fun q => q))
    have HB2' := Lib.hid (HB2.out.keep hk3 (fun q => q))
    have HK' := Lib.hid (HK.out.trans hk3 (fun _ _ q => q))
    clear hk3 HB0 HB2 HK
    have HB0 := HB0'
    have HB2 := HB2'
    have HK := HK'
    clear HB0' HB2' HK' c0 c1 c2 c3 c4 c5 c6 c7 y0 y1 y2 y3 y4 y5 y6 y7 z0 z1 z2 z3 z4 z5 z6 z7 hl0 hl2
    have hl0 := HB0.out.lt
    have hl2 := HB2.out.lt
    obtain ⟨c0, c1, c2, c3, c4, c5, c6, c7⟩ := HB0.out.rdc
    obtain ⟨y0, y1, y2, y3, y4, y5, y6, y7⟩ := HB2.out.c8
    obtain ⟨z0, z1, z2, z3, z4, z5, z6, z7⟩ := HB2.out.z8
    obtain ⟨hb, hh⟩ : ∃ b, p.jhot = b := ⟨_, rfl⟩
    rw [hh]
    have HH := Lib.hid hh
    clear hh
    rcases hb with _ | _
    · have hT : Hid (p.jrecover = (p, false, 0)) := Lib.hid (by unfold Pl.jrecover; rw [HD.out, HH.out]; rfl)
      go_wp2_with fail
      have HRUN := hT
      first
        | exact bodyPost_ret (ret_cell_tmp2 rfl _ _ _ _ _ _ rfl (blk8 HB2.out rfl) Try.underlying56 rfl (by exact infoRd) _ _ rfl rfl) rfl ⟨d, by rw [HRUN.out]; rfl, by rw [HRUN.out]; exact H.out.keep (kp8 HK.out (.inl kz)), kp8 HK.out (.inl kz)⟩
    · go_wp2_with fail
      refine (show Calls _ _ #[rdV d p, .string nmJn] _ _ from seen_ok _ d p nmJn (H.out.keep HK.out) HNF.out).mono ?_
      rintro e w4 ⟨rfl, hk4⟩
      have HB0' := Lib.hid (HB0.out.keep hk4 (fun q => q))
      have HB2' := Lib.hid (HB2.out.keep hk4 (fun q => q))
      have HK' := Lib.hid (HK.out.trans hk4 (fun _ _ q => q))
      clear hk4 HB0 HB2 HK
      have HB0 := HB0'
      have HB2 := HB2'
      have HK := HK'
      clear HB0' HB2' HK' c0 c1 c2 c3 c4 c5 c6 c7 y0 y1 y2 y3 y4 y5 y6 y7 z0 z1 z2 z3 z4 z5 z6 z7 hl0 hl2
      have hl0 := HB0.out.lt
      have hl2 := HB2.out.lt
      obtain ⟨c0, c1, c2, c3, c4, c5, c6, c7⟩ := HB0.out.rdc
      obtain ⟨y0, y1, y2, y3, y4, y5, y6, y7⟩ := HB2.out.c8
      obtain ⟨z0, z1, z2, z3, z4, z5, z6, z7⟩ := HB2.out.z8
      go_wp2_with fail
      refine (says_rok w4 (p.seen nmJn) HLK.out.2 (by have := HLK.out.1; omega)).mono ?_
      rintro e w5 ⟨rfl, hk5⟩
      have HB0' := Lib.hid (HB0.out.keep hk5 (fun q => q))
      have HB2' := Lib.hid (HB2.out.keep hk5 (fun q => q))
      have HK' := Lib.hid (HK.out.trans hk5 (fun _ _ q => q))
      clear hk5 HB0 HB2 HK
      have HB0 := HB0'
      have HB2 := HB2'
      have HK := HK'
      clear HB0' HB2' HK' c0 c1 c2 c3 c4 c5 c6 c7 y0 y1 y2 y3 y4 y5 y6 y7 z0 z1 z2 z3 z4 z5 z6 z7 hl0 hl2
      have hl0 := HB0.out.lt
      have hl2 := HB2.out.lt
      obtain ⟨c0, c1, c2, c3, c4, c5, c6, c7⟩ := HB0.out.rdc
      obtain ⟨y0, y1, y2, y3, y4, y5, y6, y7⟩ := HB2.out.c8
      obtain ⟨z0, z1, z2, z3, z4, z5, z6, z7⟩ := HB2.out.z8
      obtain ⟨v, hv⟩ : ∃ v, says (p.seen nmJn) = v := ⟨_, rfl⟩
      have HV := Lib.hid hv
      rw [hv]
      have hvo : W4Ok v := by rw [← hv]; exact says_ok HLK.out.2
      have hva : v.a ≠ 0 := by
        have h1 := HH.out
        unfold Pl.jhot Pl.jhead at h1
        rw [hv] at h1
        simp at h1
        exact h1.2
      have hva1 : 1 ≤ v.a := by have := hvo.a; omega
      have HVO := Lib.hid hvo
      have HVA := Lib.hid hva1
      have hvr : W4R v := by have h1 := hvo.a; have h2 := hvo.b; have h3 := hvo.c; have h4 := hvo.d; exact ⟨by omega, by omega, by omega, by omega⟩
      have HVR := Lib.hid hvr
      obtain ⟨R, hR⟩ : ∃ R, recordsPg (p.seen nmJn) v = R := ⟨_, rfl⟩
      have HRR := Lib.hid hR
      have HJN : Hid (R = none → p.jrecover = (p, false, 8)) := Lib.hid (fun e => by
        have hrec : recordsPg (p.seen nmJn) p.jhead = none := by show recordsPg (p.seen nmJn) (says (p.seen nmJn)) = none; rw [hv, hR, e]
        unfold Pl.jrecover
        rw [HD.out, HH.out, hrec]
        rfl)
      have HJS : Hid (∀ l, R = some l → p.jrecover = ((p.runS (Pl.recS v l)).1, decide ((p.runS (Pl.recS v l)).2 = 0), (p.runS (Pl.recS v l)).2)) := Lib.hid (fun l e => by
        have hrec : recordsPg (p.seen nmJn) p.jhead = some l := by show recordsPg (p.seen nmJn) (says (p.seen nmJn)) = some l; rw [hv, hR, e]
        have hjh : p.jhead = v := hv
        unfold Pl.jrecover
        rw [HD.out, HH.out, hrec, hjh]
        rfl)
      clear hv hvo hva hva1 hvr hR
      unfold w4V
      have hb7 : Blk (w5.alloc (.cells #[.int .i64 v.a, .int .i64 v.b, .int .i64 v.c, .int .i64 v.d] 183)) w5.heap.size 183 #[.int .i64 v.a, .int .i64 v.b, .int .i64 v.c, .int .i64 v.d] := Blk.new _ _ _
      have hk7 : Kp NoB w5 (w5.alloc (.cells #[.int .i64 v.a, .int .i64 v.b, .int .i64 v.c, .int .i64 v.d] 183)) := (Kp.refl NoB w5).alloc _
      go_wp2_with fail
      refine (show Calls _ _ #[.string (strOf (p.seen nmJn)), w4V v] _ _ from records_rok _ (p.seen nmJn) v HLK.out.2 HLK.out.1 HVO.out HVA.out).mono ?_
      rintro e w6 ⟨hk6, hpost⟩
      rw [HRR.out] at hpost
      have hk56 := hk7.trans hk6 (fun _ _ q => q)
      have hb7' := hb7.keep hk6 (fun q => q)
      generalize hf : w5.heap.size = f at hb7' ⊢
      have hfl : s0 < f ∧ s0 + 1 < f := by omega
      have HFL := Lib.hid hfl
      have HB7 := Lib.hid hb7'
      clear hb7 hk7 hk6 hb7' hf hfl
      have HB0' := Lib.hid (HB0.out.keep hk56 (fun q => q))
      have HB2' := Lib.hid (HB2.out.keep hk56 (fun q => q))
      have HK' := Lib.hid (HK.out.trans hk56 (fun _ _ q => q))
      clear hk56 HB0 HB2 HK
      have HB0 := HB0'
      have HB2 := HB2'
      have HK := HK'
      clear HB0' HB2' HK' c0 c1 c2 c3 c4 c5 c6 c7 y0 y1 y2 y3 y4 y5 y6 y7 z0 z1 z2 z3 z4 z5 z6 z7 hl0 hl2
      have hl0 := HB0.out.lt
      have hl2 := HB2.out.lt
      obtain ⟨c0, c1, c2, c3, c4, c5, c6, c7⟩ := HB0.out.rdc
      obtain ⟨y0, y1, y2, y3, y4, y5, y6, y7⟩ := HB2.out.c8
      obtain ⟨z0, z1, z2, z3, z4, z5, z6, z7⟩ := HB2.out.z8
      rcases hpost with ⟨rfl, rfl⟩ | ⟨l, v8, rfl, rfl, how⟩
      · go_wp2_with fail
        have HRUN := Lib.hid (show p.jrecover = (p, false, 8) by first | exact HJN.out rfl | exact HJN.out trivial)
        first
          | exact bodyPost_ret (ret_cell_tmp2 rfl _ _ _ _ _ _ rfl (blk8 HB2.out rfl) Try.underlying56 rfl (by exact infoRd) _ _ rfl rfl) rfl ⟨d, by rw [HRUN.out]; rfl, by rw [HRUN.out]; exact H.out.keep (kp8 HK.out (.inl kz)), kp8 HK.out (.inl kz)⟩
      · have HOW := Lib.hid how
        obtain ⟨A8, cap8, rfl⟩ := own_slice how.1
        obtain ⟨hln, hpg⟩ := ownPgs_rows how
        have HPG := Lib.hid hpg
        obtain ⟨r1, r2, r3⟩ := recordsPg_ok HVO.out HVA.out HRR.out
        have hpok : ∀ x ∈ l, PgOk x ∧ 1 ≤ x.n ∧ x.n ≤ 1099511627776 := fun x hx => ⟨how.2 x hx, by have := r2 x hx; omega⟩
        have HPOK := Lib.hid hpok
        have HR1 := Lib.hid r1
        have HR3 := Lib.hid (show -1099511627776 ≤ v.b ∧ v.b ≤ 1099511627776 by have := HVO.out.b; omega)
        have HRJ : Hid (p.jrecover = ((p.runS (Pl.recS v l)).1, decide ((p.runS (Pl.recS v l)).2 = 0), (p.runS (Pl.recS v l)).2)) := Lib.hid (by first | exact HJS.out l rfl | exact HJS.out l trivial)
        have e0 : w6.cell? ⟨f, 0, none⟩ = some (.int .i64 v.a) := HB7.out.cell 0
        have e1 : w6.cell? ⟨f, 1, none⟩ = some (.int .i64 v.b) := HB7.out.cell 1
        have e2 : w6.cell? ⟨f, 2, none⟩ = some (.int .i64 v.c) := HB7.out.cell 2
        have e3 : w6.cell? ⟨f, 3, none⟩ = some (.int .i64 v.d) := HB7.out.cell 3
        have hbu := buildI0
        clear how hln hpg r1 r2 r3 hpok HJN HJS HRR
        go_wp2_with fail
        refine (show Calls _ _ #[.string nmJn, w4V v] _ _ from head_rok w6 nmJn v HVR.out).mono ?_
        rintro e w7 ⟨v10, rfl, ho10, hk7⟩
        obtain ⟨A10, c10, rfl⟩ := own_slice ho10
        have HO10 := Lib.hid ho10
        have HK67 := Lib.hid hk7
        have HX0 := Lib.hid HB0.out
        have HX2 := Lib.hid HB2.out
        have HXK := Lib.hid HK.out
        have HB77 := Lib.hid (HB7.out.keep hk7 (fun q => q))
        have HPG7 := Lib.hid (HPG.out.keep hk7)
        clear e0 e1 e2 e3 ho10
        have HB0' := Lib.hid (HB0.out.keep hk7 (fun q => q))
        have HB2' := Lib.hid (HB2.out.keep hk7 (fun q => q))
        have HK' := Lib.hid (HK.out.trans hk7 (fun _ _ q => q))
        clear hk7 HB0 HB2 HK
        have HB0 := HB0'
        have HB2 := HB2'
        have HK := HK'
        clear HB0' HB2' HK' c0 c1 c2 c3 c4 c5 c6 c7 y0 y1 y2 y3 y4 y5 y6 y7 z0 z1 z2 z3 z4 z5 z6 z7 hl0 hl2
        have hl0 := HB0.out.lt
        have hl2 := HB2.out.lt
        obtain ⟨c0, c1, c2, c3, c4, c5, c6, c7⟩ := HB0.out.rdc
        obtain ⟨y0, y1, y2, y3, y4, y5, y6, y7⟩ := HB2.out.c8
        obtain ⟨z0, z1, z2, z3, z4, z5, z6, z7⟩ := HB2.out.z8
        have e1 : w7.cell? ⟨f, 1, none⟩ = some (.int .i64 v.b) := HB77.out.cell 1
        go_wp2_with fail
        refine (home_rok w7 v.b A8 l.length cap8 l HPG7.out HPOK.out (by have := HR1.out; omega) HR3.out).mono ?_
        rintro e w8 ⟨v41, rfl, ho41, hk8⟩
        have HO41 := Lib.hid ho41
        have HO10' := Lib.hid (HO10.out.keep hk8)
        have HK68 := Lib.hid (HK67.out.trans hk8 (fun _ _ q => q))
        clear e1 ho41 HO10
        have HB0' := Lib.hid (HB0.out.keep hk8 (fun q => q))
        have HB2' := Lib.hid (HB2.out.keep hk8 (fun q => q))
        have HK' := Lib.hid (HK.out.trans hk8 (fun _ _ q => q))
        clear hk8 HB0 HB2 HK
        have HB0 := HB0'
        have HB2 := HB2'
        have HK := HK'
        clear HB0' HB2' HK' c0 c1 c2 c3 c4 c5 c6 c7 y0 y1 y2 y3 y4 y5 y6 y7 z0 z1 z2 z3 z4 z5 z6 z7 hl0 hl2
        have hl0 := HB0.out.lt
        have hl2 := HB2.out.lt
        obtain ⟨c0, c1, c2, c3, c4, c5, c6, c7⟩ := HB0.out.rdc
        obtain ⟨y0, y1, y2, y3, y4, y5, y6, y7⟩ := HB2.out.c8
        obtain ⟨z0, z1, z2, z3, z4, z5, z6, z7⟩ := HB2.out.z8
        have hh2 : (headS nmJn v).length = 2 := rfl
        have hhl : (homeS v.b l).length = l.length + 2 := by unfold homeS homeW; simp
        have HHL := Lib.hid hhl
        clear hh2 hhl
        go_wp2_with (at_builtin; refine wpList_append_st rfl _ _ rfl w6.heap.size w7.heap.size _ _ (headS nmJn v) (homeS v.b l) rfl HO10'.out rfl HO41.out (by rw [HHL.out]; show 2 + (l.length + 2) ≤ _; have := HR1.out; omega) HK68.out.size ?_; intro v9 w9 ho9 hg9; have HO9 := Lib.hid ho9; have HK69 := Lib.hid (HK68.out.own hg9 rfl HO10'.out); clear ho9 hg9)
        have hz4 : W4R ⟨0, 0, 0, 0⟩ := ⟨by show (-9223372036854775808 : Int) ≤ 0 ∧ (0 : Int) ≤ 9223372036854775807; omega, by show (-9223372036854775808 : Int) ≤ 0 ∧ (0 : Int) ≤ 9223372036854775807; omega, by show (-9223372036854775808 : Int) ≤ 0 ∧ (0 : Int) ≤ 9223372036854775807; omega, by show (-9223372036854775808 : Int) ≤ 0 ∧ (0 : Int) ≤ 9223372036854775807; omega⟩
        refine (show Calls _ _ #[.string nmJn, w4V ⟨0, 0, 0, 0⟩] _ _ from head_rok w9 nmJn ⟨0, 0, 0, 0⟩ hz4).mono ?_
        rintro e w10 ⟨v45, rfl, ho45, hk10⟩
        have HO45 := Lib.hid ho45
        have HO9' := Lib.hid (HO9.out.keep hk10)
        have HK610 := Lib.hid (HK69.out.trans hk10 (fun _ _ q => q))
        have hh0 : Hid ((headS nmJn v ++ homeS v.b l).length + (headS nmJn ⟨0, 0, 0, 0⟩).length ≤ 1099511627776) := Lib.hid (by rw [List.length_append, HHL.out]; show 2 + (l.length + 2) + 2 ≤ _; have := HR1.out; omega)
        clear ho45 hk10 hz4 HO9 HB0 HB2 HK c0 c1 c2 c3 c4 c5 c6 c7 y0 y1 y2 y3 y4 y5 y6 y7 z0 z1 z2 z3 z4 z5 z6 z7 hl0 hl2
        go_upto_region 12 with (at_builtin; go_loud (refine wpList_append_st rfl _ _ rfl w6.heap.size w9.heap.size _ _ (headS nmJn v ++ homeS v.b l) (headS nmJn ⟨0, 0, 0, 0⟩) rfl HO9'.out rfl HO45.out hh0.out HK610.out.size ?_); intro v11 w11 ho11 hg11; have HO11 := Lib.hid ho11; have HK611 := Lib.hid (HK610.out.own hg11 rfl HO9'.out); clear ho11 hg11)
        have HB0 := Lib.hid (HX0.out.keep HK611.out (fun q => q))
        have HB2 := Lib.hid (HX2.out.keep HK611.out (fun q => q))
        have HK := Lib.hid (HXK.out.trans HK611.out (fun _ _ q => q))
        have hl0 := HB0.out.lt
        have hl2 := HB2.out.lt
        obtain ⟨c0, c1, c2, c3, c4, c5, c6, c7⟩ := HB0.out.rdc
        obtain ⟨y0, y1, y2, y3, y4, y5, y6, y7⟩ := HB2.out.c8
        obtain ⟨z0, z1, z2, z3, z4, z5, z6, z7⟩ := HB2.out.z8
        obtain ⟨n11, hn11⟩ : ∃ n, (headS nmJn v ++ homeS v.b l ++ headS nmJn ⟨0, 0, 0, 0⟩).length = n := ⟨_, rfl⟩
        obtain ⟨A11, c11, hv11⟩ := own_slice HO11.out
        rw [hn11] at hv11
        subst hv11
        have hrl : Pl.recS v l = headS nmJn v ++ homeS v.b l ++ headS nmJn ⟨0, 0, 0, 0⟩ := by unfold Pl.recS; rw [List.append_assoc]
        have HROW : Hid (RowsC w11 A11 n11 4 ((Pl.recS v l).map stC)) := Lib.hid (by rw [hrl]; exact (OwnSt.rows HO11.out).2)
        have hnl : n11 = l.length + 6 := by rw [← hn11, ← hrl, recS_len]
        have HNL := Lib.hid hnl
        have HSTO : Hid (∀ s ∈ Pl.recS v l, StOk s) := Lib.hid (fun s hs => by
          unfold Pl.recS at hs
          rcases List.mem_append.1 hs with q | q
          · exact st_head v s q
          · rcases List.mem_append.1 q with q | q
            · exact st_home HR3.out HPOK.out s q
            · exact st_head _ s q)
        clear hn11 hrl hnl
        go_wp2_with fail
        refine (show Calls _ _ #[rdV d p, .slice A11 n11 c11] _ _ from make_rok w11 d p A11 n11 c11 (Pl.recS v l) (H.out.keep HK.out) HROW.out HSTO.out (by have := HNL.out; have := HR1.out; omega) (by rw [recS_len]; exact sm_mono HSM.out (by have := HR1.out; omega))).mono ?_
        rintro e w12 ⟨d12, i12, rfl, h12, hk12⟩
        have HR12 := Lib.hid h12
        have HB0' := Lib.hid (HB0.out.keep hk12 (fun q => q))
        have HB2' := Lib.hid (HB2.out.keep hk12 (fun q => q))
        have HK' := Lib.hid (HK.out.trans hk12 (fun _ _ q => q))
        clear hk12 HB0 HB2 HK
        have HB0 := HB0'
        have HB2 := HB2'
        have HK := HK'
        clear HB0' HB2' HK' c0 c1 c2 c3 c4 c5 c6 c7 y0 y1 y2 y3 y4 y5 y6 y7 z0 z1 z2 z3 z4 z5 z6 z7 hl0 hl2
        have hl0 := HB0.out.lt
        have hl2 := HB2.out.lt
        obtain ⟨c0, c1, c2, c3, c4, c5, c6, c7⟩ := HB0.out.rdc
        obtain ⟨y0, y1, y2, y3, y4, y5, y6, y7⟩ := HB2.out.c8
        obtain ⟨z0, z1, z2, z3, z4, z5, z6, z7⟩ := HB2.out.z8
        clear h12
        obtain ⟨q, E, hqE⟩ : ∃ q E, p.runS (Pl.recS v l) = (q, E) := ⟨_, _, rfl⟩
        rw [hqE] at HR12 HRJ ⊢
        clear hqE
        obtain ⟨x0, x1, x2, x3, x4, x5, x6, x7⟩ := HB0.out.z8
        unfold rdV
        go_upto_region 13 with fail
        have kz0 : w.heap.size ≤ s0 := by have := HS0.out; omega
        have hb4 : Blk (((((((((w12.setCell ⟨s0, 0, none⟩ (.bool true)).setCell ⟨s0, 1, none⟩ (.bool q.down)).setCell ⟨s0, 2, none⟩ (.slice d12.fA d12.fn d12.fc)).setCell ⟨s0, 3, none⟩ (.slice d12.pA d12.pn d12.pc)).setCell ⟨s0, 4, none⟩ (.int .i64 q.room)).setCell ⟨s0, 5, none⟩ (.int .i64 q.steps)).setCell ⟨s0, 6, none⟩ (.int .i64 q.crash)).setCell ⟨s0, 7, none⟩ (.int .i64 q.starts))) s0 56 (rdC d12 q) := blk8 HB0.out rfl
        have hq4 : Kp (OnB s0) w12 (((((((((w12.setCell ⟨s0, 0, none⟩ (.bool true)).setCell ⟨s0, 1, none⟩ (.bool q.down)).setCell ⟨s0, 2, none⟩ (.slice d12.fA d12.fn d12.fc)).setCell ⟨s0, 3, none⟩ (.slice d12.pA d12.pn d12.pc)).setCell ⟨s0, 4, none⟩ (.int .i64 q.room)).setCell ⟨s0, 5, none⟩ (.int .i64 q.steps)).setCell ⟨s0, 6, none⟩ (.int .i64 q.crash)).setCell ⟨s0, 7, none⟩ (.int .i64 q.starts))) := kp8 (Kp.refl _ w12) (.inr rfl)
        have hr4 : Rf (((((((((w12.setCell ⟨s0, 0, none⟩ (.bool true)).setCell ⟨s0, 1, none⟩ (.bool q.down)).setCell ⟨s0, 2, none⟩ (.slice d12.fA d12.fn d12.fc)).setCell ⟨s0, 3, none⟩ (.slice d12.pA d12.pn d12.pc)).setCell ⟨s0, 4, none⟩ (.int .i64 q.room)).setCell ⟨s0, 5, none⟩ (.int .i64 q.steps)).setCell ⟨s0, 6, none⟩ (.int .i64 q.crash)).setCell ⟨s0, 7, none⟩ (.int .i64 q.starts))) d12 (q) := (HR12.out).keepB hq4 HB0.out (rdC_str _ _)
        have hz4 : Blk (((((((((w12.setCell ⟨s0, 0, none⟩ (.bool true)).setCell ⟨s0, 1, none⟩ (.bool q.down)).setCell ⟨s0, 2, none⟩ (.slice d12.fA d12.fn d12.fc)).setCell ⟨s0, 3, none⟩ (.slice d12.pA d12.pn d12.pc)).setCell ⟨s0, 4, none⟩ (.int .i64 q.room)).setCell ⟨s0, 5, none⟩ (.int .i64 q.steps)).setCell ⟨s0, 6, none⟩ (.int .i64 q.crash)).setCell ⟨s0, 7, none⟩ (.int .i64 q.starts))) (s0 + 1) 56 rdZ := HB2.out.keep hq4 (fun q => by have q' : s0 + 1 = s0 := q; omega)
        have hw4 : Kp NoB w (((((((((w12.setCell ⟨s0, 0, none⟩ (.bool true)).setCell ⟨s0, 1, none⟩ (.bool q.down)).setCell ⟨s0, 2, none⟩ (.slice d12.fA d12.fn d12.fc)).setCell ⟨s0, 3, none⟩ (.slice d12.pA d12.pn d12.pc)).setCell ⟨s0, 4, none⟩ (.int .i64 q.room)).setCell ⟨s0, 5, none⟩ (.int .i64 q.steps)).setCell ⟨s0, 6, none⟩ (.int .i64 q.crash)).setCell ⟨s0, 7, none⟩ (.int .i64 q.starts))) := kp8 HK.out (.inl kz0)
        clear hq4 HB0 HB2 HK
        generalize ((((((((w12.setCell ⟨s0, 0, none⟩ (.bool true)).setCell ⟨s0, 1, none⟩ (.bool q.down)).setCell ⟨s0, 2, none⟩ (.slice d12.fA d12.fn d12.fc)).setCell ⟨s0, 3, none⟩ (.slice d12.pA d12.pn d12.pc)).setCell ⟨s0, 4, none⟩ (.int .i64 q.room)).setCell ⟨s0, 5, none⟩ (.int .i64 q.steps)).setCell ⟨s0, 6, none⟩ (.int .i64 q.crash)).setCell ⟨s0, 7, none⟩ (.int .i64 q.starts)) = w13 at hb4 hr4 hz4 hw4 ⊢
        have HB0 := Lib.hid hb4
        have HB2 := Lib.hid hz4
        have HK := Lib.hid hw4
        have HR := Lib.hid hr4
        clear hb4 hz4 hw4 hr4 c0 c1 c2 c3 c4 c5 c6 c7 y0 y1 y2 y3 y4 y5 y6 y7 z0 z1 z2 z3 z4 z5 z6 z7 hl0 hl2 kz0
        have hl0 := HB0.out.lt
        have hl2 := HB2.out.lt
        obtain ⟨c0, c1, c2, c3, c4, c5, c6, c7⟩ := HB0.out.rdc
        obtain ⟨y0, y1, y2, y3, y4, y5, y6, y7⟩ := HB2.out.c8
        obtain ⟨z0, z1, z2, z3, z4, z5, z6, z7⟩ := HB2.out.z8
        by_cases hE : E = 0
        · subst hE
          go_wp2_with fail
          have HRUN : Hid (p.jrecover = (q, true, 0)) := Lib.hid (by rw [HRJ.out]; rfl)
          first
            | exact bodyPost_ret (ret_cell_tmp2 rfl _ _ _ _ _ _ rfl (blk8 HB2.out rfl) Try.underlying56 rfl (by exact infoRd) _ _ rfl rfl) rfl ⟨d12, by rw [HRUN.out]; rfl, by rw [HRUN.out]; exact HR.out.keepB (kp8 (Kp.refl _ w13) (.inr rfl)) HB2.out rdZ_str, kp8 HK.out (.inl kz)⟩
        · have hE2 : (E == 0) = false := by simpa using hE
          have HRUN : Hid (p.jrecover = (q, false, E)) := Lib.hid (by rw [HRJ.out]; show (q, decide (E = 0), E) = _; rw [decide_eq_false hE])
          clear hE
          go_wp2_with fail
          first
            | exact bodyPost_ret (ret_cell_tmp2 rfl _ _ _ _ _ _ rfl (blk8 HB2.out rfl) Try.underlying56 rfl (by exact infoRd) _ _ rfl rfl) rfl ⟨d12, by rw [HRUN.out]; rfl, by rw [HRUN.out]; exact HR.out.keepB (kp8 (Kp.refl _ w13) (.inr rfl)) HB2.out rdZ_str, kp8 HK.out (.inl kz)⟩
end Go.Proofs.Ytegcbdfilkecpaa
