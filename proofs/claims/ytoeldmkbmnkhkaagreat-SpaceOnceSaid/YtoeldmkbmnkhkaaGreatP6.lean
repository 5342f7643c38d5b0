/- Texts of this proof, one behind the other: lemmas and contracts; each says its own conditions. -/
import Derived.Test.YtoeldmkbmnkhkaaGreatP2
import Derived.Test.YtoeldmkbmnkhkaaGreatP5
import Derived.Shelf.Abstract
import Derived.Deep.OwnRows
/- The sealed sector: what it says; no condition. -/
namespace Go.Proofs.YtoeldmkbmnkhkaaGreat
open Go.RowKit

attribute [local go_sem ↓] loadSec storeSec allocSec loadW4 storeW4
theorem four_inj {a b : Int} : ∀ {l m : List Int}, l.length = 4 → m.length = 4 → (∀ y ∈ l, 0 ≤ y ∧ y < 256) → (∀ y ∈ m, 0 ≤ y ∧ y < 256) → (num l 0 = num m 0 ↔ l = m)
  | [a, b, c, d], [e, f, g, h], _, _, h1, h2 => by
    simp only [List.mem_cons, List.not_mem_nil, or_false, forall_eq_or_imp, forall_eq] at h1 h2
    unfold num
    simp only [List.getD_cons_zero, List.getD_cons_succ, List.cons.injEq, and_true, Nat.zero_add]
    omega
theorem num_drop (l : List Int) (a : Nat) : num l a = num ((l.drop a).take 4) 0 := by
  unfold num
  simp only [List.getD_eq_getElem?_getD, List.getElem?_take, List.getElem?_drop]
  simp
theorem words_eq {l : List Int} (hl : l.length = 64) (hr : ∀ y ∈ l, 0 ≤ y ∧ y < 256) : (wordsAt l 0 = wordsAt l 16) ↔ l.take 16 = (l.drop 16).take 16 := by
  have hd : ∀ a, ∀ y ∈ (l.drop a).take 4, 0 ≤ y ∧ y < 256 := fun a y hy => hr y (List.mem_of_mem_drop (List.mem_of_mem_take hy))
  have key : ∀ a b, a + 4 ≤ 64 → b + 4 ≤ 64 → (num l a = num l b ↔ (l.drop a).take 4 = (l.drop b).take 4) := fun a b ha hb => by
    rw [num_drop l a, num_drop l b]
    exact four_inj (a := 0) (b := 0) (by simp; omega) (by simp; omega) (hd a) (hd b)
  have split16 : ∀ a, a + 16 ≤ 64 → (l.drop a).take 16 = (l.drop a).take 4 ++ ((l.drop (a + 4)).take 4 ++ ((l.drop (a + 8)).take 4 ++ (l.drop (a + 12)).take 4)) := fun a ha => by
    have e : ∀ b k, (l.drop b).take (4 + k) = (l.drop b).take 4 ++ (l.drop (b + 4)).take k := fun b k => by
      rw [List.take_add, List.drop_drop]
    rw [show 16 = 4 + (4 + (4 + 4)) from rfl, e, e, e]
  have h0 := split16 0 (by omega)
  have h1 := split16 16 (by omega)
  rw [List.drop_zero] at h0
  constructor
  · intro h
    simp only [wordsAt, W4.mk.injEq] at h
    obtain ⟨a, b, c, d⟩ := h
    rw [h0, h1, (key _ _ (by omega) (by omega)).1 b, (key _ _ (by omega) (by omega)).1 c, (key _ _ (by omega) (by omega)).1 d]
    have := (key 0 16 (by omega) (by omega)).1 a
    rw [List.drop_zero] at this
    rw [this]
  · intro h
    have hh := h
    rw [h0, h1] at h
    have ln : ∀ a, a + 4 ≤ 64 → ((l.drop a).take 4).length = 4 := fun a ha => by simp; omega
    have q0 := ln 0 (by omega)
    rw [List.drop_zero] at q0
    obtain ⟨a, h⟩ := List.append_inj h (by rw [q0, ln 16 (by omega)])
    obtain ⟨b, h⟩ := List.append_inj h (by rw [ln _ (by omega), ln _ (by omega)])
    obtain ⟨c, d⟩ := List.append_inj h (by rw [ln _ (by omega), ln _ (by omega)])
    simp only [wordsAt, W4.mk.injEq]
    refine ⟨(key 0 16 (by omega) (by omega)).2 ?_, (key _ _ (by omega) (by omega)).2 b, (key _ _ (by omega) (by omega)).2 c, (key _ _ (by omega) (by omega)).2 d⟩
    rw [List.drop_zero]
    exact a
theorem W4.eta_of {u v : W4} (h : u.a = v.a ∧ u.b = v.b ∧ u.c = v.c ∧ u.d = v.d) : u = v := by
  cases u
  cases v
  simp_all
def W4.l (w : W4) : List Int := [w.a, w.b, w.c, w.d]
theorem eqW4 (w : World) (u v : W4) : (Op.equalIn 10000 193 (.agg (w4A u)) (.agg (w4A v))).run Tryz.prog w = .ok (u.l == v.l) w :=
  run_equalIn_ints w 9998 193 67 4 .u32 Tryz.underlying193 Tryz.underlying67 (fun _ => by kernel_rfl) u.l v.l rfl rfl
/-- in the midst of Open -/
structure OpS (w : World) (l : List Int) (W : World) : Prop where
  kp : Kp NoB w W
  b1 : Blk W w.heap.size 156 (bytesV l)
  b2 : Blk W (w.heap.size + 1) 193 #[.int .u32 0, .int .u32 0, .int .u32 0, .int .u32 0]
theorem OpS.keep {w : World} {l : List Int} {W W' : World} (h : OpS w l W) (k : Kp NoB W W') : OpS w l W' := ⟨h.kp.trans k (fun _ _ q => q), h.b1.keep k (fun q => q), h.b2.keep k (fun q => q)⟩
theorem OpS.sp {w : World} {l : List Int} {W : World} (h : OpS w l W) : W.rangeAt w.heap.size 0 (l.map (Value.int .u8)) := by
  have := Blk.range (xa := []) (xb := l.map (Value.int .u8)) (xd := []) (by have := h.b1; unfold bytesV at this; simpa using this) 0 rfl
  exact this
theorem OpS.at_ {w : World} {l : List Int} {W : World} (h : OpS w l W) (hl : l.length = 64) : W.there w.heap.size 0 64 ∧ readRow W w.heap.size 0 64 = bytesV l :=
  ⟨h.b1.thereAll 64 (by simp [bytesV, hl]), h.b1.readAll 64 (by simp [bytesV, hl])⟩
set_option maxRecDepth 100000 in
set_option maxHeartbeats 1600000 in
theorem open_ok (w : World) (l : List Int) (hl : l.length = 64) (hr : ∀ y ∈ l, 0 ≤ y ∧ y < 256) :
    Calls Tryz.prog 146 #[.agg (bytesV l)] w fun e w' => e = .returned (.agg (w4A (openB l))) ∧ Kp NoB w w' := by
  have HL := Lib.hid hl
  have HR := Lib.hid hr
  have HW := Lib.hid (words_eq hl hr)
  clear hl hr
  have hve : ((wordsAt l 0).l == (wordsAt l 16).l) = decide (l.take 16 = (l.drop 16).take 16) := by
    rw [Bool.eq_iff_iff, beq_iff_eq, decide_eq_true_iff, ← HW.out]
    constructor
    · intro h
      simp only [W4.l, List.cons.injEq, and_true] at h
      exact W4.eta_of h
    · intro h
      rw [h]
  have heq := fun w' => eqW4 w' (wordsAt l 0) (wordsAt l 16)
  rw [hve] at heq
  obtain ⟨D, hD⟩ : ∃ D, decide (l.take 16 = (l.drop 16).take 16) = D := ⟨_, rfl⟩
  rw [hD] at heq
  have HD := Lib.hid hD
  clear hve hD
  have hu := Tryz.underlying156
  have hi1 : (Tryz.prog.info? 156).map (·.size) = some (l.map (Value.int .u8)).length := by rw [List.length_map, HL.out]; exact infoSec
  have HST : Hid (OpS w l ((w.alloc (.cells (bytesV l) 156)).alloc (.cells #[.int .u32 0, .int .u32 0, .int .u32 0, .int .u32 0] 193))) :=
    Lib.hid ⟨((Kp.refl _ _).alloc _).alloc _, (Blk.new _ _ _).alloc _, Blk.newAt _ _ _ _ (by simp)⟩
  go_enter Tryz.func146, Tryz.ntmps146
  go_wp2_with fail
  refine forget (p := fun wx => Code.wp _ _ _ _ wx) (OpS w l) HST.out ?_
  intro W hW
  clear HST
  refine wp_region_held_drew (S := fun W' => W'.rangeAt w.heap.size 0 (l.map (Value.int .u8))) (by kernel_rfl) hW.sp (fun hHeld => ?_)
  have h0 := hW.keep (Kp.refl NoB W).drew
  generalize W.drew = W0 at h0 hHeld ⊢
  refine tkS (i := 0) (v := .agg ((l.map (Value.int .u8))).toArray) rfl (yieldsIf_load_mid (by rfl) _ _ rfl _ _ rfl (l.map (Value.int .u8)) _ (fun _ q => q) hu rfl hi1) h0.sp ?_
  simp only [Act.put, skA, skB, skC]
  refine tkS (i := 2) (v := .agg ((l.map (Value.int .u8))).toArray) rfl (yieldsIf_load_mid (by rfl) _ _ rfl _ _ rfl (l.map (Value.int .u8)) _ (fun _ q => q) hu rfl hi1) h0.sp ?_
  simp only [Act.put, skA, skB, skC]
  refine wpAnyH_ready (rs := [1]) (by kernel_rfl) (by simp) ?_
  refine AllReadyH.callR (fun x W' => x = .agg (w4A (wordsAt l 0)) ∧ OpS w l W') rfl (by rfl) 177 #[.agg (bytesV l), .int .i64 0] (by first | (go_simp; done) | (go_simp; rfl)) (fun _ _ q => q.2.sp) ((words_ok W0 l 0 (by omega) HL.out HR.out).mono (by rintro e w19 ⟨rfl, hk⟩; exact ⟨_, rfl, rfl, h0.keep hk⟩)) ?_ AllReadyH.nil
  rintro _ W1 ⟨rfl, h1⟩
  simp only [Act.put, skA, skB, skC]
  refine wpAnyH_ready (rs := [3]) (by kernel_rfl) (by simp) ?_
  refine AllReadyH.callR (fun x W' => x = .agg (w4A (wordsAt l 16)) ∧ OpS w l W') rfl (by rfl) 177 #[.agg (bytesV l), .int .i64 1] (by first | (go_simp; done) | (go_simp; rfl)) (fun _ _ q => q.2.sp) ((words_ok W1 l 1 (by omega) HL.out HR.out).mono (by rintro e w19 ⟨rfl, hk⟩; exact ⟨_, rfl, rfl, h1.keep hk⟩)) ?_ AllReadyH.nil
  rintro _ W2 ⟨rfl, h2⟩
  simp only [Act.put, skA, skB, skC]
  refine tkS (i := 4) (v := (.bool D)) rfl (Or.inl ⟨by rfl, fun w' hq => by go_simp⟩) h2.sp ?_
  simp only [Act.put, skA, skB, skC]
  refine wpAnyH_done (by kernel_rfl) ?_ _
  clear hHeld h0 h1 hW
  have H2 := Lib.hid h2
  obtain ⟨t1, r1⟩ := h2.at_ HL.out
  have t2 : W2.there (w.heap.size + 1) 0 4 := h2.b2.thereAll 4 rfl
  have e1 : openB l = if l.take 16 = (l.drop 16).take 16 then wordsAt l 0 else wordsAt l 32 := rfl
  have HE := Lib.hid e1
  clear h2 hi1 hu e1 heq
  have hll : ∀ k, (w4A (wordsAt l k)).size = 4 := fun _ => rfl
  rcases D with _ | _
  · have e2 : openB l = wordsAt l 32 := by rw [HE.out, if_neg (of_decide_eq_false HD.out)]
    go_wp2_with fail
    refine (words_ok W2 l 2 (by omega) HL.out HR.out).mono ?_
    rintro e w3 ⟨rfl, hk⟩
    have H3 := Lib.hid (H2.out.keep hk)
    have t3 : w3.there (w.heap.size + 1) 0 4 := H3.out.b2.thereAll 4 rfl
    obtain ⟨RR, hRR⟩ : ∃ RR, w4A (wordsAt l (16 * 2)) = RR := ⟨_, rfl⟩
    have o1 := w4A_ones (wordsAt l (16 * 2))
    have s1 : (w4A (wordsAt l (16 * 2))).size = 4 := rfl
    rw [hRR] at o1 s1
    rw [hRR]
    have HRR := Lib.hid hRR
    have S1 := Lib.hid s1
    clear hk hRR hll
    go_wp2_with fail
    refine bodyPost_ret (ret_cell1 rfl _ _ _ _ _ _ rfl (H3.out.b2.whole RR S1.out.symm) Tryz.underlying193 rfl (by rw [S1.out]; exact infoW4)) rfl ⟨by rw [e2, ← HRR.out], ?_⟩
    exact Kp.setCells (.inl (by omega)) _ _ _ H3.out.kp
  · have e2 : openB l = wordsAt l 0 := by rw [HE.out, if_pos (of_decide_eq_true HD.out)]
    go_wp2_with fail
    refine (words_ok W2 l 0 (by omega) HL.out HR.out).mono ?_
    rintro e w3 ⟨rfl, hk⟩
    have H3 := Lib.hid (H2.out.keep hk)
    have t3 : w3.there (w.heap.size + 1) 0 4 := H3.out.b2.thereAll 4 rfl
    obtain ⟨RR, hRR⟩ : ∃ RR, w4A (wordsAt l (16 * 0)) = RR := ⟨_, rfl⟩
    have o1 := w4A_ones (wordsAt l (16 * 0))
    have s1 : (w4A (wordsAt l (16 * 0))).size = 4 := rfl
    rw [hRR] at o1 s1
    rw [hRR]
    have HRR := Lib.hid hRR
    have S1 := Lib.hid s1
    clear hk hRR hll
    go_wp2_with fail
    refine bodyPost_ret (ret_cell1 rfl _ _ _ _ _ _ rfl (H3.out.b2.whole RR S1.out.symm) Tryz.underlying193 rfl (by rw [S1.out]; exact infoW4)) rfl ⟨by rw [e2, ← HRR.out], ?_⟩
    exact Kp.setCells (.inl (by omega)) _ _ _ H3.out.kp
end Go.Proofs.YtoeldmkbmnkhkaaGreat
/- The sealed sector, made; no condition. -/
namespace Go.Proofs.YtoeldmkbmnkhkaaGreat
open Go.RowKit

attribute [local go_sem ↓] loadSec storeSec allocSec loadW4 storeW4
def W4.at_ (w : W4) (i : Nat) : Int := if i = 0 then w.a else if i = 1 then w.b else if i = 2 then w.c else w.d
def byteK (n : Int) (k : Nat) : Int := if k = 0 then n / 16777216 % 256 else if k = 1 then n / 65536 % 256 else if k = 2 then n / 256 % 256 else n % 256
def W4.b3 (w : W4) : List Int := w.bytes ++ w.bytes ++ w.bytes
theorem b3_len (w : W4) : w.b3.length = 48 := rfl
theorem b3_at (w : W4) (c i k : Nat) (hc : c < 3) (hi : i < 4) (hk : k < 4) : w.b3[16 * c + 4 * i + k]? = some (byteK (w.at_ i) k) := by
  rcases (show c = 0 ∨ c = 1 ∨ c = 2 by omega) with rfl | rfl | rfl <;> rcases (show i = 0 ∨ i = 1 ∨ i = 2 ∨ i = 3 by omega) with rfl | rfl | rfl | rfl <;> rcases (show k = 0 ∨ k = 1 ∨ k = 2 ∨ k = 3 by omega) with rfl | rfl | rfl | rfl <;> rfl
/-- the first n bytes are there -/
def upS (w : W4) (n : Nat) : List Int := w.b3.take n ++ zeros (64 - n)
theorem upS_all (w : W4) : upS w 48 = sealB w := rfl
theorem upS_set (w : W4) (n : Nat) (x : Int) (hn : n < 48) (hx : w.b3[n]? = some x) : (upS w n).set n x = upS w (n + 1) := by
  unfold upS
  have e1 : (w.b3.take n).length = n := by rw [List.length_take, b3_len]; omega
  rw [List.set_append_right _ _ (by omega), e1, Nat.sub_self, show 64 - n = (64 - (n + 1)) + 1 by omega]
  unfold zeros
  rw [List.replicate_succ, List.set_cons_zero, List.take_add_one, hx]
  simp
theorem bytesV_setJ (l : List Int) (n : Nat) (x : Int) : (bytesV l).setIfInBounds n (.int .u8 x) = bytesV (l.set n x) := by
  unfold bytesV
  rw [List.setIfInBounds_toArray, List.map_set]
/-- in the midst of Seal -/
structure SeS (w : World) (v : W4) (n : Nat) (W : World) : Prop where
  kp : Kp NoB w W
  b0 : Blk W w.heap.size 193 (w4A v)
  b1 : Blk W (w.heap.size + 1) 156 (bytesV (zeros 64))
  b2 : Blk W (w.heap.size + 2) 156 (bytesV (upS v n))
theorem SeS.set_ {w : World} {v : W4} {n : Nat} {W : World} (h : SeS w v n W) (hn : n < 48) (x : Int) (hx : v.b3[n]? = some x) : SeS w v (n + 1) (W.setCell ⟨w.heap.size + 2, n, none⟩ (.int .u8 x)) := by
  refine ⟨h.kp.setCell (p := ⟨w.heap.size + 2, n, none⟩) (.inl (by show _ ≤ w.heap.size + 2; omega)) _, h.b0.far (p := ⟨w.heap.size + 2, n, none⟩) (by simp) _, h.b1.far (p := ⟨w.heap.size + 2, n, none⟩) (by simp) _, ?_⟩
  have := h.b2.set_ n (.int .u8 x)
  rwa [bytesV_setJ, upS_set _ _ _ hn hx] at this
theorem indexW4 (v : W4) (i : Nat) (hi : i < 4) (w : World) : (Instr.index 193 (.agg (w4A v)) (.int .i64 i)).run Tryz.prog w = .ok (.int .u32 (v.at_ i)) w := by
  obtain ⟨inf, h1, h2⟩ : ∃ inf, Tryz.prog.info? 67 = some inf ∧ inf.size = 1 := by
    have h : (Tryz.prog.info? 67).map (·.size) = some 1 := by kernel_rfl
    cases hq : Tryz.prog.info? 67 with
    | none => rw [hq] at h; cases h
    | some i => rw [hq] at h; exact ⟨i, rfl, by simpa using h⟩
  exact run_index_arr w 193 67 4 (.int .u32) inf Tryz.underlying193 Tryz.underlying67 rfl h1 h2 (w4A v).toList i hi _ (by
    rcases (show i = 0 ∨ i = 1 ∨ i = 2 ∨ i = 3 by omega) with rfl | rfl | rfl | rfl <;> rfl)
set_option maxRecDepth 100000 in
set_option maxHeartbeats 1600000 in
theorem seal_ok (w : World) (v : W4) : Calls Tryz.prog 148 #[.agg (w4A v)] w fun e w' => e = .returned (.agg (bytesV (sealB v))) ∧ Kp NoB w w' := by
  have hst : SeS w v 0 (((w.alloc (.cells (w4A v) 193)).alloc (.cells (bytesV (zeros 64)) 156)).alloc (.cells (bytesV (zeros 64)) 156)) :=
    ⟨(((Kp.refl _ _).alloc _).alloc _).alloc _, ((Blk.new _ _ _).alloc _).alloc _, (Blk.newAt _ _ _ _ (by simp)).alloc _, Blk.newAt _ _ _ _ (by simp)⟩
  have HST := Lib.hid hst
  clear hst
  go_enter Tryz.func148, Tryz.ntmps148
  go_wp2
  refine forget (p := fun wx => Code.wp _ _ _ _ wx) (SeS w v 0) HST.out ?_
  intro W hW
  have HW := Lib.hid hW
  clear hW HST
  go_loopw [8] (fun x wr => ∃ c : Nat, c ≤ 3 ∧ x = .int .i64 c ∧ SeS w v (16 * c) wr) (fun x _ => 3 - (intOf x).toNat)
  case atStart => exact ⟨0, by omega, rfl, HW.out⟩
  case round =>
    obtain ⟨c, hc, rfl, hs⟩ := hrel
    have HS := Lib.hid hs
    by_cases hc3 : c < 3
    · have hcc : (c : Int) < 3 := by omega
      have t0 : wr.there w.heap.size 0 4 := hs.b0.thereAll 4 rfl
      have r0 : readRow wr w.heap.size 0 4 = w4A v := hs.b0.readAll 4 rfl
      clear hs
      go_wp2_with fail
      go_loopw [12] (fun x wr => ∃ i : Nat, i ≤ 4 ∧ x = .int .i64 i ∧ SeS w v (16 * c + 4 * i) wr) (fun x _ => 4 - (intOf x).toNat)
      case atStart => exact ⟨0, by omega, rfl, HS.out⟩
      case round =>
        obtain ⟨i, hi, rfl, hs⟩ := hrel
        have HS2 := Lib.hid hs
        by_cases hi4 : i < 4
        · have hii : (i : Int) < 4 := by omega
          have hix := indexW4 v i hi4
          obtain ⟨N, hN⟩ : ∃ N, v.at_ i = N := ⟨_, rfl⟩
          rw [hN] at hix
          have HN := Lib.hid hN
          clear hs hN
          go_wp2_with fail
          go_loopw [16] (fun x wr => ∃ k : Nat, k ≤ 4 ∧ x = .int .i64 k ∧ SeS w v (16 * c + 4 * i + k) wr) (fun x _ => 4 - (intOf x).toNat)
          case atStart => exact ⟨0, by omega, rfl, HS2.out⟩
          case round =>
            obtain ⟨k, hk, rfl, hs⟩ := hrel
            have HS3 := Lib.hid hs
            by_cases hk4 : k < 4
            · have hkk : (k : Int) < 4 := by omega
              have hat := b3_at v c i k hc3 hi4 hk4
              rw [HN.out] at hat
              have hp48 : 16 * c + 4 * i + k < 48 := by omega
              obtain ⟨Ps, hPs⟩ : ∃ Ps, 16 * c + 4 * i + k = Ps := ⟨_, rfl⟩
              have HPs := Lib.hid hPs
              rw [hPs] at hat hp48
              have hP2 : c * 16 + i * 4 + k = Ps := by omega
              have hb48 : c * 16 + i * 4 + k < 64 := by omega
              have c2 : wr.cell? ⟨w.heap.size + 1 + 1, Ps, none⟩ = some (.int .u8 0) := by
                rw [show w.heap.size + 1 + 1 = w.heap.size + 2 from rfl, hs.b2.cell, hPs]
                unfold bytesV upS
                have e1 : (v.b3.take Ps).length = Ps := by rw [List.length_take, b3_len]; omega
                simp only [List.getElem?_toArray, List.getElem?_map]
                rw [List.getElem?_append_right (by omega), e1, Nat.sub_self]
                unfold zeros
                rw [show 64 - Ps = (64 - (Ps + 1)) + 1 by omega, List.replicate_succ]
                rfl
              have z2 : wr.frozen? ⟨w.heap.size + 1 + 1, Ps, none⟩ = false := hs.b2.frozen Ps
              rw [← hP2] at c2 z2
              have HAT := Lib.hid hat
              have HP48 := Lib.hid hp48
              clear hs hPs hat hp48 hP2
              have FIN : Hid (∀ W' (y : Int) (m : Nat), W' = wr.setCell ⟨w.heap.size + 2, c * 16 + i * 4 + k, none⟩ (.int .u8 y) → y = byteK N k → m = k + 1 → SeS w v (16 * c + 4 * i + m) W') := Lib.hid (by
                rintro W' y m rfl rfl rfl
                have h1 := HS3.out
                have h2 := HPs.out
                rw [h2] at h1
                have := h1.set_ HP48.out _ HAT.out
                rw [show c * 16 + i * 4 + k = Ps by omega, show 16 * c + 4 * i + (k + 1) = Ps + 1 by omega]
                exact this)
              rcases (show k = 0 ∨ k = 1 ∨ k = 2 ∨ k = 3 by omega) with rfl | rfl | rfl | rfl
              · simp only [Nat.add_zero] at c2 z2
                go_wp2_with fail
                exact ⟨⟨1, by omega, by congr 1, FIN.out _ _ _ rfl rfl rfl⟩, by simp [intOf]⟩
              · go_wp2_with fail
                exact ⟨⟨2, by omega, by congr 1, FIN.out _ _ _ rfl rfl rfl⟩, by simp [intOf]⟩
              · go_wp2_with fail
                exact ⟨⟨3, by omega, by congr 1, FIN.out _ _ _ rfl rfl rfl⟩, by simp [intOf]⟩
              · go_wp2_with fail
                exact ⟨⟨4, by omega, by congr 1, FIN.out _ _ _ rfl rfl rfl⟩, by simp [intOf]⟩
            · have hkk : ¬ (k : Int) < 4 := by omega
              obtain rfl : k = 4 := by omega
              clear hs
              go_wp2_with fail
              exact ⟨⟨i + 1, by omega, by congr 1, by have := HS3.out; rwa [show 16 * c + 4 * i + 4 = 16 * c + 4 * (i + 1) by omega] at this⟩, by simp [intOf]; omega⟩
        · have hii : ¬ (i : Int) < 4 := by omega
          obtain rfl : i = 4 := by omega
          clear hs
          go_wp2_with fail
          exact ⟨⟨c + 1, by omega, by congr 1, by have := HS2.out; rwa [show 16 * c + 4 * 4 = 16 * (c + 1) by omega] at this⟩, by simp [intOf]; omega⟩
    · have hcc : ¬ (c : Int) < 3 := by omega
      obtain rfl : c = 3 := by omega
      have b2 := hs.b2
      rw [show 16 * 3 = 48 from rfl, upS_all] at b2
      have sl : (sealB v).length = 64 := rfl
      have t1 : wr.there (w.heap.size + 1 + 1) 0 64 := b2.thereAll 64 (by rw [bytesV_size, sl])
      have r1 : readRow wr (w.heap.size + 1 + 1) 0 64 = bytesV (sealB v) := b2.readAll 64 (by rw [bytesV_size, sl])
      have t2 : wr.there (w.heap.size + 1) 0 64 := hs.b1.thereAll 64 (by rw [bytesV_size]; rfl)
      have o1 := bytesV_one (sealB v)
      have s1 : (bytesV (sealB v)).size = 64 := by rw [bytesV_size, sl]
      obtain ⟨RR, hRR⟩ : ∃ RR, bytesV (sealB v) = RR := ⟨_, rfl⟩
      rw [hRR] at r1 o1 s1
      have HRR := Lib.hid hRR
      have S1 := Lib.hid s1
      clear hs b2 sl hRR
      go_wp2_with fail
      refine bodyPost_ret (ret_cell1 rfl _ _ _ _ _ _ rfl (HS.out.b1.whole RR (by rw [S1.out, bytesV_size]; rfl)) Tryz.underlying156 rfl (by rw [S1.out]; exact infoSec)) rfl ⟨by rw [HRR.out], ?_⟩
      exact Kp.setCells (.inl (by omega)) _ _ _ HS.out.kp
end Go.Proofs.YtoeldmkbmnkhkaaGreat
/- The journal: steps one behind the other, till one is refused; no condition. -/
namespace Go.Proofs.YtoeldmkbmnkhkaaGreat
open Go.RowKit

/-- what function values from place i on do, one behind the other -/
def Chain (g o : Nat) : Nat → List (Nat × Array Value × Array Value) → (Int → World → Prop) → World → Prop
  | _, [], Q, w => Q 0 w
  | i, (f, a, c) :: r, Q, w => w.cell? ⟨g, o + i, none⟩ = some (.func (.func f) a c) ∧ (∀ args w, (callFunc f args).run Tryz.prog w = .ok (.enter f args) w) ∧
      Calls Tryz.prog f (a ++ c) w fun e w' => ∃ x : Int, e = .returned (.int .i64 x) ∧ (x ≠ 0 → Q x w') ∧ (x = 0 → Chain g o (i + 1) r Q w')
def ChRel (g o n : Nat) (Q : Int → World → Prop) (v : Value) (wr : World) : Prop := ∃ (i : Nat) (l : List (Nat × Array Value × Array Value)), v = .int .i64 (i : Int) ∧ i + l.length = n ∧ Chain g o i l Q wr
set_option maxRecDepth 100000 in
set_option maxHeartbeats 800000 in
theorem all_ok (w : World) (g o n cap : Nat) (l : List (Nat × Array Value × Array Value)) (Q : Int → World → Prop) (hl : l.length = n) (hn : n < 1099511627776) (h : Chain g o 0 l Q w) :
    Calls Tryz.prog 112 #[.slice (some ⟨g, o, none⟩) n cap] w fun e w' => ∃ x : Int, e = .returned (.int .i64 x) ∧ Q x w' := by
  have H := Lib.hid h
  have HL := Lib.hid hl
  clear h hl
  go_enter Tryz.func112, Tryz.ntmps112
  go_wp2_with fail
  go_loopw [8] (fun v wr => ChRel g o n Q v wr) (fun v _ => n - (intOf v).toNat)
  case atStart => exact ⟨0, l, rfl, by have := HL.out; omega, H.out⟩
  case round =>
    obtain ⟨i, l', rfl, hi, hc⟩ := hrel
    cases l' with
    | nil =>
      have hii : ¬ (i : Int) < (n : Int) := by simp at hi; omega
      have HC := Lib.hid (show Q 0 wr from hc)
      clear hc hi
      go_wp2_with fail
      go_ret
      exact ⟨0, rfl, HC.out⟩
    | cons x r =>
      obtain ⟨f, a, c⟩ := x
      obtain ⟨h1, h2, h3⟩ := hc
      have hii : (i : Int) < (n : Int) := by simp at hi; omega
      have HI := Lib.hid hi
      clear hi
      have H3 := Lib.hid h3
      clear h3
      go_wp2_with fail
      refine H3.out.mono ?_
      rintro e w' ⟨x, rfl, hx0, hx1⟩
      have HX0 := Lib.hid hx0
      have HX1 := Lib.hid hx1
      clear hx0 hx1
      by_cases hx : x = 0
      · subst hx
        have HX := Lib.hid (HX1.out rfl)
        go_wp2_with fail
        go_roundw
        case rel => exact ⟨i + 1, r, by go_num, by have := HI.out; simp at this; omega, HX.out⟩
        case measure => simp [intOf]; omega
      · have HX := Lib.hid (HX0.out hx)
        go_wp2_with fail
        go_ret
        exact ⟨x, rfl, HX.out⟩
end Go.Proofs.YtoeldmkbmnkhkaaGreat
/- The journal: is a disk ready, how many pages, what the head says; no condition but on the texts' lengths. -/
namespace Go.Proofs.YtoeldmkbmnkhkaaGreat
open Go.RowKit

theorem nmDb_le : nmDb.size ≤ maxLen := by decide
theorem nmJn_le : nmJn.size ≤ maxLen := by decide
section
variable {S : Nat → Prop} {W0 w : World} {db : Nat} {p : Pl}
set_option maxRecDepth 100000 in
theorem ready_q (h : Dq S W0 w db p) : Calls Tryz.prog 108 #[ptrV db] w fun e w' => e = .returned (.int .i64 p.wrong) ∧ Kp NoB w w' := by
  have H := Lib.hid h
  have e1 : p.readE 0 0 = p.wrong := by unfold Pl.readE Pl.wrong; simp
  have HE := Lib.hid e1
  have h63 : (-9223372036854775808 : Int) ≤ 0 ∧ (0 : Int) ≤ 9223372036854775807 := by omega
  have HZ := Lib.hid h63
  clear h e1 h63
  unfold ptrV
  go_enter Tryz.func108, Tryz.ntmps108
  go_wp2_with fail
  refine (show Calls _ _ #[ptrV db, .string nmDb, .int .i64 0, .int .i64 0] _ _ from read_q H.out nmDb 0 0 nmDb_le HZ.out HZ.out).mono ?_
  rintro e w' ⟨rfl, hk⟩
  rw [HE.out]
  have HK := Lib.hid hk
  clear hk
  go_wp2_with fail
  go_ret
  exact ⟨rfl, HK.out⟩
set_option maxRecDepth 100000 in
theorem count_q (h : Dq S W0 w db p) : Calls Tryz.prog 155 #[ptrV db] w fun e w' => e = .returned (.int .i64 p.jcount) ∧ w = w' := by
  have H := Lib.hid h
  have hl : p.len nmDb ≤ 1048576 := by
    unfold Pl.len
    split
    · omega
    · exact h.seen_le nmDb
  have HC := Lib.hid (show p.jcount = p.len nmDb / 256 from rfl)
  clear h
  unfold ptrV
  go_enter Tryz.func155, Tryz.ntmps155
  go_wp2_with fail
  refine (show Calls _ _ #[ptrV db, .string nmDb] _ _ from len_q H.out nmDb nmDb_le).mono ?_
  rintro e w' ⟨rfl, rfl⟩
  generalize p.len nmDb = L at hl HC ⊢
  go_wp2_with fail
  go_ret
  exact ⟨by rw [HC.out]; simp, rfl⟩
theorem head_plain (p : Pl) (hr : ∀ y ∈ p.seen nmJn, 0 ≤ y ∧ y < 256) : ∃ l, p.read nmJn 0 64 = l ∧ (∀ y ∈ l, 0 ≤ y ∧ y < 256) ∧ (p.jheadD = if l.length < 64 then ⟨0, 0, 0, 0⟩ else openB l) ∧ l.length ≤ 64 := by
  refine ⟨_, rfl, ?_⟩
  rcases hd : p.down with _ | _
  · have eE : p.readE 0 64 = 0 := by unfold Pl.readE; rw [hd]; simp
    have eR : p.read nmJn 0 64 = (p.seen nmJn).take 64 := by unfold Pl.read; rw [eE]; rfl
    rw [eR]
    refine ⟨fun y hy => hr y (List.mem_of_mem_take hy), ?_, by rw [List.length_take]; omega⟩
    unfold Pl.jheadD
    rw [hd]
    show p.jhead = _
    unfold Pl.jhead says
    have : ((p.seen nmJn).take 64).length < 64 ↔ (p.seen nmJn).length < 64 := by rw [List.length_take]; omega
    by_cases q : (p.seen nmJn).length < 64
    · rw [if_pos q, if_pos (this.2 q)]
    · rw [if_neg q, if_neg (fun r => q (this.1 r))]
  · have eE : p.readE 0 64 = 7 := by unfold Pl.readE; rw [hd]; simp
    have eR : p.read nmJn 0 64 = [] := by unfold Pl.read; rw [eE]; rfl
    rw [eR]
    refine ⟨by simp, ?_, by simp⟩
    unfold Pl.jheadD
    rw [hd]
    rfl
attribute [local go_sem ↓] loadSec storeSec allocSec loadW4 storeW4
set_option maxRecDepth 100000 in
set_option maxHeartbeats 800000 in
theorem head_q (h : Dq S W0 w db p) : Calls Tryz.prog 110 #[.agg #[ptrV db]] w fun e w' => e = .returned (.agg (w4A p.jheadD)) ∧ Kp NoB w w' := by
  have H := Lib.hid h
  have h63 : (-9223372036854775808 : Int) ≤ 0 ∧ (0 : Int) ≤ 9223372036854775807 := by omega
  have h64 : (-9223372036854775808 : Int) ≤ 64 ∧ (64 : Int) ≤ 9223372036854775807 := by omega
  have HZ := Lib.hid h63
  have HZ4 := Lib.hid h64
  clear h h63 h64
  unfold ptrV
  go_enter Tryz.func110, Tryz.ntmps110
  go_wp2_with fail
  have HK0 : Hid (Kp NoB w (((w.alloc (.cells #[ptrV db] 191)).alloc (.cells #[.int .u32 0, .int .u32 0, .int .u32 0, .int .u32 0] 193)).alloc (.cells (bytesV (zeros 64)) 156))) := Lib.hid ((((Kp.refl _ _).alloc _).alloc _).alloc _)
  have HB1 : Hid (Blk (((w.alloc (.cells #[ptrV db] 191)).alloc (.cells #[.int .u32 0, .int .u32 0, .int .u32 0, .int .u32 0] 193)).alloc (.cells (bytesV (zeros 64)) 156)) (w.heap.size + 1) 193 #[.int .u32 0, .int .u32 0, .int .u32 0, .int .u32 0]) := Lib.hid ((Blk.newAt _ _ _ _ (by simp)).alloc _)
  have HB2 : Hid (Blk (((w.alloc (.cells #[ptrV db] 191)).alloc (.cells #[.int .u32 0, .int .u32 0, .int .u32 0, .int .u32 0] 193)).alloc (.cells (bytesV (zeros 64)) 156)) (w.heap.size + 1 + 1) 156 (bytesV (zeros 64))) := Lib.hid (Blk.newAt _ _ _ _ (by simp))
  refine (show Calls _ _ #[ptrV db, .string nmJn, .int .i64 0, .int .i64 64] _ _ from read_q (H.out.keep HK0.out) nmJn 0 64 nmJn_le HZ.out HZ4.out).mono ?_
  rintro e w2 ⟨rfl, hk⟩
  have hB1 := HB1.out.keep hk (fun q => q)
  have hB2 := HB2.out.keep hk (fun q => q)
  have hK := HK0.out.trans hk (fun _ _ q => q)
  obtain ⟨l, hl, hrg, hj, hl64⟩ := head_plain p (fun y hy => H.out.seen_rng nmJn y hy)
  rw [hl]
  obtain ⟨rE, hrE⟩ : ∃ rE, p.readE 0 64 = rE := ⟨_, rfl⟩
  rw [hrE]
  have hsz := strOf_size l
  have hsi := strI_strOf l hrg
  generalize strOf l = s at hsz hsi ⊢
  rw [← hsz] at hj hl64
  have HJ := Lib.hid hj
  have HR := Lib.hid hrg
  have HS := Lib.hid hsz
  have HSI := Lib.hid hsi
  have HK := Lib.hid hK
  have HB1' := Lib.hid hB1
  have HB2' := Lib.hid hB2
  have t1 : w2.there (w.heap.size + 1) 0 4 := hB1.thereAll 4 rfl
  clear hj hrg hsz hsi hK hB1 hB2 hk HB1 HB2 HK0
  by_cases hlt : s.size < 64
  · have e1 : p.jheadD = ⟨0, 0, 0, 0⟩ := by rw [HJ.out, if_pos hlt]
    have HE1 := Lib.hid e1
    have hlt2 : (s.size : Int) < 64 := by omega
    have o0 : ones #[.int .u32 0, .int .u32 0, .int .u32 0, .int .u32 0] := w4A_ones ⟨0, 0, 0, 0⟩
    clear e1
    go_wp2_with fail
    refine bodyPost_ret (ret_cell1 rfl _ _ _ _ _ _ rfl (HB1'.out.whole #[.int .u32 0, .int .u32 0, .int .u32 0, .int .u32 0] rfl) Tryz.underlying193 rfl infoW4) rfl ⟨by rw [HE1.out]; rfl, ?_⟩
    exact Kp.setCells (.inl (by omega)) _ _ _ HK.out
  · have hs64 : s.size = 64 := by omega
    have e1 : p.jheadD = openB l := by rw [HJ.out, if_neg hlt]
    have HE1 := Lib.hid e1
    have hlt2 : ¬ (s.size : Int) < 64 := by omega
    have hcp := copyS w2 (w.heap.size + 1 + 1) 0 64 64 s (by omega) (HB2'.out.thereAll s.size (by rw [bytesV_size, hs64]; rfl))
    rw [HSI.out] at hcp
    have hB3 := HB2'.out.bytes (la := []) (lb := zeros 64) (ld := []) (lx := l) 0 rfl (by rw [← HS.out, hs64]; rfl)
    rw [List.nil_append, List.append_nil] at hB3
    have t3 : (w2.setCells (w.heap.size + 1 + 1) 0 (l.map (Value.int .u8))).there (w.heap.size + 1 + 1) 0 64 := hB3.thereAll 64 (by rw [bytesV_size, ← HS.out, hs64])
    have r3 : readRow (w2.setCells (w.heap.size + 1 + 1) 0 (l.map (Value.int .u8))) (w.heap.size + 1 + 1) 0 64 = bytesV l := hB3.readAll 64 (by rw [bytesV_size, ← HS.out, hs64])
    have HK2 : Hid (Kp NoB w (w2.setCells (w.heap.size + 1 + 1) 0 (l.map (Value.int .u8)))) := Lib.hid (Kp.setCells (.inl (by omega)) _ _ _ HK.out)
    have HB4 : Hid (Blk (w2.setCells (w.heap.size + 1 + 1) 0 (l.map (Value.int .u8))) (w.heap.size + 1) 193 #[.int .u32 0, .int .u32 0, .int .u32 0, .int .u32 0]) := Lib.hid (HB1'.out.farCells (by omega) _ _ _)
    clear e1 hB3
    go_wp2_with fail
    refine (open_ok _ l (by rw [← HS.out]; exact hs64) HR.out).mono ?_
    rintro e w3 ⟨rfl, hk⟩
    have HK3 := Lib.hid (HK2.out.trans hk (fun _ _ q => q))
    have hb3 := HB4.out.keep hk (fun q => q)
    have HB3 := Lib.hid hb3
    have t4 : w3.there (w.heap.size + 1) 0 4 := hb3.thereAll 4 rfl
    rw [← HE1.out]
    obtain ⟨RR, hRR⟩ : ∃ RR, w4A p.jheadD = RR := ⟨_, rfl⟩
    have o1 := w4A_ones p.jheadD
    have s1 : (w4A p.jheadD).size = 4 := rfl
    rw [hRR] at o1 s1
    rw [hRR]
    have HRR := Lib.hid hRR
    have S1 := Lib.hid s1
    clear hk hb3 hRR
    go_wp2_with fail
    refine bodyPost_ret (ret_cell1 rfl _ _ _ _ _ _ rfl (HB3.out.whole RR S1.out.symm) Tryz.underlying193 rfl (by rw [S1.out]; exact infoW4)) rfl ⟨by rw [HRR.out], ?_⟩
    exact Kp.setCells (.inl (by omega)) _ _ _ HK3.out
end
end Go.Proofs.YtoeldmkbmnkhkaaGreat
/- The journal: a page of the database, is the journal hot; no condition but on the texts' lengths. -/
namespace Go.Proofs.YtoeldmkbmnkhkaaGreat
open Go.RowKit

section
variable {S : Nat → Prop} {W0 w : World} {db : Nat} {p : Pl}
set_option maxRecDepth 100000 in
set_option maxHeartbeats 800000 in
theorem hot_q (h : Dq S W0 w db p) : Calls Tryz.prog 109 #[ptrV db] w fun e w' => e = .returned (.bool p.jhot) ∧ Kp NoB w w' := by
  have H := Lib.hid h
  rcases hdn : p.down with _ | _
  · have HD := Lib.hid hdn
    have hw : p.wrong = 0 := by unfold Pl.wrong; rw [hdn]; rfl
    have HW := Lib.hid hw
    have hj : p.jhot = decide ((p.jhead).a ≠ 0) := by unfold Pl.jhot; rw [hdn]; simp
    have HJ := Lib.hid hj
    clear h hdn hw hj
    unfold ptrV
    go_enter Tryz.func109, Tryz.ntmps109
    go_wp2_with fail
    refine (show Calls _ _ #[ptrV db] _ _ from ready_q H.out).mono ?_
    rintro e w2 ⟨rfl, hk⟩
    rw [HW.out]
    have HK := Lib.hid hk
    clear hk
    go_wp2_with fail
    refine (show Calls _ _ #[.agg #[ptrV db]] _ _ from head_q (H.out.keep HK.out)).mono ?_
    rintro e w3 ⟨rfl, hk3⟩
    rw [show p.jheadD = p.jhead by unfold Pl.jheadD; rw [HD.out]; rfl]
    have HK3 := Lib.hid hk3
    clear hk3
    have hix : ∀ W, (Instr.index 193 (.agg (w4A p.jhead)) (.int .i64 0)).run Tryz.prog W = .ok (.int .u32 p.jhead.a) W := fun W => by
      have := indexW4 p.jhead 0 (by omega) W
      simpa [W4.at_] using this
    generalize p.jhead.a = a at HJ hix
    generalize w4A p.jhead = RR at hix ⊢
    by_cases ha : a = 0
    · subst ha
      go_wp2_with fail
      go_ret
      exact ⟨by rw [HJ.out]; rfl, HK.out.trans HK3.out (fun _ _ q => q)⟩
    · have ha1 : (a != 0) = true := by simpa using ha
      have ha2 : (a == 0) = false := by simpa using ha
      go_wp2_with fail
      go_ret
      exact ⟨by rw [HJ.out, decide_eq_true ha]; rfl, HK.out.trans HK3.out (fun _ _ q => q)⟩
  · have hw : p.wrong = 7 := by unfold Pl.wrong; rw [hdn]; rfl
    have HW := Lib.hid hw
    have hj : p.jhot = false := by unfold Pl.jhot; rw [hdn]; simp
    have HJ := Lib.hid hj
    clear h hdn hw hj
    unfold ptrV
    go_enter Tryz.func109, Tryz.ntmps109
    go_wp2_with fail
    refine (show Calls _ _ #[ptrV db] _ _ from ready_q H.out).mono ?_
    rintro e w2 ⟨rfl, hk⟩
    rw [HW.out]
    have HK := Lib.hid hk
    clear hk
    go_wp2_with fail
    go_ret
    exact ⟨by rw [HJ.out]; rfl, HK.out⟩
attribute [local go_sem ↓] load26 store26 alloc26 build26
end
end Go.Proofs.YtoeldmkbmnkhkaaGreat
/- The journal: a head sealed and synced; no condition but on the texts' lengths and the counts. -/
namespace Go.Proofs.YtoeldmkbmnkhkaaGreat
open Go.RowKit

theorem strI_seal (v : W4) (hr : ∀ y ∈ sealB v, 0 ≤ y ∧ y < 256) : strI (strOf (sealB v)) = sealB v := strI_strOf _ hr
theorem seal_len (v : W4) : (sealB v).length = 64 := rfl
theorem seal_rng (v : W4) : ∀ y ∈ sealB v, 0 ≤ y ∧ y < 256 := by
  intro y hy
  unfold sealB W4.bytes four at hy
  simp only [List.mem_append, List.mem_cons, List.not_mem_nil, or_false] at hy
  rcases hy with h | h
  · rcases h with ((((h | h) | h) | h) | (((h | h) | h) | h)) | (((h | h) | h) | h) <;> omega
  · exact zeros_rng _ y h
theorem byRd_congr {w w' : World} {g : Nat} (h : w'.heap[g]? = w.heap[g]?) (o n : Nat) : byRd w' g o n = byRd w g o n := by
  unfold byRd
  congr 1
  funext j
  rw [World.cell?_of_block (w := w) (w' := w') (a := ⟨g, o + j, none⟩) h]
theorem byAt_congr {w w' : World} {g : Nat} (h : w'.heap[g]? = w.heap[g]?) {o n : Nat} (ha : byAt w g o n) : byAt w' g o n := fun j hj => by
  rw [World.cell?_of_block (w := w) (w' := w') (a := ⟨g, o + j, none⟩) h]
  exact ha j hj
theorem by_keep {S : Nat → Prop} {w w' : World} {g o n : Nat} {l : List Int} (k : Kp S w.drew w') (hg : g < w.heap.size) (hn : ¬ S g) (ha : byAt w g o n) (hr : byRd w g o n = l) : byAt w' g o n ∧ byRd w' g o n = l :=
  ⟨byAt_congr (w := w) (k.block g hg hn) ha, (byRd_congr (w := w) (k.block g hg hn) o n).trans hr⟩
section
variable {S : Nat → Prop} {W0 w : World} {db : Nat} {p : Pl}
attribute [local go_sem ↓] loadSec storeSec allocSec loadW4 storeW4 conv64
set_option maxRecDepth 100000 in
set_option maxHeartbeats 800000 in
theorem seal1_q (h : Dq S w w db p) (v : W4) (Bw Bd : Nat) (hn : ¬ S Bd) (hw : Blk w Bw 193 (w4A v)) (hd : w.cell? ⟨Bd, 0, none⟩ = some (ptrV db)) (hm : p.sm 20000) :
    Calls Tryz.prog 147 #[.pointer (some ⟨Bw, 0, none⟩), .pointer (some ⟨Bd, 0, none⟩)] w fun e w' => e = .returned (.int .i64 (p.writeE nmJn 0 (sealB v))) ∧ Dq S w w' db (p.write nmJn 0 (sealB v)) := by
  have H := Lib.hid h
  have HN := Lib.hid hn
  have HM := Lib.hid hm
  have t0 : w.there Bw 0 4 := hw.thereAll 4 rfl
  have r0 : readRow w Bw 0 4 = w4A v := hw.readAll 4 rfl
  have hlt := block_lt_of_cell hd
  have HD := Lib.hid hd
  have HLT := Lib.hid hlt
  clear h hm hw hd hlt hn
  unfold ptrV at HD
  go_enter Tryz.func147, Tryz.ntmps147
  go_wp2_with fail
  refine (seal_ok w v).mono ?_
  rintro e w2 ⟨rfl, hk⟩
  have hb := Blk.new w2 156 (bytesV (zeros 64))
  have hb2 := hb.whole (bytesV (sealB v)) (by rw [bytesV_size, bytesV_size]; rfl)
  have t1 := hb.thereAll 64 (by rw [bytesV_size]; rfl)
  have o1 := bytesV_one (sealB v)
  have s1 : (bytesV (sealB v)).size = 64 := by rw [bytesV_size]; rfl
  have hk2 : Kp NoB w ((w2.alloc (.cells (bytesV (zeros 64)) 156)).setCells w2.heap.size 0 (bytesV (sealB v)).toList) := Kp.setCells (.inl hk.size) _ _ _ (hk.alloc _)
  have hcd := (hk2.cell HLT.out (fun q => q)).trans HD.out
  have hby := hb2.byAt 0 64 (by show _ ≤ 64; omega)
  have hrd := hb2.byRd 0 64 (by show _ ≤ 64; omega)
  rw [List.drop_zero, List.take_of_length_le (by show 64 ≤ 64; omega)] at hrd
  have HK2 := Lib.hid hk2
  have HKS := Lib.hid hk.size
  clear hk hb hb2 hk2
  generalize hRR : bytesV (sealB v) = RR at t1 o1 s1 hcd hby hrd HK2 ⊢
  clear hRR
  go_upto_region 2 with fail
  generalize hW3 : (w2.alloc (.cells (bytesV (zeros 64)) 156)).setCells w2.heap.size 0 RR.toList = w3 at hcd hby hrd HK2 ⊢
  generalize hg : w2.heap.size = g at hby hrd ⊢
  have hgs : Hid (w.heap.size ≤ g ∧ g < w3.heap.size) := Lib.hid ⟨by rw [← hg]; exact HKS.out, by rw [← hg, ← hW3, size_setCells]; simp⟩
  clear hg hW3
  have hsz : (strOf (sealB v)).size ≤ maxLen := by rw [strOf_size, seal_len]; decide
  have HSZ := Lib.hid hsz
  have HSI := Lib.hid (strI_seal v (seal_rng v))
  obtain ⟨sb, hsb⟩ : ∃ sb, sealB v = sb := ⟨_, rfl⟩
  have HSB := Lib.hid hsb
  rw [hsb] at hrd HSI HSZ
  clear hsb
  have HCD := Lib.hid hcd
  have HBY := Lib.hid hby
  have HRD := Lib.hid hrd
  clear hsz
  go_region_held3 (fun w' => w'.cell? ⟨Bd, 0, none⟩ = some (.pointer (some ⟨db, 0, none⟩)) ∧ byAt w' g 0 64 ∧ byRd w' g 0 64 = sb)
    (first | exact ⟨hcd, hby, hrd⟩ | exact ⟨he1, he2⟩ | go_keep)
    (first
      | (go_at_call 123; go_must (refine (show Calls _ _ #[ptrV db, .string nmJn, .int .i64 0, .string (strOf sb)] _ _ from write_q (H.out.base1 (HK2.out.drew)) nmJn 0 (strOf sb) nmJn_le HSZ.out HM.out).mono ?_); rintro e w4 ⟨rfl, h4⟩; rw [HSI.out] at h4; rw [HSI.out]; have H4 := Lib.hid h4; have he1 := (h4.kp.cell (Nat.lt_of_lt_of_le HLT.out HK2.out.size) HN.out).trans HCD.out; have he2 := by_keep h4.kp hgs.out.2 (fun q => by have := H.out.lt _ q; have := hgs.out.1; omega) HBY.out HRD.out; clear h4))
  go_wp2_with fail
  go_ret
  rw [HSB.out]
  exact ⟨rfl, Dq.up (H.out.base1 HK2.out.drew) HK2.out.drew H.out.lt H4.out⟩
set_option maxRecDepth 100000 in
theorem jsync_q (h : Dq S w w db p) (hm : p.sm 20000) :
    Calls Tryz.prog 149 #[.agg #[ptrV db]] w fun e w' => e = .returned (.int .i64 p.syncE) ∧ Dq S w w' db (p.sync nmJn) := by
  have H := Lib.hid h
  have HM := Lib.hid hm
  have HK := Lib.hid ((Kp.refl NoB w).alloc (.cells #[ptrV db] 191))
  clear h hm
  unfold ptrV at HK ⊢
  go_enter Tryz.func149, Tryz.ntmps149
  go_wp2_with fail
  refine (show Calls _ _ #[ptrV db, .string nmJn] _ _ from sync_q (H.out.base1 HK.out) nmJn nmJn_le HM.out).mono ?_
  rintro e w4 ⟨rfl, h4⟩
  have H4 := Lib.hid h4
  clear h4
  go_wp2_with fail
  go_ret
  exact ⟨rfl, Dq.up (H.out.base1 HK.out) HK.out H.out.lt H4.out⟩
theorem stE0 (p : Pl) (nm : ByteArray) (a : Int) (d : List Int) : p.stE ⟨0, nm, a, d⟩ = p.writeE nm a d := rfl
theorem stP0 (p : Pl) (nm : ByteArray) (a : Int) (d : List Int) : p.stP ⟨0, nm, a, d⟩ = p.write nm a d := rfl
theorem stE1 (p : Pl) (nm : ByteArray) (a : Int) (d : List Int) : p.stE ⟨1, nm, a, d⟩ = p.truncE nm a := rfl
theorem stP1 (p : Pl) (nm : ByteArray) (a : Int) (d : List Int) : p.stP ⟨1, nm, a, d⟩ = p.trunc nm a := rfl
theorem stE2 (p : Pl) (nm : ByteArray) (a : Int) (d : List Int) : p.stE ⟨2, nm, a, d⟩ = p.syncE := rfl
theorem stP2 (p : Pl) (nm : ByteArray) (a : Int) (d : List Int) : p.stP ⟨2, nm, a, d⟩ = p.sync nm := rfl
set_option maxRecDepth 100000 in
set_option maxHeartbeats 800000 in
theorem jseal_q (h : Dq S w w db p) (v : W4) (hm : p.sm 40000) :
    Calls Tryz.prog 114 #[.agg #[ptrV db], .agg (w4A v)] w fun e w' => e = .returned (.int .i64 (p.runS (headS nmJn v)).2) ∧ Dq S w w' db (p.runS (headS nmJn v)).1 := by
  have H := Lib.hid h
  have HM := Lib.hid hm
  clear h hm
  go_enter Tryz.func114, Tryz.ntmps114
  unfold ptrV
  go_wp2_with fail
  have hkb : Kp NoB w ((w.alloc (.cells #[ptrV db] 191)).alloc (.cells (w4A v) 193)) := ((Kp.refl _ _).alloc _).alloc _
  have hbd : Blk ((w.alloc (.cells #[ptrV db] 191)).alloc (.cells (w4A v) 193)) w.heap.size 191 #[ptrV db] := (Blk.new _ _ _).alloc _
  have hbw : Blk ((w.alloc (.cells #[ptrV db] 191)).alloc (.cells (w4A v) 193)) (w.heap.size + 1) 193 (w4A v) := Blk.newAt _ _ _ _ (by simp)
  generalize hw2 : (w.alloc (.cells #[ptrV db] 191)).alloc (.cells (w4A v) 193) = w2 at hkb hbd hbw
  have hs2 : w2.heap.size = w.heap.size + 1 + 1 := by rw [← hw2]; simp
  unfold ptrV at hw2
  rw [hw2]
  refine (all_ok _ (w.heap.size + 1 + 1) 0 2 2 [(147, #[], #[.pointer (some ⟨w.heap.size + 1, 0, none⟩), .pointer (some ⟨w.heap.size, 0, none⟩)]), (149, #[.agg #[ptrV db]], #[])]
    (fun x w' => x = (p.runS (headS nmJn v)).2 ∧ Dq S w w' db (p.runS (headS nmJn v)).1) rfl (by omega) ?_).mono ?_
  · have hb3 := Blk.newAt w2 233 #[.func (.func 147) #[] #[.pointer (some ⟨w.heap.size + 1, 0, none⟩), .pointer (some ⟨w.heap.size, 0, none⟩)], .func (.func 149) #[.agg #[ptrV db]] #[]] _ hs2
    unfold ptrV at hb3
    generalize hw3 : w2.alloc (.cells #[.func (.func 147) #[] #[.pointer (some ⟨w.heap.size + 1, 0, none⟩), .pointer (some ⟨w.heap.size, 0, none⟩)], .func (.func 149) #[.agg #[.pointer (some ⟨db, 0, none⟩)]] #[]] 233) = w3 at hb3 ⊢
    have hk3 : Kp NoB w2 w3 := by rw [← hw3]; exact (Kp.refl _ _).alloc _
    have hk := hkb.trans hk3 (fun _ _ q => q)
    have h3 := H.out.base1 hk
    have hlt := H.out.lt
    refine ⟨by rw [hb3.cell]; rfl, enters_of Tryz.func147 (by kernel_rfl) rfl, ?_⟩
    refine (seal1_q h3 v (w.heap.size + 1) w.heap.size (fun q => by have := hlt _ q; omega) (hbw.keep hk3 (fun q => q)) (by rw [(hbd.keep hk3 (fun q => q)).cell]; rfl) (sm_mono HM.out (by omega))).mono ?_
    rintro e w4 ⟨rfl, h4⟩
    refine ⟨_, rfl, fun hx => ?_, fun hx => ?_⟩
    · unfold headS
      rw [runS_cons, stE0, if_neg hx]
      exact ⟨rfl, Dq.up h3 hk hlt h4⟩
    · refine ⟨by rw [(hb3.keep h4.kp (fun q => by have := hlt _ q; omega)).cell]; rfl, enters_of Tryz.func149 (by kernel_rfl) rfl, ?_⟩
      obtain ⟨S5, h5, hS5⟩ := h4.base
      refine (jsync_q h5 (sm_write _ _ _ (sm_mono HM.out (by omega)))).mono ?_
      rintro e w6 ⟨rfl, h6⟩
      have hz : (p.runS (headS nmJn v)) = (((p.write nmJn 0 (sealB v)).sync nmJn), (p.write nmJn 0 (sealB v)).syncE) := by
        unfold headS
        rw [runS_cons, stE0, if_pos hx, runS_cons, stE2, stP0, stP2]
        split
        · rename_i h0
          rw [runS_nil, h0]
        · rfl
      rw [hz]
      have h7 := Dq.up h3 hk hlt (Dq.tr (w0 := w3) h6 h4.kp hS5 h4.lt)
      exact ⟨_, rfl, fun _ => ⟨rfl, h7⟩, fun hx2 => ⟨hx2.symm, h7⟩⟩
  · rintro e w4 ⟨x, rfl, rfl, h4⟩
    have H4 := Lib.hid h4
    clear h4
    go_wp2_with fail
    go_ret
    exact ⟨rfl, H4.out⟩
end
end Go.Proofs.YtoeldmkbmnkhkaaGreat
/- The journal: function values that make steps, one behind the other; no condition but on the counts. -/
namespace Go.Proofs.YtoeldmkbmnkhkaaGreat
open Go.RowKit

/-- what is made of a plain disk, one behind the other till one is refused -/
def seqR : List (Pl → Pl × Int) → Pl → Pl × Int
  | [], p => (p, 0)
  | r :: rs, p => if (r p).2 = 0 then seqR rs (r p).1 else r p
/-- what stays while a disk is changed -/
def Kept (K : (Nat → Prop) → World → Prop) : Prop := ∀ (S S' : Nat → Prop) (w w' : World), K S w → Kp S w w' → (∀ b, S' b → S b ∨ w.heap.size ≤ b) → K S' w'
theorem kept_blk (g : Nat) (t : TypeId) (cs : Array Value) : Kept fun S w => Blk w g t cs ∧ ¬ S g := fun S S' w w' h k hS => ⟨h.1.keep k h.2, fun q => by
  rcases hS g q with q | q
  · exact h.2 q
  · have := h.1.lt
    omega⟩
theorem Kept.and {K L : (Nat → Prop) → World → Prop} (h : Kept K) (k : Kept L) : Kept fun S w => K S w ∧ L S w := fun S S' w w' q kp hS => ⟨h S S' w w' q.1 kp hS, k S S' w w' q.2 kp hS⟩
/-- a function value that makes steps -/
structure StepC (db : Nat) (K : (Nat → Prop) → World → Prop) (f : Nat) (a c : Array Value) (R : Pl → Pl × Int) (cost : Nat) : Prop where
  ent : ∀ args w, (callFunc f args).run Tryz.prog w = .ok (.enter f args) w
  run : ∀ (S : Nat → Prop) (w : World) (p : Pl), Dq S w w db p → K S w → p.sm cost → Calls Tryz.prog f (a ++ c) w fun e w' => e = .returned (.int .i64 (R p).2) ∧ Dq S w w' db (R p).1
  sm : ∀ (p : Pl) (k : Nat), p.sm (k + cost) → (R p).1.sm k
theorem Chain.mono {g o : Nat} {Q Q' : Int → World → Prop} (hQ : ∀ x w, Q x w → Q' x w) : ∀ (l : List (Nat × Array Value × Array Value)) (i : Nat) (w : World), Chain g o i l Q w → Chain g o i l Q' w
  | [], _, _, h => hQ _ _ h
  | (f, a, c) :: r, i, w, h => ⟨h.1, h.2.1, h.2.2.mono fun e w' ⟨x, he, h0, h1⟩ => ⟨x, he, fun q => hQ _ _ (h0 q), fun q => Chain.mono hQ r (i + 1) w' (h1 q)⟩⟩
structure Stpr where
  f : Nat
  a : Array Value
  c : Array Value
  R : Pl → Pl × Int
  cost : Nat
def Stpr.v (s : Stpr) : Value := .func (.func s.f) s.a s.c
def costs (l : List Stpr) : Nat := (l.map (·.cost)).sum
theorem chain_steps {db g o : Nat} {t : TypeId} {cs : Array Value} {K : (Nat → Prop) → World → Prop} (hK : Kept K) :
    ∀ (l : List Stpr) (i : Nat) (S : Nat → Prop) (w : World) (p : Pl), (∀ s ∈ l, StepC db K s.f s.a s.c s.R s.cost) → (∀ j (h : j < l.length), cs[o + i + j]? = some l[j].v) → Blk w g t cs → ¬ S g → Dq S w w db p → K S w → p.sm (costs l) →
      Chain g o i (l.map fun s => (s.f, s.a, s.c)) (fun x w' => x = (seqR (l.map (·.R)) p).2 ∧ Dq S w w' db (seqR (l.map (·.R)) p).1) w
  | [], i, S, w, p, _, _, _, _, h, _, _ => ⟨rfl, h⟩
  | s :: r, i, S, w, p, hs, hc, hb, hn, h, hk, hm => by
    have h1 := hs s (List.mem_cons_self ..)
    refine ⟨?_, h1.ent, ?_⟩
    · rw [hb.cell]
      exact hc 0 (by simp)
    · refine (h1.run S w p h hk (sm_mono hm (by simp [costs]))).mono ?_
      rintro e w' ⟨rfl, h2⟩
      refine ⟨_, rfl, fun hx => ?_, fun hx => ?_⟩
      · show _ = (seqR (s.R :: r.map (·.R)) p).2 ∧ Dq S w w' db (seqR (s.R :: r.map (·.R)) p).1
        unfold seqR
        rw [if_neg hx]
        exact ⟨rfl, h2⟩
      · obtain ⟨S2, h3, hS2⟩ := h2.base
        have hn2 := (kept_blk g t cs) S S2 w w' ⟨hb, hn⟩ h2.kp hS2
        have hm2 : (s.R p).1.sm (costs r) := h1.sm p _ (sm_mono hm (by simp [costs]; omega))
        have ih := chain_steps hK r (i + 1) S2 w' (s.R p).1 (fun s' hs' => hs s' (List.mem_cons_of_mem _ hs')) (fun j hj => by
          have := hc (j + 1) (by simpa using hj)
          rw [show o + (i + 1) + j = o + i + (j + 1) by omega]
          exact this) hn2.1 hn2.2 h3 (hK S S2 w w' hk h2.kp hS2) hm2
        refine Chain.mono (fun x w3 ⟨e, h4⟩ => ?_) _ _ _ ih
        show x = (seqR (s.R :: r.map (·.R)) p).2 ∧ Dq S w w3 db (seqR (s.R :: r.map (·.R)) p).1
        unfold seqR
        rw [if_pos hx]
        exact ⟨e, Dq.tr (w0 := w) h4 h2.kp hS2 h2.lt⟩
/-- the steps made by 'all' -/
theorem all_steps {db g n cap : Nat} {t : TypeId} {K : (Nat → Prop) → World → Prop} (hK : Kept K) (l : List Stpr) (S : Nat → Prop) (w : World) (p : Pl) (hs : ∀ s ∈ l, StepC db K s.f s.a s.c s.R s.cost) (hl : l.length = n) (hn : n < 1099511627776)
    (hb : Blk w g t (l.map Stpr.v).toArray) (hS : ¬ S g) (h : Dq S w w db p) (hk : K S w) (hm : p.sm (costs l)) :
    Calls Tryz.prog 112 #[.slice (some ⟨g, 0, none⟩) n cap] w fun e w' => e = .returned (.int .i64 (seqR (l.map (·.R)) p).2) ∧ Dq S w w' db (seqR (l.map (·.R)) p).1 := by
  have hc := chain_steps (o := 0) hK l 0 S w p hs (fun j hj => by
    simp [hj]) hb hS h hk hm
  refine (all_ok w g 0 n cap _ _ (by simpa using hl) hn hc).mono ?_
  rintro e w' ⟨x, rfl, rfl, h2⟩
  exact ⟨rfl, h2⟩
end Go.Proofs.YtoeldmkbmnkhkaaGreat
/- The journal: pages put into the database; no condition but on the texts' lengths and the counts. -/
namespace Go.Proofs.YtoeldmkbmnkhkaaGreat
open Go.RowKit

theorem runS_at (a b : List Stp) (s : Stp) (p : Pl) (h0 : (p.runS a).2 = 0) : p.runS (a ++ s :: b) = if (p.runS a).1.stE s = 0 then ((p.runS a).1.stP s).runS b else ((p.runS a).1.stP s, (p.runS a).1.stE s) := by
  rw [runS_append, if_pos h0, runS_cons]
/-- the list of pages is none of the disk's blocks -/
def Apart (S : Nat → Prop) (A : Option Addr) (n : Nat) : Prop := ∀ g o, A = some ⟨g, o, none⟩ → 0 < n → ¬ S g
theorem PgsAt.lt {w : World} {A : Option Addr} {n : Nat} {l : List Pg} (h : PgsAt w A n l) {g o : Nat} (e : A = some ⟨g, o, none⟩) (hn : 0 < n) : g < w.heap.size := by
  obtain ⟨g', o', e', hg, hc⟩ := h.2.2 hn
  rw [e] at e'
  injection e' with e'
  injection e' with e1 e2
  subst e1
  exact hg
structure PgsOk (l : List Pg) : Prop where
  ok : ∀ x ∈ l, PgOk x
  n : ∀ x ∈ l, 1 ≤ x.n ∧ x.n ≤ 4096
theorem pg_by {w : World} {g : Nat} {t : TypeId} {x : Pg} (h : Blk w g t (pgA x)) (hx : PgOk x) : byAt w g 1 256 ∧ byRd w g 1 256 = x.b := by
  have hc : ∀ j, j < 256 → w.cell? ⟨g, 1 + j, none⟩ = some (.int .u8 (x.b[j]?.getD 0)) := by
    intro j hj
    rw [h.cell]
    unfold pgA pgL
    rw [List.getElem?_toArray, Nat.add_comm 1 j, List.getElem?_cons_succ, List.getElem?_map, List.getElem?_eq_getElem (by rw [hx.len]; exact hj)]
    rfl
  refine ⟨fun j hj => ⟨_, hc j hj⟩, ?_⟩
  unfold byRd
  apply List.ext_getElem
  · simp [hx.len]
  · intro j h1 h2
    have hj : j < 256 := by simpa using h1
    simp only [List.getElem_map, List.getElem_range]
    rw [hc j hj, List.getElem?_eq_getElem h2]
    rfl
section
variable {S : Nat → Prop} {W0 w : World} {db : Nat} {p : Pl}
set_option maxRecDepth 100000 in
theorem put1_q (h : Dq S w w db p) (n : Int) (hn : 0 ≤ n ∧ n ≤ 4096) (Bd Bc : Nat) (hd : w.cell? ⟨Bd, 0, none⟩ = some (ptrV db)) (hc : w.cell? ⟨Bc, 0, none⟩ = some (.int .i64 n)) (hm : p.sm 20000) :
    Calls Tryz.prog 150 #[.pointer (some ⟨Bd, 0, none⟩), .pointer (some ⟨Bc, 0, none⟩)] w fun e w' => e = .returned (.int .i64 (p.truncE nmDb (n * 256))) ∧ Dq S w w' db (p.trunc nmDb (n * 256)) := by
  have H := Lib.hid h
  have HM := Lib.hid hm
  have hw : IntKind.i64.wrap (n * 256) = n * 256 := by rw [IntKind.wrap_i64]; omega
  have HN := Lib.hid (show -9223372036854775808 ≤ n * 256 ∧ n * 256 ≤ 9223372036854775807 by omega)
  clear h hm hn
  unfold ptrV at hd
  go_enter Tryz.func150, Tryz.ntmps150
  go_wp2_with fail
  refine (show Calls _ _ #[ptrV db, .string nmDb, .int .i64 (n * 256)] _ _ from trunc_q H.out nmDb (n * 256) HN.out nmDb_le HM.out).mono ?_
  rintro e w4 ⟨rfl, h4⟩
  have H4 := Lib.hid h4
  clear h4
  go_wp2_with fail
  go_ret
  exact ⟨rfl, H4.out⟩
set_option maxRecDepth 100000 in
theorem put2_q (h : Dq S w w db p) (Bd : Nat) (hd : w.cell? ⟨Bd, 0, none⟩ = some (ptrV db)) (hm : p.sm 20000) :
    Calls Tryz.prog 151 #[.pointer (some ⟨Bd, 0, none⟩)] w fun e w' => e = .returned (.int .i64 p.syncE) ∧ Dq S w w' db (p.sync nmDb) := by
  have H := Lib.hid h
  have HM := Lib.hid hm
  clear h hm
  unfold ptrV at hd
  go_enter Tryz.func151, Tryz.ntmps151
  go_wp2_with fail
  refine (show Calls _ _ #[ptrV db, .string nmDb] _ _ from sync_q H.out nmDb nmDb_le HM.out).mono ?_
  rintro e w4 ⟨rfl, h4⟩
  have H4 := Lib.hid h4
  clear h4
  go_wp2_with fail
  go_ret
  exact ⟨rfl, H4.out⟩
def PuRel (S : Nat → Prop) (w1 : World) (db : Nat) (p : Pl) (l : List Pg) (v : Value) (wr : World) : Prop :=
  ∃ k : Nat, v = .int .i64 (k : Int) ∧ k ≤ l.length ∧ (p.runS (homeW (l.take k))).2 = 0 ∧ Dq S w1 wr db (p.runS (homeW (l.take k))).1
theorem homeS_at (count : Int) (l : List Pg) (k : Nat) (x : Pg) (hk : l[k]? = some x) : homeS count l = homeW (l.take k) ++ ⟨0, nmDb, (x.n - 1) * 256, x.b⟩ :: (homeW (l.drop (k + 1)) ++ [⟨1, nmDb, count * 256, []⟩, ⟨2, nmDb, 0, []⟩]) := by
  unfold homeS
  obtain ⟨h1, h2⟩ := List.getElem?_eq_some_iff.1 hk
  have e : l = l.take k ++ x :: l.drop (k + 1) := by rw [← h2, ← List.drop_eq_getElem_cons h1, List.take_append_drop]
  conv => lhs; rw [e]
  unfold homeW
  rw [List.map_append, List.map_cons, List.append_assoc, List.cons_append]
theorem homeW_next (l : List Pg) (k : Nat) (x : Pg) (hk : l[k]? = some x) : homeW (l.take (k + 1)) = homeW (l.take k) ++ [⟨0, nmDb, (x.n - 1) * 256, x.b⟩] := by
  unfold homeW
  rw [List.take_add_one, hk, List.map_append]
  rfl
theorem home_step0 (count : Int) {l : List Pg} {k : Nat} {x : Pg} {q : Pl} (hk : l[k]? = some x) (h0 : (p.runS (homeW (l.take k))).2 = 0) (hq : (p.runS (homeW (l.take k))).1 = q) :
    (q.writeE nmDb ((x.n - 1) * 256) x.b = 0 → p.runS (homeW (l.take (k + 1))) = (q.write nmDb ((x.n - 1) * 256) x.b, 0)) ∧
    (q.writeE nmDb ((x.n - 1) * 256) x.b ≠ 0 → p.runS (homeS count l) = (q.write nmDb ((x.n - 1) * 256) x.b, q.writeE nmDb ((x.n - 1) * 256) x.b)) := by
  subst hq
  refine ⟨fun h => ?_, fun h => ?_⟩
  · rw [homeW_next l k x hk, runS_at _ _ _ _ h0, stE0, if_pos h, stP0, runS_nil]
  · rw [homeS_at count l k x hk, runS_at _ _ _ _ h0, stE0, if_neg h, stP0]
attribute [local go_sem ↓] loadPg storePg allocPg load26 store26 conv64
set_option maxRecDepth 100000 in
set_option maxHeartbeats 1600000 in
theorem jput_q (h : Dq S w w db p) (count : Int) (hc : 0 ≤ count ∧ count ≤ 4096) (A : Option Addr) (n cap : Nat) (l : List Pg) (hl : PgsAt w A n l) (hA : Apart S A n) (hok : PgsOk l) (hm : p.sm (20000 * (n + 3))) (hnn : n < 1099511627776) :
    Calls Tryz.prog 116 #[.agg #[ptrV db], .int .i64 count, .slice A n cap] w fun e w' => e = .returned (.int .i64 (p.runS (homeS count l)).2) ∧ Dq S w w' db (p.runS (homeS count l)).1 := by
  have H := Lib.hid h
  have HM := Lib.hid hm
  have HC := Lib.hid hc
  have HL := Lib.hid hl
  have HA := Lib.hid hA
  have HOK := Lib.hid hok
  have HLN := Lib.hid hl.len
  have hkb : Kp NoB w ((w.alloc (.cells #[ptrV db] 191)).alloc (.cells #[.int .i64 count] 3)) := ((Kp.refl _ _).alloc _).alloc _
  have hbd : Blk ((w.alloc (.cells #[ptrV db] 191)).alloc (.cells #[.int .i64 count] 3)) w.heap.size 191 #[ptrV db] := (Blk.new _ _ _).alloc _
  have hbc : Blk ((w.alloc (.cells #[ptrV db] 191)).alloc (.cells #[.int .i64 count] 3)) (w.heap.size + 1) 3 #[.int .i64 count] := Blk.newAt _ _ _ _ (by simp)
  obtain ⟨w1, hw1⟩ : ∃ w1, (w.alloc (.cells #[ptrV db] 191)).alloc (.cells #[.int .i64 count] 3) = w1 := ⟨_, rfl⟩
  have hs1 : w1.heap.size = w.heap.size + 1 + 1 := by rw [← hw1]; simp
  rw [hw1] at hkb hbd hbc
  have HKB := Lib.hid hkb
  have HBD := Lib.hid hbd
  have HBC := Lib.hid hbc
  have HS1 := Lib.hid hs1
  clear h hm hc hl hA hok hkb hbd hbc hs1
  unfold ptrV at hw1 ⊢
  go_enter Tryz.func116, Tryz.ntmps116
  go_wp2_with fail
  clear hw1
  go_loopw [12] (fun v wr => PuRel S w1 db p l v wr) (fun v _ => n - (intOf v).toNat)
  case atStart => exact ⟨0, rfl, Nat.zero_le _, rfl, H.out.base1 HKB.out⟩
  case round =>
    obtain ⟨k, rfl, hk, hr0, hq⟩ := hrel
    have HQ := Lib.hid hq
    have HR0 := Lib.hid hr0
    have hKl := HL.out.keep HKB.out
    have hlr : PgsAt wr A n l := RowsC.keepS hKl hq.kp (fun g o e hn => HA.out g o e hn)
    have cd : wr.cell? ⟨w.heap.size, 0, none⟩ = some (.pointer (some ⟨db, 0, none⟩)) := by
      rw [hq.kp.cell HBD.out.lt (fun q => by have := H.out.lt _ q; omega), HBD.out.cell]; rfl
    by_cases hlt : k < n
    · have hkk : (k : Int) < (n : Int) := by omega
      obtain ⟨g, o, rfl, hg, t1, r1⟩ := hlr.at_ k hlt
      obtain ⟨x, hx⟩ : ∃ x, l[k]? = some x := ⟨_, List.getElem?_eq_getElem (by rw [HLN.out]; exact hlt)⟩
      have hxe : l[k]'(by rw [HLN.out]; exact hlt) = x := (List.getElem?_eq_some_iff.1 hx).2
      rw [hxe] at r1
      have hxm : x ∈ l := List.mem_of_getElem? hx
      have hxo := HOK.out.ok x hxm
      have hxn := HOK.out.n x hxm
      have HX := Lib.hid hx
      have hb := Blk.new wr 208 (pgA ⟨0, zeros 256⟩)
      have hb2 := hb.whole (pgA x) (by rw [pgA_size hxo]; rfl)
      have t2 := hb.thereAll 257 rfl
      have o1 := pgA_ones x
      have s1 := pgA_size hxo
      have hc0 := hb2.cell 0
      rw [show (pgA x)[0]? = some (.int .i64 x.n) from rfl] at hc0
      obtain ⟨hby, hrd⟩ := pg_by hb2 hxo
      have hk3 : Kp NoB wr ((wr.alloc (.cells (pgA ⟨0, zeros 256⟩) 208)).setCells wr.heap.size 0 (pgA x).toList) := Kp.setCells (.inl (Nat.le_refl _)) _ _ _ ((Kp.refl _ _).alloc _)
      have hcd := (hk3.cell (block_lt_of_cell cd) (fun q => q)).trans cd
      have hG : wr.heap.size < ((wr.alloc (.cells (pgA ⟨0, zeros 256⟩) 208)).setCells wr.heap.size 0 (pgA x).toList).heap.size := by rw [size_setCells]; simp
      have HG := Lib.hid hG
      have HK3 := Lib.hid hk3
      have HXO := Lib.hid hxo
      have HXN := Lib.hid hxn
      generalize hRR : pgA x = RR at r1 o1 s1 hc0 hby hrd hcd HK3 HG ⊢
      clear hRR hk3 hxo hxn hq hr0 hlr hKl hb hb2 hG hx hxe hxm cd
      go_upto_region 4 with fail
      generalize hW3 : (wr.alloc (.cells (pgA ⟨0, zeros 256⟩) 208)).setCells wr.heap.size 0 RR.toList = w3 at hc0 hby hrd hcd HK3 HG ⊢
      obtain ⟨G, hGG⟩ : ∃ G, wr.heap.size = G := ⟨_, rfl⟩
      rw [hGG] at hc0 hby hrd HG ⊢
      have HGG := Lib.hid hGG
      clear hGG hW3 t2 t1 r1
      have hwn : IntKind.i64.wrap (x.n - 1) = x.n - 1 := by have := HXN.out; rw [IntKind.wrap_i64]; omega
      have hwm : IntKind.i64.wrap ((x.n - 1) * 256) = (x.n - 1) * 256 := by have := HXN.out; rw [IntKind.wrap_i64]; omega
      have HSZ : Hid ((strOf x.b).size ≤ maxLen) := Lib.hid (by rw [strOf_size, HXO.out.len]; decide)
      have HSI : Hid (strI (strOf x.b) = x.b) := Lib.hid (strI_strOf _ HXO.out.rng)
      obtain ⟨S2, hq2, hS2⟩ := HQ.out.base
      have HQ2 := Lib.hid hq2
      have HS2 := Lib.hid hS2
      have H3 := Lib.hid (hq2.base1 HK3.out.drew)
      have HM2 := Lib.hid (sm_run (homeW (l.take k)) (k := 20000 * 3) (sm_mono HM.out (by simp [homeW]; omega)))
      obtain ⟨q, hqq⟩ : ∃ q, (p.runS (homeW (l.take k))).1 = q := ⟨_, rfl⟩
      rw [hqq] at HM2 H3
      have HQQ := Lib.hid hqq
      have HCD := Lib.hid hcd
      have HC0 := Lib.hid hc0
      have HBY := Lib.hid hby
      have HRD := Lib.hid hrd
      obtain ⟨xn, hxn⟩ : ∃ xn, x.n = xn := ⟨_, rfl⟩
      obtain ⟨xb, hxb⟩ : ∃ xb, x.b = xb := ⟨_, rfl⟩
      rw [hxn] at hc0 hwn hwm HC0
      rw [hxb] at hrd HSZ HSI HRD
      have HXN2 := Lib.hid hxn
      have HXB2 := Lib.hid hxb
      have HNW : Hid (¬ S2 w.heap.size) := Lib.hid (fun z => by
        have h5 := HS1.out
        rcases hS2 _ z with z | z
        · have := H.out.lt _ z; omega
        · omega)
      clear hq2 hS2 hqq hxn hxb
      go_region_held3 (fun w' => w'.cell? ⟨w.heap.size, 0, none⟩ = some (.pointer (some ⟨db, 0, none⟩)) ∧ w'.cell? ⟨G, 0, none⟩ = some (.int .i64 xn) ∧ byAt w' G 1 256 ∧ byRd w' G 1 256 = xb)
        (first | exact ⟨hcd, hc0, hby, hrd⟩ | exact ⟨he1, he0, he2⟩ | go_keep)
        (first
          | (go_at_call 123; go_must (refine (show Calls _ _ #[ptrV db, .string nmDb, .int .i64 ((xn - 1) * 256), .string (strOf xb)] _ _ from write_q H3.out nmDb ((xn - 1) * 256) (strOf xb) nmDb_le HSZ.out (sm_mono HM2.out (by omega))).mono ?_); rintro e w4 ⟨rfl, h4⟩; rw [HSI.out] at h4; rw [HSI.out]; have H4 := Lib.hid h4
             have he1 := (h4.kp.cell (Nat.lt_of_lt_of_le (block_lt_of_cell HCD.out) (Nat.le_refl _)) HNW.out).trans HCD.out
             have hn0 : ¬ S2 G := fun z => by have := HQ2.out.lt _ z; have := HGG.out; omega
             have he0 := (h4.kp.cell HG.out hn0).trans HC0.out
             have he2 := by_keep h4.kp HG.out hn0 HBY.out HRD.out
             clear h4 hn0))
      clear he0 he1 he2 hcd hc0 hby hrd
      have hw1x := home_step0 (p := p) count HX.out HR0.out HQQ.out
      rw [HXN2.out, HXB2.out] at hw1x
      have h41 := Dq.tr (w0 := w1) H4.out (HQ.out.kp.trans HK3.out.drew (fun _ _ z => z.elim)) HS2.out HQ.out.lt
      have HW1x := Lib.hid hw1x
      have H41 := Lib.hid h41
      clear hw1x h41
      obtain ⟨er, her⟩ : ∃ er, q.writeE nmDb ((xn - 1) * 256) xb = er := ⟨_, rfl⟩
      rw [her] at HW1x ⊢
      clear her
      by_cases h0 : er = 0
      · subst h0
        go_wp2_with fail
        go_roundw
        case rel =>
          have h5 := HW1x.out.1 rfl
          refine ⟨k + 1, by go_num, by have := HLN.out; omega, by rw [h5], ?_⟩
          rw [h5]
          exact H41.out
        case measure => simp [intOf]; omega
      · have hb0 : (er == 0) = false := by simpa using h0
        have hb1 : (er != 0) = true := by simpa using h0
        have H0 := Lib.hid h0
        go_wp2_with fail
        go_ret
        rw [HW1x.out.2 H0.out]
        exact ⟨rfl, Dq.up (H.out.base1 HKB.out) HKB.out H.out.lt H41.out⟩
    · have hkk : ¬ (k : Int) < (n : Int) := by omega
      obtain rfl : k = n := by have := HLN.out; omega
      have HT : Hid (l.take k = l) := Lib.hid (List.take_of_length_le (by rw [HLN.out]; omega))
      rw [HT.out] at HR0
      have hq1 := HQ.out
      rw [HT.out] at hq1
      have HQ1 := Lib.hid hq1
      have hn0 : ¬ S w.heap.size := fun q => by have := H.out.lt _ q; omega
      have hn1 : ¬ S (w.heap.size + 1) := fun q => by have := H.out.lt _ q; omega
      have hbd := HBD.out.keep hq1.kp hn0
      have hbc := HBC.out.keep hq1.kp hn1
      have HB := Lib.hid hbd
      have HBC2 := Lib.hid hbc
      obtain ⟨S2, hq2, hS2⟩ := hq1.base
      have HNS : Hid (¬ S2 w.heap.size ∧ ¬ S2 (w.heap.size + 1)) := Lib.hid (by
        have h5 := HS1.out
        refine ⟨fun z => ?_, fun z => ?_⟩
        · rcases hS2 _ z with z | z
          · exact hn0 z
          · omega
        · rcases hS2 _ z with z | z
          · exact hn1 z
          · omega)
      have HQ2 := Lib.hid hq2
      have HS2 := Lib.hid hS2
      clear hq hq1 hn0 hn1 hbd hbc hq2 hS2 cd hlr
      go_wp2_with fail
      obtain ⟨q, hq⟩ : ∃ q, (p.runS (homeW l)).1 = q := ⟨_, rfl⟩
      have h2 := HQ2.out
      have hm2 := sm_run (homeW l) (k := 40000) (sm_mono HM.out (by simp [homeW, HLN.out]; omega))
      rw [hq] at hm2
      rw [hq] at h2
      have hb := Blk.new wr 233 #[.func (.func 150) #[] #[.pointer (some ⟨w.heap.size, 0, none⟩), .pointer (some ⟨w.heap.size + 1, 0, none⟩)], .func (.func 151) #[] #[.pointer (some ⟨w.heap.size, 0, none⟩)]]
      have hka := (Kp.refl NoB wr).alloc (.cells #[.func (.func 150) #[] #[.pointer (some ⟨w.heap.size, 0, none⟩), .pointer (some ⟨w.heap.size + 1, 0, none⟩)], .func (.func 151) #[] #[.pointer (some ⟨w.heap.size, 0, none⟩)]] 233)
      have hbd3 := HB.out.keep hka (fun z => z)
      have hbc3 := HBC2.out.keep hka (fun z => z)
      have hn3 : ¬ S2 wr.heap.size := fun z => by have := h2.lt _ z; omega
      refine (all_steps (n := 2) (cap := 2) ((kept_blk w.heap.size 191 #[ptrV db]).and (kept_blk (w.heap.size + 1) 3 #[.int .i64 count]))
        [⟨150, #[], #[.pointer (some ⟨w.heap.size, 0, none⟩), .pointer (some ⟨w.heap.size + 1, 0, none⟩)], fun p => (p.trunc nmDb (count * 256), p.truncE nmDb (count * 256)), 20000⟩,
         ⟨151, #[], #[.pointer (some ⟨w.heap.size, 0, none⟩)], fun p => (p.sync nmDb, p.syncE), 20000⟩]
        S2 _ q ?_ rfl (by omega) hb hn3 (h2.base1 hka) ⟨⟨hbd3, HNS.out.1⟩, ⟨hbc3, HNS.out.2⟩⟩ hm2).mono ?_
      · intro s hs
        simp only [List.mem_cons, List.not_mem_nil, or_false] at hs
        rcases hs with rfl | rfl
        · exact ⟨enters_of Tryz.func150 (by kernel_rfl) rfl, fun S w p h hk hm => put1_q h count HC.out _ _ (by rw [hk.1.1.cell]; rfl) (by rw [hk.2.1.cell]; rfl) hm, fun p k hm => sm_trunc _ _ hm⟩
        · exact ⟨enters_of Tryz.func151 (by kernel_rfl) rfl, fun S w p h hk hm => put2_q h _ (by rw [hk.1.1.cell]; rfl) hm, fun p k hm => sm_sync _ hm⟩
      · rintro e w4 ⟨rfl, h4⟩
        have hz : seqR [fun p => (p.trunc nmDb (count * 256), p.truncE nmDb (count * 256)), fun p => (p.sync nmDb, p.syncE)] q = p.runS (homeS count l) := by
          unfold homeS
          rw [runS_append, if_pos HR0.out, hq, runS_cons, stE1, stP1]
          unfold seqR
          simp only
          split
          · rw [runS_cons, stE2, stP2, runS_nil]
            unfold seqR
            simp only
            split
            · rfl
            · rfl
          · rfl
        rw [show ([⟨150, #[], #[.pointer (some ⟨w.heap.size, 0, none⟩), .pointer (some ⟨w.heap.size + 1, 0, none⟩)], fun p => (p.trunc nmDb (count * 256), p.truncE nmDb (count * 256)), 20000⟩,
         ⟨151, #[], #[.pointer (some ⟨w.heap.size, 0, none⟩)], fun p => (p.sync nmDb, p.syncE), 20000⟩] : List Stpr).map (·.R) = [fun p => (p.trunc nmDb (count * 256), p.truncE nmDb (count * 256)), fun p => (p.sync nmDb, p.syncE)] from rfl, hz] at h4
        rw [show ([⟨150, #[], #[.pointer (some ⟨w.heap.size, 0, none⟩), .pointer (some ⟨w.heap.size + 1, 0, none⟩)], fun p => (p.trunc nmDb (count * 256), p.truncE nmDb (count * 256)), 20000⟩,
         ⟨151, #[], #[.pointer (some ⟨w.heap.size, 0, none⟩)], fun p => (p.sync nmDb, p.syncE), 20000⟩] : List Stpr).map (·.R) = [fun p => (p.trunc nmDb (count * 256), p.truncE nmDb (count * 256)), fun p => (p.sync nmDb, p.syncE)] from rfl, hz]
        have h5 := Dq.tr (w0 := w1) h4 (HQ1.out.kp.trans hka (fun _ _ z => z.elim)) HS2.out HQ1.out.lt
        have H5 := Lib.hid (Dq.up (H.out.base1 HKB.out) HKB.out H.out.lt h5)
        clear hq h2 hm2 hb hka hbd3 hbc3 hn3 h4 hz h5
        go_wp2_with fail
        go_ret
        exact ⟨rfl, H5.out⟩
end
end Go.Proofs.YtoeldmkbmnkhkaaGreat
/- The reference's texts: noughts, a text cut or made longer; condition: at most 1048576 bytes. -/
namespace Go.Proofs.YtoeldmkbmnkhkaaGreat
open Go.RowKit

attribute [local go_sem ↓] conv64
theorem strOf_sub (l : List Int) (a b : Nat) : (strOf l).extract a b = strOf ((l.drop a).take (b - a)) := by
  unfold strOf
  apply ByteArray.ext
  simp [ByteArray.data_extract, List.map_take, List.map_drop]
end Go.Proofs.YtoeldmkbmnkhkaaGreat
/- The journal: pages laid aside; no condition but on the texts' lengths and the counts. -/
namespace Go.Proofs.YtoeldmkbmnkhkaaGreat
open Go.RowKit

/-- the first i bytes of a record are there -/
def upR (n : Int) (i : Nat) : List Int := (four n).take i ++ zeros (320 - i)
theorem upR_set (n : Int) (i : Nat) (hi : i < 4) : (upR n i).set i (byteK n i) = upR n (i + 1) := by
  rcases (show i = 0 ∨ i = 1 ∨ i = 2 ∨ i = 3 by omega) with rfl | rfl | rfl | rfl <;> rfl
theorem upR_all (n : Int) : upR n 4 = (four n ++ zeros 60) ++ zeros 256 := by
  unfold upR zeros
  rw [List.append_assoc, List.replicate_append_replicate]
  rfl
/-- in the midst of a record -/
structure LyS (wr : World) (x : Pg) (i : Nat) (W : World) : Prop where
  kp : Kp NoB wr W
  b1 : Blk W wr.heap.size 208 (pgA x)
  b2 : Blk W (wr.heap.size + 1) 5 (bytesV (upR x.n i))
theorem LyS.set_ {wr : World} {x : Pg} {i : Nat} {W : World} (h : LyS wr x i W) (hi : i < 4) : LyS wr x (i + 1) (W.setCell ⟨wr.heap.size + 1, i, none⟩ (.int .u8 (byteK x.n i))) := by
  refine ⟨h.kp.setCell (p := ⟨wr.heap.size + 1, i, none⟩) (.inl (by show _ ≤ wr.heap.size + 1; omega)) _, h.b1.far (p := ⟨wr.heap.size + 1, i, none⟩) (by simp) _, ?_⟩
  have := h.b2.set_ i (.int .u8 (byteK x.n i))
  rwa [bytesV_setJ, upR_set _ _ hi] at this
set_option maxRecDepth 100000 in
theorem LyS.copy {wr : World} {x : Pg} {W : World} (h : LyS wr x 4 W) (hx : PgOk x) : Kp NoB wr (W.setCells (wr.heap.size + 1) 64 (x.b.map (Value.int .u8))) ∧ Blk (W.setCells (wr.heap.size + 1) 64 (x.b.map (Value.int .u8))) (wr.heap.size + 1) 5 (bytesV (recB x)) := by
  refine ⟨Kp.setCells (.inl (by omega)) _ _ _ h.kp, ?_⟩
  have b := h.b2
  rw [upR_all] at b
  have := Blk.bytes (la := four x.n ++ zeros 60) (lb := zeros 256) (ld := []) (lx := x.b) (by rw [List.append_nil]; exact b) 64 (by simp [four, zeros]) (by rw [hx.len]; simp [zeros])
  rw [List.append_nil] at this
  exact this
theorem LyS.drew {wr : World} {x : Pg} {i : Nat} {W : World} (h : LyS wr x i W) : LyS wr x i W.drew := ⟨h.kp.drew, h.b1, h.b2⟩
section
variable {S : Nat → Prop} {W0 w : World} {db : Nat} {p : Pl}
attribute [local go_sem ↓] loadPg storePg allocPg load26 store26 conv64
attribute [local go_sem] size_setCells
end
end Go.Proofs.YtoeldmkbmnkhkaaGreat
