/- Texts of this proof, one behind the other: lemmas and contracts; each says its own conditions. -/
import Derived.Test.YtoeldmkbmnkhkaaGreatP1
import Derived.Test.YtoeldmkbmnkhkaaGreatP5
import Derived.Test.YtoeldmkbmnkhkaaGreatP14
import Derived.ProofKit
import Derived.OpenShut
import Derived.ShutString
import Derived.ChangeOld
import Derived.Deep.Slices
import Derived.Deep.Fields
import Derived.ChangeSame
import Derived.Test.YtoeldmkbmnkhkaaGreatRows
import Derived.SliceStrings
import Derived.DataShut
/- SpaceOnce: a page taken is not taken again before it was given back; condition: a slice of numbers that may be. -/
namespace Go.Proofs.YtoeldmkbmnkhkaaGreat
open Go.RowKit

/-- the law's state behind k steps -/
structure OnS (w : World) (t0 k : Nat) (L : Lab) (wr : World) (A : Option Addr) (c : Nat) (held : List Int) (A' : Option Addr) (c' : Nat) (given : List Int) (D : List (List Int)) : Prop where
  wr_ : Wr L wr t0 D []
  mem : OnM w L wr A c held A' c' given
  pl : OnP D held given
  len : D.length ≤ k + 1
def OnV (w : World) (t0 k : Nat) (v5 v6 : Value) (wr : World) : Prop :=
  ∃ L A c held A' c' given D, v5 = .slice A held.length c ∧ v6 = .slice A' given.length c' ∧ OnS w t0 k L wr A c held A' c' given D
theorem and_rng (x : Int) : 0 ≤ bits BinOp.and IntKind.i64 x 1023 ∧ bits BinOp.and IntKind.i64 x 1023 ≤ 1023 := by
  have e : bits BinOp.and IntKind.i64 x 1023 = IntKind.i64.wrap ((BitVec.ofInt 64 x &&& BitVec.ofInt 64 1023).toNat) := rfl
  have h : (BitVec.ofInt 64 x &&& BitVec.ofInt 64 1023).toNat ≤ 1023 := by
    rw [BitVec.toNat_and]
    exact Nat.and_le_right
  rw [e, IntKind.wrap_i64]
  omega
theorem infoIntO : (Tryz.prog.info? 3).map (fun i => (i.zero, i.size, i.bytes)) = some (some (.int .i64 0), 1, 8) := by kernel_rfl
set_option maxRecDepth 100000 in
set_option maxHeartbeats 3200000 in
theorem once_ok (w : World) (A0 : Option Addr) (n c0 : Nat) (l : List Int) (hn : n ≤ 9223372036854775807) (F : Nums w A0 n l) (hl : ∀ y ∈ l, -9223372036854775808 ≤ y ∧ y ≤ 9223372036854775807) :
    Calls Tryz.prog 3 #[.slice A0 n c0] w fun e w' => e = .returned (.bool true) ∧ Kp NoB w w' := by
  have HF := Lib.hid F
  have HLR := Lib.hid hl
  have HNN := Lib.hid hn
  have hnn : (n : Int) ≤ 9223372036854775807 := by omega
  obtain ⟨j0, hj0, hy0, hy1, hy2⟩ := info_parts infoIntO
  have HJ0 := Lib.hid hj0
  have HY0 := Lib.hid hy0
  have HY1 := Lib.hid hy1
  have HY2 := Lib.hid hy2
  clear F hl hn hj0 hy0 hy1 hy2
  by_cases h2 : (200 : Int) < (n : Int)
  · go_enter Tryz.func3, Tryz.ntmps3
    go_wp2_with fail
    refine (awake10_ok w).mono ?_
    rintro e w1 ⟨rfl, hk⟩
    have HK := Lib.hid hk
    clear hk
    dsimp only
    go_wp2_with fail
    go_ret
    exact ⟨rfl, HK.out⟩
  · go_enter Tryz.func3, Tryz.ntmps3
    go_wp2_with fail
    refine (open10_ok w true).mono ?_
    rintro e w1 ⟨t0, L1, rfl, ⟨hW, hL0⟩, hk⟩
    have HST : Hid (OnS w t0 0 L1 w1 none 0 [] none 0 [] D1) := Lib.hid ⟨hW, ⟨hW.lok, hL0, hk, ⟨World.ownsRow_nil _ _ _ _, fun g q => (by cases q)⟩, ⟨World.ownsRow_nil _ _ _ _, fun g q => (by cases q)⟩, fun g q => (by cases q)⟩, onp_new, Nat.le_refl _⟩
    have HN200 := Lib.hid h2
    clear hW hL0 hk h2
    unfold ptrV
    dsimp only
    go_wp2_with fail
    go_loopw [5, 6, 7] (fun v5 v6 v7 wr => ∃ k : Nat, k ≤ n ∧ v7 = .int .i64 k ∧ OnV w t0 k v5 v6 wr) (fun _ _ v7 _ => n - (intOf v7).toNat)
    case atStart => exact ⟨0, Nat.zero_le _, rfl, L1, none, 0, [], none, 0, [], D1, rfl, rfl, HST.out⟩
    case round =>
      obtain ⟨k, hk, rfl, L, A, c, held, A', c', given, D, rfl, rfl, hs⟩ := hrel
      have HS := Lib.hid hs
      clear hs
      have hk200 : (k : Int) ≤ 200 := by have := HN200.out; omega
      by_cases hlt : k < n
      · have hlt' : (k : Int) < (n : Int) := by omega
        obtain ⟨y, hy⟩ : ∃ y, l.getD k 0 = y := ⟨_, rfl⟩
        have hyr : -9223372036854775808 ≤ y ∧ y ≤ 9223372036854775807 := by
          rw [← hy, List.getD_eq_getElem?_getD, List.getElem?_eq_getElem (by have := HF.out.1; omega)]
          exact HLR.out _ (List.getElem_mem _)
        obtain ⟨gl, ol, rfl, hgl, hcl⟩ := (HF.out.keep HS.out.mem.kp (fun _ _ _ q => q)).2 (by omega)
        have cy := hcl k hlt
        rw [hy] at cy
        obtain ⟨y0, y1⟩ := hyr
        clear hgl hcl hy
        rcases Int.decEq (bits BinOp.and IntKind.i64 y 1) 0 with hb0 | hb0
        · obtain ⟨b, hb⟩ : ∃ b, bits BinOp.and IntKind.i64 y 1 = b := ⟨_, rfl⟩
          rw [hb] at hb0
          have hbz : (b == 0) = false := beq_false_of_ne hb0
          clear hb0
          rcases Nat.eq_zero_or_pos held.length with hh | hh
          · have hlz : ((held.length : Int) == 0) = true := by rw [beq_iff_eq]; omega
            clear hh
            go_wp2_with fail
            rcases List.eq_nil_or_concat given with rfl | ⟨g, m, hgm⟩
            · have hDl := HS.out.len
              have htk := HS.out.pl.take_nil (by omega)
              have hm2 : 2 ≤ (D.length : Int) + 1 := by have := HS.out.pl.cnt; omega
              obtain ⟨e1, p1, hni⟩ := htk
              have hT := take_w HS.out.wr_
              rw [e1] at hT
              have hcl : (((D ++ [zeros 256]).length : Nat) : Int) = (D.length : Int) + 1 := by simp
              have hlen2 : (D ++ [zeros 256]).length ≤ k + 1 + 1 := by simp; omega
              have HLB : Hid (held.length + 1 < 4096) := Lib.hid (by have := HS.out.pl.cnt; omega)
              have hmx : (D.length : Int) + 1 ≤ 4096 := by omega
              obtain ⟨D2, hD2⟩ : ∃ D2, D ++ [zeros 256] = D2 := ⟨_, rfl⟩
              obtain ⟨m, hm⟩ : ∃ m, (D.length : Int) + 1 = m := ⟨_, rfl⟩
              rw [hD2] at hT p1 hcl hlen2
              rw [hm] at hT p1 hni hcl hm2 hmx
              have HT := Lib.hid hT
              have HP := Lib.hid p1
              have HNI := Lib.hid hni
              have HCL := Lib.hid hcl
              have HL2 := Lib.hid hlen2
              clear hT p1 hni hcl hlen2 hDl e1 hD2 hm
              refine HT.out.mono ?_
              rintro e w2 ⟨rfl, L2, h2, g2⟩
              have HM2 := Lib.hid (HS.out.mem.gw g2 h2.lok)
              have HW2 := Lib.hid h2
              clear h2 g2
              dsimp only
              go_wp2_with (go_at_call 16; refine (show Calls _ _ #[ptrV t0] _ _ from count_w HW2.out).mono ?_; rw [HCL.out]; rintro e w3 ⟨rfl, hk3⟩; have HM3 := Lib.hid (HM2.out.nob hk3); have HW3 := Lib.hid (HW2.out.keep hk3); clear hk3)
              go_loopw [10] (fun v10 wq => ∃ j : Nat, j ≤ held.length ∧ v10 = .int .i64 j ∧ wq = w3) (fun v10 _ => held.length - (intOf v10).toNat)
              case atStart => exact ⟨0, Nat.zero_le _, rfl, rfl⟩
              case round =>
                obtain ⟨j, hj, rfl, rfl⟩ := hrel
                by_cases hjl : j < held.length
                · have hjl' : (j : Int) < (held.length : Int) := by omega
                  have hj9 : (j : Int) < 4096 := by have := HLB.out; omega
                  obtain ⟨gA, eA, _, _⟩ := own_at HM3.out.h1.own (by omega)
                  have hcj : wr.cell? ⟨gA, j, none⟩ = some (.int .i64 (held.getD j 0)) := by
                    have hq := HM3.out.h1.own
                    rw [eA] at hq
                    rw [hq.cellAt j (by omega), List.getElem?_map, List.getElem?_eq_getElem hjl, List.getD_eq_getElem?_getD, List.getElem?_eq_getElem hjl]
                    rfl
                  have hne : (held.getD j 0 == m) = false := beq_false_of_ne (fun e => HNI.out (by rw [← e, List.getD_eq_getElem?_getD, List.getElem?_eq_getElem hjl]; exact List.getElem_mem _))
                  generalize held.getD j 0 = x at hcj hne
                  subst eA
                  go_wp2_with fail
                  exact ⟨⟨j + 1, by omega, by push_cast; rfl, by first | rfl | trivial⟩, by simp [intOf]; omega⟩
                · obtain rfl : j = held.length := by omega
                  clear hjl hj
                  go_wp2_with (first
                    | (go_at_call 16; refine (show Calls _ _ #[ptrV t0] _ _ from count_w HW3.out).mono ?_; rw [HCL.out]; rintro e w4 ⟨rfl, hk4⟩; have HM4 := Lib.hid (HM3.out.nob hk4); have HW4 := Lib.hid (HW3.out.keep hk4); clear hk4)
                    | (at_builtin; refine wpList_append_ownB rfl _ _ 22 rfl w.heap.size 3 j0 _ 1 8 Tryz.underlying22 HJ0.out HY0.out HY1.out HY2.out rfl (by omega) _ held.length _ rfl (HM4.out.h1.own.alloc _) ⟨w4.heap.size, 0, none⟩ 1 1 [.int .i64 m] rfl rfl (cell_one_new _ _ _) (by simp [Value.oneCell']) (by have := HLB.out; unfold maxLen; omega) (by have := HLB.out; omega) (by have := HM4.out.kp.size; simp; omega) ?_; intro v6 w6 hown6 hgr6 hb6; obtain ⟨A6, c6, rfl, hm6, hkr⟩ := (HM4.out.nob ((Kp.refl NoB w4).alloc (.cells #[.int .i64 m] 3))).app hown6 hgr6 hb6; have HM6 := Lib.hid hm6; have HK6 := Lib.hid hkr; clear hown6 hgr6 hb6 hm6 hkr))
                  refine ⟨⟨k + 1, by omega, by push_cast; rfl, L2, A6, c6, held ++ [m], A', c', [], D2, by simp, rfl, ?_, HM6.out, HP.out, HL2.out⟩, by simp [intOf]; omega⟩
                  exact (HW4.out.keep ((Kp.refl NoB w4).alloc (.cells #[.int .i64 m] 3))).row (HM4.out.nob ((Kp.refl NoB w4).alloc (.cells #[.int .i64 m] 3))).h1 HK6.out
            · rw [List.concat_eq_append] at hgm
              subst hgm
              have hDl := HS.out.len
              have htk := HS.out.pl.take_cons
              obtain ⟨D2, e1, p1, hlD, hni, hm2, hmD⟩ := htk
              have hT := take_w HS.out.wr_
              rw [e1] at hT
              have hcl : ((D2.length : Nat) : Int) = (D.length : Int) := by rw [hlD]
              have hlen2 : D2.length ≤ k + 1 + 1 := by omega
              have HLB : Hid (held.length + 1 < 4096) := Lib.hid (by have := HS.out.pl.cnt; have := HS.out.len; omega)
              have hmx : m ≤ 4096 := by omega
              have hgl : (g ++ [m]).length = g.length + 1 := by simp
              rw [hgl]
              have hg9 : (g.length : Int) < 4096 := by have := HS.out.pl.cnt; rw [hgl] at this; omega
              obtain ⟨dl, hdl⟩ : ∃ dl, (D.length : Int) = dl := ⟨_, rfl⟩
              rw [hdl] at hcl hmD
              have hmD2 : ¬ dl < m := by omega
              have HT := Lib.hid hT
              have HP := Lib.hid p1
              have HNI := Lib.hid hni
              have HCL := Lib.hid hcl
              have HL2 := Lib.hid hlen2
              have HGL := Lib.hid hgl
              clear hT p1 hni hcl hlen2 hDl e1 hlD hdl hgl
              refine HT.out.mono ?_
              rintro e w2 ⟨rfl, L2, h2, g2⟩
              have HM2 := Lib.hid (HS.out.mem.gw g2 h2.lok)
              have HW2 := Lib.hid h2
              clear h2 g2
              dsimp only
              go_wp2_with (go_at_call 16; refine (show Calls _ _ #[ptrV t0] _ _ from count_w HW2.out).mono ?_; rw [HCL.out]; rintro e w3 ⟨rfl, hk3⟩; have HM3 := Lib.hid (HM2.out.nob hk3); have HW3 := Lib.hid (HW2.out.keep hk3); clear hk3)
              go_loopw [10] (fun v10 wq => ∃ j : Nat, j ≤ held.length ∧ v10 = .int .i64 j ∧ wq = w3) (fun v10 _ => held.length - (intOf v10).toNat)
              case atStart => exact ⟨0, Nat.zero_le _, rfl, rfl⟩
              case round =>
                obtain ⟨j, hj, rfl, rfl⟩ := hrel
                by_cases hjl : j < held.length
                · have hjl' : (j : Int) < (held.length : Int) := by omega
                  have hj9 : (j : Int) < 4096 := by have := HLB.out; omega
                  obtain ⟨gA, eA, _, _⟩ := own_at HM3.out.h1.own (by omega)
                  have hcj : wr.cell? ⟨gA, j, none⟩ = some (.int .i64 (held.getD j 0)) := by
                    have hq := HM3.out.h1.own
                    rw [eA] at hq
                    rw [hq.cellAt j (by omega), List.getElem?_map, List.getElem?_eq_getElem hjl, List.getD_eq_getElem?_getD, List.getElem?_eq_getElem hjl]
                    rfl
                  have hne : (held.getD j 0 == m) = false := beq_false_of_ne (fun e => HNI.out (by rw [← e, List.getD_eq_getElem?_getD, List.getElem?_eq_getElem hjl]; exact List.getElem_mem _))
                  generalize held.getD j 0 = x at hcj hne
                  subst eA
                  go_wp2_with fail
                  exact ⟨⟨j + 1, by omega, by push_cast; rfl, by first | rfl | trivial⟩, by simp [intOf]; omega⟩
                · obtain rfl : j = held.length := by omega
                  clear hjl hj
                  have hog := HM3.out.h2.own
                  rw [HGL.out] at hog
                  obtain ⟨gB, rfl, _, _⟩ := own_at hog (by omega)
                  have hcB : wr.cell? ⟨gB, g.length, none⟩ = some (.int .i64 m) := by
                    rw [hog.cellAt g.length (by omega)]
                    simp
                  have hcap : g.length + 1 ≤ c' := by
                    rcases hog.2 with ⟨q, _⟩ | ⟨g9, c9, cur, hv, _, _, hle, _⟩
                    · cases q
                    · injection hv with _ _ q3
                      omega
                  have HMC := Lib.hid (HM3.out.swap.cut (m := g.length) (by rw [HGL.out]; omega)).swap
                  rw [List.take_left' rfl] at HMC
                  clear hog
                  go_wp2_with (first
                    | (at_builtin; refine wpList_append_ownB rfl _ _ 22 rfl w.heap.size 3 j0 _ 1 8 Tryz.underlying22 HJ0.out HY0.out HY1.out HY2.out rfl (by omega) _ held.length _ rfl (HMC.out.h1.own.alloc _) ⟨wr.heap.size, 0, none⟩ 1 1 [.int .i64 m] rfl rfl (cell_one_new _ _ _) (by simp [Value.oneCell']) (by have := HLB.out; unfold maxLen; omega) (by have := HLB.out; omega) (by have := HMC.out.kp.size; simp; omega) ?_; intro v6 w6 hown6 hgr6 hb6; obtain ⟨A6, c6, rfl, hm6, hkr⟩ := (HMC.out.nob ((Kp.refl NoB wr).alloc (.cells #[.int .i64 m] 3))).app hown6 hgr6 hb6; have HM6 := Lib.hid hm6; have HK6 := Lib.hid hkr; clear hown6 hgr6 hb6 hm6 hkr))
                  refine ⟨⟨k + 1, by omega, by push_cast; rfl, L2, A6, c6, held ++ [m], some ⟨gB, 0, none⟩, c', g, D2, by simp, rfl, ?_, HM6.out, HP.out, HL2.out⟩, by simp [intOf]; omega⟩
                  exact (HW3.out.keep ((Kp.refl NoB wr).alloc (.cells #[.int .i64 m] 3))).row (HMC.out.nob ((Kp.refl NoB wr).alloc (.cells #[.int .i64 m] 3))).h1 HK6.out
          · have hlz : ((held.length : Int) == 0) = false := beq_false_of_ne (by omega)
            obtain ⟨p, hp⟩ : ∃ p, held.length = p + 1 := ⟨held.length - 1, by omega⟩
            have hp9 : (p : Int) < 4096 := by have := HS.out.pl.cnt; have := HS.out.len; omega
            have hg9 : (given.length : Int) < 4096 := by have := HS.out.pl.cnt; have := HS.out.len; omega
            have hrg := and_rng (y / 2)
            have h0t := Int.tmod_nonneg ((held.length : Int)) hrg.1
            have h1t : (bits BinOp.and IntKind.i64 (y / 2) 1023).tmod (held.length : Int) < (held.length : Int) := Int.tmod_lt_of_pos _ (by omega)
            obtain ⟨i, hi⟩ := Int.eq_ofNat_of_zero_le h0t
            rw [hi] at h1t
            have hil : i < held.length := by omega
            rw [hp] at hi h1t
            have hmem := HS.out.mem.h1.own
            obtain ⟨gA, rfl, _, _⟩ := own_at hmem (by omega)
            have hci : wr.cell? ⟨gA, i, none⟩ = some (.int .i64 (held.getD i 0)) := by
              rw [hmem.cellAt i (by omega), List.getElem?_map, List.getElem?_eq_getElem hil, List.getD_eq_getElem?_getD, List.getElem?_eq_getElem hil]
              rfl
            obtain ⟨D2, e1, p1, hlD⟩ := HS.out.pl.give hil
            have hT := give_w HS.out.wr_ (held.getD i 0)
            rw [e1] at hT
            have HT := Lib.hid hT
            have HP := Lib.hid p1
            have HL2 : Hid (D2.length ≤ k + 1 + 1) := Lib.hid (by have := HS.out.len; omega)
            have HLB : Hid (given.length + 1 < 4096) := Lib.hid (by have := HS.out.pl.cnt; have := HS.out.len; omega)
            have hrm : (bits BinOp.and IntKind.i64 (y / 2) 1023).tmod ((p : Int) + 1) = (i : Int) := by have := hi; push_cast at this; exact this
            have h1p : (i : Int) < (p : Int) + 1 := by have := h1t; push_cast at this; exact this
            have HPP := Lib.hid hp
            have HIL := Lib.hid hil
            rw [hp]
            obtain ⟨m, hm⟩ : ∃ m, held.getD i 0 = m := ⟨_, rfl⟩
            rw [hm] at hci HT HP
            have HMM := Lib.hid hm
            clear hp hrg h0t hi h1t hil hmem e1 p1 hlD hT hm
            go_wp2_with fail
            refine HT.out.mono ?_
            rintro e w2 ⟨rfl, L2, h2, g2⟩
            have hm2 := HS.out.mem.gw g2 h2.lok
            have hog := hm2.h1.own
            have hcp : w2.cell? ⟨gA, p, none⟩ = some (.int .i64 (held.getD (held.length - 1) 0)) := by
              have hq := HPP.out
              rw [hog.cellAt p (by omega), List.getElem?_map, List.getElem?_eq_getElem (by omega), List.getD_eq_getElem?_getD, List.getElem?_eq_getElem (by omega)]
              simp [hq]
            have hci2 : w2.cell? ⟨gA, i, none⟩ = some (.int .i64 m) := by
              have hq := HIL.out
              rw [hog.cellAt i (by omega), List.getElem?_map, List.getElem?_eq_getElem hq, ← HMM.out, List.getD_eq_getElem?_getD, List.getElem?_eq_getElem hq]
              rfl
            have hfz : w2.frozen? ⟨gA, i, none⟩ = false := by
              obtain ⟨cs, q⟩ := own_type hog rfl
              exact frozen_of_row w2 gA i cs _ q
            have hcap : p + 1 ≤ c := by
              have hq := HPP.out
              rcases hog.2 with ⟨q, _⟩ | ⟨g9, c9, cur, hv, _, _, hle, _⟩
              · cases q
              · injection hv with _ _ q3
                omega
            obtain ⟨x, hx⟩ : ∃ x, held.getD (held.length - 1) 0 = x := ⟨_, rfl⟩
            rw [hx] at hcp HP
            have hms := (hm2.set i x).cut (m := p) (by rw [List.length_set]; have := HPP.out; omega)
            have hpe : held.length - 1 = p := by have := HPP.out; omega
            rw [hpe] at HP
            have hkx : Kp (OnB gA) w2 (w2.setCell ⟨gA, i, none⟩ (.int .i64 x)) := (Kp.refl (OnB gA) w2).setCell (p := ⟨gA, i, none⟩) (.inr rfl) _
            have HMS := Lib.hid hms.swap
            have HWS := Lib.hid (h2.row hm2.h1 (hkx.mono (fun b _ q => by unfold OnB at q; rw [q]; rfl)))
            clear h2 g2 hm2 hog hx hms hpe hkx
            dsimp only
            obtain ⟨w3, hw3⟩ : ∃ w3, w2.setCell ⟨gA, i, none⟩ (.int .i64 x) = w3 := ⟨_, rfl⟩
            rw [hw3] at HMS HWS
            have HW3 := Lib.hid hw3
            clear hw3
            go_upto_region 31 with fail
            rw [HW3.out]
            clear hcp hci2 hfz hci cy
            go_wp2_with (first
              | (at_builtin; refine wpList_append_ownB rfl _ _ 22 rfl w.heap.size 3 j0 _ 1 8 Tryz.underlying22 HJ0.out HY0.out HY1.out HY2.out rfl (by omega) _ given.length _ rfl (HMS.out.h1.own.alloc _) ⟨w3.heap.size, 0, none⟩ 1 1 [.int .i64 m] rfl rfl (cell_one_new _ _ _) (by simp [Value.oneCell']) (by have := HLB.out; unfold maxLen; omega) (by have := HLB.out; omega) (by have := HMS.out.kp.size; simp; omega) ?_; intro v6 w6 hown6 hgr6 hb6; obtain ⟨A6, c6, rfl, hm6, hkr⟩ := (HMS.out.nob ((Kp.refl NoB w3).alloc (.cells #[.int .i64 m] 3))).app hown6 hgr6 hb6; have HM6 := Lib.hid hm6; have HK6 := Lib.hid hkr; clear hown6 hgr6 hb6 hm6 hkr))
            have hlt2 : ((held.set i x).take p).length = p := by rw [List.length_take, List.length_set]; have := HPP.out; omega
            refine ⟨⟨k + 1, by omega, by push_cast; rfl, L2, some ⟨gA, 0, none⟩, c, (held.set i x).take p, A6, c6, given ++ [m], D2, by rw [hlt2], by simp, ?_, HM6.out.swap, HP.out, HL2.out⟩, by simp [intOf]; omega⟩
            exact (HWS.out.keep ((Kp.refl NoB w3).alloc (.cells #[.int .i64 m] 3))).row (HMS.out.nob ((Kp.refl NoB w3).alloc (.cells #[.int .i64 m] 3))).h1 HK6.out
        · go_wp2_with fail
          rcases List.eq_nil_or_concat given with rfl | ⟨g, m, hgm⟩
          · have hDl := HS.out.len
            have htk := HS.out.pl.take_nil (by omega)
            have hm2 : 2 ≤ (D.length : Int) + 1 := by have := HS.out.pl.cnt; omega
            obtain ⟨e1, p1, hni⟩ := htk
            have hT := take_w HS.out.wr_
            rw [e1] at hT
            have hcl : (((D ++ [zeros 256]).length : Nat) : Int) = (D.length : Int) + 1 := by simp
            have hlen2 : (D ++ [zeros 256]).length ≤ k + 1 + 1 := by simp; omega
            have HLB : Hid (held.length + 1 < 4096) := Lib.hid (by have := HS.out.pl.cnt; omega)
            have hmx : (D.length : Int) + 1 ≤ 4096 := by omega
            obtain ⟨D2, hD2⟩ : ∃ D2, D ++ [zeros 256] = D2 := ⟨_, rfl⟩
            obtain ⟨m, hm⟩ : ∃ m, (D.length : Int) + 1 = m := ⟨_, rfl⟩
            rw [hD2] at hT p1 hcl hlen2
            rw [hm] at hT p1 hni hcl hm2 hmx
            have HT := Lib.hid hT
            have HP := Lib.hid p1
            have HNI := Lib.hid hni
            have HCL := Lib.hid hcl
            have HL2 := Lib.hid hlen2
            clear hT p1 hni hcl hlen2 hDl e1 hD2 hm
            refine HT.out.mono ?_
            rintro e w2 ⟨rfl, L2, h2, g2⟩
            have HM2 := Lib.hid (HS.out.mem.gw g2 h2.lok)
            have HW2 := Lib.hid h2
            clear h2 g2
            dsimp only
            go_wp2_with (go_at_call 16; refine (show Calls _ _ #[ptrV t0] _ _ from count_w HW2.out).mono ?_; rw [HCL.out]; rintro e w3 ⟨rfl, hk3⟩; have HM3 := Lib.hid (HM2.out.nob hk3); have HW3 := Lib.hid (HW2.out.keep hk3); clear hk3)
            go_loopw [10] (fun v10 wq => ∃ j : Nat, j ≤ held.length ∧ v10 = .int .i64 j ∧ wq = w3) (fun v10 _ => held.length - (intOf v10).toNat)
            case atStart => exact ⟨0, Nat.zero_le _, rfl, rfl⟩
            case round =>
              obtain ⟨j, hj, rfl, rfl⟩ := hrel
              by_cases hjl : j < held.length
              · have hjl' : (j : Int) < (held.length : Int) := by omega
                have hj9 : (j : Int) < 4096 := by have := HLB.out; omega
                obtain ⟨gA, eA, _, _⟩ := own_at HM3.out.h1.own (by omega)
                have hcj : wr.cell? ⟨gA, j, none⟩ = some (.int .i64 (held.getD j 0)) := by
                  have hq := HM3.out.h1.own
                  rw [eA] at hq
                  rw [hq.cellAt j (by omega), List.getElem?_map, List.getElem?_eq_getElem hjl, List.getD_eq_getElem?_getD, List.getElem?_eq_getElem hjl]
                  rfl
                have hne : (held.getD j 0 == m) = false := beq_false_of_ne (fun e => HNI.out (by rw [← e, List.getD_eq_getElem?_getD, List.getElem?_eq_getElem hjl]; exact List.getElem_mem _))
                generalize held.getD j 0 = x at hcj hne
                subst eA
                go_wp2_with fail
                exact ⟨⟨j + 1, by omega, by push_cast; rfl, by first | rfl | trivial⟩, by simp [intOf]; omega⟩
              · obtain rfl : j = held.length := by omega
                clear hjl hj
                go_wp2_with (first
                  | (go_at_call 16; refine (show Calls _ _ #[ptrV t0] _ _ from count_w HW3.out).mono ?_; rw [HCL.out]; rintro e w4 ⟨rfl, hk4⟩; have HM4 := Lib.hid (HM3.out.nob hk4); have HW4 := Lib.hid (HW3.out.keep hk4); clear hk4)
                  | (at_builtin; refine wpList_append_ownB rfl _ _ 22 rfl w.heap.size 3 j0 _ 1 8 Tryz.underlying22 HJ0.out HY0.out HY1.out HY2.out rfl (by omega) _ held.length _ rfl (HM4.out.h1.own.alloc _) ⟨w4.heap.size, 0, none⟩ 1 1 [.int .i64 m] rfl rfl (cell_one_new _ _ _) (by simp [Value.oneCell']) (by have := HLB.out; unfold maxLen; omega) (by have := HLB.out; omega) (by have := HM4.out.kp.size; simp; omega) ?_; intro v6 w6 hown6 hgr6 hb6; obtain ⟨A6, c6, rfl, hm6, hkr⟩ := (HM4.out.nob ((Kp.refl NoB w4).alloc (.cells #[.int .i64 m] 3))).app hown6 hgr6 hb6; have HM6 := Lib.hid hm6; have HK6 := Lib.hid hkr; clear hown6 hgr6 hb6 hm6 hkr))
                refine ⟨⟨k + 1, by omega, by push_cast; rfl, L2, A6, c6, held ++ [m], A', c', [], D2, by simp, rfl, ?_, HM6.out, HP.out, HL2.out⟩, by simp [intOf]; omega⟩
                exact (HW4.out.keep ((Kp.refl NoB w4).alloc (.cells #[.int .i64 m] 3))).row (HM4.out.nob ((Kp.refl NoB w4).alloc (.cells #[.int .i64 m] 3))).h1 HK6.out
          · rw [List.concat_eq_append] at hgm
            subst hgm
            have hDl := HS.out.len
            have htk := HS.out.pl.take_cons
            obtain ⟨D2, e1, p1, hlD, hni, hm2, hmD⟩ := htk
            have hT := take_w HS.out.wr_
            rw [e1] at hT
            have hcl : ((D2.length : Nat) : Int) = (D.length : Int) := by rw [hlD]
            have hlen2 : D2.length ≤ k + 1 + 1 := by omega
            have HLB : Hid (held.length + 1 < 4096) := Lib.hid (by have := HS.out.pl.cnt; have := HS.out.len; omega)
            have hmx : m ≤ 4096 := by omega
            have hgl : (g ++ [m]).length = g.length + 1 := by simp
            rw [hgl]
            have hg9 : (g.length : Int) < 4096 := by have := HS.out.pl.cnt; rw [hgl] at this; omega
            obtain ⟨dl, hdl⟩ : ∃ dl, (D.length : Int) = dl := ⟨_, rfl⟩
            rw [hdl] at hcl hmD
            have hmD2 : ¬ dl < m := by omega
            have HT := Lib.hid hT
            have HP := Lib.hid p1
            have HNI := Lib.hid hni
            have HCL := Lib.hid hcl
            have HL2 := Lib.hid hlen2
            have HGL := Lib.hid hgl
            clear hT p1 hni hcl hlen2 hDl e1 hlD hdl hgl
            refine HT.out.mono ?_
            rintro e w2 ⟨rfl, L2, h2, g2⟩
            have HM2 := Lib.hid (HS.out.mem.gw g2 h2.lok)
            have HW2 := Lib.hid h2
            clear h2 g2
            dsimp only
            go_wp2_with (go_at_call 16; refine (show Calls _ _ #[ptrV t0] _ _ from count_w HW2.out).mono ?_; rw [HCL.out]; rintro e w3 ⟨rfl, hk3⟩; have HM3 := Lib.hid (HM2.out.nob hk3); have HW3 := Lib.hid (HW2.out.keep hk3); clear hk3)
            go_loopw [10] (fun v10 wq => ∃ j : Nat, j ≤ held.length ∧ v10 = .int .i64 j ∧ wq = w3) (fun v10 _ => held.length - (intOf v10).toNat)
            case atStart => exact ⟨0, Nat.zero_le _, rfl, rfl⟩
            case round =>
              obtain ⟨j, hj, rfl, rfl⟩ := hrel
              by_cases hjl : j < held.length
              · have hjl' : (j : Int) < (held.length : Int) := by omega
                have hj9 : (j : Int) < 4096 := by have := HLB.out; omega
                obtain ⟨gA, eA, _, _⟩ := own_at HM3.out.h1.own (by omega)
                have hcj : wr.cell? ⟨gA, j, none⟩ = some (.int .i64 (held.getD j 0)) := by
                  have hq := HM3.out.h1.own
                  rw [eA] at hq
                  rw [hq.cellAt j (by omega), List.getElem?_map, List.getElem?_eq_getElem hjl, List.getD_eq_getElem?_getD, List.getElem?_eq_getElem hjl]
                  rfl
                have hne : (held.getD j 0 == m) = false := beq_false_of_ne (fun e => HNI.out (by rw [← e, List.getD_eq_getElem?_getD, List.getElem?_eq_getElem hjl]; exact List.getElem_mem _))
                generalize held.getD j 0 = x at hcj hne
                subst eA
                go_wp2_with fail
                exact ⟨⟨j + 1, by omega, by push_cast; rfl, by first | rfl | trivial⟩, by simp [intOf]; omega⟩
              · obtain rfl : j = held.length := by omega
                clear hjl hj
                have hog := HM3.out.h2.own
                rw [HGL.out] at hog
                obtain ⟨gB, rfl, _, _⟩ := own_at hog (by omega)
                have hcB : wr.cell? ⟨gB, g.length, none⟩ = some (.int .i64 m) := by
                  rw [hog.cellAt g.length (by omega)]
                  simp
                have hcap : g.length + 1 ≤ c' := by
                  rcases hog.2 with ⟨q, _⟩ | ⟨g9, c9, cur, hv, _, _, hle, _⟩
                  · cases q
                  · injection hv with _ _ q3
                    omega
                have HMC := Lib.hid (HM3.out.swap.cut (m := g.length) (by rw [HGL.out]; omega)).swap
                rw [List.take_left' rfl] at HMC
                clear hog
                go_wp2_with (first
                  | (at_builtin; refine wpList_append_ownB rfl _ _ 22 rfl w.heap.size 3 j0 _ 1 8 Tryz.underlying22 HJ0.out HY0.out HY1.out HY2.out rfl (by omega) _ held.length _ rfl (HMC.out.h1.own.alloc _) ⟨wr.heap.size, 0, none⟩ 1 1 [.int .i64 m] rfl rfl (cell_one_new _ _ _) (by simp [Value.oneCell']) (by have := HLB.out; unfold maxLen; omega) (by have := HLB.out; omega) (by have := HMC.out.kp.size; simp; omega) ?_; intro v6 w6 hown6 hgr6 hb6; obtain ⟨A6, c6, rfl, hm6, hkr⟩ := (HMC.out.nob ((Kp.refl NoB wr).alloc (.cells #[.int .i64 m] 3))).app hown6 hgr6 hb6; have HM6 := Lib.hid hm6; have HK6 := Lib.hid hkr; clear hown6 hgr6 hb6 hm6 hkr))
                refine ⟨⟨k + 1, by omega, by push_cast; rfl, L2, A6, c6, held ++ [m], some ⟨gB, 0, none⟩, c', g, D2, by simp, rfl, ?_, HM6.out, HP.out, HL2.out⟩, by simp [intOf]; omega⟩
                exact (HW3.out.keep ((Kp.refl NoB wr).alloc (.cells #[.int .i64 m] 3))).row (HMC.out.nob ((Kp.refl NoB wr).alloc (.cells #[.int .i64 m] 3))).h1 HK6.out
      · obtain rfl : k = n := by omega
        have hcnt := HS.out.pl.cnt
        have hlen := HS.out.len
        have hE : (held.length : Int) + (given.length : Int) = (D.length : Int) - 1 := by omega
        have b4 : 1 ≤ (D.length : Int) := by omega
        have b1 : (held.length : Int) < 4096 := by omega
        have b2 : (given.length : Int) < 4096 := by omega
        have b3 : (D.length : Int) < 4096 := by omega
        have HFR := Lib.hid (free_w HS.out.wr_ HS.out.pl.rep)
        have HCN := Lib.hid (fun W (kk : Kp NoB wr W) => count_w (HS.out.wr_.keep kk))
        have HLR2 : Hid (given.reverse.length = given.length) := Lib.hid List.length_reverse
        generalize (D.length : Int) = dn at hE b3 b4 HCN
        clear hcnt hlen hlt hk
        go_wp2_with fail
        refine HFR.out.mono ?_
        rintro e w2 ⟨A7, c7, rfl, _, hk2⟩
        have HK2 := Lib.hid hk2
        rw [HLR2.out]
        clear hk2
        dsimp only
        go_wp2_with (first
          | (go_at_call 16; refine (show Calls _ _ #[ptrV t0] _ _ from HCN.out _ HK2.out).mono ?_; rintro e w3 ⟨rfl, hk3⟩; have HK3 := Lib.hid (HK2.out.trans hk3 (fun _ _ q => q)); clear hk3)
          | (go_at_call 13; refine (awake10_ok _).mono ?_; rintro e w4 ⟨rfl, hk4⟩; have HK4 := Lib.hid (HK3.out.trans hk4 (fun _ _ q => q)); clear hk4))
        go_ret
        exact ⟨rfl, HS.out.mem.kp.trans HK4.out (fun _ _ q => q)⟩
end Go.Proofs.YtoeldmkbmnkhkaaGreat
/- DiskSteps in plain Lean: writes to one file; no condition. -/
namespace Go.Proofs.YtoeldmkbmnkhkaaGreat
open Go

/-- the disk's state behind i writes, a crash told at c -/
structure StI (c : Int) (i : Nat) (p : Pl) : Prop where
  down : p.down = decide (1 ≤ c ∧ c ≤ i)
  crash : p.crash = if 1 ≤ c ∧ (i : Int) < c then c - i else 0
  room : p.room = 200000
  len : (p.seen nmF).length ≤ 6095
  sum : p.sum = (p.seen nmF).length
  kept : p.kept nmF = [] ∧ p.ksum = 0
  nf : p.nf ≤ 2 * i
  pd : p.pd.length ≤ 200 * i
theorem put_len2 (l d : List Int) (a : Nat) (h : a + d.length ≤ l.length) : (Pl.put l a d).length = l.length := by unfold Pl.put; simp; omega
theorem length_props (p : Pl) (s : ByteArray) (n : Nat) :
    (p.length s n).seen = upd p.seen s (sizedF (p.seen s) n) ∧ (p.length s n).kept = p.kept ∧ (p.length s n).sum = p.sum - (p.seen s).length + n ∧ (p.length s n).ksum = p.ksum ∧ (p.length s n).nf = p.nf + 1 ∧ (p.length s n).pd.length ≤ p.pd.length + 1 ∧
    (p.length s n).room = p.room ∧ (p.length s n).steps = p.steps ∧ (p.length s n).crash = p.crash ∧ (p.length s n).down = p.down ∧ (p.length s n).starts = p.starts := by
  unfold Pl.length
  split
  · rename_i h
    subst h
    refine ⟨by rw [sizedF_self, upd_self]; rfl, rfl, by simp only [Pl.at_]; omega, rfl, rfl, by simp [Pl.at_], rfl, rfl, rfl, rfl, rfl⟩
  · refine ⟨rfl, rfl, ?_, rfl, rfl, by simp [Pl.pend, Pl.setSeen, Pl.at_], rfl, rfl, rfl, rfl, rfl⟩
    simp only [Pl.pend, Pl.setSeen, Pl.at_, sizedF_len]
theorem sectors_lenD (s : ByteArray) (l : List Int) (a e : Nat) : (Pl.sectors s l a e).length = (e + 63) / 64 - a / 64 := by unfold Pl.sectors; simp
/-- a file behind a write -/
def wrote (l : List Int) (a : Nat) (d : List Int) : List Int := Pl.put (if l.length < a + d.length then sizedF l (a + d.length) else l) a d
theorem wrote_len (l : List Int) (a : Nat) (d : List Int) : (wrote l a d).length = max l.length (a + d.length) := by
  unfold wrote
  split
  · rw [put_len2 _ _ _ (by rw [sizedF_len]; omega), sizedF_len]; omega
  · rw [put_len2 _ _ _ (by omega)]; omega
theorem write1_props (p : Pl) (s : ByteArray) (a : Nat) (d : List Int) :
    (p.write1 s a d).seen = upd p.seen s (wrote (p.seen s) a d) ∧ (p.write1 s a d).kept = p.kept ∧ (p.write1 s a d).sum = p.sum - (p.seen s).length + (max (p.seen s).length (a + d.length) : Nat) ∧ (p.write1 s a d).ksum = p.ksum ∧ (p.write1 s a d).nf ≤ p.nf + 2 ∧
    (p.write1 s a d).pd.length ≤ p.pd.length + 2 + (a + d.length + 63) / 64 ∧ (p.write1 s a d).room = p.room ∧ (p.write1 s a d).steps = p.step.steps ∧ (p.write1 s a d).crash = p.step.crash ∧ (p.write1 s a d).down = p.step.down ∧ (p.write1 s a d).starts = p.starts := by
  by_cases h : (p.seen s).length < a + d.length
  · obtain ⟨h1, h2, h3, h4, h5, h6, h7, h8, h9, h10, h11⟩ := length_props p s (a + d.length)
    have hs : (p.length s (a + d.length)).seen s = sizedF (p.seen s) (a + d.length) := by rw [h1, upd_same]
    have hw : Pl.put (sizedF (p.seen s) (a + d.length)) a d = wrote (p.seen s) a d := by unfold wrote; rw [if_pos h]
    have hl := wrote_len (p.seen s) a d
    refine ⟨?_, ?_, ?_, ?_, ?_, ?_, ?_, ?_, ?_, ?_, ?_⟩ <;> simp only [Pl.write1, if_pos h, Pl.step, Pl.pend, Pl.setSeen, Pl.at_, hs, hw]
    · rw [h1, upd_upd]
    · exact h2
    · rw [h3, sizedF_len, hl]; omega
    · exact h4
    · omega
    · rw [List.length_append, sectors_lenD]; omega
    · exact h7
    · rw [h8]
    · rw [h9]
    · rw [h9, h10]
    · exact h11
  · have hw : Pl.put (p.seen s) a d = wrote (p.seen s) a d := by unfold wrote; rw [if_neg h]
    have hl := wrote_len (p.seen s) a d
    refine ⟨?_, ?_, ?_, ?_, ?_, ?_, ?_, ?_, ?_, ?_, ?_⟩ <;> simp only [Pl.write1, if_neg h, Pl.step, Pl.pend, Pl.setSeen, Pl.at_, hw]
    · rw [hl]
    · omega
    · rw [List.length_append, sectors_lenD]; omega
theorem StI.write {c : Int} {i : Nat} {p : Pl} (h : StI c i p) (a : Int) (d : List Int) (ha : 0 ≤ a ∧ a ≤ 4095) (hd : d.length ≤ 2000) :
    p.writeE nmF a d = (if 1 ≤ c ∧ c ≤ (i : Int) + 1 then 7 else 0) ∧ StI c (i + 1) (p.write nmF a d) := by
  have hl := h.len
  by_cases hdn : 1 ≤ c ∧ c ≤ i
  · have hdown : p.down = true := by rw [h.down]; simpa using hdn
    refine ⟨by unfold Pl.writeE; rw [hdown, if_pos rfl, if_pos (by omega)], ?_⟩
    have e : p.write nmF a d = p := by unfold Pl.write; rw [if_pos (.inl hdown)]
    rw [e]
    exact { h with
      down := by rw [hdown]; symm; simp; omega
      crash := by rw [h.crash, if_neg (by omega), if_neg (by push_cast; omega)]
      nf := by have := h.nf; omega
      pd := by have := h.pd; omega }
  · have hdown : p.down = false := by rw [h.down]; simpa using hdn
    have hse : p.stepE = if 1 ≤ c ∧ c ≤ (i : Int) + 1 then 7 else 0 := by
      unfold Pl.stepE
      rw [h.crash]
      by_cases h1 : 1 ≤ c ∧ (i : Int) < c
      · rw [if_pos h1]
        by_cases h2 : c - i = 1
        · rw [if_pos h2, if_pos (by omega)]
        · rw [if_neg h2, if_neg (by omega)]
      · rw [if_neg h1, if_neg (by omega), if_neg (by omega)]
    have sc : p.step.crash = if 1 ≤ c ∧ ((i + 1 : Nat) : Int) < c then c - ((i + 1 : Nat) : Int) else 0 := by
      simp only [Pl.step, h.crash]
      by_cases h1 : 1 ≤ c ∧ (i : Int) < c
      · rw [if_pos h1, if_pos (by omega)]
        by_cases h2 : ((i + 1 : Nat) : Int) < c
        · rw [if_pos ⟨h1.1, h2⟩]; omega
        · rw [if_neg (by omega)]; omega
      · rw [if_neg h1, if_neg (by omega), if_neg (by omega)]
    have sd : p.step.down = decide (1 ≤ c ∧ c ≤ ((i + 1 : Nat) : Int)) := by
      simp only [Pl.step, h.crash, hdown]
      by_cases h1 : 1 ≤ c ∧ (i : Int) < c
      · rw [if_pos h1]
        by_cases h2 : c - i = 1
        · rw [if_pos h2]; symm; simp; omega
        · rw [if_neg h2]; symm; simp; omega
      · rw [if_neg h1, if_neg (by omega)]; symm; simp; omega
    by_cases hd0 : d = []
    · subst hd0
      refine ⟨?_, ?_⟩
      · unfold Pl.writeE
        rw [hdown, if_neg (by simp), if_neg (by omega), if_neg (by simp; omega), if_pos rfl, hse]
      · have e : p.write nmF a [] = p.step := by
          unfold Pl.write
          rw [if_neg (by simp [hdown]; omega), if_pos rfl]
        rw [e]
        exact
          { down := sd
            crash := sc
            room := h.room
            len := h.len
            sum := h.sum
            kept := h.kept
            nf := by have := h.nf; simp only [Pl.step]; omega
            pd := by have := h.pd; simp only [Pl.step]; omega }
    · have hfit : p.fits nmF (max (a + d.length) (p.seen nmF).length) = 0 := by
        unfold Pl.fits
        rw [if_neg (by omega), if_neg]
        rintro ⟨h1, h2⟩
        rw [h.sum, h.room, wrp_id (by omega)] at h2
        omega
      refine ⟨?_, ?_⟩
      · unfold Pl.writeE
        rw [hdown, if_neg (by simp), if_neg (by omega), if_neg (by omega), if_neg hd0, hfit, if_neg (by simp), hse]
      · have e : p.write nmF a d = p.write1 nmF a.toNat d := by
          unfold Pl.write
          rw [if_neg (by simp [hdown]; omega), if_neg hd0, hfit, if_neg (by simp)]
        rw [e]
        obtain ⟨h1, h2, h3, h4, h5, h6, h7, h8, h9, h10, h11⟩ := write1_props p nmF a.toNat d
        have hlen : ((p.write1 nmF a.toNat d).seen nmF).length = max (p.seen nmF).length (a.toNat + d.length) := by rw [h1, upd_same, wrote_len]
        exact
          { down := by rw [h10]; exact sd
            crash := by rw [h9]; exact sc
            room := by rw [h7]; exact h.room
            len := by rw [hlen]; omega
            sum := by rw [h3, hlen, h.sum]; omega
            kept := by rw [h2, h4]; exact h.kept
            nf := by have := h.nf; omega
            pd := by have := h.pd; omega }
/-- the last answers: a disk that is up and has no crash told -/
structure UpI (p : Pl) : Prop where
  down : p.down = false
  crash : p.crash = 0
  room : p.room = 200000
  len : (p.seen nmF).length ≤ 6095
  sum : p.sum = (p.seen nmF).length
  nf : p.nf ≤ 100000
  pd : p.pd.length ≤ 100000
theorem UpI.last {p : Pl} (h : UpI p) : p.writeE nmF 0 [120] = 0 ∧ (p.write nmF 0 [120]).syncE = 0 ∧ (p.write nmF 0 [120]).nf ≤ 100002 ∧ (p.write nmF 0 [120]).pd.length ≤ 100100 := by
  have hl := h.len
  have hse : p.stepE = 0 := by unfold Pl.stepE; rw [h.crash]; rfl
  have hfit : p.fits nmF (max (0 + (([120] : List Int).length : Int)) (p.seen nmF).length) = 0 := by
    unfold Pl.fits
    simp only [List.length_cons, List.length_nil]
    rw [if_neg (by omega), if_neg]
    rintro ⟨h1, h2⟩
    rw [h.sum, h.room, wrp_id (by omega)] at h2
    omega
  have e : p.write nmF 0 [120] = p.write1 nmF 0 [120] := by
    unfold Pl.write
    rw [if_neg (by simp [h.down]), if_neg (by simp), hfit, if_neg (by simp)]
    rfl
  obtain ⟨h1, h2, h3, h4, h5, h6, h7, h8, h9, h10, h11⟩ := write1_props p nmF 0 [120]
  refine ⟨?_, ?_, ?_, ?_⟩
  · unfold Pl.writeE
    rw [h.down, if_neg (by simp), if_neg (by omega), if_neg (by simp), if_neg (by simp), hfit, if_neg (by simp), hse]
  · rw [e]
    unfold Pl.syncE Pl.stepE
    rw [h10, h9]
    simp [Pl.step, h.crash, h.down]
  · rw [e]; have := h.nf; omega
  · rw [e]; have := h.pd; simp at h6; omega
theorem StI.up {c : Int} {i : Nat} {p : Pl} (h : StI c i p) (hi : i ≤ 20) (hc : ¬ (1 ≤ c ∧ c ≤ i)) : UpI (p.crashIn 0) where
  down := by show p.down = false; rw [h.down]; simpa using hc
  crash := rfl
  room := h.room
  len := h.len
  sum := h.sum
  nf := by have := h.nf; show p.nf ≤ _; omega
  pd := by have := h.pd; show p.pd.length ≤ _; omega
theorem StI.again {c : Int} {i : Nat} {p : Pl} (h : StI c i p) (hi : i ≤ 20) (hc : 1 ≤ c ∧ c ≤ i) : p.restartE = 0 ∧ UpI (p.restart []) := by
  have hd : p.down = true := by rw [h.down]; simpa using hc
  refine ⟨by unfold Pl.restartE; rw [hd]; rfl, ?_⟩
  have e : p.survive p.pd [] = p := by cases p.pd <;> rfl
  unfold Pl.restart
  rw [hd, if_pos rfl, e]
  exact
    { down := rfl
      crash := rfl
      room := h.room
      len := by show (p.kept nmF).length ≤ _; rw [h.kept.1]; simp
      sum := by show p.ksum = ((p.kept nmF).length : Nat); rw [h.kept.1, h.kept.2]; rfl
      nf := by have := h.nf; show p.nf ≤ _; omega
      pd := by simp }
end Go.Proofs.YtoeldmkbmnkhkaaGreat
/- The stand-in disk: the answers that every law asks at its end; no condition. -/
namespace Go.Proofs.YtoeldmkbmnkhkaaGreat
open Go.RowKit

theorem sz4 : nmF.size ≤ maxLen ∧ awX.size ≤ maxLen ∧ awY.size ≤ maxLen := by unfold maxLen; decide
end Go.Proofs.YtoeldmkbmnkhkaaGreat
/- DiskSteps: for every list of changes and every number the call returns true and leaves its arguments as they were; no condition. -/
namespace Go.Proofs.YtoeldmkbmnkhkaaGreat
open Go.RowKit

/-- a list of changes in memory: places and texts -/
def Fls (w : World) (A : Option Addr) (n : Nat) (L : List (Int × ByteArray)) : Prop :=
  L.length = n ∧ (∀ x ∈ L, x.2.size ≤ maxLen) ∧ (0 < n → ∃ g o, A = some ⟨g, o, none⟩ ∧ g < w.heap.size ∧ ∀ k (h : k < L.length), w.cell? ⟨g, o + k * 2, none⟩ = some (.int .i64 L[k].1) ∧ w.cell? ⟨g, o + k * 2 + 1, none⟩ = some (.string L[k].2))
theorem Fls.keep {w w' : World} {A : Option Addr} {n : Nat} {L : List (Int × ByteArray)} (h : Fls w A n L) (k : Kp NoB w w') : Fls w' A n L :=
  ⟨h.1, h.2.1, fun hn => by
    obtain ⟨g, o, e, hg, hc⟩ := h.2.2 hn
    exact ⟨g, o, e, Nat.lt_of_lt_of_le hg k.size, fun j hj => ⟨(k.cell hg (fun q => q)).trans (hc j hj).1, (k.cell hg (fun q => q)).trans (hc j hj).2⟩⟩⟩
end Go.Proofs.YtoeldmkbmnkhkaaGreat
/- How an argument that is a slice of structs is read; no condition. -/
namespace Go.Proofs.YtoeldmkbmnkhkaaGreat
open Go.ChangeShapes Go.WideShapes Go.Deep
section
variable {H : Type} {enc : TypeId × Value → H} {P : Program} {w : World} {base : Nat} {spare : Nat → Bool} {held : Bool}
end
end Go.Proofs.YtoeldmkbmnkhkaaGreat
/- How arguments that come in are read: numbers, texts, lists of texts, arrays of bytes; no condition. -/
namespace Go.Proofs.YtoeldmkbmnkhkaaGreat
open Go.ChangeShapes Go.WideShapes Go.ChangeAt Go.RowKit

section
variable {H : Type} {enc : TypeId × Value → H} {P : Program} {W : World} {spare : Nat → Bool} {held : Bool} {t e : TypeId} {d : DataW H} {p : List MemPlace}
theorem wf_i64 {n : Int} (h : (Lit.int .i64 n).wf = true) : -9223372036854775808 ≤ n ∧ n ≤ 9223372036854775807 := (Lit.wf_int_iff .i64 n).1 h
theorem trod_lt' {v : Value} (h : DataW.Trod enc P W 0 spare held t v d p) : ∀ x ∈ p, x.block < W.heap.size := by obtain ⟨m, hm⟩ := h; exact DataW.trod_lt m _ _ _ hm
end
end Go.Proofs.YtoeldmkbmnkhkaaGreat
/- How a list of changes that comes in is read; no condition. -/
namespace Go.Proofs.YtoeldmkbmnkhkaaGreat
open Go.ChangeShapes Go.WideShapes Go.ChangeAt Go.RowKit

end Go.Proofs.YtoeldmkbmnkhkaaGreat
/- How a list of numbers that comes in is read; no condition. -/
namespace Go.Proofs.YtoeldmkbmnkhkaaGreat
open Go.ChangeShapes Go.WideShapes Go.ChangeAt Go.RowKit Go.Deep

theorem one_cell : Tryz.prog.cellsOf 3 = 1 := by kernel_rfl
theorem open_nums {H : Type} {enc : TypeId × Value → H} {W : World} {spare : Nat → Bool} {held : Bool} {a0 : Option Addr} {len0 cap0 : Nat} {d0 : DataW H} {p0 : List MemPlace}
    (h0 : DataW.Trod enc Tryz.prog W 0 spare held 22 (.slice a0 len0 cap0) d0 p0) : ∃ L, Nums W a0 len0 L ∧ (∀ y ∈ L, -9223372036854775808 ≤ y ∧ y ≤ 9223372036854775807) ∧ len0 ≤ 9223372036854775807 := by
  obtain ⟨fuel, hf⟩ := h0
  rcases open_slice Tryz.underlying22 hf with ⟨hcs, _⟩ | ⟨x, l, c, m, nn, D, Pl, hcs, _, hl, hm, hmm, hx, hi⟩
  · simp [Value.cells] at hcs
    obtain ⟨rfl, rfl, rfl⟩ := hcs
    exact ⟨[], ⟨rfl, fun h => absurd h (by omega)⟩, by simp, by omega⟩
  · simp [Value.cells] at hcs
    obtain ⟨rfl, rfl, rfl⟩ := hcs
    have hlm : len0 ≤ m := by rw [hmm]; split <;> omega
    have hcells : ∀ k, k < len0 → ∃ y : Int, W.cell? (x.add k) = some (.int .i64 y) ∧ -9223372036854775808 ≤ y ∧ y ≤ 9223372036854775807 := by
      intro k hk
      obtain ⟨cs', hc, ht'⟩ := hi k (by omega)
      rw [one_cell, Nat.mul_one] at hc
      obtain ⟨n0, e0, _, wf⟩ := DataW.trod_int Tryz.underlying3 ht'
      subst e0
      obtain ⟨_, hcl, hat⟩ := World.cells?_some hc
      have := hat 0 (by omega)
      rw [show (x.add k).add 0 = x.add k from rfl] at this
      exact ⟨n0, this, wf_i64 wf⟩
    have hL : ∃ L : List Int, L.length = len0 ∧ ∀ k (h : k < L.length), W.cell? (x.add k) = some (.int .i64 L[k]) ∧ -9223372036854775808 ≤ L[k] ∧ L[k] ≤ 9223372036854775807 := by
      refine ⟨(List.range len0).pmap (fun k hk => Classical.choose (hcells k hk)) (fun k hk => by simpa using hk), by simp, ?_⟩
      intro k hk
      have hk' : k < len0 := by simpa using hk
      have := Classical.choose_spec (hcells k hk')
      simpa using this
    obtain ⟨L, hLl, hLc⟩ := hL
    refine ⟨L, ⟨hLl, fun hpos => ?_⟩, fun y hy => ?_, by unfold maxLen at hm; omega⟩
    · obtain ⟨sb, so, sp⟩ := x
      have h00 := (hLc 0 (by omega)).1
      have hspot : sp = none := by
        simpa [Addr.add] using World.cell?_spot h00
      subst hspot
      refine ⟨sb, so, rfl, ?_, fun k hk => ?_⟩
      · rw [add_mk] at h00
        exact block_lt_of_cell h00
      · have := (hLc k (by omega)).1
        rw [add_mk] at this
        rw [this, List.getD_eq_getElem?_getD, List.getElem?_eq_getElem (by omega)]
        rfl
    · obtain ⟨k, hk, rfl⟩ := List.getElem_of_mem hy
      exact (hLc k hk).2
end Go.Proofs.YtoeldmkbmnkhkaaGreat
