/- DiskKeeps: for every two lists of changes and every choice the call returns true and leaves its arguments as they were; no condition. -/
import Derived.Test.YtdgjglocgdccbaaDkTwo
import Derived.Test.YtdgjglocgdccbaaDkAwake
namespace Go.Proofs.Ytdgjglocgdccbaa
open Go.RowKit

theorem szAB : nmA.size ≤ maxLen ∧ nmB.size ≤ maxLen := by unfold maxLen; decide
/-- what the law's disks are, in plain Lean -/
structure KeepsP (one two : List (Int × ByteArray)) (chs : List Int) (p1 p2 p3 : Pl) (A B : List Int) : Prop where
  b1 : ∀ i, i ≤ one.length → (wroteP (Pl.new 200000) nmA (one.take i)).nf < 1099511627776 - 10 ∧ (wroteP (Pl.new 200000) nmA (one.take i)).pd.length < 1099511627776 - 20000
  e1 : wroteP (Pl.new 200000) nmA one = p1
  n1 : p1.nf < 1099511627776 - 10 ∧ p1.pd.length < 1099511627776 - 20000
  s1 : p1.syncE = 0
  e2 : p1.sync nmA = p2
  r2 : strOf (p2.read nmA 0 1048576) = strOf A ∧ p2.readE 0 1048576 = 0
  b2 : ∀ i, i ≤ two.length → (wroteP p2 nmB (two.take i)).nf < 1099511627776 - 10 ∧ (wroteP p2 nmB (two.take i)).pd.length < 1099511627776 - 20000
  e3 : wroteP p2 nmB two = p3
  r3 : strOf (p3.read nmB 0 1048576) = strOf B ∧ p3.readE 0 1048576 = 0
  n3 : p3.nf + p3.pd.length < 100000
  d1 : p3.crashNow.restartE = 0
  q1 : (p3.crashNow.restart chs).down = false ∧ (p3.crashNow.restart chs).pd.length = 0 ∧ strOf ((p3.crashNow.restart chs).read nmA 0 1048576) = strOf A ∧ (p3.crashNow.restart chs).readE 0 1048576 = 0
  q2 : strOf ((p3.crashNow.restart (List.replicate p3.pd.length 1)).read nmA 0 1048576) = strOf A ∧ (p3.crashNow.restart (List.replicate p3.pd.length 1)).readE 0 1048576 = 0 ∧ strOf ((p3.crashNow.restart (List.replicate p3.pd.length 1)).read nmB 0 1048576) = strOf B ∧ (p3.crashNow.restart (List.replicate p3.pd.length 1)).readE 0 1048576 = 0
theorem keepsP (one two : List (Int × ByteArray)) (chs : List Int) (h1 : one.length ≤ 20) (h2 : two.length ≤ 20) (l1 : ∀ x ∈ one, x.2.size ≤ 2000) (l2 : ∀ x ∈ two, x.2.size ≤ 2000) : ∃ p1 p2 p3 A B, KeepsP one two chs p1 p2 p3 A B := by
  have k0 : KI nmA 0 (Pl.new 200000) := ⟨rfl, rfl, by simp [Pl.new], rfl, by simp [Pl.new], by simp [Pl.new], by simp [Pl.new]⟩
  have kb1 : ∀ i, KI nmA (0 + (one.take i).length) (wroteP (Pl.new 200000) nmA (one.take i)) := fun i => (k0.all (L := one.take i) (fun x hx => l1 x (List.mem_of_mem_take hx))).1
  obtain ⟨k1, o1⟩ := k0.all (L := one) l1
  rw [Nat.zero_add] at k1
  obtain ⟨p1, hp1⟩ : ∃ p1, wroteP (Pl.new 200000) nmA one = p1 := ⟨_, rfl⟩
  rw [hp1] at k1 o1
  have hse : p1.stepE = 0 := by unfold Pl.stepE; rw [k1.crash]; rfl
  have hsy : p1.syncE = 0 := by unfold Pl.syncE; rw [k1.down, hse]; rfl
  obtain ⟨p2, hp2⟩ : ∃ p2, p1.sync nmA = p2 := ⟨_, rfl⟩
  have hsync : p2 = { p1.step.at_.setKept nmA (p1.seen nmA) with pd := p1.pd.filter fun c => !decide (c.nm = nmA) } := by
    rw [← hp2]
    unfold Pl.sync
    rw [k1.down, hse]
    rfl
  have hpd2 : p2.pd = [] := by
    rw [hsync]
    show p1.pd.filter _ = []
    rw [List.filter_eq_nil_iff]
    intro c hc
    simp [k1.names c hc]
  have hkA : p2.kept nmA = p1.seen nmA ∧ p2.seen nmA = p1.seen nmA := by
    rw [hsync]
    exact ⟨by show upd p1.kept nmA (p1.seen nmA) nmA = _; rw [upd_same], rfl⟩
  have hkB : p2.kept nmB = [] ∧ p2.seen nmB = [] := by
    rw [hsync]
    refine ⟨?_, ?_⟩
    · show upd p1.kept nmA (p1.seen nmA) nmB = []
      rw [upd_other _ _ nmAB.symm, (o1 nmB nmAB.symm).2]
      rfl
    · show p1.seen nmB = []
      rw [(o1 nmB nmAB.symm).1]
      rfl
  have hdn2 : p2.down = false ∧ p2.crash = 0 := by
    rw [hsync]
    refine ⟨?_, ?_⟩
    · show (if p1.crash = 1 then true else p1.down) = false
      rw [k1.crash, k1.down]; rfl
    · show (if 0 < p1.crash then p1.crash - 1 else p1.crash) = 0
      rw [k1.crash]; rfl
  have hnf2 : p2.nf ≤ 81 := by
    rw [hsync]
    show p1.nf + 1 ≤ 81
    have := k1.nf
    omega
  have k2 : KI nmB 21 p2 := ⟨hdn2.1, hdn2.2, by rw [hpd2]; simp, by rw [hpd2, hkB.1, hkB.2]; rfl, by rw [hkB.2]; simp, by omega, by rw [hpd2]; simp⟩
  have kb2 : ∀ i, KI nmB (21 + (two.take i).length) (wroteP p2 nmB (two.take i)) := fun i => (k2.all (L := two.take i) (fun x hx => l2 x (List.mem_of_mem_take hx))).1
  obtain ⟨k3, o3⟩ := k2.all (L := two) l2
  obtain ⟨p3, hp3⟩ : ∃ p3, wroteP p2 nmB two = p3 := ⟨_, rfl⟩
  rw [hp3] at k3 o3
  have hA3 : p3.seen nmA = p1.seen nmA ∧ p3.kept nmA = p1.seen nmA := ⟨((o3 nmA nmAB).1).trans hkA.2, ((o3 nmA nmAB).2).trans hkA.1⟩
  have hnm3 : ∀ c ∈ p3.pd, c.nm ≠ nmA := fun c hc q => nmAB (q.symm.trans (k3.names c hc))
  have hsv : ∀ chs', (p3.crashNow.survive p3.pd chs').kept nmA = p1.seen nmA := fun chs' => by
    rw [survive_other nmA p3.pd chs' p3.crashNow hnm3]
    exact hA3.2
  have hre : ∀ chs', (p3.crashNow.restart chs').down = false ∧ (p3.crashNow.restart chs').pd = [] ∧ (p3.crashNow.restart chs').seen nmA = p1.seen nmA := fun chs' => ⟨rfl, rfl, hsv chs'⟩
  have hsB : (p3.crashNow.restart (List.replicate p3.pd.length 1)).seen nmB = p3.seen nmB := by
    show (p3.crashNow.survive p3.pd (List.replicate p3.pd.length 1)).kept nmB = _
    rw [survive_ones nmB p3.pd p3.crashNow k3.names]
    exact k3.play
  refine ⟨p1, p2, p3, p1.seen nmA, p3.seen nmB, ?_⟩
  have ra : ∀ p : Pl, p.down = false → p.seen nmA = p1.seen nmA → strOf (p.read nmA 0 1048576) = strOf (p1.seen nmA) ∧ p.readE 0 1048576 = 0 := fun p hd hs => by
    have := read_all hd nmA (by rw [hs]; exact k1.len)
    exact ⟨by rw [this.2, hs], this.1⟩
  exact
    { b1 := fun i hi => by
        have := kb1 i
        have h3 : (one.take i).length ≤ 20 := by rw [List.length_take]; omega
        have := (kb1 i).nf
        have := (kb1 i).pd
        omega
      e1 := hp1
      n1 := by have := k1.nf; have := k1.pd; omega
      s1 := hsy
      e2 := hp2
      r2 := ra p2 hdn2.1 hkA.2
      b2 := fun i hi => by
        have h3 : (two.take i).length ≤ 20 := by rw [List.length_take]; omega
        have := (kb2 i).nf
        have := (kb2 i).pd
        omega
      e3 := hp3
      r3 := by
        have := read_all k3.down nmB k3.len
        exact ⟨by rw [this.2], this.1⟩
      n3 := by have := k3.nf; have := k3.pd; omega
      d1 := rfl
      q1 := by
        obtain ⟨h1, h2, h3⟩ := hre chs
        have := ra _ h1 h3
        exact ⟨h1, by rw [h2]; rfl, this.1, this.2⟩
      q2 := by
        obtain ⟨h1, h2, h3⟩ := hre (List.replicate p3.pd.length 1)
        have := ra _ h1 h3
        have h5 := read_all h1 nmB (by rw [hsB]; exact k3.len)
        exact ⟨this.1, this.2, by rw [h5.2, hsB], this.2⟩ }
theorem crash_n (p : Pl) : p.crashNow.nf = p.nf ∧ p.crashNow.pd = p.pd := ⟨rfl, rfl⟩
theorem infoInt : (Try.prog.info? 3).map (fun i => (i.zero, i.size, i.bytes)) = some (some (.int .i64 0), 1, 8) := by kernel_rfl
def AllRel (wb : World) (n : Nat) (v14 v15 : Value) (wr : World) : Prop :=
  ∃ i : Nat, v15 = .int .i64 (i : Int) ∧ i ≤ n ∧ wr.ownsRow wb.heap.size 3 1 v14 i (List.replicate i (.int .i64 1)) ∧ Kp NoB wb wr
theorem nums_own {w : World} {base n cap : Nat} {A : Option Addr} (h : w.ownsRow base 3 1 (.slice A n cap) n (List.replicate n (.int .i64 1))) : Nums w A n (List.replicate n 1) :=
  ⟨by simp, fun hn => by
    obtain ⟨g, ds, rfl, hg, hb⟩ := own_blk1 h hn
    refine ⟨g, 0, rfl, hb.lt, fun k hk => ?_⟩
    rw [hb.cell, Nat.zero_add]
    simp only [List.getElem?_toArray]
    rw [List.getElem?_append_left (by simp; omega), List.getElem?_replicate, if_pos hk, List.getD_eq_getElem?_getD, List.getElem?_replicate, if_pos hk]
    rfl⟩
set_option maxRecDepth 100000 in
set_option maxHeartbeats 3200000 in
theorem keeps_law (w : World) (A1 A2 A3 : Option Addr) (n1 c1 n2 c2 n3 c3 : Nat) (one two : List (Int × ByteArray)) (chs : List Int) (hn1 : n1 ≤ 9223372036854775807) (hn2 : n2 ≤ 9223372036854775807) (hn3 : n3 ≤ 9223372036854775807)
    (F1 : Fls w A1 n1 one) (F2 : Fls w A2 n2 two) (F3 : Nums w A3 n3 chs) (hch : ∀ y ∈ chs, -9223372036854775808 ≤ y ∧ y ≤ 9223372036854775807) :
    Calls Try.prog 4 #[.slice A1 n1 c1, .slice A2 n2 c2, .slice A3 n3 c3] w fun e w' => e = .returned (.bool true) ∧ Kp NoB w w' := by
  have HF1 := Lib.hid F1
  have HF2 := Lib.hid F2
  have HF3 := Lib.hid F3
  have HCH := Lib.hid hch
  have HN1 := Lib.hid hn1
  have HN2 := Lib.hid hn2
  have HN3 := Lib.hid hn3
  clear F1 F2 F3 hch
  obtain ⟨b1, hb1⟩ : ∃ b, longB one = b := ⟨_, rfl⟩
  obtain ⟨b2, hb2⟩ : ∃ b, longB two = b := ⟨_, rfl⟩
  have HB1 := Lib.hid hb1
  have HB2 := Lib.hid hb2
  clear hb1 hb2
  by_cases hmain : ¬ 20 < n1 ∧ ¬ 20 < n2 ∧ b1 = false ∧ b2 = false
  · obtain ⟨g1, g2, rfl, rfl⟩ := hmain
    have G1 : Hid (n1 ≤ 20) := Lib.hid (by omega)
    have G2 : Hid (n2 ≤ 20) := Lib.hid (by omega)
    have i1 : ¬ (20 : Int) < (n1 : Int) := by omega
    have i2 : ¬ (20 : Int) < (n2 : Int) := by omega
    obtain ⟨p1, p2, p3, A, B, hK⟩ := keepsP one two chs (by have := HF1.out.1; omega) (by have := HF2.out.1; omega) (fun x hx => longB_take HB1.out hx) (fun x hx => longB_take HB2.out hx)
    have K := Lib.hid hK
    have hA1 : Hid (∀ g o, A1 = some ⟨g, o, none⟩ → 0 < n1 → g < w.heap.size) := Lib.hid (fun g o e hp => by obtain ⟨g', o', e', hg, _⟩ := HF1.out.2.2 hp; rw [e] at e'; simp only [Option.some.injEq, Addr.mk.injEq] at e'; rw [e'.1]; exact hg)
    have hA2 : Hid (∀ g o, A2 = some ⟨g, o, none⟩ → 0 < n2 → g < w.heap.size) := Lib.hid (fun g o e hp => by obtain ⟨g', o', e', hg, _⟩ := HF2.out.2.2 hp; rw [e] at e'; simp only [Option.some.injEq, Addr.mk.injEq] at e'; rw [e'.1]; exact hg)
    have hA3 : Hid (∀ g o, A3 = some ⟨g, o, none⟩ → 0 < n3 → g < w.heap.size) := Lib.hid (fun g o e hp => by obtain ⟨g', o', e', hg, _⟩ := HF3.out.2 hp; rw [e] at e'; simp only [Option.some.injEq, Addr.mk.injEq] at e'; rw [e'.1]; exact hg)
    clear hK g1 g2 hn1 hn2 hn3
    go_enter Try.func4, Try.ntmps4
    go_wp2_with (first
      | (go_at_call 7; ((with_reducible refine (long_ok w A1 n1 c1 one HN1.out HF1.out).mono ?_); rintro e w2 ⟨rfl, rfl⟩; rw [HB1.out]))
      | (go_at_call 7; ((with_reducible refine (long_ok w A2 n2 c2 two HN2.out HF2.out).mono ?_); rintro e w2 ⟨rfl, rfl⟩; rw [HB2.out]))
      | (go_at_call 9; go_must (refine (new_d w w 200000 (by omega) (Kp.refl _ _)).mono ?_); rintro e w1 ⟨db, rfl, h1⟩; have H1 := Lib.hid h1; clear h1))
    refine (wrote_ok w w1 db (Pl.new 200000) nmA A1 n1 c1 one szAB.1 H1.out (HF1.out.keep H1.out.kp) hA1.out G1.out (fun x hx => longB_take HB1.out hx) (fun i hi => K.out.b1 i (by have := HF1.out.1; omega))).mono ?_
    rintro e w2 ⟨rfl, h2⟩
    rw [K.out.e1] at h2
    have H2 := Lib.hid h2
    clear h2
    go_wp2_with fail
    refine (sync_d H2.out nmA szAB.1 K.out.n1.1 K.out.n1.2).mono ?_
    rintro e w3 ⟨rfl, h3⟩
    rw [K.out.e2] at h3
    rw [K.out.s1]
    have H3 := Lib.hid h3
    clear h3
    go_wp2_with fail
    refine (read_d H3.out nmA 0 1048576 szAB.1 (by omega) (by omega)).mono ?_
    rintro e w4 ⟨rfl, h4⟩
    rw [K.out.r2.1, K.out.r2.2]
    have H4 := Lib.hid h4
    clear h4
    obtain ⟨sA, hsA⟩ : ∃ sA, strOf A = sA := ⟨_, rfl⟩
    rw [hsA]
    have HSA := Lib.hid hsA
    clear hsA
    go_wp2_with fail
    refine (wrote_ok w w4 db p2 nmB A2 n2 c2 two szAB.2 H4.out (HF2.out.keep H4.out.kp) hA2.out G2.out (fun x hx => longB_take HB2.out hx) (fun i hi => K.out.b2 i (by have := HF2.out.1; omega))).mono ?_
    rintro e w5 ⟨rfl, h5⟩
    rw [K.out.e3] at h5
    have H5 := Lib.hid h5
    clear h5
    go_wp2_with fail
    refine (read_d H5.out nmB 0 1048576 szAB.2 (by omega) (by omega)).mono ?_
    rintro e w6 ⟨rfl, h6⟩
    rw [K.out.r3.1, K.out.r3.2]
    have H6 := Lib.hid h6
    clear h6
    obtain ⟨sB, hsB⟩ : ∃ sB, strOf B = sB := ⟨_, rfl⟩
    rw [hsB]
    have HSB := Lib.hid hsB
    clear hsB
    go_wp2_with fail
    refine (pending_d H6.out).mono ?_
    rintro e w7 ⟨rfl, rfl⟩
    obtain ⟨m, hm⟩ : ∃ m, p3.pd.length = m := ⟨_, rfl⟩
    rw [hm]
    have HM := Lib.hid hm
    have HMB : Hid (m < 100000 ∧ p3.nf + m < 100000) := Lib.hid (by have := K.out.n3; omega)
    clear hm
    go_wp2_with fail
    refine (copy_d H6.out (by have := HMB.out; omega) (by have := HMB.out; have := HM.out; omega)).mono ?_
    rintro e w8 ⟨ob, rfl, h8⟩
    have H8 := Lib.hid h8
    clear h8
    go_wp2_with fail
    refine (crash_t H8.out).mono ?_
    rintro e w9 ⟨rfl, h9⟩
    have H9 := Lib.hid h9
    clear h9
    go_wp2_with fail
    refine (crash_t H9.out.swap).mono ?_
    rintro e wb ⟨rfl, h10⟩
    have H10 := Lib.hid h10.swap
    clear h10
    go_wp2_with fail
    go_loopw [14, 15] (fun v14 v15 wr => AllRel wb m v14 v15 wr) (fun _ v15 _ => m - (intOf v15).toNat)
    case atStart => exact ⟨0, rfl, Nat.zero_le _, World.ownsRow_nil _ _ _ _, Kp.refl _ _⟩
    case round =>
      obtain ⟨i, rfl, hi, hown, hk⟩ := hrel
      obtain ⟨A, c, rfl⟩ := own_slice hown
      have HI := Lib.hid hi
      have HO := Lib.hid hown
      have HK := Lib.hid hk
      clear hi hown hk
      by_cases hlt : i < m
      · have hlt' : (i : Int) < (m : Int) := by omega
        have HWR : Hid (wrap64 ((i : Int) + 1) = ((i + 1 : Nat) : Int)) := Lib.hid (by have := HMB.out.1; unfold wrap64; omega)
        have hj := infoInt
        obtain ⟨j0, hj0, hj1⟩ := Option.map_eq_some_iff.1 hj
        simp only [Prod.mk.injEq] at hj1
        have HJ0 := Lib.hid hj0
        have HY0 := Lib.hid hj1.1
        have HY1 := Lib.hid hj1.2.1
        have HY2 := Lib.hid hj1.2.2
        clear hj hj0 hj1
        go_wp2_with (at_builtin; refine wpList_append_ownB rfl _ _ 38 rfl wb.heap.size 3 j0 _ 1 8 Try.underlying38 HJ0.out HY0.out HY1.out HY2.out rfl (by omega) _ i (List.replicate i (.int .i64 1)) rfl (own_keepB HO.out ((Kp.refl NoB wr).alloc _) (fun _ _ q => q)) ⟨wr.heap.size, 0, none⟩ 1 1 [.int .i64 1] rfl rfl (cell_one_new _ _ _) (by simp [Value.oneCell']) (by have := HMB.out; unfold maxLen; omega) (by have := HMB.out; omega) (by have := HK.out.size; simp; omega) ?_; intro v1 w11 hown4 hgrow4 _; have HO4 := Lib.hid hown4; have HK4 := Lib.hid ((HK.out.alloc _).own hgrow4 rfl HO.out); clear hown4 hgrow4)
        go_roundw
        case rel => exact ⟨i + 1, by rw [HWR.out], by omega, by rw [List.replicate_succ']; exact HO4.out, HK4.out⟩
        case measure =>
          rw [HWR.out]
          simp [intOf]
          omega
      · have hlt' : ¬ (i : Int) < (m : Int) := by omega
        have him : i = m := by have := HI.out; omega
        subst him
        clear hlt
        obtain ⟨x, y, ex, ey, h10⟩ := H10.out
        have HT := Lib.hid (h10.keep HK.out)
        have HX := Lib.hid ex
        have HY := Lib.hid ey
        have HBX : Hid (∀ b, x.O b → b < wb.heap.size) := Lib.hid (fun b hb => h10.hx.lt b hb)
        have HBY : Hid (∀ b, y.O b → b < wb.heap.size) := Lib.hid (fun b hb => h10.hy.lt b hb)
        clear ex ey h10
        go_wp2_with fail
        refine (show Calls _ _ #[ptrV db, .slice A3 n3 c3] _ _ by rw [← HX.out]; exact restart_ok wr _ x p3.crashNow A3 n3 c3 chs HT.out.hx HT.out.px (HF3.out.keep HT.out.kp (fun _ _ _ q => q)) (fun g o e hp q => by have := hA3.out g o e hp; have := HT.out.ox g q; omega) HCH.out HN3.out (by rw [(crash_n p3).1, (crash_n p3).2]; have := HMB.out; have := HM.out; omega) HT.out.kp.size).mono ?_
        rintro e w12 ⟨rfl, ht⟩
        rw [K.out.d1]
        have HO2 : Hid (w12.ownsRow wb.heap.size 3 1 (.slice A i c) i (List.replicate i (.int .i64 1))) := Lib.hid (by
          obtain ⟨x', hd, hp, e, k, o⟩ := ht
          exact own_keepB HO.out k (fun g hg q => by have := own_ge HO.out g hg; have := HBX.out g q; omega))
        have h12 := HT.out.first ht
        have H12 := Lib.hid h12
        clear ht h12
        obtain ⟨x', ex', h12⟩ := H12.out
        have HT2 := Lib.hid h12
        have HX2 := Lib.hid (ex'.trans HX.out)
        clear h12 ex' H12
        go_wp2_with fail
        refine (show Calls _ _ #[ptrV ob, .slice A i c] _ _ by rw [← HY.out]; exact restart_ok w12 _ y p3.crashNow A i c (List.replicate i 1) HT2.out.hy HT2.out.py (nums_own HO2.out) (fun g o e hp q => by have := own_ge HO.out g (by rw [e]; rfl); have := HBY.out g q; omega) (fun z hz => by rw [List.eq_of_mem_replicate hz]; omega) (by have := HMB.out; omega) (by rw [(crash_n p3).1, (crash_n p3).2]; have := HMB.out; have := HM.out; omega) HT2.out.kp.size).mono ?_
        rintro e w13 ⟨rfl, ht⟩
        rw [K.out.d1]
        obtain ⟨p4, hp4⟩ : ∃ p4, p3.crashNow.restart chs = p4 := ⟨_, rfl⟩
        obtain ⟨p5, hp5⟩ : ∃ p5, p3.crashNow.restart (List.replicate i 1) = p5 := ⟨_, rfl⟩
        have hq1 := K.out.q1
        have hq2 := K.out.q2
        rw [HM.out, HSB.out, HSA.out, hp5] at hq2
        rw [HSA.out, hp4] at hq1
        have h13 : Dt w w13 db ob p4 p5 := by
          obtain ⟨y', ey', h13⟩ := HT2.out.swap.first ht
          rw [hp4, hp5] at h13
          exact ⟨x', y', HX2.out, ey'.trans HY.out, h13.swap⟩
        have H13 := Lib.hid h13
        have HQ1 := Lib.hid hq1
        have HQ2 := Lib.hid hq2
        clear h13 hq1 hq2 hp4 hp5 ht
        go_wp2_with (first
          | (go_at_call 12; go_must (refine (down_t H13.out).mono ?_); rintro e w14 ⟨rfl, rfl⟩; rw [HQ1.out.1])
          | (go_at_call 18; go_must (refine (pending_t H13.out).mono ?_); rintro e w14 ⟨rfl, rfl⟩; rw [HQ1.out.2.1]))
        refine (read_t H13.out nmA 0 1048576 szAB.1 (by omega) (by omega)).mono ?_
        rintro e w14 ⟨rfl, h14⟩
        rw [HQ1.out.2.2.1, HQ1.out.2.2.2]
        have H14 := Lib.hid h14
        clear h14
        go_wp2_with fail
        refine (read_t H14.out.swap nmA 0 1048576 szAB.1 (by omega) (by omega)).mono ?_
        rintro e w15 ⟨rfl, h15⟩
        rw [HQ2.out.1, HQ2.out.2.1]
        have H15 := Lib.hid h15
        clear h15
        go_wp2_with fail
        refine (read_t H15.out nmB 0 1048576 szAB.2 (by omega) (by omega)).mono ?_
        rintro e w16 ⟨rfl, h16⟩
        rw [HQ2.out.2.2.1, HQ2.out.2.2.2]
        have H16 := Lib.hid h16
        clear h16
        go_wp2_with (go_at_call 8; go_must (refine (awake_ok w16).mono ?_); rintro e w17 ⟨rfl, hk17⟩; have HK17 := Lib.hid hk17; clear hk17)
        go_ret
        exact ⟨rfl, H16.out.kp.trans HK17.out (fun _ _ q => q)⟩
  · by_cases c1' : 20 < n1
    · have i1 : (20 : Int) < (n1 : Int) := by omega
      clear hmain
      go_enter Try.func4, Try.ntmps4
      go_wp2_with (first
        | (go_at_call 8; go_must (refine (awake_ok w).mono ?_); rintro e w17 ⟨rfl, hk17⟩; have HK17 := Lib.hid hk17; clear hk17))
      go_ret
      exact ⟨rfl, HK17.out⟩
    by_cases c2' : 20 < n2
    · have i1 : ¬ (20 : Int) < (n1 : Int) := by omega
      have i2 : (20 : Int) < (n2 : Int) := by omega
      clear hmain
      go_enter Try.func4, Try.ntmps4
      go_wp2_with (first
        | (go_at_call 8; go_must (refine (awake_ok w).mono ?_); rintro e w17 ⟨rfl, hk17⟩; have HK17 := Lib.hid hk17; clear hk17))
      go_ret
      exact ⟨rfl, HK17.out⟩
    have i1 : ¬ (20 : Int) < (n1 : Int) := by omega
    have i2 : ¬ (20 : Int) < (n2 : Int) := by omega
    cases b1
    · cases b2
      · exact absurd ⟨c1', c2', rfl, rfl⟩ hmain
      clear hmain
      go_enter Try.func4, Try.ntmps4
      go_wp2_with (first
        | (go_at_call 7; ((with_reducible refine (long_ok w A1 n1 c1 one HN1.out HF1.out).mono ?_); rintro e w2 ⟨rfl, rfl⟩; rw [HB1.out]))
        | (go_at_call 7; ((with_reducible refine (long_ok w A2 n2 c2 two HN2.out HF2.out).mono ?_); rintro e w2 ⟨rfl, rfl⟩; rw [HB2.out]))
        | (go_at_call 8; go_must (refine (awake_ok w).mono ?_); rintro e w17 ⟨rfl, hk17⟩; have HK17 := Lib.hid hk17; clear hk17))
      go_ret
      exact ⟨rfl, HK17.out⟩
    · clear hmain
      go_enter Try.func4, Try.ntmps4
      go_wp2_with (first
        | (go_at_call 7; ((with_reducible refine (long_ok w A1 n1 c1 one HN1.out HF1.out).mono ?_); rintro e w2 ⟨rfl, rfl⟩; rw [HB1.out]))
        | (go_at_call 8; go_must (refine (awake_ok w).mono ?_); rintro e w17 ⟨rfl, hk17⟩; have HK17 := Lib.hid hk17; clear hk17))
      go_ret
      exact ⟨rfl, HK17.out⟩
end Go.Proofs.Ytdgjglocgdccbaa
