/- Texts of this proof, one behind the other: lemmas and contracts; each says its own conditions. -/
import Derived.Test.YtegcbdfilkecpaaM7
import Derived.Test.YtegcbdfilkecpaaM13
import Derived.Test.YtegcbdfilkecpaaM14
/- The reference's journal: Commit; condition: fewer than 2^39 files and changes, at most 4096 pages. -/
namespace Go.Proofs.Ytegcbdfilkecpaa
open Go.RowKit

def CaRel (w1 : World) (sn : List Int) (count : Nat) (l : List Pg) (old : Nat) (v11 v12 : Value) (wr : World) : Prop :=
  ∃ k : Nat, v12 = .int .i64 ((k : Int) + 1) ∧ k ≤ old ∧ OwnPgs wr w1.heap.size v11 (asideUp sn count l k) ∧ Kp NoB w1 wr
theorem asideUp_ok {sn : List Int} {count : Nat} {l : List Pg} {k : Nat} (hs : ∀ y ∈ sn, 0 ≤ y ∧ y < 256) (hk : k ≤ 4096) : ∀ x ∈ asideUp sn count l k, PgOk x ∧ 1 ≤ x.n ∧ x.n ≤ 1099511627776 := by
  intro x hx
  obtain ⟨n, h1, h2, rfl⟩ := asideUp_mem hx
  exact ⟨⟨sizedF_len _ _, sizedF_rng (fun y hy => hs y (List.mem_of_mem_drop hy)) 256, by show -9223372036854775808 ≤ (n : Int) ∧ (n : Int) ≤ 9223372036854775807; omega⟩, by show (1 : Int) ≤ (n : Int); omega, by show (n : Int) ≤ 1099511627776; omega⟩
theorem st_aside {l : List Pg} (hl : ∀ x ∈ l, PgOk x) (hn : l.length ≤ 1099511627776) : ∀ s ∈ asideS l, StOk s := by
  intro s hs
  unfold asideS at hs
  rcases List.mem_append.1 hs with q | q
  · obtain ⟨j, x, h1, h2, rfl⟩ := aside_inR q
    have h3 := hl x h2
    exact ⟨nmJ_le, by show -9223372036854775808 ≤ 64 + 320 * (j : Int) ∧ 64 + 320 * (j : Int) ≤ 9223372036854775807; omega, fun y hy => by
      unfold recB at hy
      rcases List.mem_append.1 hy with q | q
      · rcases List.mem_append.1 q with q | q
        · exact four_rng _ y q
        · exact zeros_rng 60 y q
      · exact h3.rng y q, by
      show (recB x).length ≤ maxLen
      unfold recB zeros
      rw [List.length_append, List.length_append, h3.len, List.length_replicate]
      show 4 + 60 + 256 ≤ _
      unfold maxLen
      omega, by show (0 : Nat) ≤ 2; omega⟩
  · rw [List.mem_singleton.1 q]
    exact ⟨nmJ_le, by show (-9223372036854775808 : Int) ≤ 0 ∧ (0 : Int) ≤ 9223372036854775807; omega, by simp, by simp, Nat.le_refl _⟩
attribute [local go_sem ↓] loadPg storePg allocPg exSlicePg
set_option maxRecDepth 100000 in
set_option maxHeartbeats 3200000 in
theorem commit_rok (w : World) (d : Rd) (p : Pl) (count : Int) (A : Option Addr) (m c : Nat) (l : List Pg) (h : Rf w d p) (hl : PgsAt w A m l) (hok : ∀ x ∈ l, PgOk x) (hm : m ≤ 4096) (hc : -9223372036854775808 ≤ count ∧ count ≤ 9223372036854775807) (hsm : p.sm 1000000000) :
    Calls Try.prog 70 #[rdV d p, .int .i64 count, .slice A m c] w fun e w' => ∃ d', e = .returned (.tuple #[rdV d' (p.jcommit count l).1, .int .i64 (p.jcommit count l).2]) ∧ Rf w' d' (p.jcommit count l).1 ∧ Kp NoB w w' := by
  have H := Lib.hid h
  have HL := Lib.hid hl
  have hlen : l.length = m := hl.len
  have HLEN := Lib.hid hlen
  have HOK := Lib.hid hok
  have HM := Lib.hid hm
  have HC := Lib.hid hc
  have HSM := Lib.hid hsm
  have HNF : Hid (p.nf < 1099511627776) := Lib.hid (by unfold Pl.sm at hsm; omega)
  have hlkj := (h.look nmJn).1
  have hlkd := (h.look nmDb).1
  have HLKJ := Lib.hid hlkj
  have HLKD := Lib.hid hlkd
  obtain ⟨old, hold⟩ : ∃ o, p.jcount = o := ⟨_, rfl⟩
  have hold4 : old ≤ 4096 := by rw [← hold]; unfold Pl.jcount Pl.len; split <;> omega
  have HOLD := Lib.hid hold
  have HOLD4 := Lib.hid hold4
  have hb0 : Blk ((w.alloc (.cells (rdC d p) 56)).alloc (.cells rdZ 56)) w.heap.size 56 (rdC d p) := (Blk.new w _ _).alloc _
  have hb2 : Blk ((w.alloc (.cells (rdC d p) 56)).alloc (.cells rdZ 56)) (w.heap.size + 1) 56 rdZ := Blk.top (by simp)
  have hk : Kp NoB w ((w.alloc (.cells (rdC d p) 56)).alloc (.cells rdZ 56)) := ((Kp.refl NoB w).alloc _).alloc _
  clear h hl hlen hok hm hc hsm hlkj hlkd hold hold4
  unfold rdV
  go_enter Try.func70, Try.ntmps70
  go_wp2_with fail
  refine (show Calls _ _ #[rdV d p] _ _ from ready_rok _ d p (H.out.keep hk) HNF.out).mono ?_
  rintro e w2 ⟨rfl, hk2⟩
  have HB0 := Lib.hid (hb0.keep hk2 (fun q => q))
  have HB2 := Lib.hid (hb2.keep hk2 (fun q => q))
  have HK := Lib.hid (hk.trans hk2 (fun _ _ q => q))
  clear hb0 hb2 hk hk2
  generalize hs0 : w.heap.size = s0 at HB0 HB2 ⊢
  have HS0 := Lib.hid hs0
  have kz : w.heap.size ≤ s0 + 1 := by omega
  clear hs0
  have hl0 := HB0.out.lt
  have hl2 := HB2.out.lt
  obtain ⟨c0, c1, c2, c3, c4, c5, c6, c7⟩ := HB0.out.rdc
  obtain ⟨y0, y1, y2, y3, y4, y5, y6, y7⟩ := HB2.out.c8
  obtain ⟨z0, z1, z2, z3, z4, z5, z6, z7⟩ := HB2.out.z8
  unfold jReady
  by_cases hd : p.down = true
  · have HRUN : Hid (p.jcommit count l = (p, 7)) := Lib.hid (by unfold Pl.jcommit; rw [if_pos hd])
    rw [if_pos hd]
    clear hd
    go_wp2_with fail
    exact bodyPost_ret (ret_cell_tmp rfl _ _ _ _ _ _ rfl (blk8 HB2.out rfl) Try.underlying56 rfl (by exact infoRd) _ rfl) rfl ⟨d, by rw [HRUN.out]; rfl, by rw [HRUN.out]; exact H.out.keep (kp8 HK.out (.inl kz)), kp8 HK.out (.inl kz)⟩
  have HD := Lib.hid (show p.down = false by simpa using hd)
  rw [if_neg hd]
  clear hd
  go_wp2_with fail
  refine (show Calls _ _ #[rdV d p] _ _ from count_rok _ d p (H.out.keep HK.out) HNF.out).mono ?_
  rintro e w3 ⟨rfl, hk3⟩
  have HB0' := Lib.hid (HB0.out.keep hk3 (fun q => q))
  have HB2' := Lib.hid (HB2.out.keep hk3 (fun q => q))
  have HK' := Lib.hid (HK.out.trans hk3 (fun _ _ q => q))
  clear hk3 HB0 HB2 HK
  have HB0 := HB0'
  have HB2 := HB2'
  have HK := HK'
  clear HB0' HB2' HK' c0 c1 c2 c3 c4 c5 c6 c7 y0 y1 y2 y3 y4 y5 y6 y7 z0 z1 z2 z3 z4 z5 z6 z7 hl0 hl2
  have hl0 := HB0.out.lt
  have hl2 := HB2.out.lt
  obtain ⟨c0, c1, c2, c3, c4, c5, c6, c7⟩ := HB0.out.rdc
  obtain ⟨y0, y1, y2, y3, y4, y5, y6, y7⟩ := HB2.out.c8
  obtain ⟨z0, z1, z2, z3, z4, z5, z6, z7⟩ := HB2.out.z8
  rw [HOLD.out]
  go_wp2_with fail
  refine (fit_rok _ (old : Int) count A m c l (HL.out.keep HK.out) (fun x hx => (HOK.out x hx).n0) (by have := HM.out; omega) (by have := HOLD4.out; omega) HC.out).mono ?_
  rintro e w4 ⟨rfl, hk4⟩
  have HB0' := Lib.hid (HB0.out.keep hk4 (fun q => q))
  have HB2' := Lib.hid (HB2.out.keep hk4 (fun q => q))
  have HK' := Lib.hid (HK.out.trans hk4 (fun _ _ q => q))
  clear hk4 HB0 HB2 HK
  have HB0 := HB0'
  have HB2 := HB2'
  have HK := HK'
  clear HB0' HB2' HK' c0 c1 c2 c3 c4 c5 c6 c7 y0 y1 y2 y3 y4 y5 y6 y7 z0 z1 z2 z3 z4 z5 z6 z7 hl0 hl2
  have hl0 := HB0.out.lt
  have hl2 := HB2.out.lt
  obtain ⟨c0, c1, c2, c3, c4, c5, c6, c7⟩ := HB0.out.rdc
  obtain ⟨y0, y1, y2, y3, y4, y5, y6, y7⟩ := HB2.out.c8
  obtain ⟨z0, z1, z2, z3, z4, z5, z6, z7⟩ := HB2.out.z8
  obtain ⟨ft, hft⟩ : ∃ b, fitPg (old : Int) count l = b := ⟨_, rfl⟩
  rw [hft]
  have HFT := Lib.hid hft
  clear hft
  rcases ft with _ | _
  · have HRUN : Hid (p.jcommit count l = (p, 2)) := Lib.hid (by unfold Pl.jcommit; rw [HD.out, HOLD.out, HFT.out]; rfl)
    go_wp2_with fail
    exact bodyPost_ret (ret_cell_tmp rfl _ _ _ _ _ _ rfl (blk8 HB2.out rfl) Try.underlying56 rfl (by exact infoRd) _ rfl) rfl ⟨d, by rw [HRUN.out]; rfl, by rw [HRUN.out]; exact H.out.keep (kp8 HK.out (.inl kz)), kp8 HK.out (.inl kz)⟩
  go_wp2_with fail
  refine (show Calls _ _ #[rdV d p] _ _ from hot_rok _ d p (H.out.keep HK.out) HNF.out).mono ?_
  rintro e w5 ⟨rfl, hk5⟩
  have HB0' := Lib.hid (HB0.out.keep hk5 (fun q => q))
  have HB2' := Lib.hid (HB2.out.keep hk5 (fun q => q))
  have HK' := Lib.hid (HK.out.trans hk5 (fun _ _ q => q))
  clear hk5 HB0 HB2 HK
  have HB0 := HB0'
  have HB2 := HB2'
  have HK := HK'
  clear HB0' HB2' HK' c0 c1 c2 c3 c4 c5 c6 c7 y0 y1 y2 y3 y4 y5 y6 y7 z0 z1 z2 z3 z4 z5 z6 z7 hl0 hl2
  have hl0 := HB0.out.lt
  have hl2 := HB2.out.lt
  obtain ⟨c0, c1, c2, c3, c4, c5, c6, c7⟩ := HB0.out.rdc
  obtain ⟨y0, y1, y2, y3, y4, y5, y6, y7⟩ := HB2.out.c8
  obtain ⟨z0, z1, z2, z3, z4, z5, z6, z7⟩ := HB2.out.z8
  obtain ⟨hb, hh⟩ : ∃ b, p.jhot = b := ⟨_, rfl⟩
  rw [hh]
  have HH := Lib.hid hh
  clear hh
  rcases hb with _ | _
  rotate_left
  · have HRUN : Hid (p.jcommit count l = (p, 6)) := Lib.hid (by unfold Pl.jcommit; rw [HD.out, HOLD.out, HFT.out, HH.out]; rfl)
    go_wp2_with fail
    exact bodyPost_ret (ret_cell_tmp rfl _ _ _ _ _ _ rfl (blk8 HB2.out rfl) Try.underlying56 rfl (by exact infoRd) _ rfl) rfl ⟨d, by rw [HRUN.out]; rfl, by rw [HRUN.out]; exact H.out.keep (kp8 HK.out (.inl kz)), kp8 HK.out (.inl kz)⟩
  obtain ⟨sn, hsn⟩ : ∃ s, p.seen nmDb = s := ⟨_, rfl⟩
  have HSN := Lib.hid hsn
  have hfi := (fit_iff (old : Int) count l (by omega)).1 HFT.out
  have HFI := Lib.hid hfi
  obtain ⟨cn, hcn⟩ : ∃ n : Nat, count = n := ⟨count.toNat, by have := hfi.1; omega⟩
  subst hcn
  have hcn4 : cn ≤ 4096 := by have := hfi.1; omega
  have HCN4 := Lib.hid hcn4
  rw [hsn] at HLKD
  clear hsn hfi
  go_wp2_with fail
  refine (show Calls _ _ #[rdV d p, .string nmDb] _ _ from seen_ok _ d p nmDb (H.out.keep HK.out) HNF.out).mono ?_
  rintro e w6 ⟨rfl, hk6⟩
  rw [HSN.out]
  have HB0' := Lib.hid (HB0.out.keep hk6 (fun q => q))
  have HB2' := Lib.hid (HB2.out.keep hk6 (fun q => q))
  have HK' := Lib.hid (HK.out.trans hk6 (fun _ _ q => q))
  clear hk6 HB0 HB2 HK
  have HB0 := HB0'
  have HB2 := HB2'
  have HK := HK'
  clear HB0' HB2' HK' c0 c1 c2 c3 c4 c5 c6 c7 y0 y1 y2 y3 y4 y5 y6 y7 z0 z1 z2 z3 z4 z5 z6 z7 hl0 hl2
  have hl0 := HB0.out.lt
  have hl2 := HB2.out.lt
  obtain ⟨c0, c1, c2, c3, c4, c5, c6, c7⟩ := HB0.out.rdc
  obtain ⟨y0, y1, y2, y3, y4, y5, y6, y7⟩ := HB2.out.c8
  obtain ⟨z0, z1, z2, z3, z4, z5, z6, z7⟩ := HB2.out.z8
  have HX0 := Lib.hid HB0.out
  have HX2 := Lib.hid HB2.out
  have HXK := Lib.hid HK.out
  obtain ⟨j0, hj0, hy0, hy1, hy2⟩ := info_parts infoPgA
  have HJ0 := Lib.hid hj0
  have HY0 := Lib.hid hy0
  have HY1 := Lib.hid hy1
  have HY2 := Lib.hid hy2
  clear hj0 hy0 hy1 hy2 c0 c1 c2 c3 c4 c5 c6 c7 y0 y1 y2 y3 y4 y5 y6 y7 z0 z1 z2 z3 z4 z5 z6 z7 hl0 hl2 HB0 HB2 HK
  go_wp2_with fail
  go_loopw [11, 12] (fun v11 v12 wr => CaRel w6 sn cn l old v11 v12 wr) (fun _ v _ => old + 1 - (intOf v).toNat)
  case atStart => exact ⟨0, rfl, Nat.zero_le _, ⟨World.ownsRow_nil _ _ _ _, by simp [asideUp]⟩, Kp.refl _ _⟩
  case round =>
    obtain ⟨wq, rfl⟩ : ∃ wq, wq = wr := ⟨_, rfl⟩
    obtain ⟨k, rfl, hk, how, hkp⟩ := hrel
    have HKP := Lib.hid hkp
    obtain ⟨A11, c11, rfl⟩ := own_slice how.1
    obtain ⟨NN, hNN⟩ : ∃ NN : Int, (k : Int) + 1 = NN := ⟨_, rfl⟩
    have HNN := Lib.hid hNN
    rw [hNN]
    obtain ⟨acc, hacc⟩ : ∃ acc, asideUp sn cn l k = acc := ⟨_, rfl⟩
    have HACC := Lib.hid hacc
    rw [hacc] at how ⊢
    have hnx := asideUp_next sn cn l k
    rw [hacc, show ((k + 1 : Nat) : Int) = NN by omega] at hnx
    have HNX := Lib.hid hnx
    have hac4 : acc.length ≤ 4096 := by rw [← hacc]; have := asideUp_len sn cn l k; have := HOLD4.out; omega
    have HAC4 := Lib.hid hac4
    obtain ⟨na, hna⟩ : ∃ n, acc.length = n := ⟨_, rfl⟩
    rw [hna]
    have HOW : Hid (wq.ownsRow w6.heap.size 113 257 (.slice A11 na c11) na (pgsCells acc)) := Lib.hid (by have := how.1; rwa [hna] at this)
    have HOWA := Lib.hid how.2
    have HNA := Lib.hid hna
    have hkk : Hid (k ≤ old) := Lib.hid hk
    clear how hacc hnx hac4 hna hNN hk
    have HKW := Lib.hid (HXK.out.trans hkp (fun _ _ q => q))
    by_cases hlt : NN ≤ (old : Int)
    · have hwn : IntKind.i64.wrap (NN + 1) = NN + 1 := by have := HOLD4.out; have := HNN.out; rw [IntKind.wrap_i64]; omega
      by_cases hcn : (cn : Int) < NN
      · have HUP : Hid (asideUp sn cn l (k + 1) = acc ++ [⟨NN, pageOf sn (k + 1)⟩]) := Lib.hid (by
          rw [HNX.out, if_pos]
          rw [Bool.or_eq_true]
          exact .inl (decide_eq_true (by have := HNN.out; omega)))
        go_upto_region 15 with fail
        obtain ⟨w7, rfl⟩ : ∃ w7, w7 = wq := ⟨_, rfl⟩
        have HK7 := HKP
        have HOW7 := HOW
        have hnr : 1 ≤ NN ∧ NN ≤ 1099511627776 := by have := HNN.out; have := HOLD4.out; omega
        go_wp2_with fail
        refine (show Calls _ _ #[.string (strOf sn), .int .i64 NN] _ _ from pageof_rok w7 sn NN HLKD.out.2 (by have := HLKD.out.1; omega) hnr).mono ?_
        rintro e V2 ⟨rfl, hkv⟩
        obtain ⟨pb, hpb⟩ : ∃ pb, pageOf sn (k + 1) = pb := ⟨_, rfl⟩
        rw [show NN.toNat = k + 1 by have := HNN.out; omega, hpb]
        rw [hpb] at HUP
        have hpl : pb.length = 256 := by rw [← hpb]; exact sizedF_len _ _
        have HPL := Lib.hid hpl
        have HPO : Hid (PgOk ⟨NN, pb⟩) := Lib.hid ⟨hpl, by rw [← hpb]; exact sizedF_rng (fun y hy => HLKD.out.2 y (List.mem_of_mem_drop hy)) 256, by show _ ≤ NN ∧ NN ≤ _; omega⟩
        have HKV := Lib.hid (HK7.out.trans hkv (fun _ _ q => q))
        have HOWV := Lib.hid (own_keepB HOW7.out hkv (fun _ _ q => q))
        have hrs : (pgA ⟨NN, pb⟩).size = 257 := pgA_size HPO.out
        have hcn9 := pg_new V2 ⟨NN, pb⟩
        obtain ⟨RR, hRR⟩ : ∃ RR, pgA ⟨NN, pb⟩ = RR := ⟨_, rfl⟩
        have HRR9 := Lib.hid hRR
        clear hkv hpb hpl
        go_wp2_with (first
          | (show wpList _ _ _ (⟨some 55, _, _, _, _, _⟩ :: _) _ _; refine wpList_val _ (exBuildPg2 _ _ _ _ NN pb HPL.out _ _ _ _ _ rfl rfl) ?_; rw [HRR9.out]; rw [HRR9.out] at hrs hcn9)
          | (at_builtin; refine wpList_append_ownB rfl _ _ 22 rfl w6.heap.size 113 j0 _ 257 264 Try.underlying22 HJ0.out HY0.out HY1.out HY2.out rfl (by omega) _ na (pgsCells acc) rfl (own_keepB HOWV.out ((Kp.refl NoB V2).alloc _) (fun _ _ q => q)) ⟨V2.heap.size, 0, none⟩ 1 1 (pgL ⟨NN, pb⟩) rfl (pgL_len HPO.out) hcn9 (pgL_one _) (by have h1 := HAC4.out; have h2 := HNA.out; unfold maxLen; omega) (by have h1 := HAC4.out; have h2 := HNA.out; omega) (by have h1 := HKV.out.size; simp; omega) ?_; intro v7 w8 hown7 hgrow7 _; have HO7 := Lib.hid hown7; have hk7 := (HKV.out.alloc (.cells RR 113)).own hgrow7 rfl HOWV.out; have HK8 := Lib.hid hk7; clear hown7 hgrow7 hk7))
        refine ⟨⟨k + 1, by have := HNN.out; rw [show ((k + 1 : Nat) : Int) + 1 = NN + 1 by omega], by have := HNN.out; omega, ?_, HK8.out⟩, by simp [intOf]; have := HNN.out; omega⟩
        rw [HUP.out]
        refine ⟨?_, fun y hy => ?_⟩
        · have h9 := HO7.out
          unfold pgsCells at h9 ⊢
          rw [List.flatMap_append, List.length_append, HNA.out]
          simpa using h9
        · rcases List.mem_append.1 hy with q | q
          · exact HOWA.out y q
          · rw [List.mem_singleton.1 q]; exact HPO.out
      · go_wp2_with fail
        refine (has_rok wq A m c l NN (HL.out.keep HKW.out) (by have := HM.out; omega)).mono ?_
        rintro e w7 ⟨rfl, hk7⟩
        have HK7 := Lib.hid (HKP.out.trans hk7 (fun _ _ q => q))
        have HOW7 := Lib.hid (own_keepB HOW.out hk7 (fun _ _ q => q))
        obtain ⟨b, hb⟩ : ∃ b, hasPg l NN = b := ⟨_, rfl⟩
        rw [hb]
        have HB := Lib.hid hb
        clear hb hk7
        rcases b with _ | _
        · have HUP : Hid (asideUp sn cn l (k + 1) = acc) := Lib.hid (by
            rw [HNX.out, if_neg, List.append_nil]
            rw [HB.out, Bool.or_false, decide_eq_true_iff]
            have := HNN.out
            omega)
          go_wp2_with fail
          go_roundw
          case rel => exact ⟨k + 1, by have := HNN.out; rw [show ((k + 1 : Nat) : Int) + 1 = NN + 1 by omega], by have := HNN.out; omega, by rw [HUP.out]; exact ⟨by rw [HNA.out]; exact HOW7.out, HOWA.out⟩, HK7.out⟩
          case measure => simp [intOf]; have := HNN.out; omega
        · have HUP : Hid (asideUp sn cn l (k + 1) = acc ++ [⟨NN, pageOf sn (k + 1)⟩]) := Lib.hid (by
            rw [HNX.out, if_pos]
            rw [HB.out, Bool.or_true])
          go_upto_region 15 with fail
          have hnr : 1 ≤ NN ∧ NN ≤ 1099511627776 := by have := HNN.out; have := HOLD4.out; omega
          go_wp2_with fail
          refine (show Calls _ _ #[.string (strOf sn), .int .i64 NN] _ _ from pageof_rok w7 sn NN HLKD.out.2 (by have := HLKD.out.1; omega) hnr).mono ?_
          rintro e V2 ⟨rfl, hkv⟩
          obtain ⟨pb, hpb⟩ : ∃ pb, pageOf sn (k + 1) = pb := ⟨_, rfl⟩
          rw [show NN.toNat = k + 1 by have := HNN.out; omega, hpb]
          rw [hpb] at HUP
          have hpl : pb.length = 256 := by rw [← hpb]; exact sizedF_len _ _
          have HPL := Lib.hid hpl
          have HPO : Hid (PgOk ⟨NN, pb⟩) := Lib.hid ⟨hpl, by rw [← hpb]; exact sizedF_rng (fun y hy => HLKD.out.2 y (List.mem_of_mem_drop hy)) 256, by show _ ≤ NN ∧ NN ≤ _; omega⟩
          have HKV := Lib.hid (HK7.out.trans hkv (fun _ _ q => q))
          have HOWV := Lib.hid (own_keepB HOW7.out hkv (fun _ _ q => q))
          have hrs : (pgA ⟨NN, pb⟩).size = 257 := pgA_size HPO.out
          have hcn9 := pg_new V2 ⟨NN, pb⟩
          obtain ⟨RR, hRR⟩ : ∃ RR, pgA ⟨NN, pb⟩ = RR := ⟨_, rfl⟩
          have HRR9 := Lib.hid hRR
          clear hkv hpb hpl
          go_wp2_with (first
            | (show wpList _ _ _ (⟨some 55, _, _, _, _, _⟩ :: _) _ _; refine wpList_val _ (exBuildPg2 _ _ _ _ NN pb HPL.out _ _ _ _ _ rfl rfl) ?_; rw [HRR9.out]; rw [HRR9.out] at hrs hcn9)
            | (at_builtin; refine wpList_append_ownB rfl _ _ 22 rfl w6.heap.size 113 j0 _ 257 264 Try.underlying22 HJ0.out HY0.out HY1.out HY2.out rfl (by omega) _ na (pgsCells acc) rfl (own_keepB HOWV.out ((Kp.refl NoB V2).alloc _) (fun _ _ q => q)) ⟨V2.heap.size, 0, none⟩ 1 1 (pgL ⟨NN, pb⟩) rfl (pgL_len HPO.out) hcn9 (pgL_one _) (by have h1 := HAC4.out; have h2 := HNA.out; unfold maxLen; omega) (by have h1 := HAC4.out; have h2 := HNA.out; omega) (by have h1 := HKV.out.size; simp; omega) ?_; intro v7 w8 hown7 hgrow7 _; have HO7 := Lib.hid hown7; have hk7 := (HKV.out.alloc (.cells RR 113)).own hgrow7 rfl HOWV.out; have HK8 := Lib.hid hk7; clear hown7 hgrow7 hk7))
          refine ⟨⟨k + 1, by have := HNN.out; rw [show ((k + 1 : Nat) : Int) + 1 = NN + 1 by omega], by have := HNN.out; omega, ?_, HK8.out⟩, by simp [intOf]; have := HNN.out; omega⟩
          rw [HUP.out]
          refine ⟨?_, fun y hy => ?_⟩
          · have h9 := HO7.out
            unfold pgsCells at h9 ⊢
            rw [List.flatMap_append, List.length_append, HNA.out]
            simpa using h9
          · rcases List.mem_append.1 hy with q | q
            · exact HOWA.out y q
            · rw [List.mem_singleton.1 q]; exact HPO.out
    · have hke : k = old := by have := HNN.out; have := hkk.out; omega
      have HAO : Hid (asidePg sn old cn l = acc) := Lib.hid (by rw [← hke]; exact HACC.out)
      have HAP : Hid (PgsAt wq A11 na acc) := Lib.hid (by
        have h1 : OwnPgs wq w6.heap.size (.slice A11 na c11) acc := ⟨by rw [HNA.out]; exact HOW.out, HOWA.out⟩
        exact (ownPgs_rows h1).2)
      have hna4 : na ≤ 4096 := by have h1 := HAC4.out; rw [HNA.out] at h1; exact h1
      have HNA4 := Lib.hid hna4
      have HAPK : Hid (∀ x ∈ acc, PgOk x ∧ 1 ≤ x.n ∧ x.n ≤ 1099511627776) := Lib.hid (by rw [← HACC.out]; exact asideUp_ok HLKD.out.2 (by have := hkk.out; have := HOLD4.out; omega))
      have HB0 := Lib.hid (HX0.out.keep hkp (fun q => q))
      have HB2 := Lib.hid (HX2.out.keep hkp (fun q => q))
      have HK := HKW
      clear hke hkp HACC hna4
      have hl0 := HB0.out.lt
      have hl2 := HB2.out.lt
      obtain ⟨c0, c1, c2, c3, c4, c5, c6, c7⟩ := HB0.out.rdc
      obtain ⟨y0, y1, y2, y3, y4, y5, y6, y7⟩ := HB2.out.c8
      obtain ⟨z0, z1, z2, z3, z4, z5, z6, z7⟩ := HB2.out.z8
      go_wp2_with fail
      refine (show Calls _ _ #[rdV d p, .string nmJn] _ _ from seen_ok _ d p nmJn (H.out.keep HK.out) HNF.out).mono ?_
      rintro e w7 ⟨rfl, hk7⟩
      have HAP7 := Lib.hid (HAP.out.keep hk7)
      have HB0' := Lib.hid (HB0.out.keep hk7 (fun q => q))
      have HB2' := Lib.hid (HB2.out.keep hk7 (fun q => q))
      have HK' := Lib.hid (HK.out.trans hk7 (fun _ _ q => q))
      clear hk7 HB0 HB2 HK
      have HB0 := HB0'
      have HB2 := HB2'
      have HK := HK'
      clear HB0' HB2' HK' c0 c1 c2 c3 c4 c5 c6 c7 y0 y1 y2 y3 y4 y5 y6 y7 z0 z1 z2 z3 z4 z5 z6 z7 hl0 hl2
      have hl0 := HB0.out.lt
      have hl2 := HB2.out.lt
      obtain ⟨c0, c1, c2, c3, c4, c5, c6, c7⟩ := HB0.out.rdc
      obtain ⟨y0, y1, y2, y3, y4, y5, y6, y7⟩ := HB2.out.c8
      obtain ⟨z0, z1, z2, z3, z4, z5, z6, z7⟩ := HB2.out.z8
      go_wp2_with fail
      refine (says_rok w7 (p.seen nmJn) HLKJ.out.2 (by have := HLKJ.out.1; omega)).mono ?_
      rintro e w8 ⟨rfl, hk8⟩
      have HAP8 := Lib.hid (HAP7.out.keep hk8)
      have HB0' := Lib.hid (HB0.out.keep hk8 (fun q => q))
      have HB2' := Lib.hid (HB2.out.keep hk8 (fun q => q))
      have HK' := Lib.hid (HK.out.trans hk8 (fun _ _ q => q))
      clear hk8 HB0 HB2 HK
      have HB0 := HB0'
      have HB2 := HB2'
      have HK := HK'
      clear HB0' HB2' HK' c0 c1 c2 c3 c4 c5 c6 c7 y0 y1 y2 y3 y4 y5 y6 y7 z0 z1 z2 z3 z4 z5 z6 z7 hl0 hl2
      have hl0 := HB0.out.lt
      have hl2 := HB2.out.lt
      obtain ⟨c0, c1, c2, c3, c4, c5, c6, c7⟩ := HB0.out.rdc
      obtain ⟨y0, y1, y2, y3, y4, y5, y6, y7⟩ := HB2.out.c8
      obtain ⟨z0, z1, z2, z3, z4, z5, z6, z7⟩ := HB2.out.z8
      obtain ⟨v, hv⟩ : ∃ v, says (p.seen nmJn) = v := ⟨_, rfl⟩
      have HV := Lib.hid hv
      have hvo : W4Ok v := by rw [← hv]; exact says_ok HLKJ.out.2
      rw [hv]
      have HVR : Hid (W4R v) := Lib.hid (by have h1 := hvo.a; have h2 := hvo.b; have h3 := hvo.c; have h4 := hvo.d; exact ⟨by omega, by omega, by omega, by omega⟩)
      clear hv hvo
      unfold w4V
      go_wp2_with fail
      refine (show Calls _ _ #[.string nmJn, w4V v] _ _ from head_rok w8 nmJn v HVR.out).mono ?_
      rintro e w9 ⟨v13, rfl, ho13, hk9⟩
      have HO13 := Lib.hid ho13
      have HK89 := Lib.hid hk9
      have HAP9 := Lib.hid (HAP8.out.keep hk9)
      have HXB0 := HB0
      have HXB2 := HB2
      have HXKK := HK
      clear ho13 hk9 HB0 HB2 HK c0 c1 c2 c3 c4 c5 c6 c7 y0 y1 y2 y3 y4 y5 y6 y7 z0 z1 z2 z3 z4 z5 z6 z7 hl0 hl2
      go_wp2_with fail
      refine (aside_rok w9 A11 na c11 acc HAP9.out HAPK.out (by have := HNA4.out; omega)).mono ?_
      rintro e w10 ⟨v64, rfl, ho64, hk10⟩
      have HO64 := Lib.hid ho64
      have HO13' := Lib.hid (HO13.out.keep hk10)
      have HK810 := Lib.hid (HK89.out.trans hk10 (fun _ _ q => q))
      have HASL : Hid ((asideS acc).length = na + 1) := Lib.hid (by unfold asideS; rw [List.length_append, asideW_len2, HNA.out]; rfl)
      have hlen1 : Hid ((headS nmJn v).length + (asideS acc).length ≤ 1099511627776) := Lib.hid (by rw [HASL.out]; show 2 + (na + 1) ≤ _; have := HNA4.out; omega)
      clear ho64 hk10
      have hwna : IntKind.i64.wrap ((na : Int) + 1) = (na : Int) + 1 := by have := HNA4.out; rw [IntKind.wrap_i64]; omega
      go_wp2_with (at_builtin; refine wpList_append_st rfl _ _ rfl w8.heap.size w9.heap.size _ _ (headS nmJn v) (asideS acc) rfl HO13'.out rfl HO64.out hlen1.out HK810.out.size ?_; intro v11' w11 ho11 hg11; have HO11 := Lib.hid ho11; have HK811 := Lib.hid (HK810.out.own hg11 rfl HO13'.out); clear ho11 hg11)
      have hn64 : W4R ⟨(na : Int) + 1, (old : Int), 0, 0⟩ := ⟨by show (-9223372036854775808 : Int) ≤ (na : Int) + 1 ∧ (na : Int) + 1 ≤ 9223372036854775807; have := HNA4.out; omega, by show (-9223372036854775808 : Int) ≤ (old : Int) ∧ (old : Int) ≤ 9223372036854775807; have := HOLD4.out; omega, by show (-9223372036854775808 : Int) ≤ 0 ∧ (0 : Int) ≤ 9223372036854775807; omega, by show (-9223372036854775808 : Int) ≤ 0 ∧ (0 : Int) ≤ 9223372036854775807; omega⟩
      refine (show Calls _ _ #[.string nmJn, w4V ⟨(na : Int) + 1, (old : Int), 0, 0⟩] _ _ from head_rok w11 nmJn _ hn64).mono ?_
      rintro e w12 ⟨v72, rfl, ho72, hk12⟩
      have HO72 := Lib.hid ho72
      have HOF' := Lib.hid (HO11.out.keep hk12)
      have HK812 := Lib.hid (HK811.out.trans hk12 (fun _ _ q => q))
      have hlen2 : Hid ((headS nmJn v ++ asideS acc).length + (headS nmJn ⟨(na : Int) + 1, (old : Int), 0, 0⟩).length ≤ 1099511627776) := Lib.hid (by rw [List.length_append, HASL.out]; show 2 + (na + 1) + 2 ≤ _; have := HNA4.out; omega)
      clear ho72 hk12 hn64 hlen1 HO11 HK811 HO13 HO13' HK89 HK810 HO64 hwna
      go_upto_region 19 with (at_builtin; go_loud (refine wpList_append_st rfl _ _ rfl w8.heap.size w11.heap.size _ _ (headS nmJn v ++ asideS acc) (headS nmJn ⟨(na : Int) + 1, (old : Int), 0, 0⟩) rfl HOF'.out rfl HO72.out hlen2.out HK812.out.size ?_); intro v13' w13 ho13 hg13; have HO13 := Lib.hid ho13; have HK813 := Lib.hid (HK812.out.own hg13 rfl HOF'.out); clear ho13 hg13)
      have HB0 := Lib.hid (HXB0.out.keep HK813.out (fun q => q))
      have HB2 := Lib.hid (HXB2.out.keep HK813.out (fun q => q))
      have HK := Lib.hid (HXKK.out.trans HK813.out (fun _ _ q => q))
      have hl0 := HB0.out.lt
      have hl2 := HB2.out.lt
      obtain ⟨c0, c1, c2, c3, c4, c5, c6, c7⟩ := HB0.out.rdc
      obtain ⟨y0, y1, y2, y3, y4, y5, y6, y7⟩ := HB2.out.c8
      obtain ⟨z0, z1, z2, z3, z4, z5, z6, z7⟩ := HB2.out.z8
      obtain ⟨F, hF⟩ : ∃ F, headS nmJn v ++ asideS acc ++ headS nmJn ⟨(na : Int) + 1, (old : Int), 0, 0⟩ = F := ⟨_, rfl⟩
      have hFJ : p.jfirst cn l = F := by
        rw [← hF]
        unfold Pl.jfirst Pl.jhead firstS
        rw [HV.out, HOLD.out, HSN.out, Int.toNat_natCast, HAO.out, HNA.out, List.append_assoc]
      have hFL : F.length = na + 5 := by rw [← hF, List.length_append, List.length_append, HASL.out]; show 2 + (na + 1) + 2 = _; omega
      have HFL := Lib.hid hFL
      rw [hF] at HO13
      have hFS : ∀ s ∈ F, StOk s := fun s hs => by
        rw [← hF] at hs
        rcases List.mem_append.1 hs with q | q
        · rcases List.mem_append.1 q with q | q
          · exact st_head v s q
          · exact st_aside (fun x hx => (HAPK.out x hx).1) (by rw [HNA.out]; have := HNA4.out; omega) s q
        · exact st_head _ s q
      have HFS := Lib.hid hFS
      obtain ⟨A13, c13, hv13⟩ := own_slice HO13.out
      rw [hFL] at hv13
      subst hv13
      have HROW : Hid (RowsC w13 A13 (na + 5) 4 (F.map stC)) := Lib.hid (OwnSt.rows HO13.out).2
      have HJC : Hid (p.jcommit cn l = (if (p.runS F).2 ≠ 0 then ((p.runS F).1, fullE (p.runS F).2) else if ((p.runS F).1.runS (secondS cn l)).2 = 5 then (if ((p.runS F).1.runS (secondS cn l)).1.jrecover.2.2 ≠ 0 then (((p.runS F).1.runS (secondS cn l)).1.jrecover.1, ((p.runS F).1.runS (secondS cn l)).1.jrecover.2.2) else (((p.runS F).1.runS (secondS cn l)).1.jrecover.1, 5)) else (p.runS F).1.runS (secondS cn l))) := Lib.hid (by
        unfold Pl.jcommit
        rw [HD.out, HOLD.out, HFT.out, HH.out, hFJ]
        rfl)
      have HQ1 : Hid ((p.runS F).1.sm 900000000) := Lib.hid (sm_run F (sm_mono HSM.out (by rw [hFL]; have := HNA4.out; omega)))
      clear hF hFJ hFL hFS HO13 HXB0 HXB2 HXKK HX0 HX2 HXK HOW HOWA HAP HAP7 HAP8 HAP9 hlen2 HASL HAO HAPK HO72 HOF' HK812 HK813 HKP HKW
      go_wp2_with fail
      refine (show Calls _ _ #[rdV d p, .slice A13 (na + 5) c13] _ _ from make_rok w13 d p A13 (na + 5) c13 F (H.out.keep HK.out) HROW.out HFS.out (by have := HNA4.out; omega) (sm_mono HSM.out (by rw [HFL.out]; have := HNA4.out; omega))).mono ?_
      rintro e w14 ⟨d14, i14, rfl, h14, hk14⟩
      have HR14 := Lib.hid h14
      have HB0' := Lib.hid (HB0.out.keep hk14 (fun q => q))
      have HB2' := Lib.hid (HB2.out.keep hk14 (fun q => q))
      have HK' := Lib.hid (HK.out.trans hk14 (fun _ _ q => q))
      clear hk14 HB0 HB2 HK
      have HB0 := HB0'
      have HB2 := HB2'
      have HK := HK'
      clear HB0' HB2' HK' c0 c1 c2 c3 c4 c5 c6 c7 y0 y1 y2 y3 y4 y5 y6 y7 z0 z1 z2 z3 z4 z5 z6 z7 hl0 hl2
      have hl0 := HB0.out.lt
      have hl2 := HB2.out.lt
      obtain ⟨c0, c1, c2, c3, c4, c5, c6, c7⟩ := HB0.out.rdc
      obtain ⟨y0, y1, y2, y3, y4, y5, y6, y7⟩ := HB2.out.c8
      obtain ⟨z0, z1, z2, z3, z4, z5, z6, z7⟩ := HB2.out.z8
      clear h14
      obtain ⟨q1, E1, hqE⟩ : ∃ q E, p.runS F = (q, E) := ⟨_, _, rfl⟩
      rw [hqE] at HR14 HJC HQ1 ⊢
      clear hqE
      obtain ⟨x0, x1, x2, x3, x4, x5, x6, x7⟩ := HB0.out.z8
      unfold rdV
      go_upto_region 20 with fail
      have kz0 : w.heap.size ≤ s0 := by have := HS0.out; omega
      have hb4 : Blk (((((((((w14.setCell ⟨s0, 0, none⟩ (.bool true)).setCell ⟨s0, 1, none⟩ (.bool q1.down)).setCell ⟨s0, 2, none⟩ (.slice d14.fA d14.fn d14.fc)).setCell ⟨s0, 3, none⟩ (.slice d14.pA d14.pn d14.pc)).setCell ⟨s0, 4, none⟩ (.int .i64 q1.room)).setCell ⟨s0, 5, none⟩ (.int .i64 q1.steps)).setCell ⟨s0, 6, none⟩ (.int .i64 q1.crash)).setCell ⟨s0, 7, none⟩ (.int .i64 q1.starts))) s0 56 (rdC d14 q1) := blk8 HB0.out rfl
      have hq4 : Kp (OnB s0) w14 (((((((((w14.setCell ⟨s0, 0, none⟩ (.bool true)).setCell ⟨s0, 1, none⟩ (.bool q1.down)).setCell ⟨s0, 2, none⟩ (.slice d14.fA d14.fn d14.fc)).setCell ⟨s0, 3, none⟩ (.slice d14.pA d14.pn d14.pc)).setCell ⟨s0, 4, none⟩ (.int .i64 q1.room)).setCell ⟨s0, 5, none⟩ (.int .i64 q1.steps)).setCell ⟨s0, 6, none⟩ (.int .i64 q1.crash)).setCell ⟨s0, 7, none⟩ (.int .i64 q1.starts))) := kp8 (Kp.refl _ w14) (.inr rfl)
      have hr4 : Rf (((((((((w14.setCell ⟨s0, 0, none⟩ (.bool true)).setCell ⟨s0, 1, none⟩ (.bool q1.down)).setCell ⟨s0, 2, none⟩ (.slice d14.fA d14.fn d14.fc)).setCell ⟨s0, 3, none⟩ (.slice d14.pA d14.pn d14.pc)).setCell ⟨s0, 4, none⟩ (.int .i64 q1.room)).setCell ⟨s0, 5, none⟩ (.int .i64 q1.steps)).setCell ⟨s0, 6, none⟩ (.int .i64 q1.crash)).setCell ⟨s0, 7, none⟩ (.int .i64 q1.starts))) d14 (q1) := (HR14.out).keepB hq4 HB0.out (rdC_str _ _)
      have hz4 : Blk (((((((((w14.setCell ⟨s0, 0, none⟩ (.bool true)).setCell ⟨s0, 1, none⟩ (.bool q1.down)).setCell ⟨s0, 2, none⟩ (.slice d14.fA d14.fn d14.fc)).setCell ⟨s0, 3, none⟩ (.slice d14.pA d14.pn d14.pc)).setCell ⟨s0, 4, none⟩ (.int .i64 q1.room)).setCell ⟨s0, 5, none⟩ (.int .i64 q1.steps)).setCell ⟨s0, 6, none⟩ (.int .i64 q1.crash)).setCell ⟨s0, 7, none⟩ (.int .i64 q1.starts))) (s0 + 1) 56 rdZ := HB2.out.keep hq4 (fun q => by have q' : s0 + 1 = s0 := q; omega)
      have hw4 : Kp NoB w (((((((((w14.setCell ⟨s0, 0, none⟩ (.bool true)).setCell ⟨s0, 1, none⟩ (.bool q1.down)).setCell ⟨s0, 2, none⟩ (.slice d14.fA d14.fn d14.fc)).setCell ⟨s0, 3, none⟩ (.slice d14.pA d14.pn d14.pc)).setCell ⟨s0, 4, none⟩ (.int .i64 q1.room)).setCell ⟨s0, 5, none⟩ (.int .i64 q1.steps)).setCell ⟨s0, 6, none⟩ (.int .i64 q1.crash)).setCell ⟨s0, 7, none⟩ (.int .i64 q1.starts))) := kp8 HK.out (.inl kz0)
      clear hq4 HB0 HB2 HK
      generalize ((((((((w14.setCell ⟨s0, 0, none⟩ (.bool true)).setCell ⟨s0, 1, none⟩ (.bool q1.down)).setCell ⟨s0, 2, none⟩ (.slice d14.fA d14.fn d14.fc)).setCell ⟨s0, 3, none⟩ (.slice d14.pA d14.pn d14.pc)).setCell ⟨s0, 4, none⟩ (.int .i64 q1.room)).setCell ⟨s0, 5, none⟩ (.int .i64 q1.steps)).setCell ⟨s0, 6, none⟩ (.int .i64 q1.crash)).setCell ⟨s0, 7, none⟩ (.int .i64 q1.starts)) = w15 at hb4 hr4 hz4 hw4 ⊢
      have HB0 := Lib.hid hb4
      have HB2 := Lib.hid hz4
      have HK := Lib.hid hw4
      have HR := Lib.hid hr4
      clear hb4 hz4 hw4 hr4 c0 c1 c2 c3 c4 c5 c6 c7 y0 y1 y2 y3 y4 y5 y6 y7 z0 z1 z2 z3 z4 z5 z6 z7 hl0 hl2 kz0
      have hl0 := HB0.out.lt
      have hl2 := HB2.out.lt
      obtain ⟨c0, c1, c2, c3, c4, c5, c6, c7⟩ := HB0.out.rdc
      obtain ⟨y0, y1, y2, y3, y4, y5, y6, y7⟩ := HB2.out.c8
      obtain ⟨z0, z1, z2, z3, z4, z5, z6, z7⟩ := HB2.out.z8
      by_cases hE3 : E1 = 3
      · subst hE3
        have HRUN : Hid (p.jcommit cn l = (q1, 5)) := Lib.hid (by rw [HJC.out]; rfl)
        go_wp2_with fail
        exact bodyPost_ret (ret_cell_tmp rfl _ _ _ _ _ _ rfl (blk8 HB2.out rfl) Try.underlying56 rfl (by exact infoRd) _ rfl) rfl ⟨d14, by rw [HRUN.out]; rfl, by rw [HRUN.out]; exact HR.out.keepB (kp8 (Kp.refl _ w15) (.inr rfl)) HB2.out rdZ_str, kp8 HK.out (.inl kz)⟩
      have hE3' : (E1 == 3) = false := by simpa using hE3
      by_cases hE : E1 = 0
      rotate_left
      · have hE2 : (E1 == 0) = false := by simpa using hE
        have HRUN : Hid (p.jcommit cn l = (q1, E1)) := Lib.hid (by rw [HJC.out]; show (if E1 ≠ 0 then (q1, fullE E1) else _) = _; rw [if_pos hE]; unfold fullE; rw [if_neg hE3])
        clear hE hE3
        go_wp2_with fail
        exact bodyPost_ret (ret_cell_tmp rfl _ _ _ _ _ _ rfl (blk8 HB2.out rfl) Try.underlying56 rfl (by exact infoRd) _ rfl) rfl ⟨d14, by rw [HRUN.out]; rfl, by rw [HRUN.out]; exact HR.out.keepB (kp8 (Kp.refl _ w15) (.inr rfl)) HB2.out rdZ_str, kp8 HK.out (.inl kz)⟩
      subst hE
      clear hE3 hE3'
      have hbu := buildI0
      have hlc := chain_len (cn : Int) l 0 HFI.out.2.1 (by omega)
      have hLO : ∀ x ∈ l, PgOk x ∧ 1 ≤ x.n ∧ x.n ≤ 1099511627776 := fun x hx => ⟨HOK.out x hx, by have := hlc.2 x hx; omega, by have := hlc.2 x hx; have := HCN4.out; omega⟩
      have HLO := Lib.hid hLO
      have HCR : Hid (-1099511627776 ≤ (cn : Int) ∧ (cn : Int) ≤ 1099511627776) := Lib.hid (by have := HCN4.out; omega)
      clear hlc hLO
      go_wp2_with fail
      refine (home_rok w15 (cn : Int) A m c l (HL.out.keep HK.out) HLO.out (by have := HM.out; omega) HCR.out).mono ?_
      rintro e w16 ⟨v89, rfl, ho89, hk16⟩
      have HO89 := Lib.hid ho89
      have HX0 := Lib.hid HB0.out
      have HX2 := Lib.hid HB2.out
      have HXK := Lib.hid HK.out
      have HRX := Lib.hid HR.out
      have HK16 := Lib.hid hk16
      have HHL : Hid ((homeS (cn : Int) l).length = m + 2) := Lib.hid (by unfold homeS; rw [List.length_append, homeW_len, HLEN.out]; rfl)
      clear ho89 hk16 HB0 HB2 HK HR c0 c1 c2 c3 c4 c5 c6 c7 y0 y1 y2 y3 y4 y5 y6 y7 z0 z1 z2 z3 z4 z5 z6 z7 hl0 hl2 x0 x1 x2 x3 x4 x5 x6 x7
      go_wp2_with fail
      have hz4 : W4R ⟨0, 0, 0, 0⟩ := ⟨by show (-9223372036854775808 : Int) ≤ 0 ∧ (0 : Int) ≤ 9223372036854775807; omega, by show (-9223372036854775808 : Int) ≤ 0 ∧ (0 : Int) ≤ 9223372036854775807; omega, by show (-9223372036854775808 : Int) ≤ 0 ∧ (0 : Int) ≤ 9223372036854775807; omega, by show (-9223372036854775808 : Int) ≤ 0 ∧ (0 : Int) ≤ 9223372036854775807; omega⟩
      refine (show Calls _ _ #[.string nmJn, w4V ⟨0, 0, 0, 0⟩] _ _ from head_rok w16 nmJn ⟨0, 0, 0, 0⟩ hz4).mono ?_
      rintro e w17 ⟨v91, rfl, ho91, hk17⟩
      have HO91 := Lib.hid ho91
      have HO89' := Lib.hid (HO89.out.keep hk17)
      have HK1517 := Lib.hid (HK16.out.trans hk17 (fun _ _ q => q))
      have hlen3 : Hid ((homeS (cn : Int) l).length + (headS nmJn ⟨0, 0, 0, 0⟩).length ≤ 1099511627776) := Lib.hid (by rw [HHL.out]; show m + 2 + 2 ≤ _; have := HM.out; omega)
      clear ho91 hk17 hz4 HO89
      go_upto_region 25 with (at_builtin; go_loud (refine wpList_append_st rfl _ _ rfl w15.heap.size w16.heap.size _ _ (homeS (cn : Int) l) (headS nmJn ⟨0, 0, 0, 0⟩) rfl HO89'.out rfl HO91.out hlen3.out HK1517.out.size ?_); intro v14' w18 ho18 hg18; have HO18 := Lib.hid ho18; have HK1518 := Lib.hid (HK1517.out.own hg18 rfl HO89'.out); clear ho18 hg18)
      have HB0 := Lib.hid (HX0.out.keep HK1518.out (fun q => q))
      have HB2 := Lib.hid (HX2.out.keep HK1518.out (fun q => q))
      have HK := Lib.hid (HXK.out.trans HK1518.out (fun _ _ q => q))
      have HR18 := Lib.hid (HRX.out.keep HK1518.out)
      have hl0 := HB0.out.lt
      have hl2 := HB2.out.lt
      obtain ⟨c0, c1, c2, c3, c4, c5, c6, c7⟩ := HB0.out.rdc
      obtain ⟨y0, y1, y2, y3, y4, y5, y6, y7⟩ := HB2.out.c8
      obtain ⟨z0, z1, z2, z3, z4, z5, z6, z7⟩ := HB2.out.z8
      obtain ⟨G, hG⟩ : ∃ G, secondS (cn : Int) l = G := ⟨_, rfl⟩
      have hG0 : homeS (cn : Int) l ++ headS nmJn ⟨0, 0, 0, 0⟩ = G := hG
      have hGL : G.length = m + 4 := by rw [← hG0, List.length_append, HHL.out]; rfl
      have HGL := Lib.hid hGL
      rw [hG0] at HO18
      have HGS : Hid (∀ s ∈ G, StOk s) := Lib.hid fun s hs => by
        rw [← hG0] at hs
        rcases List.mem_append.1 hs with q | q
        · exact st_home HCR.out HLO.out s q
        · exact st_head _ s q
      obtain ⟨A18, c18, hv18⟩ := own_slice HO18.out
      rw [hGL] at hv18
      subst hv18
      have HROW2 : Hid (RowsC w18 A18 (m + 4) 4 (G.map stC)) := Lib.hid (OwnSt.rows HO18.out).2
      have HJ2 : Hid (p.jcommit cn l = if (q1.runS G).2 = 5 then (if (q1.runS G).1.jrecover.2.2 ≠ 0 then ((q1.runS G).1.jrecover.1, (q1.runS G).1.jrecover.2.2) else ((q1.runS G).1.jrecover.1, 5)) else q1.runS G) := Lib.hid (by rw [HJC.out, hG]; rfl)
      have HQ2 : Hid ((q1.runS G).1.sm 100000000) := Lib.hid (sm_run G (sm_mono HQ1.out (by rw [hGL]; have := HM.out; omega)))
      clear hG hG0 hGL HO18 HX0 HX2 HXK HRX HK16 HK1517 HK1518 HO89' HO91 HHL hlen3 HJC HROW
      go_wp2_with fail
      refine (show Calls _ _ #[rdV d14 q1, .slice A18 (m + 4) c18] _ _ from make_rok w18 d14 q1 A18 (m + 4) c18 G HR18.out HROW2.out HGS.out (by have := HM.out; omega) (sm_mono HQ1.out (by rw [HGL.out]; have := HM.out; omega))).mono ?_
      rintro e w19 ⟨d19, i19, rfl, h19, hk19⟩
      have HR19 := Lib.hid h19
      have HB0' := Lib.hid (HB0.out.keep hk19 (fun q => q))
      have HB2' := Lib.hid (HB2.out.keep hk19 (fun q => q))
      have HK' := Lib.hid (HK.out.trans hk19 (fun _ _ q => q))
      clear hk19 HB0 HB2 HK
      have HB0 := HB0'
      have HB2 := HB2'
      have HK := HK'
      clear HB0' HB2' HK' c0 c1 c2 c3 c4 c5 c6 c7 y0 y1 y2 y3 y4 y5 y6 y7 z0 z1 z2 z3 z4 z5 z6 z7 hl0 hl2
      have hl0 := HB0.out.lt
      have hl2 := HB2.out.lt
      obtain ⟨c0, c1, c2, c3, c4, c5, c6, c7⟩ := HB0.out.rdc
      obtain ⟨y0, y1, y2, y3, y4, y5, y6, y7⟩ := HB2.out.c8
      obtain ⟨z0, z1, z2, z3, z4, z5, z6, z7⟩ := HB2.out.z8
      clear h19 HR18
      obtain ⟨q2, E2, hqE⟩ : ∃ q E, q1.runS G = (q, E) := ⟨_, _, rfl⟩
      rw [hqE] at HR19 HJ2 HQ2 ⊢
      clear hqE
      obtain ⟨x0, x1, x2, x3, x4, x5, x6, x7⟩ := HB0.out.z8
      unfold rdV
      go_upto_region 26 with fail
      have kz0 : w.heap.size ≤ s0 := by have := HS0.out; omega
      have hb4 : Blk (((((((((w19.setCell ⟨s0, 0, none⟩ (.bool true)).setCell ⟨s0, 1, none⟩ (.bool q2.down)).setCell ⟨s0, 2, none⟩ (.slice d19.fA d19.fn d19.fc)).setCell ⟨s0, 3, none⟩ (.slice d19.pA d19.pn d19.pc)).setCell ⟨s0, 4, none⟩ (.int .i64 q2.room)).setCell ⟨s0, 5, none⟩ (.int .i64 q2.steps)).setCell ⟨s0, 6, none⟩ (.int .i64 q2.crash)).setCell ⟨s0, 7, none⟩ (.int .i64 q2.starts))) s0 56 (rdC d19 q2) := blk8 HB0.out rfl
      have hq4 : Kp (OnB s0) w19 (((((((((w19.setCell ⟨s0, 0, none⟩ (.bool true)).setCell ⟨s0, 1, none⟩ (.bool q2.down)).setCell ⟨s0, 2, none⟩ (.slice d19.fA d19.fn d19.fc)).setCell ⟨s0, 3, none⟩ (.slice d19.pA d19.pn d19.pc)).setCell ⟨s0, 4, none⟩ (.int .i64 q2.room)).setCell ⟨s0, 5, none⟩ (.int .i64 q2.steps)).setCell ⟨s0, 6, none⟩ (.int .i64 q2.crash)).setCell ⟨s0, 7, none⟩ (.int .i64 q2.starts))) := kp8 (Kp.refl _ w19) (.inr rfl)
      have hr4 : Rf (((((((((w19.setCell ⟨s0, 0, none⟩ (.bool true)).setCell ⟨s0, 1, none⟩ (.bool q2.down)).setCell ⟨s0, 2, none⟩ (.slice d19.fA d19.fn d19.fc)).setCell ⟨s0, 3, none⟩ (.slice d19.pA d19.pn d19.pc)).setCell ⟨s0, 4, none⟩ (.int .i64 q2.room)).setCell ⟨s0, 5, none⟩ (.int .i64 q2.steps)).setCell ⟨s0, 6, none⟩ (.int .i64 q2.crash)).setCell ⟨s0, 7, none⟩ (.int .i64 q2.starts))) d19 (q2) := (HR19.out).keepB hq4 HB0.out (rdC_str _ _)
      have hz4 : Blk (((((((((w19.setCell ⟨s0, 0, none⟩ (.bool true)).setCell ⟨s0, 1, none⟩ (.bool q2.down)).setCell ⟨s0, 2, none⟩ (.slice d19.fA d19.fn d19.fc)).setCell ⟨s0, 3, none⟩ (.slice d19.pA d19.pn d19.pc)).setCell ⟨s0, 4, none⟩ (.int .i64 q2.room)).setCell ⟨s0, 5, none⟩ (.int .i64 q2.steps)).setCell ⟨s0, 6, none⟩ (.int .i64 q2.crash)).setCell ⟨s0, 7, none⟩ (.int .i64 q2.starts))) (s0 + 1) 56 rdZ := HB2.out.keep hq4 (fun q => by have q' : s0 + 1 = s0 := q; omega)
      have hw4 : Kp NoB w (((((((((w19.setCell ⟨s0, 0, none⟩ (.bool true)).setCell ⟨s0, 1, none⟩ (.bool q2.down)).setCell ⟨s0, 2, none⟩ (.slice d19.fA d19.fn d19.fc)).setCell ⟨s0, 3, none⟩ (.slice d19.pA d19.pn d19.pc)).setCell ⟨s0, 4, none⟩ (.int .i64 q2.room)).setCell ⟨s0, 5, none⟩ (.int .i64 q2.steps)).setCell ⟨s0, 6, none⟩ (.int .i64 q2.crash)).setCell ⟨s0, 7, none⟩ (.int .i64 q2.starts))) := kp8 HK.out (.inl kz0)
      clear hq4 HB0 HB2 HK
      generalize ((((((((w19.setCell ⟨s0, 0, none⟩ (.bool true)).setCell ⟨s0, 1, none⟩ (.bool q2.down)).setCell ⟨s0, 2, none⟩ (.slice d19.fA d19.fn d19.fc)).setCell ⟨s0, 3, none⟩ (.slice d19.pA d19.pn d19.pc)).setCell ⟨s0, 4, none⟩ (.int .i64 q2.room)).setCell ⟨s0, 5, none⟩ (.int .i64 q2.steps)).setCell ⟨s0, 6, none⟩ (.int .i64 q2.crash)).setCell ⟨s0, 7, none⟩ (.int .i64 q2.starts)) = w20 at hb4 hr4 hz4 hw4 ⊢
      have HB0 := Lib.hid hb4
      have HB2 := Lib.hid hz4
      have HK := Lib.hid hw4
      have HR := Lib.hid hr4
      clear hb4 hz4 hw4 hr4 c0 c1 c2 c3 c4 c5 c6 c7 y0 y1 y2 y3 y4 y5 y6 y7 z0 z1 z2 z3 z4 z5 z6 z7 hl0 hl2 kz0
      have hl0 := HB0.out.lt
      have hl2 := HB2.out.lt
      obtain ⟨c0, c1, c2, c3, c4, c5, c6, c7⟩ := HB0.out.rdc
      obtain ⟨y0, y1, y2, y3, y4, y5, y6, y7⟩ := HB2.out.c8
      obtain ⟨z0, z1, z2, z3, z4, z5, z6, z7⟩ := HB2.out.z8
      by_cases hE5 : E2 = 5
      rotate_left
      · have hE2 : (E2 == 5) = false := by simpa using hE5
        have HRUN : Hid (p.jcommit cn l = (q2, E2)) := Lib.hid (by rw [HJ2.out]; show (if E2 = 5 then _ else (q2, E2)) = _; rw [if_neg hE5])
        clear hE5
        go_wp2_with fail
        exact bodyPost_ret (ret_cell_tmp rfl _ _ _ _ _ _ rfl (blk8 HB2.out rfl) Try.underlying56 rfl (by exact infoRd) _ rfl) rfl ⟨d19, by rw [HRUN.out]; rfl, by rw [HRUN.out]; exact HR.out.keepB (kp8 (Kp.refl _ w20) (.inr rfl)) HB2.out rdZ_str, kp8 HK.out (.inl kz)⟩
      subst hE5
      go_wp2_with fail
      refine (show Calls _ _ #[rdV d19 q2] _ _ from recover_rok w20 d19 q2 (HR.out) HQ2.out).mono ?_
      rintro e w21 ⟨d21, rfl, h21, hk21⟩
      have HR21 := Lib.hid h21
      have HB0' := Lib.hid (HB0.out.keep hk21 (fun q => q))
      have HB2' := Lib.hid (HB2.out.keep hk21 (fun q => q))
      have HK' := Lib.hid (HK.out.trans hk21 (fun _ _ q => q))
      clear hk21 HB0 HB2 HK
      have HB0 := HB0'
      have HB2 := HB2'
      have HK := HK'
      clear HB0' HB2' HK' c0 c1 c2 c3 c4 c5 c6 c7 y0 y1 y2 y3 y4 y5 y6 y7 z0 z1 z2 z3 z4 z5 z6 z7 hl0 hl2
      have hl0 := HB0.out.lt
      have hl2 := HB2.out.lt
      obtain ⟨c0, c1, c2, c3, c4, c5, c6, c7⟩ := HB0.out.rdc
      obtain ⟨y0, y1, y2, y3, y4, y5, y6, y7⟩ := HB2.out.c8
      obtain ⟨z0, z1, z2, z3, z4, z5, z6, z7⟩ := HB2.out.z8
      clear h21 HR
      obtain ⟨q3, b3, E3, hqE⟩ : ∃ q b E, q2.jrecover = (q, b, E) := ⟨_, _, _, rfl⟩
      rw [hqE] at HR21 HJ2 ⊢
      clear hqE
      unfold rdV
      go_upto_region 28 with fail
      have hg2 : Blk (w21.alloc (.cells (rdC d21 q3) 56)) w21.heap.size 56 (rdC d21 q3) := Blk.new _ _ _
      have hk22 : Kp NoB w21 (w21.alloc (.cells (rdC d21 q3) 56)) := (Kp.refl NoB w21).alloc _
      have h22 : Rf (w21.alloc (.cells (rdC d21 q3) 56)) d21 q3 := HR21.out.keep hk22
      unfold rdC at hg2 hk22 h22
      generalize hg : w21.heap.size = g at hg2 ⊢
      have hgl : s0 + 1 < g := by have := HB2.out.lt; omega
      generalize (w21.alloc (.cells #[.bool true, .bool q3.down, .slice d21.fA d21.fn d21.fc, .slice d21.pA d21.pn d21.pc, .int .i64 q3.room, .int .i64 q3.steps, .int .i64 q3.crash, .int .i64 q3.starts] 56)) = w22 at hg2 hk22 h22 ⊢
      have HG2 := Lib.hid (show Blk w22 g 56 (rdC d21 q3) from hg2)
      have HR22 := Lib.hid h22
      have HB0' := Lib.hid (HB0.out.keep hk22 (fun q => q))
      have HB2' := Lib.hid (HB2.out.keep hk22 (fun q => q))
      have HK' := Lib.hid (HK.out.trans hk22 (fun _ _ q => q))
      clear hk22 HB0 HB2 HK
      have HB0 := HB0'
      have HB2 := HB2'
      have HK := HK'
      clear HB0' HB2' HK' c0 c1 c2 c3 c4 c5 c6 c7 y0 y1 y2 y3 y4 y5 y6 y7 z0 z1 z2 z3 z4 z5 z6 z7 hl0 hl2
      have hl0 := HB0.out.lt
      have hl2 := HB2.out.lt
      obtain ⟨c0, c1, c2, c3, c4, c5, c6, c7⟩ := HB0.out.rdc
      obtain ⟨y0, y1, y2, y3, y4, y5, y6, y7⟩ := HB2.out.c8
      obtain ⟨z0, z1, z2, z3, z4, z5, z6, z7⟩ := HB2.out.z8
      have HGL := Lib.hid hgl
      clear hg2 h22 hg hgl x0 x1 x2 x3 x4 x5 x6 x7
      obtain ⟨g0, g1, g2, g3, g4, g5, g6, g7⟩ := HG2.out.rdc
      have hgs := HG2.out.lt
      have hgg : s0 < g ∧ s0 + 1 < g := by have := HGL.out; omega
      by_cases hE3 : E3 = 0
      · subst hE3
        have HRUN : Hid (p.jcommit cn l = (q3, 5)) := Lib.hid (by rw [HJ2.out]; rfl)
        go_wp2_with fail
        exact bodyPost_ret (ret_cell_tmp rfl _ _ _ _ _ _ rfl (blk8 HB2.out rfl) Try.underlying56 rfl (by exact infoRd) _ rfl) rfl ⟨d21, by rw [HRUN.out]; rfl, by rw [HRUN.out]; exact HR22.out.keepB (kp8 (Kp.refl _ w22) (.inr rfl)) HB2.out rdZ_str, kp8 HK.out (.inl kz)⟩
      · have hE2 : (E3 == 0) = false := by simpa using hE3
        have HRUN : Hid (p.jcommit cn l = (q3, E3)) := Lib.hid (by rw [HJ2.out]; show (if True then (if E3 ≠ 0 then (q3, E3) else (q3, 5)) else _) = _; rw [if_pos trivial, if_pos hE3])
        clear hE3
        go_wp2_with fail
        exact bodyPost_ret (ret_cell_tmp rfl _ _ _ _ _ _ rfl (blk8 HB2.out rfl) Try.underlying56 rfl (by exact infoRd) _ rfl) rfl ⟨d21, by rw [HRUN.out]; rfl, by rw [HRUN.out]; exact HR22.out.keepB (kp8 (Kp.refl _ w22) (.inr rfl)) HB2.out rdZ_str, kp8 HK.out (.inl kz)⟩
end Go.Proofs.Ytegcbdfilkecpaa
/- The journal: a disk that crashes and is started again: contracts; the way back in plain Lean. -/
namespace Go.Proofs.Ytegcbdfilkecpaa
open Go.RowKit

section
variable {S : Nat → Prop} {W0 w w' : World} {db : Nat} {p p' : Pl}
theorem down_q (h : Dq S W0 w db p) : Calls Try.prog 23 #[ptrV db] w fun e w' => e = .returned (.bool p.down) ∧ w = w' := by
  obtain ⟨x, rfl, hd, hp, hk, ho, hz⟩ := h
  exact down_ok w _ x p hd hp
theorem crashin_q (h : Dq S W0 w db p) (n : Int) (hn : -9223372036854775808 ≤ n ∧ n ≤ 9223372036854775807) : Calls Try.prog 22 #[ptrV db, .int .i64 n] w fun e w' => e = .returned (.tuple #[]) ∧ Dq S W0 w' db (p.crashIn n) := by
  obtain ⟨x, rfl, hd, hp, hk, ho, hz⟩ := h
  exact (crashin_ok w 0 x p n hn hd hp).mono fun e w' ⟨he, ht⟩ => ⟨he, dq_of (n0 := 0) rfl hk ho hz ht⟩
theorem crash_q (h : Dq S W0 w db p) : Calls Try.prog 24 #[ptrV db] w fun e w' => e = .returned (.tuple #[]) ∧ Dq S W0 w' db p.crashNow := by
  obtain ⟨x, rfl, hd, hp, hk, ho, hz⟩ := h
  exact (crash_ok w 0 x p hd hp).mono fun e w' ⟨he, ht⟩ => ⟨he, dq_of (n0 := 0) rfl hk ho hz ht⟩
theorem restart_q (h : Dq S W0 w db p) (A : Option Addr) (n cap : Nat) (chs : List Int) (hc : Nums w A n chs) (hA : ∀ g o, A = some ⟨g, o, none⟩ → 0 < n → g < W0.heap.size ∧ ¬ S g) (hch : ∀ y ∈ chs, -9223372036854775808 ≤ y ∧ y ≤ 9223372036854775807)
    (hn63 : n ≤ 9223372036854775807) (hm : p.sm 20) :
    Calls Try.prog 47 #[ptrV db, .slice A n cap] w fun e w' => e = .returned (.int .i64 p.restartE) ∧ Dq S W0 w' db (p.restart chs) := by
  obtain ⟨x, rfl, hd, hp, hk, ho, hz⟩ := h
  unfold Pl.sm at hm
  exact (restart_ok w 0 x p A n cap chs hd hp hc (fun g o e hpos q => by have h1 := hA g o e hpos; rcases ho g q with z | z; exact h1.2 z; omega) hch hn63 (by omega) (Nat.zero_le _)).mono fun e w' ⟨he, ht⟩ => ⟨he, dq_of (n0 := 0) rfl hk ho hz ht⟩
end
namespace Pl
end Pl
end Go.Proofs.Ytegcbdfilkecpaa
/- The law of the journal's play: the plain step, and what keeps the reference apart from the disk; condition: at most 60 pages a commit. -/
namespace Go.Proofs.Ytegcbdfilkecpaa
open Go.RowKit

/-- a block of the stand-in disk's own type, if it is a row at all -/
def DkB (w : World) (b : Nat) : Prop := ∀ (cs : Array Value) (t : TypeId), w.heap[b]? = some (.cells cs t (0, 0)) → ¬ NotDk t
theorem Rows.keepT {S : Nat → Prop} {w w' : World} {A : Option Addr} {n sz : Nat} {xs : List (List Value)} (h : Rows w A n sz xs) (k : Kp S w w') (hS : ∀ b, S b → DkB w b) : Rows w' A n sz xs :=
  ⟨h.1, h.2.1, fun hn => by
    obtain ⟨g, o, t, cs, e, hb, hs, hc⟩ := h.2.2 hn
    exact ⟨g, o, t, cs, e, hb.keep k (fun q => hS g q _ _ hb t.2), hs, hc⟩⟩
theorem Rf.keepT {S : Nat → Prop} {w w' : World} {d : Rd} {p : Pl} (h : Rf w d p) (k : Kp S w w') (hS : ∀ b, S b → DkB w b) : Rf w' d p := { h with files := h.files.keepT k hS, pend := h.pend.keepT k hS }
theorem DkB.keep {S : Nat → Prop} {w w' : World} {b : Nat} (h : DkB w b) (k : Kp NoB w w') (hb : b < w.heap.size) : DkB w' b := fun cs t q => h cs t (by rw [← k.block b hb (fun q => q)]; exact q)
theorem not_dk (t : TypeId) (h : t = 121 ∨ t = 143 ∨ t = 148) : ¬ NotDk t := by
  rintro ⟨h1, h2, h3⟩
  rcases h with q | q | q
  · exact h1 q
  · exact h2 q
  · exact h3 q
theorem Dq.baseT {S : Nat → Prop} {W0 w : World} {db : Nat} {p : Pl} (h : Dq S W0 w db p) : ∃ S', Dq S' w w db p ∧ (∀ b, S' b → S b ∨ W0.heap.size ≤ b) ∧ ∀ b, S' b → DkB w b := by
  obtain ⟨x, e, hd, hp, hk, ho, hs⟩ := h
  refine ⟨x.O, ⟨x, e, hd, hp, Kp.refl _ _, fun b q => .inl q, hd.lt⟩, ho, ?_⟩
  rintro b (rfl | rfl | q | ⟨f, hf, rfl⟩) cs t hc
  · have h1 : some (Obj.cells cs t (0, 0)) = some (Obj.cells _ 121 (0, 0)) := hc.symm.trans hd.blk
    injection h1 with h1
    injection h1 with h1 h2
    exact not_dk t (.inl h2)
  · obtain ⟨D, ⟨es, ck, hm, _⟩, _⟩ := hd.mp
    have h1 := hc.symm.trans hm
    injection h1 with h1
    cases h1
  · obtain ⟨cs', h2⟩ := own_type hd.pend q
    have h1 := hc.symm.trans h2
    injection h1 with h1
    injection h1 with h1 h2
    exact not_dk t (.inr (.inr h2))
  · obtain ⟨u, v, hb, _⟩ := (hd.fls f hf).blk
    have h1 : some (Obj.cells cs t (0, 0)) = some (Obj.cells _ 143 (0, 0)) := hc.symm.trans hb
    injection h1 with h1
    injection h1 with h1 h2
    exact not_dk t (.inr (.inl h2))
/-- stores into local blocks; the base moved down -/
theorem Dq.loc {S0 S S2 : Nat → Prop} {w w3 w5 w' : World} {db : Nat} {p : Pl} (hq : Dq S w3 w5 db p) (k0 : Kp S0 w w3) (hS : ∀ b, S b → S0 b ∨ w.heap.size ≤ b) (hs : ∀ b, S0 b → b < w.heap.size) (k : Kp S2 w5 w') (h2 : ∀ b, S2 b → ¬ S b ∧ w.heap.size ≤ b ∧ b < w3.heap.size ∧ ∃ t cs, Blk w5 b t cs ∧ t ≠ 5) : Dq S0 w w' db p := by
  obtain ⟨x, e, hd, hp, hk, ho, hz⟩ := hq
  refine ⟨x, e, hd.keep k (fun b hbo q => ?_) (fun g' cs' hh q => ?_), hp, ?_, fun b hbo => ?_, hs⟩
  · have q' := h2 b q
    rcases ho b hbo with z | z
    · exact q'.1 z
    · omega
  · obtain ⟨_, _, _, t, cs, hb, ht⟩ := h2 g' q
    have h1 : some (Obj.cells cs' 5 (0, 0)) = some (Obj.cells cs t (0, 0)) := hh.symm.trans hb
    injection h1 with h1
    injection h1 with h1 h2
    exact ht h2.symm
  · refine (k0.trans hk (fun i hi q => ?_)).trans k (fun i hi q => ?_)
    · rcases hS i q with z | z
      · exact z
      · omega
    · have q' := h2 i q
      omega
  · rcases ho b hbo with z | z
    · exact hS b z
    · exact .inr (Nat.le_trans k0.size z)
theorem Dq.re {S S2 : Nat → Prop} {w w' : World} {db : Nat} {p : Pl} (hq : Dq S w w db p) (k : Kp S2 w w') (h2 : ∀ b, S2 b → ¬ S b ∧ b < w.heap.size ∧ ∃ t cs, Blk w b t cs ∧ t ≠ 5) : Dq S w' w' db p := by
  obtain ⟨x, e, hd, hp, hk, ho, hz⟩ := hq
  refine ⟨x, e, hd.keep k (fun b hbo q => ?_) (fun g' cs' hh q => ?_), hp, Kp.refl _ _, fun b hbo => ?_, fun b q => Nat.lt_of_lt_of_le (hz b q) k.size⟩
  · have q' := h2 b q
    rcases ho b hbo with z | z
    · exact q'.1 z
    · omega
  · obtain ⟨_, _, t, cs, hb, ht⟩ := h2 g' q
    have h1 : some (Obj.cells cs' 5 (0, 0)) = some (Obj.cells cs t (0, 0)) := hh.symm.trans hb
    injection h1 with h1
    injection h1 with h1 h2
    exact ht h2.symm
  · rcases ho b hbo with z | z
    · exact .inl z
    · have := hd.lt b hbo
      omega
theorem DkB.keepS {S2 : Nat → Prop} {w w' : World} {b : Nat} (h : DkB w b) (k : Kp S2 w w') (hb : b < w.heap.size) (hn : ¬ S2 b) : DkB w' b := fun cs t q => h cs t (by rw [← k.block b hb hn]; exact q)
theorem setroom_q {S : Nat → Prop} {W0 w : World} {db : Nat} {p : Pl} (h : Dq S W0 w db p) (n : Int) (hn : -9223372036854775808 ≤ n ∧ n ≤ 9223372036854775807) : Calls Try.prog 76 #[ptrV db, .int .i64 n] w fun e w' => e = .returned (.tuple #[]) ∧ Dq S W0 w' db (p.setRoom n) := by
  obtain ⟨x, rfl, hd, hp, hk, ho, hz⟩ := h
  exact (setroom_ok w _ x p n hn hd hp).mono fun e w' ⟨he, ht⟩ => ⟨he, dq_of (n0 := 0) rfl hk ho hz ht⟩
theorem Rf.setRoom {w : World} {d : Rd} {p : Pl} (h : Rf w d p) (n : Int) (hn : n ≤ 9223372036854775807) : Rf w d (p.setRoom n) :=
  { h with room := by show 0 ≤ max 0 n ∧ max 0 n ≤ 9223372036854775807; omega }
theorem Rf.crashIn {w : World} {d : Rd} {p : Pl} (h : Rf w d p) (n : Int) (hn : n ≤ 9223372036854775807) : Rf w d (p.crashIn n) :=
  { h with crash := by show 0 ≤ max 0 n ∧ max 0 n ≤ 9223372036854775807; omega }
theorem Rf.crashNow {w : World} {d : Rd} {p : Pl} (h : Rf w d p) : Rf w d p.crashNow := { h with }
/-- a step of the play -/
structure JOp where
  do_ : Int
  n : Int
  at_ : Int
  count : Int
  pages : List Pg
  chs : List Int
  data : ByteArray
def jop (p : Pl) (x : JOp) : Pl :=
  if x.do_ = 0 then (p.jcommit x.count x.pages).1 else if x.do_ = 1 then p.jrecover.1 else if x.do_ = 2 then p else if x.do_ = 3 then p.setRoom x.n else
  if x.do_ = 4 then p.crashIn x.n else if x.do_ = 5 then p.crashNow.restart x.chs else if x.do_ = 6 then p.write (if x.n = 0 then nmDb else nmJn) x.at_ (strI x.data) else p
theorem recsPg_lenG (l : List Int) (top : Int) : ∀ (i k : Nat) (last : Int) (r : List Pg), recsPg l top i k last = some r → r.length = i
  | 0, k, last, r, h => by unfold recsPg at h; injection h with h; rw [← h]; rfl
  | i + 1, k, last, r, h => by
    rw [recsPg_succ] at h
    split at h
    · cases h
    · split at h
      · cases hq : recsPg l top i (k + 1) (num ((l.drop (64 + 320 * k)).take 320) 0) with
        | none => rw [hq] at h; cases h
        | some r2 =>
          rw [hq] at h
          injection h with h
          rw [← h, List.length_cons, recsPg_lenG l top i _ _ r2 hq]
      · cases h
theorem records_lenG {l : List Int} {w : W4} {r : List Pg} (h : recordsPg l w = some r) : r.length ≤ 4096 := by
  unfold recordsPg at h
  split at h
  · cases h
  · rename_i hc
    have := recsPg_lenG _ _ _ _ _ _ h
    omega
theorem aside_lenG (db : List Int) (old count : Nat) (l : List Pg) : (asidePg db old count l).length ≤ old := by
  unfold asidePg
  rw [List.length_map]
  have := List.length_filter_le (fun n => decide (count < n) || hasPg l n) (List.range' 1 old)
  rw [List.length_range'] at this
  exact this
theorem sm_recoverG {p : Pl} {k : Nat} (h : p.sm (k + 20000 * 4103)) : (p.jrecover).1.sm k := by
  unfold Pl.jrecover
  split
  · exact sm_mono h (by omega)
  · split
    · exact sm_mono h (by omega)
    · split
      · exact sm_mono h (by omega)
      · rename_i l hl
        have hlen := records_lenG hl
        refine sm_run _ (sm_mono h ?_)
        unfold Pl.recS homeS homeW headS
        simp only [List.length_append, List.length_cons, List.length_nil, List.length_map]
        omega
theorem jcount_le {p : Pl} (hs : (p.seen nmDb).length ≤ 1048576) : p.jcount ≤ 4096 := by unfold Pl.jcount Pl.len; split <;> omega
theorem sm_commitG {p : Pl} {k : Nat} {c : Int} {l : List Pg} (hs : (p.seen nmDb).length ≤ 1048576) (hl : l.length ≤ 60) (h : p.sm (k + 400000000)) : (p.jcommit c l).1.sm k := by
  have hfl : (p.jfirst c l).length ≤ 4101 := by
    unfold Pl.jfirst firstS asideS headS
    have := aside_lenG (p.seen nmDb) p.jcount c.toNat l
    have := jcount_le hs
    simp only [List.length_append, List.length_cons, List.length_nil, asideW_len2]
    omega
  have hsl : (secondS c l).length ≤ 64 := by
    unfold secondS homeS homeW headS
    simp only [List.length_append, List.length_cons, List.length_nil, List.length_map]
    omega
  have h1 : (p.runS (p.jfirst c l)).1.sm (k + 20000 * 4103 + 20000 * 64) := sm_run _ (sm_mono h (by omega))
  have h2 : ((p.runS (p.jfirst c l)).1.runS (secondS c l)).1.sm (k + 20000 * 4103) := sm_run _ (sm_mono h1 (by omega))
  have h3 := sm_recoverG h2
  unfold Pl.jcommit
  dsimp only
  split
  · exact sm_mono h (by omega)
  · split
    · exact sm_mono h (by omega)
    · split
      · exact sm_mono h (by omega)
      · split
        · exact sm_mono h1 (by omega)
        · split
          · split
            · exact h3
            · exact h3
          · exact sm_mono h2 (by omega)
theorem survive_nfG : ∀ (cs : List Cg) (chs : List Int) (p : Pl), (p.survive cs chs).nf ≤ p.nf + cs.length
  | [], chs, p => by unfold Pl.survive; exact Nat.le_refl _
  | c :: cs, [], p => by unfold Pl.survive; exact Nat.le_add_right _ _
  | c :: cs, ch :: r, p => by
    unfold Pl.survive
    have h := survive_nfG cs r (p.at_.setKept c.nm (Pl.made (p.kept c.nm) c ch))
    have e : (p.at_.setKept c.nm (Pl.made (p.kept c.nm) c ch)).nf = p.nf + 1 := rfl
    rw [e] at h
    rw [List.length_cons]
    omega
theorem sm_restartG {p : Pl} {k : Nat} (chs : List Int) (h : p.sm k) : (p.restart chs).sm k := by
  unfold Pl.restart
  split
  · have h1 := survive_nfG p.pd chs p
    unfold Pl.sm at h ⊢
    show (p.survive p.pd chs).nf + ([] : List Cg).length + k < _
    rw [List.length_nil]
    omega
  · exact h
theorem jop_sm {p : Pl} {k : Nat} (x : JOp) (hs : (p.seen nmDb).length ≤ 1048576) (hl : x.pages.length ≤ 60) (h : p.sm (k + 400000000)) : (jop p x).sm k := by
  unfold jop
  split
  · exact sm_commitG hs hl h
  · split
    · exact sm_recoverG (sm_mono h (by omega))
    · split
      · exact sm_mono h (by omega)
      · split
        · exact sm_mono (show (p.setRoom x.n).sm (k + 400000000) from h) (by omega)
        · split
          · exact sm_mono (show (p.crashIn x.n).sm (k + 400000000) from h) (by omega)
          · split
            · exact sm_restartG x.chs (sm_mono (show p.crashNow.sm (k + 400000000) from h) (by omega))
            · split
              · exact sm_write _ _ _ (sm_mono h (by omega))
              · exact sm_mono h (by omega)
theorem Nums.keepG {S : Nat → Prop} {w w' : World} {A : Option Addr} {n : Nat} {xs : List Int} (h : Nums w A n xs) (k : Kp S w w') (hS : ∀ g o, A = some ⟨g, o, none⟩ → 0 < n → ¬ S g) : Nums w' A n xs :=
  ⟨h.1, fun hn => by
    obtain ⟨g, o, e, hg, hc⟩ := h.2 hn
    exact ⟨g, o, e, Nat.lt_of_lt_of_le hg k.size, fun j hj => (k.cell hg (hS g o e hn)).trans (hc j hj)⟩⟩
theorem Nums.ltG {w : World} {A : Option Addr} {n : Nat} {xs : List Int} (h : Nums w A n xs) {g o : Nat} (e : A = some ⟨g, o, none⟩) (hn : 0 < n) : g < w.heap.size := by
  obtain ⟨g', o', e', hg, _⟩ := h.2 hn
  rw [e] at e'
  injection e' with e'
  injection e' with e1 e2
  omega
/-- a numbered page held against itself -/
theorem guardPg : Try.prog.eqGuardType Try.prog.depth 113 = false := by kernel_rfl
theorem pgUnd : Try.prog.underlying 113 = some (.struct (Try.prog.fieldsOf 113)) := by kernel_rfl
theorem pgStood : Try.prog.stoodInHeld 113 = false := by kernel_rfl
theorem pgSz (w : World) : (sizeOf 24).run Try.prog w = .ok 256 w := by kernel_rfl
theorem ext1 (a : Value) (l : List Value) (n : Nat) (h : l.length = n) : ((a :: l).toArray).extract 1 (1 + n) = l.toArray := by
  subst h
  simp
theorem pgPart0 (w : World) (x : Pg) : (part 3 (pgA x) 0).run Try.prog w = .ok (.int .i64 x.n) w := by
  have h3 := Try.underlying3
  simp [part, isAgg, run_underlying h3, pgA, pgL]
theorem pgPart1 (w : World) (x : Pg) (hx : PgOk x) : (part 24 (pgA x) 1).run Try.prog w = .ok (.agg (x.b.map (Value.int .u8)).toArray) w := by
  have h26 := Try.underlying24
  have hsz := pgSz w
  have e : (pgA x).extract 1 (1 + 256) = (x.b.map (Value.int .u8)).toArray := ext1 _ _ 256 (by rw [List.length_map, hx.len])
  generalize pgA x = Z at e ⊢
  simp only [part, isAgg, Sem.run_bind, run_underlying h26, Result.andThen_ok, Sem.run_pure, if_true, hsz, e]
theorem pgQ0 (w : World) (d : Nat) (n : Int) : (Op.equalIn (d + 2) 3 (.int .i64 n) (.int .i64 n)).run Try.prog w = .ok true w := by
  rw [run_equalIn_int w (d + 1) 3 _ _ _ _ Try.underlying3, beq_self_eq_true]
theorem pgQ1 (w : World) (d : Nat) (b : List Int) (hb : b.length = 256) : (Op.equalIn (d + 2) 24 (.agg (b.map (Value.int .u8)).toArray) (.agg (b.map (Value.int .u8)).toArray)).run Try.prog w = .ok true w := by
  rw [run_equalIn_ints w d 24 _ _ _ Try.underlying24 Try.underlying5 sizeU8 b b hb hb, beq_self_eq_true]
theorem pgF : (Try.prog.fieldsOf 113).toList.map (fun f => (f.name, f.type, f.offset)) = [("N", 3, 0), ("P", 24, 1)] := by kernel_rfl
theorem eqF (w : World) (d : Nat) (Z Y : Array Value) (n : Int) (t1 t2 : TypeId) (F : List Field) (hf : F.map (fun f => (f.name, f.type, f.offset)) = [("N", t1, 0), ("P", t2, 1)])
    (p0 : (part t1 Z 0).run Try.prog w = .ok (.int .i64 n) w) (p1 : (part t2 Z 1).run Try.prog w = .ok (.agg Y) w)
    (q0 : (Op.equalIn d t1 (.int .i64 n) (.int .i64 n)).run Try.prog w = .ok true w) (q1 : (Op.equalIn d t2 (.agg Y) (.agg Y)).run Try.prog w = .ok true w) :
    (Op.eqFields d Z Z F).run Try.prog w = .ok true w := by
  rcases F with _ | ⟨a, _ | ⟨b, _ | ⟨c, F⟩⟩⟩
  · simp at hf
  · simp at hf
  · simp only [List.map_cons, List.map_nil, List.cons.injEq, Prod.mk.injEq, and_true] at hf
    obtain ⟨⟨e1, e2, e3⟩, e4, e5, e6⟩ := hf
    have n1 : a.name ≠ "_" := by rw [e1]; decide
    have n2 : b.name ≠ "_" := by rw [e4]; decide
    simp only [Op.eqFields, if_pos n1, if_pos n2, e2, e3, e5, e6, Sem.run_bind, p0, p1, q0, q1, Result.andThen_ok, Bool.not_true, Bool.false_eq_true, if_false, Sem.run_pure]
  · simp at hf
theorem eqPgSelf (w : World) (d : Nat) (x : Pg) (hx : PgOk x) : (Op.equalIn (d + 2 + 1) 113 (.agg (pgA x)) (.agg (pgA x))).run Try.prog w = .ok true w :=
  (run_equalIn_struct w (d + 2) 113 _ _ pgUnd pgStood).trans (eqF w (d + 2) _ _ x.n _ _ _ pgF (pgPart0 w x) (pgPart1 w x hx) (pgQ0 w d x.n) (pgQ1 w d x.b hx.len))
theorem neqPgA (w : World) (ev : Operand → Value) (ds : Option Tmp) {a b : Operand} {yt : TypeId} (ty : TypeId) (ps : String) {af : Array Edge} {g : Option (Nat × Bool)} {x : Pg} (hx : PgOk x) (ha : ev a = .agg (pgA x)) (hb : ev b = .agg (pgA x)) :
    (execOp ev ⟨ds, .binOp .neq 113 a b yt, ty, ps, af, g⟩).run Try.prog w = .ok (.value (.bool false)) w := by
  have hg : (eqGuard .neq 113 a b (ev a) (ev b)).run Try.prog w = .ok () w := by
    rw [ha, hb]
    exact run_eqGuard_agg w .neq 113 a b _ _ guardPg
  have hr : (binOp .neq 113 (ev a) (ev b)).run Try.prog w = .ok (.bool false) w := by
    rw [ha, hb, run_neq_struct, eqPgSelf w 9997 x hx]
    rfl
  simp only [execOp, Sem.run_bind, hg, Result.andThen_ok, hr, Sem.run_pure]
end Go.Proofs.Ytegcbdfilkecpaa
/- The law of the journal's play: a step, its boxes; condition: at most 60 pages, texts of at most 2000 bytes. -/
namespace Go.Proofs.Ytegcbdfilkecpaa
open Go.RowKit

def opV (x : JOp) (PA : Option Addr) (pn pc : Nat) (CA : Option Addr) (cn cc : Nat) : Array Value := #[.int .i64 x.do_, .int .i64 x.n, .int .i64 x.at_, .int .i64 x.count, .slice PA pn pc, .slice CA cn cc, .string x.data]
structure OpOk (S : Nat → Prop) (w : World) (x : JOp) (PA : Option Addr) (pn pc : Nat) (CA : Option Addr) (cn : Nat) : Prop where
  pg : PgsAt w PA pn x.pages
  pa : Apart S PA pn
  pok : ∀ y ∈ x.pages, PgOk y
  pn60 : pn ≤ 60
  pnil : PA = none → pn = 0 ∧ pc = 0
  ch : Nums w CA cn x.chs
  ca : Apart S CA cn
  chr : ∀ y ∈ x.chs, -9223372036854775808 ≤ y ∧ y ≤ 9223372036854775807
  cn63 : cn ≤ 9223372036854775807
  rn : -9223372036854775808 ≤ x.n ∧ x.n ≤ 9223372036854775807
  ra : -9223372036854775808 ≤ x.at_ ∧ x.at_ ≤ 9223372036854775807
  rc : -9223372036854775808 ≤ x.count ∧ x.count ≤ 9223372036854775807
  dl : x.data.size ≤ 2000
theorem OpOk.keep {S : Nat → Prop} {w w' : World} {x : JOp} {PA : Option Addr} {pn pc : Nat} {CA : Option Addr} {cn : Nat} (h : OpOk S w x PA pn pc CA cn) (k : Kp S w w') : OpOk S w' x PA pn pc CA cn :=
  { h with pg := RowsC.keepS h.pg k h.pa, ch := h.ch.keepG k h.ca }
structure DnB (S0 S : Nat → Prop) (w : World) (db : Nat) (p : Pl) (d : Rd) (x : JOp) (PA : Option Addr) (pn pc : Nat) (CA : Option Addr) (cn cc : Nat) (s0 : Nat) (w3 : World) : Prop where
  b0 : Blk w3 s0 56 (rdC d p)
  b1 : Blk w3 (s0 + 1) 60 (opV x PA pn pc CA cn cc)
  b2 : Blk w3 (s0 + 1 + 1) 56 rdZ
  kp : Kp S0 w w3
  q : Dq S w3 w3 db p
  r : Rf w3 d p
  o : OpOk S w3 x PA pn pc CA cn
  dk : ∀ b, S b → DkB w3 b
  lt0 : ∀ b, S0 b → b < s0
  lt : ∀ b, S b → S0 b ∨ s0 + 3 ≤ b
  pl : ∀ g o, PA = some ⟨g, o, none⟩ → 0 < pn → g < s0
  cl : ∀ g o, CA = some ⟨g, o, none⟩ → 0 < cn → g < s0
section
variable {S0 S : Nat → Prop} {w w3 : World} {db : Nat} {p : Pl} {d : Rd} {x : JOp} {PA : Option Addr} {pn pc : Nat} {CA : Option Addr} {cn cc s0 : Nat}
theorem DnB.start (hq : Dq S w w db p) (hr : Rf w d p) (hO : OpOk S w x PA pn pc CA cn) (hdk : ∀ b, S b → DkB w b) :
    DnB S S w db p d x PA pn pc CA cn cc w.heap.size (((w.alloc (.cells (rdC d p) 56)).alloc (.cells (opV x PA pn pc CA cn cc) 60)).alloc (.cells rdZ 56)) := by
  have hk : Kp NoB w (((w.alloc (.cells (rdC d p) 56)).alloc (.cells (opV x PA pn pc CA cn cc) 60)).alloc (.cells rdZ 56)) := (((Kp.refl NoB w).alloc _).alloc _).alloc _
  exact
    { b0 := ((Blk.new _ _ _).alloc _).alloc _
      b1 := (Blk.top (by simp)).alloc _
      b2 := Blk.top (by simp)
      kp := hk.mono (fun _ _ q => q.elim)
      q := hq.base1 hk
      r := hr.keep hk
      o := hO.keep (hk.mono (fun _ _ q => q.elim))
      dk := fun b hb => DkB.keep (S := S) (hdk b hb) hk (hq.lt b hb)
      lt0 := hq.lt
      lt := fun _ q => .inl q
      pl := fun g o e hn => PgsAt.lt hO.pg e hn
      cl := fun g o e hn => Nums.ltG hO.ch e hn }
theorem opC7 {wk : World} {g : Nat} {t : TypeId} (h : Blk wk g t (opV x PA pn pc CA cn cc)) :
    wk.cell? ⟨g, 0, none⟩ = some (.int .i64 x.do_) ∧ wk.cell? ⟨g, 1, none⟩ = some (.int .i64 x.n) ∧ wk.cell? ⟨g, 2, none⟩ = some (.int .i64 x.at_) ∧ wk.cell? ⟨g, 3, none⟩ = some (.int .i64 x.count) ∧
    wk.cell? ⟨g, 4, none⟩ = some (.slice PA pn pc) ∧ wk.cell? ⟨g, 5, none⟩ = some (.slice CA cn cc) ∧ wk.cell? ⟨g, 6, none⟩ = some (.string x.data) :=
  ⟨h.cell 0, h.cell 1, h.cell 2, h.cell 3, h.cell 4, h.cell 5, h.cell 6⟩
theorem DnB.not (h : DnB S0 S w db p d x PA pn pc CA cn cc s0 w3) {b : Nat} (h0 : s0 ≤ b) (h1 : b < s0 + 3) : ¬ S b := fun q => by
  rcases h.lt b q with z | z
  · have := h.lt0 b z; omega
  · omega
/-- a world behind steps of the disk -/
theorem DnB.to (h : DnB S0 S w db p d x PA pn pc CA cn cc s0 w3) {wk : World} (k : Kp S w3 wk) :
    DnB S0 S w db p d x PA pn pc CA cn cc s0 w3 ∧ Blk wk s0 56 (rdC d p) ∧ Blk wk (s0 + 1) 60 (opV x PA pn pc CA cn cc) ∧ Blk wk (s0 + 1 + 1) 56 rdZ ∧ Rf wk d p ∧ OpOk S wk x PA pn pc CA cn :=
  ⟨h, h.b0.keep k (h.not (by omega) (by omega)), h.b1.keep k (h.not (by omega) (by omega)), h.b2.keep k (h.not (by omega) (by omega)), h.r.keepT k h.dk, h.o.keep k⟩
/-- the end: the result in its box -/
theorem DnB.fin2 (h : DnB S0 S w db p d x PA pn pc CA cn cc s0 w3) (hs : w.heap.size = s0) {wk : World} {q : Pl} (hq : Dq S w3 wk db q) {w' : World} (k : Kp (fun b => b = s0 ∨ b = s0 + 1 + 1) wk w') : Dq S0 w w' db q :=
  hq.loc h.kp (fun b q => (h.lt b q).imp id (fun z => by omega)) (fun b q => by have := h.lt0 b q; omega) k (fun b q => by
    obtain ⟨_, b0, _, b2, _, _⟩ := h.to hq.kp
    have := h.b2.lt
    rcases q with rfl | rfl
    · exact ⟨h.not (by omega) (by omega), by omega, by omega, _, _, b0, by decide⟩
    · exact ⟨h.not (by omega) (by omega), by omega, by omega, _, _, b2, by decide⟩)
theorem DnB.fin (h : DnB S0 S w db p d x PA pn pc CA cn cc s0 w3) (hs : w.heap.size = s0) {wk : World} {q : Pl} (hq : Dq S w3 wk db q) {w' : World} (k : Kp (OnB (s0 + 1 + 1)) wk w') : Dq S0 w w' db q :=
  h.fin2 hs hq (k.mono (fun _ _ q => .inr q))
/-- crashed: the reference's disk is told so in its box -/
theorem DnB.crash (h : DnB S0 S w db p d x PA pn pc CA cn cc s0 w3) (hs : w.heap.size = s0) {w4 : World} (hq : Dq S w3 w4 db p.crashNow) : ∃ S', DnB S0 S' w db p.crashNow d x PA pn pc CA cn cc s0 (w4.setCell ⟨s0, 1, none⟩ (.bool true)) := by
  obtain ⟨S', hq', hS', hdk'⟩ := hq.baseT
  obtain ⟨_, b0, b1, b2, r, o⟩ := h.to hq.kp
  have h3 := h.b2.lt
  have hk : Kp (OnB s0) w4 (w4.setCell ⟨s0, 1, none⟩ (.bool true)) := (Kp.refl (OnB s0) w4).setAt (g := s0) rfl 1 _
  have hn0 : ∀ b, s0 ≤ b → b < s0 + 3 → ¬ S' b := fun b h0 h1 q => by
    rcases hS' b q with z | z
    · exact h.not h0 h1 z
    · omega
  have hap : ∀ {A : Option Addr} {n : Nat}, Apart S A n → (∀ g o, A = some ⟨g, o, none⟩ → 0 < n → g < w3.heap.size) → Apart S' A n := fun ha hl g o e hn q => by
    rcases hS' g q with z | z
    · exact ha g o e hn z
    · have := hl g o e hn; omega
  have hk0 : ∀ g, g ≠ s0 → ¬ OnB s0 g := fun g hg q => hg q
  have hrf : Rf (w4.setCell ⟨s0, 1, none⟩ (.bool true)) d p.crashNow := ((r.keepB hk b0 (rdC_str _ _))).crashNow
  refine ⟨S',
    { b0 := b0.set_ 1 (.bool true)
      b1 := b1.keep hk (hk0 _ (by omega))
      b2 := b2.keep hk (hk0 _ (by omega))
      kp := ((h.kp.trans hq.kp (fun i hi q => ?_)).trans hk (fun i hi q => ?_))
      q := ?_
      r := hrf
      o := ?_
      dk := fun b hb => (hdk' b hb).keepS hk (hq'.lt b hb) (hk0 b (fun e => hn0 b (by omega) (by omega) hb))
      lt0 := h.lt0
      lt := fun b hb => ?_
      pl := h.pl
      cl := h.cl }⟩
  · rcases h.lt i q with z | z
    · exact z
    · omega
  · have q' : i = s0 := q
    omega
  · refine hq'.re hk (fun b q => ?_)
    have q' : b = s0 := q
    subst q'
    exact ⟨hn0 b (by omega) (by omega), by have := hq.kp.size; omega, _, _, b0, by decide⟩
  · have hpg : Apart (OnB s0) PA pn := fun g o e hn q => by
      have q' : g = s0 := q
      subst q'
      have := h.pl _ o e hn; omega
    have hcg : Apart (OnB s0) CA cn := fun g o e hn q => by
      have q' : g = s0 := q
      subst q'
      have := h.cl _ o e hn; omega
    exact { o with
      pg := RowsC.keepS o.pg hk hpg
      pa := hap o.pa (fun g o' e hn => PgsAt.lt h.o.pg e hn)
      ch := o.ch.keepG hk hcg
      ca := hap o.ca (fun g o' e hn => Nums.ltG h.o.ch e hn) }
  · rcases hS' b hb with z | z
    · exact h.lt b z
    · exact .inr (by omega)
end
theorem rdC_ones (d : Rd) (p : Pl) : (rdC d p).all (·.oneCell') = true := by unfold rdC; simp [Value.oneCell']
def DnPost (S : Nat → Prop) (w : World) (db : Nat) (q : Pl) (e : Ending) (w' : World) : Prop := ∃ d', e = .returned (.tuple #[rdV d' q, .bool true]) ∧ Rf w' d' q ∧ Dq S w w' db q
set_option maxRecDepth 100000 in
set_option maxHeartbeats 1600000 in
theorem done_3 (S : Nat → Prop) (w : World) (db : Nat) (p : Pl) (d : Rd) (x : JOp) (PA : Option Addr) (pn pc : Nat) (CA : Option Addr) (cn cc : Nat) (hq : Dq S w w db p) (hr : Rf w d p) (hO : OpOk S w x PA pn pc CA cn) (hdk : ∀ b, S b → DkB w b) (hsm : p.sm 600000000000) (hdo : x.do_ = 3) :
    Calls Try.prog 27 #[ptrV db, rdV d p, .agg (opV x PA pn pc CA cn cc)] w (DnPost S w db (p.setRoom x.n)) := by
  have hB := DnB.start (pc := pc) (cc := cc) hq hr hO hdk
  have HSM := Lib.hid hsm
  have HLT := Lib.hid hq.lt
  clear hq hr hO hdk hsm
  unfold rdC opV rdZ at hB
  unfold rdV opV
  rw [hdo]
  rw [hdo] at hB
  go_enter Try.func27, Try.ntmps27
  go_upto_region 1 with fail
  generalize (((w.alloc (.cells #[.bool true, .bool p.down, .slice d.fA d.fn d.fc, .slice d.pA d.pn d.pc, .int .i64 p.room, .int .i64 p.steps, .int .i64 p.crash, .int .i64 p.starts] 56)).alloc (.cells #[.int .i64 3, .int .i64 x.n, .int .i64 x.at_, .int .i64 x.count, .slice PA pn pc, .slice CA cn cc, .string x.data] 60)).alloc (.cells #[.bool false, .bool false, .slice none 0 0, .slice none 0 0, .int .i64 0, .int .i64 0, .int .i64 0, .int .i64 0] 56)) = w3 at hB ⊢
  generalize hs0 : w.heap.size = s0 at hB ⊢
  have HS0 := Lib.hid hs0
  have HB := Lib.hid hB
  clear hs0 hB
  have hl2 := HB.out.b2.lt
  have hl1 := HB.out.b1.lt
  have hl0 := HB.out.b0.lt
  obtain ⟨o0, o1, o2, o3, o4, o5, o6⟩ := opC7 HB.out.b1
  rw [hdo] at o0
  obtain ⟨c0, c1, c2, c3, c4, c5, c6, c7⟩ := HB.out.b0.rdc
  obtain ⟨y0, y1, y2, y3, y4, y5, y6, y7⟩ := HB.out.b2.c8
  obtain ⟨z0, z1, z2, z3, z4, z5, z6, z7⟩ := HB.out.b2.z8
  obtain ⟨x0, x1, x2, x3, x4, x5, x6, x7⟩ := HB.out.b0.z8
  go_wp2_with fail
  refine (setroom_q HB.out.q x.n HB.out.o.rn).mono ?_
  rintro e w4 ⟨rfl, hq⟩
  have HQ := Lib.hid hq
  obtain ⟨_, b0, b1, b2, r, o⟩ := HB.out.to hq.kp
  have HB0 := Lib.hid b0
  have HB1 := Lib.hid b1
  have HB2 := Lib.hid b2
  have HR := Lib.hid r
  have HO := Lib.hid o
  clear hq b0 b1 b2 r o c0 c1 c2 c3 c4 c5 c6 c7 y0 y1 y2 y3 y4 y5 y6 y7 z0 z1 z2 z3 z4 z5 z6 z7 x0 x1 x2 x3 x4 x5 x6 x7 o0 o1 o2 o3 o4 o5 o6 hl0 hl1 hl2
  have hl2 := HB2.out.lt
  have hl1 := HB1.out.lt
  have hl0 := HB0.out.lt
  obtain ⟨o0, o1, o2, o3, o4, o5, o6⟩ := opC7 HB1.out
  obtain ⟨c0, c1, c2, c3, c4, c5, c6, c7⟩ := HB0.out.rdc
  obtain ⟨y0, y1, y2, y3, y4, y5, y6, y7⟩ := HB2.out.c8
  obtain ⟨z0, z1, z2, z3, z4, z5, z6, z7⟩ := HB2.out.z8
  obtain ⟨x0, x1, x2, x3, x4, x5, x6, x7⟩ := HB0.out.z8
  go_wp2_with fail
  · rename_i hpos
    have hE : Hid (max 0 x.n = x.n) := Lib.hid (by omega)
    have hne : s0 + 1 + 1 ≠ s0 := by omega
    have kA : Kp (OnB s0) w4 (w4.setCell ⟨s0, 4, none⟩ (Value.int .i64 x.n)) := (Kp.refl (OnB s0) w4).setAt (g := s0) rfl 4 _
    have hz := HB2.out.keep kA (fun q => hne q)
    refine bodyPost_ret (ret_cell_tmp rfl _ _ _ _ _ _ rfl (blk9 HB2.out rfl hne) Try.underlying56 rfl (by exact infoRd) _ rfl) rfl ⟨d, ?_, ?_, ?_⟩
    · unfold rdV Pl.setRoom
      first | rw [hE.out] | skip
      rfl
    · exact ((HR.out.setRoom x.n HB.out.o.rn.2).keepB kA HB0.out (rdC_str _ _)).keepB (kp8 (Kp.refl _ _) (.inr rfl)) hz rdZ_str
    · exact HB.out.fin2 HS0.out HQ.out (kp9 (Kp.refl _ _) (.inr (.inl rfl)) (.inr (.inr rfl)))
  · rename_i hpos
    have hE : Hid (max 0 x.n = 0) := Lib.hid (by omega)
    have hne : s0 + 1 + 1 ≠ s0 := by omega
    have kA : Kp (OnB s0) w4 (w4.setCell ⟨s0, 4, none⟩ (Value.int .i64 0)) := (Kp.refl (OnB s0) w4).setAt (g := s0) rfl 4 _
    have hz := HB2.out.keep kA (fun q => hne q)
    refine bodyPost_ret (ret_cell_tmp rfl _ _ _ _ _ _ rfl (blk9 HB2.out rfl hne) Try.underlying56 rfl (by exact infoRd) _ rfl) rfl ⟨d, ?_, ?_, ?_⟩
    · unfold rdV Pl.setRoom
      first | rw [hE.out] | skip
      rfl
    · exact ((HR.out.setRoom x.n HB.out.o.rn.2).keepB kA HB0.out (rdC_str _ _)).keepB (kp8 (Kp.refl _ _) (.inr rfl)) hz rdZ_str
    · exact HB.out.fin2 HS0.out HQ.out (kp9 (Kp.refl _ _) (.inr (.inl rfl)) (.inr (.inr rfl)))
set_option maxRecDepth 100000 in
set_option maxHeartbeats 1600000 in
theorem done_4 (S : Nat → Prop) (w : World) (db : Nat) (p : Pl) (d : Rd) (x : JOp) (PA : Option Addr) (pn pc : Nat) (CA : Option Addr) (cn cc : Nat) (hq : Dq S w w db p) (hr : Rf w d p) (hO : OpOk S w x PA pn pc CA cn) (hdk : ∀ b, S b → DkB w b) (hsm : p.sm 600000000000) (hdo : x.do_ = 4) :
    Calls Try.prog 27 #[ptrV db, rdV d p, .agg (opV x PA pn pc CA cn cc)] w (DnPost S w db (p.crashIn x.n)) := by
  have hB := DnB.start (pc := pc) (cc := cc) hq hr hO hdk
  have HSM := Lib.hid hsm
  have HLT := Lib.hid hq.lt
  clear hq hr hO hdk hsm
  unfold rdC opV rdZ at hB
  unfold rdV opV
  rw [hdo]
  rw [hdo] at hB
  go_enter Try.func27, Try.ntmps27
  go_upto_region 1 with fail
  generalize (((w.alloc (.cells #[.bool true, .bool p.down, .slice d.fA d.fn d.fc, .slice d.pA d.pn d.pc, .int .i64 p.room, .int .i64 p.steps, .int .i64 p.crash, .int .i64 p.starts] 56)).alloc (.cells #[.int .i64 4, .int .i64 x.n, .int .i64 x.at_, .int .i64 x.count, .slice PA pn pc, .slice CA cn cc, .string x.data] 60)).alloc (.cells #[.bool false, .bool false, .slice none 0 0, .slice none 0 0, .int .i64 0, .int .i64 0, .int .i64 0, .int .i64 0] 56)) = w3 at hB ⊢
  generalize hs0 : w.heap.size = s0 at hB ⊢
  have HS0 := Lib.hid hs0
  have HB := Lib.hid hB
  clear hs0 hB
  have hl2 := HB.out.b2.lt
  have hl1 := HB.out.b1.lt
  have hl0 := HB.out.b0.lt
  obtain ⟨o0, o1, o2, o3, o4, o5, o6⟩ := opC7 HB.out.b1
  rw [hdo] at o0
  obtain ⟨c0, c1, c2, c3, c4, c5, c6, c7⟩ := HB.out.b0.rdc
  obtain ⟨y0, y1, y2, y3, y4, y5, y6, y7⟩ := HB.out.b2.c8
  obtain ⟨z0, z1, z2, z3, z4, z5, z6, z7⟩ := HB.out.b2.z8
  obtain ⟨x0, x1, x2, x3, x4, x5, x6, x7⟩ := HB.out.b0.z8
  go_wp2_with fail
  refine (crashin_q HB.out.q x.n HB.out.o.rn).mono ?_
  rintro e w4 ⟨rfl, hq⟩
  have HQ := Lib.hid hq
  obtain ⟨_, b0, b1, b2, r, o⟩ := HB.out.to hq.kp
  have HB0 := Lib.hid b0
  have HB1 := Lib.hid b1
  have HB2 := Lib.hid b2
  have HR := Lib.hid r
  have HO := Lib.hid o
  clear hq b0 b1 b2 r o c0 c1 c2 c3 c4 c5 c6 c7 y0 y1 y2 y3 y4 y5 y6 y7 z0 z1 z2 z3 z4 z5 z6 z7 x0 x1 x2 x3 x4 x5 x6 x7 o0 o1 o2 o3 o4 o5 o6 hl0 hl1 hl2
  have hl2 := HB2.out.lt
  have hl1 := HB1.out.lt
  have hl0 := HB0.out.lt
  obtain ⟨o0, o1, o2, o3, o4, o5, o6⟩ := opC7 HB1.out
  obtain ⟨c0, c1, c2, c3, c4, c5, c6, c7⟩ := HB0.out.rdc
  obtain ⟨y0, y1, y2, y3, y4, y5, y6, y7⟩ := HB2.out.c8
  obtain ⟨z0, z1, z2, z3, z4, z5, z6, z7⟩ := HB2.out.z8
  obtain ⟨x0, x1, x2, x3, x4, x5, x6, x7⟩ := HB0.out.z8
  go_wp2_with fail
  · rename_i hpos
    have hE : Hid (max 0 x.n = x.n) := Lib.hid (by omega)
    have hne : s0 + 1 + 1 ≠ s0 := by omega
    have kA : Kp (OnB s0) w4 (w4.setCell ⟨s0, 6, none⟩ (Value.int .i64 x.n)) := (Kp.refl (OnB s0) w4).setAt (g := s0) rfl 6 _
    have hz := HB2.out.keep kA (fun q => hne q)
    refine bodyPost_ret (ret_cell_tmp rfl _ _ _ _ _ _ rfl (blk9 HB2.out rfl hne) Try.underlying56 rfl (by exact infoRd) _ rfl) rfl ⟨d, ?_, ?_, ?_⟩
    · unfold rdV Pl.crashIn
      first | rw [hE.out] | skip
      rfl
    · exact ((HR.out.crashIn x.n HB.out.o.rn.2).keepB kA HB0.out (rdC_str _ _)).keepB (kp8 (Kp.refl _ _) (.inr rfl)) hz rdZ_str
    · exact HB.out.fin2 HS0.out HQ.out (kp9 (Kp.refl _ _) (.inr (.inl rfl)) (.inr (.inr rfl)))
  · rename_i hpos
    have hE : Hid (max 0 x.n = 0) := Lib.hid (by omega)
    have hne : s0 + 1 + 1 ≠ s0 := by omega
    have kA : Kp (OnB s0) w4 (w4.setCell ⟨s0, 6, none⟩ (Value.int .i64 0)) := (Kp.refl (OnB s0) w4).setAt (g := s0) rfl 6 _
    have hz := HB2.out.keep kA (fun q => hne q)
    refine bodyPost_ret (ret_cell_tmp rfl _ _ _ _ _ _ rfl (blk9 HB2.out rfl hne) Try.underlying56 rfl (by exact infoRd) _ rfl) rfl ⟨d, ?_, ?_, ?_⟩
    · unfold rdV Pl.crashIn
      first | rw [hE.out] | skip
      rfl
    · exact ((HR.out.crashIn x.n HB.out.o.rn.2).keepB kA HB0.out (rdC_str _ _)).keepB (kp8 (Kp.refl _ _) (.inr rfl)) hz rdZ_str
    · exact HB.out.fin2 HS0.out HQ.out (kp9 (Kp.refl _ _) (.inr (.inl rfl)) (.inr (.inr rfl)))
set_option maxRecDepth 100000 in
set_option maxHeartbeats 1600000 in
theorem done_7 (S : Nat → Prop) (w : World) (db : Nat) (p : Pl) (d : Rd) (x : JOp) (PA : Option Addr) (pn pc : Nat) (CA : Option Addr) (cn cc : Nat) (hq : Dq S w w db p) (hr : Rf w d p) (hO : OpOk S w x PA pn pc CA cn) (hdk : ∀ b, S b → DkB w b) (hsm : p.sm 600000000000) (hdo' : ∀ k : Int, 0 ≤ k → k ≤ 6 → x.do_ ≠ k) :
    Calls Try.prog 27 #[ptrV db, rdV d p, .agg (opV x PA pn pc CA cn cc)] w (DnPost S w db p) := by
  obtain ⟨DO, hdo⟩ : ∃ DO, x.do_ = DO := ⟨_, rfl⟩
  have hn : ∀ k : Int, 0 ≤ k → k ≤ 6 → (DO == k) = false := fun k h0 h1 => by
    have := hdo' k h0 h1
    rw [hdo] at this
    simpa using this
  have n0 := hn 0 (by omega) (by omega)
  have n1 := hn 1 (by omega) (by omega)
  have n2 := hn 2 (by omega) (by omega)
  have n3 := hn 3 (by omega) (by omega)
  have n4 := hn 4 (by omega) (by omega)
  have n5 := hn 5 (by omega) (by omega)
  have n6 := hn 6 (by omega) (by omega)
  clear hn hdo'
  have hB := DnB.start (pc := pc) (cc := cc) hq hr hO hdk
  have HSM := Lib.hid hsm
  have HLT := Lib.hid hq.lt
  clear hq hr hO hdk hsm
  unfold rdC opV rdZ at hB
  unfold rdV opV
  rw [hdo]
  rw [hdo] at hB
  go_enter Try.func27, Try.ntmps27
  go_upto_region 1 with fail
  generalize (((w.alloc (.cells #[.bool true, .bool p.down, .slice d.fA d.fn d.fc, .slice d.pA d.pn d.pc, .int .i64 p.room, .int .i64 p.steps, .int .i64 p.crash, .int .i64 p.starts] 56)).alloc (.cells #[.int .i64 DO, .int .i64 x.n, .int .i64 x.at_, .int .i64 x.count, .slice PA pn pc, .slice CA cn cc, .string x.data] 60)).alloc (.cells #[.bool false, .bool false, .slice none 0 0, .slice none 0 0, .int .i64 0, .int .i64 0, .int .i64 0, .int .i64 0] 56)) = w3 at hB ⊢
  generalize hs0 : w.heap.size = s0 at hB ⊢
  have HS0 := Lib.hid hs0
  have HB := Lib.hid hB
  clear hs0 hB
  have hl2 := HB.out.b2.lt
  have hl1 := HB.out.b1.lt
  have hl0 := HB.out.b0.lt
  obtain ⟨o0, o1, o2, o3, o4, o5, o6⟩ := opC7 HB.out.b1
  rw [hdo] at o0
  obtain ⟨c0, c1, c2, c3, c4, c5, c6, c7⟩ := HB.out.b0.rdc
  obtain ⟨y0, y1, y2, y3, y4, y5, y6, y7⟩ := HB.out.b2.c8
  obtain ⟨z0, z1, z2, z3, z4, z5, z6, z7⟩ := HB.out.b2.z8
  obtain ⟨x0, x1, x2, x3, x4, x5, x6, x7⟩ := HB.out.b0.z8
  have HB2 := Lib.hid HB.out.b2
  go_wp2_with fail
  refine bodyPost_ret (ret_cell_tmp rfl _ _ _ _ _ _ rfl (blk8 HB2.out rfl) Try.underlying56 rfl (by exact infoRd) _ rfl) rfl ⟨d, rfl, ?_, ?_⟩
  · exact (HB.out.r).keepB (kp8 (Kp.refl _ w3) (.inr rfl)) HB2.out rdZ_str
  · exact HB.out.fin HS0.out (HB.out.q) (kp8 (Kp.refl _ w3) (.inr rfl))
set_option maxRecDepth 100000 in
set_option maxHeartbeats 1600000 in
theorem done_1 (S : Nat → Prop) (w : World) (db : Nat) (p : Pl) (d : Rd) (x : JOp) (PA : Option Addr) (pn pc : Nat) (CA : Option Addr) (cn cc : Nat) (hq : Dq S w w db p) (hr : Rf w d p) (hO : OpOk S w x PA pn pc CA cn) (hdk : ∀ b, S b → DkB w b) (hsm : p.sm 600000000000) (hdo : x.do_ = 1) :
    Calls Try.prog 27 #[ptrV db, rdV d p, .agg (opV x PA pn pc CA cn cc)] w (DnPost S w db p.jrecover.1) := by
  have hB := DnB.start (pc := pc) (cc := cc) hq hr hO hdk
  have HSM := Lib.hid hsm
  have HLT := Lib.hid hq.lt
  clear hq hr hO hdk hsm
  unfold rdC opV rdZ at hB
  unfold rdV opV
  rw [hdo]
  rw [hdo] at hB
  go_enter Try.func27, Try.ntmps27
  go_upto_region 1 with fail
  generalize (((w.alloc (.cells #[.bool true, .bool p.down, .slice d.fA d.fn d.fc, .slice d.pA d.pn d.pc, .int .i64 p.room, .int .i64 p.steps, .int .i64 p.crash, .int .i64 p.starts] 56)).alloc (.cells #[.int .i64 1, .int .i64 x.n, .int .i64 x.at_, .int .i64 x.count, .slice PA pn pc, .slice CA cn cc, .string x.data] 60)).alloc (.cells #[.bool false, .bool false, .slice none 0 0, .slice none 0 0, .int .i64 0, .int .i64 0, .int .i64 0, .int .i64 0] 56)) = w3 at hB ⊢
  generalize hs0 : w.heap.size = s0 at hB ⊢
  have HS0 := Lib.hid hs0
  have HB := Lib.hid hB
  clear hs0 hB
  have hl2 := HB.out.b2.lt
  have hl1 := HB.out.b1.lt
  have hl0 := HB.out.b0.lt
  obtain ⟨o0, o1, o2, o3, o4, o5, o6⟩ := opC7 HB.out.b1
  rw [hdo] at o0
  obtain ⟨c0, c1, c2, c3, c4, c5, c6, c7⟩ := HB.out.b0.rdc
  obtain ⟨y0, y1, y2, y3, y4, y5, y6, y7⟩ := HB.out.b2.c8
  obtain ⟨z0, z1, z2, z3, z4, z5, z6, z7⟩ := HB.out.b2.z8
  obtain ⟨x0, x1, x2, x3, x4, x5, x6, x7⟩ := HB.out.b0.z8
  go_wp2_with fail
  refine (recover_q HB.out.q (sm_mono HSM.out (by omega))).mono ?_
  rintro e w4 ⟨rfl, hq⟩
  have HQ := Lib.hid hq
  obtain ⟨_, b0, b1, b2, r, o⟩ := HB.out.to hq.kp
  have HB0 := Lib.hid b0
  have HB1 := Lib.hid b1
  have HB2 := Lib.hid b2
  have HR := Lib.hid r
  have HO := Lib.hid o
  clear hq b0 b1 b2 r o c0 c1 c2 c3 c4 c5 c6 c7 y0 y1 y2 y3 y4 y5 y6 y7 z0 z1 z2 z3 z4 z5 z6 z7 x0 x1 x2 x3 x4 x5 x6 x7 o0 o1 o2 o3 o4 o5 o6 hl0 hl1 hl2
  have hl2 := HB2.out.lt
  have hl1 := HB1.out.lt
  have hl0 := HB0.out.lt
  obtain ⟨o0, o1, o2, o3, o4, o5, o6⟩ := opC7 HB1.out
  obtain ⟨c0, c1, c2, c3, c4, c5, c6, c7⟩ := HB0.out.rdc
  obtain ⟨y0, y1, y2, y3, y4, y5, y6, y7⟩ := HB2.out.c8
  obtain ⟨z0, z1, z2, z3, z4, z5, z6, z7⟩ := HB2.out.z8
  obtain ⟨x0, x1, x2, x3, x4, x5, x6, x7⟩ := HB0.out.z8
  go_wp2_with fail
  refine (show Calls _ _ #[rdV d p] _ _ from recover_rok w4 d p HR.out (sm_mono HSM.out (by omega))).mono ?_
  rintro e w5 ⟨d5, rfl, h5, hk5⟩
  obtain ⟨q, b, E, hqE⟩ : ∃ q b E, p.jrecover = (q, b, E) := ⟨_, _, _, rfl⟩
  have HRUN := Lib.hid (show p.jrecover.1 = q by rw [hqE])
  rw [hqE] at h5 HQ ⊢
  clear hqE
  have HQ' := Lib.hid (HQ.out.keep hk5)
  have HB0' := Lib.hid (HB0.out.keep hk5 (fun q => q))
  have HB1' := Lib.hid (HB1.out.keep hk5 (fun q => q))
  have HB2' := Lib.hid (HB2.out.keep hk5 (fun q => q))
  have HR' := Lib.hid h5
  have HO' := Lib.hid (HO.out.keep (hk5.mono (fun _ _ q => q.elim)))
  clear hk5 h5 HQ HB0 HB1 HB2 HR HO c0 c1 c2 c3 c4 c5 c6 c7 y0 y1 y2 y3 y4 y5 y6 y7 z0 z1 z2 z3 z4 z5 z6 z7 x0 x1 x2 x3 x4 x5 x6 x7 o0 o1 o2 o3 o4 o5 o6 hl0 hl1 hl2
  have HQ := HQ'
  have HB0 := HB0'
  have HB1 := HB1'
  have HB2 := HB2'
  have HR := HR'
  have HO := HO'
  clear HQ' HB0' HB1' HB2' HR' HO'
  have hl2 := HB2.out.lt
  have hl1 := HB1.out.lt
  have hl0 := HB0.out.lt
  obtain ⟨o0, o1, o2, o3, o4, o5, o6⟩ := opC7 HB1.out
  obtain ⟨c0, c1, c2, c3, c4, c5, c6, c7⟩ := HB0.out.rdc
  obtain ⟨y0, y1, y2, y3, y4, y5, y6, y7⟩ := HB2.out.c8
  obtain ⟨z0, z1, z2, z3, z4, z5, z6, z7⟩ := HB2.out.z8
  obtain ⟨x0, x1, x2, x3, x4, x5, x6, x7⟩ := HB0.out.z8
  unfold rdV
  go_upto_region 15 with fail
  have hg2 : Blk (w5.alloc (.cells (rdC d5 q) 56)) w5.heap.size 56 (rdC d5 q) := Blk.new _ _ _
  have hk5 : Kp NoB w5 (w5.alloc (.cells (rdC d5 q) 56)) := (Kp.refl NoB w5).alloc _
  have h5 : Rf (w5.alloc (.cells (rdC d5 q) 56)) d5 (q) := HR.out.keep hk5
  unfold rdC at hg2 hk5 h5
  generalize hg : w5.heap.size = g at hg2 ⊢
  have hgl : s0 + 1 + 1 < g := by have := HB2.out.lt; omega
  generalize (w5.alloc (.cells #[.bool true, .bool (q).down, .slice d5.fA d5.fn d5.fc, .slice d5.pA d5.pn d5.pc, .int .i64 (q).room, .int .i64 (q).steps, .int .i64 (q).crash, .int .i64 (q).starts] 56)) = w6 at hg2 hk5 h5 ⊢
  have HG2 := Lib.hid (show Blk w6 g 56 (rdC d5 q) from hg2)
  have HGL := Lib.hid hgl
  have HKB := Lib.hid hk5
  clear hg2 hg hgl
  have HQ' := Lib.hid (HQ.out.keep hk5)
  have HB0' := Lib.hid (HB0.out.keep hk5 (fun q => q))
  have HB1' := Lib.hid (HB1.out.keep hk5 (fun q => q))
  have HB2' := Lib.hid (HB2.out.keep hk5 (fun q => q))
  have HR' := Lib.hid h5
  have HO' := Lib.hid (HO.out.keep (hk5.mono (fun _ _ q => q.elim)))
  clear hk5 h5 HQ HB0 HB1 HB2 HR HO c0 c1 c2 c3 c4 c5 c6 c7 y0 y1 y2 y3 y4 y5 y6 y7 z0 z1 z2 z3 z4 z5 z6 z7 x0 x1 x2 x3 x4 x5 x6 x7 o0 o1 o2 o3 o4 o5 o6 hl0 hl1 hl2
  have HQ := HQ'
  have HB0 := HB0'
  have HB1 := HB1'
  have HB2 := HB2'
  have HR := HR'
  have HO := HO'
  clear HQ' HB0' HB1' HB2' HR' HO'
  have hl2 := HB2.out.lt
  have hl1 := HB1.out.lt
  have hl0 := HB0.out.lt
  obtain ⟨o0, o1, o2, o3, o4, o5, o6⟩ := opC7 HB1.out
  obtain ⟨c0, c1, c2, c3, c4, c5, c6, c7⟩ := HB0.out.rdc
  obtain ⟨y0, y1, y2, y3, y4, y5, y6, y7⟩ := HB2.out.c8
  obtain ⟨z0, z1, z2, z3, z4, z5, z6, z7⟩ := HB2.out.z8
  obtain ⟨x0, x1, x2, x3, x4, x5, x6, x7⟩ := HB0.out.z8
  obtain ⟨g0, g1, g2, g3, g4, g5, g6, g7⟩ := HG2.out.rdc
  have hgs := HG2.out.lt
  have hgg : s0 < g ∧ s0 + 1 < g ∧ s0 + 1 + 1 < g := by have := HGL.out; omega
  go_wp2_with fail
  refine bodyPost_ret (ret_cell_tmp rfl _ _ _ _ _ _ rfl (blk8 HB2.out rfl) Try.underlying56 rfl (by exact infoRd) _ rfl) rfl ⟨d5, by rw [HRUN.out]; rfl, ?_, ?_⟩
  · rw [HRUN.out]
    exact (HR.out).keepB (kp8 (Kp.refl _ w6) (.inr rfl)) HB2.out rdZ_str
  · rw [HRUN.out]
    exact HB.out.fin HS0.out (HQ.out) (kp8 (Kp.refl _ w6) (.inr rfl))
end Go.Proofs.Ytegcbdfilkecpaa
