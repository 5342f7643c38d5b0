/- The reference's Decode: what row a text is the record of; no condition. -/
import Derived.Test.YtlcefenjlchaiaaRcRDecF
namespace Go.Proofs.Ytlcefenjlchaiaa
open Go.RowKit
attribute [local go_sem ↓] load47 store47

theorem rvarR_none : rvarR none = .tuple #[.int .u64 0, .int .i64 0] := rfl
theorem rvarR_some (u n : Nat) : rvarR (some (u, n)) = .tuple #[.int .u64 u, .int .i64 n] := rfl
theorem rvalR_none : rvalR none = .tuple #[.agg #[.int .i64 0, .int .i64 0, .string ⟨#[]⟩], .int .i64 (-1)] := rfl
theorem rvalR_some (v : RV) (n : Nat) : rvalR (some (v, n)) = .tuple #[.agg #[.int .i64 v.k, .int .i64 v.i, .string v.s], .int .i64 n] := rfl
/-- in the midst of the reference's second loop -/
structure RD2 (w : World) (tv : Value) (k : Nat) (ts : List Nat) (rv : Value) (m : Nat) (vs : List RV) (W : World) : Prop where
  kp : Kp NoB w W
  typ : W.ownsRow w.heap.size 22 1 tv k (u64s ts)
  row : W.ownsRow w.heap.size 47 3 rv m (rvCells vs)
theorem RD2.keep {w W W' : World} {tv rv : Value} {k m : Nat} {ts : List Nat} {vs : List RV} (h : RD2 w tv k ts rv m vs W) (q : Kp NoB W W') : RD2 w tv k ts rv m vs W' :=
  ⟨h.kp.trans q (fun _ _ z => z), own_keep h.typ q (fun _ _ _ z => z), own_keep h.row q (fun _ _ _ z => z)⟩
theorem RD2.grown {w W w1 : World} {tv rv v1 : Value} {k m : Nat} {ts : List Nat} {vs : List RV} {x : RV} (h : RD2 w tv k ts rv m vs W) {o : Obj} (hg : (W.alloc o).grownBy w1 rv.ownBlock)
    (ho : w1.ownsRow w.heap.size 47 3 v1 (m + 1) (rvCells vs ++ [.int .i64 x.k, .int .i64 x.i, .string x.s])) : RD2 w tv k ts v1 (m + 1) (vs ++ [x]) w1 := by
  have h' := h.keep ((Kp.refl NoB W).alloc o)
  have hne := own_ne h'.typ h'.row (by decide)
  exact ⟨h'.kp.own hg rfl h'.row, own_keepB h'.typ ((Kp.refl (fun g => rv.ownBlock = some g) _).grown hg (fun g hg => .inr hg)) (fun g hg q => hne g hg q), by rw [rvCells_snoc]; exact ho⟩

set_option maxRecDepth 100000 in
set_option maxHeartbeats 4000000 in
theorem rdec_ok (w : World) (s : ByteArray) (hs : s.size ≤ 9223372036854775807) : Calls Try.prog 17 #[.string s] w (DecPost w (decF s)) := by
  rw [← decF_eq s hs]
  cases hn : numF s 0 with
  | none =>
    have HF := Lib.hid (show decF' s = none by unfold decF'; rw [hn])
    have HV := Lib.hid (show varF s = none by
      unfold numF at hn
      rw [Option.map_eq_none_iff] at hn
      have : s.extract 0 s.size = s := by simp
      rwa [this] at hn)
    clear hn
    go_enter Try.func17, Try.ntmps17
    go_wp2_with (go_at_call 8; go_must (refine (rvarint_ok _ s hs).mono ?_); rw [HV.out, rvarR_none]; rintro en w2 ⟨rfl, hk2⟩; have HK2 := Lib.hid hk2; clear hk2)
    go_ret2
    exact ⟨HK2.out, by rw [HF.out]; rfl⟩
  | some q =>
    obtain ⟨n, a0⟩ := q
    have hnf := numF_facts hn (by omega)
    have HV := Lib.hid (show varF s = some (n, a0) by
      unfold numF at hn
      rw [Option.map_eq_some_iff] at hn
      have : s.extract 0 s.size = s := by simp
      rw [this] at hn
      obtain ⟨q, hq, he⟩ := hn
      rw [hq, ← he]
      simp)
    have HN := Lib.hid hn
    have ha0 : ((a0 : Int) == 0) = false := by rw [beq_eq_false_iff_ne]; omega
    have ha1 : (a0 : Int) ≤ s.size := by omega
    clear hn
    by_cases h16 : (16 : Int) < n
    · have HF := Lib.hid (show decF' s = none by unfold decF'; rw [HN.out]; simp only; rw [if_pos (by omega)])
      go_enter Try.func17, Try.ntmps17
      go_wp2_with (go_at_call 8; go_must (refine (rvarint_ok _ s hs).mono ?_); rw [HV.out, rvarR_some]; rintro en w2 ⟨rfl, hk2⟩; have HK2 := Lib.hid hk2; clear hk2)
      go_ret2
      exact ⟨HK2.out, by rw [HF.out]; rfl⟩
    · have HF := Lib.hid (show decF' s = match typesF s n a0 with
          | none => none
          | some (ts, a') => match valsF' s ts a' with
            | none => none
            | some (vs, _) => if encF vs = (s, 0) then some vs else none by unfold decF'; rw [HN.out]; simp only; rw [if_neg (by omega)]; rfl)
      obtain ⟨j0, hj0, hy0, hy1, hy2⟩ := info_parts infoVal
      have HJ0 := Lib.hid hj0
      have HY0 := Lib.hid hy0
      have HY1 := Lib.hid hy1
      have HY2 := Lib.hid hy2
      clear hj0 hy0 hy1 hy2
      obtain ⟨i0, hi0, hz0, hz1, hz2⟩ := info_parts infoU64
      have HI0 := Lib.hid hi0
      have HZ0 := Lib.hid hz0
      have HZ1 := Lib.hid hz1
      have HZ2 := Lib.hid hz2
      have hn16 : (n : Int) ≤ 16 := by omega
      clear hi0 hz0 hz1 hz2
      go_enter Try.func17, Try.ntmps17
      go_wp2_with (go_at_call 8; go_must (refine (rvarint_ok _ s hs).mono ?_); rw [HV.out, rvarR_some]; rintro en w2 ⟨rfl, hk2⟩; have HK2 := Lib.hid hk2; clear hk2)
      go_loopw [5, 6, 7, 8, 9] (fun av tv i _ _ wr => ∃ (k a : Nat) (ts : List Nat), k ≤ n ∧ i = .int .i64 k ∧ av = .int .i64 a ∧ a ≤ s.size ∧ Kp NoB w wr ∧ wr.ownsRow w.heap.size 22 1 tv k (u64s ts) ∧ typesF s k a0 = some (ts, a) ∧ ∀ t ∈ ts, t < 18446744073709551616) (fun _ _ i _ _ _ => n - (intOf i).toNat)
      case atStart => exact ⟨0, a0, [], by omega, rfl, rfl, by omega, HK2.out, World.ownsRow_nil _ _ _ _, rfl, fun t ht => by simp at ht⟩
      case round =>
        obtain ⟨k, a, ts, hk, rfl, rfl, hav, hkp, hown, hts, htb⟩ := hrel
        have HK := Lib.hid hkp
        have HOWN := Lib.hid hown
        have HTS := Lib.hid hts
        have HTB := Lib.hid htb
        have hai : (a : Int) ≤ s.size := by omega
        have hsz := hkp.size
        have hxs : (s.extract a s.size).size ≤ 9223372036854775807 := by simp; omega
        clear hkp hown hts htb
        by_cases hlt : k < n
        · cases hv : varF (s.extract a s.size) with
          | none =>
            have HV2 := Lib.hid hv
            have HF2 := Lib.hid (show decF' s = none by rw [HF.out, typesF_none s n (k + 1) a0 (by rw [typesF_snoc, HTS.out]; simp only; unfold numF; rw [hv]; rfl) (by omega)])
            clear hv
            go_wp2_with (go_at_call 8; go_must (refine (rvarint_ok _ _ hxs).mono ?_); rw [HV2.out, rvarR_none]; rintro en w3 ⟨rfl, hk3⟩; have HK3 := Lib.hid hk3; clear hk3)
            go_ret2
            exact ⟨HK.out.trans HK3.out (fun _ _ q => q), by rw [HF2.out]; rfl⟩
          | some q =>
            obtain ⟨t, d⟩ := q
            have HV2 := Lib.hid hv
            have hf := varF_facts _ _ _ hv
            have hd4 := hf.2.2.2
            simp at hd4
            have hd0 : ((d : Int) == 0) = false := by rw [beq_eq_false_iff_ne]; omega
            have had : (a : Int) + d ≤ s.size := by omega
            have htn := hf.1
            have HTS2 := Lib.hid (show typesF s (k + 1) a0 = some (ts ++ [t], a + d) by rw [typesF_snoc, HTS.out]; simp only; unfold numF; rw [hv]; rfl)
            clear hv hf hd4
            go_wp2_with (first
              | (go_at_call 8; go_must (refine (rvarint_ok _ _ hxs).mono ?_); rw [HV2.out, rvarR_some]; rintro en w3 ⟨rfl, hk3⟩; have HK3 := Lib.hid (HK.out.trans hk3 (fun _ _ q => q)); have HOWN3 := Lib.hid (own_keep HOWN.out hk3 (fun _ _ _ q => q)); have hsz3 := hk3.size; clear hk3)
              | (at_builtin; refine wpList_append_own _ rfl _ _ 60 rfl w.heap.size 22 i0 _ 1 8 Try.underlying60 HI0.out HZ0.out HZ1.out HZ2.out rfl (by omega) _ k (u64s ts) rfl (own_keep HOWN3.out ((Kp.refl NoB w3).alloc _) (fun _ _ _ q => q)) ⟨w3.heap.size, 0, none⟩ 1 1 [_] rfl rfl (cell_one_new _ _ _) (by simp [Value.oneCell']) (by unfold maxLen; omega) (by omega) (by simp; omega) ?_; intro v1 w4 hown4 hgrow4 _; have HK4 := Lib.hid ((HK3.out.alloc _).own hgrow4 rfl HOWN3.out); have HOWN4 := Lib.hid hown4; clear hown4 hgrow4))
            exact ⟨⟨k + 1, a + d, ts ++ [t], by omega, by congr 1, by congr 1, by omega, HK4.out, by have := HOWN4.out; simpa [u64s] using this, HTS2.out, fun x hx => by rcases List.mem_append.1 hx with q | q; exact HTB.out x q; simp at q; omega⟩, by simp [intOf]; omega⟩
        · obtain rfl : k = n := by omega
          obtain ⟨TA, tcap, rfl⟩ := own_slice HOWN.out
          have HLT := Lib.hid (show ts.length = k by have := HOWN.out.1; simpa [u64s] using this)
          obtain ⟨wo, hwo⟩ : ∃ wo : World, wo = wr := ⟨_, rfl⟩
          rw [← hwo] at HK HOWN hsz ⊢
          clear hwo
          go_wp2_with fail
          go_loopw [5, 10, 11, 12, 13] (fun av rv i _ _ wx => ∃ (m b : Nat) (vs : List RV), m ≤ k ∧ i = .int .i64 m ∧ av = .int .i64 b ∧ b ≤ s.size ∧ RD2 w (.slice TA k tcap) k ts rv m vs wx ∧ valsF' s (ts.take m) a = some (vs, b) ∧ ∀ v ∈ vs, v.ok) (fun _ _ i _ _ _ => k - (intOf i).toNat)
          case atStart => exact ⟨0, a, [], by omega, rfl, rfl, hav, ⟨HK.out, HOWN.out, World.ownsRow_nil _ _ _ _⟩, rfl, fun t ht => by simp at ht⟩
          case round =>
            obtain ⟨m, b, vs, hm, rfl, rfl, hb, hD, hvs, hok⟩ := hrel
            have HD := Lib.hid hD
            have HVS := Lib.hid hvs
            have HOK := Lib.hid hok
            clear hD hvs hok
            by_cases hmk : m < k
            · obtain ⟨tg, tds, rfl, htg, htB⟩ := own_blk1 HD.out.typ (by omega)
              obtain ⟨t, ht⟩ : ∃ t, ts.getD m 0 = t := ⟨_, rfl⟩
              have ctm : wr.cell? ⟨tg, m, none⟩ = some (.int .u64 (t : Int)) := by
                rw [htB.cell, List.getElem?_toArray, List.getElem?_append_left (by simp [u64s, HLT.out]; exact hmk)]
                simp [u64s, HLT.out, hmk, ← ht]
              have htb : t < 18446744073709551616 := HTB.out t (by rw [← ht]; simp [HLT.out, hmk])
              have htl := htB.lt
              have hneA : tg ≠ wr.heap.size := by omega
              have HT := Lib.hid ht
              have hbi : (b : Int) ≤ s.size := by omega
              have hbx : (s.extract b s.size).size ≤ 9223372036854775807 := by simp; omega
              clear htB ht
              cases hv : rvalF t (s.extract b s.size) with
              | none =>
                have o3 : ones #[.int .i64 0, .int .i64 0, .string ⟨#[]⟩] := by unfold ones; simp [Value.oneCell']
                have HV2 := Lib.hid hv
                have HF2 := Lib.hid (show decF' s = none by
                  rw [HF.out, HTS.out]
                  simp only
                  rw [valsF'_none s ts (m + 1) a (by rw [List.take_succ_eq_append_getElem (by rw [HLT.out]; exact hmk), valsF'_snoc, HVS.out]; simp only; rw [show ts[m]'(by rw [HLT.out]; exact hmk) = t by rw [← HT.out]; simp [HLT.out, hmk]]; unfold valF'; rw [hv]; rfl)])
                clear hv
                go_wp2_with fail
                go_region_held3 (fun w' => w'.cell? ⟨tg, m, none⟩ = some (.int .u64 (t : Int))) (first | go_keep | (rw [cell_setCells_far _ hne3]; go_keep) | (rw [cell_setCells_far _ hneA]; go_keep)) ((go_at_call 29; go_must (refine (rval_ok _ t _ hbx htb).mono ?_); rw [HV2.out, rvalR_none]; rintro en w3 ⟨rfl, hk3⟩; have hq3 : Kp NoB wr w3 := (by first | exact (Kp.refl NoB wr).drew.trans hk3 (fun _ _ q => q) | exact ((Kp.refl NoB wr).drew.alloc _).trans hk3 (fun _ _ q => q) | exact ((Kp.refl NoB wr).alloc _).drew.trans hk3 (fun _ _ q => q)); have HK3 := Lib.hid hq3; have ct3 : w3.cell? ⟨tg, m, none⟩ = some (.int .u64 (t : Int)) := (hq3.cell htl (fun q => q)).trans ctm; have hne3 : tg ≠ w3.heap.size := (by have := hq3.size; omega); have thB := (Blk.new w3 47 #[.int .i64 0, .int .i64 0, .string ⟨#[]⟩]).thereAll 3 rfl; first | (have hbA := ((Blk.new wr 47 #[.int .i64 0, .int .i64 0, .string ⟨#[]⟩]).drew).keep hk3 (fun q => q); have thA := hbA.thereAll 3 rfl; have HBA := Lib.hid hbA; clear hbA) | skip; clear hk3 hq3))
                all_goals
                  go_wp2_with fail
                  go_ret2
                  exact ⟨HD.out.kp.trans (by first | exact Kp.setCells (.inl (Nat.le_refl _)) _ _ _ HK3.out | exact Kp.setCells (.inl (by have := HK3.out.size; omega)) _ _ _ (HK3.out.alloc _)) (fun _ _ q => q), by rw [HF2.out]; rfl⟩
              | some q =>
                obtain ⟨x, d⟩ := q
                have HV2 := Lib.hid hv
                have hv' : valF' t s b = some (x, b + d) := by unfold valF'; rw [hv]; rfl
                have hvf := valF'_facts hs hv' hb
                have HX := Lib.hid hvf.1
                have hbd : (b : Int) + d ≤ s.size := by omega
                have HVS2 := Lib.hid (show valsF' s (ts.take (m + 1)) a = some (vs ++ [x], b + d) by
                  rw [List.take_succ_eq_append_getElem (by rw [HLT.out]; exact hmk), valsF'_snoc, HVS.out]
                  simp only
                  rw [show ts[m]'(by rw [HLT.out]; exact hmk) = t by rw [← HT.out]; simp [HLT.out, hmk], hv']
                  rfl)
                have o3 : ones #[.int .i64 x.k, .int .i64 x.i, .string x.s] := by unfold ones; simp [Value.oneCell']
                clear hv hv' hvf
                go_wp2_with fail
                go_region_held3 (fun w' => w'.cell? ⟨tg, m, none⟩ = some (.int .u64 (t : Int))) (first | go_keep | (rw [cell_setCells_far _ hne3]; go_keep) | (rw [cell_setCells_far _ hneA]; go_keep)) ((go_at_call 29; go_must (refine (rval_ok _ t _ hbx htb).mono ?_); rw [HV2.out, rvalR_some]; rintro en w3 ⟨rfl, hk3⟩; have hq3 : Kp NoB wr w3 := (by first | exact (Kp.refl NoB wr).drew.trans hk3 (fun _ _ q => q) | exact ((Kp.refl NoB wr).drew.alloc _).trans hk3 (fun _ _ q => q) | exact ((Kp.refl NoB wr).alloc _).drew.trans hk3 (fun _ _ q => q)); have HK3 := Lib.hid hq3; have ct3 : w3.cell? ⟨tg, m, none⟩ = some (.int .u64 (t : Int)) := (hq3.cell htl (fun q => q)).trans ctm; have hne3 : tg ≠ w3.heap.size := (by have := hq3.size; omega); have thB := (Blk.new w3 47 #[.int .i64 0, .int .i64 0, .string ⟨#[]⟩]).thereAll 3 rfl; first | (have hbA := ((Blk.new wr 47 #[.int .i64 0, .int .i64 0, .string ⟨#[]⟩]).drew).keep hk3 (fun q => q); have thA := hbA.thereAll 3 rfl; have HBA := Lib.hid hbA; clear hbA) | skip; clear hk3 hq3))
                all_goals
                  first
                    | (refine forget (p := fun wx => Exit.then _ _ Exit.normal _ wx) (fun W => RD2 w (.slice (some ⟨tg, 0, none⟩) k tcap) k ts u10 m vs W ∧ Blk W wr.heap.size 47 #[.int .i64 x.k, .int .i64 x.i, .string x.s]) ⟨HD.out.keep (Kp.setCells (.inl (Nat.le_refl _)) _ _ _ HK3.out), HBA.out.whole #[.int .i64 x.k, .int .i64 x.i, .string x.s] rfl⟩ ?_)
                    | (refine forget (p := fun wx => Exit.then _ _ Exit.normal _ wx) (fun W => RD2 w (.slice (some ⟨tg, 0, none⟩) k tcap) k ts u10 m vs W ∧ Blk W w3.heap.size 47 #[.int .i64 x.k, .int .i64 x.i, .string x.s]) ⟨HD.out.keep (Kp.setCells (.inl (by have := HK3.out.size; omega)) _ _ _ (HK3.out.alloc _)), (Blk.new w3 _ _).whole #[.int .i64 x.k, .int .i64 x.i, .string x.s] rfl⟩ ?_)
                  rintro W5 ⟨hd5, hb5⟩
                  have HD5 := Lib.hid hd5
                  have th5 := hb5.thereAll 3 rfl
                  have rd5 := hb5.readAll 3 rfl
                  have hsz5 := hd5.kp.size
                  clear hd5 hb5
                  go_wp2_with (at_builtin; refine wpList_append_own _ rfl _ _ 31 rfl w.heap.size 47 j0 _ 3 32 Try.underlying31 HJ0.out HY0.out HY1.out HY2.out rfl (by omega) u10 m (rvCells vs) rfl (HD5.out.keep ((Kp.refl NoB W5).alloc _)).row ⟨W5.heap.size, 0, none⟩ 1 1 [.int .i64 x.k, .int .i64 x.i, .string x.s] rfl rfl (cells_new _ _ _) (by simp [Value.oneCell']) (by unfold maxLen; omega) (by omega) (by simp; omega) ?_; intro v1 w6 hown6 hgrow6 _; have HD6 := Lib.hid (HD5.out.grown hgrow6 hown6); clear hown6 hgrow6)
                  exact ⟨⟨m + 1, b + d, vs ++ [x], by omega, by congr 1, by congr 1, by omega, HD6.out, HVS2.out, fun y hy => by rcases List.mem_append.1 hy with q | q; exact HOK.out y q; simp at q; rw [q]; exact HX.out⟩, by simp [intOf]; omega⟩
            · obtain rfl : m = k := by omega
              obtain ⟨RA, rcap, rfl⟩ := own_slice HD.out.row
              obtain ⟨hvl, hRw⟩ := rw_of_own HD.out.row HOK.out
              have HRW := Lib.hid hRw
              have HVL := Lib.hid hvl
              obtain ⟨p, ec, hpe⟩ : ∃ p ec, encF vs = (p, ec) := ⟨_, _, rfl⟩
              have HE := Lib.hid hpe
              have HF2 := Lib.hid (show decF' s = if (p, ec) = (s, (0 : Int)) then some vs else none by
                have h1 := HVS.out
                rw [List.take_of_length_le (by rw [HLT.out]; exact Nat.le_refl _)] at h1
                rw [HF.out, HTS.out]
                simp only
                rw [h1]
                simp only
                rw [hpe])
              clear hRw hvl hpe
              by_cases he0 : ec = 0
              · subst he0
                by_cases hps : p = s
                · subst hps
                  have HF3 := Lib.hid (show decF' p = some vs by rw [HF2.out, if_pos rfl])
                  go_wp2_with (go_at_call 14; go_must (refine (renc_ok _ RA m rcap vs (by omega) HRW.out).mono ?_); rw [HE.out]; rintro en w5 ⟨rfl, hk5⟩; have HD5 := Lib.hid (HD.out.keep hk5); clear hk5)
                  go_ret2
                  have ho := HD5.out.row
                  have hvl := HVL.out
                  subst hvl
                  exact ⟨HD5.out.kp, by rw [HF3.out]; exact ⟨RA, rcap, rfl, (rw_of_own ho HOK.out).2, own_nil ho⟩⟩
                · have HF3 := Lib.hid (show decF' s = none by rw [HF2.out, if_neg (by simp [hps])])
                  have hbf : (p.toList == s.toList) = false := str_ne hps
                  have hbn : (p.toList != s.toList) = true := by rw [bne, hbf]; rfl
                  go_wp2_with (go_at_call 14; go_must (refine (renc_ok _ RA m rcap vs (by omega) HRW.out).mono ?_); rw [HE.out]; rintro en w5 ⟨rfl, hk5⟩; have HD5 := Lib.hid (HD.out.keep hk5); clear hk5)
                  go_ret2
                  exact ⟨HD5.out.kp, by rw [HF3.out]; rfl⟩
              · have HF3 := Lib.hid (show decF' s = none by rw [HF2.out, if_neg (by simp [he0])])
                have hbe : (ec != 0) = true := by rw [bne_iff_ne]; exact he0
                clear he0
                go_wp2_with (go_at_call 14; go_must (refine (renc_ok _ RA m rcap vs (by omega) HRW.out).mono ?_); rw [HE.out]; rintro en w5 ⟨rfl, hk5⟩; have HD5 := Lib.hid (HD.out.keep hk5); clear hk5)
                go_ret2
                exact ⟨HD5.out.kp, by rw [HF3.out]; rfl⟩
end Go.Proofs.Ytlcefenjlchaiaa
