/- The reference's Room, Lay and Told of any texts, however long; condition: no more than 4000, together no longer than numbers bear. -/
import Derived.Test.YtnleoeogcinadaaPgRefNew
import Derived.Test.YtnleoeogcinadaaPgPlain
namespace Go.Proofs.Ytnleoeogcinadaa
open Go.RowKit
attribute [local go_sem ↓] load26 store26 alloc26 build26 slice26lo

theorem roomI_ub (xs : List ByteArray) : roomI xs ≤ 250 := by
  have h := sum_nonneg xs
  unfold roomI
  omega
theorem roomI_ins (cs : List ByteArray) (i : Nat) (c : ByteArray) : roomI (cs.take i ++ [c] ++ cs.drop i) = roomI cs - 1 - (c.size : Int) := by
  have e : roomI cs = 250 - (((cs.take i).map fun c => 1 + (c.size : Int)).sum + ((cs.drop i).map fun c => 1 + (c.size : Int)).sum) := by
    unfold roomI
    conv => lhs; rw [← List.take_append_drop i cs, List.map_append, List.sum_append]
  rw [e]
  unfold roomI
  rw [List.map_append, List.map_append, List.sum_append, List.sum_append]
  simp
  omega
set_option maxHeartbeats 800000 in
theorem rroom_gen (w : World) (is : Bool) (kind link : Int) (A : Option Addr) (n cap : Nat) (xs : List ByteArray) (hn : n ≤ 4000) (h60 : ∀ c ∈ xs, c.size ≤ 9223372036854775807) (hlow : -9223372036854775808 ≤ roomI xs) (hS : Sl w A n xs) :
    Calls Try.prog 12 #[.agg (rBody is kind link A n cap)] w fun e w' => e = .returned (.int .i64 (roomI xs)) ∧ Kp NoB w w' := by
  have HS := Lib.hid (hS.keep ((Kp.refl NoB w).alloc (.cells (rBody is kind link A n cap) 34)))
  have H6 := Lib.hid h60
  have HLOW := Lib.hid hlow
  clear hS h60 hlow
  go_enter Try.func12, Try.ntmps12
  go_wp2
  go_loop [3, 4] (fun r i => ∃ k : Nat, k ≤ n ∧ i = .int .i64 k ∧ r = .int .i64 (roomI (xs.take k))) (fun _ i => n - (intOf i).toNat)
  case atStart => exact ⟨0, by omega, rfl, rfl⟩
  case round =>
    obtain ⟨k, hk, rfl, rfl⟩ := hrel
    by_cases hlt : k < n
    · obtain ⟨g, o, rfl, hg, hc⟩ := HS.out.2 (by omega)
      have hcell := hc k hlt
      have HT := Lib.hid (roomI_take xs k (by rw [HS.out.1]; exact hlt))
      have hc60 : ((xs[k]?.getD ByteArray.empty).size : Int) ≤ 9223372036854775807 := by
        have hkx : k < xs.length := by rw [HS.out.1]; exact hlt
        have := H6.out xs[k] (List.getElem_mem hkx)
        simp [hkx]; omega
      have hc0 : (0 : Int) ≤ ((xs[k]?.getD ByteArray.empty).size : Int) := Int.natCast_nonneg _
      have hlo2 : -9223372036854775808 ≤ roomI (xs.take k) - 1 - ((xs[k]?.getD ByteArray.empty).size : Int) := by
        have q1 := roomI_take_ge xs (k + 1)
        have q2 := HLOW.out
        rw [HT.out] at q1
        omega
      have hub : roomI (xs.take k) ≤ 250 := roomI_ub _
      clear hc
      go_wp2
      exact ⟨⟨k + 1, by omega, by congr 1, by congr 1; rw [HT.out]; omega⟩, by simp [intOf]; omega⟩
    · obtain rfl : k = n := by omega
      go_wp2
      go_ret
      exact ⟨ret_int (by rw [List.take_of_length_le (by rw [HS.out.1]; exact Nat.le_refl _)]), (Kp.refl _ _).alloc _⟩

set_option maxRecDepth 100000 in
set_option maxHeartbeats 1600000 in
theorem rlay_gen (w : World) (is : Bool) (kind link : Int) (A : Option Addr) (n cap : Nat) (xs : List ByteArray) (hk0 : 0 ≤ kind) (hk9 : kind ≤ 255) (hn : n ≤ 4000) (hS : Sl w A n xs) (hr : 0 ≤ roomI xs) :
    Calls Try.prog 22 #[.agg (rBody is kind link A n cap)] w fun e w' => e = .returned (.agg (bytesV (layI kind link xs))) ∧ Kp NoB w w' := by
  have HS := Lib.hid hS
  have HRR := Lib.hid hr
  clear hS hr
  go_enter Try.func22, Try.ntmps22
  go_wp2
  have hfl := roomI_flat xs
  have hnx : xs.length = n := HS.out.1
  have hn125 : (n : Int) ≤ 250 := by have := HRR.out; omega
  have HN := Lib.hid hnx
  have HF := Lib.hid hfl
  clear hfl hnx
  have he : ((((((zero256.setIfInBounds 0 (.int .u8 kind)).setIfInBounds 1 (.int .u8 ((n : Int) % 256))).setIfInBounds 2 (.int .u8 (link / 16777216 % 256))).setIfInBounds 3 (.int .u8 (link / 65536 % 256))).setIfInBounds 4 (.int .u8 (link / 256 % 256))).setIfInBounds 5 (.int .u8 (link % 256))) = bytesV (layK kind link xs 0) := by
    rw [zero256_eq, bytesV_set, bytesV_set, bytesV_set, bytesV_set, bytesV_set, bytesV_set, hd_sets, ← HN.out, layK_zero kind link xs (by rw [HN.out]; omega)]
  have hst : RLayS w is kind link A n cap xs (layK kind link xs 0) (((w.alloc (.cells (rBody is kind link A n cap) 34)).alloc (.cells zero256 26)).alloc (.cells ((((((zero256.setIfInBounds 0 (.int .u8 kind)).setIfInBounds 1 (.int .u8 ((n : Int) % 256))).setIfInBounds 2 (.int .u8 (link / 16777216 % 256))).setIfInBounds 3 (.int .u8 (link / 65536 % 256))).setIfInBounds 4 (.int .u8 (link / 256 % 256))).setIfInBounds 5 (.int .u8 (link % 256))) 26)) := by
    rw [he]
    exact ⟨(((Kp.refl _ _).alloc _).alloc _).alloc _, ((Blk.new _ _ _).alloc _).alloc _, (Blk.newAt _ _ _ _ (by simp)).alloc _, Blk.newAt _ _ _ _ (by simp), layK_len kind link xs 0 (Nat.zero_le _) HRR.out, HS.out.keep ((((Kp.refl _ _).alloc _).alloc _).alloc _)⟩
  have HST := Lib.hid hst
  clear hst he
  refine forget (p := fun wx => Code.wp _ _ _ _ wx) (RLayS w is kind link A n cap xs (layK kind link xs 0)) HST.out ?_
  intro W3 hW3
  have HW3 := Lib.hid hW3
  clear hW3 HST
  go_loopw [4, 5] (fun p i wr => ∃ k m : Nat, k ≤ n ∧ i = .int .i64 k ∧ p = .int .i64 m ∧ m = 6 + n + (flatI (xs.take k)).length ∧ RLayS w is kind link A n cap xs (layK kind link xs k) wr) (fun _ i _ => n - (intOf i).toNat)
  case atStart => exact ⟨0, 6 + n, by omega, rfl, by congr 1, rfl, HW3.out⟩
  case round =>
    obtain ⟨k, m, hk, rfl, rfl, hm, hL⟩ := hrel
    have f3 : wr.cell? ⟨w.heap.size, 3, none⟩ = some (.slice A n cap) := hL.b1.cell 3
    have HM := Lib.hid hm
    have HLk := Lib.hid hL
    clear hm hL
    by_cases hlt : k < n
    · have hkx : k < xs.length := by rw [HN.out]; exact hlt
      have hfk : (flatI (xs.take (k + 1))).length = (flatI (xs.take k)).length + (xs[k]?.getD ByteArray.empty).size := by rw [flat_take xs k hkx, List.length_append, strI_len]
      have hfk2 := flat_le xs (k + 1)
      have hcs : (xs[k]?.getD ByteArray.empty).size ≤ 249 := by have := HF.out; have := HRR.out; have := HN.out; omega
      have hm256 : m + (xs[k]?.getD ByteArray.empty).size ≤ 256 := by have := HF.out; have := HRR.out; have := HM.out; have := HN.out; omega
      obtain ⟨c, hc⟩ : ∃ c, xs[k]?.getD ByteArray.empty = c := ⟨_, rfl⟩
      rw [hc] at hcs hm256 hfk
      have hmc : (m : Int) + (c.size : Int) ≤ 256 := by omega
      have hc60 : (c.size : Int) ≤ 249 := by omega
      obtain ⟨g, o, rfl, hg, hcell⟩ := HLk.out.sl.2 (by omega)
      have hck := hcell k hlt
      rw [show xs.getD k ByteArray.empty = c by rw [← hc]; simp] at hck
      have HC := Lib.hid hc
      have pk := HLk.out.cell (6 + k) (by omega)
      have zk := HLk.out.b4.frozen (6 + k)
      have hS2 := HLk.out.set (6 + k) (c.size : Int)
      rw [show (c.size : Int) = ((xs[k]?.getD ByteArray.empty).size : Int) by rw [HC.out], layM_eq kind link xs k hkx] at hS2
      obtain ⟨la, lb, ld, q1, q2, q3, q4, hlb⟩ := layM_next kind link xs k hkx HRR.out
      rw [HC.out] at hlb q4
      have HS2 := Lib.hid hS2
      have HQ1 := Lib.hid q1
      have HQ2 := Lib.hid q2
      have HQ4 := Lib.hid q4
      have HLB := Lib.hid hlb
      clear hcell hc hfk hfk2 hS2 q1 q2 q3 q4 hlb
      go_wp2
      refine forget (p := fun wx => Code.wp _ _ _ _ wx) (RLayS w is kind link (some ⟨g, o, none⟩) n cap xs (la ++ ((strI c).take 0 ++ zeros (c.size - 0)) ++ ld)) (by have := HS2.out; rw [HQ1.out, HLB.out, HC.out] at this; simpa using this) ?_
      intro W5 hW5
      have HW5 := Lib.hid hW5
      clear hW5 pk zk f3
      have hla : la.length = m := by rw [HQ2.out, HM.out, HN.out]
      have HLA := Lib.hid hla
      clear hla
      go_loopw [4, 6] (fun p i wx => ∃ j r : Nat, j ≤ c.size ∧ i = .int .i64 j ∧ p = .int .i64 r ∧ r = m + j ∧ RLayS w is kind link (some ⟨g, o, none⟩) n cap xs (la ++ ((strI c).take j ++ zeros (c.size - j)) ++ ld) wx) (fun _ i _ => c.size - (intOf i).toNat)
      case atStart => exact ⟨0, m, by omega, rfl, rfl, rfl, HW5.out⟩
      case round =>
        obtain ⟨j, r, hj, rfl, rfl, hrj, hLj⟩ := hrel
        have HRJ := Lib.hid hrj
        have HLj := Lib.hid hLj
        have f3 : wr.cell? ⟨w.heap.size, 3, none⟩ = some (.slice (some ⟨g, o, none⟩) n cap) := hLj.b1.cell 3
        obtain ⟨g', o', e, _, hc'⟩ := hLj.sl.2 (by omega)
        cases e
        have hck' := hc' k hlt
        rw [show xs.getD k ByteArray.empty = c by rw [← HC.out]; simp] at hck'
        clear hrj hLj hc'
        by_cases hjc : j < c.size
        · have hr256 : r < 256 := by have := HRJ.out; omega
          have pr := HLj.out.cell r hr256
          have zr := HLj.out.b4.frozen r
          have hri : (r : Int) < 256 := by omega
          have hji : (j : Int) < (c.size : Int) := by omega
          have HST := HLj.out.set r ((c[j]).toNat : Int)
          rw [show r = la.length + j by rw [HRJ.out, HLA.out], bytes_step la ld c j hjc, show la.length + j = r by rw [HRJ.out, HLA.out]] at HST
          have HST' := Lib.hid HST
          clear HST
          go_wp2
          exact ⟨⟨j + 1, r + 1, by omega, by congr 1, by congr 1, by rw [HRJ.out]; omega, HST'.out⟩, by simp [intOf]; omega⟩
        · obtain rfl : j = c.size := by omega
          go_wp2
          refine ⟨⟨k + 1, r, by omega, by congr 1, rfl, ?_, ?_⟩, by simp [intOf]; omega⟩
          · rw [flat_take xs k hkx, List.length_append, strI_len, HC.out, HRJ.out, HM.out]; omega
          · have := HLj.out
            rw [List.take_of_length_le (by rw [strI_len]; exact Nat.le_refl _), Nat.sub_self] at this
            rw [HQ4.out]
            simpa [zeros] using this
    · obtain rfl : k = n := by omega
      have ht2 := HLk.out.b2.thereAll 256 zero256_size
      have ht4 := HLk.out.b4.thereAll 256 (by rw [bytesV_size]; exact HLk.out.ln)
      have hr4 := HLk.out.b4.readAll 256 (by rw [bytesV_size]; exact HLk.out.ln)
      have hsz : (bytesV (layK kind link xs k)).size = 256 := by rw [bytesV_size]; exact HLk.out.ln
      have hon := bytesV_one (layK kind link xs k)
      go_wp2_with fail
      refine bodyPost_ret (results_cell_row rfl _ _ _ _ _ _ _ rfl (HLk.out.b2.whole (bytesV (layK kind link xs k)) (zero256_size.trans hsz.symm)) Try.underlying26 rfl (by rw [hsz]; exact info26)) rfl ?_
      exact ⟨by unfold layI; rw [HN.out], Kp.setCells (.inl (by omega)) _ _ _ HLk.out.kp⟩
set_option maxRecDepth 100000 in
set_option maxHeartbeats 1600000 in
theorem rtold_gen (w : World) (is : Bool) (kind link : Int) (A : Option Addr) (n cap : Nat) (xs : List ByteArray) (hk0 : 0 ≤ kind) (hk9 : kind ≤ 255) (hn : n ≤ 4000) (h60 : ∀ c ∈ xs, c.size ≤ 9223372036854775807) (hlow : -9223372036854775808 ≤ roomI xs) (hS : Sl w A n xs) :
    Calls Try.prog 23 #[.agg (rBody is kind link A n cap)] w (PagePost w (toldR kind link xs)) := by
  have HS := Lib.hid (hS.keep (((Kp.refl NoB w).alloc (.cells (rBody is kind link A n cap) 34)).alloc (.cells zero256 26)))
  have HB2 : Hid (Blk ((w.alloc (.cells (rBody is kind link A n cap) 34)).alloc (.cells zero256 26)) (w.heap.size + 1) 26 zero256) := Lib.hid (Blk.newAt _ _ _ _ (by simp))
  have HB1 : Hid (Blk ((w.alloc (.cells (rBody is kind link A n cap) 34)).alloc (.cells zero256 26)) w.heap.size 34 (rBody is kind link A n cap)) := Lib.hid ((Blk.new _ _ _).alloc _)
  have H6 := Lib.hid h60
  have zs := zero256_size
  have zo := zero256_one
  have HLOW := Lib.hid hlow
  clear hS h60 hlow
  by_cases hr : roomI xs < 0
  · have HT := Lib.hid (show toldR kind link xs = (zero256, 5) from if_pos hr)
    go_enter Try.func23, Try.ntmps23
    go_wp2_with (first
      | (go_at_call 12; go_must (refine (rroom_gen _ is kind link A n cap xs hn H6.out HLOW.out HS.out).mono ?_); rintro e w2 ⟨rfl, hk2⟩; have HB := Lib.hid (HB2.out.keep hk2 (fun q => q)); have HK := Lib.hid ((((Kp.refl NoB w).alloc _).alloc _).trans hk2 (fun _ _ q => q)); have t2 := HB.out.thereAll 256 zero256_size; clear hk2))
    refine bodyPost_ret (ret_cell_tmp rfl _ _ _ _ _ _ rfl (HB.out.whole zero256 rfl) Try.underlying26 rfl (by rw [zero256_size]; exact info26) _ rfl) rfl ?_
    exact ⟨by rw [HT.out]; rfl, Kp.setCells (.inl (by omega)) _ _ _ HK.out⟩
  · have HT := Lib.hid (show toldR kind link xs = (bytesV (layI kind link xs), 0) from if_neg hr)
    have HR := Lib.hid (show 0 ≤ roomI xs by omega)
    have HP1 : Hid ((bytesV (layI kind link xs)).size = 256) := Lib.hid (by rw [bytesV_size]; exact layI_len kind link xs HR.out)
    go_enter Try.func23, Try.ntmps23
    go_wp2_with (first
      | (go_at_call 12; go_must (refine (rroom_gen _ is kind link A n cap xs hn H6.out HLOW.out HS.out).mono ?_); rintro e w2 ⟨rfl, hk2⟩; have HB := Lib.hid (HB2.out.keep hk2 (fun q => q)); have HK := Lib.hid ((((Kp.refl NoB w).alloc _).alloc _).trans hk2 (fun _ _ q => q)); have HSS := Lib.hid (HS.out.keep hk2); have HBB := Lib.hid (HB1.out.keep hk2 (fun q => q)); have g0 : w2.cell? ⟨w.heap.size, 0, none⟩ = some (.bool is) := HBB.out.cell 0; have g1 : w2.cell? ⟨w.heap.size, 1, none⟩ = some (.int .i64 kind) := HBB.out.cell 1; have g2 : w2.cell? ⟨w.heap.size, 2, none⟩ = some (.int .u32 link) := HBB.out.cell 2; have g3 : w2.cell? ⟨w.heap.size, 3, none⟩ = some (.slice A n cap) := HBB.out.cell 3; clear hk2)
      | (go_at_call 22; go_must (refine (rlay_gen _ is kind link A n cap xs hk0 hk9 hn HSS.out HR.out).mono ?_); rintro e w3 ⟨rfl, hk3⟩; have HB3 := Lib.hid (HB.out.keep hk3 (fun q => q)); have HK3 := Lib.hid (HK.out.trans hk3 (fun _ _ q => q)); have t2 := HB3.out.thereAll 256 zero256_size; have p1 := HP1.out; have p2 := bytesV_one (layI kind link xs); clear hk3))
    refine bodyPost_ret (ret_cell_tmp rfl _ _ _ _ _ _ rfl (HB3.out.whole (bytesV (layI kind link xs)) (zero256_size.trans HP1.out.symm)) Try.underlying26 rfl (by rw [HP1.out]; exact info26) _ rfl) rfl ?_
    exact ⟨by rw [HT.out]; rfl, Kp.setCells (.inl (by omega)) _ _ _ HK3.out⟩

end Go.Proofs.Ytnleoeogcinadaa
