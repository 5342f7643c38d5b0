/- The reference's Room, Lay, Told and New: pages are made of any kind, link and cells; no condition. -/
import Derived.Test.YtnleoeogcinadaaPgNew
namespace Go.Proofs.Ytnleoeogcinadaa
open Go.RowKit
attribute [local go_sem ↓] load26 store26 alloc26 build26 slice26lo

abbrev rBody (is : Bool) (kind link : Int) (A : Option Addr) (n cap : Nat) : Array Value := #[.bool is, .int .i64 kind, .int .u32 link, .slice A n cap]

set_option maxHeartbeats 800000 in
theorem rroom_ok (w : World) (is : Bool) (kind link : Int) (A : Option Addr) (n cap : Nat) (xs : List ByteArray) (hn : n ≤ 4000) (h60 : ∀ c ∈ xs, c.size ≤ 60) (hS : Sl w A n xs) :
    Calls Try.prog 12 #[.agg (rBody is kind link A n cap)] w fun e w' => e = .returned (.int .i64 (roomI xs)) ∧ Kp NoB w w' := by
  have HS := Lib.hid (hS.keep ((Kp.refl NoB w).alloc (.cells (rBody is kind link A n cap) 34)))
  have H6 := Lib.hid h60
  clear hS h60
  go_enter Try.func12, Try.ntmps12
  go_wp2
  go_loop [3, 4] (fun r i => ∃ k : Nat, k ≤ n ∧ i = .int .i64 k ∧ r = .int .i64 (roomI (xs.take k))) (fun _ i => n - (intOf i).toNat)
  case atStart => exact ⟨0, by omega, rfl, rfl⟩
  case round =>
    obtain ⟨k, hk, rfl, rfl⟩ := hrel
    by_cases hlt : k < n
    · obtain ⟨g, o, rfl, hg, hc⟩ := HS.out.2 (by omega)
      have hcell := hc k hlt
      have hlo := roomI_lo (xs.take k) (fun c hc => H6.out c (List.mem_of_mem_take hc))
      have hl : (xs.take k).length ≤ k := List.length_take_le _ _
      have HT := Lib.hid (roomI_take xs k (by rw [HS.out.1]; exact hlt))
      have hc60 : ((xs[k]?.getD ByteArray.empty).size : Int) ≤ 60 := by
        have hkx : k < xs.length := by rw [HS.out.1]; exact hlt
        have := H6.out xs[k] (List.getElem_mem hkx)
        simp [hkx]; omega
      have hc0 : (0 : Int) ≤ ((xs[k]?.getD ByteArray.empty).size : Int) := Int.natCast_nonneg _
      clear hc
      go_wp2
      exact ⟨⟨k + 1, by omega, by congr 1, by congr 1; rw [HT.out]; omega⟩, by simp [intOf]; omega⟩
    · obtain rfl : k = n := by omega
      go_wp2
      go_ret
      exact ⟨ret_int (by rw [List.take_of_length_le (by rw [HS.out.1]; exact Nat.le_refl _)]), (Kp.refl _ _).alloc _⟩

/-- a row of bytes, the first j of a string written -/
theorem bytes_step (la ld : List Int) (c : ByteArray) (j : Nat) (hj : j < c.size) : (la ++ ((strI c).take j ++ zeros (c.size - j)) ++ ld).set (la.length + j) ((c[j]).toNat : Int) = la ++ ((strI c).take (j + 1) ++ zeros (c.size - (j + 1))) ++ ld := by
  have hl : ((strI c).take j).length = j := by rw [List.length_take, strI_len]; omega
  have hz : zeros (c.size - j) = 0 :: zeros (c.size - (j + 1)) := by
    unfold zeros
    rw [show c.size - j = (c.size - (j + 1)) + 1 by omega, List.replicate_succ]
  have hjl : j < (strI c).length := by rw [strI_len]; exact hj
  rw [List.append_assoc, List.set_append_right _ _ (by omega), Nat.add_sub_cancel_left, List.append_assoc, List.set_append_right _ _ (by omega), hl, Nat.sub_self, hz, List.take_succ_eq_append_getElem hjl]
  have : (strI c)[j] = ((c[j]).toNat : Int) := by
    simp only [strI, List.getElem_map]
    rfl
  rw [this]
  simp only [List.cons_append, List.set_cons_zero, List.append_assoc, List.nil_append]
/-- in the midst of the reference's Lay -/
structure RLayS (w : World) (is : Bool) (kind link : Int) (A : Option Addr) (n cap : Nat) (xs : List ByteArray) (l : List Int) (W : World) : Prop where
  kp : Kp NoB w W
  b1 : Blk W w.heap.size 34 (rBody is kind link A n cap)
  b2 : Blk W (w.heap.size + 1) 26 zero256
  b4 : Blk W (w.heap.size + 1 + 1) 26 (bytesV l)
  ln : l.length = 256
  sl : Sl W A n xs
theorem RLayS.cell {w : World} {is : Bool} {kind link : Int} {A : Option Addr} {n cap : Nat} {xs : List ByteArray} {l : List Int} {W : World} (h : RLayS w is kind link A n cap xs l W) (i : Nat) (hi : i < 256) :
    W.cell? ⟨w.heap.size + 1 + 1, i, none⟩ = some (.int .u8 (l[i]?.getD 0)) := (h.b4.cell i).trans (bytesV_get l i (by rw [h.ln]; exact hi))
theorem RLayS.set {w : World} {is : Bool} {kind link : Int} {A : Option Addr} {n cap : Nat} {xs : List ByteArray} {l : List Int} {W : World} (h : RLayS w is kind link A n cap xs l W) (i : Nat) (v : Int) :
    RLayS w is kind link A n cap xs (l.set i v) (W.setCell ⟨w.heap.size + 1 + 1, i, none⟩ (.int .u8 v)) := by
  refine ⟨h.kp.setCell (p := ⟨w.heap.size + 1 + 1, i, none⟩) (.inl (by show _ ≤ w.heap.size + 1 + 1; omega)) _, h.b1.far (p := ⟨w.heap.size + 1 + 1, i, none⟩) (by simp; omega) _, h.b2.far (p := ⟨w.heap.size + 1 + 1, i, none⟩) (by simp) _, ?_, by simp [h.ln], ?_⟩
  · have := h.b4.set_ i (.int .u8 v)
    rw [bytesV_set] at this
    exact this
  · exact h.sl.on h.b4 (Kp.setCell (S := OnB (w.heap.size + 1 + 1)) (p := ⟨w.heap.size + 1 + 1, i, none⟩) (Kp.refl _ _) (.inr rfl) _)
theorem RLayS.drew {w : World} {is : Bool} {kind link : Int} {A : Option Addr} {n cap : Nat} {xs : List ByteArray} {l : List Int} {W : World} (h : RLayS w is kind link A n cap xs l W) : RLayS w is kind link A n cap xs l W.drew :=
  ⟨h.kp.drew, h.b1, h.b2, h.b4, h.ln, h.sl⟩

theorem hd_sets (kind link : Int) (n : Nat) : ((((((zeros 256).set 0 kind).set 1 ((n : Int) % 256)).set 2 (link / 16777216 % 256)).set 3 (link / 65536 % 256)).set 4 (link / 256 % 256)).set 5 (link % 256) = hd6 kind link n ++ zeros 250 := by
  have : zeros 256 = zeros 6 ++ zeros 250 := by
    unfold zeros
    rw [List.replicate_append_replicate]
  rw [this]
  rfl
set_option maxRecDepth 100000 in
set_option maxHeartbeats 1600000 in
theorem rlay_ok (w : World) (is : Bool) (kind link : Int) (A : Option Addr) (n cap : Nat) (xs : List ByteArray) (hk0 : 0 ≤ kind) (hk9 : kind ≤ 255) (hn : n ≤ 4000) (h60 : ∀ c ∈ xs, 1 ≤ c.size ∧ c.size ≤ 60) (hS : Sl w A n xs) (hr : 0 ≤ roomI xs) :
    Calls Try.prog 22 #[.agg (rBody is kind link A n cap)] w fun e w' => e = .returned (.agg (bytesV (layI kind link xs))) ∧ Kp NoB w w' := by
  have HS := Lib.hid hS
  have H6 := Lib.hid h60
  have HRR := Lib.hid hr
  clear hS h60 hr
  go_enter Try.func22, Try.ntmps22
  go_wp2
  have hfl := roomI_flat xs
  have hlo := flat_lo xs (fun c hc => (H6.out c hc).1)
  have hnx : xs.length = n := HS.out.1
  have hn125 : (n : Int) ≤ 125 := by have := HRR.out; omega
  have HN := Lib.hid hnx
  have HF := Lib.hid hfl
  clear hfl hlo hnx
  have he : ((((((zero256.setIfInBounds 0 (.int .u8 kind)).setIfInBounds 1 (.int .u8 ((n : Int) % 256))).setIfInBounds 2 (.int .u8 (link / 16777216 % 256))).setIfInBounds 3 (.int .u8 (link / 65536 % 256))).setIfInBounds 4 (.int .u8 (link / 256 % 256))).setIfInBounds 5 (.int .u8 (link % 256))) = bytesV (layK kind link xs 0) := by
    rw [zero256_eq, bytesV_set, bytesV_set, bytesV_set, bytesV_set, bytesV_set, bytesV_set, hd_sets, ← HN.out, layK_zero kind link xs (by rw [HN.out]; omega)]
  have hst : RLayS w is kind link A n cap xs (layK kind link xs 0) (((w.alloc (.cells (rBody is kind link A n cap) 34)).alloc (.cells zero256 26)).alloc (.cells ((((((zero256.setIfInBounds 0 (.int .u8 kind)).setIfInBounds 1 (.int .u8 ((n : Int) % 256))).setIfInBounds 2 (.int .u8 (link / 16777216 % 256))).setIfInBounds 3 (.int .u8 (link / 65536 % 256))).setIfInBounds 4 (.int .u8 (link / 256 % 256))).setIfInBounds 5 (.int .u8 (link % 256))) 26)) := by
    rw [he]
    exact ⟨(((Kp.refl _ _).alloc _).alloc _).alloc _, ((Blk.new _ _ _).alloc _).alloc _, (Blk.newAt _ _ _ _ (by simp)).alloc _, Blk.newAt _ _ _ _ (by simp), layK_len kind link xs 0 (Nat.zero_le _) HRR.out, HS.out.keep ((((Kp.refl _ _).alloc _).alloc _).alloc _)⟩
  have HST := Lib.hid hst
  clear hst he
  refine forget (p := fun wx => Code.wp _ _ _ _ wx) (RLayS w is kind link A n cap xs (layK kind link xs 0)) HST.out ?_
  intro W3 hW3
  have HW3 := Lib.hid hW3
  clear hW3 HST
  go_loopw [4, 5] (fun p i wr => ∃ k m : Nat, k ≤ n ∧ i = .int .i64 k ∧ p = .int .i64 m ∧ m = 6 + n + (flatI (xs.take k)).length ∧ RLayS w is kind link A n cap xs (layK kind link xs k) wr) (fun _ i _ => n - (intOf i).toNat)
  case atStart => exact ⟨0, 6 + n, by omega, rfl, by congr 1, rfl, HW3.out⟩
  case round =>
    obtain ⟨k, m, hk, rfl, rfl, hm, hL⟩ := hrel
    have f3 : wr.cell? ⟨w.heap.size, 3, none⟩ = some (.slice A n cap) := hL.b1.cell 3
    have HM := Lib.hid hm
    have HLk := Lib.hid hL
    clear hm hL
    by_cases hlt : k < n
    · have hkx : k < xs.length := by rw [HN.out]; exact hlt
      have hcs : (xs[k]?.getD ByteArray.empty).size ≤ 60 ∧ 1 ≤ (xs[k]?.getD ByteArray.empty).size := by
        have := H6.out xs[k] (List.getElem_mem hkx)
        simp [hkx]; omega
      have hfk : (flatI (xs.take (k + 1))).length = (flatI (xs.take k)).length + (xs[k]?.getD ByteArray.empty).size := by rw [flat_take xs k hkx, List.length_append, strI_len]
      have hfk2 := flat_le xs (k + 1)
      have hm256 : m + (xs[k]?.getD ByteArray.empty).size ≤ 256 := by have := HF.out; have := HRR.out; have := HM.out; have := HN.out; omega
      obtain ⟨c, hc⟩ : ∃ c, xs[k]?.getD ByteArray.empty = c := ⟨_, rfl⟩
      rw [hc] at hcs hm256 hfk
      have hmc : (m : Int) + (c.size : Int) ≤ 256 := by omega
      have hc1 : (1 : Int) ≤ (c.size : Int) := by omega
      have hc60 : (c.size : Int) ≤ 60 := by omega
      obtain ⟨g, o, rfl, hg, hcell⟩ := HLk.out.sl.2 (by omega)
      have hck := hcell k hlt
      rw [show xs.getD k ByteArray.empty = c by rw [← hc]; simp] at hck
      have HC := Lib.hid hc
      have pk := HLk.out.cell (6 + k) (by omega)
      have zk := HLk.out.b4.frozen (6 + k)
      have hS2 := HLk.out.set (6 + k) (c.size : Int)
      rw [show (c.size : Int) = ((xs[k]?.getD ByteArray.empty).size : Int) by rw [HC.out], layM_eq kind link xs k hkx] at hS2
      obtain ⟨la, lb, ld, q1, q2, q3, q4, hlb⟩ := layM_next kind link xs k hkx HRR.out
      rw [HC.out] at hlb q4
      have HS2 := Lib.hid hS2
      have HQ1 := Lib.hid q1
      have HQ2 := Lib.hid q2
      have HQ4 := Lib.hid q4
      have HLB := Lib.hid hlb
      clear hcell hc hfk hfk2 hS2 q1 q2 q3 q4 hlb
      go_wp2
      refine forget (p := fun wx => Code.wp _ _ _ _ wx) (RLayS w is kind link (some ⟨g, o, none⟩) n cap xs (la ++ ((strI c).take 0 ++ zeros (c.size - 0)) ++ ld)) (by have := HS2.out; rw [HQ1.out, HLB.out, HC.out] at this; simpa using this) ?_
      intro W5 hW5
      have HW5 := Lib.hid hW5
      clear hW5 pk zk f3
      have hla : la.length = m := by rw [HQ2.out, HM.out, HN.out]
      have HLA := Lib.hid hla
      clear hla
      go_loopw [4, 6] (fun p i wx => ∃ j r : Nat, j ≤ c.size ∧ i = .int .i64 j ∧ p = .int .i64 r ∧ r = m + j ∧ RLayS w is kind link (some ⟨g, o, none⟩) n cap xs (la ++ ((strI c).take j ++ zeros (c.size - j)) ++ ld) wx) (fun _ i _ => c.size - (intOf i).toNat)
      case atStart => exact ⟨0, m, by omega, rfl, rfl, rfl, HW5.out⟩
      case round =>
        obtain ⟨j, r, hj, rfl, rfl, hrj, hLj⟩ := hrel
        have HRJ := Lib.hid hrj
        have HLj := Lib.hid hLj
        have f3 : wr.cell? ⟨w.heap.size, 3, none⟩ = some (.slice (some ⟨g, o, none⟩) n cap) := hLj.b1.cell 3
        obtain ⟨g', o', e, _, hc'⟩ := hLj.sl.2 (by omega)
        cases e
        have hck' := hc' k hlt
        rw [show xs.getD k ByteArray.empty = c by rw [← HC.out]; simp] at hck'
        clear hrj hLj hc'
        by_cases hjc : j < c.size
        · have hr256 : r < 256 := by have := HRJ.out; omega
          have pr := HLj.out.cell r hr256
          have zr := HLj.out.b4.frozen r
          have hri : (r : Int) < 256 := by omega
          have hji : (j : Int) < (c.size : Int) := by omega
          have HST := HLj.out.set r ((c[j]).toNat : Int)
          rw [show r = la.length + j by rw [HRJ.out, HLA.out], bytes_step la ld c j hjc, show la.length + j = r by rw [HRJ.out, HLA.out]] at HST
          have HST' := Lib.hid HST
          clear HST
          go_wp2
          exact ⟨⟨j + 1, r + 1, by omega, by congr 1, by congr 1, by rw [HRJ.out]; omega, HST'.out⟩, by simp [intOf]; omega⟩
        · obtain rfl : j = c.size := by omega
          go_wp2
          refine ⟨⟨k + 1, r, by omega, by congr 1, rfl, ?_, ?_⟩, by simp [intOf]; omega⟩
          · rw [flat_take xs k hkx, List.length_append, strI_len, HC.out, HRJ.out, HM.out]; omega
          · have := HLj.out
            rw [List.take_of_length_le (by rw [strI_len]; exact Nat.le_refl _), Nat.sub_self] at this
            rw [HQ4.out]
            simpa [zeros] using this
    · obtain rfl : k = n := by omega
      have ht2 := HLk.out.b2.thereAll 256 zero256_size
      have ht4 := HLk.out.b4.thereAll 256 (by rw [bytesV_size]; exact HLk.out.ln)
      have hr4 := HLk.out.b4.readAll 256 (by rw [bytesV_size]; exact HLk.out.ln)
      have hsz : (bytesV (layK kind link xs k)).size = 256 := by rw [bytesV_size]; exact HLk.out.ln
      have hon := bytesV_one (layK kind link xs k)
      go_wp2_with fail
      refine bodyPost_ret (results_cell_row rfl _ _ _ _ _ _ _ rfl (HLk.out.b2.whole (bytesV (layK kind link xs k)) (zero256_size.trans hsz.symm)) Try.underlying26 rfl (by rw [hsz]; exact info26)) rfl ?_
      exact ⟨by unfold layI; rw [HN.out], Kp.setCells (.inl (by omega)) _ _ _ HLk.out.kp⟩
end Go.Proofs.Ytnleoeogcinadaa
