/- The reference's Told and New: pages are made of any kind, link and cells; no condition. -/
import Derived.Test.YtnleoeogcinadaaPgRef
namespace Go.Proofs.Ytnleoeogcinadaa
open Go.RowKit
attribute [local go_sem ↓] load26 store26 alloc26 build26 slice26lo

set_option maxRecDepth 100000 in
set_option maxHeartbeats 1600000 in
theorem rtold_ok (w : World) (is : Bool) (kind link : Int) (A : Option Addr) (n cap : Nat) (xs : List ByteArray) (hk0 : 0 ≤ kind) (hk9 : kind ≤ 255) (hn : n ≤ 4000) (h60 : ∀ c ∈ xs, 1 ≤ c.size ∧ c.size ≤ 60) (hS : Sl w A n xs) :
    Calls Try.prog 23 #[.agg (rBody is kind link A n cap)] w (PagePost w (toldR kind link xs)) := by
  have HS := Lib.hid (hS.keep (((Kp.refl NoB w).alloc (.cells (rBody is kind link A n cap) 34)).alloc (.cells zero256 26)))
  have HB2 : Hid (Blk ((w.alloc (.cells (rBody is kind link A n cap) 34)).alloc (.cells zero256 26)) (w.heap.size + 1) 26 zero256) := Lib.hid (Blk.newAt _ _ _ _ (by simp))
  have HB1 : Hid (Blk ((w.alloc (.cells (rBody is kind link A n cap) 34)).alloc (.cells zero256 26)) w.heap.size 34 (rBody is kind link A n cap)) := Lib.hid ((Blk.new _ _ _).alloc _)
  have H6 := Lib.hid h60
  have zs := zero256_size
  have zo := zero256_one
  clear hS h60
  by_cases hr : roomI xs < 0
  · have HT := Lib.hid (show toldR kind link xs = (zero256, 5) from if_pos hr)
    go_enter Try.func23, Try.ntmps23
    go_wp2_with (first
      | (go_at_call 12; go_must (refine (rroom_ok _ is kind link A n cap xs hn (fun c hc => (H6.out c hc).2) HS.out).mono ?_); rintro e w2 ⟨rfl, hk2⟩; have HB := Lib.hid (HB2.out.keep hk2 (fun q => q)); have HK := Lib.hid ((((Kp.refl NoB w).alloc _).alloc _).trans hk2 (fun _ _ q => q)); have t2 := HB.out.thereAll 256 zero256_size; clear hk2))
    refine bodyPost_ret (ret_cell_tmp rfl _ _ _ _ _ _ rfl (HB.out.whole zero256 rfl) Try.underlying26 rfl (by rw [zero256_size]; exact info26) _ rfl) rfl ?_
    exact ⟨by rw [HT.out]; rfl, Kp.setCells (.inl (by omega)) _ _ _ HK.out⟩
  · have HT := Lib.hid (show toldR kind link xs = (bytesV (layI kind link xs), 0) from if_neg hr)
    have HR := Lib.hid (show 0 ≤ roomI xs by omega)
    have HP1 : Hid ((bytesV (layI kind link xs)).size = 256) := Lib.hid (by rw [bytesV_size]; exact layI_len kind link xs HR.out)
    go_enter Try.func23, Try.ntmps23
    go_wp2_with (first
      | (go_at_call 12; go_must (refine (rroom_ok _ is kind link A n cap xs hn (fun c hc => (H6.out c hc).2) HS.out).mono ?_); rintro e w2 ⟨rfl, hk2⟩; have HB := Lib.hid (HB2.out.keep hk2 (fun q => q)); have HK := Lib.hid ((((Kp.refl NoB w).alloc _).alloc _).trans hk2 (fun _ _ q => q)); have HSS := Lib.hid (HS.out.keep hk2); have HBB := Lib.hid (HB1.out.keep hk2 (fun q => q)); have g0 : w2.cell? ⟨w.heap.size, 0, none⟩ = some (.bool is) := HBB.out.cell 0; have g1 : w2.cell? ⟨w.heap.size, 1, none⟩ = some (.int .i64 kind) := HBB.out.cell 1; have g2 : w2.cell? ⟨w.heap.size, 2, none⟩ = some (.int .u32 link) := HBB.out.cell 2; have g3 : w2.cell? ⟨w.heap.size, 3, none⟩ = some (.slice A n cap) := HBB.out.cell 3; clear hk2)
      | (go_at_call 22; go_must (refine (rlay_ok _ is kind link A n cap xs hk0 hk9 hn H6.out HSS.out HR.out).mono ?_); rintro e w3 ⟨rfl, hk3⟩; have HB3 := Lib.hid (HB.out.keep hk3 (fun q => q)); have HK3 := Lib.hid (HK.out.trans hk3 (fun _ _ q => q)); have t2 := HB3.out.thereAll 256 zero256_size; have p1 := HP1.out; have p2 := bytesV_one (layI kind link xs); clear hk3))
    refine bodyPost_ret (ret_cell_tmp rfl _ _ _ _ _ _ rfl (HB3.out.whole (bytesV (layI kind link xs)) (zero256_size.trans HP1.out.symm)) Try.underlying26 rfl (by rw [HP1.out]; exact info26) _ rfl) rfl ?_
    exact ⟨by rw [HT.out]; rfl, Kp.setCells (.inl (by omega)) _ _ _ HK3.out⟩

/-- the reference's first errors, k cells looked at -/
def errK (kind : Int) (xs : List ByteArray) (k : Nat) : Int := if 5 < kind ∨ hole (xs.take k) = true then 2 else 0
theorem errK_zero (kind : Int) (xs : List ByteArray) : errK kind xs 0 = if 5 < kind then 2 else 0 := by
  unfold errK hole
  simp
theorem errK_succ (kind : Int) (xs : List ByteArray) (k : Nat) (hk : k < xs.length) : errK kind xs (k + 1) = if (xs[k]?.getD ByteArray.empty).size = 0 then 2 else errK kind xs k := by
  have hx : xs[k]?.getD ByteArray.empty = xs[k] := by simp [hk]
  rw [hx]
  unfold errK hole
  rw [List.take_succ_eq_append_getElem hk, List.any_append]
  simp only [List.any_cons, List.any_nil, Bool.or_false]
  by_cases h0 : xs[k].size = 0
  · simp [h0]
  · rw [show decide (xs[k].size = 0) = false from by simp [h0], Bool.or_false, if_neg h0]
theorem worstK_mono (xs : List ByteArray) (k : Nat) (h : worstK xs k = 3) : worstK xs xs.length = 3 := by
  unfold worstK at *
  split at h
  · rename_i ha
    rw [List.any_eq_true] at ha
    obtain ⟨c, hc, hz⟩ := ha
    rw [if_pos]
    rw [List.any_eq_true]
    exact ⟨c, by simpa using List.mem_of_mem_take hc, hz⟩
  · simp at h
theorem worstK_next (xs : List ByteArray) (k : Nat) (hk : k < xs.length) (h : worstK xs k = 0) : worstK xs (k + 1) = if 60 < (xs[k]?.getD ByteArray.empty).size then 3 else 0 := by
  have hx : xs[k]?.getD ByteArray.empty = xs[k] := by simp [hk]
  rw [hx]
  unfold worstK at *
  rw [List.take_succ_eq_append_getElem hk, List.any_append]
  cases hh : (xs.take k).any (fun c => decide (60 < c.size))
  · simp
  · rw [hh] at h; simp at h

set_option maxRecDepth 100000 in
set_option maxHeartbeats 1600000 in
theorem rnew_ok (w : World) (kind link : Int) (A : Option Addr) (n cap : Nat) (xs : List ByteArray) (hk0 : 0 ≤ kind) (hk9 : kind ≤ 255) (hn : n ≤ 4000) (hsz : ∀ c ∈ xs, c.size ≤ 9223372036854775807) (hS : Sl w A n xs) :
    Calls Try.prog 10 #[.int .i64 kind, .int .u32 link, .slice A n cap] w (PagePost w (newR kind link xs)) := by
  have HS := Lib.hid (hS.keep ((Kp.refl NoB w).alloc (.cells zero256 26)))
  have HB : Hid (Blk (w.alloc (.cells zero256 26)) w.heap.size 26 zero256) := Lib.hid (Blk.new _ _ _)
  have HZ := Lib.hid hsz
  have HL := Lib.hid hS.1
  clear hS hsz
  have t0 := HB.out.thereAll 256 zero256_size
  have zs := zero256_size
  have zo := zero256_one
  by_cases hk5 : 5 < kind
  all_goals
    go_enter Try.func10, Try.ntmps10
    go_wp2
    go_loop [8, 9] (fun e i => ∃ k : Nat, k ≤ n ∧ i = .int .i64 k ∧ e = .int .i64 (errK kind xs k)) (fun _ i => n - (intOf i).toNat)
    case atStart => exact ⟨0, by omega, rfl, by rw [errK_zero]; simp [hk5]⟩
    case round =>
      obtain ⟨k, hk, rfl, rfl⟩ := hrel
      by_cases hlt : k < n
      · have hkx : k < xs.length := by rw [HL.out]; exact hlt
        obtain ⟨g, o, rfl, hg, hc⟩ := HS.out.2 (by omega)
        obtain ⟨c, hcd⟩ : ∃ c, xs[k]?.getD ByteArray.empty = c := ⟨_, rfl⟩
        have hcell := hc k hlt
        rw [show xs.getD k ByteArray.empty = c by rw [← hcd]; simp] at hcell
        have HC := Lib.hid hcd
        have HE := Lib.hid (errK_succ kind xs k hkx)
        clear hc hcd
        by_cases h0 : c.size = 0
        · have he : c.toList.isEmpty = true := by rw [isEmpty_size]; simp [h0]
          have H0 := Lib.hid h0
          clear h0
          go_wp2
          exact ⟨⟨k + 1, by omega, by congr 1, by rw [HE.out, HC.out, if_pos H0.out]⟩, by simp [intOf]; omega⟩
        · have he : c.toList.isEmpty = false := by rw [isEmpty_size]; simp [h0]
          have H0 := Lib.hid h0
          clear h0
          go_wp2
          exact ⟨⟨k + 1, by omega, by congr 1, by rw [HE.out, HC.out, if_neg H0.out]⟩, by simp [intOf]; omega⟩
      · obtain rfl : k = n := by omega
        have HH : Hid (errK kind xs k = if 5 < kind ∨ hole xs = true then 2 else 0) := Lib.hid (by unfold errK; rw [List.take_of_length_le (by rw [HL.out]; exact Nat.le_refl _)])
        obtain ⟨E, hE⟩ : ∃ E, errK kind xs k = E := ⟨_, rfl⟩
        have hE2 : (E = 2 ∧ (5 < kind ∨ hole xs = true)) ∨ (E = 0 ∧ ¬ (5 < kind ∨ hole xs = true)) := by
          rw [← hE, HH.out]
          by_cases q : 5 < kind ∨ hole xs = true
          · left; rw [if_pos q]; exact ⟨rfl, q⟩
          · right; rw [if_neg q]; exact ⟨rfl, q⟩
        have HE2 := Lib.hid hE2
        rw [hE]
        clear hE hE2 HH
        go_wp2
        go_loop [8, 10] (fun e i => ∃ (j : Nat) (E' : Int), j ≤ k ∧ i = .int .i64 j ∧ e = .int .i64 E' ∧ ((E' = 2 ∧ (5 < kind ∨ hole xs = true)) ∨ (E' = worstK xs j ∧ ¬ (5 < kind ∨ hole xs = true)))) (fun _ i => k - (intOf i).toNat)
        case atStart => exact ⟨0, E, by omega, rfl, rfl, by rcases HE2.out with q | q; · exact .inl q
                                                            · exact .inr ⟨q.1, q.2⟩⟩
        case round =>
          obtain ⟨j, E', hj, rfl, rfl, hcase⟩ := hrel
          rcases hcase with ⟨rfl, hbad⟩ | ⟨rfl, hgood⟩
          · have HN := Lib.hid (show newR kind link xs = (zero256, 2) by unfold newR; rw [if_pos hbad])
            clear hbad
            by_cases hjk : j < k
            all_goals
              go_wp2
              refine bodyPost_ret (ret_cell_tmp rfl _ _ _ _ _ _ rfl (HB.out.whole zero256 rfl) Try.underlying26 rfl (by rw [zero256_size]; exact info26) _ rfl) rfl ?_
              exact ⟨by rw [HN.out]; rfl, Kp.setCells (.inl (Nat.le_refl _)) _ _ _ ((Kp.refl _ _).alloc _)⟩
          · have HGD := Lib.hid hgood
            clear hgood
            rcases worstK_cases xs j with hw | hw
            · by_cases hjk : j < k
              · have hjx : j < xs.length := by rw [HL.out]; exact hjk
                obtain ⟨g, o, rfl, hg, hc⟩ := HS.out.2 (by omega)
                obtain ⟨c, hcd⟩ : ∃ c, xs[j]?.getD ByteArray.empty = c := ⟨_, rfl⟩
                have hcell := hc j hjk
                rw [show xs.getD j ByteArray.empty = c by rw [← hcd]; simp] at hcell
                have HC := Lib.hid hcd
                have HWN := Lib.hid (worstK_next xs j hjx hw)
                rw [hw]
                clear hc hcd hw
                by_cases h6 : 60 < c.size
                · have h6i : (60 : Int) < (c.size : Int) := by omega
                  have H6 := Lib.hid h6
                  clear h6
                  go_wp2
                  exact ⟨⟨j + 1, 3, by omega, by congr 1, rfl, .inr ⟨by rw [HWN.out, HC.out, if_pos H6.out], HGD.out⟩⟩, by simp [intOf]; omega⟩
                · have h6i : (c.size : Int) ≤ 60 := by omega
                  have H6 := Lib.hid h6
                  clear h6
                  go_wp2
                  exact ⟨⟨j + 1, 0, by omega, by congr 1, rfl, .inr ⟨by rw [HWN.out, HC.out, if_neg H6.out], HGD.out⟩⟩, by simp [intOf]; omega⟩
              · obtain rfl : j = k := by omega
                have HWK := Lib.hid (show worstK xs xs.length = 0 by rw [HL.out]; exact hw)
                have HN := Lib.hid (show newR kind link xs = toldR kind link xs by unfold newR; rw [if_neg HGD.out, if_neg (by rw [HWK.out]; decide)])
                have HG := Lib.hid (good_cells xs (by cases q : hole xs; · rfl
                                                      · exact absurd (.inr q) HGD.out) HWK.out)
                obtain ⟨r, hr⟩ : ∃ r, toldR kind link xs = r := ⟨_, rfl⟩
                obtain ⟨p, code⟩ := r
                have p1 : p.size = 256 := by have := toldR_size kind link xs; rw [hr] at this; exact this
                have p2 : ones p := by have := toldR_one kind link xs; rw [hr] at this; exact this
                have P1 := Lib.hid p1
                have HR := Lib.hid hr
                rw [hw]
                clear hw hr
                go_wp2_with (go_at_call 23; go_must (refine (rtold_ok _ true kind link A j cap xs hk0 hk9 hn HG.out HS.out).mono ?_); rintro e w2 hq; unfold PagePost at hq; rw [HR.out] at hq; obtain ⟨rfl, hk2⟩ := hq; have HB2 := Lib.hid (HB.out.keep hk2 (fun q => q)); have t2 := HB2.out.thereAll 256 zero256_size; have HK := Lib.hid (((Kp.refl NoB w).alloc _).trans hk2 (fun _ _ q => q)); clear hk2)
                refine bodyPost_ret (ret_cell_tmp rfl _ _ _ _ _ _ rfl (HB2.out.whole p (zero256_size.trans P1.out.symm)) Try.underlying26 rfl (by rw [P1.out]; exact info26) _ rfl) rfl ?_
                exact ⟨by rw [HN.out, HR.out]; rfl, Kp.setCells (.inl (Nat.le_refl _)) _ _ _ HK.out⟩
            · have HN := Lib.hid (show newR kind link xs = (zero256, 3) by unfold newR; rw [if_neg HGD.out, if_pos (worstK_mono xs j hw)])
              rw [hw]
              clear hw
              by_cases hjk : j < k
              all_goals
                go_wp2
                refine bodyPost_ret (ret_cell_tmp rfl _ _ _ _ _ _ rfl (HB.out.whole zero256 rfl) Try.underlying26 rfl (by rw [zero256_size]; exact info26) _ rfl) rfl ?_
                exact ⟨by rw [HN.out]; rfl, Kp.setCells (.inl (Nat.le_refl _)) _ _ _ ((Kp.refl _ _).alloc _)⟩
end Go.Proofs.Ytnleoeogcinadaa
