/- The program's New: pages are made of any kind, link and cells; no condition. -/
import Derived.Test.YtnleoeogcinadaaPgTold
namespace Go.Proofs.Ytnleoeogcinadaa
open Go.RowKit
attribute [local go_sem ↓] load26 store26 alloc26 build26 slice26lo

/-- the worst of the cells' errors -/
def worstK (xs : List ByteArray) (k : Nat) : Int := if (xs.take k).any (fun c => decide (60 < c.size)) then 3 else 0
def hole (xs : List ByteArray) : Bool := xs.any fun c => decide (c.size = 0)
def newR (kind link : Int) (xs : List ByteArray) : Array Value × Int :=
  if 5 < kind ∨ hole xs = true then (zero256, 2) else if worstK xs xs.length = 3 then (zero256, 3) else toldR kind link xs
theorem worstK_cases (xs : List ByteArray) (k : Nat) : worstK xs k = 0 ∨ worstK xs k = 3 := by
  unfold worstK
  split
  · exact .inr rfl
  · exact .inl rfl
theorem worstK_succ (xs : List ByteArray) (k : Nat) (hk : k < xs.length) (h0 : (xs[k]?.getD ByteArray.empty).size ≠ 0) : worstK xs (k + 1) = if worstK xs k = 0 then cellE (xs[k]?.getD ByteArray.empty) else worstK xs k := by
  have hx : xs[k]?.getD ByteArray.empty = xs[k] := by simp [hk]
  rw [hx] at h0 ⊢
  unfold worstK cellE
  rw [List.take_succ_eq_append_getElem hk, List.any_append]
  simp only [List.any_cons, List.any_nil, Bool.or_false, if_neg h0]
  cases h : (xs.take k).any (fun c => decide (60 < c.size))
  · by_cases h6 : 60 < xs[k].size <;> simp [h6]
  · simp
theorem hole_at (xs : List ByteArray) (k : Nat) (hk : k < xs.length) (h0 : (xs[k]?.getD ByteArray.empty).size = 0) : hole xs = true := by
  unfold hole
  rw [List.any_eq_true]
  exact ⟨xs[k], List.getElem_mem hk, by simpa [hk] using h0⟩
theorem hole_no (xs : List ByteArray) (h : ∀ k, k < xs.length → (xs[k]?.getD ByteArray.empty).size ≠ 0) : hole xs = false := by
  cases hh : hole xs
  · rfl
  · unfold hole at hh
    rw [List.any_eq_true] at hh
    obtain ⟨c, hc, hz⟩ := hh
    obtain ⟨i, hi, rfl⟩ := List.getElem_of_mem hc
    exact absurd (by simpa using hz) (by simpa [hi] using h i hi)
theorem good_cells (xs : List ByteArray) (h : hole xs = false) (hw : worstK xs xs.length = 0) : ∀ c ∈ xs, 1 ≤ c.size ∧ c.size ≤ 60 := by
  intro c hc
  have h1 : ¬ c.size = 0 := by
    intro e
    have : hole xs = true := by unfold hole; rw [List.any_eq_true]; exact ⟨c, hc, by simp [e]⟩
    rw [h] at this; cases this
  have h2 : ¬ 60 < c.size := by
    intro e
    have : worstK xs xs.length = 3 := by
      unfold worstK
      rw [if_pos]
      rw [List.any_eq_true]
      exact ⟨c, by simpa using hc, by simp [e]⟩
    rw [hw] at this; cases this
  omega
theorem toldR_size (kind link : Int) (xs : List ByteArray) : (toldR kind link xs).1.size = 256 := by
  unfold toldR
  split
  · exact zero256_size
  · rw [bytesV_size]; exact layI_len kind link xs (by omega)
theorem toldR_one (kind link : Int) (xs : List ByteArray) : ones (toldR kind link xs).1 := by
  unfold toldR
  split
  · exact zero256_one
  · exact bytesV_one _

set_option maxRecDepth 100000 in
set_option maxHeartbeats 1600000 in
theorem new_ok (w : World) (kind link : Int) (A : Option Addr) (n cap : Nat) (xs : List ByteArray) (hn : n ≤ 4000) (hsz : ∀ c ∈ xs, c.size ≤ 9223372036854775807) (hS : Sl w A n xs) :
    Calls Try.prog 9 #[.int .u8 kind, .int .u32 link, .slice A n cap] w (PagePost w (newR kind link xs)) := by
  have HS := Lib.hid (hS.keep ((Kp.refl NoB w).alloc (.cells zero256 26)))
  have HB : Hid (Blk (w.alloc (.cells zero256 26)) w.heap.size 26 zero256) := Lib.hid (Blk.new _ _ _)
  have HZ := Lib.hid hsz
  clear hS hsz
  go_enter Try.func9, Try.ntmps9
  go_wp2
  go_loop [8, 14] (fun e i => ∃ k : Nat, k ≤ n ∧ i = .int .i64 k ∧ e = .int .i64 (worstK xs k) ∧ ∀ j, j < k → (xs[j]?.getD ByteArray.empty).size ≠ 0) (fun _ i => n - (intOf i).toNat)
  case atStart => exact ⟨0, by omega, rfl, rfl, fun j hj => by omega⟩
  case round =>
    obtain ⟨k, hk, rfl, rfl, hne⟩ := hrel
    have HNE := Lib.hid hne
    clear hne
    have t0 := HB.out.thereAll 256 zero256_size
    have zs := zero256_size
    have zo := zero256_one
    by_cases hlt : k < n
    · have hkx : k < xs.length := by rw [HS.out.1]; exact hlt
      obtain ⟨g, o, rfl, hg, hc⟩ := HS.out.2 (by omega)
      obtain ⟨c, hcd⟩ : ∃ c, xs[k]?.getD ByteArray.empty = c := ⟨_, rfl⟩
      have hcell := hc k hlt
      rw [show xs.getD k ByteArray.empty = c by rw [← hcd]; simp] at hcell
      have hcz : c.size ≤ 9223372036854775807 := by
        have := HZ.out xs[k] (List.getElem_mem hkx)
        rw [← hcd]; simpa [hkx] using this
      have HC := Lib.hid hcd
      clear hc hcd
      by_cases h0 : c.size = 0
      · have HE := Lib.hid (show cellE c = 2 from if_pos h0)
        have HH := Lib.hid (hole_at xs k hkx (by rw [HC.out]; exact h0))
        have HN := Lib.hid (show newR kind link xs = (zero256, 2) by unfold newR; rw [if_pos (.inr HH.out)])
        clear h0
        go_wp2_with (go_at_call 30; go_must (refine (cell_ok _ c hcz).mono ?_); rw [HE.out]; rintro e w2 ⟨rfl, rfl⟩)
        all_goals
          refine bodyPost_ret (ret_cell_tmp rfl _ _ _ _ _ _ rfl (HB.out.whole zero256 rfl) Try.underlying26 rfl (by rw [zero256_size]; exact info26) _ rfl) rfl ?_
          exact ⟨by rw [HN.out]; rfl, Kp.setCells (.inl (Nat.le_refl _)) _ _ _ ((Kp.refl _ _).alloc _)⟩
      · have HW := Lib.hid (worstK_succ xs k hkx (by rw [HC.out]; exact h0))
        have HNX : Hid (∀ j, j < k + 1 → (xs[j]?.getD ByteArray.empty).size ≠ 0) := Lib.hid (fun j hj => by
          rcases Nat.lt_or_ge j k with q | q
          · exact HNE.out j q
          · obtain rfl : j = k := by omega
            rw [HC.out]; exact h0)
        rcases worstK_cases xs k with hw | hw
        all_goals
          rcases (show cellE c = 0 ∨ cellE c = 3 by unfold cellE; rw [if_neg h0]; split <;> simp) with hc | hc
          all_goals
            rw [hw]
            have HE := Lib.hid hc
            have HWK := Lib.hid hw
            clear hw hc
            go_wp2_with (go_at_call 30; go_must (refine (cell_ok _ c hcz).mono ?_); rw [HE.out]; rintro e w2 ⟨rfl, rfl⟩)
            exact ⟨⟨k + 1, by omega, by congr 1, by rw [HW.out, HWK.out, HC.out, HE.out]; rfl, HNX.out⟩, by simp [intOf]; omega⟩
    · obtain rfl : k = n := by omega
      have HH := Lib.hid (hole_no xs (fun j hj => HNE.out j (by rw [← HS.out.1]; exact hj)))
      have HL := Lib.hid HS.out.1
      rcases worstK_cases xs k with hw | hw
      · by_cases hk5 : 5 < kind
        · have HN := Lib.hid (show newR kind link xs = (zero256, 2) by unfold newR; rw [if_pos (.inl hk5)])
          rw [hw]
          clear hw
          go_wp2
          refine bodyPost_ret (ret_cell_tmp rfl _ _ _ _ _ _ rfl (HB.out.whole zero256 rfl) Try.underlying26 rfl (by rw [zero256_size]; exact info26) _ rfl) rfl ?_
          exact ⟨by rw [HN.out]; rfl, Kp.setCells (.inl (Nat.le_refl _)) _ _ _ ((Kp.refl _ _).alloc _)⟩
        · have HWK := Lib.hid (show worstK xs xs.length = 0 by rw [HL.out]; exact hw)
          have HN := Lib.hid (show newR kind link xs = toldR kind link xs by unfold newR; rw [if_neg (by rw [HH.out]; simp [hk5]), if_neg (by rw [HWK.out]; decide)])
          have HG := Lib.hid (good_cells xs HH.out HWK.out)
          obtain ⟨r, hr⟩ : ∃ r, toldR kind link xs = r := ⟨_, rfl⟩
          obtain ⟨p, code⟩ := r
          have p1 : p.size = 256 := by have := toldR_size kind link xs; rw [hr] at this; exact this
          have p2 : ones p := by have := toldR_one kind link xs; rw [hr] at this; exact this
          have P1 := Lib.hid p1
          have HR := Lib.hid hr
          rw [hw]
          clear hw hr
          go_wp2_with (go_at_call 31; go_must (refine (told_ok _ kind link A k cap xs hn HG.out HS.out).mono ?_); rintro e w2 hq; unfold PagePost at hq; rw [HR.out] at hq; obtain ⟨rfl, hk2⟩ := hq; have HB2 := Lib.hid (HB.out.keep hk2 (fun q => q)); have t2 := HB2.out.thereAll 256 zero256_size; have HK := Lib.hid (((Kp.refl NoB w).alloc _).trans hk2 (fun _ _ q => q)); clear hk2)
          refine bodyPost_ret (ret_cell_tmp rfl _ _ _ _ _ _ rfl (HB2.out.whole p (zero256_size.trans P1.out.symm)) Try.underlying26 rfl (by rw [P1.out]; exact info26) _ rfl) rfl ?_
          exact ⟨by rw [HN.out, HR.out]; rfl, Kp.setCells (.inl (Nat.le_refl _)) _ _ _ HK.out⟩
      · by_cases hk5 : 5 < kind
        · have HN := Lib.hid (show newR kind link xs = (zero256, 2) by unfold newR; rw [if_pos (.inl hk5)])
          rw [hw]
          clear hw
          go_wp2
          refine bodyPost_ret (ret_cell_tmp rfl _ _ _ _ _ _ rfl (HB.out.whole zero256 rfl) Try.underlying26 rfl (by rw [zero256_size]; exact info26) _ rfl) rfl ?_
          exact ⟨by rw [HN.out]; rfl, Kp.setCells (.inl (Nat.le_refl _)) _ _ _ ((Kp.refl _ _).alloc _)⟩
        · have HN := Lib.hid (show newR kind link xs = (zero256, 3) by unfold newR; rw [if_neg (by rw [HH.out]; simp [hk5]), if_pos (by rw [HL.out]; exact hw)])
          rw [hw]
          clear hw
          go_wp2
          refine bodyPost_ret (ret_cell_tmp rfl _ _ _ _ _ _ rfl (HB.out.whole zero256 rfl) Try.underlying26 rfl (by rw [zero256_size]; exact info26) _ rfl) rfl ?_
          exact ⟨by rw [HN.out]; rfl, Kp.setCells (.inl (Nat.le_refl _)) _ _ _ ((Kp.refl _ _).alloc _)⟩
end Go.Proofs.Ytnleoeogcinadaa
