/- What the reference answers; no condition. -/
import Derived.Test.YtmkhhjpfchaopaaHold
namespace Go.Proofs.Ytmkhhjpfchaopaa
open Go.RowKit

/-- the reference's table: is there one, and what each holds -/
def refL (is : Bool) (hs : List Int) : List Value := (Value.bool is) :: hs.map (Value.int .i64)
def refCells (is : Bool) (hs : List Int) : Array Value := (refL is hs).toArray
theorem refCells_size (is : Bool) (hs : List Int) (h : hs.length = 8) : (refCells is hs).size = 9 := by simp [refCells, refL, h]
theorem refCells_one (is : Bool) (hs : List Int) : (refCells is hs).all (·.oneCell') = true := by
  simp only [refCells, refL, List.all_toArray', List.all_cons, List.all_map]
  simp [Value.oneCell']
theorem info29 : (Try.prog.info? 29).map (·.size) = some 9 := by kernel_rfl
theorem refInfo (is : Bool) (hs : List Int) (h : hs.length = 8) : (Try.prog.info? 29).map (·.size) = some (refCells is hs).size := by rw [refCells_size is hs h]; exact info29

def RBlk (w : World) (g : Nat) (is : Bool) (hs : List Int) : Prop := w.heap[g]? = some (.cells (refCells is hs) 29 (0, 0))
theorem RBlk.is {w : World} {g : Nat} {is : Bool} {hs : List Int} (h : RBlk w g is hs) : w.cell? ⟨g, 0, none⟩ = some (.bool is) := by
  rw [cell_of_row w g 0 _ _ _ h]; simp [refCells, refL]
theorem RBlk.cell {w : World} {g : Nat} {is : Bool} {hs : List Int} (h : RBlk w g is hs) (k : Nat) (hk : k < hs.length) : w.cell? ⟨g, 1 + k, none⟩ = some (.int .i64 (hs.getD k 0)) := by
  rw [cell_of_row w g (1 + k) _ _ _ h, Nat.add_comm]; simp [refCells, refL, hk]
theorem RBlk.frozen {w : World} {g : Nat} {is : Bool} {hs : List Int} (h : RBlk w g is hs) (k : Nat) : w.frozen? ⟨g, k, none⟩ = false := frozen_of_row w g k _ _ h
theorem RBlk.set {w : World} {g : Nat} {is : Bool} {hs : List Int} (h : RBlk w g is hs) (k : Nat) (l : Int) : RBlk (w.setCell ⟨g, 1 + k, none⟩ (.int .i64 l)) g is (hs.set k l) := by
  unfold RBlk
  rw [heap_setCell_same w g (1 + k) _ _ _ h]
  congr 2
  simp only [refCells, refL]
  rw [List.setIfInBounds_toArray, Nat.add_comm, List.set_cons_succ, List.map_set]
theorem RBlk.new (w : World) (is : Bool) (hs : List Int) : RBlk (w.alloc (.cells (refCells is hs) 29)) w.heap.size is hs := heap_alloc_new _ _
theorem RBlk.keep {w w' : World} {S : Nat → Prop} {g : Nat} {is : Bool} {hs : List Int} (h : RBlk w g is hs) (k : Kp S w w') (hn : ¬ S g) : RBlk w' g is hs := k.lift h hn

def wrongR (is : Bool) (c l : Int) : Int := if is = false then 1 else if c < 0 ∨ 7 < c ∨ l < 0 ∨ 3 < l then 2 else 0

theorem rwrong (w : World) (is : Bool) (hs : List Int) (c l : Int) : Calls Try.prog 17 #[.agg (refCells is hs), .int .i64 c, .int .i64 l] w fun e w' => e = .returned (.int .i64 (wrongR is c l)) ∧ Kp NoB w w' := by
  have hB := RBlk.new w is hs
  have hc := hB.is
  clear hB
  cases is
  · go_enter Try.func17, Try.ntmps17
    go_wp2
    go_ret
    exact ⟨rfl, (Kp.refl _ _).alloc _⟩
  · go_enter Try.func17, Try.ntmps17
    go_wp2
    all_goals
      go_ret
      exact ⟨ret_int (by unfold wrongR; rw [if_neg (by simp)]; first | rw [if_pos (by omega)] | rw [if_neg (by omega)]), (Kp.refl _ _).alloc _⟩

def blockR (hs : List Int) (c l : Int) (o : Nat) : Prop := ¬ (o : Int) = c ∧ (hs[o]?.getD 0 = 3 ∧ 1 ≤ l ∨ hs[o]?.getD 0 = 2 ∧ 2 ≤ l ∨ hs[o]?.getD 0 = 1 ∧ l = 3)
/-- none of the connections from k on stands in the way -/
def clearR (hs : List Int) (c l : Int) (k : Nat) : Prop := ∀ o, k ≤ o → o < 8 → ¬ blockR hs c l o
open Classical in
noncomputable def freeR (hs : List Int) (c l : Int) : Bool := decide (∀ o, o < 8 → ¬ blockR hs c l o)
theorem freeR_no (hs : List Int) (c l : Int) (o : Nat) (ho : o < 8) (h : blockR hs c l o) : freeR hs c l = false := by
  unfold freeR; simp; exact ⟨o, ho, h⟩
theorem freeR_yes (hs : List Int) (c l : Int) (h : ∀ o, o < 8 → ¬ blockR hs c l o) : freeR hs c l = true := by
  unfold freeR; simp; exact h

set_option maxHeartbeats 1600000 in
theorem rfree (w : World) (is : Bool) (hs : List Int) (c l : Int) (h8 : hs.length = 8) : Calls Try.prog 18 #[.agg (refCells is hs), .int .i64 c, .int .i64 l] w fun e w' => e = .returned (.bool (freeR hs c l)) ∧ Kp NoB w w' := by
  have HB := Lib.hid (RBlk.new w is hs)
  have H8 := Lib.hid h8
  clear h8
  go_enter Try.func18, Try.ntmps18
  go_wp2
  go_loop [7] (fun i => ∃ k : Nat, k ≤ 8 ∧ i = .int .i64 k ∧ ∀ o, o < k → ¬ blockR hs c l o) (fun i => 8 - (intOf i).toNat)
  case atStart => exact ⟨0, by omega, rfl, fun o ho => by omega⟩
  case round =>
    obtain ⟨k, hk, rfl, ho⟩ := hrel
    have HO := Lib.hid ho
    clear ho
    by_cases hlt : k < 8
    · have hc := HB.out.cell k (by rw [H8.out]; exact hlt)
      go_wp2
      all_goals
        simp only [beq_iff_eq, beq_eq_false_iff_ne, ne_eq] at *
        first
          | (refine ⟨⟨k + 1, by omega, by congr 1, fun o ho' => ?_⟩, by simp [intOf]; omega⟩
             rcases Nat.lt_or_ge o k with q | q
             · exact HO.out o q
             · obtain rfl : o = k := by omega
               unfold blockR
               omega)
          | (go_ret
             exact ⟨by rw [freeR_no _ _ _ k hlt (by unfold blockR; omega)]; rfl, (Kp.refl _ _).alloc _⟩)
    · obtain rfl : k = 8 := by omega
      go_wp2
      go_ret
      exact ⟨by rw [freeR_yes _ _ _ HO.out]; rfl, (Kp.refl _ _).alloc _⟩

/-- the reference's answers -/
noncomputable def takeR (is : Bool) (hs : List Int) (c l : Int) : Int × List Int :=
  if wrongR is c l ≠ 0 then (wrongR is c l, hs) else if l ≤ hs.getD c.toNat 0 then (0, hs) else if freeR hs c l then (0, hs.set c.toNat l) else (6, hs)
def dropR (is : Bool) (hs : List Int) (c l : Int) : Int × List Int :=
  if wrongR is c l ≠ 0 then (wrongR is c l, hs) else (0, if l < hs.getD c.toNat 0 then hs.set c.toNat l else hs)
def RPost (w : World) (is : Bool) (r : Int × List Int) (e : Ending) (w' : World) : Prop :=
  e = .returned (.tuple #[.agg (refCells is r.2), .int .i64 r.1]) ∧ Kp NoB w w'

theorem wrongR_cases (is : Bool) (c l : Int) : (wrongR is c l = 1 ∧ is = false) ∨ (wrongR is c l = 2 ∧ is = true ∧ (c < 0 ∨ 7 < c ∨ l < 0 ∨ 3 < l)) ∨ (wrongR is c l = 0 ∧ is = true ∧ 0 ≤ c ∧ c < 8 ∧ 0 ≤ l ∧ l ≤ 3) := by
  unfold wrongR
  cases is
  · left; simp
  · right
    by_cases h : c < 0 ∨ 7 < c ∨ l < 0 ∨ 3 < l
    · left; simp [h]
    · right; simp [h]; omega
theorem rwrong_is (w : World) (is : Bool) (hs : List Int) (c l x : Int) (hx : wrongR is c l = x) : Calls Try.prog 17 #[.agg (refCells is hs), .int .i64 c, .int .i64 l] w fun e w' => e = .returned (.int .i64 x) ∧ Kp NoB w w' :=
  (rwrong w is hs c l).mono fun _ _ q => ⟨by rw [q.1, hx], q.2⟩
theorem rfree_is (w : World) (is : Bool) (hs : List Int) (c l : Int) (h8 : hs.length = 8) (x : Bool) (hx : freeR hs c l = x) : Calls Try.prog 18 #[.agg (refCells is hs), .int .i64 c, .int .i64 l] w fun e w' => e = .returned (.bool x) ∧ Kp NoB w w' :=
  (rfree w is hs c l h8).mono fun _ _ q => ⟨by rw [q.1, hx], q.2⟩


set_option maxHeartbeats 1600000 in
theorem rtake (w : World) (is : Bool) (hs : List Int) (c l : Int) (h8 : hs.length = 8) : Calls Try.prog 8 #[.agg (refCells is hs), .int .i64 c, .int .i64 l] w (RPost w is (takeR is hs c l)) := by
  have HB : Hid (Blk (w.alloc (.cells (refCells is hs) 29)) w.heap.size 29 (refCells is hs)) := Lib.hid (Blk.new _ _ _)
  have HZ : Hid (Blk ((w.alloc (.cells (refCells is hs) 29)).alloc (.cells (refCells false (List.replicate 8 0)) 29)) (w.heap.size + 1) 29 (refCells false (List.replicate 8 0))) := Lib.hid (by simpa using Blk.new (w.alloc (.cells (refCells is hs) 29)) 29 (refCells false (List.replicate 8 0)))
  have HI := Lib.hid (refInfo is hs h8)
  have HN := Lib.hid (refCells_size is hs h8)
  have H1 := Lib.hid (refCells_one is hs)
  have H8 := Lib.hid h8
  clear h8
  rcases wrongR_cases is c l with ⟨h, hi⟩ | ⟨h, hi, hb⟩ | ⟨h, hi, h0, h1, h2, h3⟩
  · have H := Lib.hid h
    have HE := Lib.hid (show takeR is hs c l = (1, hs) by simp [takeR, h])
    clear h hi
    go_enter Try.func8, Try.ntmps8
    go_wp2_with (first
      | (refine wpList_load_row rfl 29 (.tmp 3) rfl w.heap.size rfl 29 (refCells is hs) (0, 0) _ (HB.out.alloc _) Try.underlying29 rfl HI.out ?_)
      | (go_at_call 17; refine (rwrong_is _ _ _ _ _ _ H.out).mono ?_; rintro e w1 ⟨rfl, hk1⟩; have HB1 := Lib.hid ((HB.out.alloc _).keep hk1 (fun q => q)); have HZ1 := Lib.hid (HZ.out.keep hk1 (fun q => q)))
      | (refine wpList_load_row rfl 29 (.tmp 3) rfl w.heap.size rfl 29 (refCells is hs) (0, 0) _ HB1.out Try.underlying29 rfl HI.out ?_)
      | (refine wpList_store_row rfl 29 (.tmp 6) _ rfl (w.heap.size + 1) (refCells is hs) rfl rfl 29 _ HZ1.out HI.out (by rw [HN.out]; rfl) H1.out ?_))
    refine bodyPost_ret (ret_cell_tmp rfl _ _ _ _ _ _ rfl (HZ1.out.row _) Try.underlying29 rfl HI.out _ rfl) rfl ?_
    exact ⟨by rw [HE.out]; rfl, (((Kp.refl _ _).alloc _).alloc _ |>.trans hk1 (fun _ _ q => q)).setRow (.inl (by omega)) _⟩
  · have H := Lib.hid h
    have HE := Lib.hid (show takeR is hs c l = (2, hs) by simp [takeR, h])
    clear h hi hb
    go_enter Try.func8, Try.ntmps8
    go_wp2_with (first
      | (refine wpList_load_row rfl 29 (.tmp 3) rfl w.heap.size rfl 29 (refCells is hs) (0, 0) _ (HB.out.alloc _) Try.underlying29 rfl HI.out ?_)
      | (go_at_call 17; refine (rwrong_is _ _ _ _ _ _ H.out).mono ?_; rintro e w1 ⟨rfl, hk1⟩; have HB1 := Lib.hid ((HB.out.alloc _).keep hk1 (fun q => q)); have HZ1 := Lib.hid (HZ.out.keep hk1 (fun q => q)))
      | (refine wpList_load_row rfl 29 (.tmp 3) rfl w.heap.size rfl 29 (refCells is hs) (0, 0) _ HB1.out Try.underlying29 rfl HI.out ?_)
      | (refine wpList_store_row rfl 29 (.tmp 6) _ rfl (w.heap.size + 1) (refCells is hs) rfl rfl 29 _ HZ1.out HI.out (by rw [HN.out]; rfl) H1.out ?_))
    refine bodyPost_ret (ret_cell_tmp rfl _ _ _ _ _ _ rfl (HZ1.out.row _) Try.underlying29 rfl HI.out _ rfl) rfl ?_
    exact ⟨by rw [HE.out]; rfl, (((Kp.refl _ _).alloc _).alloc _ |>.trans hk1 (fun _ _ q => q)).setRow (.inl (by omega)) _⟩
  · have H := Lib.hid h
    clear h hi
    obtain ⟨k, rfl⟩ := Int.eq_ofNat_of_zero_le h0
    have hk : k < 8 := by omega
    have HK := Lib.hid (show k < hs.length by rw [H8.out]; exact hk)
    by_cases hle : l ≤ hs[k]?.getD 0
    · have HE := Lib.hid (show takeR is hs k l = (0, hs) by simp [takeR, H.out, hle])
      go_enter Try.func8, Try.ntmps8
      go_wp2_with (first
        | (refine wpList_load_row rfl 29 (.tmp 3) rfl w.heap.size rfl 29 (refCells is hs) (0, 0) _ (HB.out.alloc _) Try.underlying29 rfl HI.out ?_)
        | (go_at_call 17; refine (rwrong_is _ _ _ _ _ _ H.out).mono ?_; rintro e w1 ⟨rfl, hk1⟩; have HB1 := Lib.hid ((HB.out.alloc _).keep hk1 (fun q => q)); have HZ1 := Lib.hid (HZ.out.keep hk1 (fun q => q)); have hc1 := RBlk.cell HB1.out k HK.out; have hz1 := RBlk.frozen HB1.out (1 + k))
        | (refine wpList_load_row rfl 29 (.tmp 3) rfl w.heap.size rfl 29 (refCells is hs) (0, 0) _ HB1.out Try.underlying29 rfl HI.out ?_)
        | (refine wpList_store_row rfl 29 (.tmp 6) _ rfl (w.heap.size + 1) (refCells is hs) rfl rfl 29 _ HZ1.out HI.out (by rw [HN.out]; rfl) H1.out ?_))
      refine bodyPost_ret (ret_cell_tmp rfl _ _ _ _ _ _ rfl (HZ1.out.row _) Try.underlying29 rfl HI.out _ rfl) rfl ?_
      exact ⟨by rw [HE.out]; rfl, (((Kp.refl _ _).alloc _).alloc _ |>.trans hk1 (fun _ _ q => q)).setRow (.inl (by omega)) _⟩
    · cases hf : freeR hs k l
      · have HE := Lib.hid (show takeR is hs k l = (6, hs) by simp [takeR, H.out, hle, hf])
        have HF := Lib.hid hf
        clear hf
        go_enter Try.func8, Try.ntmps8
        go_wp2_with (first
          | (refine wpList_load_row rfl 29 (.tmp 3) rfl w.heap.size rfl 29 (refCells is hs) (0, 0) _ (HB.out.alloc _) Try.underlying29 rfl HI.out ?_)
          | (go_at_call 17; refine (rwrong_is _ _ _ _ _ _ H.out).mono ?_; rintro e w1 ⟨rfl, hk1⟩; have HB1 := Lib.hid ((HB.out.alloc _).keep hk1 (fun q => q)); have HZ1 := Lib.hid (HZ.out.keep hk1 (fun q => q)); have hc1 := RBlk.cell HB1.out k HK.out; have hz1 := RBlk.frozen HB1.out (1 + k))
          | (refine wpList_load_row rfl 29 (.tmp 3) rfl w.heap.size rfl 29 (refCells is hs) (0, 0) _ HB1.out Try.underlying29 rfl HI.out ?_)
          | (go_at_call 18; refine (rfree_is _ _ _ _ _ H8.out _ HF.out).mono ?_; rintro e w2 ⟨rfl, hk2⟩; have HB2 := Lib.hid (HB1.out.keep hk2 (fun q => q)); have HZ2 := Lib.hid (HZ1.out.keep hk2 (fun q => q)); have hc2 := RBlk.cell HB2.out k HK.out; have hz2 := RBlk.frozen HB2.out (1 + k))
          | (refine wpList_load_row rfl 29 (.tmp 3) rfl w.heap.size rfl 29 (refCells is hs) (0, 0) _ HB2.out Try.underlying29 rfl HI.out ?_)
          | (refine wpList_store_row rfl 29 (.tmp 6) _ rfl (w.heap.size + 1) (refCells is hs) rfl rfl 29 _ HZ2.out HI.out (by rw [HN.out]; rfl) H1.out ?_))
        refine bodyPost_ret (ret_cell_tmp rfl _ _ _ _ _ _ rfl (HZ2.out.row _) Try.underlying29 rfl HI.out _ rfl) rfl ?_
        exact ⟨by rw [HE.out]; rfl, ((((Kp.refl _ _).alloc _).alloc _ |>.trans hk1 (fun _ _ q => q)).trans hk2 (fun _ _ q => q)).setRow (.inl (by omega)) _⟩
      · have HE := Lib.hid (show takeR is hs k l = (0, hs.set k l) by simp [takeR, H.out, hle, hf])
        have HF := Lib.hid hf
        have HI' := Lib.hid (refInfo is (hs.set k l) (by simp [H8.out]))
        have HN' := Lib.hid (refCells_size is (hs.set k l) (by simp [H8.out]))
        have H1' := Lib.hid (refCells_one is (hs.set k l))
        clear hf
        go_enter Try.func8, Try.ntmps8
        go_wp2_with (first
          | (refine wpList_load_row rfl 29 (.tmp 3) rfl w.heap.size rfl 29 (refCells is hs) (0, 0) _ (HB.out.alloc _) Try.underlying29 rfl HI.out ?_)
          | (go_at_call 17; refine (rwrong_is _ _ _ _ _ _ H.out).mono ?_; rintro e w1 ⟨rfl, hk1⟩; have HB1 := Lib.hid ((HB.out.alloc _).keep hk1 (fun q => q)); have HZ1 := Lib.hid (HZ.out.keep hk1 (fun q => q)); have hc1 := RBlk.cell HB1.out k HK.out; have hz1 := RBlk.frozen HB1.out (1 + k))
          | (refine wpList_load_row rfl 29 (.tmp 3) rfl w.heap.size rfl 29 (refCells is hs) (0, 0) _ HB1.out Try.underlying29 rfl HI.out ?_)
          | (go_at_call 18; refine (rfree_is _ _ _ _ _ H8.out _ HF.out).mono ?_; rintro e w2 ⟨rfl, hk2⟩; have HB2 := Lib.hid (HB1.out.keep hk2 (fun q => q)); have HZ2 := Lib.hid (HZ1.out.keep hk2 (fun q => q)); have hc2 := RBlk.cell HB2.out k HK.out; have hz2 := RBlk.frozen HB2.out (1 + k))
          | (refine wpList_load_row rfl 29 (.tmp 3) rfl w.heap.size rfl 29 (refCells is hs) (0, 0) _ HB2.out Try.underlying29 rfl HI.out ?_)
          | (refine wpList_load_row rfl 29 (.tmp 3) rfl w.heap.size rfl 29 (refCells is (hs.set k l)) (0, 0) _ (RBlk.set HB2.out k l) Try.underlying29 rfl HI'.out ?_)
          | (refine wpList_store_row rfl 29 (.tmp 6) _ rfl (w.heap.size + 1) (refCells is (hs.set k l)) rfl rfl 29 _ (HZ2.out.far (p := ⟨w.heap.size, 1 + k, none⟩) (by simp) _) HI'.out (by rw [HN'.out]; rfl) H1'.out ?_))
        refine bodyPost_ret (ret_cell_tmp rfl _ _ _ _ _ _ rfl ((HZ2.out.far (p := ⟨w.heap.size, 1 + k, none⟩) (by simp) _).row _) Try.underlying29 rfl HI'.out _ rfl) rfl ?_
        exact ⟨by rw [HE.out]; rfl, (((((Kp.refl _ _).alloc _).alloc _ |>.trans hk1 (fun _ _ q => q)).trans hk2 (fun _ _ q => q)).setCell (p := ⟨w.heap.size, 1 + k, none⟩) (.inl (Nat.le_refl _)) _).setRow (.inl (by omega)) _⟩

set_option maxHeartbeats 1600000 in
theorem rdrop (w : World) (is : Bool) (hs : List Int) (c l : Int) (h8 : hs.length = 8) : Calls Try.prog 10 #[.agg (refCells is hs), .int .i64 c, .int .i64 l] w (RPost w is (dropR is hs c l)) := by
  have HB : Hid (Blk (w.alloc (.cells (refCells is hs) 29)) w.heap.size 29 (refCells is hs)) := Lib.hid (Blk.new _ _ _)
  have HZ : Hid (Blk ((w.alloc (.cells (refCells is hs) 29)).alloc (.cells (refCells false (List.replicate 8 0)) 29)) (w.heap.size + 1) 29 (refCells false (List.replicate 8 0))) := Lib.hid (by simpa using Blk.new (w.alloc (.cells (refCells is hs) 29)) 29 (refCells false (List.replicate 8 0)))
  have HI := Lib.hid (refInfo is hs h8)
  have HN := Lib.hid (refCells_size is hs h8)
  have H1 := Lib.hid (refCells_one is hs)
  have H8 := Lib.hid h8
  clear h8
  rcases wrongR_cases is c l with ⟨h, hi⟩ | ⟨h, hi, hb⟩ | ⟨h, hi, h0, h1, h2, h3⟩
  · have H := Lib.hid h
    have HE := Lib.hid (show dropR is hs c l = (1, hs) by simp [dropR, h])
    clear h hi
    go_enter Try.func10, Try.ntmps10
    go_wp2_with (first
      | (refine wpList_load_row rfl 29 (.tmp 3) rfl w.heap.size rfl 29 (refCells is hs) (0, 0) _ (HB.out.alloc _) Try.underlying29 rfl HI.out ?_)
      | (go_at_call 17; refine (rwrong_is _ _ _ _ _ _ H.out).mono ?_; rintro e w1 ⟨rfl, hk1⟩; have HB1 := Lib.hid ((HB.out.alloc _).keep hk1 (fun q => q)); have HZ1 := Lib.hid (HZ.out.keep hk1 (fun q => q)))
      | (refine wpList_load_row rfl 29 (.tmp 3) rfl w.heap.size rfl 29 (refCells is hs) (0, 0) _ HB1.out Try.underlying29 rfl HI.out ?_)
      | (refine wpList_store_row rfl 29 (.tmp 6) _ rfl (w.heap.size + 1) (refCells is hs) rfl rfl 29 _ HZ1.out HI.out (by rw [HN.out]; rfl) H1.out ?_))
    refine bodyPost_ret (ret_cell_tmp rfl _ _ _ _ _ _ rfl (HZ1.out.row _) Try.underlying29 rfl HI.out _ rfl) rfl ?_
    exact ⟨by rw [HE.out]; rfl, (((Kp.refl _ _).alloc _).alloc _ |>.trans hk1 (fun _ _ q => q)).setRow (.inl (by omega)) _⟩
  · have H := Lib.hid h
    have HE := Lib.hid (show dropR is hs c l = (2, hs) by simp [dropR, h])
    clear h hi hb
    go_enter Try.func10, Try.ntmps10
    go_wp2_with (first
      | (refine wpList_load_row rfl 29 (.tmp 3) rfl w.heap.size rfl 29 (refCells is hs) (0, 0) _ (HB.out.alloc _) Try.underlying29 rfl HI.out ?_)
      | (go_at_call 17; refine (rwrong_is _ _ _ _ _ _ H.out).mono ?_; rintro e w1 ⟨rfl, hk1⟩; have HB1 := Lib.hid ((HB.out.alloc _).keep hk1 (fun q => q)); have HZ1 := Lib.hid (HZ.out.keep hk1 (fun q => q)))
      | (refine wpList_load_row rfl 29 (.tmp 3) rfl w.heap.size rfl 29 (refCells is hs) (0, 0) _ HB1.out Try.underlying29 rfl HI.out ?_)
      | (refine wpList_store_row rfl 29 (.tmp 6) _ rfl (w.heap.size + 1) (refCells is hs) rfl rfl 29 _ HZ1.out HI.out (by rw [HN.out]; rfl) H1.out ?_))
    refine bodyPost_ret (ret_cell_tmp rfl _ _ _ _ _ _ rfl (HZ1.out.row _) Try.underlying29 rfl HI.out _ rfl) rfl ?_
    exact ⟨by rw [HE.out]; rfl, (((Kp.refl _ _).alloc _).alloc _ |>.trans hk1 (fun _ _ q => q)).setRow (.inl (by omega)) _⟩
  · have H := Lib.hid h
    clear h hi
    obtain ⟨k, rfl⟩ := Int.eq_ofNat_of_zero_le h0
    have hk : k < 8 := by omega
    have HK := Lib.hid (show k < hs.length by rw [H8.out]; exact hk)
    by_cases hle : l < hs[k]?.getD 0
    · have HE := Lib.hid (show dropR is hs k l = (0, hs.set k l) by simp [dropR, H.out, hle])
      have HI' := Lib.hid (refInfo is (hs.set k l) (by simp [H8.out]))
      have HN' := Lib.hid (refCells_size is (hs.set k l) (by simp [H8.out]))
      have H1' := Lib.hid (refCells_one is (hs.set k l))
      go_enter Try.func10, Try.ntmps10
      go_wp2_with (first
        | (refine wpList_load_row rfl 29 (.tmp 3) rfl w.heap.size rfl 29 (refCells is hs) (0, 0) _ (HB.out.alloc _) Try.underlying29 rfl HI.out ?_)
        | (go_at_call 17; refine (rwrong_is _ _ _ _ _ _ H.out).mono ?_; rintro e w1 ⟨rfl, hk1⟩; have HB1 := Lib.hid ((HB.out.alloc _).keep hk1 (fun q => q)); have HZ1 := Lib.hid (HZ.out.keep hk1 (fun q => q)); have hc1 := RBlk.cell HB1.out k HK.out; have hz1 := RBlk.frozen HB1.out (1 + k))
        | (refine wpList_load_row rfl 29 (.tmp 3) rfl w.heap.size rfl 29 (refCells is hs) (0, 0) _ HB1.out Try.underlying29 rfl HI.out ?_)
        | (refine wpList_load_row rfl 29 (.tmp 3) rfl w.heap.size rfl 29 (refCells is (hs.set k l)) (0, 0) _ (RBlk.set HB1.out k l) Try.underlying29 rfl HI'.out ?_)
        | (refine wpList_store_row rfl 29 (.tmp 6) _ rfl (w.heap.size + 1) (refCells is (hs.set k l)) rfl rfl 29 _ (HZ1.out.far (p := ⟨w.heap.size, 1 + k, none⟩) (by simp) _) HI'.out (by rw [HN'.out]; rfl) H1'.out ?_))
      refine bodyPost_ret (ret_cell_tmp rfl _ _ _ _ _ _ rfl ((HZ1.out.far (p := ⟨w.heap.size, 1 + k, none⟩) (by simp) _).row _) Try.underlying29 rfl HI'.out _ rfl) rfl ?_
      exact ⟨by rw [HE.out]; rfl, ((((Kp.refl _ _).alloc _).alloc _ |>.trans hk1 (fun _ _ q => q)).setCell (p := ⟨w.heap.size, 1 + k, none⟩) (.inl (Nat.le_refl _)) _).setRow (.inl (by omega)) _⟩
    · have HE := Lib.hid (show dropR is hs k l = (0, hs) by simp [dropR, H.out, hle])
      go_enter Try.func10, Try.ntmps10
      go_wp2_with (first
        | (refine wpList_load_row rfl 29 (.tmp 3) rfl w.heap.size rfl 29 (refCells is hs) (0, 0) _ (HB.out.alloc _) Try.underlying29 rfl HI.out ?_)
        | (go_at_call 17; refine (rwrong_is _ _ _ _ _ _ H.out).mono ?_; rintro e w1 ⟨rfl, hk1⟩; have HB1 := Lib.hid ((HB.out.alloc _).keep hk1 (fun q => q)); have HZ1 := Lib.hid (HZ.out.keep hk1 (fun q => q)); have hc1 := RBlk.cell HB1.out k HK.out; have hz1 := RBlk.frozen HB1.out (1 + k))
        | (refine wpList_load_row rfl 29 (.tmp 3) rfl w.heap.size rfl 29 (refCells is hs) (0, 0) _ HB1.out Try.underlying29 rfl HI.out ?_)
        | (refine wpList_store_row rfl 29 (.tmp 6) _ rfl (w.heap.size + 1) (refCells is hs) rfl rfl 29 _ HZ1.out HI.out (by rw [HN.out]; rfl) H1.out ?_))
      refine bodyPost_ret (ret_cell_tmp rfl _ _ _ _ _ _ rfl (HZ1.out.row _) Try.underlying29 rfl HI.out _ rfl) rfl ?_
      exact ⟨by rw [HE.out]; rfl, (((Kp.refl _ _).alloc _).alloc _ |>.trans hk1 (fun _ _ q => q)).setRow (.inl (by omega)) _⟩
end Go.Proofs.Ytmkhhjpfchaopaa
