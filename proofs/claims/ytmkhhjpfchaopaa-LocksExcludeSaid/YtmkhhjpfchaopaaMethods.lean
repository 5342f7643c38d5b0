/- What the methods of the table of locks answer; no condition. -/
import Derived.Test.YtmkhhjpfchaopaaFree
import Derived.Deep.WholeRow
namespace Go.Proofs.Ytmkhhjpfchaopaa
open Go.RowKit

def wrongI (c l : Int) : Int := if c < 0 ∨ 8 ≤ c ∨ l < 0 ∨ 3 < l then 2 else 0

theorem wrong_nil (w : World) (c l : Int) : Calls Try.prog 15 #[.pointer none, .int .i64 c, .int .i64 l] w fun e w' => e = .returned (.int .i64 1) ∧ w = w' := by
  go_enter Try.func15, Try.ntmps15
  go_wp2_with (go_at_call 19; refine (is_nil _).mono ?_; rintro e w' ⟨rfl, rfl⟩)
  go_ret
  exact ⟨rfl, rfl⟩

theorem wrong_ok (w : World) (b : Nat) (hs : List Int) (c l : Int) (hT : Tab w b hs) : Calls Try.prog 15 #[.pointer (some ⟨b, 0, none⟩), .int .i64 c, .int .i64 l] w fun e w' => e = .returned (.int .i64 (wrongI c l)) ∧ w = w' := by
  have HT := Lib.hid hT
  clear hT
  go_enter Try.func15, Try.ntmps15
  go_wp2_with (go_at_call 19; refine (is_ok _ _ HT.out.ready).mono ?_; rintro e w' ⟨rfl, rfl⟩)
  all_goals
    go_ret
    exact ⟨ret_int (by unfold wrongI; first | rw [if_pos (by omega)] | rw [if_neg (by omega)]), rfl⟩

/-- may a connection take a lock? (as the code asks) -/
def freeI (hs : List Int) (c l : Int) : Bool :=
  if l = 3 then !others hs c 1 0 && !others hs c 2 0 && !others hs c 3 0 else if l = 2 then !others hs c 2 0 && !others hs c 3 0 else if l = 1 then !others hs c 3 0 else true

set_option maxHeartbeats 800000 in
theorem free_any (w : World) (b : Nat) (c l : Int) (hs : List Int) (hT : Tab w b hs) :
   Calls Try.prog 16 #[.pointer (some ⟨b, 0, none⟩), .int .i64 c, .int .i64 l] w fun e w' => e = .returned (.bool (freeI hs c l)) ∧ Kp NoB w w' := by
  have hmf : ∀ (fn : Fn) (first cap : Array Value) (w : World), (Instr.makeFunc fn first cap).run Try.prog w = .ok (.func fn first cap) w := fun _ _ _ _ => rfl
  have HT := Lib.hid hT
  clear hT
  obtain ⟨o1, h1⟩ : ∃ x, x = others hs c 1 0 := ⟨_, rfl⟩
  obtain ⟨o2, h2⟩ : ∃ x, x = others hs c 2 0 := ⟨_, rfl⟩
  obtain ⟨o3, h3⟩ : ∃ x, x = others hs c 3 0 := ⟨_, rfl⟩
  have H1 := Lib.hid h1
  have H2 := Lib.hid h2
  have H3 := Lib.hid h3
  clear h1 h2 h3
  have K : ∀ (l x : Int) (o : Bool), x = l → Hid (o = others hs c l 0) → Calls Try.prog 20 #[.int .i64 x, .pointer (some ⟨w.heap.size, 0, none⟩), .pointer (some ⟨w.heap.size + 1, 0, none⟩)] ((w.alloc (.cells #[.pointer (some ⟨b, 0, none⟩)] 24)).alloc (.cells #[.int .i64 c] 3)) fun e w' => e = .returned (.bool o) ∧ ((w.alloc (.cells #[.pointer (some ⟨b, 0, none⟩)] 24)).alloc (.cells #[.int .i64 c] 3)) = w' := by
    intro l x o e ho
    subst e
    rw [ho.out]
    exact others_any _ b w.heap.size (w.heap.size + 1) c x hs ⟨HT.out.1, by rw [Below.heap_alloc _ _ _ (by have := lt_of_heap HT.out.2; simp; omega), Below.heap_alloc _ _ _ (lt_of_heap HT.out.2)]; exact HT.out.2⟩ (by simp) (by simp)
  go_enter Try.func16, Try.ntmps16
  go_wp2_with (first | (go_at_call_of 20 (Value.int .i64 1); refine (K 1 _ o1 rfl H1).mono ?_; rintro e w' ⟨rfl, rfl⟩) | (go_at_call_of 20 (Value.int .i64 2); refine (K 2 _ o2 rfl H2).mono ?_; rintro e w' ⟨rfl, rfl⟩) | (go_at_call_of 20 (Value.int .i64 3); refine (K 3 _ o3 rfl H3).mono ?_; rintro e w' ⟨rfl, rfl⟩))
  all_goals
    clear K hmf
    go_ret
    refine ⟨ret_bool ?_, ((Kp.refl _ _).alloc _).alloc _⟩
    unfold freeI
    rw [← H1.out, ← H2.out, ← H3.out]
    simp_all

def takeI (hs : List Int) (c l : Int) : Int × List Int :=
  if wrongI c l ≠ 0 then (2, hs) else if l ≤ hs.getD c.toNat 0 then (0, hs) else if freeI hs c l then (0, hs.set c.toNat l) else (6, hs)
def dropI (hs : List Int) (c l : Int) : Int × List Int :=
  if wrongI c l ≠ 0 then (2, hs) else (0, hs.set c.toNat (min (hs.getD c.toNat 0) l))

def StepPost (b : Nat) (r : Int × List Int) (w : World) (e : Ending) (w' : World) : Prop := e = .returned (.int .i64 r.1) ∧ Tab w' b r.2 ∧ Kp (OnB b) w w'

theorem wrongI_cases (c l : Int) : (wrongI c l = 2 ∧ (c < 0 ∨ 8 ≤ c ∨ l < 0 ∨ 3 < l)) ∨ (wrongI c l = 0 ∧ 0 ≤ c ∧ c < 8 ∧ 0 ≤ l ∧ l ≤ 3) := by
  unfold wrongI
  by_cases h : c < 0 ∨ 8 ≤ c ∨ l < 0 ∨ 3 < l
  · left; exact ⟨if_pos h, h⟩
  · right; exact ⟨if_neg h, by omega, by omega, by omega, by omega⟩

theorem wrong_bad (w : World) (b : Nat) (hs : List Int) (c l : Int) (hT : Tab w b hs) (h : wrongI c l = 2) : Calls Try.prog 15 #[.pointer (some ⟨b, 0, none⟩), .int .i64 c, .int .i64 l] w fun e w' => e = .returned (.int .i64 2) ∧ w = w' :=
  (wrong_ok w b hs c l hT).mono fun _ _ q => ⟨by rw [q.1, h], q.2⟩
theorem wrong_fine (w : World) (b : Nat) (hs : List Int) (c l : Int) (hT : Tab w b hs) (h : wrongI c l = 0) : Calls Try.prog 15 #[.pointer (some ⟨b, 0, none⟩), .int .i64 c, .int .i64 l] w fun e w' => e = .returned (.int .i64 0) ∧ w = w' :=
  (wrong_ok w b hs c l hT).mono fun _ _ q => ⟨by rw [q.1, h], q.2⟩
theorem free_is (w : World) (b : Nat) (c l : Int) (hs : List Int) (hT : Tab w b hs) (x : Bool) (hx : freeI hs c l = x) :
   Calls Try.prog 16 #[.pointer (some ⟨b, 0, none⟩), .int .i64 c, .int .i64 l] w fun e w' => e = .returned (.bool x) ∧ Kp NoB w w' :=
  (free_any w b c l hs hT).mono fun _ _ q => ⟨by rw [q.1, hx], q.2⟩

theorem Tab.keep {w w' : World} {S : Nat → Prop} {b : Nat} {hs : List Int} (h : Tab w b hs) (k : Kp S w w') (hn : ¬ S b) : Tab w' b hs := ⟨h.1, k.lift h.2 hn⟩
theorem Tab.lt {w : World} {b : Nat} {hs : List Int} (h : Tab w b hs) : b < w.heap.size := lt_of_heap h.2
theorem Tab.frozen {w : World} {b : Nat} {hs : List Int} (h : Tab w b hs) (k : Nat) : w.frozen? ⟨b, k, none⟩ = false := frozen_of_row w b k _ _ h.2
theorem Tab.set {w : World} {b : Nat} {hs : List Int} (h : Tab w b hs) (k : Nat) (hk : k < 8) (l : Int) : Tab (w.setCell ⟨b, k, none⟩ (.int .i64 l)) b (hs.set k l) := by
  refine ⟨by simp [h.1], ?_⟩
  rw [heap_setCell_same w b k _ _ _ h.2]
  congr 2
  simp only [tabCells]
  rw [List.setIfInBounds_toArray, List.set_append_left _ _ (by simp [h.1]; omega), List.map_set]

set_option maxHeartbeats 800000 in
theorem take_ok (w : World) (b : Nat) (hs : List Int) (c l : Int) (hT : Tab w b hs) :
    Calls Try.prog 7 #[.pointer (some ⟨b, 0, none⟩), .int .i64 c, .int .i64 l] w (StepPost b (takeI hs c l) w) := by
  have HT := Lib.hid hT
  clear hT
  rcases wrongI_cases c l with ⟨h, hb⟩ | ⟨h, h0, h1, h2, h3⟩
  · have H := Lib.hid h
    clear h
    go_enter Try.func7, Try.ntmps7
    go_wp2_with (go_at_call 15; refine (wrong_bad _ _ _ _ _ HT.out H.out).mono ?_; rintro e w' ⟨rfl, rfl⟩)
    go_ret
    exact ⟨by simp [takeI, H.out], by simp [takeI, H.out]; exact HT.out, Kp.refl _ _⟩
  · have H := Lib.hid h
    clear h
    obtain ⟨k, rfl⟩ := Int.eq_ofNat_of_zero_le h0
    have hk : k < 8 := by omega
    have hc := HT.out.cell k hk
    have hfz := HT.out.frozen k
    by_cases hle : l ≤ hs[k]?.getD 0
    · go_enter Try.func7, Try.ntmps7
      go_wp2_with (go_at_call 15; refine (wrong_fine _ _ _ _ _ HT.out H.out).mono ?_; rintro e w' ⟨rfl, rfl⟩)
      go_ret
      exact ⟨by simp [takeI, H.out, hle], by simp [takeI, H.out, hle]; exact HT.out, Kp.refl _ _⟩
    · cases hf : freeI hs k l
      · have HF := Lib.hid hf
        have HE := Lib.hid (show takeI hs k l = (6, hs) from by simp [takeI, H.out, hle, hf])
        clear hf
        go_enter Try.func7, Try.ntmps7
        go_wp2_with (first | (go_at_call 15; refine (wrong_fine _ _ _ _ _ HT.out H.out).mono ?_; rintro e w' ⟨rfl, rfl⟩) | (go_at_call 16; refine (free_is _ _ _ _ _ HT.out _ HF.out).mono ?_; rintro e w' ⟨rfl, hk'⟩))
        go_ret
        have e := HE.out
        exact ⟨by rw [e]; rfl, by rw [e]; exact HT.out.keep hk' (fun q => q), hk'.mono (fun _ _ q => q.elim)⟩
      · have HF := Lib.hid hf
        have HE := Lib.hid (show takeI hs k l = (0, hs.set k l) from by simp [takeI, H.out, hle, hf])
        clear hf
        go_enter Try.func7, Try.ntmps7
        go_wp2_with (first | (go_at_call 15; refine (wrong_fine _ _ _ _ _ HT.out H.out).mono ?_; rintro e w' ⟨rfl, rfl⟩) | (go_at_call 16; refine (free_is _ _ _ _ _ HT.out _ HF.out).mono ?_; rintro e w' ⟨rfl, hk'⟩; have hc' := (HT.out.keep hk' (fun q => q)).cell k hk; have hfz' := (HT.out.keep hk' (fun q => q)).frozen k))
        go_ret
        have e := HE.out
        exact ⟨by rw [e]; rfl, by rw [e]; exact (HT.out.keep hk' (fun q => q)).set k hk l, Kp.setCell (S := OnB b) (p := ⟨b, k, none⟩) (hk'.mono (fun _ _ q => q.elim)) (.inr rfl) _⟩

theorem drop_ok (w : World) (b : Nat) (hs : List Int) (c l : Int) (hT : Tab w b hs) :
    Calls Try.prog 9 #[.pointer (some ⟨b, 0, none⟩), .int .i64 c, .int .i64 l] w (StepPost b (dropI hs c l) w) := by
  have HT := Lib.hid hT
  clear hT
  rcases wrongI_cases c l with ⟨h, hb⟩ | ⟨h, h0, h1, h2, h3⟩
  · have H := Lib.hid h
    clear h
    go_enter Try.func9, Try.ntmps9
    go_wp2_with (go_at_call 15; refine (wrong_bad _ _ _ _ _ HT.out H.out).mono ?_; rintro e w' ⟨rfl, rfl⟩)
    go_ret
    exact ⟨by simp [dropI, H.out], by simp [dropI, H.out]; exact HT.out, Kp.refl _ _⟩
  · have H := Lib.hid h
    clear h
    obtain ⟨k, rfl⟩ := Int.eq_ofNat_of_zero_le h0
    have hk : k < 8 := by omega
    have hc := HT.out.cell k hk
    have hfz := HT.out.frozen k
    go_enter Try.func9, Try.ntmps9
    go_wp2_with (go_at_call 15; refine (wrong_fine _ _ _ _ _ HT.out H.out).mono ?_; rintro e w' ⟨rfl, rfl⟩)
    go_region
    go_wp2
    · have e : dropI hs k l = (0, hs.set k l) := by simp [dropI, H.out, Int.min_eq_right (Int.le_of_lt h)]
      go_ret
      exact ⟨by rw [e]; rfl, by rw [e]; exact HT.out.set k hk l, (Kp.setCell (S := OnB b) (p := ⟨b, k, none⟩) (Kp.refl _ _) (.inr rfl) _).drew⟩
    · have e : dropI hs k l = (0, hs.set k (hs[k]?.getD 0)) := by simp [dropI, H.out, Int.min_eq_left h]
      go_ret
      exact ⟨by rw [e]; rfl, by rw [e]; exact HT.out.set k hk _, (Kp.setCell (S := OnB b) (p := ⟨b, k, none⟩) (Kp.refl _ _) (.inr rfl) _).drew⟩
theorem take_nil (w : World) (c l : Int) : Calls Try.prog 7 #[.pointer none, .int .i64 c, .int .i64 l] w fun e w' => e = .returned (.int .i64 1) ∧ w = w' := by
  go_enter Try.func7, Try.ntmps7
  go_wp2_with (go_at_call 15; refine (wrong_nil _ _ _).mono ?_; rintro e w' ⟨rfl, rfl⟩)
  go_ret
  exact ⟨rfl, rfl⟩
theorem drop_nil (w : World) (c l : Int) : Calls Try.prog 9 #[.pointer none, .int .i64 c, .int .i64 l] w fun e w' => e = .returned (.int .i64 1) ∧ w = w' := by
  go_enter Try.func9, Try.ntmps9
  go_wp2_with (go_at_call 15; refine (wrong_nil _ _ _).mono ?_; rintro e w' ⟨rfl, rfl⟩)
  go_ret
  exact ⟨rfl, rfl⟩
theorem has_nil (w : World) (c : Int) : Calls Try.prog 13 #[.pointer none, .int .i64 c] w fun e w' => e = .returned (.int .i64 0) ∧ w = w' := by
  go_enter Try.func13, Try.ntmps13
  go_wp2_with (go_at_call 15; refine (wrong_nil _ _ _).mono ?_; rintro e w' ⟨rfl, rfl⟩)
  go_ret
  exact ⟨rfl, rfl⟩
def hasI (hs : List Int) (c : Int) : Int := if c < 0 ∨ 8 ≤ c then 0 else hs.getD c.toNat 0
theorem has_ok (w : World) (b : Nat) (hs : List Int) (c : Int) (hT : Tab w b hs) : Calls Try.prog 13 #[.pointer (some ⟨b, 0, none⟩), .int .i64 c] w fun e w' => e = .returned (.int .i64 (hasI hs c)) ∧ w = w' := by
  have HT := Lib.hid hT
  clear hT
  rcases wrongI_cases c 0 with ⟨h, hb⟩ | ⟨h, h0, h1, h2, h3⟩
  · have H := Lib.hid h
    clear h
    go_enter Try.func13, Try.ntmps13
    go_wp2_with (go_at_call 15; refine (wrong_bad _ _ _ _ _ HT.out H.out).mono ?_; rintro e w' ⟨rfl, rfl⟩)
    go_ret
    exact ⟨ret_int (by unfold hasI; rw [if_pos (by omega)]), rfl⟩
  · have H := Lib.hid h
    clear h
    obtain ⟨k, rfl⟩ := Int.eq_ofNat_of_zero_le h0
    have hk : k < 8 := by omega
    have hc := HT.out.cell k hk
    go_enter Try.func13, Try.ntmps13
    go_wp2_with (go_at_call 15; refine (wrong_fine _ _ _ _ _ HT.out H.out).mono ?_; rintro e w' ⟨rfl, rfl⟩)
    go_ret
    exact ⟨ret_int (by unfold hasI; rw [if_neg (by omega)]; simp), rfl⟩

theorem new_ok (w : World) : Calls Try.prog 6 #[] w fun e w' => e = .returned (.pointer (some ⟨w.heap.size, 0, none⟩)) ∧ Tab w' w.heap.size (List.replicate 8 0) ∧ Kp NoB w w' := by
  go_enter Try.func6, Try.ntmps6
  go_wp2
  go_ret
  exact ⟨rfl, ⟨by simp, by rw [heap_alloc_new]; rfl⟩, (Kp.refl _ _).alloc _⟩

theorem info46 : (Try.prog.info? 46).map (·.size) = some 9 := by kernel_rfl
theorem tabCells_size (hs : List Int) (h : hs.length = 8) : (tabCells hs).size = 9 := by simp [tabCells, h]
theorem tabCells_one (hs : List Int) : (tabCells hs).all (·.oneCell') = true := by
  simp only [tabCells, List.all_toArray', List.all_append, List.all_map]
  simp [Value.oneCell']
theorem copy_nil (w : World) : Calls Try.prog 11 #[.pointer none] w fun e w' => e = .returned (.pointer none) ∧ w = w' := by
  go_enter Try.func11, Try.ntmps11
  go_wp2_with (go_at_call 19; refine (is_nil _).mono ?_; rintro e w' ⟨rfl, rfl⟩)
  go_ret
  exact ⟨rfl, rfl⟩
theorem copy_ok (w : World) (b : Nat) (hs : List Int) (hT : Tab w b hs) : Calls Try.prog 11 #[.pointer (some ⟨b, 0, none⟩)] w fun e w' => e = .returned (.pointer (some ⟨w.heap.size, 0, none⟩)) ∧ Tab w' w.heap.size hs ∧ Kp NoB w w' := by
  have HT := Lib.hid hT
  clear hT
  go_enter Try.func11, Try.ntmps11
  go_wp2_with (first
    | (go_at_call 19; refine (is_ok _ _ HT.out.ready).mono ?_; rintro e w' ⟨rfl, rfl⟩)
    | (refine wpList_load_row rfl 46 (.tmp 8) rfl b rfl 46 (tabCells hs) (0, 0) _ HT.out.2 Try.underlying46 rfl ?c1 ?_)
    | (refine wpList_store_row rfl 46 (.tmp 3) (.tmp 9) rfl w.heap.size (tabCells hs) rfl rfl 46 _ (heap_alloc_new _ _) ?c2 ?c3 ?c4 ?_))
  case c1 => rw [tabCells_size hs HT.out.1]; exact info46
  case c2 => rw [tabCells_size hs HT.out.1]; exact info46
  case c3 => rw [tabCells_size hs HT.out.1]; rfl
  case c4 => exact tabCells_one hs
  go_ret
  rw [World.setRow_alloc_new]
  exact ⟨rfl, ⟨HT.out.1, heap_alloc_new _ _⟩, (Kp.refl _ _).alloc _⟩
end Go.Proofs.Ytmkhhjpfchaopaa
