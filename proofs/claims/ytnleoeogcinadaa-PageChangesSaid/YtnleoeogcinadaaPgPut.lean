/- The reference's Put and Out; condition: at most 1000 cells. -/
import Derived.Test.YtnleoeogcinadaaPgCat
namespace Go.Proofs.Ytnleoeogcinadaa
open Go.RowKit
attribute [local go_sem ↓] load26 store26 alloc26 build26 slice26lo load62 store62
attribute [local go_sem] size_setCells

set_option maxRecDepth 100000 in
set_option maxHeartbeats 4000000 in
theorem put_ok (w : World) (A : Option Addr) (n cap i : Nat) (xs : List ByteArray) (c : ByteArray) (hi : i ≤ n) (hn : n ≤ 1000) (hcap : n ≤ cap) (hform : (A = none ∧ n = 0 ∧ cap = 0) ∨ ∃ g, A = some ⟨g, 0, none⟩) (hS : Sl w A n xs) :
    Calls Try.prog 28 #[.slice A n cap, .int .i64 i, .string c] w fun e w' => ∃ C m cc, e = .returned (.slice C m cc) ∧ m = n + 1 ∧ Sl w' C m (xs.take i ++ [c] ++ xs.drop i) ∧ Kp NoB w w' := by
  obtain ⟨i0, hi0, hz0, hz1, hz2⟩ := info_parts infoStr
  have HI0 := Lib.hid hi0
  have HZ0 := Lib.hid hz0
  have HZ1 := Lib.hid hz1
  have HZ2 := Lib.hid hz2
  clear hi0 hz0 hz1 hz2
  have HOWN0 : Hid ((w.alloc (.cells #[] 9)).ownsRow w.heap.size 9 1 (.slice (some ⟨w.heap.size, 0, none⟩) 0 0) 0 []) := Lib.hid ⟨rfl, .inr ⟨w.heap.size, 0, #[], rfl, Nat.le_refl _, heap_alloc_new _ _, Nat.le_refl _, by simp, rfl, rfl⟩⟩
  have HN0 : Hid (w.heap.size ≤ (w.alloc (.cells #[] 9)).heap.size) := Lib.hid (by simp)
  have hii : (i : Int) ≤ (n : Int) := by omega
  have hic : (i : Int) ≤ (cap : Int) := by omega
  have hi0 : (0 : Int) ≤ (i : Int) := by omega
  have hxl := hS.1
  rcases hform with ⟨rfl, hn0, hcap0⟩ | ⟨g, rfl⟩
  · have HNA : Hid (i = 0 ∧ cap = 0) := Lib.hid ⟨by omega, by omega⟩
    have HNB : Hid (n - i = 0 ∧ cap - i = 0) := Lib.hid ⟨by omega, by omega⟩
    clear hn0 hcap0
    have HSA := Lib.hid (show Sl w none i (xs.take i) from ⟨by rw [List.length_take]; omega, fun h => absurd h (by have := HNA.out.1; omega)⟩)
    have HSB := Lib.hid (show Sl w none (n - i) (xs.drop i) from ⟨by rw [List.length_drop]; omega, fun h => absurd h (by have := HNB.out.1; omega)⟩)
    clear hS
    go_enter Try.func28, Try.ntmps28
    go_wp2_with (first
      | (have hG := HOWN0; clear hG; at_builtin; refine wpList_append_src rfl _ _ 23 rfl w.heap.size 9 i0 _ 16 Try.underlying23 HI0.out HZ0.out HZ1.out HZ2.out rfl _ 0 [] rfl HOWN0.out none i cap ((xs.take i).map Value.string) rfl (fun _ => HNA.out) (by rw [List.length_map]; exact HSA.out.1) (cat_src (HSA.out.keep ((Kp.refl NoB w).alloc _))) (texts_one _) (by unfold maxLen; omega) (by omega) HN0.out ?_; intro v1 w2 hown hgr; rw [Nat.zero_add, List.nil_append] at hown; have hk2 := ((Kp.refl NoB w).alloc _).own (v := .slice (some ⟨w.heap.size, 0, none⟩) 0 0) hgr rfl HOWN0.out; obtain ⟨B1, d1, rfl⟩ := own_slice hown; have HK2 := Lib.hid hk2; have HOWN1 := Lib.hid (own_keep hown ((Kp.refl NoB w2).alloc (.cells #[.string c] 9)) (fun _ _ _ q => q)); have HS1 := Lib.hid (show 0 < 1 → ∃ g o, (some ⟨w2.heap.size, 0, none⟩ : Option Addr) = some ⟨g, o, none⟩ ∧ ∀ j u, ([Value.string c] : List Value)[j]? = some u → (w2.alloc (.cells #[.string c] 9)).cell? ⟨g, o + j, none⟩ = some u from fun _ => ⟨w2.heap.size, 0, rfl, fun j u hj => by rw [(Blk.new w2 9 #[.string c]).cell]; simpa using hj⟩); have HN1 := Lib.hid (show w.heap.size ≤ (w2.alloc (.cells #[.string c] 9)).heap.size from by have := hk2.size; simp; omega); clear hown hgr hk2 HOWN0)
      | (have hG := HOWN1; clear hG; at_builtin; refine wpList_append_src rfl _ _ 23 rfl w.heap.size 9 i0 _ 16 Try.underlying23 HI0.out HZ0.out HZ1.out HZ2.out rfl _ i ((xs.take i).map Value.string) rfl HOWN1.out (some ⟨w2.heap.size, 0, none⟩) 1 1 [Value.string c] rfl (fun e => nomatch e) rfl HS1.out (by simp [Value.oneCell']) (by unfold maxLen; omega) (by omega) HN1.out ?_; intro v2 w3 hown hgr; rw [← List.map_singleton, ← List.map_append] at hown; have hk3 := (HK2.out.alloc (.cells #[.string c] 9)).own hgr rfl HOWN1.out; obtain ⟨B2, d2, rfl⟩ := own_slice hown; have HK3 := Lib.hid hk3; have HOWN2 := Lib.hid hown; have HSB3 := Lib.hid (HSB.out.keep hk3); have HN2 := Lib.hid hk3.size; clear hown hgr hk3 HOWN1)
      | (have hG := HOWN2; clear hG; at_builtin; refine wpList_append_src rfl _ _ 23 rfl w.heap.size 9 i0 _ 16 Try.underlying23 HI0.out HZ0.out HZ1.out HZ2.out rfl _ (i + 1) ((xs.take i ++ [c]).map Value.string) rfl HOWN2.out none (n - i) (cap - i) ((xs.drop i).map Value.string) rfl (fun _ => HNB.out) (by rw [List.length_map]; exact HSB.out.1) (cat_src HSB3.out) (texts_one _) (by unfold maxLen; omega) (by omega) HN2.out ?_; intro v3 w4 hown hgr; rw [← List.map_append] at hown; have HK4 := Lib.hid (HK3.out.own hgr rfl HOWN2.out); obtain ⟨B3, d3, rfl⟩ := own_slice hown; have HOWN3 := Lib.hid hown; clear hown hgr HOWN2))
    go_ret
    refine ⟨B3, _, d3, rfl, ?_, own_Sl HOWN3.out ?_, HK4.out⟩
    · omega
    · rw [List.length_append, List.length_append, HSA.out.1, HSB.out.1]
      simp
  · by_cases hck : cap = i
    · subst hck
      have HSA := Lib.hid (show Sl w (some ⟨g, 0, none⟩) cap (xs.take cap) from hS.take cap hi)
      have HSB := Lib.hid (show Sl w (some ⟨g, 0, none⟩) 0 (xs.drop cap) from (by rw [List.drop_eq_nil_of_le (by omega)]; exact Sl.empty _ _))
      clear hS
      go_enter Try.func28, Try.ntmps28
      go_wp2_with (first
        | (have hG := HOWN0; clear hG; at_builtin; refine wpList_append_src rfl _ _ 23 rfl w.heap.size 9 i0 _ 16 Try.underlying23 HI0.out HZ0.out HZ1.out HZ2.out rfl _ 0 [] rfl HOWN0.out (some ⟨g, 0, none⟩) cap cap ((xs.take cap).map Value.string) rfl (fun e => nomatch e) (by rw [List.length_map]; exact HSA.out.1) (cat_src (HSA.out.keep ((Kp.refl NoB w).alloc _))) (texts_one _) (by unfold maxLen; omega) (by omega) HN0.out ?_; intro v1 w2 hown hgr; rw [Nat.zero_add, List.nil_append] at hown; have hk2 := ((Kp.refl NoB w).alloc _).own (v := .slice (some ⟨w.heap.size, 0, none⟩) 0 0) hgr rfl HOWN0.out; obtain ⟨B1, d1, rfl⟩ := own_slice hown; have HK2 := Lib.hid hk2; have HOWN1 := Lib.hid (own_keep hown ((Kp.refl NoB w2).alloc (.cells #[.string c] 9)) (fun _ _ _ q => q)); have HS1 := Lib.hid (show 0 < 1 → ∃ g o, (some ⟨w2.heap.size, 0, none⟩ : Option Addr) = some ⟨g, o, none⟩ ∧ ∀ j u, ([Value.string c] : List Value)[j]? = some u → (w2.alloc (.cells #[.string c] 9)).cell? ⟨g, o + j, none⟩ = some u from fun _ => ⟨w2.heap.size, 0, rfl, fun j u hj => by rw [(Blk.new w2 9 #[.string c]).cell]; simpa using hj⟩); have HN1 := Lib.hid (show w.heap.size ≤ (w2.alloc (.cells #[.string c] 9)).heap.size from by have := hk2.size; simp; omega); clear hown hgr hk2 HOWN0)
        | (have hG := HOWN1; clear hG; at_builtin; refine wpList_append_src rfl _ _ 23 rfl w.heap.size 9 i0 _ 16 Try.underlying23 HI0.out HZ0.out HZ1.out HZ2.out rfl _ cap ((xs.take cap).map Value.string) rfl HOWN1.out (some ⟨w2.heap.size, 0, none⟩) 1 1 [Value.string c] rfl (fun e => nomatch e) rfl HS1.out (by simp [Value.oneCell']) (by unfold maxLen; omega) (by omega) HN1.out ?_; intro v2 w3 hown hgr; rw [← List.map_singleton, ← List.map_append] at hown; have hk3 := (HK2.out.alloc (.cells #[.string c] 9)).own hgr rfl HOWN1.out; obtain ⟨B2, d2, rfl⟩ := own_slice hown; have HK3 := Lib.hid hk3; have HOWN2 := Lib.hid hown; have HSB3 := Lib.hid (HSB.out.keep hk3); have HN2 := Lib.hid hk3.size; clear hown hgr hk3 HOWN1)
        | (have hG := HOWN2; clear hG; at_builtin; refine wpList_append_src rfl _ _ 23 rfl w.heap.size 9 i0 _ 16 Try.underlying23 HI0.out HZ0.out HZ1.out HZ2.out rfl _ (cap + 1) ((xs.take cap ++ [c]).map Value.string) rfl HOWN2.out (some ⟨g, 0, none⟩) 0 0 ((xs.drop cap).map Value.string) rfl (fun e => nomatch e) (by rw [List.length_map]; exact HSB.out.1) (cat_src HSB3.out) (texts_one _) (by unfold maxLen; omega) (by omega) HN2.out ?_; intro v3 w4 hown hgr; rw [← List.map_append] at hown; have HK4 := Lib.hid (HK3.out.own hgr rfl HOWN2.out); obtain ⟨B3, d3, rfl⟩ := own_slice hown; have HOWN3 := Lib.hid hown; clear hown hgr HOWN2))
      go_ret
      refine ⟨B3, _, d3, rfl, ?_, own_Sl HOWN3.out ?_, HK4.out⟩
      · omega
      · rw [List.length_append, List.length_append, HSA.out.1, HSB.out.1]
        simp
    · have HSA := Lib.hid (show Sl w (some ⟨g, 0, none⟩) i (xs.take i) from hS.take i hi)
      have HSB := Lib.hid (show Sl w (some ⟨g, i, none⟩) (n - i) (xs.drop i) from (by have := hS.drop i hi; rwa [Nat.zero_add] at this))
      clear hS
      go_enter Try.func28, Try.ntmps28
      go_wp2_with (first
        | (have hG := HOWN0; clear hG; at_builtin; refine wpList_append_src rfl _ _ 23 rfl w.heap.size 9 i0 _ 16 Try.underlying23 HI0.out HZ0.out HZ1.out HZ2.out rfl _ 0 [] rfl HOWN0.out (some ⟨g, 0, none⟩) i cap ((xs.take i).map Value.string) rfl (fun e => nomatch e) (by rw [List.length_map]; exact HSA.out.1) (cat_src (HSA.out.keep ((Kp.refl NoB w).alloc _))) (texts_one _) (by unfold maxLen; omega) (by omega) HN0.out ?_; intro v1 w2 hown hgr; rw [Nat.zero_add, List.nil_append] at hown; have hk2 := ((Kp.refl NoB w).alloc _).own (v := .slice (some ⟨w.heap.size, 0, none⟩) 0 0) hgr rfl HOWN0.out; obtain ⟨B1, d1, rfl⟩ := own_slice hown; have HK2 := Lib.hid hk2; have HOWN1 := Lib.hid (own_keep hown ((Kp.refl NoB w2).alloc (.cells #[.string c] 9)) (fun _ _ _ q => q)); have HS1 := Lib.hid (show 0 < 1 → ∃ g o, (some ⟨w2.heap.size, 0, none⟩ : Option Addr) = some ⟨g, o, none⟩ ∧ ∀ j u, ([Value.string c] : List Value)[j]? = some u → (w2.alloc (.cells #[.string c] 9)).cell? ⟨g, o + j, none⟩ = some u from fun _ => ⟨w2.heap.size, 0, rfl, fun j u hj => by rw [(Blk.new w2 9 #[.string c]).cell]; simpa using hj⟩); have HN1 := Lib.hid (show w.heap.size ≤ (w2.alloc (.cells #[.string c] 9)).heap.size from by have := hk2.size; simp; omega); clear hown hgr hk2 HOWN0)
        | (have hG := HOWN1; clear hG; at_builtin; refine wpList_append_src rfl _ _ 23 rfl w.heap.size 9 i0 _ 16 Try.underlying23 HI0.out HZ0.out HZ1.out HZ2.out rfl _ i ((xs.take i).map Value.string) rfl HOWN1.out (some ⟨w2.heap.size, 0, none⟩) 1 1 [Value.string c] rfl (fun e => nomatch e) rfl HS1.out (by simp [Value.oneCell']) (by unfold maxLen; omega) (by omega) HN1.out ?_; intro v2 w3 hown hgr; rw [← List.map_singleton, ← List.map_append] at hown; have hk3 := (HK2.out.alloc (.cells #[.string c] 9)).own hgr rfl HOWN1.out; obtain ⟨B2, d2, rfl⟩ := own_slice hown; have HK3 := Lib.hid hk3; have HOWN2 := Lib.hid hown; have HSB3 := Lib.hid (HSB.out.keep hk3); have HN2 := Lib.hid hk3.size; clear hown hgr hk3 HOWN1)
        | (have hG := HOWN2; clear hG; at_builtin; refine wpList_append_src rfl _ _ 23 rfl w.heap.size 9 i0 _ 16 Try.underlying23 HI0.out HZ0.out HZ1.out HZ2.out rfl _ (i + 1) ((xs.take i ++ [c]).map Value.string) rfl HOWN2.out (some ⟨g, i, none⟩) (n - i) (cap - i) ((xs.drop i).map Value.string) rfl (fun e => nomatch e) (by rw [List.length_map]; exact HSB.out.1) (cat_src HSB3.out) (texts_one _) (by unfold maxLen; omega) (by omega) HN2.out ?_; intro v3 w4 hown hgr; rw [← List.map_append] at hown; have HK4 := Lib.hid (HK3.out.own hgr rfl HOWN2.out); obtain ⟨B3, d3, rfl⟩ := own_slice hown; have HOWN3 := Lib.hid hown; clear hown hgr HOWN2))
      go_ret
      refine ⟨B3, _, d3, rfl, ?_, own_Sl HOWN3.out ?_, HK4.out⟩
      · omega
      · rw [List.length_append, List.length_append, HSA.out.1, HSB.out.1]
        simp
set_option maxRecDepth 100000 in
set_option maxHeartbeats 4000000 in
theorem out_ok (w : World) (A : Option Addr) (n cap i : Nat) (xs : List ByteArray) (hi : i < n) (hn : n ≤ 1000) (hcap : n ≤ cap) (hform : (A = none ∧ n = 0 ∧ cap = 0) ∨ ∃ g, A = some ⟨g, 0, none⟩) (hS : Sl w A n xs) :
    Calls Try.prog 27 #[.slice A n cap, .int .i64 i] w fun e w' => ∃ C m cc, e = .returned (.slice C m cc) ∧ m = n - 1 ∧ Sl w' C m (xs.take i ++ xs.drop (i + 1)) ∧ Kp NoB w w' := by
  obtain ⟨i0, hi0, hz0, hz1, hz2⟩ := info_parts infoStr
  have HI0 := Lib.hid hi0
  have HZ0 := Lib.hid hz0
  have HZ1 := Lib.hid hz1
  have HZ2 := Lib.hid hz2
  clear hi0 hz0 hz1 hz2
  have HOWN0 : Hid ((w.alloc (.cells #[] 9)).ownsRow w.heap.size 9 1 (.slice (some ⟨w.heap.size, 0, none⟩) 0 0) 0 []) := Lib.hid ⟨rfl, .inr ⟨w.heap.size, 0, #[], rfl, Nat.le_refl _, heap_alloc_new _ _, Nat.le_refl _, by simp, rfl, rfl⟩⟩
  have HN0 : Hid (w.heap.size ≤ (w.alloc (.cells #[] 9)).heap.size) := Lib.hid (by simp)
  have hii : (i : Int) ≤ (n : Int) := by omega
  have hic : (i : Int) ≤ (cap : Int) := by omega
  have hi0 : (0 : Int) ≤ (i : Int) := by omega
  have hi1 : (0 : Int) ≤ ((i + 1 : Nat) : Int) := by omega
  have hi2 : ((i + 1 : Nat) : Int) ≤ (n : Int) := by omega
  have hw1 : IntKind.i64.wrap ((i : Int) + 1) = ((i + 1 : Nat) : Int) := by rw [IntKind.wrap_i64]; omega
  have hxl := hS.1
  rcases hform with ⟨rfl, hn0, hcap0⟩ | ⟨g, rfl⟩
  · omega
  · by_cases hck : cap = i + 1
    · have hnc : n = cap := by omega
      subst hnc
      subst hck
      have HSA := Lib.hid (show Sl w (some ⟨g, 0, none⟩) i (xs.take i) from hS.take i (by omega))
      have HSB := Lib.hid (show Sl w (some ⟨g, 0, none⟩) 0 (xs.drop (i + 1)) from (by rw [List.drop_eq_nil_of_le (by omega)]; exact Sl.empty _ _))
      clear hS
      go_enter Try.func27, Try.ntmps27
      go_wp2_with (first
        | (have hG := HOWN0; clear hG; at_builtin; refine wpList_append_src rfl _ _ 23 rfl w.heap.size 9 i0 _ 16 Try.underlying23 HI0.out HZ0.out HZ1.out HZ2.out rfl _ 0 [] rfl HOWN0.out (some ⟨g, 0, none⟩) i (i + 1) ((xs.take i).map Value.string) rfl (fun e => nomatch e) (by rw [List.length_map]; exact HSA.out.1) (cat_src (HSA.out.keep ((Kp.refl NoB w).alloc _))) (texts_one _) (by unfold maxLen; omega) (by omega) HN0.out ?_; intro v1 w2 hown hgr; rw [Nat.zero_add, List.nil_append] at hown; have hk2 := ((Kp.refl NoB w).alloc _).own (v := .slice (some ⟨w.heap.size, 0, none⟩) 0 0) hgr rfl HOWN0.out; obtain ⟨B1, d1, rfl⟩ := own_slice hown; have HK2 := Lib.hid hk2; have HOWN1 := Lib.hid hown; have HSB2 := Lib.hid (HSB.out.keep hk2); have HN1 := Lib.hid hk2.size; clear hown hgr hk2 HOWN0)
        | (have hG := HOWN1; clear hG; at_builtin; refine wpList_append_src rfl _ _ 23 rfl w.heap.size 9 i0 _ 16 Try.underlying23 HI0.out HZ0.out HZ1.out HZ2.out rfl _ i ((xs.take i).map Value.string) rfl HOWN1.out (some ⟨g, 0, none⟩) 0 0 ((xs.drop (i + 1)).map Value.string) rfl (fun e => nomatch e) (by rw [List.length_map]; exact HSB.out.1) (cat_src HSB2.out) (texts_one _) (by unfold maxLen; omega) (by omega) HN1.out ?_; intro v3 w4 hown hgr; rw [← List.map_append] at hown; have HK4 := Lib.hid (HK2.out.own hgr rfl HOWN1.out); obtain ⟨B3, d3, rfl⟩ := own_slice hown; have HOWN3 := Lib.hid hown; clear hown hgr HOWN1))
      go_ret
      refine ⟨B3, _, d3, rfl, ?_, own_Sl HOWN3.out ?_, HK4.out⟩
      · omega
      · have h1 := HSA.out.1
        have h2 := HSB.out.1
        rw [List.length_append]
        omega
    · have HSA := Lib.hid (show Sl w (some ⟨g, 0, none⟩) i (xs.take i) from hS.take i (by omega))
      have HSB := Lib.hid (show Sl w (some ⟨g, i + 1, none⟩) (n - (i + 1)) (xs.drop (i + 1)) from (by have := hS.drop (i + 1) (by omega); rwa [Nat.zero_add] at this))
      clear hS
      go_enter Try.func27, Try.ntmps27
      go_wp2_with (first
        | (have hG := HOWN0; clear hG; at_builtin; refine wpList_append_src rfl _ _ 23 rfl w.heap.size 9 i0 _ 16 Try.underlying23 HI0.out HZ0.out HZ1.out HZ2.out rfl _ 0 [] rfl HOWN0.out (some ⟨g, 0, none⟩) i cap ((xs.take i).map Value.string) rfl (fun e => nomatch e) (by rw [List.length_map]; exact HSA.out.1) (cat_src (HSA.out.keep ((Kp.refl NoB w).alloc _))) (texts_one _) (by unfold maxLen; omega) (by omega) HN0.out ?_; intro v1 w2 hown hgr; rw [Nat.zero_add, List.nil_append] at hown; have hk2 := ((Kp.refl NoB w).alloc _).own (v := .slice (some ⟨w.heap.size, 0, none⟩) 0 0) hgr rfl HOWN0.out; obtain ⟨B1, d1, rfl⟩ := own_slice hown; have HK2 := Lib.hid hk2; have HOWN1 := Lib.hid hown; have HSB2 := Lib.hid (HSB.out.keep hk2); have HN1 := Lib.hid hk2.size; clear hown hgr hk2 HOWN0)
        | (have hG := HOWN1; clear hG; at_builtin; refine wpList_append_src rfl _ _ 23 rfl w.heap.size 9 i0 _ 16 Try.underlying23 HI0.out HZ0.out HZ1.out HZ2.out rfl _ i ((xs.take i).map Value.string) rfl HOWN1.out (some ⟨g, i + 1, none⟩) (n - (i + 1)) (cap - (i + 1)) ((xs.drop (i + 1)).map Value.string) rfl (fun e => nomatch e) (by rw [List.length_map]; exact HSB.out.1) (cat_src HSB2.out) (texts_one _) (by unfold maxLen; omega) (by omega) HN1.out ?_; intro v3 w4 hown hgr; rw [← List.map_append] at hown; have HK4 := Lib.hid (HK2.out.own hgr rfl HOWN1.out); obtain ⟨B3, d3, rfl⟩ := own_slice hown; have HOWN3 := Lib.hid hown; clear hown hgr HOWN1))
      go_ret
      refine ⟨B3, _, d3, rfl, ?_, own_Sl HOWN3.out ?_, HK4.out⟩
      · omega
      · have h1 := HSA.out.1
        have h2 := HSB.out.1
        rw [List.length_append]
        omega
end Go.Proofs.Ytnleoeogcinadaa
