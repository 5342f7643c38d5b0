/- slices.Grow of the nil slice, slices.Concat of two slices of texts; condition: at most 4000 together. -/
import Derived.Test.YtnleoeogcinadaaPgPlain
import Derived.Test.YtnleoeogcinadaaOwnB
import Derived.Test.YtnleoeogcinadaaSrc
import Derived.Lib.AppendZeros
import Derived.LoopN
namespace Go.Proofs.Ytnleoeogcinadaa
open Go.RowKit

theorem zeros_size (z : Array Value) (h : z.size = 1) (n : Nat) : (Builtin.zeroCells z n).size = n := by
  unfold Builtin.zeroCells
  simp [h]
def GrowPost (w : World) (e : Ending) (w' : World) : Prop := ∃ C cc, e = .returned (.slice C 0 cc) ∧ w'.ownsRow w.heap.size 9 1 (.slice C 0 cc) 0 [] ∧ Kp NoB w w'
set_option maxRecDepth 100000 in
set_option maxHeartbeats 1600000 in
theorem grow_ok (w : World) (n : Nat) (hn : n ≤ 4000) : Calls Try.prog 40 #[.slice none 0 0, .int .i64 n] w (GrowPost w) := by
  obtain ⟨i0, hi0, hz0, hz1, hz2⟩ := info_parts infoStr
  have h1 : ¬ ((n : Int) < 0) := by omega
  have h3 : IntKind.i64.wrap (n : Int) = n := by rw [IntKind.wrap_i64]; omega
  rcases Nat.eq_zero_or_pos n with rfl | hp
  · go_enter Try.func40, Try.ntmps40
    go_wp2_with fail
    go_ret
    exact ⟨_, _, rfl, ⟨rfl, .inl ⟨rfl, rfl⟩⟩, Kp.refl _ _⟩
  · have h4 : (0 : Int) < n := by omega
    have hG := grownCap_ge w n 0 9
    have hGm := grownCap_le_maxLen w n 0 9 (by unfold maxLen; omega)
    have hr : ∀ ty, (Builtin.append_ #[23, 3] ty #[.slice none 0 0, .int .i64 n]).run Try.prog w = .ok (.slice (some ⟨w.heap.size, 0, none⟩) n (grownCap w n 0 9)) (w.drew.alloc (.cells (Builtin.zeroCells (Value.string ByteArray.empty).cells n ++ Builtin.zeroCells (Value.string ByteArray.empty).cells (grownCap w n 0 9 - n)) 9)) := fun ty =>
      Lib.run_append_nil_zeros w _ _ ty _ i0 _ .i64 .i64 Try.underlying23 Try.underlying3 hi0 hz0 n hp (by omega) (by omega) (by rw [hz2]; omega)
    obtain ⟨G, hGe⟩ : ∃ G, grownCap w n 0 9 = G := ⟨_, rfl⟩
    rw [hGe] at hr hG hGm
    have HR := Lib.hid hr
    have HGM := Lib.hid hGm
    have hGi : (0 : Int) ≤ G := by omega
    clear hr hi0 hz0 hz1 hz2 hGe hGm
    go_enter Try.func40, Try.ntmps40
    go_wp2_with (at_builtin; refine Lib.wpList_append_run _ rfl _ _ _ _ rfl _ _ rfl rfl _ _ (HR.out _) ?_)
    all_goals go_ret
    all_goals
      refine ⟨_, _, rfl, ⟨rfl, .inr ⟨w.heap.size, G, _, rfl, Nat.le_refl _, heap_alloc_new w.drew _, Nat.zero_le _, HGM.out, ?_, rfl⟩⟩, ((Kp.refl _ _).drew).alloc _⟩
      rw [Array.size_append, zeros_size _ rfl, zeros_size _ rfl]
      omega

theorem cat_src {w : World} {A : Option Addr} {n : Nat} {xs : List ByteArray} (h : Sl w A n xs) : 0 < n → ∃ g o, A = some ⟨g, o, none⟩ ∧ ∀ j u, (xs.map Value.string)[j]? = some u → w.cell? ⟨g, o + j, none⟩ = some u := by
  intro hn
  obtain ⟨g, o, e, hg, hc⟩ := h.2 hn
  refine ⟨g, o, e, fun j u hj => ?_⟩
  rw [List.getElem?_map] at hj
  have hjn : j < xs.length := by
    rcases Nat.lt_or_ge j xs.length with q | q
    · exact q
    · rw [List.getElem?_eq_none q] at hj; cases hj
  rw [hc j (by rw [← h.1]; exact hjn)]
  rw [List.getElem?_eq_getElem hjn] at hj
  simpa [hjn] using hj
def CatPost (w : World) (k : Nat) (zs : List ByteArray) (e : Ending) (w' : World) : Prop := ∃ C cc, e = .returned (.slice C k cc) ∧ Sl w' C k zs ∧ Kp NoB w w'
theorem texts_one (xs : List ByteArray) : ∀ u ∈ xs.map Value.string, u.oneCell' = true := by simp [Value.oneCell']
set_option maxRecDepth 100000 in
set_option maxHeartbeats 4000000 in
theorem concat_ok (w : World) (g cap : Nat) (A B : Option Addr) (n ca m cb : Nat) (xs ys : List ByteArray) (c0 : w.cell? ⟨g, 0, none⟩ = some (.slice A n ca)) (c1 : w.cell? ⟨g, 1, none⟩ = some (.slice B m cb))
    (hA : A = none → n = 0 ∧ ca = 0) (hB : B = none → m = 0 ∧ cb = 0) (hn : n ≤ 1000) (hm : m ≤ 1000) (SA : Sl w A n xs) (SB : Sl w B m ys) :
    Calls Try.prog 35 #[.slice (some ⟨g, 0, none⟩) 2 cap] w (CatPost w (n + m) (xs ++ ys)) := by
  have hg : g < w.heap.size := World.block_lt_of_cell? w _ c0
  have h1 : (0 : Int) ≤ n := by omega
  have h2 : (0 : Int) ≤ (n : Int) + m := by omega
  have h3 : IntKind.i64.wrap (n : Int) = n := by rw [IntKind.wrap_i64]; omega
  have h4 : IntKind.i64.wrap ((n : Int) + m) = (n : Int) + m := by rw [IntKind.wrap_i64]; omega
  have HA := Lib.hid hA
  have HB := Lib.hid hB
  have HSA := Lib.hid SA
  have HSB := Lib.hid SB
  obtain ⟨i0, hi0, hz0, hz1, hz2⟩ := info_parts infoStr
  have HI0 := Lib.hid hi0
  have HZ0 := Lib.hid hz0
  have HZ1 := Lib.hid hz1
  have HZ2 := Lib.hid hz2
  clear hA hB SA SB hi0 hz0 hz1 hz2
  go_enter Try.func35, Try.ntmps35
  go_wp2_with fail
  refine wp_loop_rounds 3 ?_
  rw [rounds_succ]; go_wp2_with fail
  rw [rounds_succ]; go_wp2_with fail
  rw [rounds_succ]
  go_wp2_with (go_at_call 40; go_must (refine (show Calls _ _ _ w _ from by rw [← Int.natCast_add]; exact grow_ok w (n + m) (by omega)).mono ?_); rintro e w1 ⟨G, gc, rfl, hown, hk⟩; have HOWN := Lib.hid hown; have HK := Lib.hid hk; have c0' := (hk.cell hg (fun q => q)).trans c0; have c1' := (hk.cell hg (fun q => q)).trans c1; have HSA1 := Lib.hid (HSA.out.keep hk); clear hown hk)
  obtain ⟨v0, hv0⟩ : ∃ v, Value.slice G 0 gc = v := ⟨_, rfl⟩
  rw [hv0] at HOWN ⊢
  clear hv0
  refine wp_loop_rounds 3 ?_
  rw [rounds_succ]
  go_wp2_with (at_builtin; refine wpList_append_src rfl _ _ 23 rfl w.heap.size 9 i0 _ 16 Try.underlying23 HI0.out HZ0.out HZ1.out HZ2.out rfl _ 0 [] rfl HOWN.out A n ca (xs.map Value.string) rfl HA.out (by rw [List.length_map]; exact HSA1.out.1) (cat_src HSA1.out) (texts_one xs) (by unfold maxLen; omega) (by omega) HK.out.size ?_; intro v1 w2 hown1 hgr1; rw [Nat.zero_add, List.nil_append] at hown1; have hk2 := HK.out.own hgr1 rfl HOWN.out; have HK2 := Lib.hid hk2; have HOWN1 := Lib.hid hown1; have HSB2 := Lib.hid (HSB.out.keep hk2); have c1'' := (hk2.cell hg (fun q => q)).trans c1; clear hown1 hgr1 hk2)
  rw [rounds_succ]
  go_wp2_with (at_builtin; refine wpList_append_src rfl _ _ 23 rfl w.heap.size 9 i0 _ 16 Try.underlying23 HI0.out HZ0.out HZ1.out HZ2.out rfl _ n _ rfl HOWN1.out B m cb (ys.map Value.string) rfl HB.out (by rw [List.length_map]; exact HSB2.out.1) (cat_src HSB2.out) (texts_one ys) (by unfold maxLen; omega) (by omega) HK2.out.size ?_; intro v2 w3 hown2 hgr2; rw [← List.map_append] at hown2; have HK3 := Lib.hid (HK2.out.own hgr2 rfl HOWN1.out); have HOWN2 := Lib.hid hown2; clear hown2 hgr2)
  rw [rounds_succ]
  go_wp2_with fail
  go_ret
  obtain ⟨C, cc, rfl⟩ := own_slice HOWN2.out
  exact ⟨C, cc, rfl, own_Sl HOWN2.out (by rw [List.length_append, HSA.out.1, HSB.out.1]), HK3.out⟩
end Go.Proofs.Ytnleoeogcinadaa
