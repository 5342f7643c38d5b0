/- slices.Delete of one text of a slice of the call's own; condition: at most 1000 texts. -/
import Derived.Test.YtnleoeogcinadaaPgIns
namespace Go.Proofs.Ytnleoeogcinadaa
open Go.RowKit Go.Lib Go.Sort

theorem strs_of (xs : List ByteArray) (n : Nat) (h : xs.length = n) : Lib.strsOf (fun j => xs.getD j ByteArray.empty) n = xs.map fun s => s.data.toList := by
  apply List.ext_getElem?
  intro j
  unfold Lib.strsOf
  rw [List.getElem?_map, List.getElem?_map]
  rcases Nat.lt_or_ge j n with q | q
  · rw [List.getElem?_range q]
    have hj : j < xs.length := by omega
    simp [hj]
  · rw [List.getElem?_eq_none (by simp; omega), List.getElem?_eq_none (by omega)]
    rfl
theorem enc_str (s : ByteArray) : encStr s.data.toList = Value.string s := by
  unfold encStr
  congr
theorem del_ok (w : World) (base : Nat) (g n cap i : Nat) (xs : List ByteArray) (hi : i < n)
    (ho : w.ownsRow base 9 1 (.slice (some ⟨g, 0, none⟩) n cap) n (xs.map Value.string)) :
    Calls Try.prog 37 #[.slice (some ⟨g, 0, none⟩) n cap, .int .i64 i, .int .i64 (i + 1 : Nat)] w (InsPost w (.slice (some ⟨g, 0, none⟩) n cap) (n - 1) (xs.take i ++ xs.drop (i + 1))) := by
  have hxl : xs.length = n := by have := ho.1; simpa using this
  rcases ho.2 with ⟨h0, hn0⟩ | ⟨g', cap', cur, hv, hb, hh, h1, hm, h2, h3⟩
  · cases h0
  · simp only [Value.slice.injEq, Option.some.injEq, Addr.mk.injEq] at hv
    obtain ⟨⟨rfl, -, -⟩, _, rfl⟩ := hv
    rw [Nat.mul_one] at h2 h3
    have hB : Blk w g 9 cur := hh
    obtain ⟨rest, hrest⟩ : ∃ r, cur.toList.drop n = r := ⟨_, rfl⟩
    have hcur : cur = (xs.map Value.string ++ rest).toArray := by
      rw [← hrest, ← h3, List.take_append_drop]
    subst hcur
    have hc : ∀ j, j < n → w.cell? ⟨g, 0 + j, none⟩ = some (.string (xs.getD j ByteArray.empty)) := fun j hj => by
      rw [hB.cell, Nat.zero_add]
      have : j < xs.length := by omega
      simp [List.getElem?_append_left, this]
    refine (Any.slices_Delete_string_cells lays24 g 0 n cap i (i + 1) (fun j => xs.getD j ByteArray.empty) w h1 (by unfold maxLen at hm; exact hm) (by omega) (by omega) hc (fun j _ => hB.frozen _)).mono ?_
    rintro e w' ⟨rfl, q, rfl⟩
    rw [strs_of xs n hxl, show i + 1 - i = 1 by omega]
    refine ⟨_, _, rfl, Kp.setCells (S := fun k => (Value.slice (some ⟨g, 0, none⟩) n cap).ownBlock = some k) (g := g) (.inr rfl) _ _ _ ((Kp.refl _ w).drewN q), sl_of_blk (ds := Value.string ⟨#[]⟩ :: rest) ?_ (by simp; omega)⟩
    have hB1 : Blk (w.drewN q) g 9 ([] ++ xs.map Value.string ++ rest).toArray := (blk_conv hB (by simp)).drewN q
    refine blk_conv (hB1.cellsL 0 rfl ?_) ?_
    · simp
      omega
    · simp [enc_str, List.map_take, List.map_drop, Function.comp_def, encStr]
end Go.Proofs.Ytnleoeogcinadaa
