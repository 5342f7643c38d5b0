/- slices.Insert of one text into a slice of the call's own; condition: at most 1000 texts. -/
import Derived.Test.YtnleoeogcinadaaShelf
import Derived.Test.YtnleoeogcinadaaPgPlain
import Derived.Test.YtnleoeogcinadaaPgCat
import Derived.Test.YtnleoeogcinadaaOwnB
import Derived.Shelf.Spec.SlicesInsert
import Derived.Shelf.Spec.SlicesInsertGrow
namespace Go.Proofs.Ytnleoeogcinadaa
open Go.RowKit

def InsPost (w : World) (v : Value) (n : Nat) (ys : List ByteArray) (e : Ending) (w' : World) : Prop :=
  ∃ C cc, e = .returned (.slice C n cc) ∧ Kp (fun k => v.ownBlock = some k) w w' ∧ Sl w' C n ys
theorem blk_conv {w : World} {g : Nat} {t : TypeId} {a b : Array Value} (h : Blk w g t a) (e : a = b) : Blk w g t b := e ▸ h
theorem sl_of_blk {w : World} {g n : Nat} {ys : List ByteArray} {ds : List Value} (h : Blk w g 9 (ys.map Value.string ++ ds).toArray) (hl : ys.length = n) : Sl w (some ⟨g, 0, none⟩) n ys := by
  refine ⟨hl, fun hn => ⟨g, 0, rfl, h.lt, fun k hk => ?_⟩⟩
  rw [h.cell]
  have : k < ys.length := by omega
  simp [List.getElem?_append_left, this]
theorem ins_ok (w : World) (base : Nat) (A : Option Addr) (n cap i : Nat) (xs : List ByteArray) (c : ByteArray) (vb : Nat) (hvb : Blk w vb 9 #[.string c]) (hi : i ≤ n) (hn : n ≤ 1000)
    (ho : w.ownsRow base 9 1 (.slice A n cap) n (xs.map Value.string)) (hne : ∀ g, A = some ⟨g, 0, none⟩ → g ≠ vb) :
    Calls Try.prog 36 #[.slice A n cap, .int .i64 i, .slice (some ⟨vb, 0, none⟩) 1 1] w (InsPost w (.slice A n cap) (n + 1) (xs.take i ++ [c] ++ xs.drop i)) := by
  have hvs : ∀ (j : Nat) (v : Value), ([Value.string c] : List Value)[j]? = some v → w.cell? ⟨vb, 0 + j, none⟩ = some v := fun j v hj => by rw [hvb.cell]; simpa using hj
  have h1v : ∀ v ∈ ([Value.string c] : List Value), v.oneCell' = true := by simp [Value.oneCell']
  have hxl : xs.length = n := by have := ho.1; simpa using this
  rcases ho.2 with ⟨h0, hn0⟩ | ⟨g, cap', cur, hv, hb, hh, h1, hm, h2, h3⟩
  · injection h0 with e1 e2 e3
    subst e1 e3
    obtain rfl : i = 0 := by omega
    subst hn0
    have h := Any2.slices_Insert_string_end_grow lays22 none 0 0 vb 0 1 1 [] [Value.string c] w (by omega) (by omega) (by omega) (by omega) rfl rfl (fun _ => rfl) (fun a e => nomatch e) hvs h1v
    refine h.mono ?_
    rintro e w' ⟨rfl, rfl⟩
    refine ⟨_, _, rfl, ((Kp.refl _ w).drew).alloc _, ?_⟩
    obtain rfl : xs = [] := List.eq_nil_of_length_eq_zero hxl
    refine sl_of_blk (ds := (Builtin.zeroCells (Value.string ⟨#[]⟩).cells (grownCap w (0 + 1) 0 (lays22_ren.t 9) - (0 + 1))).toList) (blk_conv (Blk.new w.drew _ _) ?_) rfl
    simp
  · simp only [Value.slice.injEq] at hv
    obtain ⟨rfl, _, rfl⟩ := hv
    rw [Nat.mul_one] at h2 h3
    have hB : Blk w g 9 cur := hh
    obtain ⟨rest, hrest⟩ : ∃ r, cur.toList.drop n = r := ⟨_, rfl⟩
    have hcur : cur = (xs.map Value.string ++ rest).toArray := by
      rw [← hrest, ← h3, List.take_append_drop]
    have hrl : rest.length = cap - n := by rw [← hrest, List.length_drop]; simp [h2]
    subst hcur
    clear h3 hrest hh
    have hcl : (xs.map Value.string).length = n := by rw [List.length_map, hxl]
    have h1c : ∀ v ∈ xs.map Value.string, v.oneCell' = true := by simp [Value.oneCell']
    have hcs : ∀ (j : Nat) (v : Value), (xs.map Value.string)[j]? = some v → w.cell? ⟨g, 0 + j, none⟩ = some v := fun j v hj => by
      rw [hB.cell, Nat.zero_add]
      have hj' : j < (xs.map Value.string).length := (List.getElem?_eq_some_iff.1 hj).1
      rw [List.getElem?_toArray, List.getElem?_append_left hj', hj]
    have hc63 : cap ≤ 9223372036854775807 := by unfold maxLen at hm; exact hm
    have hng : g ≠ vb := hne g rfl
    obtain ⟨cs, hcsE⟩ : ∃ cs, xs.map Value.string = cs := ⟨_, rfl⟩
    have hres : (xs.take i ++ [c] ++ xs.drop i).map Value.string = cs.take i ++ [Value.string c] ++ cs.drop i := by rw [← hcsE]; simp [List.map_take, List.map_drop]
    have hrlen : (xs.take i ++ [c] ++ xs.drop i).length = n + 1 := by simp; omega
    rw [hcsE] at hB hcl h1c hcs
    by_cases hroom : n + 1 ≤ cap
    · obtain ⟨r0, rs, rfl⟩ : ∃ r0 rs, rest = r0 :: rs := by
        cases rest with
        | nil => simp at hrl; omega
        | cons a b => exact ⟨a, b, rfl⟩
      have hrl2 : rs.length + 1 = cap - n := by simpa using hrl
      have hcell : ∀ j, j < n + 1 → (w.cell? ⟨g, 0 + j, none⟩).isSome = true := fun j hj => by
        rw [hB.cell, Nat.zero_add]
        simp
        omega
      by_cases hin : i = n
      · subst hin
        refine (Any2.slices_Insert_string_end_room lays22 g 0 i cap vb 0 1 1 [Value.string c] w (by omega) hroom hc63 rfl (fun j hj => by rw [Nat.zero_add]; have := hcell (i + j) (by omega); rwa [Nat.zero_add] at this) (fun j _ => hB.frozen _) hvs h1v).mono ?_
        rintro e w' ⟨rfl, rfl⟩
        refine ⟨_, _, rfl, Kp.setCells (S := fun k => (Value.slice (some ⟨g, 0, none⟩) i cap).ownBlock = some k) (g := g) (.inr rfl) _ _ _ (Kp.refl _ w), sl_of_blk (ds := rs) ?_ hrlen⟩
        rw [hres, Nat.zero_add]
        have hB' : Blk w g 9 (cs ++ [r0] ++ rs).toArray := blk_conv hB (by simp)
        refine blk_conv (hB'.cellsL (xs := [Value.string c]) i hcl rfl) ?_
        rw [List.take_of_length_le (by omega), List.drop_eq_nil_of_le (by omega)]
        simp
      · refine (Any2.slices_Insert_string_shift lays22 g 0 n cap i vb 0 1 1 cs [Value.string c] w (by omega) (by omega) hroom hc63 (Ne.symm hng) hcl rfl hcs hcell (fun j _ => hB.frozen _) hvs h1c h1v 9 9 1 cap (by unfold World.shape?; rw [show w.heap[vb]? = _ from hvb]; rfl) (by unfold World.shape?; rw [show w.heap[g]? = _ from hB]; simp; omega) (by omega) (hvb.frozen _) (hvb.frozen _)).mono ?_
        rintro e w' ⟨rfl, rfl⟩
        refine ⟨_, _, rfl, Kp.setCells (S := fun k => (Value.slice (some ⟨g, 0, none⟩) n cap).ownBlock = some k) (g := g) (.inr rfl) _ _ _ (Kp.setCells (S := fun k => (Value.slice (some ⟨g, 0, none⟩) n cap).ownBlock = some k) (g := g) (.inr rfl) _ _ _ (Kp.refl _ w).drew), sl_of_blk (ds := rs) ?_ hrlen⟩
        rw [hres, Nat.zero_add, Nat.zero_add]
        have hilt : i < cs.length := by omega
        have hB1 : Blk w.drew g 9 (cs.take (i + 1) ++ (cs.drop (i + 1) ++ [r0]) ++ rs).toArray := blk_conv hB.drew (by rw [← List.append_assoc, List.take_append_drop]; simp)
        have hB2 := hB1.cellsL (xs := cs.drop i) (i + 1) (by rw [List.length_take]; omega) (by simp; omega)
        have hB3 : Blk _ g 9 (cs.take i ++ [cs[i]] ++ (cs.drop i ++ rs)).toArray := blk_conv hB2 (by rw [List.take_succ_eq_append_getElem hilt]; simp)
        refine blk_conv (hB3.cellsL (xs := [Value.string c]) i (by rw [List.length_take]; omega) rfl) ?_
        simp
    · obtain rfl : cap = n := by omega
      obtain rfl : rest = [] := List.eq_nil_of_length_eq_zero (by omega)
      by_cases hin : i = cap
      · subst hin
        refine (Any2.slices_Insert_string_end_grow lays22 (some ⟨g, 0, none⟩) i i vb 0 1 1 cs [Value.string c] w (by omega) (by omega) (by omega) (by omega) hcl rfl (fun e => nomatch e) (fun a e j v hj => by cases e; rw [add_mk]; exact hcs j v hj) hvs h1v).mono ?_
        rintro e w' ⟨rfl, rfl⟩
        refine ⟨_, _, rfl, ((Kp.refl _ w).drew).alloc _, sl_of_blk (ds := (Builtin.zeroCells (Value.string ⟨#[]⟩).cells (grownCap w (i + 1) i (lays22_ren.t 9) - (i + 1))).toList) (blk_conv (Blk.new w.drew _ _) ?_) hrlen⟩
        rw [hres, List.take_of_length_le (by omega), List.drop_eq_nil_of_le (by omega)]
        simp
      · refine (Any2.slices_Insert_string_grow lays22 g 0 cap cap i vb 0 1 1 cs [Value.string c] w (by omega) (by omega) (by omega) (by omega) (by omega) hcl rfl hcs hvs h1c h1v).mono ?_
        rintro e w' ⟨rfl, rfl⟩
        have hge := hB.lt
        refine ⟨_, _, rfl, Kp.setCells (.inl (Nat.le_refl _)) _ _ _ ((Kp.setCells (.inl (Nat.le_refl _)) _ _ _ (((Kp.refl _ w).alloc _).drew)).drew), ?_⟩
        obtain ⟨Z2, hZ2⟩ : ∃ Z, Builtin.zeroCells (Value.string ⟨#[]⟩).cells (grownCap w (cap + 1) cap (lays22_ren.t 9) - (cap + 1)) = Z := ⟨_, rfl⟩
        have hZ1 : (Builtin.zeroCells (Value.string ⟨#[]⟩).cells (cap + 1 - i)).size = cap + 1 - i := zeros_size _ rfl _
        obtain ⟨Z1, hZ1e⟩ : ∃ Z, Builtin.zeroCells (Value.string ⟨#[]⟩).cells (cap + 1 - i) = Z := ⟨_, rfl⟩
        rw [hZ1e] at hZ1 ⊢
        rw [hZ2]
        obtain ⟨z0, zs, hzs⟩ : ∃ z0 zs, Z1.toList = z0 :: zs := by
          cases hz : Z1.toList with
          | nil => have := congrArg List.length hz; rw [Array.length_toList, List.length_nil] at this; omega
          | cons a b => exact ⟨a, b, rfl⟩
        have hzl : zs.length = cap - i := by have := congrArg List.length hzs; rw [Array.length_toList, List.length_cons] at this; omega
        refine sl_of_blk (ds := Z2.toList) ?_ hrlen
        rw [hres]
        have hB1 := (Blk.new w (lays22_ren.t 9) ((cs.take i).toArray ++ Z1 ++ Z2)).drew
        have hB2 : Blk _ w.heap.size 9 (cs.take i ++ [z0] ++ (zs ++ Z2.toList)).toArray := blk_conv hB1 (by
          apply Array.ext'
          simp [hzs])
        have hB3 := (hB2.cellsL (xs := [Value.string c]) i (by rw [List.length_take]; omega) rfl).drew
        have hB4 : Blk _ w.heap.size 9 ((cs.take i ++ [Value.string c]) ++ zs ++ Z2.toList).toArray := blk_conv hB3 (by simp)
        refine blk_conv (hB4.cellsL (xs := cs.drop i) (i + 1) (by simp; omega) (by simp; omega)) ?_
        simp
end Go.Proofs.Ytnleoeogcinadaa
