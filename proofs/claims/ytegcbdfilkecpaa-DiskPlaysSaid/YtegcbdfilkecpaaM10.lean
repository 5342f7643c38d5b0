/- Texts of this proof, one behind the other: lemmas and contracts; each says its own conditions. -/
import Derived.Test.YtegcbdfilkecpaaM1
import Derived.Test.YtegcbdfilkecpaaM2
import Derived.Test.YtegcbdfilkecpaaM4
import Derived.Test.YtegcbdfilkecpaaM6
import Derived.Test.YtegcbdfilkecpaaM9
import Derived.Lib.Bytealg
import Derived.Shelf.Small.Strs
import Derived.Shelf.SlSortCmp.NoneTotal
import Derived.Test.YtegcbdfilkecpaaProg
import Derived.Lib.SortBridge
/- Names in their order, in plain Lean; no condition. -/
namespace Go.Proofs.Ytegcbdfilkecpaa
open Go

theorem bl_irr : ∀ a : List UInt8, Op.bytesLess a a = false
  | [] => rfl
  | a :: x => by simp [Op.bytesLess, bl_irr x, UInt8.lt_irrefl]
theorem bl_trans : ∀ a b c : List UInt8, Op.bytesLess a b = true → Op.bytesLess b c = true → Op.bytesLess a c = true
  | _, [], _, h, _ => by cases ‹List UInt8› <;> simp [Op.bytesLess] at h
  | _, _ :: _, [], _, h => by simp [Op.bytesLess] at h
  | [], _ :: _, _ :: _, _, _ => rfl
  | a :: x, b :: y, c :: z, h1, h2 => by
    simp only [Op.bytesLess, Bool.or_eq_true, decide_eq_true_eq, Bool.and_eq_true, beq_iff_eq] at h1 h2 ⊢
    rcases h1 with h1 | ⟨rfl, h1⟩
    · rcases h2 with h2 | ⟨rfl, h2⟩
      · exact .inl (UInt8.lt_trans h1 h2)
      · exact .inl h1
    · rcases h2 with h2 | ⟨rfl, h2⟩
      · exact .inl h2
      · exact .inr ⟨rfl, bl_trans x y z h1 h2⟩
theorem bl_tot : ∀ a b : List UInt8, a = b ∨ Op.bytesLess a b = true ∨ Op.bytesLess b a = true
  | [], [] => .inl rfl
  | [], _ :: _ => .inr (.inl rfl)
  | _ :: _, [] => .inr (.inr rfl)
  | a :: x, b :: y => by
    simp only [Op.bytesLess, Bool.or_eq_true, decide_eq_true_eq, Bool.and_eq_true, beq_iff_eq, List.cons.injEq]
    by_cases h : a = b
    · subst h
      rcases bl_tot x y with h | h | h
      · exact .inl ⟨rfl, h⟩
      · exact .inr (.inl (.inr ⟨rfl, h⟩))
      · exact .inr (.inr (.inr ⟨rfl, h⟩))
    · by_cases h2 : a < b
      · exact .inr (.inl (.inl h2))
      · exact .inr (.inr (.inl (UInt8.lt_of_le_of_ne (UInt8.not_lt.1 h2) (Ne.symm h))))
theorem bl_cmp : ∀ a b : List UInt8, Lib.compareBytes a b < 0 ↔ Op.bytesLess a b = true
  | [], [] => by simp [Lib.compareBytes, Op.bytesLess]
  | [], _ :: _ => by simp [Lib.compareBytes, Op.bytesLess]
  | _ :: _, [] => by simp [Lib.compareBytes, Op.bytesLess]
  | a :: x, b :: y => by
    have ih := bl_cmp x y
    unfold Lib.compareBytes
    simp only [Op.bytesLess, Bool.or_eq_true, decide_eq_true_eq, Bool.and_eq_true, beq_iff_eq]
    by_cases h : a < b
    · simp [h]
    · rw [if_neg h]
      by_cases h2 : b < a
      · rw [if_pos h2]
        constructor
        · intro q; omega
        · rintro (q | ⟨rfl, _⟩)
          · exact absurd q h
          · exact absurd h2 (UInt8.lt_irrefl _)
      · rw [if_neg h2, ih]
        have e : a = b := UInt8.le_antisymm (UInt8.not_lt.1 h2) (UInt8.not_lt.1 h)
        subst e
        simp [h]
/-- one name ahead of another -/
def nLt (a b : ByteArray) : Prop := Op.bytesLess a.data.toList b.data.toList = true
theorem nLt_irr (a : ByteArray) : ¬ nLt a a := by unfold nLt; rw [bl_irr]; simp
theorem nLt_trans {a b c : ByteArray} (h : nLt a b) (h2 : nLt b c) : nLt a c := bl_trans _ _ _ h h2
theorem nLt_tot (a b : ByteArray) : a = b ∨ nLt a b ∨ nLt b a := by
  rcases bl_tot a.data.toList b.data.toList with h | h | h
  · refine .inl ?_
    cases a; cases b
    simp only [ByteArray.mk.injEq]
    exact Array.toList_inj.1 h
  · exact .inr (.inl h)
  · exact .inr (.inr h)
theorem nLt_asym {a b : ByteArray} (h : nLt a b) : ¬ nLt b a := fun q => nLt_irr a (nLt_trans h q)
def nSorted (l : List ByteArray) : Prop := l.Pairwise nLt
theorem sorted_uniq : ∀ {l l' : List ByteArray}, nSorted l → nSorted l' → (∀ s, s ∈ l ↔ s ∈ l') → l = l'
  | [], [], _, _, _ => rfl
  | [], x :: r, _, _, h => by have := (h x).2 (List.mem_cons_self ..); cases this
  | x :: r, [], _, _, h => by have := (h x).1 (List.mem_cons_self ..); cases this
  | x :: r, y :: t, h1, h2, h => by
    obtain ⟨a1, b1⟩ := List.pairwise_cons.1 h1
    obtain ⟨a2, b2⟩ := List.pairwise_cons.1 h2
    have e : x = y := by
      rcases List.mem_cons.1 ((h x).1 (List.mem_cons_self ..)) with q | q
      · exact q
      · rcases List.mem_cons.1 ((h y).2 (List.mem_cons_self ..)) with z | z
        · exact z.symm
        · exact absurd (a1 y z) (nLt_asym (a2 x q))
    subst e
    congr 1
    refine sorted_uniq b1 b2 (fun s => ?_)
    constructor
    · intro q
      rcases List.mem_cons.1 ((h s).1 (List.mem_cons_of_mem _ q)) with z | z
      · subst z; exact absurd (a1 s q) (nLt_irr s)
      · exact z
    · intro q
      rcases List.mem_cons.1 ((h s).2 (List.mem_cons_of_mem _ q)) with z | z
      · subst z; exact absurd (a2 s q) (nLt_irr s)
      · exact z
/-- the order that the sorting goes by -/
def cfN (a b : ByteArray) : Int := Lib.compareBytes a.data.toList b.data.toList
theorem cfN_lt (a b : ByteArray) : decide (cfN a b < 0) = true ↔ nLt a b := by unfold cfN nLt; rw [decide_eq_true_iff, bl_cmp]
/-- what a disk's names are -/
def NmsOf (p : Pl) (l : List ByteArray) : Prop := nSorted l ∧ ∀ s, s ∈ l ↔ p.down = false ∧ p.seen s ≠ []
theorem nms_uniq {p : Pl} {l l' : List ByteArray} (h : NmsOf p l) (h' : NmsOf p l') : l = l' := sorted_uniq h.1 h'.1 (fun s => (h.2 s).trans (h'.2 s).symm)
/-- a name put into its place -/
theorem ins_sorted {P : List ByteArray} (hP : nSorted P) {x : ByteArray} {k : Nat} (h1 : ∀ y ∈ P.drop k, nLt x y) (h2 : ∀ y, (P.take k).getLast? = some y → nLt y x) : nSorted (P.take k ++ x :: P.drop k) := by
  have hP' : nSorted (P.take k ++ P.drop k) := by rw [List.take_append_drop]; exact hP
  obtain ⟨a, b, c⟩ := List.pairwise_append.1 hP'
  have hlt : ∀ y ∈ P.take k, nLt y x := by
    intro y hy
    obtain ⟨z, hz⟩ : ∃ z, (P.take k).getLast? = some z := by
      cases hq : (P.take k).getLast? with
      | none => rw [List.getLast?_eq_none_iff] at hq; rw [hq] at hy; cases hy
      | some z => exact ⟨z, rfl⟩
    obtain ⟨ys, hys⟩ := List.getLast?_eq_some_iff.1 hz
    rw [hys] at hy a
    rcases List.mem_append.1 hy with q | q
    · exact nLt_trans ((List.pairwise_append.1 a).2.2 y q z (List.mem_singleton.2 rfl)) (h2 z hz)
    · rw [List.mem_singleton.1 q]; exact h2 z hz
  refine List.pairwise_append.2 ⟨a, List.pairwise_cons.2 ⟨h1, b⟩, fun y hy z hz => ?_⟩
  rcases List.mem_cons.1 hz with q | q
  · rw [q]; exact hlt y hy
  · exact c y hy z q
end Go.Proofs.Ytegcbdfilkecpaa
/- The shelf's contracts of slices.SortFunc at texts and of strings.Compare laid at this dump (printed by the kit's lay-shelf and lay-plain, the numbers turned into names); no condition. -/
namespace Go.Proofs.Ytegcbdfilkecpaa
open Go.Shelf
def layCmp_ren : Go.Shelf.Ren := ⟨fun | 106 => 144 | 213 => 165 | 265 => 179 | n => n, fun | 9 => 9 | 3 => 3 | n => n, fun | n => n⟩
theorem layCmp : Go.Proofs.Lays.n106 Try.prog layCmp_ren := {
  mixed := by kernel_rfl
  f106 := Try.func144.trans (congrArg some (by kernel_rfl))
  f213 := Try.func165.trans (congrArg some (by kernel_rfl))
  f265 := Try.func179.trans (congrArg some (by kernel_rfl))
  t3 := Try.underlying3
  a3 := Try.isAgg3
  z3 := Try.sizeOf3
  v3 := Try.zeroValue3
  t9 := Try.underlying9
  a9 := Try.isAgg9
  z9 := Try.sizeOf9
  v9 := Try.zeroValue9 }
def laySortS_ren : Go.Shelf.Ren := ⟨fun | 6 => 143 | 15 => 164 | 14 => 163 | 28 => 177 | 29 => 178 | 20 => 169 | 21 => 170 | 22 => 171 | 23 => 172 | 24 => 173 | 25 => 174 | 26 => 175 | 27 => 176 | 46 => 188 | 47 => 189 | 48 => 190 | 49 => 191 | 50 => 192 | 57 => 196 | n => n, fun | 22 => 154 | 24 => 9 | 25 => 206 | 3 => 3 | 39 => 176 | 0 => 0 | 53 => 100 | 55 => 240 | 4 => 4 | 46 => 233 | 45 => 232 | 50 => 110 | 5 => 5 | 9 => 9 | 66 => 246 | 70 => 250 | 76 => 254 | 77 => 255 | n => n, fun | n => n⟩
theorem laySortS : Go.Proofs.SlLaysF.n6 Try.prog laySortS_ren := {
  mixed := by kernel_rfl
  f6 := ⟨Try.f143.name, by decide, Try.func143.trans (congrArg some (by kernel_rfl))⟩
  f14 := ⟨Try.f163.name, by decide, Try.func163.trans (congrArg some (by kernel_rfl))⟩
  f15 := Try.func164.trans (congrArg some (by kernel_rfl))
  f20 := ⟨Try.f169.name, by decide, Try.func169.trans (congrArg some (by kernel_rfl))⟩
  f21 := ⟨Try.f170.name, by decide, Try.func170.trans (congrArg some (by kernel_rfl))⟩
  f22 := ⟨Try.f171.name, by decide, Try.func171.trans (congrArg some (by kernel_rfl))⟩
  f23 := ⟨Try.f172.name, by decide, Try.func172.trans (congrArg some (by kernel_rfl))⟩
  f24 := ⟨Try.f173.name, by decide, Try.func173.trans (congrArg some (by kernel_rfl))⟩
  f25 := ⟨Try.f174.name, by decide, Try.func174.trans (congrArg some (by kernel_rfl))⟩
  f26 := ⟨Try.f175.name, by decide, Try.func175.trans (congrArg some (by kernel_rfl))⟩
  f27 := ⟨Try.f176.name, by decide, Try.func176.trans (congrArg some (by kernel_rfl))⟩
  f28 := Try.func177.trans (congrArg some (by kernel_rfl))
  f29 := Try.func178.trans (congrArg some (by kernel_rfl))
  f46 := ⟨Try.f188.name, by decide, Try.func188.trans (congrArg some (by kernel_rfl))⟩
  f47 := Try.func189.trans (congrArg some (by kernel_rfl))
  f48 := Try.func190.trans (congrArg some (by kernel_rfl))
  f49 := ⟨Try.f191.name, by decide, Try.func191.trans (congrArg some (by kernel_rfl))⟩
  f50 := ⟨Try.f192.name, by decide, Try.func192.trans (congrArg some (by kernel_rfl))⟩
  f57 := ⟨Try.f196.name, by decide, Try.func196.trans (congrArg some (by kernel_rfl))⟩
  t0 := Try.underlying0
  a0 := Try.isAgg0
  z0 := Try.sizeOf0
  v0 := Try.zeroValue0
  t3 := Try.underlying3
  a3 := Try.isAgg3
  z3 := Try.sizeOf3
  v3 := Try.zeroValue3
  t4 := Try.underlying4
  a4 := Try.isAgg4
  z4 := Try.sizeOf4
  v4 := Try.zeroValue4
  t5 := Try.underlying5
  a5 := Try.isAgg5
  z5 := Try.sizeOf5
  v5 := Try.zeroValue5
  t9 := Try.underlying9
  a9 := Try.isAgg9
  z9 := Try.sizeOf9
  v9 := Try.zeroValue9
  t22 := Try.underlying154
  a22 := Try.isAgg154
  z22 := Try.sizeOf154
  v22 := Try.zeroValue154
  a24 := Try.isAgg9
  z24 := Try.sizeOf9
  t25 := Try.underlying206
  a25 := Try.isAgg206
  z25 := Try.sizeOf206
  v25 := Try.zeroValue206
  t39 := Try.underlying176
  a39 := Try.isAgg176
  z39 := Try.sizeOf176
  v39 := Try.zeroValue176
  t45 := Try.underlying232
  a45 := Try.isAgg232
  z45 := Try.sizeOf232
  v45 := Try.zeroValue232
  t46 := Try.underlying233
  a46 := Try.isAgg233
  z46 := Try.sizeOf233
  v46 := Try.zeroValue233
  t50 := Try.underlying110
  a50 := Try.isAgg110
  z50 := Try.sizeOf110
  v50 := Try.zeroValue110
  t53 := Try.underlying100
  a53 := Try.isAgg100
  z53 := Try.sizeOf100
  v53 := Try.zeroValue100
  t55 := Try.underlying240
  a55 := Try.isAgg240
  z55 := Try.sizeOf240
  v55 := Try.zeroValue240
  t66 := Try.underlying246
  a66 := Try.isAgg246
  z66 := Try.sizeOf246
  v66 := Try.zeroValue246
  t70 := Try.underlying250
  a70 := Try.isAgg250
  z70 := Try.sizeOf250
  v70 := Try.zeroValue250
  t76 := Try.underlying254
  a76 := Try.isAgg254
  z76 := Try.sizeOf254
  v76 := Try.zeroValue254
  t77 := Try.underlying255
  a77 := Try.isAgg255
  z77 := Try.sizeOf255
  v77 := Try.zeroValue255 }
def laySortS0_ren : Go.Shelf.Ren := ⟨fun | 6 => 143 | 15 => 164 | 14 => 163 | 28 => 177 | 29 => 178 | 20 => 169 | 21 => 170 | 22 => 171 | 23 => 172 | 24 => 173 | 25 => 174 | 26 => 175 | 27 => 176 | 46 => 188 | 47 => 189 | 48 => 190 | 49 => 191 | 50 => 192 | 57 => 196 | n => n, fun | 22 => 154 | 24 => 9 | 25 => 206 | 3 => 3 | 39 => 176 | 0 => 0 | 53 => 100 | 55 => 240 | 4 => 4 | 46 => 233 | 45 => 232 | 50 => 110 | 5 => 5 | 9 => 9 | 66 => 246 | 70 => 250 | 76 => 254 | 77 => 255 | n => n, fun | n => n⟩
theorem laySortS0 : Go.Proofs.SlLaysF0.n6 Try.prog laySortS0_ren := {
  mixed := by kernel_rfl
  f6 := ⟨Try.f143.name, by decide, Try.func143.trans (congrArg some (by kernel_rfl))⟩
  f14 := ⟨Try.f163.name, by decide, Try.func163.trans (congrArg some (by kernel_rfl))⟩
  f15 := Try.func164.trans (congrArg some (by kernel_rfl))
  f20 := ⟨Try.f169.name, by decide, Try.func169.trans (congrArg some (by kernel_rfl))⟩
  f21 := ⟨Try.f170.name, by decide, Try.func170.trans (congrArg some (by kernel_rfl))⟩
  f22 := ⟨Try.f171.name, by decide, Try.func171.trans (congrArg some (by kernel_rfl))⟩
  f23 := ⟨Try.f172.name, by decide, Try.func172.trans (congrArg some (by kernel_rfl))⟩
  f24 := ⟨Try.f173.name, by decide, Try.func173.trans (congrArg some (by kernel_rfl))⟩
  f25 := ⟨Try.f174.name, by decide, Try.func174.trans (congrArg some (by kernel_rfl))⟩
  f26 := ⟨Try.f175.name, by decide, Try.func175.trans (congrArg some (by kernel_rfl))⟩
  f27 := ⟨Try.f176.name, by decide, Try.func176.trans (congrArg some (by kernel_rfl))⟩
  f28 := Try.func177.trans (congrArg some (by kernel_rfl))
  f29 := Try.func178.trans (congrArg some (by kernel_rfl))
  f46 := ⟨Try.f188.name, by decide, Try.func188.trans (congrArg some (by kernel_rfl))⟩
  f47 := Try.func189.trans (congrArg some (by kernel_rfl))
  f48 := Try.func190.trans (congrArg some (by kernel_rfl))
  f49 := ⟨Try.f191.name, by decide, Try.func191.trans (congrArg some (by kernel_rfl))⟩
  f50 := ⟨Try.f192.name, by decide, Try.func192.trans (congrArg some (by kernel_rfl))⟩
  f57 := ⟨Try.f196.name, by decide, Try.func196.trans (congrArg some (by kernel_rfl))⟩
  t0 := Try.underlying0
  a0 := Try.isAgg0
  z0 := Try.sizeOf0
  v0 := Try.zeroValue0
  t3 := Try.underlying3
  a3 := Try.isAgg3
  z3 := Try.sizeOf3
  v3 := Try.zeroValue3
  t4 := Try.underlying4
  a4 := Try.isAgg4
  z4 := Try.sizeOf4
  v4 := Try.zeroValue4
  t5 := Try.underlying5
  a5 := Try.isAgg5
  z5 := Try.sizeOf5
  v5 := Try.zeroValue5
  t9 := Try.underlying9
  a9 := Try.isAgg9
  z9 := Try.sizeOf9
  v9 := Try.zeroValue9
  t22 := Try.underlying154
  a22 := Try.isAgg154
  z22 := Try.sizeOf154
  v22 := Try.zeroValue154
  t25 := Try.underlying206
  a25 := Try.isAgg206
  z25 := Try.sizeOf206
  v25 := Try.zeroValue206
  t39 := Try.underlying176
  a39 := Try.isAgg176
  z39 := Try.sizeOf176
  v39 := Try.zeroValue176
  t45 := Try.underlying232
  a45 := Try.isAgg232
  z45 := Try.sizeOf232
  v45 := Try.zeroValue232
  t46 := Try.underlying233
  a46 := Try.isAgg233
  z46 := Try.sizeOf233
  v46 := Try.zeroValue233
  t50 := Try.underlying110
  a50 := Try.isAgg110
  z50 := Try.sizeOf110
  v50 := Try.zeroValue110
  t53 := Try.underlying100
  a53 := Try.isAgg100
  z53 := Try.sizeOf100
  v53 := Try.zeroValue100
  t55 := Try.underlying240
  a55 := Try.isAgg240
  z55 := Try.sizeOf240
  v55 := Try.zeroValue240
  t66 := Try.underlying246
  a66 := Try.isAgg246
  z66 := Try.sizeOf246
  v66 := Try.zeroValue246
  t70 := Try.underlying250
  a70 := Try.isAgg250
  z70 := Try.sizeOf250
  v70 := Try.zeroValue250
  t76 := Try.underlying254
  a76 := Try.isAgg254
  z76 := Try.sizeOf254
  v76 := Try.zeroValue254
  t77 := Try.underlying255
  a77 := Try.isAgg255
  z77 := Try.sizeOf255
  v77 := Try.zeroValue255 }
end Go.Proofs.Ytegcbdfilkecpaa
/- slices.SortFunc at names, by strings.Compare; condition: less than 2^62 of them. -/
namespace Go.Proofs.Ytegcbdfilkecpaa
open Go.RowKit Go.Lib Go.Sort

def leN (x y : ByteArray) : Bool := !decide (cfN y x < 0)
theorem leN_iff (x y : ByteArray) : leN x y = true ↔ ¬ nLt y x := by
  unfold leN
  rw [Bool.not_eq_true', ← Bool.not_eq_true, cfN_lt]
theorem merge_sorted {l : List ByteArray} (hn : l.Nodup) : nSorted (l.mergeSort leN) ∧ ∀ s, s ∈ l.mergeSort leN ↔ s ∈ l := by
  refine ⟨?_, fun s => List.mem_mergeSort⟩
  have h1 : (l.mergeSort leN).Pairwise fun a b => leN a b = true := List.pairwise_mergeSort (fun a b c h1 h2 => by
      rw [leN_iff] at *
      intro q
      rcases nLt_tot a b with rfl | z | z
      · exact h2 q
      · exact h2 (nLt_trans q z)
      · exact h1 z) (fun a b => by
      rw [Bool.or_eq_true, leN_iff, leN_iff]
      by_cases q : nLt b a
      · exact .inr (nLt_asym q)
      · exact .inl q) l
  have h2 : (l.mergeSort leN).Pairwise (· ≠ ·) := (List.mergeSort_perm l leN).symm.nodup hn
  refine (h1.and h2).imp ?_
  intro a b ⟨q, z⟩
  rw [leN_iff] at q
  rcases nLt_tot a b with y | y | y
  · exact absurd y z
  · exact y
  · exact absurd y q
theorem swoN : Sort.SWO (ltOf cfN) where
  irrefl x := by
    unfold ltOf
    rw [← Bool.not_eq_true, cfN_lt]
    exact nLt_irr x
  trans x y z h1 h2 := by
    unfold ltOf at *
    rw [cfN_lt] at *
    exact nLt_trans h1 h2
  ntrans x y z h1 h2 := by
    unfold ltOf at *
    rw [← Bool.not_eq_true, cfN_lt] at *
    intro q
    rcases nLt_tot x y with rfl | e | e
    · exact h2 q
    · exact h1 e
    · exact h2 (nLt_trans e q)
theorem totN (x y : ByteArray) (h1 : ltOf cfN x y = false) (h2 : ltOf cfN y x = false) : x = y := by
  unfold ltOf at *
  rw [← Bool.not_eq_true, cfN_lt] at *
  rcases nLt_tot x y with e | e | e
  · exact e
  · exact absurd e h1
  · exact absurd e h2
theorem Kp.grow {S : Nat → Prop} {a w : World} (h : Kp S a w) (os : Array Obj) : Kp S a (Sort.grow w os) :=
  ⟨h.os, h.tape, h.output, by have := h.size; unfold Sort.grow; simp; omega, fun i hi hn => by
    have h1 := h.block i hi hn
    have h2 := h.size
    rw [← h1]
    show (w.heap ++ os)[i]? = _
    rw [Array.getElem?_append_left (by omega)]⟩
theorem sort_names (w : World) (base : Nat) (A : Option Addr) (cap : Nat) (l : List ByteArray) (hown : w.ownsRow base 9 1 (.slice A l.length cap) l.length (l.map Value.string)) (hl : l.length < 4611686018427387904) :
    Calls Try.prog 143 #[.slice A l.length cap, .func (.func 144) #[] #[]] w fun e w' => e = .returned (.tuple #[]) ∧ w'.ownsRow base 9 1 (.slice A l.length cap) l.length ((l.mergeSort leN).map Value.string) ∧ Kp (fun b => (Value.slice A l.length cap).ownBlock = some b) w w' := by
  by_cases h0 : l = []
  · subst h0
    have h := AnyF.slices_SortFunc_none laySortS0 A cap (.func (.func 144) #[] #[]) w
    refine (show Calls Try.prog 143 _ w _ from h).mono ?_
    rintro e w' ⟨rfl, rfl⟩
    exact ⟨rfl, by rw [List.mergeSort_nil]; exact hown, Kp.refl _ _⟩
  · have hpos : 0 < l.length := List.length_pos_iff.2 h0
    obtain ⟨hlen, hor⟩ := hown
    rcases hor with ⟨_, q⟩ | ⟨g, cap', cur, hv, hb, hg, h1, h2, h3, h4⟩
    · omega
    · injection hv with e1 e2 e3
      subst e1 e3
      have hblk : Blk w g 9 cur := hg
      have hH : Sort.Holds Value.string w g 0 l.toArray := fun j hj => by
        have hj' : j < l.length := by simpa using hj
        refine ⟨?_, hblk.frozen _⟩
        rw [Nat.zero_add, hblk.cell, getElem!_pos l.toArray j hj]
        have h5 : (cur.toList.take (l.length * 1))[j]? = some (.string l[j]) := by rw [h4, List.getElem?_map, List.getElem?_eq_getElem hj']; rfl
        rw [List.getElem?_take, if_pos (by omega), Array.getElem?_toList] at h5
        rw [h5]
        rfl
      have eg : ∀ args w, (callFunc 144 args).run Try.prog w = .ok (.enter 144 args) w := enters_of Try.func144 (by kernel_rfl) rfl
      have hcr : CmpReads Try.prog 144 #[] Value.string cfN g 0 l.toArray.size w := fun m os dk hs x y => by
        have h := Any.strings_Compare layCmp x y (sortWorld Value.string w g 0 m dk os)
        refine (show Calls Try.prog 144 _ _ _ from h).mono ?_
        rintro e w' ⟨rfl, rfl⟩
        exact ⟨rfl, 0, rfl⟩
      have h := Any.slices_SortFunc_total laySortS Value.string (fun _ => rfl) cfN swoN 144 #[] g 0 cap l.toArray w eg hcr.lays hH hblk.lt (by simpa using hl) totN
      refine (show Calls Try.prog 143 #[.slice (some ⟨g, 0, none⟩) l.length cap, .func (.func 144) #[] #[]] w _ from h).mono ?_
      rintro e w' ⟨rfl, n, os, rfl⟩
      have hs : (l.mergeSort leN).length = l.length := List.length_mergeSort ..
      have hw : sortWorld Value.string w g 0 n (l.mergeSort leN).toArray os = Sort.grow ((w.drewN n).setCells g 0 ((l.mergeSort leN).map Value.string)) os := Lib.sorted_world Value.string w g 0 n l.toArray (l.mergeSort leN) os hH (by rw [hs]; simp)
      have hw' : sortWorld Value.string w g 0 n (l.toArray.toList.mergeSort fun x y => !(ltOf cfN) y x).toArray os = Sort.grow ((w.drewN n).setCells g 0 ((l.mergeSort leN).map Value.string)) os := hw
      rw [hw']
      have hc0 : cur = (l.map Value.string ++ cur.toList.drop (l.length * 1)).toArray := by rw [← h4, List.take_append_drop]
      have hb2 : Blk (w.drewN n) g 9 ([] ++ l.map Value.string ++ cur.toList.drop (l.length * 1)).toArray := by rw [List.nil_append, ← hc0]; exact hblk
      have hb3 := Blk.cellsL (xs := (l.mergeSort leN).map Value.string) hb2 0 rfl (by rw [List.length_map, List.length_map, hs])
      have hk : Kp (fun b => (Value.slice (some ⟨g, 0, none⟩) l.length cap).ownBlock = some b) w ((w.drewN n).setCells g 0 ((l.mergeSort leN).map Value.string)) := Kp.setCells (S := fun b => (Value.slice (some ⟨g, 0, none⟩) l.length cap).ownBlock = some b) (g := g) (.inr rfl) _ _ _ ((Kp.refl _ w).drewN n)
      refine ⟨rfl, ⟨by rw [List.length_map, hs, Nat.mul_one], .inr ⟨g, cap, _, rfl, hb, (hb3.keep ((Kp.refl NoB _).grow os) (fun q => q)), h1, h2, ?_, ?_⟩⟩, hk.grow os⟩
      · simp only [List.size_toArray, List.length_append, List.length_map, hs, List.nil_append, List.length_drop, Array.length_toList]
        omega
      · simp only [List.nil_append, Nat.mul_one]
        rw [List.take_append_of_le_length (by rw [List.length_map, hs]; exact Nat.le_refl _), List.take_of_length_le (by rw [List.length_map, hs]; exact Nat.le_refl _)]
end Go.Proofs.Ytegcbdfilkecpaa
/- The stand-in disk: Names; condition: less than 2^40 files. -/
namespace Go.Proofs.Ytegcbdfilkecpaa
open Go.RowKit

theorem infoStrN : (Try.prog.info? 9).map (fun i => (i.zero, i.size, i.bytes)) = some (some (.string ⟨#[]⟩), 1, 16) := by kernel_rfl
/-- the names met so far -/
def Met (x : Dd) (left : Lit → Bool) (l : List ByteArray) : Prop := l.Nodup ∧ ∀ s, s ∈ l ↔ ∃ e ∈ x.fs, e.nm = s ∧ left (.string (kOf s)) = false ∧ e.seen ≠ []
def NmRel (w : World) (x : Dd) (D : DataW Value) (r : Nat) (v3 : Value) (wr : World) : Prop := ∃ (left : Lit → Bool) (cnt : Nat) (l : List ByteArray) (A : Option Addr) (cap : Nat), wr.ranges Try.prog 9 Rp x.mb r x.mn D left cnt ∧ v3 = .slice A l.length cap ∧
  wr.ownsRow w.heap.size 9 1 (.slice A l.length cap) l.length (l.map Value.string) ∧ Met x left l ∧ l.length + cnt ≤ x.mn ∧ Kp NoB w wr
theorem met_nil {x : Dd} {left : Lit → Bool} (h : ∀ e ∈ x.fs, left (.string (kOf e.nm)) = true) : Met x left [] := by
  refine ⟨List.nodup_nil, fun s => ?_⟩
  constructor
  · intro q; cases q
  · rintro ⟨e, he, rfl, hl, _⟩
    rw [h e he] at hl
    cases hl
theorem met_skip {x : Dd} {left : Lit → Bool} {l : List ByteArray} (hn : Names x.fs) (h : Met x left l) {e : Fe} (he : e ∈ x.fs) (h0 : e.seen = []) : Met x (fun z => left z && !z.sameKey (.string (kOf e.nm))) l := by
  refine ⟨h.1, fun s => (h.2 s).trans ?_⟩
  constructor
  · rintro ⟨f, hf, rfl, hl, hs⟩
    exact ⟨f, hf, rfl, by show (left _ && _) = false; rw [hl]; rfl, hs⟩
  · rintro ⟨f, hf, rfl, hl, hs⟩
    refine ⟨f, hf, rfl, ?_, hs⟩
    by_cases q : left (.string (kOf f.nm)) = false
    · exact q
    · rw [Bool.not_eq_false] at q
      have hl : (left (.string (kOf f.nm)) && !(Lit.string (kOf f.nm)).sameKey (.string (kOf e.nm))) = false := hl
      rw [q, Bool.true_and, Bool.not_eq_false'] at hl
      have hk : kOf f.nm = kOf e.nm := by simpa [Lit.sameKey] using hl
      have h1 := hn.find hf
      have h2 := hn.find he
      rw [hk, h2] at h1
      injection h1 with h1
      rw [← h1] at hs
      exact absurd h0 hs
theorem met_add {x : Dd} {left : Lit → Bool} {l : List ByteArray} (hn : Names x.fs) (h : Met x left l) {e : Fe} (he : e ∈ x.fs) (hl : left (.string (kOf e.nm)) = true) (h0 : e.seen ≠ []) : Met x (fun z => left z && !z.sameKey (.string (kOf e.nm))) (l ++ [e.nm]) := by
  constructor
  · refine List.nodup_append.2 ⟨h.1, by simp, fun a ha b hb => ?_⟩
    rw [List.mem_singleton.1 hb]
    rintro rfl
    obtain ⟨f, hf, hnm, hlf, _⟩ := (h.2 _).1 ha
    rw [hl] at hlf
    cases hlf
  · intro s
    rw [List.mem_append, List.mem_singleton, h.2 s]
    constructor
    · rintro (⟨f, hf, rfl, q, hs⟩ | rfl)
      · exact ⟨f, hf, rfl, by show (left _ && _) = false; rw [q]; rfl, hs⟩
      · exact ⟨e, he, rfl, by show (left _ && _) = false; rw [hl]; simp [Lit.sameKey], h0⟩
    · rintro ⟨f, hf, rfl, q, hs⟩
      by_cases z : left (.string (kOf f.nm)) = false
      · exact .inl ⟨f, hf, rfl, z, hs⟩
      · rw [Bool.not_eq_false] at z
        have q : (left (.string (kOf f.nm)) && !(Lit.string (kOf f.nm)).sameKey (.string (kOf e.nm))) = false := q
        rw [z, Bool.true_and, Bool.not_eq_false'] at q
        have hk : kOf f.nm = kOf e.nm := by simpa [Lit.sameKey] using q
        exact .inr (kOf_inj hk)
theorem seenOf_ne {fs : List Fe} (hn : Names fs) (s : ByteArray) : seenOf fs s ≠ [] ↔ ∃ e ∈ fs, e.nm = s ∧ e.seen ≠ [] := by
  unfold seenOf
  constructor
  · intro h
    cases hf : findF fs (kOf s) with
    | none => rw [hf] at h; exact absurd rfl h
    | some e =>
      rw [hf] at h
      obtain ⟨he, hk⟩ := findF_some hf
      exact ⟨e, he, kOf_inj hk, h⟩
  · rintro ⟨e, he, rfl, hs⟩
    rw [hn.find he]
    exact hs
theorem met_all {x : Dd} {left : Lit → Bool} {l : List ByteArray} (hn : Names x.fs) (h : Met x left l) (hl : ∀ k, left k = false) (s : ByteArray) : s ∈ l ↔ seenOf x.fs s ≠ [] := by
  rw [h.2 s, seenOf_ne hn]
  constructor
  · rintro ⟨e, he, e1, _, e2⟩; exact ⟨e, he, e1, e2⟩
  · rintro ⟨e, he, e1, e2⟩; exact ⟨e, he, e1, hl _, e2⟩
set_option maxRecDepth 100000 in
set_option maxHeartbeats 1600000 in
theorem names_ok (w : World) (n0 : Nat) (x : Dd) (p : Pl) (hnf : p.nf < 1099511627776) (h : Dk n0 w x) (hp : Of x p) :
    Calls Try.prog 90 #[ptrV x.db] w fun e w' => ∃ A cap l, e = .returned (.slice A l.length cap) ∧ w'.ownsRow w.heap.size 9 1 (.slice A l.length cap) l.length (l.map Value.string) ∧ NmsOf p l ∧ l.length ≤ p.nf ∧ Kp NoB w w' := by
  have H := Lib.hid h
  have HP := Lib.hid hp
  obtain ⟨D, hD, hM⟩ := h.mp
  have HD := Lib.hid hD
  have HM := Lib.hid hM
  have HB := Lib.hid h.blk
  have HNF := Lib.hid hnf
  have c0 : w.cell? ⟨x.db, 0, none⟩ = some (.map (some x.mb)) := by rw [h.blk.cell]; rfl
  have c5 : w.cell? ⟨x.db, 5, none⟩ = some (.bool p.down) := by rw [h.blk.cell, hp.down]; rfl
  obtain ⟨db, hdb⟩ : ∃ db, x.db = db := ⟨_, rfl⟩
  have HX := Lib.hid hdb
  rw [hdb] at c0 c5 ⊢
  have HMN : Hid (x.mn ≤ p.nf) := Lib.hid hp.nf
  clear h hD hM hdb hp hnf
  unfold ptrV
  by_cases hdn : p.down = true
  · rw [hdn] at c5
    go_enter Try.func90, Try.ntmps90
    go_wp2_with (go_at_call 69; go_must (refine (show Calls _ _ #[ptrV db] _ _ by rw [← HX.out]; exact is_ok _ _ _ H.out).mono ?_); rintro e w2 ⟨rfl, rfl⟩)
    go_ret
    refine ⟨none, 0, [], rfl, World.ownsRow_nil _ _ _ _, ⟨List.Pairwise.nil, fun s => ?_⟩, Nat.zero_le _, Kp.refl _ _⟩
    rw [hdn]
    simp
  · have hdn' : p.down = false := by simpa using hdn
    rw [hdn'] at c5
    have HDN := Lib.hid hdn'
    obtain ⟨j0, hj0, hy0, hy1, hy2⟩ := info_parts infoStrN
    have HJ0 := Lib.hid hj0
    have HY0 := Lib.hid hy0
    have HY1 := Lib.hid hy1
    have HY2 := Lib.hid hy2
    clear hdn hdn' hj0 hy0 hy1 hy2
    go_enter Try.func90, Try.ntmps90
    go_wp2_with (first
      | (go_at_call 69; go_must (refine (show Calls _ _ #[ptrV db] _ _ by rw [← HX.out]; exact is_ok _ _ _ H.out).mono ?_); rintro e w2 ⟨rfl, rfl⟩)
      | (at_range; refine wpList_range_own _ rfl _ 118 rfl 9 139 keyed Try.underlying118 Rp x.mb x.mn D rfl HD.out ?_; intro w0 hrg0 hg0 hs0))
    go_frame
    have HR0 := Lib.hid (show (∀ e ∈ x.fs, Maps.has D (.string (kOf e.nm)) = true) from fun e he => by rw [HM.out.has, H.out.names.find he]; rfl)
    go_loopw [3] (fun v3 wr => NmRel w x D w.heap.size v3 wr) (fun _ wr => wr.rangeLeft x.mb w.heap.size)
    case atStart => exact ⟨Maps.has D, Maps.size D, [], none, 0, hrg0, rfl, World.ownsRow_nil _ _ _ _, met_nil HR0.out, by have := HD.out.size_le; simpa using this, (Kp.refl NoB w).grown hg0 (by simp)⟩
    case round =>
      obtain ⟨left, cnt, l, A, cap, hrg, rfl, hown, hmet, hlen, hkp⟩ := hrel
      have HRG := Lib.hid hrg
      have HK := Lib.hid hkp
      have HOWN := Lib.hid hown
      have HMET := Lib.hid hmet
      have HLEN := Lib.hid hlen
      clear hkp hrg0 hg0 hs0 hown hmet hlen
      go_wp2_with (at_next; refine wpList_next_ranges _ rfl _ rfl 9 keyed Rp Value.string Value.pointer (fun key kl hk => keyS_inv hk) (fun v y hv => by obtain ⟨p, rfl, _⟩ := Rp_inv hv; exact ⟨p, rfl⟩) x.mb w.heap.size x.mn D left cnt rfl hrg ?_ ?_)
      · intro _ hl0
        have HL0 := Lib.hid hl0
        clear hrg hl0
        go_wp2_with fail
        refine (sort_names wr w.heap.size A cap l HOWN.out (by have h1 := HLEN.out; have h2 := HMN.out; have h3 := HNF.out; omega)).mono ?_
        rintro e w5 ⟨rfl, hown5, hk5⟩
        have hms := merge_sorted HMET.out.1
        have HO5 := Lib.hid hown5
        have HK5 : Hid (Kp NoB w w5) := Lib.hid (HK.out.trans hk5 (fun i hi q => by
          have h1 := own_ge HOWN.out i q
          omega))
        clear hown5 hk5
        go_wp2_with fail
        go_ret
        refine ⟨A, cap, l.mergeSort leN, by rw [List.length_mergeSort]; rfl, by rw [List.length_mergeSort]; exact HO5.out, ⟨hms.1, fun s => ?_⟩, by rw [List.length_mergeSort]; have h1 := HLEN.out; have h2 := HMN.out; omega, HK5.out⟩
        rw [hms.2 s, met_all H.out.names HMET.out HL0.out s, HP.out.seen]
        simp [HDN.out]
      · intro x1 c kl a b w3 cnt3 hkey hlk hv hat hrg3 hlt hg3 hs3 hen
        have hk3 := HK.out.grown hg3 (fun k hk => .inl (by injection hk with hk; omega))
        obtain ⟨e, he, hkl, rfl, B, cp, ce⟩ := next_fact H.out HM.out hk3 hkey hv hat
        have hx1 : x1 = e.nm := by
          by_cases hs : x1.size ≤ maxLen
          · rw [keyS x1 hs, hkl] at hkey
            injection hkey with hkey
            injection hkey with hkey
            exact kOf_inj hkey
          · have hu := Try.underlying9
            rw [hkl] at hkey
            simp [keyOf, mapKey, hu] at hkey
            exact kOf_inj hkey.2
        subst hkl
        subst hx1
        have HE := Lib.hid he
        have HLK := Lib.hid hlk
        have HK3 := Lib.hid hk3
        have HR3 := Lib.hid hrg3
        have HLT := Lib.hid hlt
        have HO3 : Hid (w3.ownsRow w.heap.size 9 1 (.slice A l.length cap) l.length (l.map Value.string)) := Lib.hid (own_keepB HOWN.out (show Kp (fun k => some w.heap.size = some k) wr w3 from ⟨hg3.os, hg3.tape, hg3.output, hg3.size, fun i hi hn => hg3.block i hi (fun e => hn e.symm)⟩) (fun g hg q => by
          injection q with q
          subst q
          obtain ⟨cs, hc⟩ := own_type HOWN.out hg
          obtain ⟨es, ck, si, se, c0, _, _, _, _, hit, _⟩ := HRG.out
          rw [hit] at hc
          injection hc with hc
          cases hc))
        have HC3 : Hid (cnt3 + 1 ≤ cnt ∧ l.length + cnt ≤ x.mn) := Lib.hid ⟨hlt, HLEN.out⟩
        clear he hlk hk3 hrg3 hlt hkey hv hat hrg hg3 hs3
        by_cases hpos : (0 : Int) < (e.seen.length : Int)
        · have hne : e.seen ≠ [] := fun q => by rw [q] at hpos; simp at hpos
          go_wp2_with (at_builtin; refine wpList_append_ownB rfl _ _ 154 rfl w.heap.size 9 j0 _ 1 16 Try.underlying154 HJ0.out HY0.out HY1.out HY2.out rfl (by omega) _ l.length _ rfl (HO3.out.alloc _) ⟨w3.heap.size, 0, none⟩ 1 1 [.string e.nm] rfl rfl (cell_one_new _ _ _) (by simp [Value.oneCell']) (by have h1 := HC3.out; have h2 := HMN.out; have h3 := HNF.out; unfold maxLen; omega) (by have h1 := HC3.out; have h2 := HMN.out; have h3 := HNF.out; omega) (by have := HK3.out.size; simp; omega) ?_; intro v6 w6 hown6 hgr6 hb6; have HO6 := Lib.hid hown6; have HG6 := Lib.hid hgr6; clear hown6 hgr6 hb6)
          obtain ⟨A6, c6, rfl⟩ := own_slice HO6.out
          have hl6 : (l ++ [e.nm]).length = l.length + 1 := by simp
          have hk6 : Kp NoB w w6 := (HK3.out.alloc _).grown HG6.out (fun k hk => .inl (own_ge HO3.out k hk))
          have hr6 : w6.ranges Try.prog 9 Rp x.mb w.heap.size x.mn D (fun z => left z && !z.sameKey (.string (kOf e.nm))) cnt3 := by
            refine (HR3.out.alloc _).kept HG6.out (fun q => ?_) (fun q => ?_)
            · obtain ⟨cs, hc⟩ := own_type HO3.out q.symm
              obtain ⟨es, ck, hm, _⟩ := HR3.out.owns
              rw [hm] at hc
              injection hc with hc
              cases hc
            · obtain ⟨cs, hc⟩ := own_type HO3.out q.symm
              obtain ⟨es, ck, si, se, c0, _, _, _, _, hit, _⟩ := HR3.out
              rw [hit] at hc
              injection hc with hc
              cases hc
          exact ⟨⟨_, cnt3, l ++ [e.nm], A6, c6, hr6, by rw [hl6], by rw [hl6, List.map_append]; exact HO6.out, met_add H.out.names HMET.out HE.out HLK.out hne, by rw [hl6]; have := HC3.out; omega, hk6⟩, by rw [hr6.left_eq, HRG.out.left_eq]; exact HLT.out⟩
        · have hnil : e.seen = [] := List.eq_nil_of_length_eq_zero (by omega)
          go_wp2_with fail
          exact ⟨⟨_, cnt3, l, A, cap, HR3.out, rfl, HO3.out, met_skip H.out.names HMET.out HE.out hnil, by have := HC3.out; omega, HK3.out⟩, by rw [HR3.out.left_eq, HRG.out.left_eq]; exact HLT.out⟩
end Go.Proofs.Ytegcbdfilkecpaa
/- The reference's disk: Names; condition: less than 2^40 files. -/
namespace Go.Proofs.Ytegcbdfilkecpaa
open Go.RowKit

/-- the names of the first files -/
def RMet (fs : List Rfile) (k : Nat) (l : List ByteArray) : Prop := nSorted l ∧ ∀ s, s ∈ l ↔ ∃ f ∈ fs.take k, f.nm = s ∧ f.seen ≠ []
theorem rmet_skip {fs : List Rfile} {k : Nat} {l : List ByteArray} (h : RMet fs k l) {f : Rfile} (hf : fs[k]? = some f) (h0 : f.seen = []) : RMet fs (k + 1) l := by
  refine ⟨h.1, fun s => (h.2 s).trans ?_⟩
  rw [List.take_add_one, hf]
  simp only [Option.toList_some, List.mem_append, List.mem_singleton]
  constructor
  · rintro ⟨x, hx, e, q⟩; exact ⟨x, .inl hx, e, q⟩
  · rintro ⟨x, hx | rfl, e, q⟩
    · exact ⟨x, hx, e, q⟩
    · exact absurd h0 q
theorem rmet_new {fs : List Rfile} (hn : fs.Pairwise fun x y => x.nm ≠ y.nm) {k : Nat} {l : List ByteArray} (h : RMet fs k l) {f : Rfile} (hf : fs[k]? = some f) : f.nm ∉ l := by
  intro q
  obtain ⟨x, hx, e, _⟩ := (h.2 _).1 q
  obtain ⟨i, hi, rfl⟩ := List.getElem_of_mem hx
  rw [List.length_take] at hi
  rw [List.getElem_take] at e
  obtain ⟨hk, rfl⟩ := List.getElem?_eq_some_iff.1 hf
  exact List.pairwise_iff_getElem.1 hn i k (by omega) hk (by omega) e
theorem rmet_add {fs : List Rfile} {k : Nat} {l l' : List ByteArray} (h : RMet fs k l) {f : Rfile} (hf : fs[k]? = some f) (h0 : f.seen ≠ []) (hs : nSorted l') (hm : ∀ s, s ∈ l' ↔ s ∈ l ∨ s = f.nm) : RMet fs (k + 1) l' := by
  refine ⟨hs, fun s => ?_⟩
  rw [hm, h.2 s, List.take_add_one, hf]
  simp only [Option.toList_some, List.mem_append, List.mem_singleton]
  constructor
  · rintro (⟨x, hx, e, q⟩ | rfl)
    · exact ⟨x, .inl hx, e, q⟩
    · exact ⟨f, .inr rfl, rfl, h0⟩
  · rintro ⟨x, hx | rfl, e, q⟩
    · exact .inl ⟨x, hx, e, q⟩
    · exact .inr e.symm
theorem seenR_ne {fs : List Rfile} (hn : fs.Pairwise fun x y => x.nm ≠ y.nm) (s : ByteArray) : seenR fs s ≠ [] ↔ ∃ f ∈ fs, f.nm = s ∧ f.seen ≠ [] := by
  unfold seenR
  constructor
  · intro h
    cases hf : findR fs s with
    | none => rw [hf] at h; exact absurd rfl h
    | some f =>
      rw [hf] at h
      have h1 := List.find?_some hf
      exact ⟨f, List.mem_of_find?_eq_some hf, by simpa using h1, h⟩
  · rintro ⟨f, hf, rfl, q⟩
    rw [seenR_of hn hf]
    exact q
/-- two cells of a row of the walk's own changed round -/
theorem own_swap {w : World} {base g m c k : Nat} {xs : List Value} (h : w.ownsRow base 9 1 (.slice (some ⟨g, 0, none⟩) m c) m xs) (u v : Value) (hk : k + 1 < m) :
    ((w.setCell ⟨g, k + 1, none⟩ u).setCell ⟨g, k, none⟩ v).ownsRow base 9 1 (.slice (some ⟨g, 0, none⟩) m c) m ((xs.set (k + 1) u).set k v) := by
  have h1 : ∀ {w : World} {xs : List Value} (j : Nat) (z : Value), j < m → w.ownsRow base 9 1 (.slice (some ⟨g, 0, none⟩) m c) m xs → (w.setCell ⟨g, j, none⟩ z).ownsRow base 9 1 (.slice (some ⟨g, 0, none⟩) m c) m (xs.set j z) := by
    intro w xs j z hj h
    refine ⟨by rw [List.length_set]; exact h.1, ?_⟩
    rcases h.2 with ⟨q, _⟩ | ⟨g', c', cur, hv, hb, hg, h1, h2, h3, h4⟩
    · cases q
    · injection hv with e1 e2 e3
      injection e1 with e1
      injection e1 with e1
      subst e1 e3
      have hblk : Blk w g 9 cur := hg
      refine .inr ⟨g, c, cur.setIfInBounds j z, rfl, hb, hblk.set_ j z, h1, h2, by simpa using h3, ?_⟩
      rw [← h4]
      simp only [Array.toList_setIfInBounds, Nat.mul_one]
      rw [List.take_set]
  exact h1 k v (by omega) (h1 (k + 1) u hk h)
theorem own_atS {w : World} {base g m c k : Nat} {xs : List Value} {v : Value} (h : w.ownsRow base 9 1 (.slice (some ⟨g, 0, none⟩) m c) m xs) (hv : xs[k]? = some v) : w.cell? ⟨g, k, none⟩ = some v ∧ w.frozen? ⟨g, k, none⟩ = false := by
  have hk : k < m := by have h1 := (List.getElem?_eq_some_iff.1 hv).1; have h2 := h.1; omega
  obtain ⟨g', ds, e, _, hb⟩ := own_blk1 h (by omega)
  injection e with e
  injection e with e
  subst e
  refine ⟨?_, hb.frozen _⟩
  rw [hb.cell, List.getElem?_toArray, List.getElem?_append_left (by have h1 := (List.getElem?_eq_some_iff.1 hv).1; omega)]
  exact hv
/-- the list while its last name wanders down to place k -/
def downL (P : List ByteArray) (x : ByteArray) (k : Nat) : List ByteArray := P.take k ++ x :: P.drop k
theorem downL_len {P : List ByteArray} {x : ByteArray} {k : Nat} (hk : k ≤ P.length) : (downL P x k).length = P.length + 1 := by unfold downL; simp; omega
theorem downL_top (P : List ByteArray) (x : ByteArray) : downL P x P.length = P ++ [x] := by unfold downL; simp
theorem downL_mem {P : List ByteArray} {x : ByteArray} {k : Nat} (s : ByteArray) : s ∈ downL P x k ↔ s ∈ P ∨ s = x := by
  unfold downL
  rw [List.mem_append, List.mem_cons]
  constructor
  · rintro (h | rfl | h)
    · exact .inl (List.mem_of_mem_take h)
    · exact .inr rfl
    · exact .inl (List.mem_of_mem_drop h)
  · rintro (h | rfl)
    · rw [← List.take_append_drop k P] at h
      rcases List.mem_append.1 h with q | q
      · exact .inl q
      · exact .inr (.inr q)
    · exact .inr (.inl rfl)
theorem downL_at {P : List ByteArray} {x : ByteArray} {k : Nat} (hk : k < P.length) : (downL P x (k + 1))[k]? = some P[k] ∧ (downL P x (k + 1))[k + 1]? = some x := by
  unfold downL
  constructor
  · rw [List.getElem?_append_left (by rw [List.length_take]; omega), List.getElem?_take, if_pos (by omega), List.getElem?_eq_getElem hk]
  · rw [List.getElem?_append_right (by rw [List.length_take]; omega), List.length_take]
    rw [show k + 1 - min (k + 1) P.length = 0 by omega]
    rfl
theorem downL_step {P : List ByteArray} {x : ByteArray} {k : Nat} (hk : k < P.length) : ((downL P x (k + 1)).set (k + 1) P[k]).set k x = downL P x k := by
  apply List.ext_getElem?
  intro i
  have hlen := downL_len (P := P) (x := x) (k := k + 1) (by omega)
  unfold downL at hlen ⊢
  rw [List.getElem?_set, List.getElem?_set, List.length_set, hlen]
  by_cases h1 : k = i
  · subst h1
    rw [if_pos rfl, if_pos (by omega), List.getElem?_append_right (by rw [List.length_take]; omega), List.length_take, show k - min k P.length = 0 by omega]
    rfl
  · rw [if_neg h1]
    by_cases h2 : k + 1 = i
    · subst h2
      rw [if_pos rfl, if_pos (by omega), List.getElem?_append_right (by rw [List.length_take]; omega), List.length_take, show k + 1 - min k P.length = 1 by omega, List.getElem?_cons_succ, List.getElem?_drop, Nat.add_zero, List.getElem?_eq_getElem hk]
    · rw [if_neg h2]
      rcases Nat.lt_or_ge i k with q | q
      · rw [List.getElem?_append_left (by rw [List.length_take]; omega), List.getElem?_append_left (by rw [List.length_take]; omega), List.getElem?_take, List.getElem?_take, if_pos (by omega), if_pos (by omega)]
      · rw [List.getElem?_append_right (by rw [List.length_take]; omega), List.getElem?_append_right (by rw [List.length_take]; omega), List.length_take, List.length_take]
        rw [show i - min (k + 1) P.length = (i - (k + 2)) + 1 by omega, show i - min k P.length = (i - (k + 2)) + 1 + 1 by omega, List.getElem?_cons_succ, List.getElem?_cons_succ, List.getElem?_drop, List.getElem?_drop]
        congr 1
        omega
def NrRel (w1 : World) (d : Rd) (p : Pl) (v3 v4 : Value) (wr : World) : Prop := ∃ (k : Nat) (l : List ByteArray) (A : Option Addr) (cap : Nat), v4 = .int .i64 (k : Int) ∧ v3 = .slice A l.length cap ∧ wr.ownsRow w1.heap.size 9 1 (.slice A l.length cap) l.length (l.map Value.string) ∧
  RMet d.fs k l ∧ k ≤ d.fn ∧ l.length ≤ k ∧ (p.down = true → k = 0) ∧ Kp NoB w1 wr
def NiRel (w1 : World) (P : List ByteArray) (x : ByteArray) (g c : Nat) (v5 : Value) (wr : World) : Prop := ∃ j : Nat, v5 = .int .i64 (j : Int) ∧ j ≤ P.length ∧ wr.ownsRow w1.heap.size 9 1 (.slice (some ⟨g, 0, none⟩) (P.length + 1) c) (P.length + 1) ((downL P x j).map Value.string) ∧
  (∀ y ∈ P.drop j, nLt x y) ∧ Kp NoB w1 wr
theorem tl_empty (s : List Int) : (strOf s).toList.isEmpty = decide (s = []) := by
  rw [ByteArray.toList_eq]
  have h := strOf_size s
  have h3 : (strOf s).data.toList.length = s.length := h
  cases s with
  | nil => rw [List.length_nil] at h3; rw [List.eq_nil_of_length_eq_zero h3]; rfl
  | cons a r =>
    cases hq : (strOf (a :: r)).data.toList with
    | nil => rw [hq] at h3; simp at h3
    | cons b t => rfl
set_option maxRecDepth 100000 in
set_option maxHeartbeats 1600000 in
theorem names_okR (w : World) (d : Rd) (p : Pl) (h : Rf w d p) (hnf : p.nf < 1099511627776) :
    Calls Try.prog 91 #[rdV d p] w fun e w' => ∃ A cap l, e = .returned (.slice A l.length cap) ∧ w'.ownsRow w.heap.size 9 1 (.slice A l.length cap) l.length (l.map Value.string) ∧ NmsOf p l ∧ Kp NoB w w' := by
  have H := Lib.hid h
  have HNF : Hid (d.fn < 1099511627776) := Lib.hid (by have := h.nf; omega)
  obtain ⟨j0, hj0, hy0, hy1, hy2⟩ := info_parts infoStrN
  have HJ0 := Lib.hid hj0
  have HY0 := Lib.hid hy0
  have HY1 := Lib.hid hy1
  have HY2 := Lib.hid hy2
  clear h hnf hj0 hy0 hy1 hy2
  unfold rdV
  go_enter Try.func91, Try.ntmps91
  go_upto_region 1 with fail
  have hb1 : Blk (w.alloc (.cells (rdC d p) 56)) w.heap.size 56 (rdC d p) := Blk.new _ _ _
  have hk1 : Kp NoB w (w.alloc (.cells (rdC d p) 56)) := (Kp.refl NoB w).alloc _
  have hlt1 : w.heap.size ≤ (w.alloc (.cells (rdC d p) 56)).heap.size := hk1.size
  unfold rdC at hb1 hk1 hlt1
  generalize hg1 : w.heap.size = g1 at hb1 hlt1 ⊢
  generalize (w.alloc (.cells #[.bool true, .bool p.down, .slice d.fA d.fn d.fc, .slice d.pA d.pn d.pc, .int .i64 p.room, .int .i64 p.steps, .int .i64 p.crash, .int .i64 p.starts] 56)) = w1 at hb1 hk1 hlt1 ⊢
  have HB1 := Lib.hid (show Blk w1 g1 56 (rdC d p) from hb1)
  have HK1 := Lib.hid hk1
  have HG1 := Lib.hid hg1
  have HLT1 := Lib.hid hlt1
  clear hb1 hk1 hg1 hlt1
  go_wp2_with fail
  go_loopw [3, 4] (fun v3 v4 wr => NrRel w1 d p v3 v4 wr) (fun _ v4 _ => d.fn - (intOf v4).toNat)
  case atStart => exact ⟨0, [], none, 0, rfl, rfl, World.ownsRow_nil _ _ _ _, ⟨List.Pairwise.nil, fun s => by simp⟩, Nat.zero_le _, Nat.zero_le _, fun _ => rfl, Kp.refl _ _⟩
  case round =>
    obtain ⟨wq, rfl⟩ : ∃ wq, wq = wr := ⟨_, rfl⟩
    obtain ⟨k, l, A, cap, rfl, rfl, hown, hmet, hk, hlk, hdn, hkp⟩ := hrel
    have HOWN := Lib.hid hown
    have HMET := Lib.hid hmet
    have HDN := Lib.hid hdn
    have HKP := Lib.hid hkp
    clear hown hmet hdn hkp
    obtain ⟨b0, b1, b2, b3, b4, b5, b6, b7⟩ := (HB1.out.keep HKP.out (fun q => q)).rdc
    have hgl := (HB1.out.keep HKP.out (fun q => q)).lt
    have hn63 := HNF.out
    by_cases hlt : k < d.fn
    · have hkk : (k : Int) < (d.fn : Int) := by omega
      by_cases hd : p.down = true
      · rw [hd] at b1
        go_wp2_with fail
        go_ret
        refine ⟨A, cap, l, rfl, HOWN.out.mono (by rw [HG1.out]; exact HLT1.out), ⟨HMET.out.1, fun s => ?_⟩, HK1.out.trans HKP.out (fun _ _ q => q)⟩
        rw [HMET.out.2 s, HDN.out hd, hd]
        simp
      · have hd' : p.down = false := by simpa using hd
        rw [hd'] at b1
        have HD := Lib.hid hd'
        obtain ⟨f, hf⟩ : ∃ f, d.fs[k]? = some f := ⟨_, List.getElem?_eq_getElem (by rw [H.out.fl]; exact hlt)⟩
        have HF := Lib.hid hf
        obtain ⟨g, o, hA, hg, hc⟩ := ((H.out.keep (HK1.out.trans HKP.out (fun _ _ q => q))).files).cell (k := k) (x := rfCells f) (by rw [List.getElem?_map, hf]; rfl)
        rw [hA] at b2
        have c0 := hc 0 (.string f.nm) rfl
        have c1 := hc 1 (.string (strOf f.seen)) rfl
        rw [Nat.add_zero] at c0
        have he := tl_empty f.seen
        obtain ⟨S, hS⟩ : ∃ S, strOf f.seen = S := ⟨_, rfl⟩
        rw [hS] at c1 he
        clear hd hd' hf hA hc hS
        by_cases h0 : f.seen = []
        · rw [decide_eq_true h0] at he
          go_wp2_with fail
          exact ⟨⟨k + 1, l, A, cap, by congr 1, rfl, HOWN.out, rmet_skip HMET.out HF.out h0, by omega, by omega, (fun q => by rw [HD.out] at q; cases q), HKP.out⟩, by simp [intOf]; omega⟩
        · rw [decide_eq_false h0] at he
          obtain ⟨x, hx⟩ : ∃ x, f.nm = x := ⟨_, rfl⟩
          rw [hx] at c0
          have HX := Lib.hid hx
          clear hx
          obtain ⟨m, hm⟩ : ∃ m, l.length = m := ⟨_, rfl⟩
          have HM := Lib.hid hm
          have HOWM : Hid (wq.ownsRow w1.heap.size 9 1 (.slice A m cap) m (l.map Value.string)) := Lib.hid (by rw [← hm]; exact HOWN.out)
          rw [hm] at hlk ⊢
          clear hm HOWN
          go_wp2_with (at_builtin; refine wpList_append_ownB rfl _ _ 154 rfl w1.heap.size 9 j0 _ 1 16 Try.underlying154 HJ0.out HY0.out HY1.out HY2.out rfl (by omega) _ m _ rfl (HOWM.out.alloc _) ⟨wq.heap.size, 0, none⟩ 1 1 [.string x] rfl rfl (cell_one_new _ _ _) (by simp [Value.oneCell']) (by have h3 := HNF.out; unfold maxLen; omega) (by have h3 := HNF.out; omega) (by have := HKP.out.size; simp; omega) ?_; intro v6 w6 hown6 hgr6 hb6; have HO6 := Lib.hid hown6; have HK6 := Lib.hid (show Kp NoB w1 w6 from (HKP.out.alloc _).grown hgr6 (fun k hk => .inl (own_ge HOWM.out k hk))); clear hown6 hgr6 hb6; obtain ⟨A6, c6, rfl⟩ := own_slice HO6.out)
          go_upto_region 7 with fail
          have HMETX := Lib.hid (rmet_new H.out.names HMET.out HF.out)
          rw [HX.out] at HMETX
          obtain ⟨g6, ds6, e6, hb6, _⟩ := own_blk1 HO6.out (by omega)
          subst e6
          have hwm : IntKind.i64.wrap (((m + 1 : Nat) : Int) - 1) = (m : Int) := by rw [IntKind.wrap_i64]; omega
          go_wp2_with fail
          go_loopw [5] (fun v5 wr => NiRel w1 l x g6 c6 v5 wr) (fun v5 _ => (intOf v5).toNat)
          case atStart => exact ⟨m, rfl, by have := HM.out; omega, by rw [HM.out, ← HM.out, downL_top, HM.out, List.map_append]; exact HO6.out, (by rw [← HM.out, List.drop_length]; exact fun y q => (by cases q)), HK6.out⟩
          case round =>
            obtain ⟨wz, rfl⟩ : ∃ wz, wz = wr := ⟨_, rfl⟩
            obtain ⟨j, rfl, hj, hoz, hall, hkz⟩ := hrel
            have HOZ := Lib.hid hoz
            have HALL := Lib.hid hall
            have HKZ := Lib.hid hkz
            clear hoz hall hkz
            have hgz := HOZ.out
            have hm63 := HNF.out
            have hjm : j ≤ m := by have := HM.out; omega
            have HFIN : Hid (∀ j, j ≤ l.length → (∀ y ∈ l.drop j, nLt x y) → (∀ y, (l.take j).getLast? = some y → nLt y x) → RMet d.fs (k + 1) (downL l x j)) := Lib.hid (fun j hj h1 h2 => rmet_add HMET.out HF.out h0 (ins_sorted HMET.out.1 h1 h2) (fun s => by rw [HX.out]; exact downL_mem s))
            have HEND : Hid (∀ j nq, j ≤ l.length → wz.ownsRow w1.heap.size 9 1 (.slice (some ⟨g6, 0, none⟩) (l.length + 1) c6) (l.length + 1) ((downL l x j).map Value.string) → RMet d.fs (k + 1) (downL l x j) → NrRel w1 d p (.slice (some ⟨g6, 0, none⟩) (m + 1) c6) (.int .i64 ((k + 1 : Nat) : Int)) (wz.drewN nq)) := Lib.hid (fun j nq hj ho hr => by
              have e := downL_len (x := x) hj
              refine ⟨k + 1, downL l x j, some ⟨g6, 0, none⟩, c6, rfl, by rw [e, HM.out], ?_, hr, by omega, by rw [e]; have := HM.out; omega, (fun q => by rw [HD.out] at q; cases q), HKZ.out.drewN nq⟩
              rw [e]
              exact own_keepB ho ((Kp.refl NoB wz).drewN nq) (fun _ _ q => q))
            clear hgz
            rcases j with _ | j
            · go_upto_region 8 with fail
              go_quiet (fail)
              go_wp2_with fail
              exact ⟨HEND.out 0 _ (Nat.zero_le _) HOZ.out (HFIN.out 0 (Nat.zero_le _) HALL.out (fun y q => by rw [List.take_zero] at q; cases q)), by simp [intOf]; omega⟩
            · have hjl : j < l.length := by omega
              obtain ⟨y, hy⟩ : ∃ y, l[j] = y := ⟨_, rfl⟩
              obtain ⟨hay, hax⟩ := downL_at (P := l) (x := x) hjl
              rw [hy] at hay
              obtain ⟨cy, zy⟩ := own_atS HOZ.out (k := j) (v := .string y) (by rw [List.getElem?_map, hay]; rfl)
              obtain ⟨cx, zx⟩ := own_atS HOZ.out (k := j + 1) (v := .string x) (by rw [List.getElem?_map, hax]; rfl)
              have HY := Lib.hid hy
              have hwk : IntKind.i64.wrap (((j + 1 : Nat) : Int) - 1) = (j : Int) := by rw [IntKind.wrap_i64]; omega
              have hjp : (0 : Int) < ((j + 1 : Nat) : Int) := by omega
              have hjm1 : ((j + 1 : Nat) : Int) < ((m + 1 : Nat) : Int) := by omega
              have hjm2 : (j : Int) < ((m + 1 : Nat) : Int) := by omega
              have hne : y ≠ x := fun q => HMETX.out (by rw [← q, ← hy]; exact List.getElem_mem hjl)
              have hb2 : (y.toList == x.toList) = false := by rw [str_eqB]; exact decide_eq_false hne
              clear hay hax hy
              by_cases hlt2 : nLt x y
              · have hb1 : Op.bytesLess y.toList x.toList = false := by
                  rw [ByteArray.toList_eq, ByteArray.toList_eq]
                  have h3 := nLt_asym hlt2
                  unfold nLt at h3
                  simpa using h3
                go_upto_region 8 with fail
                go_quiet (fail)
                go_wp2_with fail
                have hg6 : w1.heap.size ≤ g6 := own_ge HOZ.out g6 rfl
                have hos := own_swap (own_keepB HOZ.out ((Kp.refl NoB wz).drewN nq) (fun _ _ q => q)) (.string y) (.string x) (k := j) (by omega)
                rw [← List.map_set, ← List.map_set, ← HY.out, downL_step hjl, HY.out] at hos
                exact ⟨⟨j, rfl, by omega, hos, fun z q => by
                  rw [List.drop_eq_getElem_cons hjl, List.mem_cons] at q
                  rcases q with q | q
                  · rw [q, HY.out]; exact hlt2
                  · exact HALL.out z q, ((HKZ.out.drewN nq).setCell (p := ⟨g6, j + 1, none⟩) (.inl hg6) _).setCell (p := ⟨g6, j, none⟩) (.inl hg6) _⟩, by simp [intOf]⟩
              · have hyx : nLt y x := (nLt_tot y x).elim (fun q => absurd q hne) (fun q => q.elim id (fun z => absurd z hlt2))
                have hb1 : Op.bytesLess y.toList x.toList = true := by
                  rw [ByteArray.toList_eq, ByteArray.toList_eq]
                  exact hyx
                go_upto_region 8 with fail
                go_quiet (fail)
                go_wp2_with fail
                exact ⟨HEND.out (j + 1) _ (by omega) HOZ.out (HFIN.out (j + 1) (by omega) HALL.out (fun z q => by
                  rw [List.getLast?_eq_getElem?, List.length_take, show min (j + 1) l.length - 1 = j by omega, List.getElem?_take, if_pos (by omega), List.getElem?_eq_getElem hjl] at q
                  injection q with q
                  rw [← q, HY.out]
                  exact hyx)), by simp [intOf]; omega⟩
    · have hkk : ¬ (k : Int) < (d.fn : Int) := by omega
      go_wp2_with fail
      go_ret
      refine ⟨A, cap, l, rfl, HOWN.out.mono (by rw [HG1.out]; exact HLT1.out), ⟨HMET.out.1, fun s => ?_⟩, HK1.out.trans HKP.out (fun _ _ q => q)⟩
      rw [HMET.out.2 s, H.out.seen, seenR_ne H.out.names, List.take_of_length_le (by rw [H.out.fl]; omega)]
      constructor
      · rintro ⟨f, hf, e, q⟩
        refine ⟨?_, f, hf, e, q⟩
        cases hd : p.down with
        | false => rfl
        | true =>
          have h0 := HDN.out hd
          have h1 := H.out.fl
          rw [List.eq_nil_of_length_eq_zero (show d.fs.length = 0 by omega)] at hf
          cases hf
      · rintro ⟨_, q⟩
        exact q
end Go.Proofs.Ytegcbdfilkecpaa
/- The law of the disks' play: all that a disk tells is what it must; no condition but on the counts. -/
namespace Go.Proofs.Ytegcbdfilkecpaa
open Go.RowKit

theorem names_q {S : Nat → Prop} {W0 w : World} {db : Nat} {p : Pl} (h : Dq S W0 w db p) (hnf : p.nf < 1099511627776) :
    Calls Try.prog 90 #[ptrV db] w fun e w' => ∃ A cap l, e = .returned (.slice A l.length cap) ∧ w'.ownsRow w.heap.size 9 1 (.slice A l.length cap) l.length (l.map Value.string) ∧ NmsOf p l ∧ l.length ≤ p.nf ∧ Kp NoB w w' := by
  obtain ⟨x, rfl, hd, hp, hk, ho, hz⟩ := h
  exact names_ok w _ x p hnf hd hp
theorem len_seenD {p : Pl} (hd : p.down = false) (s : ByteArray) : p.len s = (p.seen s).length := by unfold Pl.len; rw [hd]; rfl
def nmNo : ByteArray := ⟨#[110, 111, 32, 115, 117, 99, 104, 32, 102, 105, 108, 101]⟩
theorem nmNo_le : nmNo.size ≤ maxLen := by decide
theorem read_allD {p : Pl} (hd : p.down = false) (s : ByteArray) (hl : (p.seen s).length ≤ 1048576) : p.read s 0 1048576 = p.seen s ∧ p.readE 0 1048576 = 0 := by
  have e : p.readE 0 1048576 = 0 := by unfold Pl.readE; rw [hd]; decide
  refine ⟨?_, e⟩
  unfold Pl.read
  rw [if_pos e]
  show ((p.seen s).drop 0).take 1048576 = _
  rw [List.drop_zero, List.take_of_length_le hl]
theorem lt_of_cell {w : World} {g j : Nat} {v : Value} (h : w.cell? ⟨g, j, none⟩ = some v) : g < w.heap.size := block_lt_of_cell h
theorem own_set1 {w : World} {base g m c j : Nat} {xs : List Value} (h : w.ownsRow base 9 1 (.slice (some ⟨g, 0, none⟩) m c) m xs) (z : Value) : (w.setCell ⟨g, j, none⟩ z).ownsRow base 9 1 (.slice (some ⟨g, 0, none⟩) m c) m (xs.set j z) := by
  refine ⟨by rw [List.length_set]; exact h.1, ?_⟩
  rcases h.2 with ⟨q, _⟩ | ⟨g', c', cur, hv, hb, hg, h1, h2, h3, h4⟩
  · cases q
  · injection hv with e1 e2 e3
    injection e1 with e1
    injection e1 with e1
    subst e1 e3
    have hblk : Blk w g 9 cur := hg
    refine .inr ⟨g, c, cur.setIfInBounds j z, rfl, hb, hblk.set_ j z, h1, h2, by simpa using h3, ?_⟩
    rw [← h4]
    simp only [Array.toList_setIfInBounds, Nat.mul_one]
    rw [List.take_set]
/-- the names from the k-th on, "77" ahead of them -/
def LkRel (w1 : World) (base base2 n : Nat) (A B : Option Addr) (c c2 : Nat) (l : List ByteArray) (v : Value) (wr : World) : Prop := ∃ (k : Nat) (xs : List Value), v = .int .i64 (k : Int) ∧ k ≤ n ∧ wr.ownsRow base 9 1 (.slice A n c) n xs ∧ (∀ j, k ≤ j → xs[j]? = (l.map Value.string)[j]?) ∧
  wr.ownsRow base2 9 1 (.slice B n c2) n (l.map Value.string) ∧ Kp NoB w1 wr
set_option maxRecDepth 100000 in
set_option maxHeartbeats 4000000 in
theorem dlook_ok (S : Nat → Prop) (w : World) (db : Nat) (p : Pl) (d : Rd) (hq : Dq S w w db p) (hr : Rf w d p) (hsm : p.sm 100000) :
    Calls Try.prog 35 #[ptrV db, rdV d p] w fun e w' => e = .returned (.bool true) ∧ Kp NoB w w' := by
  have HNF : Hid (p.nf < 1099511627776) := Lib.hid (by unfold Pl.sm at hsm; omega)
  have HQ := Lib.hid hq
  have HR := Lib.hid hr
  clear hq hr hsm
  unfold rdV ptrV
  go_enter Try.func35, Try.ntmps35
  go_upto_region 1 with fail
  have hb1 : Blk (w.alloc (.cells (rdC d p) 56)) w.heap.size 56 (rdC d p) := Blk.new _ _ _
  have hk1 : Kp NoB w (w.alloc (.cells (rdC d p) 56)) := (Kp.refl NoB w).alloc _
  unfold rdC at hb1 hk1
  generalize hg1 : w.heap.size = g1 at hb1 ⊢
  generalize (w.alloc (.cells #[.bool true, .bool p.down, .slice d.fA d.fn d.fc, .slice d.pA d.pn d.pc, .int .i64 p.room, .int .i64 p.steps, .int .i64 p.crash, .int .i64 p.starts] 56)) = w1 at hb1 hk1 ⊢
  have HB1 := Lib.hid (show Blk w1 g1 56 (rdC d p) from hb1)
  have HK1 := Lib.hid hk1
  clear hb1 hk1 hg1
  go_wp2_with fail
  refine (show Calls _ _ #[ptrV db] _ _ from names_q (HQ.out.keep HK1.out) HNF.out).mono ?_
  rintro e w2 ⟨A, c, l, rfl, hown1, hnm1, hln, hk2⟩
  have HO1 := Lib.hid hown1
  have HN1 := Lib.hid hnm1
  have HK2 := Lib.hid hk2
  have HLN := Lib.hid hln
  obtain ⟨b0, b1, b2, b3, b4, b5, b6, b7⟩ := (HB1.out.keep hk2 (fun q => q)).rdc
  clear hown1 hnm1 hk2 hln
  go_wp2_with fail
  refine (show Calls _ _ #[rdV d p] _ _ from names_okR w2 d p (HR.out.keep (HK1.out.trans HK2.out (fun _ _ q => q))) HNF.out).mono ?_
  rintro e w3 ⟨B, c2, l', rfl, hown2, hnm2, hk3⟩
  obtain rfl : l = l' := nms_uniq HN1.out hnm2
  have HO2 := Lib.hid hown2
  have HO1' : Hid (w3.ownsRow w1.heap.size 9 1 (.slice A l.length c) l.length (l.map Value.string)) := Lib.hid (own_keepB HO1.out hk3 (fun _ _ q => q))
  have HK3 := Lib.hid (HK2.out.trans hk3 (fun _ _ q => q))
  have HAL : Hid (∀ g, (Value.slice A l.length c).ownBlock = some g → g < w2.heap.size) := Lib.hid (fun g hg => (HO1.out.lt g hg).2)
  clear hown2 hnm2 hk3 b0 b1 b2 b3 b4 b5 b6 b7 HO1 HK2
  obtain ⟨n, hn⟩ : ∃ n, l.length = n := ⟨_, rfl⟩
  have HLEN := Lib.hid hn
  rw [hn] at HO1' HO2 HLN HAL ⊢
  clear hn
  go_upto_region 3 with fail
  have hpl := HR.out.pl
  have HB3 := Lib.hid (HB1.out.keep HK3.out (fun q => q))
  have HQ3 := Lib.hid (HQ.out.keep (HK1.out.trans HK3.out (fun _ _ q => q)))
  have HR3 := Lib.hid (HR.out.keep (HK1.out.trans HK3.out (fun _ _ q => q)))
  have HK03 := Lib.hid (HK1.out.trans HK3.out (fun _ _ q => q))
  have HQ1 := Lib.hid (HQ.out.keep HK1.out)
  have HR1 := Lib.hid (HR.out.keep HK1.out)
  refine wp_region_held_drew (S := fun V => Kp NoB w3 V) (by kernel_rfl) (Kp.refl NoB w3).drew (fun hHeld => ?_)
  have k0 : Kp NoB w3 w3.drew := (Kp.refl NoB w3).drew
  generalize w3.drew = V0 at k0 hHeld ⊢
  refine tkS (i := 0) (v := (.slice A n c)) rfl (Or.inl ⟨by rfl, fun w' hq => by go_simp⟩) k0 ?_
  simp only [Act.put, skA, skB, skC]
  refine tkS (i := 1) (v := (.int .i64 (n : Int))) rfl (Or.inl ⟨by rfl, fun w' hq => by go_simp⟩) k0 ?_
  simp only [Act.put, skA, skB, skC]
  refine tkS (i := 2) (v := (.slice B n c2)) rfl (Or.inl ⟨by rfl, fun w' hq => by go_simp⟩) k0 ?_
  simp only [Act.put, skA, skB, skC]
  refine tkS (i := 3) (v := (.int .i64 (n : Int))) rfl (Or.inl ⟨by rfl, fun w' hq => by go_simp⟩) k0 ?_
  simp only [Act.put, skA, skB, skC]
  refine tkS (i := 4) (v := (.bool false)) rfl (Or.inl ⟨by rfl, fun w' hq => by go_simp⟩) k0 ?_
  simp only [Act.put, skA, skB, skC]
  refine tkS (i := 5) (v := (.bool false)) rfl (Or.inl ⟨by rfl, fun w' hq => by go_simp⟩) k0 ?_
  simp only [Act.put, skA, skB, skC]
  refine tkS (i := 6) (v := (.pointer (some ⟨db, 0, none⟩))) rfl (Or.inl ⟨by rfl, fun w' hq => by go_simp⟩) k0 ?_
  simp only [Act.put, skA, skB, skC]
  refine tkS (i := 8) (v := (.pointer (some ⟨g1, 1, none⟩))) rfl (Or.inl ⟨by rfl, fun w' hq => by go_simp⟩) k0 ?_
  simp only [Act.put, skA, skB, skC]
  refine tkS (i := 9) (v := (.bool p.down)) rfl (Or.inl ⟨by rfl, fun w' hq => by obtain ⟨e0, e1, e2, e3, e4, e5, e6, e7⟩ := (HB3.out.keep hq (fun q => q)).rdc; go_simp⟩) k0 ?_
  simp only [Act.put, skA, skB, skC]
  refine wpAnyH_ready (rs := [7]) (by kernel_rfl) (by simp) ?_
  refine AllReadyH.callR (fun y W' => y = .bool p.down ∧ Kp NoB w3 W') rfl (by rfl) 23 #[ptrV db] (by first | (go_simp; done) | (go_simp; rfl)) (fun _ _ q => q.2) ((down_q (HQ3.out.keep k0)).mono (by rintro e w19 ⟨rfl, rfl⟩; exact ⟨_, rfl, rfl, k0⟩)) ?_ AllReadyH.nil
  rintro y V1 ⟨rfl, k1⟩
  simp only [Act.put, skA, skB, skC]
  refine tkS (i := 10) (v := (.bool false)) rfl (Or.inl ⟨by rfl, fun w' hq => by go_simp⟩) k1 ?_
  simp only [Act.put, skA, skB, skC]
  refine tkS (i := 11) (v := (.bool false)) rfl (Or.inl ⟨by rfl, fun w' hq => by go_simp⟩) k1 ?_
  simp only [Act.put, skA, skB, skC]
  refine tkS (i := 12) (v := (.bool false)) rfl (Or.inl ⟨by rfl, fun w' hq => by go_simp⟩) k1 ?_
  simp only [Act.put, skA, skB, skC]
  refine tkS (i := 13) (v := (.pointer (some ⟨db, 0, none⟩))) rfl (Or.inl ⟨by rfl, fun w' hq => by go_simp⟩) k1 ?_
  simp only [Act.put, skA, skB, skC]
  refine tkS (i := 15) (v := (.pointer (some ⟨g1, 5, none⟩))) rfl (Or.inl ⟨by rfl, fun w' hq => by go_simp⟩) k1 ?_
  simp only [Act.put, skA, skB, skC]
  refine tkS (i := 16) (v := (.int .i64 p.steps)) rfl (Or.inl ⟨by rfl, fun w' hq => by obtain ⟨e0, e1, e2, e3, e4, e5, e6, e7⟩ := (HB3.out.keep hq (fun q => q)).rdc; go_simp⟩) k1 ?_
  simp only [Act.put, skA, skB, skC]
  refine wpAnyH_ready (rs := [14]) (by kernel_rfl) (by simp) ?_
  refine AllReadyH.callR (fun y W' => y = .int .i64 p.steps ∧ Kp NoB w3 W') rfl (by rfl) 30 #[ptrV db] (by first | (go_simp; done) | (go_simp; rfl)) (fun _ _ q => q.2) ((steps_q (HQ3.out.keep k1)).mono (by rintro e w19 ⟨rfl, rfl⟩; exact ⟨_, rfl, rfl, k1⟩)) ?_ AllReadyH.nil
  rintro y V2 ⟨rfl, k2⟩
  simp only [Act.put, skA, skB, skC]
  refine tkS (i := 17) (v := (.bool false)) rfl (Or.inl ⟨by rfl, fun w' hq => by go_simp⟩) k2 ?_
  simp only [Act.put, skA, skB, skC]
  refine tkS (i := 18) (v := (.bool false)) rfl (Or.inl ⟨by rfl, fun w' hq => by go_simp⟩) k2 ?_
  simp only [Act.put, skA, skB, skC]
  refine tkS (i := 19) (v := (.bool false)) rfl (Or.inl ⟨by rfl, fun w' hq => by go_simp⟩) k2 ?_
  simp only [Act.put, skA, skB, skC]
  refine tkS (i := 20) (v := (.pointer (some ⟨db, 0, none⟩))) rfl (Or.inl ⟨by rfl, fun w' hq => by go_simp⟩) k2 ?_
  simp only [Act.put, skA, skB, skC]
  refine tkS (i := 22) (v := (.pointer (some ⟨g1, 3, none⟩))) rfl (Or.inl ⟨by rfl, fun w' hq => by go_simp⟩) k2 ?_
  simp only [Act.put, skA, skB, skC]
  refine tkS (i := 23) (v := (.slice d.pA d.pn d.pc)) rfl (Or.inl ⟨by rfl, fun w' hq => by obtain ⟨e0, e1, e2, e3, e4, e5, e6, e7⟩ := (HB3.out.keep hq (fun q => q)).rdc; go_simp⟩) k2 ?_
  simp only [Act.put, skA, skB, skC]
  refine tkS (i := 24) (v := (.int .i64 (d.pn : Nat))) rfl (Or.inl ⟨by rfl, fun w' hq => by go_simp⟩) k2 ?_
  simp only [Act.put, skA, skB, skC]
  refine wpAnyH_ready (rs := [21]) (by kernel_rfl) (by simp) ?_
  refine AllReadyH.callR (fun y W' => y = .int .i64 (d.pn : Nat) ∧ Kp NoB w3 W') rfl (by rfl) 31 #[ptrV db] (by first | (go_simp; done) | (go_simp; rfl)) (fun _ _ q => q.2) ((pending_q (HQ3.out.keep k2)).mono (by rintro e w19 ⟨rfl, rfl⟩; exact ⟨_, rfl, by rw [hpl], k2⟩)) ?_ AllReadyH.nil
  rintro y V3 ⟨rfl, k3⟩
  simp only [Act.put, skA, skB, skC]
  refine tkS (i := 25) (v := (.bool false)) rfl (Or.inl ⟨by rfl, fun w' hq => by go_simp⟩) k3 ?_
  simp only [Act.put, skA, skB, skC]
  refine tkS (i := 26) (v := (.bool false)) rfl (Or.inl ⟨by rfl, fun w' hq => by go_simp⟩) k3 ?_
  simp only [Act.put, skA, skB, skC]
  refine tkS (i := 27) (v := (.bool false)) rfl (Or.inl ⟨by rfl, fun w' hq => by go_simp⟩) k3 ?_
  simp only [Act.put, skA, skB, skC]
  refine tkS (i := 28) (v := (.pointer (some ⟨db, 0, none⟩))) rfl (Or.inl ⟨by rfl, fun w' hq => by go_simp⟩) k3 ?_
  simp only [Act.put, skA, skB, skC]
  refine tkS (i := 30) (v := (.pointer (some ⟨g1, 7, none⟩))) rfl (Or.inl ⟨by rfl, fun w' hq => by go_simp⟩) k3 ?_
  simp only [Act.put, skA, skB, skC]
  refine tkS (i := 31) (v := (.int .i64 p.starts)) rfl (Or.inl ⟨by rfl, fun w' hq => by obtain ⟨e0, e1, e2, e3, e4, e5, e6, e7⟩ := (HB3.out.keep hq (fun q => q)).rdc; go_simp⟩) k3 ?_
  simp only [Act.put, skA, skB, skC]
  refine wpAnyH_ready (rs := [29]) (by kernel_rfl) (by simp) ?_
  refine AllReadyH.callR (fun y W' => y = .int .i64 p.starts ∧ Kp NoB w3 W') rfl (by rfl) 92 #[ptrV db] (by first | (go_simp; done) | (go_simp; rfl)) (fun _ _ q => q.2) ((starts_q (HQ3.out.keep k3)).mono (by rintro e w19 ⟨rfl, rfl⟩; exact ⟨_, rfl, rfl, k3⟩)) ?_ AllReadyH.nil
  rintro y V4 ⟨rfl, k4⟩
  simp only [Act.put, skA, skB, skC]
  refine tkS (i := 32) (v := (.bool false)) rfl (Or.inl ⟨by rfl, fun w' hq => by go_simp⟩) k4 ?_
  simp only [Act.put, skA, skB, skC]
  refine tkS (i := 33) (v := (.bool false)) rfl (Or.inl ⟨by rfl, fun w' hq => by go_simp⟩) k4 ?_
  simp only [Act.put, skA, skB, skC]
  refine wpAnyH_done (by kernel_rfl) ?_ _
  have HK4 := Lib.hid k4
  have hkk4 : ∃ xs : List Value, V4.ownsRow w1.heap.size 9 1 (.slice A n c) n xs ∧ (∀ j, 0 ≤ j → xs[j]? = (l.map Value.string)[j]?) := ⟨_, own_keepB HO1'.out k4 (fun _ _ q => q), fun _ _ => rfl⟩
  have HO14 := Lib.hid hkk4
  have HO24 := Lib.hid (own_keepB HO2.out k4 (fun _ _ q => q))
  clear hHeld k0 k1 k2 k3 k4 hkk4 HO1' HO2
  go_wp2_with fail
  go_loopw [7] (fun v7 wr => LkRel w1 w1.heap.size w2.heap.size n A B c c2 l v7 wr) (fun v7 _ => n - (intOf v7).toNat)
  case atStart =>
    obtain ⟨xs, h1, h2⟩ := HO14.out
    exact ⟨0, xs, rfl, Nat.zero_le _, h1, h2, HO24.out, HK3.out.trans HK4.out (fun _ _ q => q)⟩
  case round =>
    obtain ⟨wq, rfl⟩ : ∃ wq, wq = wr := ⟨_, rfl⟩
    obtain ⟨k, xs, rfl, hk, ho1, hxs, ho2, hkp⟩ := hrel
    have HOA := Lib.hid ho1
    have HXS := Lib.hid hxs
    have HOB := Lib.hid ho2
    have HKP := Lib.hid hkp
    clear ho1 hxs ho2 hkp
    have hn63 : n < 1099511627776 := by have h1 := HLN.out; have h2 := HNF.out; omega
    by_cases hlt : k < n
    · have hkk : (k : Int) < (n : Int) := by omega
      obtain ⟨x, hx⟩ : ∃ x, l[k]? = some x := ⟨_, List.getElem?_eq_getElem (by rw [HLEN.out]; exact hlt)⟩
      have hd : p.down = false ∧ p.seen x ≠ [] := (HN1.out.2 x).1 (List.mem_of_getElem? hx)
      obtain ⟨gA, _, rfl, _, _⟩ := own_blk1 HOA.out (by omega)
      obtain ⟨gB, _, rfl, _, _⟩ := own_blk1 HOB.out (by omega)
      have hmx : (l.map Value.string)[k]? = some (.string x) := by rw [List.getElem?_map, hx]; rfl
      obtain ⟨cA, zA⟩ := own_atS HOA.out (k := k) (v := .string x) (by rw [HXS.out k (Nat.le_refl _)]; exact hmx)
      obtain ⟨cB, zB⟩ := own_atS HOB.out (k := k) (v := .string x) hmx
      have hgA := HOA.out
      have HXL : Hid (x.size ≤ maxLen) := Lib.hid (by
        have h2 := hd.2
        rw [HR.out.seen, seenR_ne HR.out.names] at h2
        obtain ⟨f, hf, rfl, _⟩ := h2
        exact (HR.out.fok f hf).nl)
      have HD := Lib.hid hd.1
      have hls := (HQ1.out.seen_le x)
      have hra := read_allD HD.out x hls
      have HRA := Lib.hid hra
      have HLS := Lib.hid (len_seenD HD.out x)
      obtain ⟨SX, hSX⟩ : ∃ s, strOf (p.seen x) = s := ⟨_, rfl⟩
      have hsz : SX.size = (p.seen x).length := by rw [← hSX]; exact strOf_size _
      have HSX := Lib.hid hSX
      obtain ⟨N, hN⟩ : ∃ N, (p.seen x).length = N := ⟨_, rfl⟩
      rw [hN] at hsz HLS
      have CA := Lib.hid cA
      have CB := Lib.hid cB
      have ZA := Lib.hid zA
      clear hx hd hmx zA zB hgA hra hSX hN hls
      go_wp2_with fail
      refine (show Calls _ _ #[ptrV db, .string x, .int .i64 0, .int .i64 1048576] _ _ from read_q (HQ1.out.keep HKP.out) x 0 1048576 HXL.out (by omega) (by omega)).mono ?_
      rintro e w5 ⟨rfl, hk5⟩
      rw [HRA.out.1, HRA.out.2, HSX.out]
      have HK5 := Lib.hid (HKP.out.trans hk5 (fun _ _ q => q))
      have HK5' := Lib.hid hk5
      have hltA : gA < wq.heap.size := lt_of_cell CA.out
      have hltB : gB < wq.heap.size := lt_of_cell CB.out
      have HLA := Lib.hid hltA
      have HLB := Lib.hid hltB
      clear hk5 cA cB hltA hltB
      go_upto_region 9 with fail
      refine wp_region_held_drew (S := fun V => Kp NoB wq V) (by kernel_rfl) HK5'.out.drew (fun hHeld => ?_)
      have k0 : Kp NoB wq w5.drew := HK5'.out.drew
      generalize w5.drew = V0 at k0 hHeld ⊢
      refine tkS (i := 0) (v := (.slice (some ⟨gA, 0, none⟩) n c)) rfl (Or.inl ⟨by rfl, fun w' hq => by go_simp⟩) k0 ?_
      simp only [Act.put, skA, skB, skC]
      refine tkS (i := 1) (v := (.int .i64 (k : Int))) rfl (Or.inl ⟨by rfl, fun w' hq => by go_simp⟩) k0 ?_
      simp only [Act.put, skA, skB, skC]
      refine tkS (i := 2) (v := (.pointer (some ⟨gA, k, none⟩))) rfl (Or.inl ⟨by rfl, fun w' hq => by go_simp⟩) k0 ?_
      simp only [Act.put, skA, skB, skC]
      refine tkS (i := 3) (v := (.string x)) rfl (Or.inl ⟨by rfl, fun w' hq => by have cA := (hq.cell HLA.out (fun q => q)).trans CA.out; go_simp⟩) k0 ?_
      simp only [Act.put, skA, skB, skC]
      refine tkS (i := 4) (v := (.slice (some ⟨gB, 0, none⟩) n c2)) rfl (Or.inl ⟨by rfl, fun w' hq => by go_simp⟩) k0 ?_
      simp only [Act.put, skA, skB, skC]
      refine tkS (i := 5) (v := (.int .i64 (k : Int))) rfl (Or.inl ⟨by rfl, fun w' hq => by go_simp⟩) k0 ?_
      simp only [Act.put, skA, skB, skC]
      refine tkS (i := 6) (v := (.pointer (some ⟨gB, k, none⟩))) rfl (Or.inl ⟨by rfl, fun w' hq => by go_simp⟩) k0 ?_
      simp only [Act.put, skA, skB, skC]
      refine tkS (i := 7) (v := (.string x)) rfl (Or.inl ⟨by rfl, fun w' hq => by have cB := (hq.cell HLB.out (fun q => q)).trans CB.out; go_simp⟩) k0 ?_
      simp only [Act.put, skA, skB, skC]
      refine tkS (i := 8) (v := (.bool false)) rfl (Or.inl ⟨by rfl, fun w' hq => by go_simp⟩) k0 ?_
      simp only [Act.put, skA, skB, skC]
      refine tkS (i := 9) (v := (.bool false)) rfl (Or.inl ⟨by rfl, fun w' hq => by go_simp⟩) k0 ?_
      simp only [Act.put, skA, skB, skC]
      refine tkS (i := 10) (v := (.int .i64 0)) rfl (Or.inl ⟨by rfl, fun w' hq => by go_simp⟩) k0 ?_
      simp only [Act.put, skA, skB, skC]
      refine tkS (i := 11) (v := (.bool false)) rfl (Or.inl ⟨by rfl, fun w' hq => by go_simp⟩) k0 ?_
      simp only [Act.put, skA, skB, skC]
      refine tkS (i := 12) (v := (.bool false)) rfl (Or.inl ⟨by rfl, fun w' hq => by go_simp⟩) k0 ?_
      simp only [Act.put, skA, skB, skC]
      refine tkS (i := 13) (v := (.bool false)) rfl (Or.inl ⟨by rfl, fun w' hq => by go_simp⟩) k0 ?_
      simp only [Act.put, skA, skB, skC]
      refine tkS (i := 14) (v := (.string SX)) rfl (Or.inl ⟨by rfl, fun w' hq => by go_simp⟩) k0 ?_
      simp only [Act.put, skA, skB, skC]
      refine tkS (i := 15) (v := (rdV d p)) rfl (Or.inl ⟨by rfl, fun w' hq => by obtain ⟨e0, e1, e2, e3, e4, e5, e6, e7⟩ := ((HB1.out.keep HKP.out (fun q => q)).keep hq (fun q => q)).rdc; unfold rdV; go_simp⟩) k0 ?_
      simp only [Act.put, skA, skB, skC]
      refine tkS (i := 16) (v := (.slice (some ⟨gB, 0, none⟩) n c2)) rfl (Or.inl ⟨by rfl, fun w' hq => by go_simp⟩) k0 ?_
      simp only [Act.put, skA, skB, skC]
      refine tkS (i := 17) (v := (.int .i64 (k : Int))) rfl (Or.inl ⟨by rfl, fun w' hq => by go_simp⟩) k0 ?_
      simp only [Act.put, skA, skB, skC]
      refine tkS (i := 18) (v := (.pointer (some ⟨gB, k, none⟩))) rfl (Or.inl ⟨by rfl, fun w' hq => by go_simp⟩) k0 ?_
      simp only [Act.put, skA, skB, skC]
      refine tkS (i := 19) (v := (.string x)) rfl (Or.inl ⟨by rfl, fun w' hq => by have cB := (hq.cell HLB.out (fun q => q)).trans CB.out; go_simp⟩) k0 ?_
      simp only [Act.put, skA, skB, skC]
      refine wpAnyH_ready (rs := [20]) (by kernel_rfl) (by simp) ?_
      refine AllReadyH.callR (fun y W' => y = .string SX ∧ Kp NoB wq W') rfl (by rfl) 29 #[rdV d p, .string x] (by first | (go_simp; done) | (go_simp; rfl)) (fun _ _ q => q.2) ((seen_ok V0 d p x (HR1.out.keep (HKP.out.trans k0 (fun _ _ q => q))) HNF.out).mono (by rintro e w19 ⟨rfl, hk⟩; exact ⟨_, rfl, by rw [HSX.out], k0.trans hk (fun _ _ z => z)⟩)) ?_ AllReadyH.nil
      rintro y V1 ⟨rfl, k1⟩
      simp only [Act.put, skA, skB, skC]
      refine tkS (i := 21) (v := (.bool false)) rfl (Or.inl ⟨by rfl, fun w' hq => by go_simp⟩) k1 ?_
      simp only [Act.put, skA, skB, skC]
      refine tkS (i := 22) (v := (.bool false)) rfl (Or.inl ⟨by rfl, fun w' hq => by go_simp⟩) k1 ?_
      simp only [Act.put, skA, skB, skC]
      refine tkS (i := 23) (v := (.bool false)) rfl (Or.inl ⟨by rfl, fun w' hq => by go_simp⟩) k1 ?_
      simp only [Act.put, skA, skB, skC]
      refine tkS (i := 24) (v := (.pointer (some ⟨db, 0, none⟩))) rfl (Or.inl ⟨by rfl, fun w' hq => by go_simp⟩) k1 ?_
      simp only [Act.put, skA, skB, skC]
      refine tkS (i := 25) (v := (.slice (some ⟨gA, 0, none⟩) n c)) rfl (Or.inl ⟨by rfl, fun w' hq => by go_simp⟩) k1 ?_
      simp only [Act.put, skA, skB, skC]
      refine tkS (i := 26) (v := (.int .i64 (k : Int))) rfl (Or.inl ⟨by rfl, fun w' hq => by go_simp⟩) k1 ?_
      simp only [Act.put, skA, skB, skC]
      refine tkS (i := 27) (v := (.pointer (some ⟨gA, k, none⟩))) rfl (Or.inl ⟨by rfl, fun w' hq => by go_simp⟩) k1 ?_
      simp only [Act.put, skA, skB, skC]
      refine tkS (i := 28) (v := (.string x)) rfl (Or.inl ⟨by rfl, fun w' hq => by have cA := (hq.cell HLA.out (fun q => q)).trans CA.out; go_simp⟩) k1 ?_
      simp only [Act.put, skA, skB, skC]
      refine tkS (i := 30) (v := (.string SX)) rfl (Or.inl ⟨by rfl, fun w' hq => by go_simp⟩) k1 ?_
      simp only [Act.put, skA, skB, skC]
      refine tkS (i := 31) (v := (.int .i64 (N : Nat))) rfl (Or.inl ⟨by rfl, fun w' hq => by have hszz := hsz; go_simp⟩) k1 ?_
      simp only [Act.put, skA, skB, skC]
      refine wpAnyH_ready (rs := [29]) (by kernel_rfl) (by simp) ?_
      refine AllReadyH.callR (fun y W' => y = .int .i64 (N : Nat) ∧ Kp NoB wq W') rfl (by rfl) 67 #[ptrV db, .string x] (by first | (go_simp; done) | (go_simp; rfl)) (fun _ _ q => q.2) ((len_q (HQ1.out.keep (HKP.out.trans k1 (fun _ _ q => q))) x HXL.out).mono (by rintro e w19 ⟨rfl, rfl⟩; exact ⟨_, rfl, by rw [HLS.out], k1⟩)) ?_ AllReadyH.nil
      rintro y V2 ⟨rfl, k2⟩
      simp only [Act.put, skA, skB, skC]
      refine tkS (i := 32) (v := (.bool false)) rfl (Or.inl ⟨by rfl, fun w' hq => by go_simp⟩) k2 ?_
      simp only [Act.put, skA, skB, skC]
      refine tkS (i := 33) (v := (.bool false)) rfl (Or.inl ⟨by rfl, fun w' hq => by go_simp⟩) k2 ?_
      simp only [Act.put, skA, skB, skC]
      refine wpAnyH_done (by kernel_rfl) ?_ _
      have HK2 := Lib.hid k2
      clear hHeld k0 k1 k2
      have cA := (HK2.out.cell HLA.out (fun q => q)).trans CA.out
      have zA : V2.frozen? ⟨gA, k, none⟩ = false := (World.frozen?_of_block (w := wq) (HK2.out.block gA HLA.out (fun q => q))).trans ZA.out
      have hltA : gA < V2.heap.size := lt_of_cell cA
      go_wp2_with fail
      have hgA : w1.heap.size ≤ gA := own_ge HOA.out gA rfl
      have hgB : w2.heap.size ≤ gB := own_ge HOB.out gB rfl
      have hgl : gA < w2.heap.size := HAL.out gA rfl
      have hne : ∀ g, (Value.slice (some ⟨gB, 0, none⟩) n c2).ownBlock = some g → ¬ OnB gA g := fun g hg q => by
        have e1 : gB = g := by injection hg
        have e2 : g = gA := q
        omega
      exact ⟨⟨k + 1, xs.set k (.string ⟨#[55, 55]⟩), by congr 1, by omega, own_set1 (own_keepB HOA.out HK2.out (fun _ _ q => q)) _, fun j hj => by
          rw [List.getElem?_set_ne (by omega)]
          exact HXS.out j (by omega), own_keepB (own_keepB HOB.out HK2.out (fun _ _ q => q)) ((Kp.refl (OnB gA) V2).setAt (g := gA) rfl k _) hne,
          (HKP.out.trans HK2.out (fun _ _ q => q)).setCell (p := ⟨gA, k, none⟩) (.inl hgA) _⟩, by simp [intOf]; omega⟩
    · have hkk : ¬ (k : Int) < (n : Int) := by omega
      obtain ⟨b0, b1, b2, b3, b4, b5, b6, b7⟩ := (HB1.out.keep HKP.out (fun q => q)).rdc
      go_wp2_with fail
      refine (show Calls _ _ #[rdV d p, .string ⟨#[110, 111, 32, 115, 117, 99, 104, 32, 102, 105, 108, 101]⟩] _ _ from seen_ok wq d p nmNo (HR1.out.keep HKP.out) HNF.out).mono ?_
      rintro e w5 ⟨rfl, hk5⟩
      have HK5 := Lib.hid (HKP.out.trans hk5 (fun _ _ q => q))
      clear hk5 b0 b1 b2 b3 b4 b5 b6 b7
      obtain ⟨b0, b1, b2, b3, b4, b5, b6, b7⟩ := (HB1.out.keep HK5.out (fun q => q)).rdc
      obtain ⟨SX, hSX⟩ : ∃ s, strOf (p.seen nmNo) = s := ⟨_, rfl⟩
      have hsz : SX.size = (p.seen nmNo).length := by rw [← hSX]; exact strOf_size _
      obtain ⟨N, hN⟩ : ∃ N, (p.seen nmNo).length = N := ⟨_, rfl⟩
      rw [hSX]
      rw [hN] at hsz
      by_cases hd : p.down = true
      · rw [hd] at b1
        have hl : p.len nmNo = 0 := by unfold Pl.len; rw [if_pos hd]
        have HL := Lib.hid hl
        clear hd hl hSX hN
        go_wp2_with fail
        refine (show Calls _ _ #[ptrV db, .string ⟨#[110, 111, 32, 115, 117, 99, 104, 32, 102, 105, 108, 101]⟩] _ _ from len_q (HQ1.out.keep HK5.out) nmNo nmNo_le).mono ?_
        rintro e w6 ⟨rfl, rfl⟩
        rw [HL.out]
        go_wp2_with fail
        go_ret
        exact ⟨rfl, HK1.out.trans HK5.out (fun _ _ q => q)⟩
      · have hd' : p.down = false := by simpa using hd
        have HL : Hid (p.len nmNo = N) := Lib.hid (by rw [len_seenD hd', hN])
        rw [hd'] at b1
        clear hd hd' hSX hN
        go_wp2_with fail
        refine (show Calls _ _ #[ptrV db, .string ⟨#[110, 111, 32, 115, 117, 99, 104, 32, 102, 105, 108, 101]⟩] _ _ from len_q (HQ1.out.keep HK5.out) nmNo nmNo_le).mono ?_
        rintro e w6 ⟨rfl, rfl⟩
        rw [HL.out]
        go_wp2_with fail
        go_ret
        exact ⟨rfl, HK1.out.trans HK5.out (fun _ _ q => q)⟩
end Go.Proofs.Ytegcbdfilkecpaa
/- Without a disk every call reports that; no condition. -/
namespace Go.Proofs.Ytegcbdfilkecpaa
open Go.RowKit

set_option maxRecDepth 100000 in
theorem is_nil (w : World) : Calls Try.prog 69 #[.pointer none] w fun e w' => e = .returned (.bool false) ∧ w = w' := by
  go_enter Try.func69, Try.ntmps69
  go_wp2_with (fail)
  go_ret
  exact ⟨rfl, rfl⟩
set_option maxRecDepth 100000 in
theorem wrong_nil (w : World) : Calls Try.prog 80 #[.pointer none] w fun e w' => e = .returned (.int .i64 1) ∧ w = w' := by
  go_enter Try.func80, Try.ntmps80
  go_wp2_with (go_at_call 69; go_must (refine (is_nil _).mono ?_); rintro e w2 ⟨rfl, rfl⟩)
  go_ret
  exact ⟨rfl, rfl⟩
set_option maxRecDepth 100000 in
theorem read_nil (w : World) (s : ByteArray) (a n : Int) : Calls Try.prog 28 #[.pointer none, .string s, .int .i64 a, .int .i64 n] w fun e w' => e = .returned (.tuple #[.string ⟨#[]⟩, .int .i64 1]) ∧ w = w' := by
  go_enter Try.func28, Try.ntmps28
  go_wp2_with (go_at_call 80; go_must (refine (wrong_nil _).mono ?_); rintro e w2 ⟨rfl, rfl⟩)
  go_ret2
  exact ⟨rfl, rfl⟩
set_option maxRecDepth 100000 in
theorem write_nil (w : World) (s : ByteArray) (a : Int) (d : ByteArray) : Calls Try.prog 78 #[.pointer none, .string s, .int .i64 a, .string d] w fun e w' => e = .returned (.int .i64 1) ∧ w = w' := by
  go_enter Try.func78, Try.ntmps78
  go_wp2_with (go_at_call 80; go_must (refine (wrong_nil _).mono ?_); rintro e w2 ⟨rfl, rfl⟩)
  go_ret
  exact ⟨rfl, rfl⟩
set_option maxRecDepth 100000 in
theorem trunc_nil (w : World) (s : ByteArray) (n : Int) : Calls Try.prog 86 #[.pointer none, .string s, .int .i64 n] w fun e w' => e = .returned (.int .i64 1) ∧ w = w' := by
  go_enter Try.func86, Try.ntmps86
  go_wp2_with (go_at_call 80; go_must (refine (wrong_nil _).mono ?_); rintro e w2 ⟨rfl, rfl⟩)
  go_ret
  exact ⟨rfl, rfl⟩
set_option maxRecDepth 100000 in
theorem len_nil (w : World) (s : ByteArray) : Calls Try.prog 67 #[.pointer none, .string s] w fun e w' => e = .returned (.int .i64 0) ∧ w = w' := by
  go_enter Try.func67, Try.ntmps67
  go_wp2_with (go_at_call 69; go_must (refine (is_nil _).mono ?_); rintro e w2 ⟨rfl, rfl⟩)
  go_ret
  exact ⟨rfl, rfl⟩
set_option maxRecDepth 100000 in
theorem names_nil (w : World) : Calls Try.prog 90 #[.pointer none] w fun e w' => e = .returned (.slice none 0 0) ∧ w = w' := by
  go_enter Try.func90, Try.ntmps90
  go_wp2_with (go_at_call 69; go_must (refine (is_nil _).mono ?_); rintro e w2 ⟨rfl, rfl⟩)
  go_ret
  exact ⟨rfl, rfl⟩
set_option maxRecDepth 100000 in
theorem setroom_nil (w : World) (n : Int) : Calls Try.prog 76 #[.pointer none, .int .i64 n] w fun e w' => e = .returned (.tuple #[]) ∧ w = w' := by
  go_enter Try.func76, Try.ntmps76
  go_wp2_with (go_at_call 69; go_must (refine (is_nil _).mono ?_); rintro e w2 ⟨rfl, rfl⟩)
  exact bodyPost_end (results_none rfl _ _ _) rfl ⟨rfl, rfl⟩
set_option maxRecDepth 100000 in
theorem crashin_nil (w : World) (n : Int) : Calls Try.prog 22 #[.pointer none, .int .i64 n] w fun e w' => e = .returned (.tuple #[]) ∧ w = w' := by
  go_enter Try.func22, Try.ntmps22
  go_wp2_with (go_at_call 69; go_must (refine (is_nil _).mono ?_); rintro e w2 ⟨rfl, rfl⟩)
  exact bodyPost_end (results_none rfl _ _ _) rfl ⟨rfl, rfl⟩
set_option maxRecDepth 100000 in
theorem crash_nil (w : World) : Calls Try.prog 24 #[.pointer none] w fun e w' => e = .returned (.tuple #[]) ∧ w = w' := by
  go_enter Try.func24, Try.ntmps24
  go_wp2_with (go_at_call 69; go_must (refine (is_nil _).mono ?_); rintro e w2 ⟨rfl, rfl⟩)
  exact bodyPost_end (results_none rfl _ _ _) rfl ⟨rfl, rfl⟩
set_option maxRecDepth 100000 in
theorem down_nil (w : World) : Calls Try.prog 23 #[.pointer none] w fun e w' => e = .returned (.bool false) ∧ w = w' := by
  go_enter Try.func23, Try.ntmps23
  go_wp2_with (go_at_call 69; go_must (refine (is_nil _).mono ?_); rintro e w2 ⟨rfl, rfl⟩)
  go_ret
  exact ⟨rfl, rfl⟩
set_option maxRecDepth 100000 in
theorem steps_nil (w : World) : Calls Try.prog 30 #[.pointer none] w fun e w' => e = .returned (.int .i64 0) ∧ w = w' := by
  go_enter Try.func30, Try.ntmps30
  go_wp2_with (go_at_call 69; go_must (refine (is_nil _).mono ?_); rintro e w2 ⟨rfl, rfl⟩)
  go_ret
  exact ⟨rfl, rfl⟩
set_option maxRecDepth 100000 in
theorem pending_nil (w : World) : Calls Try.prog 31 #[.pointer none] w fun e w' => e = .returned (.int .i64 0) ∧ w = w' := by
  go_enter Try.func31, Try.ntmps31
  go_wp2_with (go_at_call 69; go_must (refine (is_nil _).mono ?_); rintro e w2 ⟨rfl, rfl⟩)
  go_ret
  exact ⟨rfl, rfl⟩
set_option maxRecDepth 100000 in
theorem starts_nil (w : World) : Calls Try.prog 92 #[.pointer none] w fun e w' => e = .returned (.int .i64 0) ∧ w = w' := by
  go_enter Try.func92, Try.ntmps92
  go_wp2_with (go_at_call 69; go_must (refine (is_nil _).mono ?_); rintro e w2 ⟨rfl, rfl⟩)
  go_ret
  exact ⟨rfl, rfl⟩
set_option maxRecDepth 100000 in
theorem copy_nil (w : World) : Calls Try.prog 33 #[.pointer none] w fun e w' => e = .returned (.pointer none) ∧ w = w' := by
  go_enter Try.func33, Try.ntmps33
  go_wp2_with (go_at_call 69; go_must (refine (is_nil _).mono ?_); rintro e w2 ⟨rfl, rfl⟩)
  go_ret
  exact ⟨rfl, rfl⟩
set_option maxRecDepth 100000 in
theorem sync_nil (w : World) (s : ByteArray) : Calls Try.prog 88 #[.pointer none, .string s] w fun e w' => e = .returned (.int .i64 1) ∧ Kp NoB w w' := by
  go_enter Try.func88, Try.ntmps88
  go_wp2_with (go_at_call 80; go_must (refine (wrong_nil _).mono ?_); rintro e w2 ⟨rfl, rfl⟩)
  go_ret
  exact ⟨rfl, (Kp.refl NoB w).alloc _⟩
set_option maxRecDepth 100000 in
theorem restart_nil (w : World) (A : Option Addr) (n c : Nat) : Calls Try.prog 47 #[.pointer none, .slice A n c] w fun e w' => e = .returned (.int .i64 1) ∧ w = w' := by
  go_enter Try.func47, Try.ntmps47
  go_wp2_with (go_at_call 69; go_must (refine (is_nil _).mono ?_); rintro e w2 ⟨rfl, rfl⟩)
  go_ret
  exact ⟨rfl, rfl⟩
end Go.Proofs.Ytegcbdfilkecpaa
/- The law of the disks' play: no disk at all; no condition. -/
namespace Go.Proofs.Ytegcbdfilkecpaa
open Go.RowKit

def zV : Value := .agg rdZ
set_option maxRecDepth 100000 in
theorem zwrong (w : World) : Calls Try.prog 134 #[zV] w fun e w' => e = .returned (.int .i64 1) ∧ Kp NoB w w' := by
  unfold zV rdZ
  go_enter Try.func134, Try.ntmps134
  go_wp2_with fail
  go_ret
  exact ⟨rfl, (Kp.refl NoB w).alloc _⟩
set_option maxRecDepth 100000 in
set_option maxHeartbeats 800000 in
theorem zread (w : World) (s : ByteArray) (a n : Int) : Calls Try.prog 85 #[zV, .string s, .int .i64 a, .int .i64 n] w fun e w' => e = .returned (.tuple #[.string ⟨#[]⟩, .int .i64 1]) ∧ Kp NoB w w' := by
  unfold zV rdZ
  go_enter Try.func85, Try.ntmps85
  go_wp2_with (go_at_call 134; go_must (refine (show Calls _ _ #[zV] _ _ from zwrong _).mono ?_); rintro e w2 ⟨rfl, hk2⟩; have HK2 := Lib.hid (((Kp.refl NoB w).alloc _).trans hk2 (fun _ _ q => q)); clear hk2)
  go_ret2
  exact ⟨rfl, HK2.out⟩
set_option maxRecDepth 100000 in
set_option maxHeartbeats 800000 in
theorem zwrite (w : World) (s : ByteArray) (a : Int) (D : ByteArray) : Calls Try.prog 79 #[zV, .string s, .int .i64 a, .string D] w fun e w' => e = .returned (.tuple #[zV, .int .i64 1]) ∧ Kp NoB w w' := by
  unfold zV rdZ
  go_enter Try.func79, Try.ntmps79
  go_upto_region 1 with fail
  have hb0 : Blk ((w.alloc (.cells rdZ 56)).alloc (.cells rdZ 56)) w.heap.size 56 rdZ := (Blk.new _ _ _).alloc _
  have hb2 : Blk ((w.alloc (.cells rdZ 56)).alloc (.cells rdZ 56)) (w.heap.size + 1) 56 rdZ := Blk.top (by simp)
  have hk : Kp NoB w ((w.alloc (.cells rdZ 56)).alloc (.cells rdZ 56)) := ((Kp.refl NoB w).alloc _).alloc _
  unfold rdZ at hb0 hb2 hk
  generalize ((w.alloc (.cells #[.bool false, .bool false, .slice none 0 0, .slice none 0 0, .int .i64 0, .int .i64 0, .int .i64 0, .int .i64 0] 56)).alloc (.cells #[.bool false, .bool false, .slice none 0 0, .slice none 0 0, .int .i64 0, .int .i64 0, .int .i64 0, .int .i64 0] 56)) = w1 at hb0 hb2 hk ⊢
  generalize hs0 : w.heap.size = s0 at hb0 hb2 ⊢
  have HS0 : Hid (w.heap.size ≤ s0 + 1) := Lib.hid (by omega)
  have HB0 := Lib.hid (show Blk w1 s0 56 rdZ from hb0)
  have HB2 := Lib.hid (show Blk w1 (s0 + 1) 56 rdZ from hb2)
  have HK := Lib.hid hk
  clear hb0 hb2 hk hs0
  obtain ⟨c0, c1, c2, c3, c4, c5, c6, c7⟩ := HB0.out.c8
  obtain ⟨y0, y1, y2, y3, y4, y5, y6, y7⟩ := HB2.out.c8
  obtain ⟨z0, z1, z2, z3, z4, z5, z6, z7⟩ := HB2.out.z8
  have hl0 := HB0.out.lt
  have hl2 := HB2.out.lt
  go_wp2_with fail
  refine (show Calls _ _ #[zV] _ _ from zwrong w1).mono ?_
  rintro e w2 ⟨rfl, hk2⟩
  have HB0' := Lib.hid (HB0.out.keep hk2 (fun q => q))
  have HB2' := Lib.hid (HB2.out.keep hk2 (fun q => q))
  have HK' := Lib.hid (HK.out.trans hk2 (fun _ _ q => q))
  clear hk2 HB0 HB2 HK c0 c1 c2 c3 c4 c5 c6 c7 y0 y1 y2 y3 y4 y5 y6 y7 z0 z1 z2 z3 z4 z5 z6 z7 hl0 hl2
  have HB0 := HB0'
  have HB2 := HB2'
  have HK := HK'
  clear HB0' HB2' HK'
  obtain ⟨c0, c1, c2, c3, c4, c5, c6, c7⟩ := HB0.out.c8
  obtain ⟨y0, y1, y2, y3, y4, y5, y6, y7⟩ := HB2.out.c8
  obtain ⟨z0, z1, z2, z3, z4, z5, z6, z7⟩ := HB2.out.z8
  have hl0 := HB0.out.lt
  have hl2 := HB2.out.lt
  go_wp2_with fail
  refine bodyPost_ret (ret_cell_tmp rfl _ _ _ _ _ _ rfl (blk8 HB2.out rfl) Try.underlying56 rfl (by exact infoRd) _ rfl) rfl ⟨rfl, ?_⟩
  exact HK.out.trans (kp8 (Kp.refl (OnB (s0 + 1)) w2) (.inr rfl)) (fun i hi q => by have h1 := HS0.out; have q' : i = s0 + 1 := q; omega)
set_option maxRecDepth 100000 in
set_option maxHeartbeats 800000 in
theorem ztrunc (w : World) (s : ByteArray) (n : Int) : Calls Try.prog 87 #[zV, .string s, .int .i64 n] w fun e w' => e = .returned (.tuple #[zV, .int .i64 1]) ∧ Kp NoB w w' := by
  unfold zV rdZ
  go_enter Try.func87, Try.ntmps87
  go_upto_region 1 with fail
  have hb0 : Blk ((w.alloc (.cells rdZ 56)).alloc (.cells rdZ 56)) w.heap.size 56 rdZ := (Blk.new _ _ _).alloc _
  have hb2 : Blk ((w.alloc (.cells rdZ 56)).alloc (.cells rdZ 56)) (w.heap.size + 1) 56 rdZ := Blk.top (by simp)
  have hk : Kp NoB w ((w.alloc (.cells rdZ 56)).alloc (.cells rdZ 56)) := ((Kp.refl NoB w).alloc _).alloc _
  unfold rdZ at hb0 hb2 hk
  generalize ((w.alloc (.cells #[.bool false, .bool false, .slice none 0 0, .slice none 0 0, .int .i64 0, .int .i64 0, .int .i64 0, .int .i64 0] 56)).alloc (.cells #[.bool false, .bool false, .slice none 0 0, .slice none 0 0, .int .i64 0, .int .i64 0, .int .i64 0, .int .i64 0] 56)) = w1 at hb0 hb2 hk ⊢
  generalize hs0 : w.heap.size = s0 at hb0 hb2 ⊢
  have HS0 : Hid (w.heap.size ≤ s0 + 1) := Lib.hid (by omega)
  have HB0 := Lib.hid (show Blk w1 s0 56 rdZ from hb0)
  have HB2 := Lib.hid (show Blk w1 (s0 + 1) 56 rdZ from hb2)
  have HK := Lib.hid hk
  clear hb0 hb2 hk hs0
  obtain ⟨c0, c1, c2, c3, c4, c5, c6, c7⟩ := HB0.out.c8
  obtain ⟨y0, y1, y2, y3, y4, y5, y6, y7⟩ := HB2.out.c8
  obtain ⟨z0, z1, z2, z3, z4, z5, z6, z7⟩ := HB2.out.z8
  have hl0 := HB0.out.lt
  have hl2 := HB2.out.lt
  go_wp2_with fail
  refine (show Calls _ _ #[zV] _ _ from zwrong w1).mono ?_
  rintro e w2 ⟨rfl, hk2⟩
  have HB0' := Lib.hid (HB0.out.keep hk2 (fun q => q))
  have HB2' := Lib.hid (HB2.out.keep hk2 (fun q => q))
  have HK' := Lib.hid (HK.out.trans hk2 (fun _ _ q => q))
  clear hk2 HB0 HB2 HK c0 c1 c2 c3 c4 c5 c6 c7 y0 y1 y2 y3 y4 y5 y6 y7 z0 z1 z2 z3 z4 z5 z6 z7 hl0 hl2
  have HB0 := HB0'
  have HB2 := HB2'
  have HK := HK'
  clear HB0' HB2' HK'
  obtain ⟨c0, c1, c2, c3, c4, c5, c6, c7⟩ := HB0.out.c8
  obtain ⟨y0, y1, y2, y3, y4, y5, y6, y7⟩ := HB2.out.c8
  obtain ⟨z0, z1, z2, z3, z4, z5, z6, z7⟩ := HB2.out.z8
  have hl0 := HB0.out.lt
  have hl2 := HB2.out.lt
  go_wp2_with fail
  refine bodyPost_ret (ret_cell_tmp rfl _ _ _ _ _ _ rfl (blk8 HB2.out rfl) Try.underlying56 rfl (by exact infoRd) _ rfl) rfl ⟨rfl, ?_⟩
  exact HK.out.trans (kp8 (Kp.refl (OnB (s0 + 1)) w2) (.inr rfl)) (fun i hi q => by have h1 := HS0.out; have q' : i = s0 + 1 := q; omega)
set_option maxRecDepth 100000 in
set_option maxHeartbeats 800000 in
theorem zsync (w : World) (s : ByteArray) : Calls Try.prog 89 #[zV, .string s] w fun e w' => e = .returned (.tuple #[zV, .int .i64 1]) ∧ Kp NoB w w' := by
  unfold zV rdZ
  go_enter Try.func89, Try.ntmps89
  go_upto_region 1 with fail
  have hb0 : Blk ((w.alloc (.cells rdZ 56)).alloc (.cells rdZ 56)) w.heap.size 56 rdZ := (Blk.new _ _ _).alloc _
  have hb2 : Blk ((w.alloc (.cells rdZ 56)).alloc (.cells rdZ 56)) (w.heap.size + 1) 56 rdZ := Blk.top (by simp)
  have hk : Kp NoB w ((w.alloc (.cells rdZ 56)).alloc (.cells rdZ 56)) := ((Kp.refl NoB w).alloc _).alloc _
  unfold rdZ at hb0 hb2 hk
  generalize ((w.alloc (.cells #[.bool false, .bool false, .slice none 0 0, .slice none 0 0, .int .i64 0, .int .i64 0, .int .i64 0, .int .i64 0] 56)).alloc (.cells #[.bool false, .bool false, .slice none 0 0, .slice none 0 0, .int .i64 0, .int .i64 0, .int .i64 0, .int .i64 0] 56)) = w1 at hb0 hb2 hk ⊢
  generalize hs0 : w.heap.size = s0 at hb0 hb2 ⊢
  have HS0 : Hid (w.heap.size ≤ s0 + 1) := Lib.hid (by omega)
  have HB0 := Lib.hid (show Blk w1 s0 56 rdZ from hb0)
  have HB2 := Lib.hid (show Blk w1 (s0 + 1) 56 rdZ from hb2)
  have HK := Lib.hid hk
  clear hb0 hb2 hk hs0
  obtain ⟨c0, c1, c2, c3, c4, c5, c6, c7⟩ := HB0.out.c8
  obtain ⟨y0, y1, y2, y3, y4, y5, y6, y7⟩ := HB2.out.c8
  obtain ⟨z0, z1, z2, z3, z4, z5, z6, z7⟩ := HB2.out.z8
  have hl0 := HB0.out.lt
  have hl2 := HB2.out.lt
  go_wp2_with fail
  refine (show Calls _ _ #[zV] _ _ from zwrong w1).mono ?_
  rintro e w2 ⟨rfl, hk2⟩
  have HB0' := Lib.hid (HB0.out.keep hk2 (fun q => q))
  have HB2' := Lib.hid (HB2.out.keep hk2 (fun q => q))
  have HK' := Lib.hid (HK.out.trans hk2 (fun _ _ q => q))
  clear hk2 HB0 HB2 HK c0 c1 c2 c3 c4 c5 c6 c7 y0 y1 y2 y3 y4 y5 y6 y7 z0 z1 z2 z3 z4 z5 z6 z7 hl0 hl2
  have HB0 := HB0'
  have HB2 := HB2'
  have HK := HK'
  clear HB0' HB2' HK'
  obtain ⟨c0, c1, c2, c3, c4, c5, c6, c7⟩ := HB0.out.c8
  obtain ⟨y0, y1, y2, y3, y4, y5, y6, y7⟩ := HB2.out.c8
  obtain ⟨z0, z1, z2, z3, z4, z5, z6, z7⟩ := HB2.out.z8
  have hl0 := HB0.out.lt
  have hl2 := HB2.out.lt
  go_wp2_with fail
  refine bodyPost_ret (ret_cell_tmp rfl _ _ _ _ _ _ rfl (blk8 HB2.out rfl) Try.underlying56 rfl (by exact infoRd) _ rfl) rfl ⟨rfl, ?_⟩
  exact HK.out.trans (kp8 (Kp.refl (OnB (s0 + 1)) w2) (.inr rfl)) (fun i hi q => by have h1 := HS0.out; have q' : i = s0 + 1 := q; omega)
set_option maxRecDepth 100000 in
set_option maxHeartbeats 800000 in
theorem zrestart (w : World) (A : Option Addr) (n c : Nat) : Calls Try.prog 77 #[zV, .slice A n c] w fun e w' => e = .returned (.tuple #[zV, .int .i64 1]) ∧ Kp NoB w w' := by
  unfold zV rdZ
  go_enter Try.func77, Try.ntmps77
  go_upto_region 1 with fail
  have hb0 : Blk ((w.alloc (.cells rdZ 56)).alloc (.cells rdZ 56)) w.heap.size 56 rdZ := (Blk.new _ _ _).alloc _
  have hb2 : Blk ((w.alloc (.cells rdZ 56)).alloc (.cells rdZ 56)) (w.heap.size + 1) 56 rdZ := Blk.top (by simp)
  have hk : Kp NoB w ((w.alloc (.cells rdZ 56)).alloc (.cells rdZ 56)) := ((Kp.refl NoB w).alloc _).alloc _
  unfold rdZ at hb0 hb2 hk
  generalize ((w.alloc (.cells #[.bool false, .bool false, .slice none 0 0, .slice none 0 0, .int .i64 0, .int .i64 0, .int .i64 0, .int .i64 0] 56)).alloc (.cells #[.bool false, .bool false, .slice none 0 0, .slice none 0 0, .int .i64 0, .int .i64 0, .int .i64 0, .int .i64 0] 56)) = w1 at hb0 hb2 hk ⊢
  generalize hs0 : w.heap.size = s0 at hb0 hb2 ⊢
  have HS0 : Hid (w.heap.size ≤ s0 + 1) := Lib.hid (by omega)
  have HB0 := Lib.hid (show Blk w1 s0 56 rdZ from hb0)
  have HB2 := Lib.hid (show Blk w1 (s0 + 1) 56 rdZ from hb2)
  have HK := Lib.hid hk
  clear hb0 hb2 hk hs0
  obtain ⟨c0, c1, c2, c3, c4, c5, c6, c7⟩ := HB0.out.c8
  obtain ⟨y0, y1, y2, y3, y4, y5, y6, y7⟩ := HB2.out.c8
  obtain ⟨z0, z1, z2, z3, z4, z5, z6, z7⟩ := HB2.out.z8
  have hl0 := HB0.out.lt
  have hl2 := HB2.out.lt
  go_wp2_with fail
  refine bodyPost_ret (ret_cell_tmp rfl _ _ _ _ _ _ rfl (blk8 HB2.out rfl) Try.underlying56 rfl (by exact infoRd) _ rfl) rfl ⟨rfl, ?_⟩
  exact HK.out.trans (kp8 (Kp.refl (OnB (s0 + 1)) w1) (.inr rfl)) (fun i hi q => by have h1 := HS0.out; have q' : i = s0 + 1 := q; omega)
set_option maxRecDepth 100000 in
set_option maxHeartbeats 800000 in
theorem znames (w : World) : Calls Try.prog 91 #[zV] w fun e w' => e = .returned (.slice none 0 0) ∧ Kp NoB w w' := by
  unfold zV rdZ
  go_enter Try.func91, Try.ntmps91
  go_wp2_with fail
  refine wp_loop_rounds 1 ?_
  rw [rounds_succ]
  go_wp2_with fail
  go_ret
  exact ⟨rfl, (Kp.refl NoB w).alloc _⟩
theorem zseen (w : World) (s : ByteArray) : Calls Try.prog 29 #[zV, .string s] w fun e w' => e = .returned (.string ⟨#[]⟩) ∧ Kp NoB w w' :=
  (seen_raw w none 0 0 [] false false none 0 0 0 0 0 0 s ⟨rfl, by simp, fun h => absurd h (Nat.lt_irrefl 0)⟩ (by omega)).mono fun e w' ⟨he, hk⟩ => ⟨he, hk⟩
end Go.Proofs.Ytegcbdfilkecpaa
