/- Texts of this proof, one behind the other: lemmas and contracts; each says its own conditions. -/
import Derived.Test.YtegcbdfilkecpaaM7
import Derived.Shelf.Abstract
/- Pages are laid as the document says: the program's lay, room and told; no condition. -/
namespace Go.Proofs.Ytegcbdfilkecpaa
open Go.RowKit
attribute [local go_sem ↓] load26 store26 alloc26 build26 slice26lo

def roomI (xs : List ByteArray) : Int := 250 - (xs.map fun c => 1 + (c.size : Int)).sum
theorem roomI_snoc (xs : List ByteArray) (c : ByteArray) : roomI (xs ++ [c]) = roomI xs - (1 + (c.size : Int)) := by
  unfold roomI
  rw [List.map_append, List.sum_append]
  simp
  omega
theorem roomI_take (xs : List ByteArray) (k : Nat) (hk : k < xs.length) : roomI (xs.take (k + 1)) = roomI (xs.take k) - (1 + ((xs[k]?.getD ByteArray.empty).size : Int)) := by
  rw [List.take_succ_eq_append_getElem hk, roomI_snoc]
  simp [hk]
theorem roomI_lo (xs : List ByteArray) (h : ∀ c ∈ xs, c.size ≤ 60) : -(61 * xs.length : Int) ≤ roomI xs ∧ roomI xs ≤ 250 := by
  unfold roomI
  induction xs with
  | nil => simp
  | cons c xs ih =>
    have := ih (fun c hc => h c (by simp [hc]))
    have := h c (by simp)
    simp at *
    omega

/-! ### the page of a body, as a list of numbers -/
def flatI (xs : List ByteArray) : List Int := xs.flatMap strI
def w8 (n : Int) : Int := n % 256
def hdI (kind link : Int) (n : Nat) (k : Nat) : List Int :=
  ([kind, w8 n, w8 (link / 16777216), w8 (link / 65536), w8 (link / 256), w8 link].take (2 + k)) ++ zeros (4 - k)
theorem hdI_len (kind link : Int) (n k : Nat) (hk : k ≤ 4) : (hdI kind link n k).length = 6 := by
  unfold hdI zeros
  simp
  omega
def hd6 (kind link : Int) (n : Nat) : List Int := [kind, w8 n, w8 (link / 16777216), w8 (link / 65536), w8 (link / 256), w8 link]
/-- the page, the first i cells laid -/
def layK (kind link : Int) (xs : List ByteArray) (i : Nat) : List Int :=
  hd6 kind link xs.length ++ ((xs.take i).map (fun c => (c.size : Int)) ++ zeros (xs.length - i)) ++ (flatI (xs.take i) ++ zeros (250 - xs.length - (flatI (xs.take i)).length))
def layI (kind link : Int) (xs : List ByteArray) : List Int := layK kind link xs xs.length

theorem bytesV_noStr {l : List Int} {i : Nat} {c : ByteArray} (h : (bytesV l)[i]? = some (.string c)) : False := by
  unfold bytesV at h
  simp only [List.getElem?_toArray, List.getElem?_map] at h
  cases hq : l[i]? <;> rw [hq] at h <;> simp at h
theorem Sl.on {W W' : World} {A : Option Addr} {n : Nat} {xs : List ByteArray} {g4 : Nat} {t : TypeId} {l : List Int} (h : Sl W A n xs) (hb : Blk W g4 t (bytesV l)) (k : Kp (OnB g4) W W') : Sl W' A n xs := by
  refine ⟨h.1, fun hn => ?_⟩
  obtain ⟨g, o, e, hg, hc⟩ := h.2 hn
  have hne : ¬ OnB g4 g := fun q => by
    unfold OnB at q
    subst q
    have c0 := hc 0 hn
    rw [hb.cell] at c0
    exact bytesV_noStr c0
  exact ⟨g, o, e, Nat.lt_of_lt_of_le hg k.size, fun j hj => (k.cell hg hne).trans (hc j hj)⟩
theorem bytesV_set (l : List Int) (i : Nat) (v : Int) : (bytesV l).setIfInBounds i (.int .u8 v) = bytesV (l.set i v) := by
  unfold bytesV
  rw [List.setIfInBounds_toArray, List.map_set]
theorem bytesV_get (l : List Int) (i : Nat) (hi : i < l.length) : (bytesV l)[i]? = some (.int .u8 (l[i]?.getD 0)) := by
  unfold bytesV
  simp [hi]
theorem hd_s0 (kind link : Int) (n : Nat) (t : List Int) : (hdI kind link n 0 ++ t).set 2 (link / 16777216 % 256) = hdI kind link n 1 ++ t := rfl
theorem hd_s1 (kind link : Int) (n : Nat) (t : List Int) : (hdI kind link n 1 ++ t).set 3 (link / 65536 % 256) = hdI kind link n 2 ++ t := rfl
theorem hd_s2 (kind link : Int) (n : Nat) (t : List Int) : (hdI kind link n 2 ++ t).set 4 (link / 256 % 256) = hdI kind link n 3 ++ t := rfl
theorem hd_s3 (kind link : Int) (n : Nat) (t : List Int) : (hdI kind link n 3 ++ t).set 5 (link % 256) = hdI kind link n 4 ++ t := rfl
theorem hd_s4 (kind link : Int) (n : Nat) : hdI kind link n 4 = hd6 kind link n := rfl
theorem layK_zero (kind link : Int) (xs : List ByteArray) (h : xs.length ≤ 250) : hd6 kind link xs.length ++ zeros 250 = layK kind link xs 0 := by
  unfold layK flatI zeros
  rw [List.append_assoc]
  congr 1
  have e : (xs.take 0).map (fun c => (c.size : Int)) = [] := by simp
  have e2 : (xs.take 0).flatMap strI = [] := by simp
  rw [e, e2]
  simp only [List.nil_append, List.length_nil, Nat.sub_zero, List.replicate_append_replicate]
  congr 1
  omega
/-- what lay answers: the page, if there is room -/
def layR (kind link : Int) (xs : List ByteArray) : Array Value × Bool := if roomI xs < 0 then (zero256, false) else (bytesV (layI kind link xs), true)
def LayPost (w : World) (kind link : Int) (xs : List ByteArray) (e : Ending) (w' : World) : Prop :=
  e = .returned (.tuple #[.agg (layR kind link xs).1, .bool (layR kind link xs).2]) ∧ Kp NoB w w'
theorem roomI_flat (xs : List ByteArray) : roomI xs = 250 - xs.length - (flatI xs).length := by
  unfold roomI flatI
  induction xs with
  | nil => simp
  | cons c xs ih =>
    simp only [List.map_cons, List.sum_cons, List.length_cons, List.flatMap_cons, List.length_append, strI_len] at *
    omega
theorem flat_take (xs : List ByteArray) (k : Nat) (hk : k < xs.length) : flatI (xs.take (k + 1)) = flatI (xs.take k) ++ strI (xs[k]?.getD ByteArray.empty) := by
  unfold flatI
  rw [List.take_succ_eq_append_getElem hk, List.flatMap_append]
  simp [hk]
theorem flat_le (xs : List ByteArray) (k : Nat) : (flatI (xs.take k)).length ≤ (flatI xs).length := by
  have : flatI xs = flatI (xs.take k) ++ flatI (xs.drop k) := by
    unfold flatI
    rw [← List.flatMap_append, List.take_append_drop]
  rw [this, List.length_append]
  omega
theorem flat_lo (xs : List ByteArray) (h : ∀ c ∈ xs, 1 ≤ c.size) : xs.length ≤ (flatI xs).length := by
  unfold flatI
  induction xs with
  | nil => simp
  | cons c xs ih =>
    have := h c (by simp)
    have := ih (fun c hc => h c (by simp [hc]))
    simp only [List.length_cons, List.flatMap_cons, List.length_append, strI_len]
    omega
theorem layK_len (kind link : Int) (xs : List ByteArray) (k : Nat) (hk : k ≤ xs.length) (hr : 0 ≤ roomI xs) : (layK kind link xs k).length = 256 := by
  have h1 := roomI_flat xs
  have h2 := flat_le xs k
  unfold layK zeros
  simp only [List.length_append, List.length_map, List.length_take, List.length_replicate]
  have : (hd6 kind link xs.length).length = 6 := rfl
  omega
/-- a cell's length is laid -/
def layM (kind link : Int) (xs : List ByteArray) (k : Nat) : List Int :=
  hd6 kind link xs.length ++ ((xs.take (k + 1)).map (fun c => (c.size : Int)) ++ zeros (xs.length - (k + 1))) ++ (flatI (xs.take k) ++ zeros (250 - xs.length - (flatI (xs.take k)).length))
theorem layM_eq (kind link : Int) (xs : List ByteArray) (k : Nat) (hk : k < xs.length) : (layK kind link xs k).set (6 + k) ((xs[k]?.getD ByteArray.empty).size : Int) = layM kind link xs k := by
  unfold layK layM
  have h6 : (hd6 kind link xs.length).length = 6 := rfl
  have hz : zeros (xs.length - k) = 0 :: zeros (xs.length - (k + 1)) := by
    unfold zeros
    rw [show xs.length - k = (xs.length - (k + 1)) + 1 by omega, List.replicate_succ]
  have ht : ((xs.take k).map (fun c => (c.size : Int))).length = k := by simp; omega
  rw [List.append_assoc, List.append_assoc, List.set_append_right _ _ (by omega), h6, Nat.add_sub_cancel_left, List.append_assoc, List.set_append_right _ _ (by omega), ht, Nat.sub_self, hz]
  have hx : xs[k]?.getD ByteArray.empty = xs[k] := by simp [hk]
  rw [List.take_succ_eq_append_getElem hk, hx, List.map_append]
  simp only [List.map_cons, List.map_nil, List.append_assoc, List.cons_append, List.nil_append, List.set_cons_zero]
theorem layM_next (kind link : Int) (xs : List ByteArray) (k : Nat) (hk : k < xs.length) (hr : 0 ≤ roomI xs) : ∃ la lb ld, layM kind link xs k = la ++ lb ++ ld ∧ la.length = 6 + xs.length + (flatI (xs.take k)).length ∧ lb.length = (strI (xs[k]?.getD ByteArray.empty)).length ∧ layK kind link xs (k + 1) = la ++ strI (xs[k]?.getD ByteArray.empty) ++ ld ∧ lb = zeros (xs[k]?.getD ByteArray.empty).size := by
  have h1 := roomI_flat xs
  have h2 := flat_le xs (k + 1)
  have h3 := flat_take xs k hk
  have h4 : (flatI (xs.take (k + 1))).length = (flatI (xs.take k)).length + (strI (xs[k]?.getD ByteArray.empty)).length := by rw [h3, List.length_append]
  refine ⟨hd6 kind link xs.length ++ ((xs.take (k + 1)).map (fun c => (c.size : Int)) ++ zeros (xs.length - (k + 1))) ++ flatI (xs.take k), zeros (strI (xs[k]?.getD ByteArray.empty)).length, zeros (250 - xs.length - (flatI (xs.take (k + 1))).length), ?_, ?_, by simp [zeros], ?_, by rw [strI_len]⟩
  · unfold layM
    have : zeros (250 - xs.length - (flatI (xs.take k)).length) = zeros (strI (xs[k]?.getD ByteArray.empty)).length ++ zeros (250 - xs.length - (flatI (xs.take (k + 1))).length) := by
      unfold zeros
      rw [List.replicate_append_replicate]
      congr 1
      omega
    rw [this]
    simp only [List.append_assoc]
  · have : (hd6 kind link xs.length).length = 6 := rfl
    simp only [List.length_append, List.length_map, List.length_take, zeros, List.length_replicate]
    omega
  · unfold layK
    rw [h3]
    simp only [List.append_assoc]
theorem zero256_size : zero256.size = 256 := by rw [zero256_eq, bytesV_size]; exact List.length_replicate
theorem zero256_one : ones zero256 := by rw [zero256_eq]; exact bytesV_one _

end Go.Proofs.Ytegcbdfilkecpaa
/- The program's told, cell and New: pages are made of any kind, link and cells; no condition. -/
namespace Go.Proofs.Ytegcbdfilkecpaa
open Go.RowKit
attribute [local go_sem ↓] load26 store26 alloc26 build26 slice26lo

/-- what told answers -/
def toldR (kind link : Int) (xs : List ByteArray) : Array Value × Int := if roomI xs < 0 then (zero256, 5) else (bytesV (layI kind link xs), 0)
def PagePost (w : World) (r : Array Value × Int) (e : Ending) (w' : World) : Prop :=
  e = .returned (.tuple #[.agg r.1, .int .i64 r.2]) ∧ Kp NoB w w'
theorem layI_len (kind link : Int) (xs : List ByteArray) (h : 0 ≤ roomI xs) : (layI kind link xs).length = 256 := layK_len kind link xs xs.length (Nat.le_refl _) h
theorem layR_size (kind link : Int) (xs : List ByteArray) : (layR kind link xs).1.size = 256 := by
  unfold layR
  split
  · exact zero256_size
  · rw [bytesV_size]; exact layI_len kind link xs (by omega)
theorem layR_one (kind link : Int) (xs : List ByteArray) : ones (layR kind link xs).1 := by
  unfold layR
  split
  · exact zero256_one
  · exact bytesV_one _

/-- may a cell be? -/
def cellE (c : ByteArray) : Int := if c.size = 0 then 2 else if 60 < c.size then 3 else 0
theorem isEmpty_size (c : ByteArray) : c.toList.isEmpty = decide (c.size = 0) := by
  have h : c.toList = c.data.toList := ByteArray.toList_eq c
  rw [h]
  have : c.size = c.data.toList.length := by simp
  rw [this]
  cases c.data.toList <;> simp
end Go.Proofs.Ytegcbdfilkecpaa
/- The program's New: pages are made of any kind, link and cells; no condition. -/
namespace Go.Proofs.Ytegcbdfilkecpaa
open Go.RowKit
attribute [local go_sem ↓] load26 store26 alloc26 build26 slice26lo

/-- the worst of the cells' errors -/
def worstK (xs : List ByteArray) (k : Nat) : Int := if (xs.take k).any (fun c => decide (60 < c.size)) then 3 else 0
def hole (xs : List ByteArray) : Bool := xs.any fun c => decide (c.size = 0)
def newR (kind link : Int) (xs : List ByteArray) : Array Value × Int :=
  if 5 < kind ∨ hole xs = true then (zero256, 2) else if worstK xs xs.length = 3 then (zero256, 3) else toldR kind link xs
theorem worstK_cases (xs : List ByteArray) (k : Nat) : worstK xs k = 0 ∨ worstK xs k = 3 := by
  unfold worstK
  split
  · exact .inr rfl
  · exact .inl rfl
theorem worstK_succ (xs : List ByteArray) (k : Nat) (hk : k < xs.length) (h0 : (xs[k]?.getD ByteArray.empty).size ≠ 0) : worstK xs (k + 1) = if worstK xs k = 0 then cellE (xs[k]?.getD ByteArray.empty) else worstK xs k := by
  have hx : xs[k]?.getD ByteArray.empty = xs[k] := by simp [hk]
  rw [hx] at h0 ⊢
  unfold worstK cellE
  rw [List.take_succ_eq_append_getElem hk, List.any_append]
  simp only [List.any_cons, List.any_nil, Bool.or_false, if_neg h0]
  cases h : (xs.take k).any (fun c => decide (60 < c.size))
  · by_cases h6 : 60 < xs[k].size <;> simp [h6]
  · simp
theorem hole_at (xs : List ByteArray) (k : Nat) (hk : k < xs.length) (h0 : (xs[k]?.getD ByteArray.empty).size = 0) : hole xs = true := by
  unfold hole
  rw [List.any_eq_true]
  exact ⟨xs[k], List.getElem_mem hk, by simpa [hk] using h0⟩
theorem hole_no (xs : List ByteArray) (h : ∀ k, k < xs.length → (xs[k]?.getD ByteArray.empty).size ≠ 0) : hole xs = false := by
  cases hh : hole xs
  · rfl
  · unfold hole at hh
    rw [List.any_eq_true] at hh
    obtain ⟨c, hc, hz⟩ := hh
    obtain ⟨i, hi, rfl⟩ := List.getElem_of_mem hc
    exact absurd (by simpa using hz) (by simpa [hi] using h i hi)
theorem good_cells (xs : List ByteArray) (h : hole xs = false) (hw : worstK xs xs.length = 0) : ∀ c ∈ xs, 1 ≤ c.size ∧ c.size ≤ 60 := by
  intro c hc
  have h1 : ¬ c.size = 0 := by
    intro e
    have : hole xs = true := by unfold hole; rw [List.any_eq_true]; exact ⟨c, hc, by simp [e]⟩
    rw [h] at this; cases this
  have h2 : ¬ 60 < c.size := by
    intro e
    have : worstK xs xs.length = 3 := by
      unfold worstK
      rw [if_pos]
      rw [List.any_eq_true]
      exact ⟨c, by simpa using hc, by simp [e]⟩
    rw [hw] at this; cases this
  omega
theorem toldR_size (kind link : Int) (xs : List ByteArray) : (toldR kind link xs).1.size = 256 := by
  unfold toldR
  split
  · exact zero256_size
  · rw [bytesV_size]; exact layI_len kind link xs (by omega)
theorem toldR_one (kind link : Int) (xs : List ByteArray) : ones (toldR kind link xs).1 := by
  unfold toldR
  split
  · exact zero256_one
  · exact bytesV_one _

end Go.Proofs.Ytegcbdfilkecpaa
/- The reference's Room, Lay, Told and New: pages are made of any kind, link and cells; no condition. -/
namespace Go.Proofs.Ytegcbdfilkecpaa
open Go.RowKit
attribute [local go_sem ↓] load26 store26 alloc26 build26 slice26lo

abbrev rBody (is : Bool) (kind link : Int) (A : Option Addr) (n cap : Nat) : Array Value := #[.bool is, .int .i64 kind, .int .u32 link, .slice A n cap]

/-- a row of bytes, the first j of a string written -/
theorem bytes_step (la ld : List Int) (c : ByteArray) (j : Nat) (hj : j < c.size) : (la ++ ((strI c).take j ++ zeros (c.size - j)) ++ ld).set (la.length + j) ((c[j]).toNat : Int) = la ++ ((strI c).take (j + 1) ++ zeros (c.size - (j + 1))) ++ ld := by
  have hl : ((strI c).take j).length = j := by rw [List.length_take, strI_len]; omega
  have hz : zeros (c.size - j) = 0 :: zeros (c.size - (j + 1)) := by
    unfold zeros
    rw [show c.size - j = (c.size - (j + 1)) + 1 by omega, List.replicate_succ]
  have hjl : j < (strI c).length := by rw [strI_len]; exact hj
  rw [List.append_assoc, List.set_append_right _ _ (by omega), Nat.add_sub_cancel_left, List.append_assoc, List.set_append_right _ _ (by omega), hl, Nat.sub_self, hz, List.take_succ_eq_append_getElem hjl]
  have : (strI c)[j] = ((c[j]).toNat : Int) := by
    simp only [strI, List.getElem_map]
    rfl
  rw [this]
  simp only [List.cons_append, List.set_cons_zero, List.append_assoc, List.nil_append]
theorem hd_sets (kind link : Int) (n : Nat) : ((((((zeros 256).set 0 kind).set 1 ((n : Int) % 256)).set 2 (link / 16777216 % 256)).set 3 (link / 65536 % 256)).set 4 (link / 256 % 256)).set 5 (link % 256) = hd6 kind link n ++ zeros 250 := by
  have : zeros 256 = zeros 6 ++ zeros 250 := by
    unfold zeros
    rw [List.replicate_append_replicate]
  rw [this]
  rfl
end Go.Proofs.Ytegcbdfilkecpaa
/- The reference's Told and New: pages are made of any kind, link and cells; no condition. -/
namespace Go.Proofs.Ytegcbdfilkecpaa
open Go.RowKit
attribute [local go_sem ↓] load26 store26 alloc26 build26 slice26lo

/-- the reference's first errors, k cells looked at -/
def errK (kind : Int) (xs : List ByteArray) (k : Nat) : Int := if 5 < kind ∨ hole (xs.take k) = true then 2 else 0
theorem errK_zero (kind : Int) (xs : List ByteArray) : errK kind xs 0 = if 5 < kind then 2 else 0 := by
  unfold errK hole
  simp
theorem errK_succ (kind : Int) (xs : List ByteArray) (k : Nat) (hk : k < xs.length) : errK kind xs (k + 1) = if (xs[k]?.getD ByteArray.empty).size = 0 then 2 else errK kind xs k := by
  have hx : xs[k]?.getD ByteArray.empty = xs[k] := by simp [hk]
  rw [hx]
  unfold errK hole
  rw [List.take_succ_eq_append_getElem hk, List.any_append]
  simp only [List.any_cons, List.any_nil, Bool.or_false]
  by_cases h0 : xs[k].size = 0
  · simp [h0]
  · rw [show decide (xs[k].size = 0) = false from by simp [h0], Bool.or_false, if_neg h0]
theorem worstK_mono (xs : List ByteArray) (k : Nat) (h : worstK xs k = 3) : worstK xs xs.length = 3 := by
  unfold worstK at *
  split at h
  · rename_i ha
    rw [List.any_eq_true] at ha
    obtain ⟨c, hc, hz⟩ := ha
    rw [if_pos]
    rw [List.any_eq_true]
    exact ⟨c, by simpa using List.mem_of_mem_take hc, hz⟩
  · simp at h
theorem worstK_next (xs : List ByteArray) (k : Nat) (hk : k < xs.length) (h : worstK xs k = 0) : worstK xs (k + 1) = if 60 < (xs[k]?.getD ByteArray.empty).size then 3 else 0 := by
  have hx : xs[k]?.getD ByteArray.empty = xs[k] := by simp [hk]
  rw [hx]
  unfold worstK at *
  rw [List.take_succ_eq_append_getElem hk, List.any_append]
  cases hh : (xs.take k).any (fun c => decide (60 < c.size))
  · simp
  · rw [hh] at h; simp at h

end Go.Proofs.Ytegcbdfilkecpaa
/- What 256 bytes say as a page, and that the program's read answers just that; no condition. -/
namespace Go.Proofs.Ytegcbdfilkecpaa
open Go.RowKit
attribute [local go_sem ↓] load26 store26 alloc26 build26 slice26lo slice26lohi conv64

def subL (l : List Int) (o n : Nat) : List Int := (l.drop o).take n
def at_ (l : List Int) (i : Nat) : Int := l[i]?.getD 0
/-- the cells of the lengths, from a place on, and where they end -/
def rdCells (l : List Int) : Nat → List Int → Option (List ByteArray × Nat)
  | a, [] => some ([], a)
  | a, n :: r => if n < 1 ∨ 60 < n ∨ 256 < a + n then none else (rdCells l (a + n.toNat) r).map fun q => (strOf (subL l a n.toNat) :: q.1, q.2)
def beL (l : List Int) (k : Nat) : Int := (List.range k).foldl (fun a i => a * 256 + at_ l (2 + i)) 0
def readF (l : List Int) : Option (Int × Int × List ByteArray) :=
  if 5 < at_ l 0 ∨ 256 < 6 + at_ l 1 then none else
  match rdCells l (6 + (at_ l 1).toNat) (subL l 6 (at_ l 1).toNat) with
  | none => none
  | some q => if (l.drop q.2).all (fun x => decide (x = 0)) = true then some (at_ l 0, beL l 4, q.1) else none
/-- 256 bytes -/
structure Bytes (l : List Int) : Prop where
  len : l.length = 256
  rng : ∀ i, 0 ≤ at_ l i ∧ at_ l i < 256

theorem beL_succ (l : List Int) (k : Nat) : beL l (k + 1) = beL l k * 256 + at_ l (2 + k) := by
  unfold beL
  rw [List.range_succ, List.foldl_append]
  rfl
theorem beL_bd (l : List Int) (h : ∀ i, 0 ≤ at_ l i ∧ at_ l i < 256) (k : Nat) : 0 ≤ beL l k ∧ beL l k < 256 ^ k := by
  induction k with
  | zero => simp [beL]
  | succ k ih =>
    rw [beL_succ]
    have := h (2 + k)
    rw [Int.pow_succ]
    omega
theorem or_byte (a x : Int) (h0 : 0 ≤ a) (h1 : a < 16777216) (h2 : 0 ≤ x) (h3 : x < 256) : bits BinOp.or IntKind.u32 (a * 256) x = a * 256 + x := by
  obtain ⟨m, rfl⟩ := Int.eq_ofNat_of_zero_le h0
  obtain ⟨n, rfl⟩ := Int.eq_ofNat_of_zero_le h2
  have e : bits BinOp.or IntKind.u32 ((m : Int) * 256) n = IntKind.u32.wrap ((BitVec.ofInt 32 ((m : Int) * 256) ||| BitVec.ofInt 32 n).toNat) := rfl
  have hm : m < 16777216 := by omega
  have hn : n < 256 := by omega
  have e1 : BitVec.ofInt 32 ((m : Int) * 256) = BitVec.ofNat 32 (m * 256) := by
    rw [show ((m : Int) * 256) = ((m * 256 : Nat) : Int) by omega]
    exact BitVec.ofInt_natCast _ _
  have e2 : BitVec.ofInt 32 (n : Int) = BitVec.ofNat 32 n := BitVec.ofInt_natCast _ _
  rw [e, e1, e2, BitVec.toNat_or, BitVec.toNat_ofNat, BitVec.toNat_ofNat, Nat.mod_eq_of_lt (by omega), Nat.mod_eq_of_lt (by omega)]
  have h := Nat.shiftLeft_add_eq_or_of_lt (i := 8) (b := n) (by omega) m
  rw [Nat.shiftLeft_eq] at h
  have h' : m * 256 ||| n = m * 256 + n := h.symm
  rw [h', IntKind.wrap_u32]
  omega
theorem infoStr : (Try.prog.info? 9).map (fun i => (i.zero, i.size, i.bytes)) = some (some (.string ByteArray.empty), 1, 16) := by kernel_rfl
theorem rdCells_bad (l : List Int) (a n : Nat) (r : List Int) (h : (n : Int) < 1 ∨ 60 < (n : Int) ∨ 256 < (a : Int) + n) : rdCells l a ((n : Int) :: r) = none := by
  unfold rdCells
  rw [if_pos h]
theorem rdCells_good (l : List Int) (a n : Nat) (r : List Int) (h : ¬ ((n : Int) < 1 ∨ 60 < (n : Int) ∨ 256 < (a : Int) + n)) : rdCells l a ((n : Int) :: r) = (rdCells l (a + n) r).map fun q => (strOf (subL l a n) :: q.1, q.2) := by
  conv => lhs; unfold rdCells
  rw [if_neg h, Int.toNat_natCast]
theorem drop_cons {L : List Int} {k : Nat} {v : Int} (h : L[k]? = some v) : L.drop k = v :: L.drop (k + 1) := by
  obtain ⟨hk, rfl⟩ := List.getElem?_eq_some_iff.1 h
  exact List.drop_eq_getElem_cons hk
theorem subL_drop (l : List Int) (hl : l.length = 256) (N k : Nat) (hk : k < N) (hN : 6 + N ≤ 256) : (subL l 6 N).drop k = at_ l (6 + k) :: (subL l 6 N).drop (k + 1) := by
  apply drop_cons
  unfold subL at_
  rw [List.getElem?_take_of_lt hk, List.getElem?_drop, List.getElem?_eq_getElem (by omega)]
  rfl
theorem dropAll_false {l : List Int} {a i : Nat} (ha : a ≤ i) (h : at_ l i ≠ 0) : (l.drop a).all (fun x => decide (x = 0)) = false := by
  have hi : i < l.length := by
    rcases Nat.lt_or_ge i l.length with q | q
    · exact q
    · exact absurd (show at_ l i = 0 by unfold at_; rw [List.getElem?_eq_none q]; rfl) h
  rw [List.all_eq_false]
  refine ⟨at_ l i, ?_, by simpa using h⟩
  rw [List.mem_drop_iff_getElem]
  refine ⟨i - a, by omega, ?_⟩
  unfold at_
  have e : a + (i - a) = i := by omega
  simp [e, List.getElem?_eq_getElem hi]
theorem dropAll_true {l : List Int} {a : Nat} (h : ∀ i, a ≤ i → i < l.length → at_ l i = 0) : (l.drop a).all (fun x => decide (x = 0)) = true := by
  rw [List.all_eq_true]
  intro x hx
  rw [List.mem_drop_iff_getElem] at hx
  obtain ⟨j, hj, rfl⟩ := hx
  have := h (a + j) (by omega) (by omega)
  unfold at_ at this
  rw [List.getElem?_eq_getElem (by omega)] at this
  simpa using this
def ReadPost (w : World) (r : Option (Int × Int × List ByteArray)) (e : Ending) (w' : World) : Prop :=
  Kp NoB w w' ∧ ((r = none ∧ e = .returned (.tuple #[.agg #[.int .u8 0, .int .u32 0, .slice none 0 0], .bool false])) ∨
    ∃ kind link cs v, r = some (kind, link, cs) ∧ e = .returned (.tuple #[.agg #[.int .u8 kind, .int .u32 link, v], .bool true]) ∧ w'.ownsRow w.heap.size 9 1 v cs.length (cs.map Value.string))
end Go.Proofs.Ytegcbdfilkecpaa
/- The program's Room and Cell, of any 256 bytes; no condition. -/
namespace Go.Proofs.Ytegcbdfilkecpaa
open Go.RowKit
theorem rdCells_facts (l : List Int) (hl : l.length = 256) : ∀ (ns : List Int) (a : Nat) (q : List ByteArray × Nat), rdCells l a ns = some q → q.1.length = ns.length ∧ ∀ c ∈ q.1, 1 ≤ c.size ∧ c.size ≤ 60
  | [], a, q, h => by
    simp [rdCells] at h
    subst h
    simp
  | n :: r, a, q, h => by
    unfold rdCells at h
    by_cases hb : n < 1 ∨ 60 < n ∨ 256 < (a : Int) + n
    · rw [if_pos hb] at h; cases h
    · rw [if_neg hb] at h
      cases hr : rdCells l (a + n.toNat) r with
      | none => rw [hr] at h; cases h
      | some p =>
        rw [hr] at h
        simp only [Option.map_some, Option.some.injEq] at h
        subst h
        obtain ⟨h1, h2⟩ := rdCells_facts l hl r _ p hr
        refine ⟨by simp [h1], fun c hc => ?_⟩
        rcases List.mem_cons.1 hc with rfl | hc
        · rw [strOf_size]
          unfold subL
          rw [List.length_take, List.length_drop]
          omega
        · exact h2 c hc
theorem readF_facts {l : List Int} (hB : Bytes l) {kind link : Int} {cs : List ByteArray} (h : readF l = some (kind, link, cs)) :
    cs.length ≤ 250 ∧ (∀ c ∈ cs, 1 ≤ c.size ∧ c.size ≤ 60) ∧ 0 ≤ kind ∧ kind ≤ 5 ∧ 0 ≤ link ∧ link < 4294967296 := by
  have r1 := hB.rng 1
  have r0 := hB.rng 0
  have rb := beL_bd l hB.rng 4
  unfold readF at h
  by_cases hb : 5 < at_ l 0 ∨ 256 < 6 + at_ l 1
  · rw [if_pos hb] at h; cases h
  · rw [if_neg hb] at h
    cases hr : rdCells l (6 + (at_ l 1).toNat) (subL l 6 (at_ l 1).toNat) with
    | none => rw [hr] at h; cases h
    | some q =>
      rw [hr] at h
      simp only at h
      split at h
      · simp only [Option.some.injEq, Prod.mk.injEq] at h
        obtain ⟨rfl, rfl, rfl⟩ := h
        obtain ⟨h1, h2⟩ := rdCells_facts l hB.len _ _ _ hr
        refine ⟨?_, h2, r0.1, by omega, rb.1, by simpa using rb.2⟩
        rw [h1]
        unfold subL
        rw [List.length_take]
        omega
      · cases h
theorem own_Sl {w : World} {base n : Nat} {A : Option Addr} {cap : Nat} {cs : List ByteArray} (h : w.ownsRow base 9 1 (.slice A n cap) n (cs.map Value.string)) (hl : cs.length = n) : Sl w A n cs := by
  refine ⟨hl, fun hn => ?_⟩
  obtain ⟨g, rfl, hb, hlt⟩ := own_at h hn
  refine ⟨g, 0, rfl, hlt, fun k hk => ?_⟩
  rcases h.2 with ⟨h0, _⟩ | ⟨g', cap', cur, hv, hb', hh, h1, h2, h3, h4⟩
  · cases h0
  · simp only [Value.slice.injEq, Option.some.injEq, Addr.mk.injEq] at hv
    obtain ⟨⟨rfl, _⟩, _, rfl⟩ := hv
    rw [cell_of_row w g (0 + k) cur 9 (0, 0) hh]
    have hkc : k < cur.size := by omega
    have e : (cur.toList.take (n * 1))[k]? = (cs.map Value.string)[k]? := by rw [h4]
    rw [List.getElem?_take_of_lt (by omega)] at e
    simp only [Nat.zero_add]
    rw [← Array.getElem?_toList, e, List.getElem?_map]
    simp [show k < cs.length by omega]
def body3 (kind link : Int) (A : Option Addr) (n cap : Nat) : Array Value := #[.int .u8 kind, .int .u32 link, .slice A n cap]
theorem ReadPost.none {w w' : World} {e : Ending} (h : ReadPost w none e w') : Kp NoB w w' ∧ e = .returned (.tuple #[.agg #[.int .u8 0, .int .u32 0, .slice none 0 0], .bool false]) := by
  refine ⟨h.1, ?_⟩
  rcases h.2 with q | ⟨_, _, _, _, q, _⟩
  · exact q.2
  · cases q
theorem ReadPost.some {w w' : World} {e : Ending} {kind link : Int} {cs : List ByteArray} (h : ReadPost w (some (kind, link, cs)) e w') :
    Kp NoB w w' ∧ ∃ A cap, e = .returned (.tuple #[.agg #[.int .u8 kind, .int .u32 link, .slice A cs.length cap], .bool true]) ∧ w'.ownsRow w.heap.size 9 1 (.slice A cs.length cap) cs.length (cs.map Value.string) ∧ Sl w' A cs.length cs := by
  refine ⟨h.1, ?_⟩
  rcases h.2 with q | ⟨_, _, _, v, q, rfl, ho⟩
  · cases q.1
  · simp only [Option.some.injEq, Prod.mk.injEq] at q
    obtain ⟨rfl, rfl, rfl⟩ := q
    obtain ⟨A, cap, rfl⟩ := own_slice ho
    exact ⟨A, cap, rfl, ho, own_Sl ho rfl⟩

def roomF : Option (Int × Int × List ByteArray) → Int
  | none => 0
  | some (_, _, cs) => roomI cs
def cellF (r : Option (Int × Int × List ByteArray)) (i : Int) : ByteArray × Int :=
  match r with
  | none => (ByteArray.empty, 8)
  | some (_, _, cs) => if i < 0 ∨ (cs.length : Int) ≤ i then (ByteArray.empty, 4) else (cs.getD i.toNat ByteArray.empty, 0)

end Go.Proofs.Ytegcbdfilkecpaa
/- The program's Check, Kind, Count, Link and Cell, of any 256 bytes; no condition. -/
namespace Go.Proofs.Ytegcbdfilkecpaa
open Go.RowKit
def checkF : Option (Int × Int × List ByteArray) → Int
  | none => 8
  | some _ => 0
def kindF : Option (Int × Int × List ByteArray) → Int
  | none => 0
  | some (k, _, _) => k
def linkF : Option (Int × Int × List ByteArray) → Int
  | none => 0
  | some (_, k, _) => k
def countF : Option (Int × Int × List ByteArray) → Int
  | none => 0
  | some (_, _, cs) => cs.length
end Go.Proofs.Ytegcbdfilkecpaa
/- Pages held against each other; no condition. -/
namespace Go.Proofs.Ytegcbdfilkecpaa
open Go.RowKit

/-- an array of n numbers of a kind -/
def rowOK (k : IntKind) (n : Nat) (v : Value) : Prop := ∃ l : List Int, l.length = n ∧ v = .agg (l.map (Value.int k)).toArray
noncomputable def valEq (u v : Value) : Bool := @decide (u = v) (Classical.propDecidable _)
@[go_sem] theorem valEq_self (u : Value) : valEq u u = true := by unfold valEq; simp
theorem valEq_iff (u v : Value) : valEq u v = true ↔ u = v := by unfold valEq; simp
theorem all_range_eqI : ∀ (xs ys : List Int), xs.length = ys.length → ((List.range xs.length).all fun i => xs.getD i 0 == ys.getD i 0) = (xs == ys)
  | [], [], _ => rfl
  | x :: xs, y :: ys, h => by
    have ih := all_range_eqI xs ys (by simpa using h)
    rw [List.length_cons, List.range_succ_eq_map, List.all_cons, List.all_map]
    simp only [List.getD_cons_zero, Function.comp_def, List.getD_cons_succ, ih]
    simp [List.cons_beq_cons]
  | [], _ :: _, h => by simp at h
  | _ :: _, [], h => by simp at h
section
variable {P : Program} (w : World)
theorem run_equalIn_ints (d : Nat) (t e : TypeId) (n : Nat) (k : IntKind) (ht : P.underlying t = some (.array n e)) (he : P.underlying e = some (.int k)) (hsz : ∀ w, (sizeOf e).run P w = .ok 1 w)
    (xs ys : List Int) (hx : xs.length = n) (hy : ys.length = n) :
    (Op.equalIn (d + 2) t (.agg (xs.map (Value.int k)).toArray) (.agg (ys.map (Value.int k)).toArray)).run P w = .ok (xs == ys) w := by
  rw [← all_range_eqI xs ys (hx.trans hy.symm), hx, List.range_eq_range', Op.equalIn]
  simp only [Sem.run_bind, run_underlying ht, Result.andThen_ok, hsz, Std.Legacy.Range.forIn_eq_forIn_range', Std.Legacy.Range.size, Nat.sub_zero, Nat.add_sub_cancel, Nat.div_one]
  have hl : ∀ i ∈ List.range' 0 n 1, i < n := fun i hi => by simpa using (List.mem_range'_1.1 hi).2
  generalize List.range' 0 n 1 = l at hl ⊢
  induction l with
  | nil => simp
  | cons i l ih =>
    have hi : i < n := hl i (by simp)
    have px : (part e (xs.map (Value.int k)).toArray (i * 1)).run P w = .ok (.int k (xs.getD i 0)) w := by
      simp [part, isAgg, run_underlying he, List.getD, List.getElem?_eq_getElem (show i < xs.length by omega)]
    have py : (part e (ys.map (Value.int k)).toArray (i * 1)).run P w = .ok (.int k (ys.getD i 0)) w := by
      simp [part, isAgg, run_underlying he, List.getD, List.getElem?_eq_getElem (show i < ys.length by omega)]
    have pe : (Op.equalIn (d + 1) e (.int k (xs.getD i 0)) (.int k (ys.getD i 0))).run P w = .ok (xs.getD i 0 == ys.getD i 0) w := by
      rw [run_equalIn_int w d e k k _ _ he]
    simp only [List.forIn_cons, Sem.run_bind, px, py, pe, Result.andThen_ok, List.all_cons]
    cases hb : (xs.getD i 0 == ys.getD i 0)
    · simp
    · simp only [Bool.not_true, Bool.false_eq_true, if_false, Sem.run_pure, Result.andThen_ok, Bool.true_and]
      exact ih fun j hj => hl j (by simp [hj])
theorem run_eql_ints (t e : TypeId) (n : Nat) (k : IntKind) (ht : P.underlying t = some (.array n e)) (he : P.underlying e = some (.int k)) (hsz : ∀ w, (sizeOf e).run P w = .ok 1 w)
    (u v : Value) (hu : rowOK k n u) (hv : rowOK k n v) :
    (binOp .eql t u v).run P w = .ok (.bool (valEq u v)) w ∧ (binOp .neq t u v).run P w = .ok (.bool (!valEq u v)) w := by
  obtain ⟨xs, hx, rfl⟩ := hu
  obtain ⟨ys, hy, rfl⟩ := hv
  have he' := run_equalIn_ints w 9998 t e n k ht he hsz xs ys hx hy
  have e2 : (xs == ys) = valEq (.agg (xs.map (Value.int k)).toArray) (.agg (ys.map (Value.int k)).toArray) := by
    rw [Bool.eq_iff_iff, valEq_iff, beq_iff_eq]
    constructor
    · rintro rfl; rfl
    · intro h
      injection h with h
      have h1 := congrArg Array.toList h
      exact map_int_inj (by simpa using h1)
  rw [e2] at he'
  constructor
  · rw [run_eql_struct, he']
    rfl
  · rw [run_neq_struct, he']
    rfl
theorem execEql_row {T e n : Nat} {k : IntKind} (op : BinOp) (hop : op = .eql ∨ op = .neq) (ht : P.underlying T = some (.array n e)) (he : P.underlying e = some (.int k)) (hsz : ∀ w, (sizeOf e).run P w = .ok 1 w) (hm : P.eqGuardType P.depth T = false)
    (ev : Operand → Value) (ds : Option Tmp) (x y : Operand) (yt ty : TypeId) (ps : String) (af : Array Edge) (g : Option (Nat × Bool)) (hx : rowOK k n (ev x)) (hy : rowOK k n (ev y)) :
    (execOp ev ⟨ds, .binOp op T x y yt, ty, ps, af, g⟩).run P w = .ok (.value (.bool (if op = .eql then valEq (ev x) (ev y) else !valEq (ev x) (ev y)))) w := by
  have hr := run_eql_ints w T e n k ht he hsz (ev x) (ev y) hx hy
  have hg : (eqGuard op T x y (ev x) (ev y)).run P w = .ok () w := by
    obtain ⟨xs, _, hx⟩ := hx
    obtain ⟨ys, _, hy⟩ := hy
    rw [hx, hy]
    exact run_eqGuard_agg w op T x y _ _ hm
  rcases hop with rfl | rfl
  · simp only [execOp, Sem.run_bind, hg, Result.andThen_ok, hr.1, Sem.run_pure, if_true]
  · simp only [execOp, Sem.run_bind, hg, Result.andThen_ok, hr.2, Sem.run_pure, reduceCtorEq, if_false]
end
def pgOK (v : Value) : Prop := rowOK .u8 256 v
theorem pgOK_bytes (l : List Int) (h : l.length = 256) : pgOK (.agg (bytesV l)) := ⟨l, h, rfl⟩
theorem pgOK_zero : pgOK (.agg zero256) := pgOK_bytes (zeros 256) (List.length_replicate ..)
theorem guard26 : Try.prog.eqGuardType Try.prog.depth 24 = false := by kernel_rfl
theorem eql26 (w : World) (ev : Operand → Value) (ds : Option Tmp) (x y : Operand) (yt ty : TypeId) (ps : String) (af : Array Edge) (g : Option (Nat × Bool)) (hx : pgOK (ev x)) (hy : pgOK (ev y)) :
    (execOp ev ⟨ds, .binOp .eql 24 x y yt, ty, ps, af, g⟩).run Try.prog w = .ok (.value (.bool (valEq (ev x) (ev y)))) w :=
  execEql_row w .eql (.inl rfl) Try.underlying24 Try.underlying5 sizeU8 guard26 ev ds x y yt ty ps af g hx hy
theorem neq26 (w : World) (ev : Operand → Value) (ds : Option Tmp) (x y : Operand) (yt ty : TypeId) (ps : String) (af : Array Edge) (g : Option (Nat × Bool)) (hx : pgOK (ev x)) (hy : pgOK (ev y)) :
    (execOp ev ⟨ds, .binOp .neq 24 x y yt, ty, ps, af, g⟩).run Try.prog w = .ok (.value (.bool (!valEq (ev x) (ev y)))) w :=
  execEql_row w .neq (.inr rfl) Try.underlying24 Try.underlying5 sizeU8 guard26 ev ds x y yt ty ps af g hx hy
end Go.Proofs.Ytegcbdfilkecpaa
/- The sealed sector: what it says; no condition. -/
namespace Go.Proofs.Ytegcbdfilkecpaa
open Go.RowKit

attribute [local go_sem ↓] loadSec storeSec allocSec loadW4 storeW4
theorem four_inj {a b : Int} : ∀ {l m : List Int}, l.length = 4 → m.length = 4 → (∀ y ∈ l, 0 ≤ y ∧ y < 256) → (∀ y ∈ m, 0 ≤ y ∧ y < 256) → (num l 0 = num m 0 ↔ l = m)
  | [a, b, c, d], [e, f, g, h], _, _, h1, h2 => by
    simp only [List.mem_cons, List.not_mem_nil, or_false, forall_eq_or_imp, forall_eq] at h1 h2
    unfold num
    simp only [List.getD_cons_zero, List.getD_cons_succ, List.cons.injEq, and_true, Nat.zero_add]
    omega
theorem num_drop (l : List Int) (a : Nat) : num l a = num ((l.drop a).take 4) 0 := by
  unfold num
  simp only [List.getD_eq_getElem?_getD, List.getElem?_take, List.getElem?_drop]
  simp
theorem words_eq {l : List Int} (hl : l.length = 64) (hr : ∀ y ∈ l, 0 ≤ y ∧ y < 256) : (wordsAt l 0 = wordsAt l 16) ↔ l.take 16 = (l.drop 16).take 16 := by
  have hd : ∀ a, ∀ y ∈ (l.drop a).take 4, 0 ≤ y ∧ y < 256 := fun a y hy => hr y (List.mem_of_mem_drop (List.mem_of_mem_take hy))
  have key : ∀ a b, a + 4 ≤ 64 → b + 4 ≤ 64 → (num l a = num l b ↔ (l.drop a).take 4 = (l.drop b).take 4) := fun a b ha hb => by
    rw [num_drop l a, num_drop l b]
    exact four_inj (a := 0) (b := 0) (by simp; omega) (by simp; omega) (hd a) (hd b)
  have split16 : ∀ a, a + 16 ≤ 64 → (l.drop a).take 16 = (l.drop a).take 4 ++ ((l.drop (a + 4)).take 4 ++ ((l.drop (a + 8)).take 4 ++ (l.drop (a + 12)).take 4)) := fun a ha => by
    have e : ∀ b k, (l.drop b).take (4 + k) = (l.drop b).take 4 ++ (l.drop (b + 4)).take k := fun b k => by
      rw [List.take_add, List.drop_drop]
    rw [show 16 = 4 + (4 + (4 + 4)) from rfl, e, e, e]
  have h0 := split16 0 (by omega)
  have h1 := split16 16 (by omega)
  rw [List.drop_zero] at h0
  constructor
  · intro h
    simp only [wordsAt, W4.mk.injEq] at h
    obtain ⟨a, b, c, d⟩ := h
    rw [h0, h1, (key _ _ (by omega) (by omega)).1 b, (key _ _ (by omega) (by omega)).1 c, (key _ _ (by omega) (by omega)).1 d]
    have := (key 0 16 (by omega) (by omega)).1 a
    rw [List.drop_zero] at this
    rw [this]
  · intro h
    have hh := h
    rw [h0, h1] at h
    have ln : ∀ a, a + 4 ≤ 64 → ((l.drop a).take 4).length = 4 := fun a ha => by simp; omega
    have q0 := ln 0 (by omega)
    rw [List.drop_zero] at q0
    obtain ⟨a, h⟩ := List.append_inj h (by rw [q0, ln 16 (by omega)])
    obtain ⟨b, h⟩ := List.append_inj h (by rw [ln _ (by omega), ln _ (by omega)])
    obtain ⟨c, d⟩ := List.append_inj h (by rw [ln _ (by omega), ln _ (by omega)])
    simp only [wordsAt, W4.mk.injEq]
    refine ⟨(key 0 16 (by omega) (by omega)).2 ?_, (key _ _ (by omega) (by omega)).2 b, (key _ _ (by omega) (by omega)).2 c, (key _ _ (by omega) (by omega)).2 d⟩
    rw [List.drop_zero]
    exact a
theorem W4.eta_of {u v : W4} (h : u.a = v.a ∧ u.b = v.b ∧ u.c = v.c ∧ u.d = v.d) : u = v := by
  cases u
  cases v
  simp_all
def W4.l (w : W4) : List Int := [w.a, w.b, w.c, w.d]
theorem eqW4 (w : World) (u v : W4) : (Op.equalIn 10000 102 (.agg (w4A u)) (.agg (w4A v))).run Try.prog w = .ok (u.l == v.l) w :=
  run_equalIn_ints w 9998 102 100 4 .u32 Try.underlying102 Try.underlying100 (fun _ => by kernel_rfl) u.l v.l rfl rfl
/-- in the midst of Open -/
structure OpS (w : World) (l : List Int) (W : World) : Prop where
  kp : Kp NoB w W
  b1 : Blk W w.heap.size 146 (bytesV l)
  b2 : Blk W (w.heap.size + 1) 102 #[.int .u32 0, .int .u32 0, .int .u32 0, .int .u32 0]
theorem OpS.keep {w : World} {l : List Int} {W W' : World} (h : OpS w l W) (k : Kp NoB W W') : OpS w l W' := ⟨h.kp.trans k (fun _ _ q => q), h.b1.keep k (fun q => q), h.b2.keep k (fun q => q)⟩
theorem OpS.sp {w : World} {l : List Int} {W : World} (h : OpS w l W) : W.rangeAt w.heap.size 0 (l.map (Value.int .u8)) := by
  have := Blk.range (xa := []) (xb := l.map (Value.int .u8)) (xd := []) (by have := h.b1; unfold bytesV at this; simpa using this) 0 rfl
  exact this
theorem OpS.at_ {w : World} {l : List Int} {W : World} (h : OpS w l W) (hl : l.length = 64) : W.there w.heap.size 0 64 ∧ readRow W w.heap.size 0 64 = bytesV l :=
  ⟨h.b1.thereAll 64 (by simp [bytesV, hl]), h.b1.readAll 64 (by simp [bytesV, hl])⟩
set_option maxRecDepth 100000 in
set_option maxHeartbeats 1600000 in
theorem open_ok (w : World) (l : List Int) (hl : l.length = 64) (hr : ∀ y ∈ l, 0 ≤ y ∧ y < 256) :
    Calls Try.prog 113 #[.agg (bytesV l)] w fun e w' => e = .returned (.agg (w4A (openB l))) ∧ Kp NoB w w' := by
  have HL := Lib.hid hl
  have HR := Lib.hid hr
  have HW := Lib.hid (words_eq hl hr)
  clear hl hr
  have hve : ((wordsAt l 0).l == (wordsAt l 16).l) = decide (l.take 16 = (l.drop 16).take 16) := by
    rw [Bool.eq_iff_iff, beq_iff_eq, decide_eq_true_iff, ← HW.out]
    constructor
    · intro h
      simp only [W4.l, List.cons.injEq, and_true] at h
      exact W4.eta_of h
    · intro h
      rw [h]
  have heq := fun w' => eqW4 w' (wordsAt l 0) (wordsAt l 16)
  rw [hve] at heq
  obtain ⟨D, hD⟩ : ∃ D, decide (l.take 16 = (l.drop 16).take 16) = D := ⟨_, rfl⟩
  rw [hD] at heq
  have HD := Lib.hid hD
  clear hve hD
  have hu := Try.underlying146
  have hi1 : (Try.prog.info? 146).map (·.size) = some (l.map (Value.int .u8)).length := by rw [List.length_map, HL.out]; exact infoSec
  have HST : Hid (OpS w l ((w.alloc (.cells (bytesV l) 146)).alloc (.cells #[.int .u32 0, .int .u32 0, .int .u32 0, .int .u32 0] 102))) :=
    Lib.hid ⟨((Kp.refl _ _).alloc _).alloc _, (Blk.new _ _ _).alloc _, Blk.newAt _ _ _ _ (by simp)⟩
  go_enter Try.func113, Try.ntmps113
  go_wp2_with fail
  refine forget (p := fun wx => Code.wp _ _ _ _ wx) (OpS w l) HST.out ?_
  intro W hW
  clear HST
  refine wp_region_held_drew (S := fun W' => W'.rangeAt w.heap.size 0 (l.map (Value.int .u8))) (by kernel_rfl) hW.sp (fun hHeld => ?_)
  have h0 := hW.keep (Kp.refl NoB W).drew
  generalize W.drew = W0 at h0 hHeld ⊢
  refine wpAnyH_takeL (i := 0) (v := .agg ((l.map (Value.int .u8))).toArray) rfl (by kernel_rfl) (by kernel_rfl) (by kernel_rfl) (fun _ _ _ h => h) (yieldsIf_load_mid (by rfl) _ _ rfl _ _ rfl (l.map (Value.int .u8)) _ (fun _ q => q) hu rfl hi1) h0.sp ?_
  simp only [Act.put, List.setIfInBounds_toArray, List.set_cons_zero, List.set_cons_succ]
  refine wpAnyH_takeL (i := 2) (v := .agg ((l.map (Value.int .u8))).toArray) rfl (by kernel_rfl) (by kernel_rfl) (by kernel_rfl) (fun _ _ _ h => h) (yieldsIf_load_mid (by rfl) _ _ rfl _ _ rfl (l.map (Value.int .u8)) _ (fun _ q => q) hu rfl hi1) h0.sp ?_
  simp only [Act.put, List.setIfInBounds_toArray, List.set_cons_zero, List.set_cons_succ]
  refine wpAnyH_ready (rs := [1]) (by kernel_rfl) (by simp) ?_
  refine AllReadyH.callR (fun x W' => x = .agg (w4A (wordsAt l 0)) ∧ OpS w l W') rfl (by rfl) 155 #[.agg (bytesV l), .int .i64 0] (by first | (go_simp; done) | (go_simp; rfl)) (fun _ _ q => q.2.sp) ((words_ok W0 l 0 (by omega) HL.out HR.out).mono (by rintro e w19 ⟨rfl, hk⟩; exact ⟨_, rfl, rfl, h0.keep hk⟩)) ?_ AllReadyH.nil
  rintro _ W1 ⟨rfl, h1⟩
  simp only [Act.put, List.setIfInBounds_toArray, List.set_cons_zero, List.set_cons_succ]
  refine wpAnyH_ready (rs := [3]) (by kernel_rfl) (by simp) ?_
  refine AllReadyH.callR (fun x W' => x = .agg (w4A (wordsAt l 16)) ∧ OpS w l W') rfl (by rfl) 155 #[.agg (bytesV l), .int .i64 1] (by first | (go_simp; done) | (go_simp; rfl)) (fun _ _ q => q.2.sp) ((words_ok W1 l 1 (by omega) HL.out HR.out).mono (by rintro e w19 ⟨rfl, hk⟩; exact ⟨_, rfl, rfl, h1.keep hk⟩)) ?_ AllReadyH.nil
  rintro _ W2 ⟨rfl, h2⟩
  simp only [Act.put, List.setIfInBounds_toArray, List.set_cons_zero, List.set_cons_succ]
  refine wpAnyH_takeL (i := 4) (v := (.bool D)) rfl (by kernel_rfl) (by kernel_rfl) (by kernel_rfl) (fun _ _ _ h => h) (Or.inl ⟨by rfl, fun w' hq => by go_simp⟩) h2.sp ?_
  simp only [Act.put, List.setIfInBounds_toArray, List.set_cons_zero, List.set_cons_succ]
  refine wpAnyH_done (by kernel_rfl) ?_ _
  clear hHeld h0 h1 hW
  have H2 := Lib.hid h2
  obtain ⟨t1, r1⟩ := h2.at_ HL.out
  have t2 : W2.there (w.heap.size + 1) 0 4 := h2.b2.thereAll 4 rfl
  have e1 : openB l = if l.take 16 = (l.drop 16).take 16 then wordsAt l 0 else wordsAt l 32 := rfl
  have HE := Lib.hid e1
  clear h2 hi1 hu e1 heq
  have hll : ∀ k, (w4A (wordsAt l k)).size = 4 := fun _ => rfl
  rcases D with _ | _
  · have e2 : openB l = wordsAt l 32 := by rw [HE.out, if_neg (of_decide_eq_false HD.out)]
    go_wp2_with fail
    refine (words_ok W2 l 2 (by omega) HL.out HR.out).mono ?_
    rintro e w3 ⟨rfl, hk⟩
    have H3 := Lib.hid (H2.out.keep hk)
    have t3 : w3.there (w.heap.size + 1) 0 4 := H3.out.b2.thereAll 4 rfl
    obtain ⟨RR, hRR⟩ : ∃ RR, w4A (wordsAt l (16 * 2)) = RR := ⟨_, rfl⟩
    have o1 := w4A_ones (wordsAt l (16 * 2))
    have s1 : (w4A (wordsAt l (16 * 2))).size = 4 := rfl
    rw [hRR] at o1 s1
    rw [hRR]
    have HRR := Lib.hid hRR
    have S1 := Lib.hid s1
    clear hk hRR hll
    go_wp2_with fail
    refine bodyPost_ret (ret_cell1 rfl _ _ _ _ _ _ rfl (H3.out.b2.whole RR S1.out.symm) Try.underlying102 rfl (by rw [S1.out]; exact infoW4)) rfl ⟨by rw [e2, ← HRR.out], ?_⟩
    exact Kp.setCells (.inl (by omega)) _ _ _ H3.out.kp
  · have e2 : openB l = wordsAt l 0 := by rw [HE.out, if_pos (of_decide_eq_true HD.out)]
    go_wp2_with fail
    refine (words_ok W2 l 0 (by omega) HL.out HR.out).mono ?_
    rintro e w3 ⟨rfl, hk⟩
    have H3 := Lib.hid (H2.out.keep hk)
    have t3 : w3.there (w.heap.size + 1) 0 4 := H3.out.b2.thereAll 4 rfl
    obtain ⟨RR, hRR⟩ : ∃ RR, w4A (wordsAt l (16 * 0)) = RR := ⟨_, rfl⟩
    have o1 := w4A_ones (wordsAt l (16 * 0))
    have s1 : (w4A (wordsAt l (16 * 0))).size = 4 := rfl
    rw [hRR] at o1 s1
    rw [hRR]
    have HRR := Lib.hid hRR
    have S1 := Lib.hid s1
    clear hk hRR hll
    go_wp2_with fail
    refine bodyPost_ret (ret_cell1 rfl _ _ _ _ _ _ rfl (H3.out.b2.whole RR S1.out.symm) Try.underlying102 rfl (by rw [S1.out]; exact infoW4)) rfl ⟨by rw [e2, ← HRR.out], ?_⟩
    exact Kp.setCells (.inl (by omega)) _ _ _ H3.out.kp
end Go.Proofs.Ytegcbdfilkecpaa
/- The sealed sector, made; no condition. -/
namespace Go.Proofs.Ytegcbdfilkecpaa
open Go.RowKit

attribute [local go_sem ↓] loadSec storeSec allocSec loadW4 storeW4
def W4.at_ (w : W4) (i : Nat) : Int := if i = 0 then w.a else if i = 1 then w.b else if i = 2 then w.c else w.d
def byteK (n : Int) (k : Nat) : Int := if k = 0 then n / 16777216 % 256 else if k = 1 then n / 65536 % 256 else if k = 2 then n / 256 % 256 else n % 256
def W4.b3 (w : W4) : List Int := w.bytes ++ w.bytes ++ w.bytes
theorem b3_len (w : W4) : w.b3.length = 48 := rfl
theorem b3_at (w : W4) (c i k : Nat) (hc : c < 3) (hi : i < 4) (hk : k < 4) : w.b3[16 * c + 4 * i + k]? = some (byteK (w.at_ i) k) := by
  rcases (show c = 0 ∨ c = 1 ∨ c = 2 by omega) with rfl | rfl | rfl <;> rcases (show i = 0 ∨ i = 1 ∨ i = 2 ∨ i = 3 by omega) with rfl | rfl | rfl | rfl <;> rcases (show k = 0 ∨ k = 1 ∨ k = 2 ∨ k = 3 by omega) with rfl | rfl | rfl | rfl <;> rfl
/-- the first n bytes are there -/
def upS (w : W4) (n : Nat) : List Int := w.b3.take n ++ zeros (64 - n)
theorem upS_len (w : W4) (n : Nat) (hn : n ≤ 48) : (upS w n).length = 64 := by
  unfold upS
  simp [zeros, b3_len]
  omega
theorem upS_all (w : W4) : upS w 48 = sealB w := rfl
theorem upS_set (w : W4) (n : Nat) (x : Int) (hn : n < 48) (hx : w.b3[n]? = some x) : (upS w n).set n x = upS w (n + 1) := by
  unfold upS
  have e1 : (w.b3.take n).length = n := by rw [List.length_take, b3_len]; omega
  rw [List.set_append_right _ _ (by omega), e1, Nat.sub_self, show 64 - n = (64 - (n + 1)) + 1 by omega]
  unfold zeros
  rw [List.replicate_succ, List.set_cons_zero, List.take_add_one, hx]
  simp
theorem bytesV_setJ (l : List Int) (n : Nat) (x : Int) : (bytesV l).setIfInBounds n (.int .u8 x) = bytesV (l.set n x) := by
  unfold bytesV
  rw [List.setIfInBounds_toArray, List.map_set]
/-- in the midst of Seal -/
structure SeS (w : World) (v : W4) (n : Nat) (W : World) : Prop where
  kp : Kp NoB w W
  b0 : Blk W w.heap.size 102 (w4A v)
  b1 : Blk W (w.heap.size + 1) 146 (bytesV (zeros 64))
  b2 : Blk W (w.heap.size + 2) 146 (bytesV (upS v n))
theorem SeS.set_ {w : World} {v : W4} {n : Nat} {W : World} (h : SeS w v n W) (hn : n < 48) (x : Int) (hx : v.b3[n]? = some x) : SeS w v (n + 1) (W.setCell ⟨w.heap.size + 2, n, none⟩ (.int .u8 x)) := by
  refine ⟨h.kp.setCell (p := ⟨w.heap.size + 2, n, none⟩) (.inl (by show _ ≤ w.heap.size + 2; omega)) _, h.b0.far (p := ⟨w.heap.size + 2, n, none⟩) (by simp) _, h.b1.far (p := ⟨w.heap.size + 2, n, none⟩) (by simp) _, ?_⟩
  have := h.b2.set_ n (.int .u8 x)
  rwa [bytesV_setJ, upS_set _ _ _ hn hx] at this
theorem indexW4 (v : W4) (i : Nat) (hi : i < 4) (w : World) : (Instr.index 102 (.agg (w4A v)) (.int .i64 i)).run Try.prog w = .ok (.int .u32 (v.at_ i)) w := by
  obtain ⟨inf, h1, h2⟩ : ∃ inf, Try.prog.info? 100 = some inf ∧ inf.size = 1 := by
    have h : (Try.prog.info? 100).map (·.size) = some 1 := by kernel_rfl
    cases hq : Try.prog.info? 100 with
    | none => rw [hq] at h; cases h
    | some i => rw [hq] at h; exact ⟨i, rfl, by simpa using h⟩
  exact run_index_arr w 102 100 4 (.int .u32) inf Try.underlying102 Try.underlying100 rfl h1 h2 (w4A v).toList i hi _ (by
    rcases (show i = 0 ∨ i = 1 ∨ i = 2 ∨ i = 3 by omega) with rfl | rfl | rfl | rfl <;> rfl)
set_option maxRecDepth 100000 in
set_option maxHeartbeats 1600000 in
theorem seal_ok (w : World) (v : W4) : Calls Try.prog 115 #[.agg (w4A v)] w fun e w' => e = .returned (.agg (bytesV (sealB v))) ∧ Kp NoB w w' := by
  have hst : SeS w v 0 (((w.alloc (.cells (w4A v) 102)).alloc (.cells (bytesV (zeros 64)) 146)).alloc (.cells (bytesV (zeros 64)) 146)) :=
    ⟨(((Kp.refl _ _).alloc _).alloc _).alloc _, ((Blk.new _ _ _).alloc _).alloc _, (Blk.newAt _ _ _ _ (by simp)).alloc _, Blk.newAt _ _ _ _ (by simp)⟩
  have HST := Lib.hid hst
  clear hst
  go_enter Try.func115, Try.ntmps115
  go_wp2
  refine forget (p := fun wx => Code.wp _ _ _ _ wx) (SeS w v 0) HST.out ?_
  intro W hW
  have HW := Lib.hid hW
  clear hW HST
  go_loopw [8] (fun x wr => ∃ c : Nat, c ≤ 3 ∧ x = .int .i64 c ∧ SeS w v (16 * c) wr) (fun x _ => 3 - (intOf x).toNat)
  case atStart => exact ⟨0, by omega, rfl, HW.out⟩
  case round =>
    obtain ⟨c, hc, rfl, hs⟩ := hrel
    have HS := Lib.hid hs
    by_cases hc3 : c < 3
    · have hcc : (c : Int) < 3 := by omega
      have t0 : wr.there w.heap.size 0 4 := hs.b0.thereAll 4 rfl
      have r0 : readRow wr w.heap.size 0 4 = w4A v := hs.b0.readAll 4 rfl
      clear hs
      go_wp2_with fail
      go_loopw [12] (fun x wr => ∃ i : Nat, i ≤ 4 ∧ x = .int .i64 i ∧ SeS w v (16 * c + 4 * i) wr) (fun x _ => 4 - (intOf x).toNat)
      case atStart => exact ⟨0, by omega, rfl, HS.out⟩
      case round =>
        obtain ⟨i, hi, rfl, hs⟩ := hrel
        have HS2 := Lib.hid hs
        by_cases hi4 : i < 4
        · have hii : (i : Int) < 4 := by omega
          have hix := indexW4 v i hi4
          obtain ⟨N, hN⟩ : ∃ N, v.at_ i = N := ⟨_, rfl⟩
          rw [hN] at hix
          have HN := Lib.hid hN
          clear hs hN
          go_wp2_with fail
          go_loopw [16] (fun x wr => ∃ k : Nat, k ≤ 4 ∧ x = .int .i64 k ∧ SeS w v (16 * c + 4 * i + k) wr) (fun x _ => 4 - (intOf x).toNat)
          case atStart => exact ⟨0, by omega, rfl, HS2.out⟩
          case round =>
            obtain ⟨k, hk, rfl, hs⟩ := hrel
            have HS3 := Lib.hid hs
            by_cases hk4 : k < 4
            · have hkk : (k : Int) < 4 := by omega
              have hat := b3_at v c i k hc3 hi4 hk4
              rw [HN.out] at hat
              have hp48 : 16 * c + 4 * i + k < 48 := by omega
              obtain ⟨Ps, hPs⟩ : ∃ Ps, 16 * c + 4 * i + k = Ps := ⟨_, rfl⟩
              have HPs := Lib.hid hPs
              rw [hPs] at hat hp48
              have hP2 : c * 16 + i * 4 + k = Ps := by omega
              have hb48 : c * 16 + i * 4 + k < 64 := by omega
              have c2 : wr.cell? ⟨w.heap.size + 1 + 1, Ps, none⟩ = some (.int .u8 0) := by
                rw [show w.heap.size + 1 + 1 = w.heap.size + 2 from rfl, hs.b2.cell, hPs]
                unfold bytesV upS
                have e1 : (v.b3.take Ps).length = Ps := by rw [List.length_take, b3_len]; omega
                simp only [List.getElem?_toArray, List.getElem?_map]
                rw [List.getElem?_append_right (by omega), e1, Nat.sub_self]
                unfold zeros
                rw [show 64 - Ps = (64 - (Ps + 1)) + 1 by omega, List.replicate_succ]
                rfl
              have z2 : wr.frozen? ⟨w.heap.size + 1 + 1, Ps, none⟩ = false := hs.b2.frozen Ps
              rw [← hP2] at c2 z2
              have HAT := Lib.hid hat
              have HP48 := Lib.hid hp48
              clear hs hPs hat hp48 hP2
              have FIN : Hid (∀ W' (y : Int) (m : Nat), W' = wr.setCell ⟨w.heap.size + 2, c * 16 + i * 4 + k, none⟩ (.int .u8 y) → y = byteK N k → m = k + 1 → SeS w v (16 * c + 4 * i + m) W') := Lib.hid (by
                rintro W' y m rfl rfl rfl
                have h1 := HS3.out
                have h2 := HPs.out
                rw [h2] at h1
                have := h1.set_ HP48.out _ HAT.out
                rw [show c * 16 + i * 4 + k = Ps by omega, show 16 * c + 4 * i + (k + 1) = Ps + 1 by omega]
                exact this)
              rcases (show k = 0 ∨ k = 1 ∨ k = 2 ∨ k = 3 by omega) with rfl | rfl | rfl | rfl
              · simp only [Nat.add_zero] at c2 z2
                go_wp2_with fail
                exact ⟨⟨1, by omega, by congr 1, FIN.out _ _ _ rfl rfl rfl⟩, by simp [intOf]⟩
              · go_wp2_with fail
                exact ⟨⟨2, by omega, by congr 1, FIN.out _ _ _ rfl rfl rfl⟩, by simp [intOf]⟩
              · go_wp2_with fail
                exact ⟨⟨3, by omega, by congr 1, FIN.out _ _ _ rfl rfl rfl⟩, by simp [intOf]⟩
              · go_wp2_with fail
                exact ⟨⟨4, by omega, by congr 1, FIN.out _ _ _ rfl rfl rfl⟩, by simp [intOf]⟩
            · have hkk : ¬ (k : Int) < 4 := by omega
              obtain rfl : k = 4 := by omega
              clear hs
              go_wp2_with fail
              exact ⟨⟨i + 1, by omega, by congr 1, by have := HS3.out; rwa [show 16 * c + 4 * i + 4 = 16 * c + 4 * (i + 1) by omega] at this⟩, by simp [intOf]; omega⟩
        · have hii : ¬ (i : Int) < 4 := by omega
          obtain rfl : i = 4 := by omega
          clear hs
          go_wp2_with fail
          exact ⟨⟨c + 1, by omega, by congr 1, by have := HS2.out; rwa [show 16 * c + 4 * 4 = 16 * (c + 1) by omega] at this⟩, by simp [intOf]; omega⟩
    · have hcc : ¬ (c : Int) < 3 := by omega
      obtain rfl : c = 3 := by omega
      have b2 := hs.b2
      rw [show 16 * 3 = 48 from rfl, upS_all] at b2
      have sl : (sealB v).length = 64 := rfl
      have t1 : wr.there (w.heap.size + 1 + 1) 0 64 := b2.thereAll 64 (by rw [bytesV_size, sl])
      have r1 : readRow wr (w.heap.size + 1 + 1) 0 64 = bytesV (sealB v) := b2.readAll 64 (by rw [bytesV_size, sl])
      have t2 : wr.there (w.heap.size + 1) 0 64 := hs.b1.thereAll 64 (by rw [bytesV_size]; rfl)
      have o1 := bytesV_one (sealB v)
      have s1 : (bytesV (sealB v)).size = 64 := by rw [bytesV_size, sl]
      obtain ⟨RR, hRR⟩ : ∃ RR, bytesV (sealB v) = RR := ⟨_, rfl⟩
      rw [hRR] at r1 o1 s1
      have HRR := Lib.hid hRR
      have S1 := Lib.hid s1
      clear hs b2 sl hRR
      go_wp2_with fail
      refine bodyPost_ret (ret_cell1 rfl _ _ _ _ _ _ rfl (HS.out.b1.whole RR (by rw [S1.out, bytesV_size]; rfl)) Try.underlying146 rfl (by rw [S1.out]; exact infoSec)) rfl ⟨by rw [HRR.out], ?_⟩
      exact Kp.setCells (.inl (by omega)) _ _ _ HS.out.kp
end Go.Proofs.Ytegcbdfilkecpaa
/- The journal: steps one behind the other, till one is refused; no condition. -/
namespace Go.Proofs.Ytegcbdfilkecpaa
open Go.RowKit

/-- what function values from place i on do, one behind the other -/
def Chain (g o : Nat) : Nat → List (Nat × Array Value × Array Value) → (Int → World → Prop) → World → Prop
  | _, [], Q, w => Q 0 w
  | i, (f, a, c) :: r, Q, w => w.cell? ⟨g, o + i, none⟩ = some (.func (.func f) a c) ∧ (∀ args w, (callFunc f args).run Try.prog w = .ok (.enter f args) w) ∧
      Calls Try.prog f (a ++ c) w fun e w' => ∃ x : Int, e = .returned (.int .i64 x) ∧ (x ≠ 0 → Q x w') ∧ (x = 0 → Chain g o (i + 1) r Q w')
def ChRel (g o n : Nat) (Q : Int → World → Prop) (v : Value) (wr : World) : Prop := ∃ (i : Nat) (l : List (Nat × Array Value × Array Value)), v = .int .i64 (i : Int) ∧ i + l.length = n ∧ Chain g o i l Q wr
set_option maxRecDepth 100000 in
set_option maxHeartbeats 800000 in
theorem all_ok (w : World) (g o n cap : Nat) (l : List (Nat × Array Value × Array Value)) (Q : Int → World → Prop) (hl : l.length = n) (hn : n < 1099511627776) (h : Chain g o 0 l Q w) :
    Calls Try.prog 52 #[.slice (some ⟨g, o, none⟩) n cap] w fun e w' => ∃ x : Int, e = .returned (.int .i64 x) ∧ Q x w' := by
  have H := Lib.hid h
  have HL := Lib.hid hl
  clear h hl
  go_enter Try.func52, Try.ntmps52
  go_wp2_with fail
  go_loopw [8] (fun v wr => ChRel g o n Q v wr) (fun v _ => n - (intOf v).toNat)
  case atStart => exact ⟨0, l, rfl, by have := HL.out; omega, H.out⟩
  case round =>
    obtain ⟨i, l', rfl, hi, hc⟩ := hrel
    cases l' with
    | nil =>
      have hii : ¬ (i : Int) < (n : Int) := by simp at hi; omega
      have HC := Lib.hid (show Q 0 wr from hc)
      clear hc hi
      go_wp2_with fail
      go_ret
      exact ⟨0, rfl, HC.out⟩
    | cons x r =>
      obtain ⟨f, a, c⟩ := x
      obtain ⟨h1, h2, h3⟩ := hc
      have hii : (i : Int) < (n : Int) := by simp at hi; omega
      have HI := Lib.hid hi
      clear hi
      have H3 := Lib.hid h3
      clear h3
      go_wp2_with fail
      refine H3.out.mono ?_
      rintro e w' ⟨x, rfl, hx0, hx1⟩
      have HX0 := Lib.hid hx0
      have HX1 := Lib.hid hx1
      clear hx0 hx1
      by_cases hx : x = 0
      · subst hx
        have HX := Lib.hid (HX1.out rfl)
        go_wp2_with fail
        go_roundw
        case rel => exact ⟨i + 1, r, by go_num, by have := HI.out; simp at this; omega, HX.out⟩
        case measure => simp [intOf]; omega
      · have HX := Lib.hid (HX0.out hx)
        go_wp2_with fail
        go_ret
        exact ⟨x, rfl, HX.out⟩
end Go.Proofs.Ytegcbdfilkecpaa
