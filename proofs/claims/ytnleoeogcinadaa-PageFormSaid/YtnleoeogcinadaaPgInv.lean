/- Pages as lists: a page is the page of what is read of it, and what is read of a page is what was laid; no condition. -/
import Derived.Test.YtnleoeogcinadaaPgPlain
namespace Go.Proofs.Ytnleoeogcinadaa
open Go.RowKit

theorem strOfI (s : ByteArray) : strOf (strI s) = s := by
  unfold strOf strI
  apply ByteArray.ext
  rw [List.map_map]
  have : ((fun n : Int => UInt8.ofNat n.toNat) ∘ fun b : UInt8 => (b.toNat : Int)) = id := by
    funext b
    simp
  rw [this, List.map_id]
theorem strI_rng (s : ByteArray) : ∀ n ∈ strI s, 0 ≤ n ∧ n < 256 := by
  intro n hn
  unfold strI at hn
  obtain ⟨b, _, rfl⟩ := List.mem_map.1 hn
  have := b.toNat_lt
  omega
theorem flatI_rng (xs : List ByteArray) : ∀ n ∈ flatI xs, 0 ≤ n ∧ n < 256 := by
  intro n hn
  unfold flatI at hn
  obtain ⟨s, _, hs⟩ := List.mem_flatMap.1 hn
  exact strI_rng s n hs
theorem layI_eq (kind link : Int) (xs : List ByteArray) : layI kind link xs = hd6 kind link xs.length ++ xs.map (fun c => (c.size : Int)) ++ (flatI xs ++ zeros (250 - xs.length - (flatI xs).length)) := by
  unfold layI layK
  rw [List.take_length, Nat.sub_self]
  simp [zeros]
theorem room_len (xs : List ByteArray) (h : 0 ≤ roomI xs) : xs.length + (flatI xs).length ≤ 250 := by
  rw [roomI_flat] at h
  omega
/-- the lengths' part is the lengths, the bytes' part the bytes -/
theorem rd_inv (l : List Int) (hl : l.length = 256) (hr : ∀ n ∈ l, 0 ≤ n ∧ n < 256) : ∀ (ns : List Int) (a : Nat) (cs : List ByteArray) (b : Nat), rdCells l a ns = some (cs, b) → a ≤ 256 →
    ns = cs.map (fun c => (c.size : Int)) ∧ a ≤ b ∧ b ≤ 256 ∧ l.drop a = flatI cs ++ l.drop b
  | [], a, cs, b, h, ha => by
    simp only [rdCells, Option.some.injEq, Prod.mk.injEq] at h
    obtain ⟨rfl, rfl⟩ := h
    simp [flatI, ha]
  | n :: r, a, cs, b, h, ha => by
    unfold rdCells at h
    by_cases hb : n < 1 ∨ 60 < n ∨ 256 < (a : Int) + n
    · rw [if_pos hb] at h; cases h
    · rw [if_neg hb] at h
      cases hq : rdCells l (a + n.toNat) r with
      | none => rw [hq] at h; cases h
      | some q =>
        obtain ⟨cs', b'⟩ := q
        rw [hq] at h
        simp only [Option.map_some, Option.some.injEq, Prod.mk.injEq] at h
        obtain ⟨rfl, rfl⟩ := h
        obtain ⟨h1, h2, h3, h4⟩ := rd_inv l hl hr r _ cs' b' hq (by omega)
        have hlen : (subL l a n.toNat).length = n.toNat := by
          unfold subL
          rw [List.length_take, List.length_drop]
          omega
        refine ⟨?_, by omega, h3, ?_⟩
        · rw [List.map_cons, strOf_size, hlen, h1]
          congr 1
          omega
        · unfold flatI at h4 ⊢
          rw [List.flatMap_cons, strI_strOf (subL l a n.toNat) (fun x hx => hr x (List.mem_of_mem_drop (List.mem_of_mem_take hx))), List.append_assoc, ← h4]
          unfold subL
          rw [← List.drop_drop, List.take_append_drop]
theorem rd_lay : ∀ (xs : List ByteArray) (l : List Int) (a : Nat) (post : List Int), l.length = 256 → (∀ c ∈ xs, 1 ≤ c.size ∧ c.size ≤ 60) → l.drop a = flatI xs ++ post → a ≤ 256 → rdCells l a (xs.map (fun c => (c.size : Int))) = some (xs, a + (flatI xs).length)
  | [], l, a, post, hl, h60, hd, ha => by simp [rdCells, flatI]
  | c :: xs, l, a, post, hl, h60, hd, ha => by
    have hc := h60 c (by simp)
    have hlen : 256 - a = (flatI (c :: xs)).length + post.length := by
      have := congrArg List.length hd
      rw [List.length_drop, List.length_append, hl] at this
      exact this
    have hf : (flatI (c :: xs)).length = c.size + (flatI xs).length := by
      unfold flatI
      rw [List.flatMap_cons, List.length_append, strI_len]
    rw [List.map_cons]
    have hgood := rdCells_good l a c.size (xs.map (fun c => (c.size : Int))) (by omega)
    rw [hgood]
    have hd2 : l.drop a = strI c ++ (flatI xs ++ post) := by
      rw [hd]
      unfold flatI
      rw [List.flatMap_cons, List.append_assoc]
    have hd3 : l.drop (a + c.size) = flatI xs ++ post := by
      rw [← List.drop_drop, hd2, ← strI_len c, List.drop_left]
    rw [rd_lay xs l (a + c.size) post hl (fun d hd => h60 d (by simp [hd])) hd3 (by omega)]
    have hs : strOf (subL l a c.size) = c := by
      unfold subL
      rw [hd2, ← strI_len c, List.take_left, strOfI]
    simp only [Option.map_some, hs, hf]
    congr 2
    omega
theorem at_lt (l : List Int) (i : Nat) (h : i < l.length) : at_ l i = l[i] := by
  unfold at_
  rw [List.getElem?_eq_getElem h]
  rfl
theorem bytes_mem {l : List Int} (hB : Bytes l) : ∀ n ∈ l, 0 ≤ n ∧ n < 256 := by
  intro n hn
  obtain ⟨i, hi, rfl⟩ := List.getElem_of_mem hn
  have := hB.rng i
  rwa [at_lt l i hi] at this
theorem bytes_of_mem {l : List Int} (hl : l.length = 256) (h : ∀ n ∈ l, 0 ≤ n ∧ n < 256) : Bytes l := ⟨hl, fun i => by
  unfold at_
  cases e : l[i]? with
  | none => simp
  | some v => exact h v (List.mem_of_getElem? e)⟩
theorem beL4 (l : List Int) : beL l 4 = at_ l 2 * 16777216 + at_ l 3 * 65536 + at_ l 4 * 256 + at_ l 5 := by
  rw [beL_succ, beL_succ, beL_succ, beL_succ]
  show (((0 * 256 + at_ l 2) * 256 + at_ l 3) * 256 + at_ l 4) * 256 + at_ l 5 = _
  omega
theorem take6 (l : List Int) (hl : l.length = 256) : l.take 6 = [at_ l 0, at_ l 1, at_ l 2, at_ l 3, at_ l 4, at_ l 5] := by
  match l, hl with
  | a :: b :: c :: d :: e :: f :: r, _ => rfl
/-- a page is the page of what is read of it -/
theorem lay_read {l : List Int} (hB : Bytes l) {kind link : Int} {cs : List ByteArray} (h : readF l = some (kind, link, cs)) : layI kind link cs = l := by
  have r0 := hB.rng 0
  have r1 := hB.rng 1
  have r2 := hB.rng 2
  have r3 := hB.rng 3
  have r4 := hB.rng 4
  have r5 := hB.rng 5
  have hl := hB.len
  unfold readF at h
  by_cases hb : 5 < at_ l 0 ∨ 256 < 6 + at_ l 1
  · rw [if_pos hb] at h; cases h
  · rw [if_neg hb] at h
    cases hr : rdCells l (6 + (at_ l 1).toNat) (subL l 6 (at_ l 1).toNat) with
    | none => rw [hr] at h; cases h
    | some q =>
      obtain ⟨cs', b⟩ := q
      rw [hr] at h
      simp only at h
      split at h
      · rename_i hz
        simp only [Option.some.injEq, Prod.mk.injEq] at h
        obtain ⟨rfl, rfl, rfl⟩ := h
        obtain ⟨h1, h2, h3, h4⟩ := rd_inv l hl (bytes_mem hB) _ _ _ _ hr (by omega)
        have hN : (subL l 6 (at_ l 1).toNat).length = (at_ l 1).toNat := by
          unfold subL
          rw [List.length_take, List.length_drop]
          omega
        have hcl : cs'.length = (at_ l 1).toNat := by
          rw [← hN, h1, List.length_map]
        have hbl : 256 - (6 + (at_ l 1).toNat) = (flatI cs').length + (256 - b) := by
          have := congrArg List.length h4
          rw [List.length_drop, List.length_append, List.length_drop, hl] at this
          exact this
        have hz2 : l.drop b = zeros (250 - cs'.length - (flatI cs').length) := by
          apply List.eq_replicate_iff.2
          refine ⟨by rw [List.length_drop, hl]; omega, fun x hx => ?_⟩
          have := List.all_eq_true.1 hz x hx
          simpa using this
        rw [layI_eq, ← h1, ← hz2, ← h4]
        have hh : hd6 (at_ l 0) (beL l 4) cs'.length = l.take 6 := by
          rw [take6 l hl, hcl, beL4]
          unfold hd6 w8
          congr 1
          congr 1
          · omega
          congr 1
          · omega
          congr 1
          · omega
          congr 1
          · omega
          congr 1
          · omega
        rw [hh]
        unfold subL
        rw [← List.drop_drop, List.append_assoc, List.take_append_drop, List.take_append_drop]
      · cases h
theorem lay_bytes (kind link : Int) (xs : List ByteArray) (hk : 0 ≤ kind ∧ kind ≤ 5) (h60 : ∀ c ∈ xs, 1 ≤ c.size ∧ c.size ≤ 60) (hr : 0 ≤ roomI xs) : Bytes (layI kind link xs) := by
  refine bytes_of_mem (layI_len kind link xs hr) ?_
  rw [layI_eq]
  intro n hn
  rcases List.mem_append.1 hn with hn | hn
  · rcases List.mem_append.1 hn with hn | hn
    · unfold hd6 w8 at hn
      simp only [List.mem_cons, List.not_mem_nil, or_false] at hn
      rcases hn with rfl | rfl | rfl | rfl | rfl | rfl <;> omega
    · obtain ⟨c, hc, rfl⟩ := List.mem_map.1 hn
      have := h60 c hc
      omega
  · rcases List.mem_append.1 hn with hn | hn
    · exact flatI_rng xs n hn
    · have := List.eq_of_mem_replicate hn
      omega
/-- what is read of a page that was laid -/
theorem read_lay (kind link : Int) (xs : List ByteArray) (hk : 0 ≤ kind ∧ kind ≤ 5) (hlk : 0 ≤ link ∧ link < 4294967296) (h60 : ∀ c ∈ xs, 1 ≤ c.size ∧ c.size ≤ 60) (hr : 0 ≤ roomI xs) : readF (layI kind link xs) = some (kind, link, xs) := by
  have hlen := layI_len kind link xs hr
  have hrm := room_len xs hr
  have e := layI_eq kind link xs
  have hh : (layI kind link xs).take 6 = hd6 kind link xs.length := by
    rw [e, List.append_assoc]
    exact List.take_left' rfl
  have ht := (take6 _ hlen).symm.trans hh
  unfold hd6 w8 at ht
  simp only [List.cons.injEq, and_true] at ht
  obtain ⟨a0, a1, a2, a3, a4, a5⟩ := ht
  have a1' : at_ (layI kind link xs) 1 = (xs.length : Int) := by omega
  have hbe : beL (layI kind link xs) 4 = link := by rw [beL4, a2, a3, a4, a5]; omega
  have hsub : subL (layI kind link xs) 6 xs.length = xs.map (fun c => (c.size : Int)) := by
    unfold subL
    rw [e, List.append_assoc, List.drop_left' (by rfl)]
    exact List.take_left' (by simp)
  have hdrop : (layI kind link xs).drop (6 + xs.length) = flatI xs ++ zeros (250 - xs.length - (flatI xs).length) := by
    rw [e]
    exact List.drop_left' (by simp [hd6]; omega)
  unfold readF
  rw [a0, a1', if_neg (by omega), Int.toNat_natCast, hsub, rd_lay xs _ _ _ hlen h60 hdrop (by omega)]
  simp only
  rw [hbe, if_pos]
  rw [← List.drop_drop, hdrop, List.drop_left' rfl]
  rw [List.all_eq_true]
  intro x hx
  have := List.eq_of_mem_replicate hx
  simp [this]
end Go.Proofs.Ytnleoeogcinadaa
