/- Texts of this proof, one behind the other: lemmas and contracts; each says its own conditions. -/
import Derived.Test.YtegcbdfilkecpaaS1
import Derived.Test.YtegcbdfilkecpaaS4
import Derived.Test.YtegcbdfilkecpaaS5
import Derived.Test.YtegcbdfilkecpaaS6
import Derived.Test.YtegcbdfilkecpaaS7
import Derived.Test.YtegcbdfilkecpaaS8
import Derived.Shelf.SlSortCmp.NoneTotal
import Derived.Shelf.SlSortCmp.WholeK
import Derived.Test.YtegcbdfilkecpaaProg
import Derived.Lib.SortBridge
/- The journal: the pages of a change; no condition but on the bytes' length and the old count. -/
namespace Go.Proofs.Ytegcbdfilkecpaa
open Go.RowKit

/-- a row of bytes of the caller -/
def Bs (w : World) (A : Option Addr) (n : Nat) (bs : List Int) : Prop := bs.length = n ∧ (∀ y ∈ bs, 0 ≤ y ∧ y < 256) ∧ ∀ k y, bs[k]? = some y → ∃ g o, A = some ⟨g, o, none⟩ ∧ g < w.heap.size ∧ w.cell? ⟨g, o + k, none⟩ = some (.int .u8 y)
theorem Bs.keep {w w' : World} {A : Option Addr} {n : Nat} {bs : List Int} (h : Bs w A n bs) (k : Kp NoB w w') : Bs w' A n bs :=
  ⟨h.1, h.2.1, fun j y hy => by
    obtain ⟨g, o, e, hg, hc⟩ := h.2.2 j y hy
    exact ⟨g, o, e, Nat.lt_of_lt_of_le hg k.size, (k.cell hg (fun q => q)).trans hc⟩⟩
/-- the page of number j + 1 that a change writes -/
def chPg (bs : List Int) (old j : Nat) : List Pg :=
  if j < bs.length ∧ bs.getD j 0 ≠ 0 then [⟨(j : Int) + 1, fullL (bs.getD j 0)⟩] else if old ≤ j then [⟨(j : Int) + 1, fullL 255⟩] else []
def chPgs (bs : List Int) (old : Nat) : Nat → List Pg
  | 0 => []
  | j + 1 => chPgs bs old j ++ chPg bs old j
theorem chPg_len (bs : List Int) (old j : Nat) : (chPg bs old j).length ≤ 1 := by 
    unfold chPg
    split
    · simp
    · split <;> simp
theorem chPgs_len (bs : List Int) (old : Nat) : ∀ j, (chPgs bs old j).length ≤ j
  | 0 => Nat.le_refl _
  | j + 1 => by
    have := chPgs_len bs old j
    have := chPg_len bs old j
    unfold chPgs
    rw [List.length_append]
    omega
theorem full_pg {n y : Int} (hn : -9223372036854775808 ≤ n ∧ n ≤ 9223372036854775807) (hy : 0 ≤ y ∧ y < 256) : PgOk ⟨n, fullL y⟩ := ⟨List.length_replicate .., fun z hz => by rw [List.eq_of_mem_replicate hz]; exact hy, hn⟩
theorem and15 (C : Int) : ∃ N : Nat, N ≤ 15 ∧ bits BinOp.and IntKind.i64 C 15 = (N : Int) := by
  have e : bits BinOp.and IntKind.i64 C 15 = IntKind.i64.wrap ((BitVec.ofInt 64 C &&& BitVec.ofInt 64 15).toNat) := rfl
  have h : (BitVec.ofInt 64 C &&& BitVec.ofInt 64 15).toNat ≤ 15 := by
    rw [BitVec.toNat_and]
    exact Nat.and_le_right
  refine ⟨(BitVec.ofInt 64 C &&& BitVec.ofInt 64 15).toNat, h, ?_⟩
  rw [e, IntKind.wrap_i64]
  omega
theorem own_low {w : World} {a b e size n : Nat} {v : Value} {xs : List Value} (h : w.ownsRow b e size v n xs) (hab : a ≤ b) : w.ownsRow a e size v n xs := by
  refine ⟨h.1, ?_⟩
  rcases h.2 with hn | ⟨g, cap, cur, hv, hb, rest⟩
  · exact .inl hn
  · exact .inr ⟨g, cap, cur, hv, Nat.le_trans hab hb, rest⟩
def PaRel (w1 : World) (bs : List Int) (old N : Nat) (v7 v8 : Value) (wr : World) : Prop := ∃ j : Nat, v8 = .int .i64 ((j : Int) + 1) ∧ j ≤ N ∧ OwnPgs wr w1.heap.size v7 (chPgs bs old j) ∧ Kp NoB w1 wr
section
attribute [local go_sem ↓] loadPg storePg allocPg exSlicePg
end
end Go.Proofs.Ytegcbdfilkecpaa
/- The journal: the pages of a change fit, and what is behind them, in plain Lean. -/
namespace Go.Proofs.Ytegcbdfilkecpaa

theorem chPg_n {bs : List Int} {old j : Nat} {x : Pg} (h : x ∈ chPg bs old j) : x.n = (j : Int) + 1 := by
  unfold chPg at h
  split at h
  · rw [List.mem_singleton.1 h]
  · split at h
    · rw [List.mem_singleton.1 h]
    · cases h
theorem chPgs_n {bs : List Int} {old : Nat} : ∀ {j : Nat} {x : Pg}, x ∈ chPgs bs old j → 1 ≤ x.n ∧ x.n ≤ (j : Int)
  | 0, x, h => by cases h
  | j + 1, x, h => by
    unfold chPgs at h
    rcases List.mem_append.1 h with q | q
    · have := chPgs_n q
      omega
    · have := chPg_n q
      omega
theorem chPgs_ok {bs : List Int} (hb : ∀ y ∈ bs, 0 ≤ y ∧ y < 256) {old : Nat} : ∀ {j : Nat}, j ≤ 15 → ∀ x ∈ chPgs bs old j, PgOk x
  | 0, _, x, h => by cases h
  | j + 1, hj, x, h => by
    unfold chPgs at h
    rcases List.mem_append.1 h with q | q
    · exact chPgs_ok hb (by omega) x q
    · unfold chPg at q
      split at q
      · rename_i hc
        rw [List.mem_singleton.1 q]
        refine full_pg (by omega) (hb _ ?_)
        rw [List.getD_eq_getElem?_getD, List.getElem?_eq_getElem hc.1]
        exact List.getElem_mem _
      · split at q
        · rw [List.mem_singleton.1 q]
          exact full_pg (by omega) (by omega)
        · cases q
/-- every page above the old count is written -/
theorem chPgs_new {bs : List Int} {old : Nat} : ∀ {N j : Nat}, old ≤ j → j < N → ∃ x ∈ chPgs bs old N, x.n = (j : Int) + 1
  | 0, j, _, h => by omega
  | N + 1, j, ho, h => by
    by_cases e : j = N
    · subst e
      obtain ⟨x, hx⟩ : ∃ x, x ∈ chPg bs old j := by
        unfold chPg
        by_cases q : j < bs.length ∧ bs.getD j 0 ≠ 0
        · rw [if_pos q]; exact ⟨_, List.mem_singleton.2 rfl⟩
        · rw [if_neg q, if_pos ho]; exact ⟨_, List.mem_singleton.2 rfl⟩
      exact ⟨x, by unfold chPgs; exact List.mem_append_right _ hx, chPg_n hx⟩
    · obtain ⟨x, hx, hn⟩ := chPgs_new (bs := bs) (old := old) (N := N) ho (by omega)
      exact ⟨x, by unfold chPgs; exact List.mem_append_left _ hx, hn⟩
theorem chain_app (c : Int) : ∀ (l m : List Pg) (last : Int), chainPg c last l = true → (∀ x ∈ l, ∀ y ∈ m, x.n < y.n) → (∀ y ∈ m, last < y.n) → (m.length ≤ 1) → (∀ y ∈ m, y.n ≤ c) → chainPg c last (l ++ m) = true
  | [], m, last, _, _, h2, h3, h4 => by
    rcases m with _ | ⟨y, _ | ⟨z, r⟩⟩
    · rfl
    · rw [List.nil_append]
      unfold chainPg
      rw [decide_eq_true ⟨h2 y (List.mem_cons_self ..), h4 y (List.mem_cons_self ..)⟩]
      rfl
    · simp at h3
  | x :: r, m, last, h, h1, h2, h3, h4 => by
    rw [List.cons_append]
    unfold chainPg at h ⊢
    rw [Bool.and_eq_true] at h ⊢
    exact ⟨h.1, chain_app c r m x.n h.2 (fun a ha => h1 a (List.mem_cons_of_mem _ ha)) (fun y hy => h1 x (List.mem_cons_self ..) y hy) h3 h4⟩
theorem chPgs_chain (bs : List Int) (old : Nat) (c : Nat) : ∀ j : Nat, j ≤ c → chainPg (c : Int) 0 (chPgs bs old j) = true
  | 0, _ => rfl
  | j + 1, hj => by
    unfold chPgs
    refine chain_app _ _ _ _ (chPgs_chain bs old c j (by omega)) (fun x hx y hy => ?_) (fun y hy => ?_) (chPg_len bs old j) (fun y hy => ?_)
    · have := chPgs_n hx; have := chPg_n hy; omega
    · have := chPg_n hy; omega
    · have := chPg_n hy; omega
theorem chPgs_above (bs : List Int) (old : Nat) : ∀ j : Nat, above (old : Int) (chPgs bs old j) = j - old
  | 0 => by simp [chPgs, above]
  | j + 1 => by
    have ih := chPgs_above bs old j
    unfold above at ih ⊢
    unfold chPgs
    rw [List.countP_append, ih]
    unfold chPg
    by_cases ho : old ≤ j
    · have hd : decide ((old : Int) < (j : Int) + 1) = true := decide_eq_true (by omega)
      by_cases q : j < bs.length ∧ bs.getD j 0 ≠ 0
      · rw [if_pos q]; simp only [List.countP_cons, List.countP_nil, hd, if_true]; omega
      · rw [if_neg q, if_pos ho]; simp only [List.countP_cons, List.countP_nil, hd, if_true]; omega
    · have hd : decide ((old : Int) < (j : Int) + 1) = false := decide_eq_false (by omega)
      by_cases q : j < bs.length ∧ bs.getD j 0 ≠ 0
      · rw [if_pos q]; simp only [List.countP_cons, List.countP_nil, hd]; simp; omega
      · rw [if_neg q, if_neg ho, List.countP_nil]; omega
theorem fit_ch (bs : List Int) (old N : Nat) (hN : N ≤ 15) : fitPg (old : Int) (N : Int) (chPgs bs old N) = true := by
  unfold fitPg
  rw [decide_eq_true (by omega), chPgs_chain bs old N N (Nat.le_refl _), chPgs_above]
  simp
  omega
theorem fold_pgs (c : Nat) : ∀ (l : List Pg) (f : Nat → List Int), (∀ x ∈ l, 1 ≤ x.n ∧ x.n ≤ (c : Int)) → l.foldl setPg ((List.range' 1 c).map f) = (List.range' 1 c).map (pgsF f l)
  | [], f, _ => rfl
  | x :: r, f, h => by
    have hx := h x (List.mem_cons_self ..)
    have e : setPg ((List.range' 1 c).map f) x = (List.range' 1 c).map (fun (n : Nat) => if (n : Int) = x.n then x.b else f n) := by
      unfold setPg
      refine List.ext_getElem (by simp) (fun i h1 h2 => ?_)
      rw [List.getElem_set, List.getElem_map, List.getElem_map, List.getElem_range']
      by_cases q : x.n.toNat - 1 = i
      · rw [if_pos q, if_pos (by omega)]
      · rw [if_neg q, if_neg (by omega)]
    rw [List.foldl_cons, e, fold_pgs c r _ (fun y hy => h y (List.mem_cons_of_mem _ hy))]
    rfl
theorem pgsF_hit : ∀ (l : List Pg) (f g : Nat → List Int) (n : Nat), (∃ x ∈ l, x.n = (n : Int)) → pgsF f l n = pgsF g l n
  | [], f, g, n, h => by obtain ⟨x, hx, _⟩ := h; cases hx
  | x :: r, f, g, n, h => by
    unfold pgsF
    by_cases q : x.n = (n : Int)
    · exact pgsF_congr r _ _ n (by rw [if_pos q.symm, if_pos q.symm])
    · refine pgsF_hit r _ _ n ?_
      obtain ⟨y, hy, e⟩ := h
      rcases List.mem_cons.1 hy with z | z
      · subst z; exact absurd e q
      · exact ⟨y, z, e⟩
end Go.Proofs.Ytegcbdfilkecpaa
/- The log in plain Lean: its bytes as frames, its pages as a list; no condition. -/
namespace Go.Proofs.Ytegcbdfilkecpaa
open Go
set_option maxRecDepth 100000

def hdW (n : Nat) : W4 := ⟨n, 0, 0, 0⟩
theorem hdW_ok {n : Nat} (h : n ≤ 1048576) : W4Ok (hdW n) := ⟨⟨by show (0 : Int) ≤ (n : Int); omega, by show (n : Int) < 4294967296; omega⟩, (by show (0 : Int) ≤ 0 ∧ (0 : Int) < 4294967296; decide), (by show (0 : Int) ≤ 0 ∧ (0 : Int) < 4294967296; decide), (by show (0 : Int) ≤ 0 ∧ (0 : Int) < 4294967296; decide)⟩
/-- a log's bytes say these frames -/
structure Lg (J : List Int) (fs : List Fr) : Prop where
  hd : Hd J (hdW fs.length)
  fr : frsAt J fs.length = some fs
theorem frsAt_pos {l : List Int} {k : Nat} {fs : List Fr} (h : frsAt l k = some fs) : k = 0 ∨ 64 + 320 * k ≤ l.length := by
  cases k with
  | zero => exact .inl rfl
  | succ k =>
    right
    unfold frsAt at h
    cases hq : frsAt l k with
    | none => rw [hq] at h; cases h
    | some g =>
      rw [hq] at h
      cases hf : frAt l k with
      | none => rw [hf] at h; cases h
      | some f =>
        have := frAt_pos hf
        omega
/-- the bytes of the first k frames -/
def inner (k : Nat) : Nat → Prop := fun i => 64 ≤ i ∧ i < 64 + 320 * k
theorem part_fix {J K : List Int} {a n : Nat} (ha : a + n ≤ J.length) (h : ∀ i, a ≤ i → i < a + n → K[i]? = J[i]?) : (K.drop a).take n = (J.drop a).take n := by
  refine List.ext_getElem? (fun i => ?_)
  by_cases hi : i < n
  · rw [List.getElem?_take_of_lt hi, List.getElem?_take_of_lt hi, List.getElem?_drop, List.getElem?_drop]
    exact h _ (by omega) (by omega)
  · rw [List.getElem?_take, if_neg hi, List.getElem?_take, if_neg hi]
theorem frAt_part {J K : List Int} {k : Nat} (h : (K.drop (64 + 320 * k)).take 320 = (J.drop (64 + 320 * k)).take 320) : frAt K k = frAt J k := by
  unfold frAt
  rw [h]
theorem frsAt_fix {J K : List Int} : ∀ {k : Nat} {fs : List Fr}, frsAt J k = some fs → Fix (inner k) J K → frsAt K k = some fs
  | 0, fs, h, _ => h
  | k + 1, fs, h, hf => by
    unfold frsAt at h
    cases hq : frsAt J k with
    | none => rw [hq] at h; cases h
    | some g =>
      rw [hq] at h
      cases hx : frAt J k with
      | none => rw [hx] at h; cases h
      | some f =>
        rw [hx] at h
        injection h with h
        have hp := frAt_pos hx
        have h1 := frsAt_fix (K := K) hq (fun i hi hl => hf i ⟨hi.1, by have := hi.2; omega⟩ hl)
        have h2 : frAt K k = some f := by
          rw [frAt_part (part_fix (by omega) (fun i h1 h2 => hf i ⟨by omega, by omega⟩ (by omega))), hx]
        rw [← h]
        exact frsAt_next h1 h2
theorem lg_fix {J K : List Int} {fs : List Fr} (h : frsAt J fs.length = some fs) (hd : Hd K (hdW fs.length)) (hf : Fix (inner fs.length) J K) : Lg K fs := ⟨hd, frsAt_fix h hf⟩
/-- a frame that may be written -/
structure FrW (f : Fr) : Prop where
  n0 : 0 ≤ f.n ∧ f.n ≤ 15
  e0 : 0 ≤ f.en ∧ f.en ≤ 16
  ne : 0 < f.n ∨ 0 < f.en
  len : f.b.length = 256
theorem frB_lenW {f : Fr} (h : f.b.length = 256) : (frB f).length = 320 := by
  unfold frB zeros
  rw [List.length_append, List.length_append, List.length_append, h, List.length_replicate]
  rfl
theorem frAt_back {l : List Int} {k : Nat} {f : Fr} (hf : FrW f) (h : (l.drop (64 + 320 * k)).take 320 = frB f) : frAt l k = some f := by
  have hb : frB f = four f.n ++ (four f.en ++ (zeros 56 ++ f.b)) := by unfold frB; simp only [List.append_assoc]
  have hz : ((frB f).drop 8).take 56 = zeros 56 := by
    have e : frB f = (four f.n ++ four f.en) ++ (zeros 56 ++ f.b) := by unfold frB; simp only [List.append_assoc]
    rw [e, List.drop_left' (by rfl), List.take_left' (by unfold zeros; rw [List.length_replicate])]
  have hn : num (frB f) 0 = f.n := by
    have := num_four f.n (by have := hf.n0; omega) [] (four f.en ++ (zeros 56 ++ f.b))
    simp only [List.nil_append, List.length_nil] at this
    rw [hb]
    exact this
  have he : num (frB f) 4 = f.en := by
    have := num_four f.en (by have := hf.e0; omega) (four f.n) (zeros 56 ++ f.b)
    rw [four_len] at this
    rw [hb]
    exact this
  have hd : (frB f).drop 64 = f.b := by
    have e : frB f = (four f.n ++ four f.en ++ zeros 56) ++ f.b := rfl
    rw [e]
    exact List.drop_left' (by unfold zeros; rw [List.length_append, List.length_append, List.length_replicate]; rfl)
  unfold frAt
  dsimp only
  rw [h, hz, hn, he, hd, if_neg (by rw [frB_lenW hf.len]; omega), if_pos ⟨rfl, by have := hf.n0; omega, by have := hf.e0; omega, hf.ne⟩]
/-- frames one behind the other -/
def frsB (l : List Fr) : List Int := l.flatMap frB
theorem frs_more : ∀ (new : List Fr) (X T : List Int) (fs : List Fr), X.length = 64 + 320 * fs.length → frsAt X fs.length = some fs → (∀ f ∈ new, FrW f) → frsAt (X ++ (frsB new ++ T)) (fs.length + new.length) = some (fs ++ new)
  | [], X, T, fs, hX, h, _ => by
    rw [List.append_nil]
    refine frsAt_fix h (fun i hi hl => ?_)
    rw [List.getElem?_append_left hl]
  | f :: r, X, T, fs, hX, h, hw => by
    have hf := hw f (List.mem_cons_self ..)
    have hbl := frB_lenW hf.len
    have hX2 : (X ++ frB f).length = 64 + 320 * (fs ++ [f]).length := by
      rw [List.length_append, List.length_append, hX, hbl]
      show _ = 64 + 320 * (fs.length + 1)
      omega
    have h1 : frsAt (X ++ frB f) fs.length = some fs := frsAt_fix h (fun i hi hl => by rw [List.getElem?_append_left hl])
    have h2 : frAt (X ++ frB f) fs.length = some f := frAt_back hf (by rw [List.drop_left' hX, List.take_of_length_le (by omega)])
    have h3 := frsAt_next h1 h2
    have ih := frs_more r (X ++ frB f) T (fs ++ [f]) hX2 (by rw [List.length_append]; exact h3) (fun y hy => hw y (List.mem_cons_of_mem _ hy))
    have e1 : X ++ (frsB (f :: r) ++ T) = X ++ frB f ++ (frsB r ++ T) := by
      unfold frsB
      rw [List.flatMap_cons]
      simp only [List.append_assoc]
    rw [e1]
    rw [List.length_append, List.append_assoc fs] at ih
    rw [List.length_cons]
    rw [show fs.length + (r.length + 1) = fs.length + [f].length + r.length by show _ = fs.length + 1 + r.length; omega]
    exact ih
theorem frW_in {y : Stp} : ∀ {l : List Fr} {k : Nat}, y ∈ frW k l → ∃ (j : Nat) (f : Fr), k ≤ j ∧ j < k + l.length ∧ f ∈ l ∧ y = ⟨0, nmWal, 64 + 320 * (j : Int), frB f⟩
  | [], k, h => by cases h
  | x :: r, k, h => by
    rcases List.mem_cons.1 h with e | e
    · exact ⟨k, x, Nat.le_refl _, by simp, List.mem_cons_self .., e⟩
    · obtain ⟨j, z, h0, h1, h2, h3⟩ := frW_in e
      exact ⟨j, z, by omega, by rw [List.length_cons]; omega, List.mem_cons_of_mem _ h2, h3⟩
theorem seenW_frW : ∀ (l : List Fr) (k : Nat) (X T : List Int), X.length = 64 + 320 * k → (∀ f ∈ l, f.b.length = 256) → ∃ T', seenW (X ++ T) (frW k l) = X ++ (frsB l ++ T')
  | [], k, X, T, _, _ => ⟨T, rfl⟩
  | f :: r, k, X, T, hX, hl => by
    have hf := hl f (List.mem_cons_self ..)
    have hbl := frB_lenW hf
    have ha : (64 + 320 * (k : Int)).toNat = X.length := by omega
    have e1 : wrL (X ++ T) (64 + 320 * (k : Int)).toNat (frB f) = (X ++ frB f) ++ T.drop 320 := by
      rw [ha, wrL_app, hbl, List.append_assoc]
    obtain ⟨T', hT⟩ := seenW_frW r (k + 1) (X ++ frB f) (T.drop 320) (by rw [List.length_append, hX, hbl]; omega) (fun y hy => hl y (List.mem_cons_of_mem _ hy))
    refine ⟨T', ?_⟩
    show seenW (wrL (X ++ T) (64 + 320 * (k : Int)).toNat (frB f)) (frW (k + 1) r) = _
    rw [e1, hT]
    unfold frsB
    rw [List.flatMap_cons]
    simp only [List.append_assoc]
/-! ### what is told -/
def cL (fs : List Fr) (o : List Int) : Nat := if fs = [] then o.length / 256 else (lastEn fs - 1).toNat
/-- the bytes of pages that no frame has -/
def Bare (fs : List Fr) (o : List Int) (i : Nat) : Prop := i < 256 * cL fs o ∧ ∀ f ∈ fs, f.n ≠ ((i / 256 : Nat) : Int) + 1
structure FsOk (fs : List Fr) (o : List Int) : Prop where
  ok : ∀ f ∈ fs, FrW f
  last : lastEn fs ≠ 0
  po : ∃ c, c ≤ 15 ∧ o.length = c * 256
  bare : ∀ i, Bare fs o i → i < o.length ∧ ∀ f ∈ fs, 0 < f.en → ((i / 256 : Nat) : Int) + 1 ≤ f.en - 1
theorem last_mem {fs : List Fr} (h : fs ≠ []) : ∃ f ∈ fs, fs.getLast? = some f ∧ lastEn fs = f.en := by
  obtain ⟨f, hf⟩ : ∃ f, fs.getLast? = some f := by
    cases hq : fs.getLast? with
    | none => exact absurd (List.getLast?_eq_none_iff.1 hq) h
    | some f => exact ⟨f, rfl⟩
  refine ⟨f, List.mem_of_getLast? hf, hf, ?_⟩
  unfold lastEn
  rw [hf]
theorem cL_le {fs : List Fr} {o : List Int} (h : FsOk fs o) : cL fs o ≤ 15 := by
  unfold cL
  split
  · obtain ⟨c, hc, e⟩ := h.po
    omega
  · rename_i hne
    obtain ⟨f, hf, _, e⟩ := last_mem hne
    have := (h.ok f hf).e0
    omega
def pgW (fs : List Fr) (o : List Int) (n : Nat) : List Int := match lastFr fs (n : Int) with | some f => f.b | none => pageOf o n
def viewW (fs : List Fr) (o : List Int) : List (List Int) := (List.range' 1 (cL fs o)).map (pgW fs o)
theorem viewW_len (fs : List Fr) (o : List Int) : (viewW fs o).length = cL fs o := by unfold viewW; simp
theorem lastFr_mem {fs : List Fr} {n : Int} {f : Fr} (h : lastFr fs n = some f) : f ∈ fs ∧ f.n = n := ⟨List.mem_reverse.1 (List.mem_of_find?_eq_some h), by simpa using List.find?_some (p := fun f : Fr => decide (f.n = n)) h⟩
theorem lastFr_no {fs : List Fr} {n : Int} (h : lastFr fs n = none) : ∀ f ∈ fs, f.n ≠ n := fun f hf e => by
  unfold lastFr at h
  have := List.find?_eq_none.1 h f (List.mem_reverse.2 hf)
  simp [e] at this
theorem pgW_len {fs : List Fr} {o : List Int} (h : ∀ f ∈ fs, FrW f) (n : Nat) : (pgW fs o n).length = 256 := by
  unfold pgW
  split
  · rename_i f hf
    exact (h f (lastFr_mem hf).1).len
  · exact sizedF_len _ _
/-- a page by its bytes -/
theorem pageOf_get {o : List Int} {n j : Nat} (h : n * 256 ≤ o.length) (h1 : 1 ≤ n) (hj : j < 256) : (pageOf o n)[j]? = o[(n - 1) * 256 + j]? := by
  have hn : (n - 1) * 256 + 256 = n * 256 := by
    obtain ⟨m, rfl⟩ : ∃ m, n = m + 1 := ⟨n - 1, by omega⟩
    rw [Nat.add_sub_cancel]; omega
  unfold pageOf
  rw [get_sized (by rw [List.length_drop]; omega) hj, List.getElem?_drop]
theorem pageOf_eq {D : List Int} {b : List Int} {n : Nat} (h : n * 256 ≤ D.length) (h1 : 1 ≤ n) (hb : b.length = 256) (he : ∀ j, j < 256 → D[(n - 1) * 256 + j]? = b[j]?) : pageOf D n = b := by
  refine List.ext_getElem? (fun j => ?_)
  by_cases hj : j < 256
  · rw [pageOf_get h h1 hj, he j hj]
  · rw [List.getElem?_eq_none (by rw [show (pageOf D n).length = 256 from sizedF_len _ _]; omega), List.getElem?_eq_none (by omega)]
/-- a page without a frame -/
theorem bare_page {fs : List Fr} {o D : List Int} {n : Nat} (ho : ∀ i, Bare fs o i → i < o.length) (hf : Fix (Bare fs o) o D) (h1 : 1 ≤ n) (h2 : n ≤ cL fs o) (hn : ∀ f ∈ fs, f.n ≠ (n : Int)) : pageOf D n = pageOf o n ∧ n * 256 ≤ D.length := by
  have hn1 : (n - 1) * 256 + 256 = n * 256 := by
    obtain ⟨m, rfl⟩ : ∃ m, n = m + 1 := ⟨n - 1, by omega⟩
    rw [Nat.add_sub_cancel]; omega
  have hb : ∀ j, j < 256 → Bare fs o ((n - 1) * 256 + j) := fun j hj => by
    have e : ((n - 1) * 256 + j) / 256 = n - 1 := by omega
    refine ⟨by omega, fun f hf q => hn f hf ?_⟩
    rw [q, e]
    omega
  have hlo := ho _ (hb 255 (by omega))
  have hlD := hf.lt (hb 255 (by omega)) hlo
  refine ⟨?_, by omega⟩
  refine pageOf_eq (by omega) h1 (sizedF_len _ _) (fun j hj => ?_)
  have hj2 := ho _ (hb j hj)
  rw [hf _ (hb j hj) hj2, ← pageOf_get (o := o) (n := n) (by omega) h1 hj]
end Go.Proofs.Ytegcbdfilkecpaa
/- The log in plain Lean: the segments of a commit and of a checkpoint on a disk that may fall. -/
namespace Go.Proofs.Ytegcbdfilkecpaa
open Go
set_option maxRecDepth 100000

/-- the two files: a log of frames over a database -/
structure Gd (fs : List Fr) (o D J : List Int) : Prop where
  lg : Lg J fs
  ok : FsOk fs o
  dg : Fix (Bare fs o) o D
  nil : fs = [] → D = o
/-- what is up between two calls -/
structure AtW (p : Pl) (fs : List Fr) (o : List Int) : Prop where
  pre : Prew p
  gd : Gd fs o (p.seen nmDb) (p.seen nmWal)
  still : ∀ I : List Int → Prop, I (p.seen nmDb) → FIw p nmDb I
  kj : p.kept nmWal = p.seen nmWal
  cj : chgw p nmWal = []
/-- fallen, and whatever becomes of it, A -/
def CrW (A : List Int → List Int → Prop) (p : Pl) : Prop := Fellw p ∧ ∀ D J, Out (p.kept nmDb) (chgw p nmDb) D → Out (p.kept nmWal) (chgw p nmWal) J → A D J
theorem CrW.mono {A B : List Int → List Int → Prop} {p : Pl} (h : CrW A p) (ab : ∀ D J, A D J → B D J) : CrW B p := ⟨h.1, fun D J a b => ab D J (h.2 D J a b)⟩
theorem crw_of {A : List Int → List Int → Prop} {p : Pl} {RD RJ : List Int → Prop} (hf : Fellw p) (hd : FOw p nmDb RD) (hj : FOw p nmWal RJ) (h : ∀ D J, RD D → RJ J → A D J) : CrW A p := ⟨hf, fun D J h1 h2 => h D J (hd D h1) (hj J h2)⟩
theorem chgw_nil {p : Pl} (h : p.pd = []) (s : ByteArray) : chgw p s = [] := by unfold chgw; rw [h]; rfl
theorem atw_of {p : Pl} (hp : Prew p) (hk : p.kept = p.seen) (hpd : p.pd = []) {fs : List Fr} {o : List Int} (h : Gd fs o (p.seen nmDb) (p.seen nmWal)) : AtW p fs o :=
  ⟨hp, h, fun I hI => fi_emptyw (chgw_nil hpd _) (by rw [hk]; exact hI), by rw [hk], chgw_nil hpd _⟩
/-- started again -/
theorem crw_again {A : List Int → List Int → Prop} {p : Pl} (h : CrW A p) (chs : List Int) : Prew (p.restart chs) ∧ (p.restart chs).crash = 0 ∧ A ((p.restart chs).seen nmDb) ((p.restart chs).seen nmWal) ∧ (p.restart chs).kept = (p.restart chs).seen ∧ (p.restart chs).pd = [] := by
  have hq := restart_againw h.1.down h.1.nm h.1.ktwo chs
  exact ⟨pre_againw h.1 hq, hq.cr, h.2 _ _ (hq.out nmDb) (hq.out nmWal), hq.kept, hq.pd⟩
theorem fix_sub {P Q : Nat → Prop} {o D : List Int} (h : Fix P o D) (hs : ∀ i, Q i → P i) : Fix Q o D := fun i hq hi => h i (hs i hq) hi
theorem fix_head (J : List Int) (w : W4) (k : Nat) : Fix (inner k) J (wrL J 0 (sealB w)) := fix_sub (body_wr J w) fun _ h => h.1
/-- the head as it says, anew -/
theorem run_heal {p : Pl} {fs : List Fr} {o : List Int} (h : AtW p fs o) :
    ((p.runS (headS nmWal (hdW fs.length))).2 = 7 ∧ CrW (Gd fs o) (p.runS (headS nmWal (hdW fs.length))).1) ∨
    ((p.runS (headS nmWal (hdW fs.length))).2 = 0 ∧ AtW (p.runS (headS nmWal (hdW fs.length))).1 fs o ∧ HW ((p.runS (headS nmWal (hdW fs.length))).1.seen nmWal) (hdW fs.length) ∧ (p.runS (headS nmWal (hdW fs.length))).1.seen nmDb = p.seen nmDb) := by
  obtain ⟨J, hJ⟩ : ∃ J, p.seen nmWal = J := ⟨_, rfl⟩
  have hlg := h.gd.lg
  have hkj := h.kj
  rw [hJ] at hlg hkj
  have hfr := hlg.fr
  have hI : ∀ c ∈ pendW (p.seen nmWal) nmWal 0 (sealB (hdW fs.length)), ∀ k ch, (Hd k (hdW fs.length) ∧ Fix (inner fs.length) J k) → (Hd (Pl.made k c ch) (hdW fs.length) ∧ Fix (inner fs.length) J (Pl.made k c ch)) := by
    rw [hJ]
    intro c hc k ch ⟨h1, h2⟩
    refine ⟨hd_made ⟨fun q => ?_, fun q => ?_⟩ ch h1, fix_pendW (a := 0) rfl (by rw [seal_len]) (fun i hp hi => ?_) (Fix.refl _ _) c hc k ch h2⟩
    · rcases (pendW_mem hc).2 with ⟨_, _, e⟩ | ⟨e, _⟩
      · rw [e, seal_len]; omega
      · omega
    · rcases (pendW_mem hc).2 with ⟨e, _⟩ | ⟨_, _, _, e⟩
      · omega
      · rw [e, q, show (0 : Int).toNat * 64 = 0 from rfl, head_sizedF]
    · right
      rw [seal_len]
      have := hp.1
      omega
  rcases run_headAw h.pre (hdW fs.length) (fun J' => Hd J' (hdW fs.length) ∧ Fix (inner fs.length) J J') (fi_emptyw h.cj (by rw [hkj]; exact ⟨hlg.hd, Fix.refl _ _⟩)) hI with ⟨z0, z1, z2, z3⟩ | ⟨z0, z1, z2, z3, z4, z5⟩
  · refine .inl ⟨z0, crw_of z1 (z3 _ (h.still (fun D => D = p.seen nmDb) rfl)).fo z2.fo fun D J' q1 q2 => ?_⟩
    rw [q1]
    exact ⟨lg_fix hfr q2.1 q2.2, h.gd.ok, h.gd.dg, h.gd.nil⟩
  · generalize (p.runS (headS nmWal (hdW fs.length))).1 = q at z1 z2 z3 z4 z5 ⊢
    have sd : q.seen nmDb = p.seen nmDb := by rw [z2, upd_other _ _ nm_new]
    have sj : q.seen nmWal = wrL J 0 (sealB (hdW fs.length)) := by rw [z2, upd_same, hJ]
    have hw := wr_head J (hdW fs.length)
    refine .inr ⟨z0, ⟨z1, ?_, fun I hI2 => z5 I (h.still I (by rw [← sd]; exact hI2)), by rw [z4, sj, hJ], z3⟩, by rw [sj]; exact hw, sd⟩
    rw [sd, sj]
    exact ⟨lg_fix hfr (.inr (hw_hs hw)) (fix_head _ _ _), h.gd.ok, h.gd.dg, h.gd.nil⟩
theorem frw_okw {fs new : List Fr} (hn : ∀ f ∈ new, FrW f) (hl : fs.length + new.length ≤ 187) : ∀ y ∈ frW fs.length new, WrOkw nmWal y := by
  intro y hy
  obtain ⟨j, f, h0, h1, h2, rfl⟩ := frW_in hy
  have h3 := frB_lenW (hn f h2).len
  refine ⟨rfl, rfl, ?_, ?_, ?_⟩
  · show 0 ≤ 64 + 320 * (j : Int)
    omega
  · show frB f ≠ []
    intro e
    rw [e] at h3
    cases h3
  · show (64 + 320 * (j : Int)).toNat + (frB f).length ≤ capOfw nmWal
    rw [capOf_otherw nm_new.symm, h3]
    omega
theorem frw_keep {fs new : List Fr} (hn : ∀ f ∈ new, FrW f) (w : W4) (J : List Int) : ∀ y ∈ frW fs.length new, ∀ z, (HW z w ∧ Fix (inner fs.length) J z) → (HW (wrL z y.at_.toNat y.d) w ∧ Fix (inner fs.length) J (wrL z y.at_.toNat y.d)) ∧
    ∀ c ∈ pendW z nmWal y.at_.toNat y.d, ∀ k ch, (HS k w ∧ Fix (inner fs.length) J k) → (HS (Pl.made k c ch) w ∧ Fix (inner fs.length) J (Pl.made k c ch)) := by
  intro y hy z ⟨hz, hf⟩
  obtain ⟨j, f, h0, h1, h2, rfl⟩ := frW_in hy
  have h3 := frB_lenW (hn f h2).len
  have ha : 64 ≤ (64 + 320 * (j : Int)).toNat := by omega
  have hout : ∀ i, inner fs.length i → i < J.length → i < (64 + 320 * (j : Int)).toNat ∨ (64 + 320 * (j : Int)).toNat + (frB f).length ≤ i := fun i hi _ => by have := hi.2; omega
  refine ⟨⟨hw_take.2 ?_, fix_wrL hout hf⟩, fun c hc k ch hk => ⟨hs_made ⟨fun q => ?_, fun q => ?_⟩ ch hk.1, ?_⟩⟩
  · show (wrL z (64 + 320 * (j : Int)).toNat (frB f)).take 64 = sealB w
    rw [wrL_take ha (hs_len (hw_hs hz))]
    exact hw_take.1 hz
  · have hc' : c ∈ pendW z nmWal (64 + 320 * (j : Int)).toNat (frB f) := hc
    rcases (pendW_mem hc').2 with ⟨_, _, e⟩ | ⟨e, _⟩
    · rw [e]; omega
    · omega
  · have hc' : c ∈ pendW z nmWal (64 + 320 * (j : Int)).toNat (frB f) := hc
    rcases (pendW_mem hc').2 with ⟨e, _⟩ | ⟨_, e, _⟩
    · omega
    · omega
  · exact fix_pendW (s := nmWal) (show (64 + 320 * (j : Int)).toNat % 64 = 0 by omega) (by rw [h3]) hout hf c hc k ch hk.2
/-- new frames, and the head that counts them -/
theorem run_new {p : Pl} {fs : List Fr} {o : List Int} (h : AtW p fs o) (hw : HW (p.seen nmWal) (hdW fs.length)) (new : List Fr) (hn : ∀ f ∈ new, FrW f) (hl : fs.length + new.length ≤ 187) (hne : new ≠ []) (hok : FsOk (fs ++ new) o) (hsub : ∀ i, Bare (fs ++ new) o i → Bare fs o i) :
    ((p.runS (frW fs.length new ++ [⟨2, nmWal, 0, []⟩] ++ headS nmWal (hdW (fs.length + new.length)))).2 = 7 ∧ CrW (fun D J => Gd fs o D J ∨ Gd (fs ++ new) o D J) (p.runS (frW fs.length new ++ [⟨2, nmWal, 0, []⟩] ++ headS nmWal (hdW (fs.length + new.length)))).1) ∨
    ((p.runS (frW fs.length new ++ [⟨2, nmWal, 0, []⟩] ++ headS nmWal (hdW (fs.length + new.length)))).2 = 0 ∧ AtW (p.runS (frW fs.length new ++ [⟨2, nmWal, 0, []⟩] ++ headS nmWal (hdW (fs.length + new.length)))).1 (fs ++ new) o) := by
  obtain ⟨J, hJ⟩ : ∃ J, p.seen nmWal = J := ⟨_, rfl⟩
  obtain ⟨D0, hD0⟩ : ∃ D, p.seen nmDb = D := ⟨_, rfl⟩
  have hkj := h.kj
  have hfr := h.gd.lg.fr
  have hdg := h.gd.dg
  rw [hJ] at hkj hfr hw
  rw [hD0] at hdg
  have hold := h.still (fun D => D = D0) hD0
  have gold : ∀ {J' : List Int}, Hd J' (hdW fs.length) → Fix (inner fs.length) J J' → Gd fs o D0 J' := fun a b => ⟨lg_fix hfr a b, h.gd.ok, hdg, fun e => by rw [← hD0]; exact h.gd.nil e⟩
  have gnew : ∀ {J' : List Int}, Hd J' (hdW (fs.length + new.length)) → frsAt J' (fs.length + new.length) = some (fs ++ new) → Gd (fs ++ new) o D0 J' := fun a b =>
    ⟨⟨by rw [List.length_append]; exact a, by rw [List.length_append]; exact b⟩, hok, fix_sub hdg hsub, fun e => absurd (List.append_eq_nil_iff.1 e).2 hne⟩
  rw [List.append_assoc, runS_append]
  have hwr := fun Id hd => run_writesw nmWal nmDb (.inr rfl) nm_new (fun J' => HS J' (hdW fs.length) ∧ Fix (inner fs.length) J J') Id (fun z => HW z (hdW fs.length) ∧ Fix (inner fs.length) J z) (frW fs.length new) h.pre (frw_okw hn hl) (fi_emptyw h.cj (by rw [hkj]; exact ⟨hw_hs hw, Fix.refl _ _⟩)) hd (by rw [hJ]; exact ⟨hw, Fix.refl _ _⟩) (frw_keep hn _ J)
  have hwr' : ((p.runS (frW fs.length new)).2 = 7 ∧ Fellw (p.runS (frW fs.length new)).1 ∧ FIw (p.runS (frW fs.length new)).1 nmWal (fun J' => HS J' (hdW fs.length) ∧ Fix (inner fs.length) J J') ∧ ∀ Id, FIw p nmDb Id → FIw (p.runS (frW fs.length new)).1 nmDb Id) ∨
      ((p.runS (frW fs.length new)).2 = 0 ∧ Prew (p.runS (frW fs.length new)).1 ∧ FIw (p.runS (frW fs.length new)).1 nmWal (fun J' => HS J' (hdW fs.length) ∧ Fix (inner fs.length) J J') ∧ (∀ Id, FIw p nmDb Id → FIw (p.runS (frW fs.length new)).1 nmDb Id) ∧ (p.runS (frW fs.length new)).1.seen = upd p.seen nmWal (seenW J (frW fs.length new))) := by
    rw [hJ] at hwr
    generalize p.runS (frW fs.length new) = r at hwr ⊢
    rcases hwr _ fi_truew with ⟨a, b, c, _⟩ | ⟨a, b, c, _, d, e, _⟩
    · refine .inl ⟨a, b, c, fun Id hd => ?_⟩
      rcases hwr Id hd with y | y
      · exact y.2.2.2
      · rw [a] at y; exact absurd y.1 (by decide)
    · refine .inr ⟨a, b, c, fun Id hd => ?_, e⟩
      rcases hwr Id hd with y | y
      · rw [a] at y; exact absurd y.1 (by decide)
      · exact y.2.2.2.1
  clear hwr
  rcases hwr' with ⟨y0, y1, y2, y3⟩ | ⟨y0, y1, y2, y3, y5⟩
  · have hne2 : ¬ (p.runS (frW fs.length new)).2 = 0 := by rw [y0]; decide
    rw [if_neg hne2]
    refine .inl ⟨y0, crw_of y1 (y3 _ hold).fo y2.fo fun D J' q1 q2 => .inl ?_⟩
    rw [q1]
    exact gold (.inr q2.1) q2.2
  · rw [if_pos y0]
    generalize (p.runS (frW fs.length new)).1 = q2 at y1 y2 y3 y5 ⊢
    have sd2 : q2.seen nmDb = D0 := by rw [y5, upd_other _ _ nm_new, hD0]
    have hJl : 64 + 320 * fs.length ≤ J.length := by
      rcases frsAt_pos hfr with e | e
      · have := hs_len (hw_hs hw); rw [e]; omega
      · exact e
    have hX : (J.take (64 + 320 * fs.length)).length = 64 + 320 * fs.length := by rw [List.length_take]; omega
    obtain ⟨T1, hT1⟩ := seenW_frW new fs.length (J.take (64 + 320 * fs.length)) (J.drop (64 + 320 * fs.length)) hX (fun f hf => (hn f hf).len)
    rw [List.take_append_drop] at hT1
    have sj2 : q2.seen nmWal = J.take (64 + 320 * fs.length) ++ (frsB new ++ T1) := by rw [y5, upd_same, hT1]
    have hfX : frsAt (J.take (64 + 320 * fs.length)) fs.length = some fs := frsAt_fix hfr (fun i hi _ => by rw [List.getElem?_take_of_lt hi.2])
    have hf2 : frsAt (q2.seen nmWal) (fs.length + new.length) = some (fs ++ new) := by rw [sj2]; exact frs_more new _ T1 fs hX hfX hn
    have e3 : ∀ q : Pl, q.stE ⟨2, nmWal, 0, []⟩ = q.syncE := fun q => rfl
    have e4 : ∀ q : Pl, q.stP ⟨2, nmWal, 0, []⟩ = q.sync nmWal := fun q => rfl
    have hhw : HW (q2.seen nmWal) (hdW fs.length) := by
      rw [sj2]
      refine hw_take.2 ?_
      rw [List.take_append_of_le_length (by rw [hX]; omega), List.take_take, Nat.min_eq_left (by omega)]
      exact hw_take.1 hw
    have hfix2 : Fix (inner fs.length) J (q2.seen nmWal) := fun i hi hl => by
      rw [sj2, List.getElem?_append_left (by rw [hX]; exact hi.2), List.getElem?_take_of_lt hi.2]
    rw [List.singleton_append, runS_cons, e3, e4]
    rcases pre_syncw y1 nmWal (.inr rfl) with ⟨es, hf, hs2⟩ | ⟨es, hp2, hs2⟩
    · rw [es, if_neg (show ¬ (7 : Int) = 0 by decide)]
      refine .inl ⟨rfl, crw_of hf ((y3 _ hold).same hs2).fo (y2.same hs2).fo fun D J' q1 q2 => .inl ?_⟩
      rw [q1]
      exact gold (.inr q2.1) q2.2
    · rw [es, if_pos rfl]
      obtain ⟨c1, c2⟩ := chg_syncedw hs2
      have sd3 : (q2.sync nmWal).seen nmDb = D0 := by rw [hs2.seen, sd2]
      have sj3 : (q2.sync nmWal).seen nmWal = q2.seen nmWal := by rw [hs2.seen]
      have fd3 : ∀ Id, FIw p nmDb Id → FIw (q2.sync nmWal) nmDb Id := fun Id hd => (y3 Id hd).other hs2 nm_new
      generalize q2.sync nmWal = q3 at hp2 c1 c2 sd3 sj3 fd3 ⊢
      rcases run_head2Aw hp2 (hdW fs.length) (hdW (fs.length + new.length)) (by rw [c2]; exact hhw) c1 (by rw [sj3, c2]) (P := body) (fun i hi => hi) with ⟨x0, x1, x2, x3⟩ | ⟨x0, x1, x2, x3, x4, x5⟩
      · refine .inl ⟨x0, crw_of x1 (x3 _ (fd3 _ hold)).fo x2 fun D J' q1 q2' => ?_⟩
        have hb := q2'.2.1
        rw [c2] at hb
        rw [q1]
        rcases q2'.1 with q | q
        · exact .inl (gold (.inr q) (hfix2.trans (fix_sub hb fun i hi => hi.1)))
        · exact .inr (gnew (.inr q) (frsAt_fix hf2 (fix_sub hb fun i hi => hi.1)))
      · have sd4 : (q3.runS (headS nmWal (hdW (fs.length + new.length)))).1.seen nmDb = D0 := by rw [x2, upd_other _ _ nm_new, sd3]
        have sj4 : (q3.runS (headS nmWal (hdW (fs.length + new.length)))).1.seen nmWal = wrL (q2.seen nmWal) 0 (sealB (hdW (fs.length + new.length))) := by rw [x2, upd_same, sj3]
        refine .inr ⟨x0, ⟨x1, ?_, fun I hI => x5 I (fd3 I (h.still I (by rw [hD0, ← sd4]; exact hI))), by rw [x4, sj4, sj3], x3⟩⟩
        rw [sd4, sj4]
        exact gnew (.inr (hw_hs (wr_head _ _))) (frsAt_fix hf2 (fix_head _ _ _))
theorem fix_homeD {P : Nat → Prop} {o : List Int} : ∀ {l : List Pg} {z : List Int}, (∀ y ∈ homeW l, ∀ z, Fix P o z → Fix P o (wrL z y.at_.toNat y.d)) → Fix P o z → Fix P o (seenW z (homeW l))
  | [], z, _, h => h
  | x :: r, z, hk, h => fix_homeD (l := r) (z := wrL z ((x.n - 1) * 256).toNat x.b) (fun y hy => hk y (List.mem_cons_of_mem _ hy)) (hk ⟨0, nmDb, (x.n - 1) * 256, x.b⟩ (List.mem_cons_self ..) z h)
/-- pages home -/
theorem run_homew {p : Pl} {fs : List Fr} {o : List Int} (h : AtW p fs o) (hw : HW (p.seen nmWal) (hdW fs.length)) (hne : fs ≠ []) (c : Nat) (hc : c ≤ 15) (l : List Pg) (hl : ∀ x ∈ l, 1 ≤ x.n ∧ x.n ≤ 15 ∧ x.b.length = 256)
    (hP : ∀ x ∈ l, ∀ i, Bare fs o i → i < o.length → x.n ≠ ((i / 256 : Nat) : Int) + 1) (hcut : ∀ i, Bare fs o i → i < o.length → i < c * 256) :
    ((p.runS (homeS (c : Int) l)).2 = 7 ∧ CrW (Gd fs o) (p.runS (homeS (c : Int) l)).1) ∨
    ((p.runS (homeS (c : Int) l)).2 = 0 ∧ AtW (p.runS (homeS (c : Int) l)).1 fs o ∧ HW ((p.runS (homeS (c : Int) l)).1.seen nmWal) (hdW fs.length) ∧ (p.runS (homeS (c : Int) l)).1.seen nmDb = sizedF (seenW (p.seen nmDb) (homeW l)) (c * 256)) := by
  obtain ⟨J, hJ⟩ : ∃ J, p.seen nmWal = J := ⟨_, rfl⟩
  have hkj := h.kj
  have hfr := h.gd.lg.fr
  rw [hJ] at hkj hfr hw
  have gold : ∀ {D J' : List Int}, Hd J' (hdW fs.length) → Fix (inner fs.length) J J' → Fix (Bare fs o) o D → Gd fs o D J' := fun a b d => ⟨lg_fix hfr a b, h.gd.ok, d, fun e => absurd e hne⟩
  have hkeep : Fix (Bare fs o) o (sizedF (seenW (p.seen nmDb) (homeW l)) (c * 256)) := fix_sized hcut (fix_homeD (fun y hy z hz => (home_fixw hl hP y hy z hz).1) h.gd.dg)
  rcases run_putw h.pre c hc l hl hP hcut (fun J' => Hd J' (hdW fs.length) ∧ Fix (inner fs.length) J J') (h.still _ h.gd.dg) (fi_emptyw h.cj (by rw [hkj]; exact ⟨.inr (hw_hs hw), Fix.refl _ _⟩)) h.gd.dg with ⟨y0, y1, y2, y3⟩ | ⟨y0, y1, y2, y3, y4, y5, y6, y7⟩
  · exact .inl ⟨y0, crw_of y1 y2.fo y3.fo fun D J' q1 q2 => gold q2.1 q2.2 q1⟩
  · generalize (p.runS (homeS (c : Int) l)).1 = q at y1 y2 y3 y4 y5 y6 y7 ⊢
    have sd : q.seen nmDb = sizedF (seenW (p.seen nmDb) (homeW l)) (c * 256) := by rw [y2, upd_same]
    have sj : q.seen nmWal = J := by rw [y2, upd_other _ _ nm_new.symm, hJ]
    refine .inr ⟨y0, ⟨y1, ?_, fun I hI => fi_emptyw y3 (by rw [y4, ← sd]; exact hI), by rw [y7, sj, hkj], y6 h.cj⟩, by rw [sj]; exact hw, sd⟩
    rw [sd, sj]
    exact gold (.inr (hw_hs hw)) (Fix.refl _ _) hkeep
/-- the head says nothing any more -/
theorem run_cold {p : Pl} {fs : List Fr} {o : List Int} (h : AtW p fs o) (hw : HW (p.seen nmWal) (hdW fs.length)) (hok : FsOk [] (p.seen nmDb)) :
    ((p.runS (headS nmWal ⟨0, 0, 0, 0⟩)).2 = 7 ∧ CrW (fun D J => Gd fs o D J ∨ Gd [] (p.seen nmDb) D J) (p.runS (headS nmWal ⟨0, 0, 0, 0⟩)).1) ∨
    ((p.runS (headS nmWal ⟨0, 0, 0, 0⟩)).2 = 0 ∧ AtW (p.runS (headS nmWal ⟨0, 0, 0, 0⟩)).1 [] (p.seen nmDb) ∧ (p.runS (headS nmWal ⟨0, 0, 0, 0⟩)).1.seen nmDb = p.seen nmDb) := by
  have hfr := h.gd.lg.fr
  have gzero : ∀ {J' : List Int}, HS J' ⟨0, 0, 0, 0⟩ → Gd [] (p.seen nmDb) (p.seen nmDb) J' := fun a => ⟨⟨.inr a, rfl⟩, hok, Fix.refl _ _, fun _ => rfl⟩
  rcases run_head2Aw h.pre (hdW fs.length) ⟨0, 0, 0, 0⟩ (by rw [h.kj]; exact hw) h.cj h.kj.symm (P := body) (fun i hi => hi) with ⟨x0, x1, x2, x3⟩ | ⟨x0, x1, x2, x3, x4, x5⟩
  · refine .inl ⟨x0, crw_of x1 (x3 _ (h.still (fun D => D = p.seen nmDb) rfl)).fo x2 fun D J' q1 q2 => ?_⟩
    have hb := q2.2.1
    rw [h.kj] at hb
    rw [q1]
    rcases q2.1 with q | q
    · exact .inl ⟨lg_fix hfr (.inr q) (fix_sub hb fun i hi => hi.1), h.gd.ok, h.gd.dg, h.gd.nil⟩
    · exact .inr (gzero q)
  · have sd : (p.runS (headS nmWal ⟨0, 0, 0, 0⟩)).1.seen nmDb = p.seen nmDb := by rw [x2, upd_other _ _ nm_new]
    have sj : (p.runS (headS nmWal ⟨0, 0, 0, 0⟩)).1.seen nmWal = wrL (p.seen nmWal) 0 (sealB ⟨0, 0, 0, 0⟩) := by rw [x2, upd_same]
    refine .inr ⟨x0, ⟨x1, ?_, fun I hI => x5 I (h.still I (by rw [← sd]; exact hI)), by rw [x4, sj], x3⟩, sd⟩
    rw [sd, sj]
    exact gzero (hw_hs (wr_head _ _))
end Go.Proofs.Ytegcbdfilkecpaa
/- The log in plain Lean: a commit as a whole on a disk that may fall. -/
namespace Go.Proofs.Ytegcbdfilkecpaa
open Go
set_option maxRecDepth 100000

/-! ### new frames -/
def baseFr (l : List Pg) : List Fr := if l = [] then [⟨0, 0, zeros 256⟩] else l.map fun x => ⟨x.n, 0, x.b⟩
theorem baseFr_ne (l : List Pg) : baseFr l ≠ [] := by
  unfold baseFr
  split
  · simp
  · rename_i h
    simpa using h
theorem newFr_eq (c : Int) (l : List Pg) : ∃ pre f, baseFr l = pre ++ [f] ∧ newFr c l = pre ++ [⟨f.n, c + 1, f.b⟩] := by
  have hne := baseFr_ne l
  refine ⟨(baseFr l).dropLast, (baseFr l).getLast hne, (List.dropLast_concat_getLast hne).symm, ?_⟩
  show (match (baseFr l).getLast? with | some f => (baseFr l).dropLast ++ [{ f with en := c + 1 }] | none => baseFr l) = _
  rw [List.getLast?_eq_some_getLast hne]
theorem newFr_ne (c : Int) (l : List Pg) : newFr c l ≠ [] := by
  obtain ⟨pre, f, _, e⟩ := newFr_eq c l
  rw [e]
  simp
theorem newFr_len9 (c : Int) (l : List Pg) : (newFr c l).length = max 1 l.length := by
  obtain ⟨pre, f, h, e⟩ := newFr_eq c l
  have h1 : (baseFr l).length = max 1 l.length := by
    unfold baseFr
    split
    · rename_i q; rw [q]; rfl
    · rename_i q
      have : 0 < l.length := List.length_pos_iff.2 q
      rw [List.length_map]; omega
  rw [e, ← h1, h, List.length_append, List.length_append]
  rfl
theorem newFr_last (c : Int) (l : List Pg) (fs : List Fr) : lastEn (fs ++ newFr c l) = c + 1 := by
  obtain ⟨pre, f, h, e⟩ := newFr_eq c l
  rw [e, ← List.append_assoc]
  unfold lastEn
  rw [List.getLast?_append]
  simp
theorem newFr_pairs (c : Int) (l : List Pg) : (newFr c l).map (fun f => (f.n, f.b)) = (baseFr l).map fun f => (f.n, f.b) := by
  obtain ⟨pre, f, h, e⟩ := newFr_eq c l
  rw [e, h, List.map_append, List.map_append]
  rfl
theorem newFr_mem {c : Int} {l : List Pg} {f : Fr} (h : f ∈ newFr c l) : (f.en = 0 ∨ f.en = c + 1) ∧ ((∃ x ∈ l, f.n = x.n ∧ f.b = x.b) ∨ (f.n = 0 ∧ f.b = zeros 256 ∧ f.en = c + 1)) := by
  obtain ⟨pre, g, hb, e⟩ := newFr_eq c l
  rw [e] at h
  have hbase : ∀ y ∈ baseFr l, y.en = 0 ∧ (l ≠ [] → ∃ x ∈ l, y.n = x.n ∧ y.b = x.b) ∧ (l = [] → y = ⟨0, 0, zeros 256⟩) := fun y hy => by
    unfold baseFr at hy
    split at hy
    · rename_i q
      rw [List.mem_singleton.1 hy]
      exact ⟨rfl, fun z => absurd q z, fun _ => rfl⟩
    · rename_i q
      obtain ⟨x, hx, rfl⟩ := List.mem_map.1 hy
      exact ⟨rfl, fun _ => ⟨x, hx, rfl, rfl⟩, fun z => absurd z q⟩
  by_cases hl : l = []
  · have hp : pre = [] := by
      have h1 : (baseFr l).length = 1 := by unfold baseFr; rw [if_pos hl]; rfl
      rw [hb, List.length_append] at h1
      exact List.length_eq_zero_iff.1 (by simpa using h1)
    subst hp
    have hg := (hbase g (by rw [hb]; simp)).2.2 hl
    simp at h
    rw [h, hg]
    exact ⟨.inr rfl, .inr ⟨rfl, rfl, rfl⟩⟩
  · rcases List.mem_append.1 h with q | q
    · have := hbase f (by rw [hb]; exact List.mem_append_left _ q)
      exact ⟨.inl this.1, .inl (this.2.1 hl)⟩
    · rw [List.mem_singleton.1 q]
      have := hbase g (by rw [hb]; simp)
      exact ⟨.inr rfl, .inl (this.2.1 hl)⟩
theorem newFr_has {c : Int} {l : List Pg} {x : Pg} (h : x ∈ l) : ∃ f ∈ newFr c l, f.n = x.n := by
  have hp : (x.n, x.b) ∈ (newFr c l).map fun f => (f.n, f.b) := by
    rw [newFr_pairs]
    refine List.mem_map.2 ⟨⟨x.n, 0, x.b⟩, ?_, rfl⟩
    unfold baseFr
    rw [if_neg (List.ne_nil_of_mem h)]
    exact List.mem_map.2 ⟨x, h, rfl⟩
  obtain ⟨f, hf, e⟩ := List.mem_map.1 hp
  injection e with e1 e2
  exact ⟨f, hf, e1⟩
/-! ### pages behind a commit -/
theorem lastFr_app (a b : List Fr) (n : Int) : lastFr (a ++ b) n = match lastFr b n with | some f => some f | none => lastFr a n := by
  unfold lastFr
  rw [List.reverse_append, List.find?_append]
  cases b.reverse.find? fun f => decide (f.n = n) <;> rfl
def lastB (l : List (Int × List Int)) (n : Int) : Option (List Int) := (l.reverse.find? fun x => decide (x.1 = n)).map (·.2)
theorem lastB_fr (fs : List Fr) (n : Int) : (lastFr fs n).map (·.b) = lastB (fs.map fun f => (f.n, f.b)) n := by
  unfold lastB lastFr
  rw [← List.map_reverse, List.find?_map]
  simp only [Option.map_map, Function.comp_def]
theorem pgsF_lastB : ∀ (l : List Pg) (f : Nat → List Int) (n : Nat), pgsF f l n = match lastB (l.map fun x => (x.n, x.b)) (n : Int) with | some b => b | none => f n
  | [], f, n => rfl
  | x :: r, f, n => by
    have ih := pgsF_lastB r (fun n => if (n : Int) = x.n then x.b else f n) n
    show pgsF _ r n = _
    rw [ih]
    unfold lastB
    rw [List.map_cons, List.reverse_cons, List.find?_append]
    cases (r.map fun x => (x.n, x.b)).reverse.find? (fun x => decide (x.1 = (n : Int))) with
    | some y => rfl
    | none =>
      by_cases h : (n : Int) = x.n
      · simp [h]
      · have h' : ¬ x.n = (n : Int) := fun e => h e.symm
        simp [h, h']
theorem pgW_new (fs : List Fr) (o : List Int) (c : Int) (l : List Pg) (n : Nat) (hn : 1 ≤ n) : pgW (fs ++ newFr c l) o n = pgsF (pgW fs o) l n := by
  have h1 : (lastFr (newFr c l) (n : Int)).map (·.b) = lastB (l.map fun x => (x.n, x.b)) (n : Int) := by
    rw [lastB_fr, newFr_pairs]
    unfold baseFr
    split
    · rename_i e
      rw [e]
      have : ¬ (0 : Int) = (n : Int) := by omega
      simp [lastB]
      omega
    · rw [List.map_map]
      rfl
  rw [pgsF_lastB, ← h1]
  unfold pgW
  rw [lastFr_app]
  cases lastFr (newFr c l) (n : Int) with
  | some f => rfl
  | none => rfl
theorem pad_mapG (f : Nat → List Int) (s c : Nat) : padPg ((List.range' 1 s).map f) c = (List.range' 1 c).map fun n => if n ≤ s then f n else zPg := by
  unfold padPg
  refine List.ext_getElem (by simp; omega) (fun i h1 h2 => ?_)
  have hi : i < c := by simpa using h2
  rw [List.getElem_take, List.getElem_map, List.getElem_range']
  by_cases q : i < s
  · rw [List.getElem_append_left (by simpa using q), List.getElem_map, List.getElem_range', if_pos (by omega)]
  · rw [List.getElem_append_right (by simpa using q), List.getElem_replicate, if_neg (by omega)]
theorem after_G (f : Nat → List Int) (bs : List Int) (s N : Nat) : afterL ((List.range' 1 s).map f) N (chPgs bs s N) = (List.range' 1 N).map (pgsF f (chPgs bs s N)) := by
  unfold afterL
  rw [pad_mapG, fold_pgs N _ _ (fun x hx => chPgs_n hx)]
  refine List.map_congr_left (fun n hn => ?_)
  have hn1 : 1 ≤ n ∧ n ≤ N := by
    have := List.mem_range'.1 hn
    omega
  by_cases q : n ≤ s
  · exact pgsF_congr _ _ _ n (by rw [if_pos q])
  · refine pgsF_hit _ _ _ n ?_
    obtain ⟨x, hx, e⟩ := chPgs_new (bs := bs) (old := s) (N := N) (j := n - 1) (by omega) (by omega)
    exact ⟨x, hx, by omega⟩
theorem cL_new (fs : List Fr) (o : List Int) (N : Nat) (l : List Pg) : cL (fs ++ newFr (N : Int) l) o = N := by
  unfold cL
  rw [if_neg (fun e => newFr_ne _ _ (List.append_eq_nil_iff.1 e).2), newFr_last]
  omega
theorem view_new (fs : List Fr) (o : List Int) (bs : List Int) (N : Nat) : viewW (fs ++ newFr (N : Int) (chPgs bs (cL fs o) N)) o = afterL (viewW fs o) N (chPgs bs (cL fs o) N) := by
  unfold viewW
  rw [after_G, cL_new]
  refine List.map_congr_left (fun n hn => ?_)
  have hn1 : 1 ≤ n ∧ n ≤ N := by
    have := List.mem_range'.1 hn
    omega
  exact pgW_new fs o _ _ n hn1.1
theorem new_frw {bs : List Int} (hb : ∀ y ∈ bs, (0 : Int) ≤ y ∧ y < 256) (s N : Nat) (hN : N ≤ 15) : ∀ f ∈ newFr (N : Int) (chPgs bs s N), FrW f := fun f hf => by
  obtain ⟨h1, h2⟩ := newFr_mem hf
  rcases h2 with ⟨x, hx, e1, e2⟩ | ⟨e1, e2, e3⟩
  · have hn := chPgs_n hx
    exact ⟨by omega, by omega, by omega, by rw [e2]; exact (chPgs_ok hb hN x hx).len⟩
  · exact ⟨by omega, by omega, by omega, by rw [e2]; unfold zeros; rw [List.length_replicate]⟩
theorem bare_new {fs : List Fr} {o bs : List Int} {N : Nat} {i : Nat} (h : Bare (fs ++ newFr (N : Int) (chPgs bs (cL fs o) N)) o i) : Bare fs o i ∧ i < 256 * N := by
  obtain ⟨h1, h2⟩ := h
  rw [cL_new] at h1
  refine ⟨⟨?_, fun f hf => h2 f (List.mem_append_left _ hf)⟩, h1⟩
  rcases Nat.lt_or_ge (i / 256) (cL fs o) with q | q
  · omega
  · exfalso
    obtain ⟨x, hx, e⟩ := chPgs_new (bs := bs) (old := cL fs o) (N := N) q (by omega)
    obtain ⟨f, hf, e2⟩ := newFr_has (c := (N : Int)) hx
    exact h2 f (List.mem_append_right _ hf) (e2.trans e)
theorem fsok_new {fs : List Fr} {o bs : List Int} {N : Nat} (h : FsOk fs o) (hb : ∀ y ∈ bs, (0 : Int) ≤ y ∧ y < 256) (hN : N ≤ 15) : FsOk (fs ++ newFr (N : Int) (chPgs bs (cL fs o) N)) o := by
  refine ⟨fun f hf => ?_, ?_, h.po, fun i hi => ?_⟩
  · rcases List.mem_append.1 hf with q | q
    · exact h.ok f q
    · exact new_frw hb _ N hN f q
  · rw [newFr_last]; omega
  · obtain ⟨h1, h2⟩ := bare_new hi
    obtain ⟨h3, h4⟩ := h.bare i h1
    refine ⟨h3, fun f hf he => ?_⟩
    rcases List.mem_append.1 hf with q | q
    · exact h4 f q he
    · have := (newFr_mem q).1
      omega
/-! ### opened -/
theorem says_hdw {J : List Int} {w : W4} (h : Hd J w) (hw : W4Ok w) : says J = w := by
  rcases h with ⟨rfl, rfl⟩ | h
  · unfold says
    rw [if_pos (by simp)]
  · exact hs_says h hw
theorem lg_len {p : Pl} {fs : List Fr} (hp : Prew p) (h : Lg (p.seen nmWal) fs) : fs.length ≤ 1048576 := by
  have h1 := hp.lv.len nmWal
  have h2 := cap_lew nmWal
  rcases frsAt_pos h.fr with e | e
  · omega
  · omega
theorem open_at {p : Pl} {fs : List Fr} {o : List Int} (h : AtW p fs o) : p.wopen = (0, fs) ∧ p.whead = hdW fs.length := by
  have hl := lg_len h.pre h.gd.lg
  have hh : p.whead = hdW fs.length := says_hdw h.gd.lg.hd (hdW_ok hl)
  refine ⟨?_, hh⟩
  unfold Pl.wopen
  rw [hh, h.pre.lv.up]
  have ha : (hdW fs.length).a = (fs.length : Int) := rfl
  have hb : (hdW fs.length).b = 0 := rfl
  have hc : (hdW fs.length).c = 0 := rfl
  have hd : (hdW fs.length).d = 0 := rfl
  rw [if_neg (by decide), ha, hb, hc, hd, if_neg (by omega), Int.toNat_natCast, h.gd.lg.fr]
  dsimp only
  rw [if_neg h.gd.ok.last]
theorem mark_last {fs : List Fr} {o : List Int} (h : FsOk fs o) : isMark fs (fs.length : Int) = true := by
  unfold isMark
  by_cases e : fs = []
  · subst e; rfl
  · obtain ⟨f, hf, hg, he⟩ := last_mem e
    have hlen : 0 < fs.length := List.length_pos_iff.2 e
    have hi : fs[(fs.length : Int).toNat - 1]? = some f := by
      rw [Int.toNat_natCast, ← List.getLast?_eq_getElem?]; exact hg
    have hpos := (h.ok f hf).e0
    have hne := h.last
    rw [he] at hne
    rw [hi, decide_eq_true (show 0 < (fs.length : Int) ∧ (fs.length : Int) ≤ fs.length by omega)]
    simp
    omega
theorem count_last {p : Pl} {fs : List Fr} {o : List Int} (h : AtW p fs o) : wcount p fs (fs.length : Int) = cL fs o := by
  unfold wcount cL
  by_cases e : fs = []
  · subst e
    have hd := h.gd.nil rfl
    show ((p.len nmDb / 256 : Nat) : Int) = ((o.length / 256 : Nat) : Int)
    unfold Pl.len
    rw [h.pre.lv.up, hd]
    rfl
  · obtain ⟨f, hf, hg, he⟩ := last_mem e
    have hlen : 0 < fs.length := List.length_pos_iff.2 e
    have hi : fs[(fs.length : Int).toNat - 1]? = some f := by
      rw [Int.toNat_natCast, ← List.getLast?_eq_getElem?]; exact hg
    have hpos := (h.gd.ok.ok f hf).e0
    have hne := h.gd.ok.last
    rw [he] at hne
    rw [if_neg (by omega), if_neg e, hi, he]
    show f.en - 1 = (((f.en - 1).toNat : Nat) : Int)
    omega
theorem jpage_at {p : Pl} {fs : List Fr} {o : List Int} (h : AtW p fs o) {n : Nat} (h1 : 1 ≤ n) (h2 : n ≤ cL fs o) (hn : ∀ f ∈ fs, f.n ≠ (n : Int)) : p.jpage (n : Int) = pageOf o n := by
  obtain ⟨e1, e2⟩ := bare_page (fun i hi => (h.gd.ok.bare i hi).1) h.gd.dg h1 h2 hn
  have hj : p.jpageE (n : Int) = 0 := by
    unfold Pl.jpageE
    have hc : p.jcount = (p.seen nmDb).length / 256 := by
      unfold Pl.jcount Pl.len
      rw [h.pre.lv.up]
      rfl
    rw [h.pre.lv.up, if_neg (by decide), if_neg (by rw [hc]; omega)]
  unfold Pl.jpage
  rw [if_pos hj, Int.toNat_natCast, e1]
/-- what is told at the last mark -/
theorem tell_last {p : Pl} {fs : List Fr} {o : List Int} (h : AtW p fs o) : p.wmark = ((fs.length : Int), 0) ∧ tellP p (fs.length : Int) = viewW fs o := by
  obtain ⟨h1, _⟩ := open_at h
  have hm := mark_last h.gd.ok
  have hc := count_last h
  refine ⟨?_, ?_⟩
  · unfold Pl.wmark
    rw [h1]
    rfl
  · have hcn : p.wcnt (fs.length : Int) = ((cL fs o : Int), 0) := by
      unfold Pl.wcnt
      rw [h1, if_neg (by simp), if_pos hm, hc]
    unfold tellP
    rw [hcn]
    unfold tellK viewW
    rw [Int.toNat_natCast]
    refine List.ext_getElem (by simp) (fun i q1 q2 => ?_)
    have hi : i < cL fs o := by simpa using q2
    rw [List.getElem_map, List.getElem_map, List.getElem_range, List.getElem_range']
    unfold Pl.wpg
    rw [h1, if_neg (by simp), hm, if_neg (by simp), hc, if_neg (by omega)]
    show wpage p fs (fs.length : Int) ((i : Int) + 1) = pgW fs o (1 + 1 * i)
    unfold wpage pgW
    rw [Int.toNat_natCast, List.take_length, show (((1 + 1 * i : Nat)) : Int) = (i : Int) + 1 by omega]
    cases hf : lastFr fs ((i : Int) + 1) with
    | some f => rfl
    | none =>
      have := jpage_at h (n := i + 1) (by omega) (by omega) (fun f hf2 => by have := lastFr_no hf f hf2; omega)
      rw [show 1 + 1 * i = i + 1 by omega]
      show p.jpage ((i : Int) + 1) = pageOf o (i + 1)
      rw [← this]
      rfl
/-- a commit -/
theorem at_wcommit {p : Pl} {fs : List Fr} {o : List Int} (h : AtW p fs o) (hl : fs.length ≤ 170) (N : Nat) (hN : N ≤ 15) (bs : List Int) (hb : ∀ y ∈ bs, (0 : Int) ≤ y ∧ y < 256) :
    ((p.wcommit (N : Int) (chPgs bs (cL fs o) N)).2.2 = 0 ∧ AtW (p.wcommit (N : Int) (chPgs bs (cL fs o) N)).1 (fs ++ newFr (N : Int) (chPgs bs (cL fs o) N)) o) ∨
    ((p.wcommit (N : Int) (chPgs bs (cL fs o) N)).2.2 = 7 ∧ CrW (fun D J => Gd fs o D J ∨ Gd (fs ++ newFr (N : Int) (chPgs bs (cL fs o) N)) o D J) (p.wcommit (N : Int) (chPgs bs (cL fs o) N)).1) := by
  obtain ⟨h1, hh⟩ := open_at h
  have hc := count_last h
  have hfit := fit_ch bs (cL fs o) N hN
  obtain ⟨new, hnew⟩ : ∃ new, newFr (N : Int) (chPgs bs (cL fs o) N) = new := ⟨_, rfl⟩
  have hnl : new.length ≤ 15 := by
    rw [← hnew, newFr_len9]
    have := chPgs_len bs (cL fs o) N
    omega
  have hw := new_frw hb (cL fs o) N hN
  have hne := newFr_ne (N : Int) (chPgs bs (cL fs o) N)
  have hok := fsok_new h.gd.ok hb hN
  have hsub : ∀ i, Bare (fs ++ newFr (N : Int) (chPgs bs (cL fs o) N)) o i → Bare fs o i := fun i hi => (bare_new hi).1
  have hcm : p.wcommit (N : Int) (chPgs bs (cL fs o) N) = if (p.runS (p.wcommitS fs new)).2 ≠ 0 then ((p.runS (p.wcommitS fs new)).1, 0, fullE (p.runS (p.wcommitS fs new)).2) else ((p.runS (p.wcommitS fs new)).1, (fs.length : Int) + (new.length : Int), 0) := by
    unfold Pl.wcommit
    dsimp only
    rw [h1, if_neg (by simp), hc, hfit, if_neg (by simp), hnew]
  rw [hnew] at hw hne hok hsub ⊢
  have hS : p.wcommitS fs new = headS nmWal (hdW fs.length) ++ (frW fs.length new ++ [⟨2, nmWal, 0, []⟩] ++ headS nmWal (hdW (fs.length + new.length))) := by
    unfold Pl.wcommitS
    rw [hh]
    rfl
  rw [hcm, hS, runS_append]
  rcases run_heal h with ⟨z0, z1⟩ | ⟨z0, z1, z2, _⟩
  · right
    rw [if_neg (show ¬ (p.runS (headS nmWal (hdW fs.length))).2 = 0 by rw [z0]; decide), z0]
    exact ⟨rfl, z1.mono fun D J q => .inl q⟩
  · rw [if_pos z0]
    generalize (p.runS (headS nmWal (hdW fs.length))).1 = q at z1 z2 ⊢
    rcases run_new z1 z2 new hw (by omega) hne hok hsub with ⟨y0, y1⟩ | ⟨y0, y1⟩
    · right
      rw [y0]
      exact ⟨rfl, y1⟩
    · left
      rw [y0]
      exact ⟨rfl, y1⟩
end Go.Proofs.Ytegcbdfilkecpaa
/- The log in plain Lean: a checkpoint as a whole on a disk that may fall. -/
namespace Go.Proofs.Ytegcbdfilkecpaa
open Go
set_option maxRecDepth 100000

theorem flat_get : ∀ (l : List (List Int)), (∀ b ∈ l, b.length = 256) → l.flatten.length = l.length * 256 ∧ ∀ i j, i < l.length → j < 256 → l.flatten[i * 256 + j]? = (l.getD i [])[j]?
  | [], _ => ⟨rfl, fun i j h _ => absurd h (Nat.not_lt_zero _)⟩
  | b :: r, h => by
    have hb := h b (List.mem_cons_self ..)
    obtain ⟨h1, h2⟩ := flat_get r (fun x hx => h x (List.mem_cons_of_mem _ hx))
    refine ⟨by rw [List.flatten_cons, List.length_append, h1, hb, List.length_cons]; omega, fun i j hi hj => ?_⟩
    rw [List.flatten_cons]
    cases i with
    | zero => rw [List.getElem?_append_left (by omega), List.getD_cons_zero, Nat.zero_mul, Nat.zero_add]
    | succ i =>
      rw [List.getElem?_append_right (by omega), List.getD_cons_succ, show (i + 1) * 256 + j - b.length = i * 256 + j by omega]
      exact h2 i j (by simpa using hi) hj
theorem view_flat {fs : List Fr} {o : List Int} (h : ∀ f ∈ fs, FrW f) : (viewW fs o).flatten.length = cL fs o * 256 ∧ ∀ n j, 1 ≤ n → n ≤ cL fs o → j < 256 → (viewW fs o).flatten[(n - 1) * 256 + j]? = (pgW fs o n)[j]? := by
  obtain ⟨h1, h2⟩ := flat_get (viewW fs o) (fun b hb => by
    unfold viewW at hb
    obtain ⟨n, _, rfl⟩ := List.mem_map.1 hb
    exact pgW_len h n)
  rw [viewW_len] at h1 h2
  refine ⟨h1, fun n j hn1 hn2 hj => ?_⟩
  rw [h2 (n - 1) j (by omega) hj]
  have e : (viewW fs o).getD (n - 1) [] = pgW fs o n := by
    unfold viewW
    rw [List.getD_eq_getElem?_getD, List.getElem?_map, List.getElem?_range' (by omega)]
    show pgW fs o (1 + 1 * (n - 1)) = _
    rw [show 1 + 1 * (n - 1) = n by omega]
  rw [e]
/-- the pages at the last mark, as a database -/
theorem fsok_flat {F : List Int} {c : Nat} (hF : F.length = c * 256) (hc : c ≤ 15) : FsOk [] F :=
  ⟨fun f hf => (by cases hf), (by decide), ⟨c, hc, hF⟩, fun i hi => ⟨(by have h := hi.1; unfold cL at h; rw [if_pos rfl] at h; omega), fun f hf => (by cases hf)⟩⟩
theorem view_cold {fs : List Fr} {o : List Int} (h : ∀ f ∈ fs, FrW f) : viewW [] (viewW fs o).flatten = viewW fs o := by
  obtain ⟨h1, h2⟩ := view_flat (o := o) h
  have hc : cL [] (viewW fs o).flatten = cL fs o := by
    show (viewW fs o).flatten.length / 256 = _
    rw [h1]
    omega
  show (List.range' 1 (cL [] (viewW fs o).flatten)).map (pgW [] (viewW fs o).flatten) = (List.range' 1 (cL fs o)).map (pgW fs o)
  rw [hc]
  refine List.map_congr_left (fun n hn => ?_)
  have hn1 : 1 ≤ n ∧ n ≤ cL fs o := by
    have := List.mem_range'.1 hn
    omega
  show pageOf (viewW fs o).flatten n = _
  have hle : n * 256 ≤ cL fs o * 256 := Nat.mul_le_mul_right _ hn1.2
  exact pageOf_eq (by omega) hn1.1 (pgW_len h n) (fun j hj => h2 n j hn1.1 hn1.2 hj)
theorem mark_frame {fs : List Fr} {m : Nat} (h0 : 0 < m) (h : isMark fs (m : Int) = true) : ∃ f, fs[m - 1]? = some f ∧ 0 < f.en ∧ m ≤ fs.length := by
  unfold isMark at h
  rw [decide_eq_false (show ¬ (m : Int) = 0 by omega), Bool.false_or, Bool.and_eq_true, decide_eq_true_iff, Int.toNat_natCast] at h
  obtain ⟨h1, h2⟩ := h
  cases hq : fs[m - 1]? with
  | none => rw [hq] at h2; cases h2
  | some f =>
    rw [hq] at h2
    exact ⟨f, rfl, by simpa using h2, by omega⟩
theorem count_mark {p : Pl} {fs : List Fr} {m : Nat} {f : Fr} (h0 : 0 < m) (h : fs[m - 1]? = some f) : wcount p fs (m : Int) = f.en - 1 := by
  unfold wcount
  rw [if_neg (by omega), Int.toNat_natCast, h]
/-- a checkpoint -/
theorem at_wcheck {p : Pl} {fs : List Fr} {o : List Int} (h : AtW p fs o) (m : Nat) (hm : isMark fs (m : Int) = true) :
    ((p.wcheck (m : Int)).2 = 0 ∧ ∃ fs' o', AtW (p.wcheck (m : Int)).1 fs' o' ∧ viewW fs' o' = viewW fs o ∧ fs'.length ≤ fs.length ∧ (m ≠ fs.length ∨ m = 0 → fs' = fs ∧ o' = o) ∧ (m = fs.length → fs' = [])) ∨
    ((p.wcheck (m : Int)).2 = 7 ∧ ∃ fs' o', CrW (fun D J => Gd fs o D J ∨ Gd fs' o' D J) (p.wcheck (m : Int)).1 ∧ viewW fs' o' = viewW fs o ∧ fs'.length ≤ fs.length) := by
  obtain ⟨h1, hh⟩ := open_at h
  by_cases h0 : m = 0
  · subst h0
    have e : p.wcheck ((0 : Nat) : Int) = (p, 0) := by
      unfold Pl.wcheck
      rw [h1, if_neg (by simp), if_neg (by rw [hm]; simp)]
      rfl
    rw [e]
    exact .inl ⟨rfl, fs, o, h, rfl, Nat.le_refl _, fun _ => ⟨rfl, rfl⟩, fun e => List.length_eq_zero_iff.1 e.symm⟩
  · obtain ⟨f, hf, hpos, hml⟩ := mark_frame (by omega) hm
    have hc := count_mark (p := p) (by omega) hf
    have hfm : f ∈ fs := List.mem_of_getElem? hf
    have hfw := h.gd.ok.ok f hfm
    obtain ⟨c, hcc⟩ : ∃ c : Nat, f.en - 1 = (c : Int) := ⟨(f.en - 1).toNat, by omega⟩
    have hc15 : c ≤ 15 := by have := hfw.e0; omega
    have hne : fs ≠ [] := List.ne_nil_of_mem hfm
    rw [hcc] at hc
    obtain ⟨l, hl⟩ : ∃ l, p.whome fs (m : Int) = l := ⟨_, rfl⟩
    have hmem : ∀ x, x ∈ l ↔ 0 < x.n ∧ x.n ≤ (c : Int) ∧ ∃ g, lastFr (fs.take m) x.n = some g ∧ x.b = g.b := fun x => by
      rw [← hl, whome_mem, hc, Int.toNat_natCast]
    have hlk : ∀ x ∈ l, 1 ≤ x.n ∧ x.n ≤ 15 ∧ x.b.length = 256 := fun x hx => by
      obtain ⟨a, b, g, hg, hb⟩ := (hmem x).1 hx
      refine ⟨by omega, by omega, ?_⟩
      rw [hb]
      exact (h.gd.ok.ok g (List.mem_of_mem_take (lastFr_mem hg).1)).len
    have hP : ∀ x ∈ l, ∀ i, Bare fs o i → i < o.length → x.n ≠ ((i / 256 : Nat) : Int) + 1 := fun x hx i hi _ e => by
      obtain ⟨a, b, g, hg, hb⟩ := (hmem x).1 hx
      obtain ⟨g1, g2⟩ := lastFr_mem hg
      exact hi.2 g (List.mem_of_mem_take g1) (g2.trans e)
    have hcut : ∀ i, Bare fs o i → i < o.length → i < c * 256 := fun i hi _ => by
      have := (h.gd.ok.bare i hi).2 f hfm hpos
      omega
    have hwc : p.wcheck (m : Int) = p.runS (headS nmWal (hdW fs.length) ++ (homeS (c : Int) l ++ if (m : Int) = (fs.length : Int) then headS nmWal ⟨0, 0, 0, 0⟩ else [])) := by
      unfold Pl.wcheck
      rw [h1, if_neg (by simp), if_neg (by rw [hm]; simp), if_neg (by omega)]
      unfold Pl.wcheckS
      dsimp only
      rw [hh, hc, hl]
    rw [hwc, runS_append]
    rcases run_heal h with ⟨z0, z1⟩ | ⟨z0, z1, z2, z3⟩
    · right
      rw [if_neg (show ¬ (p.runS (headS nmWal (hdW fs.length))).2 = 0 by rw [z0]; decide), z0]
      exact ⟨rfl, fs, o, z1.mono fun D J q => .inl q, rfl, Nat.le_refl _⟩
    · rw [if_pos z0]
      generalize (p.runS (headS nmWal (hdW fs.length))).1 = q at z1 z2 z3 ⊢
      rw [runS_append]
      rcases run_homew z1 z2 hne c hc15 l hlk hP hcut with ⟨y0, y1⟩ | ⟨y0, y1, y2, y3⟩
      · right
        rw [if_neg (show ¬ (q.runS (homeS (c : Int) l)).2 = 0 by rw [y0]; decide), y0]
        exact ⟨rfl, fs, o, y1.mono fun D J q => .inl q, rfl, Nat.le_refl _⟩
      · rw [if_pos y0]
        rw [z3] at y3
        generalize (q.runS (homeS (c : Int) l)).1 = r at y1 y2 y3 ⊢
        by_cases hlast : m = fs.length
        · rw [if_pos (by omega)]
          have hcl : cL fs o = c := by
            have e1 := count_last h
            rw [← hlast, hc] at e1
            omega
          obtain ⟨v1, v2⟩ := view_flat (fs := fs) (o := o) h.gd.ok.ok
          rw [hcl] at v1 v2
          have htk : fs.take m = fs := by rw [hlast, List.take_length]
          have hfin : sizedF (seenW (p.seen nmDb) (homeW l)) (c * 256) = (viewW fs o).flatten := by
            refine final_old v1 hlk (fun x hx j hj => ?_) (fun i hi hl2 => ?_)
            · obtain ⟨a, b, g, hg, hb⟩ := (hmem x).1 hx
              rw [htk] at hg
              obtain ⟨n, hn⟩ : ∃ n : Nat, x.n = (n : Int) := ⟨x.n.toNat, by omega⟩
              have hpg : pgW fs o n = x.b := by
                unfold pgW
                rw [← hn, hg, hb]
              rw [← hpg, ← v2 n j (by omega) (by omega) hj, show ((x.n - 1) * 256).toNat = (n - 1) * 256 by omega]
            · have hno : lastFr fs (((i / 256 + 1 : Nat)) : Int) = none := by
                cases hq : lastFr fs (((i / 256 + 1 : Nat)) : Int) with
                | none => rfl
                | some g =>
                  exfalso
                  exact hi.2 ⟨((i / 256 + 1 : Nat) : Int), g.b⟩ ((hmem _).2 ⟨by show (0 : Int) < ((i / 256 + 1 : Nat) : Int); omega, by show ((i / 256 + 1 : Nat) : Int) ≤ (c : Int); have := hi.1; omega, g, by rw [htk]; exact hq, rfl⟩) (by show ((i / 256 + 1 : Nat) : Int) = _; omega)
              have hfrs := lastFr_no hno
              have hbare : ∀ j, j < 256 → Bare fs o (i / 256 * 256 + j) := fun j hj => by
                refine ⟨by rw [hcl]; have := hi.1; omega, fun g hg e => hfrs g hg ?_⟩
                rw [e]
                omega
              have hb0 := h.gd.ok.bare _ (hbare 255 (by omega))
              have hbi := hbare (i % 256) (by omega)
              rw [show i / 256 * 256 + i % 256 = i by omega] at hbi
              have e2 := v2 (i / 256 + 1) (i % 256) (by omega) (by have := hi.1; omega) (by omega)
              rw [Nat.add_sub_cancel, show i / 256 * 256 + i % 256 = i by omega] at e2
              rw [e2, h.gd.dg i hbi (h.gd.ok.bare i hbi).1]
              unfold pgW
              rw [hno]
              show o[i]? = (pageOf o (i / 256 + 1))[i % 256]?
              rw [pageOf_get (by have := hb0.1; omega) (by omega) (by omega), Nat.add_sub_cancel, show i / 256 * 256 + i % 256 = i by omega]
          rw [hfin] at y3
          have hvc := view_cold (fs := fs) (o := o) h.gd.ok.ok
          have hokc := fsok_flat v1 hc15
          rw [← y3] at hokc hvc
          rcases run_cold y1 y2 hokc with ⟨x0, x1⟩ | ⟨x0, x1, _⟩
          · exact .inr ⟨x0, [], _, x1, hvc, Nat.zero_le _⟩
          · exact .inl ⟨x0, [], _, x1, hvc, Nat.zero_le _, fun e => by omega, fun _ => rfl⟩
        · rw [if_neg (by omega), runS_nil]
          exact .inl ⟨rfl, fs, o, y1, rfl, Nat.le_refl _, fun _ => ⟨rfl, rfl⟩, fun e => absurd e hlast⟩
end Go.Proofs.Ytegcbdfilkecpaa
/- JournalFull: the function's own law; no condition but on the changes in memory. -/
namespace Go.Proofs.Ytegcbdfilkecpaa
open Go.RowKit

/-- a row of changes of the caller -/
def Chs (w : World) (A : Option Addr) (n : Nat) : Prop := ∀ k, k < n → ∃ (g o : Nat) (C : Int) (Ab : Option Addr) (nb cb : Nat) (bs : List Int), A = some ⟨g, o, none⟩ ∧ g < w.heap.size ∧ w.cell? ⟨g, o + k * 2, none⟩ = some (.int .i64 C) ∧ w.cell? ⟨g, o + k * 2 + 1, none⟩ = some (.slice Ab nb cb) ∧ Bs w Ab nb bs ∧ nb ≤ 9223372036854775807
theorem Chs.keep {w w' : World} {A : Option Addr} {n : Nat} (h : Chs w A n) (k : Kp NoB w w') : Chs w' A n := fun j hj => by
  obtain ⟨g, o, C, Ab, nb, cb, bs, e, hg, h0, h1, hb, hn⟩ := h j hj
  exact ⟨g, o, C, Ab, nb, cb, bs, e, Nat.lt_of_lt_of_le hg k.size, (k.cell hg (fun q => q)).trans h0, (k.cell hg (fun q => q)).trans h1, hb.keep k, hn⟩
theorem own_none {w : World} {b e size n cap : Nat} {A : Option Addr} {xs : List Value} (h : w.ownsRow b e size (.slice A n cap) n xs) : A = none → n = 0 ∧ cap = 0 := by
  rcases h.2 with ⟨h0, h1⟩ | ⟨g, c, cur, hv, _⟩
  · injection h0 with a b c
    intro _
    exact ⟨b, c⟩
  · injection hv with a b c
    intro q
    rw [q] at a
    cases a
theorem raws_own2 {w : World} {n0 : Nat} {v : Value} {l : List (List Int)} (h : OwnRaw w n0 v l) {s : Nat} (hs : l.length = s) : ∃ A cap, v = .slice A s cap ∧ RawsAt w A s l ∧ (A = none → s = 0 ∧ cap = 0) ∧ (∀ g o, A = some ⟨g, o, none⟩ → n0 ≤ g) := by
  obtain ⟨A, cap, rfl⟩ := own_slice h.1
  refine ⟨A, cap, by rw [hs], raws_own (by rw [hs] at h; exact h) hs, by rw [← hs]; exact own_none h.1, fun g o e => ?_⟩
  subst e
  rcases h.1.2 with ⟨h0, _⟩ | ⟨g', c, cur, hv, hb, _⟩
  · cases h0
  · injection hv with a b c
    injection a with a
    injection a with a b
    omega
theorem pgs_own2 {w : World} {n0 : Nat} {v : Value} {l : List Pg} (h : OwnPgs w n0 v l) {s : Nat} (hs : l.length = s) : ∃ A cap, v = .slice A s cap ∧ PgsAt w A s l ∧ (∀ g o, A = some ⟨g, o, none⟩ → n0 ≤ g) := by
  subst hs
  obtain ⟨A, cap, rfl⟩ := own_slice h.1
  refine ⟨A, cap, rfl, RowsC.own (base := n0) (cap := cap) (e := 113) ?_ (by simp) ?_, fun g o e => ?_⟩
  · have h1 := h.1
    unfold pgsCells at h1
    rw [List.flatMap_def] at h1
    exact h1
  · intro y hy
    obtain ⟨x, hx, rfl⟩ := List.mem_map.1 hy
    exact pgL_len (h.2 x hx)
  · subst e
    rcases h.1.2 with ⟨h0, _⟩ | ⟨g', c, cur, hv, hb, _⟩
    · cases h0
    · injection hv with a b c
      injection a with a
      injection a with a b
      omega
theorem RawsAt.keepS {S : Nat → Prop} {w w' : World} {A : Option Addr} {n : Nat} {l : List (List Int)} (h : RawsAt w A n l) (k : Kp S w w') (hA : ∀ g o, A = some ⟨g, o, none⟩ → 0 < n → ¬ S g) : RawsAt w' A n l := RowsC.keepS h k hA
attribute [local go_sem ↓] load26 store26 alloc26 build26 eql26
end Go.Proofs.Ytegcbdfilkecpaa
/- The journal: the way back, crashing on the way; condition: at most 6 crashes. -/
namespace Go.Proofs.Ytegcbdfilkecpaa
open Go.RowKit

theorem Nums.keepN {w w' : World} {A : Option Addr} {n : Nat} {xs : List Int} (h : Nums w A n xs) (k : Kp NoB w w') : Nums w' A n xs := h.keep k (fun _ _ _ q => q)
theorem Nums.lt {w : World} {A : Option Addr} {n : Nat} {xs : List Int} (h : Nums w A n xs) {g o : Nat} (e : A = some ⟨g, o, none⟩) (hn : 0 < n) : g < w.heap.size := by
  obtain ⟨g', o', e', hg, _⟩ := h.2 hn
  rw [e] at e'
  injection e' with e'
  injection e' with e1 e2
  omega
end Go.Proofs.Ytegcbdfilkecpaa
/- JournalAtomic: the function walked, over what a plain law says of its states (AtF); no condition but on the arguments in memory. -/
namespace Go.Proofs.Ytegcbdfilkecpaa
open Go.RowKit

/-- what is left behind a commit that may have crashed: whatever the way back, one of two lists of pages -/
def fallen (p : Pl) : Pl := if (p.crashIn 0).down then p.crashIn 0 else (p.crashIn 0).crashNow
def Fin (p : Pl) (a b : List (List Int)) : Prop := ∀ L, ((fallen p).jways L).2 = true ∧ ((fallen p).jways L).1.jcount ≤ 4096 ∧
  (allPg (((fallen p).jways L).1.seen nmDb) ((fallen p).jways L).1.jcount = a ∨ allPg (((fallen p).jways L).1.seen nmDb) ((fallen p).jways L).1.jcount = b)
/-- what the plain law must say -/
structure AtF (AtI : Pl → Nat → Prop) : Prop where
  new : AtI (Pl.new 100000) 0
  fin0 : Fin (Pl.new 100000) [] []
  cnt : ∀ p s, AtI p s → p.jcount = s
  stp : ∀ (p : Pl) (s N : Nat) (bs : List Int), AtI p s → s ≤ 15 → N ≤ 15 → (∀ y ∈ bs, (0 : Int) ≤ y ∧ y < 256) → (p.jcommit (N : Int) (chPgs bs s N)).2 = 0 ∧ AtI (p.jcommit (N : Int) (chPgs bs s N)).1 N
  lst : ∀ (p : Pl) (s N : Nat) (bs : List Int) (c : Int), AtI p s → s ≤ 15 → N ≤ 15 → (∀ y ∈ bs, (0 : Int) ≤ y ∧ y < 256) →
    (((p.crashIn c).jcommit (N : Int) (chPgs bs s N)).2 = 0 ∧ Fin ((p.crashIn c).jcommit (N : Int) (chPgs bs s N)).1 (afterL (allPg (p.seen nmDb) s) N (chPgs bs s N)) (afterL (allPg (p.seen nmDb) s) N (chPgs bs s N))) ∨
    (((p.crashIn c).jcommit (N : Int) (chPgs bs s N)).2 = 7 ∧ Fin ((p.crashIn c).jcommit (N : Int) (chPgs bs s N)).1 (allPg (p.seen nmDb) s) (afterL (allPg (p.seen nmDb) s) N (chPgs bs s N)))
/-- a list of pages in memory, away from S -/
def RwS (S : Nat → Prop) (wr : World) (v : Value) (l : List (List Int)) : Prop := ∃ A m c, v = .slice A m c ∧ RawsAt wr A m l ∧ rawOk l ∧ m ≤ 5000 ∧ ∀ g o, A = some ⟨g, o, none⟩ → 0 < m → ¬ S g
theorem RwS.keep {S S' : Nat → Prop} {w w' : World} {v : Value} {l : List (List Int)} (h : RwS S w v l) (k : Kp S w w') (hS : ∀ b, S' b → S b ∨ w.heap.size ≤ b) : RwS S' w' v l := by
  obtain ⟨A, m, c, rfl, hr, ok, hm, hA⟩ := h
  refine ⟨A, m, c, rfl, hr.keepS k hA, ok, hm, fun g o e hp z => ?_⟩
  rcases hS g z with q | q
  · exact hA g o e hp q
  · obtain ⟨g', o', e', hg, hc⟩ := hr.2.2 hp
    rw [e] at e'
    injection e' with e'
    injection e' with e1 e2
    omega
attribute [local go_sem ↓] load26 store26 alloc26 build26 eql26
end Go.Proofs.Ytegcbdfilkecpaa
/- The log's frames gone over, where the body writes blocks of the caller's; condition: a log in memory. -/
namespace Go.Proofs.Ytegcbdfilkecpaa
open Go.RowKit Go.Shelf
attribute [local go_sem ↓] loadFrI
attribute [local go_sem] Oper.semAt_some
/-- all below n₀ but the blocks of X stays -/
def KX (X : Nat → Prop) (n₀ : Nat) (W W' : World) : Prop := W.heap.size ≤ W'.heap.size ∧ ∀ i, i < n₀ → ¬ X i → W'.heap[i]? = W.heap[i]?
theorem KX.refl (X : Nat → Prop) (n₀ : Nat) (W : World) : KX X n₀ W W := ⟨Nat.le_refl _, fun _ _ _ => rfl⟩
theorem KX.trans {X : Nat → Prop} {n₀ : Nat} {A B C : World} (h : KX X n₀ A B) (k : KX X n₀ B C) : KX X n₀ A C := ⟨Nat.le_trans h.1 k.1, fun i hi hx => (k.2 i hi hx).trans (h.2 i hi hx)⟩
theorem kX_b {X : Nat → Prop} {n₀ : Nat} {w : World} (hn : n₀ ≤ w.heap.size) (W : World) (l : Nat) (o o' : Obj) (hl : w.heap.size ≤ l) (_ : W.heap[l]? = some o) (_ : o.isCells = false) (_ : o.isWalk = false) : KX X n₀ W (W.putObj l o') :=
  ⟨by simp, fun i hi _ => World.putObj_heap_other (by omega)⟩
theorem Kp.toX {S X : Nat → Prop} {n₀ : Nat} {W W' : World} (k : Kp S W W') (hn : n₀ ≤ W.heap.size) (hS : ∀ i, S i → i < n₀ → X i) : KX X n₀ W W' := ⟨k.size, fun i hi hx => k.block i (by omega) (fun q => hx (hS i q hi))⟩
theorem Blk.keepX {X : Nat → Prop} {w w' : World} {g : Nat} {t : TypeId} {cs : Array Value} (h : Blk w g t cs) (k : KX X w.heap.size w w') (hx : ¬ X g) : Blk w' g t cs := (k.2 g h.lt hx).trans h
theorem LgS.keepX {X : Nat → Prop} {w w' : World} {db lb : Nat} {H : W4} {A : Option Addr} {c : Nat} {fs : List Fr} (h : LgS w db lb H A c fs) (k : KX X w.heap.size w w') (hl : ¬ X lb) (hf : ∀ g, A = some ⟨g, 0, none⟩ → ¬ X g) : LgS w' db lb H A c fs :=
  ⟨h.b.keepX k hl, ⟨h.o.1, h.o.2.elim .inl (fun ⟨g, cap, cur, e, hb, hg, r⟩ => .inr ⟨g, cap, cur, e, hb, (k.2 g (lt_of_heap hg) (hf g (by injection e with e1 _ _))).trans hg, r⟩)⟩, h.ok⟩
set_option maxRecDepth 100000 in
set_option maxHeartbeats 2000000 in
theorem up1_inX (X : Nat → Prop) (F : Fence) (n : Nat) (h7 : F.fn 167) (hro : F.round = none) (hn : 1 ≤ n) (l B C n₀ db lb : Nat) (H : W4) (A : Option Addr) (c : Nat) (fs : List Fr) (m : Nat) (hm : m ≤ fs.length)
    (J Jx : List Nat → World → Prop)
    (hY : ∀ pre (x : Nat) W, J pre W → pre.length < m → YieldAt F (n - 1) Try.prog l (encF fs m x) W fun e W' =>
      (e = .returned (.bool true) ∧ J (pre ++ [x]) W' ∧ KX X n₀ W W') ∨ (e = .returned (.bool false) ∧ Jx (pre ++ [x]) W'))
    (hXl : ¬ X lb) (hXB : ¬ X B) (hXC : ¬ X C) (hXf : ∀ g, A = some ⟨g, 0, none⟩ → ¬ X g) (w W : World) (hw : w.heap.size = n₀) (hL : LgS w db lb H A c fs) (hB : Blk w B 3 #[.int .i64 (m : Int)]) (hC : Blk w C 158 #[.pointer (some ⟨lb, 0, none⟩)]) (hBel : KX X n₀ w W) (h0 : J [] W) :
    CallsIn F n Try.prog 167 #[.func (.yield l) #[] #[], .pointer (some ⟨B, 0, none⟩), .pointer (some ⟨C, 0, none⟩)] W fun e W' => (∃ v, e = .returned v) ∧
      ((∃ ys, ys = List.range m ∧ J ys W') ∨ (∃ pre, (∃ k, k ≤ m ∧ pre = List.range k) ∧ Jx pre W')) := by
  subst hw
  have HL := Lib.hid hL
  have HB := Lib.hid hB
  have HC := Lib.hid hC
  have hlen := hL.len
  have c1 : W.cell? ⟨B, 0, none⟩ = some (.int .i64 (m : Int)) := (hB.keepX hBel hXB).cell 0
  have hw1 : IntKind.i64.wrap ((m : Int) - 1) = (m : Int) - 1 := by rw [IntKind.wrap_i64]; omega
  clear hL hB hC
  refine callsIn_of_wp Try.func167 rfl h7 ?_ hro
  simp only [Try.ntmps167, List.size_toArray, List.length_cons, List.length_nil, Nat.reduceAdd, Nat.reduceSub, Array.replicate_succ, Array.replicate_zero, List.push_toArray, List.append_toArray, List.nil_append, List.cons_append]
  gi_wp2
  gi_loopw [4] (fun i wr => ∃ k : Nat, k ≤ m ∧ i = .int .i64 ((m : Int) - 1 - (k : Int)) ∧ J (List.range k) wr ∧ KX X w.heap.size w wr)
    (fun i _ => (intOf i + 1).toNat)
  case atStart => exact ⟨0, Nat.zero_le _, by simp, h0, hBel⟩
  case round =>
    obtain ⟨k, hk, rfl, hJs, hnx⟩ := hrel
    by_cases hlt : k < m
    · have hl2 := HL.out.keepX hnx hXl hXf
      have c0 : wr.cell? ⟨C, 0, none⟩ = some (.pointer (some ⟨lb, 0, none⟩)) := (HC.out.keepX hnx hXC).cell 0
      have c5 := hl2.cl.2
      obtain ⟨q, hq⟩ : ∃ q : Nat, m - 1 - k = q := ⟨_, rfl⟩
      have hqi : (m : Int) - 1 - (k : Int) = (q : Int) := by omega
      rw [hqi]
      have hql : q < fs.length := by omega
      obtain ⟨g, hA, hth, hrd⟩ := hl2.row q hql
      subst hA
      obtain ⟨fn, tmps, assign, body, hy, hR⟩ := hY _ k wr hJs (by rw [List.length_range]; exact hlt)
      unfold encF at hy
      rw [hq] at hy
      obtain ⟨fv, hfv⟩ : ∃ fv, (frL (fs.getD q ⟨0, 0, []⟩)).toArray = fv := ⟨_, rfl⟩
      rw [hfv] at hrd hy
      clear hl2 hql
      gi_wp2
      refine hR.mono ?_
      rintro e W3 (⟨rfl, hJ3, hk3⟩ | ⟨rfl, hJx3⟩)
      · have hw2 : IntKind.i64.wrap ((q : Int) - 1) = (q : Int) - 1 := by rw [IntKind.wrap_i64]; omega
        gi_wp2
        go_roundw
        case rel => exact ⟨k + 1, by omega, by first | (congr 1; done) | (congr 1; omega), by rw [List.range_succ]; exact hJ3, hnx.trans hk3⟩
        case measure => first | (simp [intOf]; done) | (simp [intOf]; omega)
      · gi_wp2
        refine bodyPost_ret (results_none rfl _ _ _) rfl ?_
        exact ⟨⟨_, rfl⟩, .inr ⟨_, ⟨k + 1, by omega, by rw [List.range_succ]⟩, hJx3⟩⟩
    · obtain rfl : k = m := by omega
      have hqi : (k : Int) - 1 - (k : Int) = -1 := by omega
      rw [hqi]
      gi_wp2
      go_end0
      exact ⟨⟨_, rfl⟩, .inl ⟨_, rfl, hJs⟩⟩
theorem up_stopsX (X : Nat → Prop) (F : Fence) (n : Nat) (h7 : F.fn 167) (hro : F.round = none) (hn : 1 ≤ n) (B C db lb : Nat) (H : W4) (A : Option Addr) (c : Nat) (fs : List Fr) (m : Nat) (hm : m ≤ fs.length) (hXl : ¬ X lb) (hXB : ¬ X B) (hXC : ¬ X C) (hXf : ∀ g, A = some ⟨g, 0, none⟩ → ¬ X g) (w : World) (hL : LgS w db lb H A c fs) (hB : Blk w B 3 #[.int .i64 (m : Int)]) (hC : Blk w C 158 #[.pointer (some ⟨lb, 0, none⟩)]) :
    SeqStopsK F n Try.prog 167 #[.pointer (some ⟨B, 0, none⟩), .pointer (some ⟨C, 0, none⟩)] (encF fs m) (KX X w.heap.size) (fun ys => ys = List.range m)
      (fun pre => ∃ k, k ≤ m ∧ pre = List.range k) m w := fun l J Jx W hW _ _ hY h0 =>
  up1_inX X F n h7 hro hn l B C w.heap.size db lb H A c fs m hm J Jx hY hXl hXB hXC hXf w W rfl hL hB hC ⟨hW.size, fun i hi _ => hW.block i hi⟩ h0
end Go.Proofs.Ytegcbdfilkecpaa
/- The shelf's contract of slices.SortFunc at pages laid at this dump (as ShelfS, its names turned); no condition. -/
namespace Go.Proofs.Ytegcbdfilkecpaa
open Go.Shelf
def laySortP_ren : Go.Shelf.Ren := ⟨fun | 6 => 149 | 15 => 164 | 14 => 168 | 28 => 177 | 29 => 178 | 20 => 180 | 21 => 181 | 22 => 182 | 23 => 183 | 24 => 184 | 25 => 185 | 26 => 186 | 27 => 187 | 46 => 193 | 47 => 189 | 48 => 190 | 49 => 194 | 50 => 195 | 57 => 197 | n => n, fun | 22 => 22 | 24 => 113 | 25 => 215 | 3 => 3 | 39 => 176 | 0 => 0 | 53 => 100 | 55 => 240 | 4 => 4 | 46 => 233 | 45 => 232 | 50 => 110 | 5 => 5 | 9 => 9 | 66 => 246 | 70 => 250 | 76 => 254 | 77 => 255 | n => n, fun | n => n⟩
theorem laySortP : Go.Proofs.SlLaysF0.n6 Try.prog laySortP_ren := {
  mixed := by kernel_rfl
  f6 := ⟨Try.f149.name, by decide, Try.func149.trans (congrArg some (by kernel_rfl))⟩
  f14 := ⟨Try.f168.name, by decide, Try.func168.trans (congrArg some (by kernel_rfl))⟩
  f15 := Try.func164.trans (congrArg some (by kernel_rfl))
  f20 := ⟨Try.f180.name, by decide, Try.func180.trans (congrArg some (by kernel_rfl))⟩
  f21 := ⟨Try.f181.name, by decide, Try.func181.trans (congrArg some (by kernel_rfl))⟩
  f22 := ⟨Try.f182.name, by decide, Try.func182.trans (congrArg some (by kernel_rfl))⟩
  f23 := ⟨Try.f183.name, by decide, Try.func183.trans (congrArg some (by kernel_rfl))⟩
  f24 := ⟨Try.f184.name, by decide, Try.func184.trans (congrArg some (by kernel_rfl))⟩
  f25 := ⟨Try.f185.name, by decide, Try.func185.trans (congrArg some (by kernel_rfl))⟩
  f26 := ⟨Try.f186.name, by decide, Try.func186.trans (congrArg some (by kernel_rfl))⟩
  f27 := ⟨Try.f187.name, by decide, Try.func187.trans (congrArg some (by kernel_rfl))⟩
  f28 := Try.func177.trans (congrArg some (by kernel_rfl))
  f29 := Try.func178.trans (congrArg some (by kernel_rfl))
  f46 := ⟨Try.f193.name, by decide, Try.func193.trans (congrArg some (by kernel_rfl))⟩
  f47 := Try.func189.trans (congrArg some (by kernel_rfl))
  f48 := Try.func190.trans (congrArg some (by kernel_rfl))
  f49 := ⟨Try.f194.name, by decide, Try.func194.trans (congrArg some (by kernel_rfl))⟩
  f50 := ⟨Try.f195.name, by decide, Try.func195.trans (congrArg some (by kernel_rfl))⟩
  f57 := ⟨Try.f197.name, by decide, Try.func197.trans (congrArg some (by kernel_rfl))⟩
  t0 := Try.underlying0
  a0 := Try.isAgg0
  z0 := Try.sizeOf0
  v0 := Try.zeroValue0
  t3 := Try.underlying3
  a3 := Try.isAgg3
  z3 := Try.sizeOf3
  v3 := Try.zeroValue3
  t4 := Try.underlying4
  a4 := Try.isAgg4
  z4 := Try.sizeOf4
  v4 := Try.zeroValue4
  t5 := Try.underlying5
  a5 := Try.isAgg5
  z5 := Try.sizeOf5
  v5 := Try.zeroValue5
  t9 := Try.underlying9
  a9 := Try.isAgg9
  z9 := Try.sizeOf9
  v9 := Try.zeroValue9
  t22 := Try.underlying22
  a22 := Try.isAgg22
  z22 := Try.sizeOf22
  v22 := Try.zeroValue22
  t25 := Try.underlying215
  a25 := Try.isAgg215
  z25 := Try.sizeOf215
  v25 := Try.zeroValue215
  t39 := Try.underlying176
  a39 := Try.isAgg176
  z39 := Try.sizeOf176
  v39 := Try.zeroValue176
  t45 := Try.underlying232
  a45 := Try.isAgg232
  z45 := Try.sizeOf232
  v45 := Try.zeroValue232
  t46 := Try.underlying233
  a46 := Try.isAgg233
  z46 := Try.sizeOf233
  v46 := Try.zeroValue233
  t50 := Try.underlying110
  a50 := Try.isAgg110
  z50 := Try.sizeOf110
  v50 := Try.zeroValue110
  t53 := Try.underlying100
  a53 := Try.isAgg100
  z53 := Try.sizeOf100
  v53 := Try.zeroValue100
  t55 := Try.underlying240
  a55 := Try.isAgg240
  z55 := Try.sizeOf240
  v55 := Try.zeroValue240
  t66 := Try.underlying246
  a66 := Try.isAgg246
  z66 := Try.sizeOf246
  v66 := Try.zeroValue246
  t70 := Try.underlying250
  a70 := Try.isAgg250
  z70 := Try.sizeOf250
  v70 := Try.zeroValue250
  t76 := Try.underlying254
  a76 := Try.isAgg254
  z76 := Try.sizeOf254
  v76 := Try.zeroValue254
  t77 := Try.underlying255
  a77 := Try.isAgg255
  z77 := Try.sizeOf255
  v77 := Try.zeroValue255 }
end Go.Proofs.Ytegcbdfilkecpaa
/- slices.SortFunc at pages, by their numbers; condition: less than 2^62 of them. -/
namespace Go.Proofs.Ytegcbdfilkecpaa
open Go.RowKit Go.Lib Go.Sort

abbrev PgE := {x : Pg // x.b.length = 256 ∧ 0 ≤ x.n ∧ x.n ≤ 4096}
instance : Inhabited PgE := ⟨⟨⟨0, zeros 256⟩, List.length_replicate .., by decide, by decide⟩⟩
def encPg (x : PgE) : List Value := pgL x.1
def cfPg (x y : PgE) : Int := x.1.n - y.1.n
theorem encPg_len (x : PgE) : (encPg x).length = 257 := by
  unfold encPg pgL
  rw [List.length_cons, List.length_map, x.2.1]
theorem encPg_one (x : PgE) : ∀ v ∈ encPg x, v.oneCell' = true := by
  intro v hv
  rcases List.mem_cons.1 hv with rfl | hv
  · rfl
  · exact u8_one _ v hv
theorem swoPg : Sort.SWO (ltOf cfPg) where
  irrefl x := by unfold ltOf cfPg; exact decide_eq_false (by omega)
  trans x y z h1 h2 := by
    unfold ltOf cfPg at *
    have := of_decide_eq_true h1
    have := of_decide_eq_true h2
    exact decide_eq_true (by omega)
  ntrans x y z h1 h2 := by
    unfold ltOf cfPg at *
    have := of_decide_eq_false h1
    have := of_decide_eq_false h2
    exact decide_eq_false (by omega)
theorem flatMap_get {α : Type} [Inhabited α] (enc : α → List Value) (k : Nat) (hk : ∀ x, (enc x).length = k) (k0 : 0 < k) : ∀ (l : List α) (t : Nat), t < l.length * k → (l.flatMap enc)[t]? = (enc l[t / k]!)[t % k]?
  | [], t, h => by simp at h
  | x :: r, t, h => by
    rw [List.flatMap_cons]
    by_cases ht : t < k
    · rw [List.getElem?_append_left (by rw [hk]; exact ht), Nat.div_eq_of_lt ht, Nat.mod_eq_of_lt ht]
      rfl
    · rw [List.length_cons, Nat.succ_mul] at h
      rw [List.getElem?_append_right (by rw [hk]; omega), hk, flatMap_get enc k hk k0 r (t - k) (by omega)]
      have e1 : t / k = (t - k) / k + 1 := by
        have := Nat.div_eq_sub_div k0 (show k ≤ t by omega)
        omega
      have e2 : t % k = (t - k) % k := Nat.mod_eq_sub_mod (by omega)
      rw [e1, e2]
      rfl
theorem flatK_list {α : Type} [Inhabited α] (enc : α → List Value) (k : Nat) (hk : ∀ x, (enc x).length = k) (k0 : 0 < k) (d : Array α) : (flatK enc k d).toList = d.toList.flatMap enc := by
  have hl : (d.toList.flatMap enc).length = d.size * k := by
    rw [List.length_flatMap]
    have : d.toList.map (fun a => (enc a).length) = List.replicate d.size k := by
      rw [List.eq_replicate_iff]
      exact ⟨by simp, fun b hb => by obtain ⟨x, _, rfl⟩ := List.mem_map.1 hb; exact hk x⟩
    rw [this, List.sum_replicate_nat]
  apply List.ext_getElem?
  intro t
  by_cases h : t < d.size * k
  · rw [flatMap_get enc k hk k0 _ t (by simpa using h), Array.getElem?_toList, Array.getElem?_eq_getElem (by simpa using h)]
    have h1 := get_flatK enc k d t h
    rw [getElem!_pos (flatK enc k d) t (by simpa using h)] at h1
    have hq : t / k < d.size := Nat.div_lt_of_lt_mul (by rw [Nat.mul_comm]; exact h)
    have h3 : d.toList[t / k]! = d[t / k]! := by rw [getElem!_pos d.toList (t / k) (by simpa using hq), getElem!_pos d (t / k) hq, Array.getElem_toList]
    rw [h1, h3]
    have h4 : t % k < (enc d[t / k]!).length := by rw [hk]; exact Nat.mod_lt _ k0
    rw [getElem!_pos (enc d[t / k]!) (t % k) h4, List.getElem?_eq_getElem h4]
  · rw [List.getElem?_eq_none (by simpa using h), List.getElem?_eq_none (by rw [hl]; omega)]
set_option maxRecDepth 100000 in
theorem cmp_q (W : World) (x y : PgE) : Calls Try.prog 150 #[.agg (encPg x).toArray, .agg (encPg y).toArray] W fun e w' => e = .returned (.int .i64 (cfPg x y)) ∧ w' = (W.alloc (.cells (encPg x).toArray 113)).alloc (.cells (encPg y).toArray 113) := by
  have hx := x.2.2
  have hy := y.2.2
  have c0 : ((W.alloc (.cells (encPg x).toArray 113)).alloc (.cells (encPg y).toArray 113)).cell? ⟨W.heap.size, 0, none⟩ = some (.int .i64 x.1.n) := by
    rw [((Blk.new W 113 (encPg x).toArray).alloc _).cell]; rfl
  have c1 : ((W.alloc (.cells (encPg x).toArray 113)).alloc (.cells (encPg y).toArray 113)).cell? ⟨W.heap.size + 1, 0, none⟩ = some (.int .i64 y.1.n) := by
    rw [(Blk.newAt (W.alloc (.cells (encPg x).toArray 113)) 113 (encPg y).toArray (W.heap.size + 1) (by simp)).cell]; rfl
  obtain ⟨CX, hCX⟩ : ∃ CX, (encPg x).toArray = CX := ⟨_, rfl⟩
  obtain ⟨CY, hCY⟩ : ∃ CY, (encPg y).toArray = CY := ⟨_, rfl⟩
  rw [hCX, hCY] at c0 c1 ⊢
  have hcf : cfPg x y = x.1.n - y.1.n := rfl
  rw [hcf]
  generalize x.1.n = a at *
  generalize y.1.n = b at *
  have hw : IntKind.i64.wrap (a - b) = a - b := by rw [IntKind.wrap_i64]; omega
  clear hCX hCY hcf
  go_enter Try.func150, Try.ntmps150
  go_wp2_with fail
  go_ret
  exact ⟨rfl, rfl⟩
theorem grow_kp {S : Nat → Prop} {a w : World} (h : Kp S a w) (os : Array Obj) : Kp S a (Sort.grow w os) :=
  ⟨h.os, h.tape, h.output, by have := h.size; unfold Sort.grow; simp; omega, fun i hi hn => by
    have h1 := h.block i hi hn
    have h2 := h.size
    rw [← h1]
    show (w.heap ++ os)[i]? = _
    rw [Array.getElem?_append_left (by omega)]⟩
theorem sort_pgs (w : World) (base : Nat) (A : Option Addr) (n cap : Nat) (l : List Pg) (hn : l.length = n) (hown : w.ownsRow base 113 257 (.slice A n cap) n (pgsCells l)) (hl : n < 4611686018427387904) (hok : ∀ x ∈ l, x.b.length = 256 ∧ 0 ≤ x.n ∧ x.n ≤ 4096) :
    Calls Try.prog 149 #[.slice A n cap, .func (.func 150) #[] #[]] w fun e w' => e = .returned (.tuple #[]) ∧ ∃ l', l'.Perm l ∧ (l'.Pairwise fun a b => ¬ b.n < a.n) ∧ w'.ownsRow base 113 257 (.slice A n cap) n (pgsCells l') ∧ Kp (fun b => (Value.slice A n cap).ownBlock = some b) w w' := by
  subst hn
  by_cases h0 : l = []
  · subst h0
    have h := AnyF.slices_SortFunc_none laySortP A cap (.func (.func 150) #[] #[]) w
    refine (show Calls Try.prog 149 _ w _ from h).mono ?_
    rintro e w' ⟨rfl, rfl⟩
    exact ⟨rfl, [], List.Perm.nil, List.Pairwise.nil, hown, Kp.refl _ _⟩
  · have hpos : 0 < l.length := List.length_pos_iff.2 h0
    obtain ⟨hlen, hor⟩ := hown
    rcases hor with ⟨_, q⟩ | ⟨g, cap', cur, hv, hb, hg, h1, h2, h3, h4⟩
    · omega
    · injection hv with e1 e2 e3
      subst e1 e3
      obtain ⟨d, hd⟩ : ∃ d : List PgE, d.map (·.1) = l := ⟨l.pmap Subtype.mk hok, by rw [List.map_pmap]; simp⟩
      have hdl : d.length = l.length := by rw [← hd, List.length_map]
      have hfm : ∀ e : List PgE, e.flatMap encPg = pgsCells (e.map (·.1)) := fun e => by
        unfold pgsCells encPg
        rw [List.flatMap_map]
      have hcells : (flatK encPg 257 d.toArray).toList = pgsCells l := by
        rw [flatK_list encPg 257 encPg_len (by omega), ← hd, ← hfm]
      have hsz : (flatK encPg 257 d.toArray).size = l.length * 257 := by rw [size_flatK]; simp [hdl]
      have hblk : Blk w g 113 cur := hg
      have hH : Sort.HoldsK encPg 257 w g 0 d.toArray := fun j hj => by
        refine ⟨?_, hblk.frozen _⟩
        have hj' : j < l.length * 257 := by rw [← hsz]; exact hj
        have h5 : (cur.toList.take (l.length * 257))[j]? = (pgsCells l)[j]? := by rw [h4]
        rw [List.getElem?_take, if_pos hj', Array.getElem?_toList] at h5
        rw [Nat.zero_add, hblk.cell, h5, ← hcells, Array.getElem?_toList, getElem!_pos _ j hj, Array.getElem?_eq_getElem hj]
        rfl
      have eg : ∀ args w, (callFunc 150 args).run Try.prog w = .ok (.enter 150 args) w := enters_of Try.func150 (by kernel_rfl) rfl
      have hcr : CmpLays Try.prog 150 #[] encPg 257 cfPg g 0 d.toArray.size w := fun m os dk hs x y => by
        refine (cmp_q (sortWorldK encPg 257 w g 0 m dk os) x y).mono ?_
        rintro e w' ⟨rfl, rfl⟩
        refine ⟨rfl, 0, #[.cells (encPg x).toArray 113, .cells (encPg y).toArray 113], ?_⟩
        rw [alloc_eq_grow, alloc_eq_grow, grow_grow]
        rfl
      have h := AnyQ.slices_SortFunc laySortP 257 Try.isAgg113 Try.sizeOf113 encPg encPg_len encPg_one cfPg swoPg 150 #[] g 0 cap d.toArray w eg hcr hH hblk.lt (by simpa [hdl] using hl)
      rw [show d.toArray.size = l.length by simp [hdl]] at h
      refine (show Calls Try.prog 149 #[.slice (some ⟨g, 0, none⟩) l.length cap, .func (.func 150) #[] #[]] w _ from h).mono ?_
      rintro e w' ⟨rfl, d', m, os, hp, hso, rfl⟩
      have hs' : d'.size = l.length := by rw [hp.1]; simp [hdl]
      have hperm : d'.toList.Perm d := by
        have h5 := hp.2.2
        rw [Array.toList_extract, Array.toList_extract] at h5
        simpa [hs', hdl, List.extract, List.take_of_length_le] using h5
      refine ⟨rfl, d'.toList.map (·.1), by rw [← hd]; exact hperm.map _, ?_, ?_, ?_⟩
      · rw [List.pairwise_map, List.pairwise_iff_getElem]
        intro i j hi hj hij
        have h5 := hso i j (Nat.zero_le _) hij (by rw [← hs']; simpa using hj)
        rw [getElem!_pos d' i (by simpa using hi), getElem!_pos d' j (by simpa using hj)] at h5
        unfold ltOf cfPg at h5
        have h6 := of_decide_eq_false h5
        simp only [Array.getElem_toList]
        omega
      · have hfl : (flatK encPg 257 d').toList = pgsCells (d'.toList.map (·.1)) := by rw [flatK_list encPg 257 encPg_len (by omega), hfm]
        have hsl : (pgsCells (d'.toList.map (·.1))).length = l.length * 257 := by rw [← hfl, Array.length_toList, size_flatK, hs']
        have hw : sortWorldK encPg 257 w g 0 m d' os = Sort.grow ((w.drewN m).setCells g 0 ((flatK encPg 257 d').toList.map id)) os := Lib.sorted_world id w g 0 m (flatK encPg 257 d.toArray) (flatK encPg 257 d').toList os hH (by rw [Array.length_toList, size_flatK, hs', hsz])
        rw [hw, List.map_id, hfl]
        have hc0 : cur = (pgsCells l ++ cur.toList.drop (l.length * 257)).toArray := by rw [← h4, List.take_append_drop]
        have hpl : (pgsCells l).length = l.length * 257 := by rw [← hcells, Array.length_toList, hsz]
        have hb2 : Blk (w.drewN m) g 113 ([] ++ pgsCells l ++ cur.toList.drop (l.length * 257)).toArray := by rw [List.nil_append, ← hc0]; exact hblk
        have hb3 := Blk.cellsL (xs := pgsCells (d'.toList.map (·.1))) hb2 0 rfl (by rw [hsl, hpl])
        refine ⟨hsl, .inr ⟨g, cap, _, rfl, hb, hb3.keep (grow_kp (Kp.refl NoB _) os) (fun q => q), h1, h2, ?_, ?_⟩⟩
        · simp only [List.size_toArray, List.length_append, hsl, List.nil_append, List.length_drop, Array.length_toList]
          omega
        · simp only [List.nil_append]
          rw [List.take_append_of_le_length (by rw [hsl]; exact Nat.le_refl _), List.take_of_length_le (by rw [hsl]; exact Nat.le_refl _)]
      · have hfl : (flatK encPg 257 d').toList = pgsCells (d'.toList.map (·.1)) := by rw [flatK_list encPg 257 encPg_len (by omega), hfm]
        have hw : sortWorldK encPg 257 w g 0 m d' os = Sort.grow ((w.drewN m).setCells g 0 ((flatK encPg 257 d').toList.map id)) os := Lib.sorted_world id w g 0 m (flatK encPg 257 d.toArray) (flatK encPg 257 d').toList os hH (by rw [Array.length_toList, size_flatK, hs', hsz])
        rw [hw]
        exact grow_kp (Kp.setCells (S := fun b => (Value.slice (some ⟨g, 0, none⟩) l.length cap).ownBlock = some b) (g := g) (.inr rfl) _ _ _ ((Kp.refl _ w).drewN m)) os
end Go.Proofs.Ytegcbdfilkecpaa
