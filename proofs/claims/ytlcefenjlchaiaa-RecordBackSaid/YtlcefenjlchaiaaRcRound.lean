/- A record read is the row that was written, whatever stands behind it; no condition. -/
import Derived.Test.YtlcefenjlchaiaaRcDecLaw
namespace Go.Proofs.Ytlcefenjlchaiaa
open Go.RowKit

def natL (l : List Int) : List Nat := l.map Int.toNat
theorem natsOf_strOf (l : List Int) (h : ∀ x ∈ l, 0 ≤ x ∧ x < 256) : natsOf (strOf l) = natL l := by
  unfold natsOf strOf natL
  simp only [List.map_map]
  apply List.map_congr_left
  intro x hx
  have := h x hx
  simp only [Function.comp_apply, UInt8.toNat_ofNat']
  omega
theorem natsOf_append (a b : ByteArray) : natsOf (a ++ b) = natsOf a ++ natsOf b := by
  unfold natsOf
  rw [ByteArray.toList_data_append, List.map_append]
theorem tl7_len' : ∀ (f k v : Nat), v < 128 ^ k → (tl7 f v).length ≤ k
  | 0, _, _, _ => by simp [tl7]
  | f + 1, k, v, h => by
    unfold tl7
    split
    · simp
    · cases k with
      | zero => simp at h; omega
      | succ k =>
        have := tl7_len' f k (v / 128) (by rw [Nat.pow_succ] at h; omega)
        simp
        omega
theorem scan_tl7 : ∀ (f v : Nat), v < 128 ^ f → (tl7 f v).length ≤ 8 → ∀ rest, scanV 0 0 (natL (tl7 f v).reverse ++ rest) = scanV (tl7 f v).length v rest
  | 0, v, h, _, rest => by
    obtain rfl : v = 0 := by simp at h; omega
    rfl
  | f + 1, v, h, hl, rest => by
    unfold tl7 at hl ⊢
    by_cases h0 : v = 0
    · rw [if_pos h0]
      subst h0
      rfl
    · rw [if_neg h0] at hl ⊢
      rw [List.length_cons] at hl
      have ih := scan_tl7 f (v / 128) (by rw [Nat.pow_succ] at h; omega) (by omega)
      rw [List.reverse_cons, natL, List.map_append, List.append_assoc]
      have := ih ([((v % 128 + 128 : Nat) : Int)].map Int.toNat ++ rest)
      rw [natL] at this
      rw [this]
      simp only [List.map_cons, List.map_nil, List.cons_append, List.nil_append, List.length_cons]
      rw [scanV, if_neg (by omega), if_neg (by omega)]
      congr 1
      omega
theorem scan_tl8 : ∀ (n v : Nat), v < 128 ^ n → n ≤ 8 → ∀ rest, scanV 0 0 (natL (tl8 n v).reverse ++ rest) = scanV n v rest
  | 0, v, h, _, rest => by
    obtain rfl : v = 0 := by simp at h; omega
    rfl
  | n + 1, v, h, hl, rest => by
    unfold tl8
    have ih := scan_tl8 n (v / 128) (by rw [Nat.pow_succ] at h; omega) (by omega)
    rw [List.reverse_cons, natL, List.map_append, List.append_assoc]
    have := ih ([((v % 128 + 128 : Nat) : Int)].map Int.toNat ++ rest)
    rw [natL] at this
    rw [this]
    simp only [List.map_cons, List.map_nil, List.cons_append, List.nil_append]
    rw [scanV, if_neg (by omega), if_neg (by omega)]
    congr 1
    omega
theorem scan_put (u : Nat) (hu : u < 18446744073709551616) (r : ByteArray) : scanV 0 0 (natsOf (putV u ++ r)) = some (u, (putL u).length) := by
  rw [natsOf_append]
  unfold putV
  rw [natsOf_strOf _ (fun x hx => putL_rng u x (by simpa using hx))]
  unfold putL
  by_cases hb : u < big56
  · rw [if_pos hb]
    have hb' : u < 72057594037927936 := hb
    have h7 : u / 128 < 128 ^ 7 := by
      have : (128 : Nat) ^ 7 = 562949953421312 := by decide
      omega
    have hl := tl7_len' 10 7 (u / 128) h7
    have hx : u / 128 < 128 ^ 10 := Nat.lt_of_lt_of_le h7 (Nat.pow_le_pow_right (by omega) (by omega))
    have := scan_tl7 10 (u / 128) hx (by omega)
    rw [List.reverse_cons, natL, List.map_append, List.append_assoc]
    have h2 := this ([((u % 128 : Nat) : Int)].map Int.toNat ++ natsOf r)
    rw [natL] at h2
    rw [h2]
    simp only [List.map_cons, List.map_nil, List.cons_append, List.nil_append, List.length_cons]
    rw [scanV, if_neg (by omega), if_pos (by omega)]
    congr 2
    omega
  · rw [if_neg hb]
    have h8 : u / 256 < 128 ^ 8 := by
      have : (128 : Nat) ^ 8 = 72057594037927936 := by decide
      omega
    have := scan_tl8 8 (u / 256) h8 (by omega)
    rw [List.reverse_cons, natL, List.map_append, List.append_assoc]
    have h2 := this ([((u % 256 : Nat) : Int)].map Int.toNat ++ natsOf r)
    rw [natL] at h2
    rw [h2]
    simp only [List.map_cons, List.map_nil, List.cons_append, List.nil_append, List.length_cons, tl8_len]
    rw [scanV, if_pos rfl]
    congr 2
    omega
theorem varF_put (u : Nat) (hu : u < 18446744073709551616) (r : ByteArray) : varF (putV u ++ r) = some (u, (putV u).size) := by
  unfold varF
  rw [scan_put u hu r, putV_size]
  simp
theorem numF_put (p : ByteArray) (u : Nat) (hu : u < 18446744073709551616) (r : ByteArray) : numF (p ++ (putV u ++ r)) p.size = some (u, p.size + (putV u).size) := by
  unfold numF
  have e : (p ++ (putV u ++ r)).extract p.size (p ++ (putV u ++ r)).size = putV u ++ r := ByteArray.extract_append_eq_right rfl (by rw [ByteArray.size_append])
  rw [e, varF_put u hu r]
  rfl
/-- texts one after another -/
def cat : List ByteArray → ByteArray
  | [] => ByteArray.empty
  | a :: l => a ++ cat l
theorem foldl_cat {α : Type} (f : α → ByteArray) : ∀ (l : List α) (a : ByteArray), l.foldl (fun a v => a ++ f v) a = a ++ cat (l.map f)
  | [], a => by simp [cat]
  | v :: l, a => by
    rw [List.foldl_cons, foldl_cat f l, List.map_cons, cat, ByteArray.append_assoc]
def RV.ty (v : RV) : Nat := (shapeF v.k v.i v.s).1
def RV.body (v : RV) : ByteArray := (shapeF v.k v.i v.s).2
theorem headK_cat (vs : List RV) : headK vs vs.length = putV vs.length ++ cat (vs.map fun v => putV v.ty) := by
  unfold headK
  rw [List.take_length]
  exact foldl_cat (fun v : RV => putV v.ty) vs _
theorem bodyK_cat (vs : List RV) : bodyK vs vs.length = cat (vs.map RV.body) := by
  unfold bodyK
  rw [List.take_length]
  exact (foldl_cat RV.body vs _).trans ByteArray.empty_append
theorem typesF_cat : ∀ (vs : List RV) (p r : ByteArray), (∀ v ∈ vs, v.may = true) → typesF (p ++ (cat (vs.map fun v => putV v.ty) ++ r)) vs.length p.size = some (vs.map RV.ty, p.size + (cat (vs.map fun v => putV v.ty)).size)
  | [], p, r, _ => by simp [typesF, cat]
  | v :: vs, p, r, h => by
    have hv := (shapeF_size v (h v (by simp))).1
    have e : p ++ (cat ((v :: vs).map fun v => putV v.ty) ++ r) = p ++ (putV v.ty ++ (cat (vs.map fun v => putV v.ty) ++ r)) := by
      rw [List.map_cons, cat, ByteArray.append_assoc]
    have e2 : p ++ (putV v.ty ++ (cat (vs.map fun v => putV v.ty) ++ r)) = (p ++ putV v.ty) ++ (cat (vs.map fun v => putV v.ty) ++ r) := by
      rw [ByteArray.append_assoc]
    rw [e, List.length_cons, typesF, numF_put p v.ty hv]
    simp only
    have ih := typesF_cat vs (p ++ putV v.ty) r (fun x hx => h x (by simp [hx]))
    rw [ByteArray.size_append] at ih
    rw [e2, ih]
    simp only [Option.map_some, List.map_cons, cat, ByteArray.size_append, Option.some.injEq, Prod.mk.injEq, true_and]
    omega
theorem itl_val : ∀ (f : Nat) (x : Int), fitN (f + 1) x → foldB (sgn (natL (itl (f + 1) x).reverse)) (natL (itl (f + 1) x).reverse) = x
  | f, x, hf => by
    unfold itl
    by_cases hq : x / 128 = 0 ∨ x / 128 = -1
    · rw [if_pos hq]
      simp only [List.reverse_cons, List.reverse_nil, List.nil_append, natL, List.map_cons, List.map_nil, foldB, List.foldl_cons, List.foldl_nil, sgn, List.headD_cons]
      split <;> omega
    · rw [if_neg hq]
      cases f with
      | zero => exact absurd ((fit_one x).1 hf) hq
      | succ f =>
        have ih := itl_val f (x / 256) ((fit_step (f + 1) x (by omega)).2 hf)
        have hp := itl_pos f (x / 256)
        rw [List.reverse_cons, natL, List.map_append]
        rw [natL] at ih
        obtain ⟨L, hL⟩ : ∃ L, (itl (f + 1) (x / 256)).reverse.map Int.toNat = L := ⟨_, rfl⟩
        have hlen : 1 ≤ L.length := by rw [← hL]; simpa using hp
        rw [hL] at ih ⊢
        have hs : sgn (L ++ [x % 256].map Int.toNat) = sgn L := by
          cases L with
          | nil => simp at hlen
          | cons a L => rfl
        rw [hs]
        simp only [List.map_cons, List.map_nil]
        rw [foldB_snoc, ih]
        omega
theorem intB_val (x : Int) (h1 : -9223372036854775808 ≤ x) (h2 : x ≤ 9223372036854775807) : valI (natsOf (intB x)) = x := by
  unfold intB
  rw [natsOf_strOf _ (fun y hy => itl_rng 8 x y (by simpa using hy))]
  exact itl_val 7 x (fit_8 x h1 h2)
theorem empty_of_size {s : ByteArray} (h : s.size = 0) : s = ByteArray.empty := ByteArray.size_eq_zero_iff.1 h
theorem valF_body (v : RV) (hv : v.ok) (hm : v.may = true) (p r : ByteArray) : valF v.ty (p ++ (v.body ++ r)) p.size = some (v, p.size + v.body.size) := by
  obtain ⟨k, i, s⟩ := v
  have hx : ∀ b : ByteArray, (p ++ (b ++ r)).extract p.size (p.size + b.size) = b := by
    intro b
    have h0 := ByteArray.extract_append_size_add (a := p) (b := b ++ r) (i := 0) (j := b.size)
    rw [Nat.add_zero] at h0
    rw [h0, ByteArray.extract_append_eq_left rfl]
  have hz : ∀ b : ByteArray, p.size + b.size ≤ (p ++ (b ++ r)).size := by
    intro b
    simp only [ByteArray.size_append]
    omega
  unfold RV.may mayB at hm
  simp only at hm
  unfold RV.ty RV.body
  simp only
  by_cases k0 : k = 0
  · rw [if_pos k0] at hm
    simp only [Bool.and_eq_true, decide_eq_true_eq] at hm
    obtain ⟨rfl, hs⟩ := hm
    subst k0
    obtain rfl := empty_of_size hs
    rfl
  rw [if_neg k0] at hm
  by_cases k1 : k = 1
  · rw [if_pos k1] at hm
    simp only [decide_eq_true_eq] at hm
    obtain rfl := empty_of_size hm
    subst k1
    by_cases i0 : i = 0
    · subst i0; rfl
    by_cases i1 : i = 1
    · subst i1; rfl
    have e : shapeF 1 i ByteArray.empty = ((itl 8 i).length, intB i) := by unfold shapeF; rw [if_pos rfl, if_neg i0, if_neg i1]
    have h8 := itl_len 8 i
    have hp := itl_pos 7 i
    have hsz := intB_size i
    rw [e]
    simp only
    rw [← hsz] at h8 hp ⊢
    unfold valF
    rw [if_neg (by omega), if_pos h8, if_pos (hz _), hx, intB_val i hv.ilo hv.ihi]
  rw [if_neg k1] at hm
  by_cases k23 : k = 2 ∨ k = 3
  · rw [if_pos k23] at hm
    simp only [Bool.and_eq_true, decide_eq_true_eq] at hm
    obtain ⟨rfl, hs⟩ := hm
    rcases k23 with rfl | rfl
    · have e : shapeF 2 0 s = (13 + 2 * s.size, s) := rfl
      rw [e]
      simp only
      unfold valF
      rw [if_neg (by omega), if_neg (by omega), if_neg (by omega), if_neg (by omega), if_neg (by omega), show (13 + 2 * s.size - 13) / 2 = s.size by omega, if_pos (hz _), hx]
    · have e : shapeF 3 0 s = (12 + 2 * s.size, s) := rfl
      rw [e]
      simp only
      unfold valF
      rw [if_neg (by omega), if_neg (by omega), if_neg (by omega), if_neg (by omega), if_pos (by omega), show (12 + 2 * s.size - 12) / 2 = s.size by omega, if_pos (hz _), hx]
  · rw [if_neg k23] at hm
    cases hm
theorem valsF_cat : ∀ (vs : List RV) (p r : ByteArray), (∀ v ∈ vs, v.ok) → (∀ v ∈ vs, v.may = true) → valsF (p ++ (cat (vs.map RV.body) ++ r)) (vs.map RV.ty) p.size = some (vs, p.size + (cat (vs.map RV.body)).size)
  | [], p, r, _, _ => by simp [valsF, cat]
  | v :: vs, p, r, ho, h => by
    have e : p ++ (cat ((v :: vs).map RV.body) ++ r) = p ++ (v.body ++ (cat (vs.map RV.body) ++ r)) := by
      rw [List.map_cons, cat, ByteArray.append_assoc]
    have e2 : p ++ (v.body ++ (cat (vs.map RV.body) ++ r)) = (p ++ v.body) ++ (cat (vs.map RV.body) ++ r) := by
      rw [ByteArray.append_assoc]
    rw [e, List.map_cons, valsF, valF_body v (ho v (by simp)) (h v (by simp)) p]
    simp only
    have ih := valsF_cat vs (p ++ v.body) r (fun x hx => ho x (by simp [hx])) (fun x hx => h x (by simp [hx]))
    rw [ByteArray.size_append] at ih
    rw [e2, ih]
    simp only [Option.map_some, List.map_cons, cat, ByteArray.size_append, Option.some.injEq, Prod.mk.injEq, true_and]
    omega
/-- a text read as far as its first number says -/
def parF (s : ByteArray) : Option (List RV × Nat) :=
  (numF s 0).bind fun q => (typesF s q.1 q.2).bind fun t => valsF s t.1 t.2
theorem par_enc {vs : List RV} {x : ByteArray} (ho : ∀ v ∈ vs, v.ok) (h : encF vs = (x, 0)) (r : ByteArray) : parF (x ++ r) = some (vs, x.size) ∧ numF (x ++ r) 0 = some (vs.length, (putV vs.length).size) := by
  obtain ⟨hm, hl, _, hx⟩ := encF_ok h
  rw [List.all_eq_true] at hm
  rw [headK_cat, bodyK_cat] at hx
  obtain ⟨T, hT⟩ : ∃ T, cat (vs.map fun v => putV v.ty) = T := ⟨_, rfl⟩
  obtain ⟨B, hB⟩ : ∃ T, cat (vs.map RV.body) = T := ⟨_, rfl⟩
  obtain ⟨P, hP⟩ : ∃ T, putV vs.length = T := ⟨_, rfl⟩
  rw [hT, hB, hP] at hx
  have n0 : numF (x ++ r) 0 = some (vs.length, P.size) := by
    have := numF_put ByteArray.empty vs.length (by omega) (T ++ (B ++ r))
    rw [hP, ByteArray.empty_append] at this
    rw [hx, ByteArray.append_assoc, ByteArray.append_assoc, show (0 : Nat) = ByteArray.empty.size from rfl, this]
    simp
  have t0 : typesF (x ++ r) vs.length P.size = some (vs.map RV.ty, P.size + T.size) := by
    have := typesF_cat vs P (B ++ r) hm
    rw [hT] at this
    rw [hx, ByteArray.append_assoc, ByteArray.append_assoc, this]
  have v0 : valsF (x ++ r) (vs.map RV.ty) (P.size + T.size) = some (vs, x.size) := by
    have := valsF_cat vs (P ++ T) r ho hm
    rw [hB, ByteArray.size_append, ← ByteArray.append_assoc, ← hx] at this
    rw [this, hx]
    simp [ByteArray.size_append]
  refine ⟨?_, by rw [n0, hP]⟩
  unfold parF
  rw [n0]
  simp only [Option.bind_some]
  rw [t0]
  simp only [Option.bind_some]
  exact v0
theorem dec_enc {vs : List RV} {x : ByteArray} (ho : ∀ v ∈ vs, v.ok) (h : encF vs = (x, 0)) : decF x = some vs := by
  obtain ⟨hp, hn⟩ := par_enc ho h ByteArray.empty
  rw [ByteArray.append_empty] at hp hn
  have hl := (encF_ok h).2.1
  unfold parF at hp
  unfold decF
  rw [hn] at hp ⊢
  simp only [Option.bind_some] at hp
  simp only
  rw [if_neg (by omega)]
  cases ht : typesF x vs.length (putV vs.length).size with
  | none => rw [ht] at hp; cases hp
  | some t =>
    obtain ⟨ts, a⟩ := t
    rw [ht] at hp
    simp only [Option.bind_some] at hp
    simp only
    rw [hp]
    simp only
    rw [if_pos h]
/-- no record is the beginning of another one -/
theorem enc_front {vs us : List RV} {x y : ByteArray} (ho : ∀ v ∈ vs, v.ok) (hu : ∀ v ∈ us, v.ok) (h : encF vs = (x, 0)) (h2 : encF us = (y, 0)) (r : ByteArray) (e : y = x ++ r) : vs = us ∧ x = y := by
  have h1 := (par_enc ho h r).1
  have h3 := (par_enc hu h2 ByteArray.empty).1
  rw [ByteArray.append_empty, e, h1] at h3
  simp only [Option.some.injEq, Prod.mk.injEq] at h3
  obtain ⟨rfl, _⟩ := h3
  exact ⟨rfl, by rw [h] at h2; simpa using congrArg Prod.fst h2⟩
theorem enc_inj {vs us : List RV} {x : ByteArray} (ho : ∀ v ∈ vs, v.ok) (hu : ∀ v ∈ us, v.ok) (h : encF vs = (x, 0)) (h2 : encF us = (x, 0)) : vs = us :=
  (enc_front ho hu h h2 ByteArray.empty (by simp)).1
theorem enc_cut {vs us : List RV} {x y : ByteArray} (ho : ∀ v ∈ vs, v.ok) (hu : ∀ v ∈ us, v.ok) (h : encF vs = (x, 0)) (h2 : encF us = (y, 0)) (hne : vs ≠ us) : ¬ y.extract 0 x.size = x := by
  intro e
  have : y = x ++ y.extract x.size y.size := by
    have h3 := ByteArray.extract_append_extract (a := y) (i := 0) (j := x.size) (k := y.size)
    rw [e] at h3
    rw [h3]
    simp
  exact hne (enc_front ho hu h h2 _ this).1
end Go.Proofs.Ytlcefenjlchaiaa
