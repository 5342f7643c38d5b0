/- Texts of this proof, one behind the other: lemmas and contracts; each says its own conditions. -/
import Derived.Test.YtegcbdfilkecpaaS3
import Derived.Test.YtegcbdfilkecpaaS4
/- The write-ahead log in plain Lean: its frames, marks and pages, its steps on the plain disk; no condition. -/
namespace Go.Proofs.Ytegcbdfilkecpaa
open Go

def nmWal : ByteArray := ⟨#[119, 97, 108]⟩
/-- a frame: a page's number, a count and one if it ends a commit, the page -/
structure Fr where
  n : Int
  en : Int
  b : List Int
/-- a frame read off the beginning of some bytes -/
def frP (b : List Int) : Option Fr := if b.length < 320 then none else if (b.drop 8).take 56 = zeros 56 ∧ num b 0 ≤ 4096 ∧ num b 4 ≤ 4097 ∧ (0 < num b 0 ∨ 0 < num b 4) then some ⟨num b 0, num b 4, (b.drop 64).take 256⟩ else none
/-- the k-th frame of a log -/
def frAt (l : List Int) (k : Nat) : Option Fr :=
  let b := (l.drop (64 + 320 * k)).take 320
  if b.length < 320 then none else if (b.drop 8).take 56 = zeros 56 ∧ num b 0 ≤ 4096 ∧ num b 4 ≤ 4097 ∧ (0 < num b 0 ∨ 0 < num b 4) then some ⟨num b 0, num b 4, b.drop 64⟩ else none
/-- the first frames -/
def frsAt (l : List Int) : Nat → Option (List Fr)
  | 0 => some []
  | k + 1 => (frsAt l k).bind fun fs => (frAt l k).map fun f => fs ++ [f]
def lastEn (fs : List Fr) : Int := match fs.getLast? with | some f => f.en | none => 1
namespace Pl
def whead (p : Pl) : W4 := says (p.seen nmWal)
/-- the log opened: an error and the frames -/
def wopen (p : Pl) : Int × List Fr :=
  if p.down then (7, []) else if 1048576 < p.whead.a ∨ p.whead.b ≠ 0 ∨ p.whead.c ≠ 0 ∨ p.whead.d ≠ 0 then (8, []) else
    match frsAt (p.seen nmWal) p.whead.a.toNat with
    | none => (8, [])
    | some fs => if lastEn fs = 0 then (8, []) else (0, fs)
end Pl
/-- is it a mark? -/
def isMark (fs : List Fr) (m : Int) : Bool := decide (m = 0) || (decide (0 < m ∧ m ≤ fs.length) && (match fs[m.toNat - 1]? with | some f => decide (0 < f.en) | none => false))
/-- how many pages at a mark -/
def wcount (p : Pl) (fs : List Fr) (m : Int) : Int := if m = 0 then p.jcount else match fs[m.toNat - 1]? with | some f => f.en - 1 | none => 0
/-- the last frame of a page among the first ones -/
def lastFr (fs : List Fr) (n : Int) : Option Fr := fs.reverse.find? fun f => decide (f.n = n)
def wpage (p : Pl) (fs : List Fr) (m n : Int) : List Int := match lastFr (fs.take m.toNat) n with | some f => f.b | none => p.jpage n
/-- a frame's bytes -/
def frB (f : Fr) : List Int := four f.n ++ four f.en ++ zeros 56 ++ f.b
/-- the frames of a commit -/
def newFr (count : Int) (l : List Pg) : List Fr :=
  let fs := if l = [] then [⟨0, 0, zeros 256⟩] else l.map fun x => ⟨x.n, 0, x.b⟩
  match fs.getLast? with | some f => fs.dropLast ++ [{ f with en := count + 1 }] | none => fs
def frW : Nat → List Fr → List Stp
  | _, [] => []
  | k, f :: r => ⟨0, nmWal, 64 + 320 * (k : Int), frB f⟩ :: frW (k + 1) r
namespace Pl
def wcommitS (p : Pl) (fs : List Fr) (new : List Fr) : List Stp := headS nmWal p.whead ++ (frW fs.length new ++ [⟨2, nmWal, 0, []⟩] ++ headS nmWal ⟨fs.length + new.length, 0, 0, 0⟩)
/-- pages changed together: the disk, the new mark, an error -/
def wcommit (p : Pl) (count : Int) (l : List Pg) : Pl × Int × Int :=
  if p.wopen.1 ≠ 0 then (p, 0, p.wopen.1) else
    let fs := p.wopen.2
    if fitPg (wcount p fs fs.length) count l = false then (p, 0, 2) else
      let q := p.runS (p.wcommitS fs (newFr count l))
      if q.2 ≠ 0 then (q.1, 0, fullE q.2) else (q.1, fs.length + (newFr count l).length, 0)
/-- the pages that the log has at a mark, by their numbers -/
def whome (p : Pl) (fs : List Fr) (m : Int) : List Pg :=
  ((List.range' 1 (wcount p fs m).toNat).filter fun (n : Nat) => (fs.take m.toNat).any fun f => decide (f.n = (n : Int))).map fun (n : Nat) => ⟨(n : Int), wpage p fs m n⟩
def wcheckS (p : Pl) (fs : List Fr) (m : Int) : List Stp := headS nmWal p.whead ++ (homeS (wcount p fs m) (whome p fs m) ++ if m = fs.length then headS nmWal ⟨0, 0, 0, 0⟩ else [])
/-- pages brought home -/
def wcheck (p : Pl) (m : Int) : Pl × Int :=
  if p.wopen.1 ≠ 0 then (p, p.wopen.1) else if isMark p.wopen.2 m = false then (p, 4) else if m = 0 then (p, 0) else p.runS (p.wcheckS p.wopen.2 m)
end Pl
theorem getD_take {l : List Int} {n i : Nat} (h : i < n) : (l.take n).getD i 0 = l.getD i 0 := by
  rw [List.getD_eq_getElem?_getD, List.getD_eq_getElem?_getD, List.getElem?_take, if_pos h]
theorem num_take {l : List Int} {n a : Nat} (h : a + 4 ≤ n) : num (l.take n) a = num l a := by
  unfold num
  rw [getD_take (by omega), getD_take (by omega), getD_take (by omega), getD_take (by omega)]
theorem frAt_P (l : List Int) (k : Nat) : frAt l k = frP (l.drop (64 + 320 * k)) := by
  unfold frAt frP
  dsimp only
  generalize l.drop (64 + 320 * k) = b
  rw [num_take (by omega), num_take (by omega), List.length_take, List.drop_take, List.take_take, List.drop_take]
  by_cases h : b.length < 320
  · rw [if_pos (by omega), if_pos h]
  · rw [if_neg (by omega), if_neg h]
    rfl
theorem frsAt_len {l : List Int} : ∀ {k : Nat} {fs : List Fr}, frsAt l k = some fs → fs.length = k
  | 0, fs, h => by unfold frsAt at h; injection h with h; rw [← h]; rfl
  | k + 1, fs, h => by
    unfold frsAt at h
    cases hq : frsAt l k with
    | none => rw [hq] at h; cases h
    | some g =>
      rw [hq] at h
      cases hf : frAt l k with
      | none => rw [hf] at h; cases h
      | some f =>
        rw [hf] at h
        injection h with h
        rw [← h, List.length_append, frsAt_len hq]
        rfl
theorem frsAt_none {l : List Int} {k : Nat} (h : frAt l k = none) : ∀ {n : Nat}, k < n → frsAt l n = none
  | 0, q => absurd q (by omega)
  | n + 1, q => by
    unfold frsAt
    by_cases e : k = n
    · subst e
      rw [h]
      cases frsAt l k <;> rfl
    · rw [frsAt_none h (n := n) (by omega)]
      rfl
theorem frsAt_next {l : List Int} {k : Nat} {fs : List Fr} {f : Fr} (h : frsAt l k = some fs) (hf : frAt l k = some f) : frsAt l (k + 1) = some (fs ++ [f]) := by
  show (frsAt l k).bind _ = _
  rw [h]
  show (frAt l k).map _ = _
  rw [hf]
  rfl
theorem frAt_pos {l : List Int} {k : Nat} {f : Fr} (h : frAt l k = some f) : 64 + 320 * k + 320 ≤ l.length := by
  unfold frAt at h
  dsimp only at h
  split at h
  · cases h
  · rename_i hl
    rw [List.length_take, List.length_drop] at hl
    omega
structure FrOk (f : Fr) : Prop where
  n0 : 0 ≤ f.n ∧ f.n ≤ 4096
  e0 : 0 ≤ f.en ∧ f.en ≤ 4097
  len : f.b.length = 256
  rng : ∀ y ∈ f.b, 0 ≤ y ∧ y < 256
theorem num_ge {b : List Int} (hb : ∀ y ∈ b, 0 ≤ y ∧ y < 256) (a : Nat) : 0 ≤ num b a := by
  have h : ∀ i, 0 ≤ b.getD i 0 := fun i => by
    rw [List.getD_eq_getElem?_getD]
    cases hq : b[i]? with
    | none => simp
    | some y => exact (hb y (List.mem_of_getElem? hq)).1
  unfold num
  have := h a; have := h (a + 1); have := h (a + 2); have := h (a + 3)
  omega
theorem frAt_ok {l : List Int} (hl : ∀ y ∈ l, 0 ≤ y ∧ y < 256) {k : Nat} {f : Fr} (h : frAt l k = some f) : FrOk f := by
  have hp := frAt_pos h
  unfold frAt at h
  dsimp only at h
  split at h
  · cases h
  · split at h
    · rename_i hlen hc
      injection h with h
      have hr : ∀ y ∈ (l.drop (64 + 320 * k)).take 320, 0 ≤ y ∧ y < 256 := fun y hy => hl y (List.mem_of_mem_drop (List.mem_of_mem_take hy))
      rw [← h]
      refine ⟨⟨num_ge hr 0, hc.2.1⟩, ⟨num_ge hr 4, hc.2.2.1⟩, ?_, fun y hy => hr y (List.mem_of_mem_drop hy)⟩
      show (((l.drop (64 + 320 * k)).take 320).drop 64).length = 256
      rw [List.length_drop, List.length_take, List.length_drop]
      omega
    · cases h
theorem frsAt_ok {l : List Int} (hl : ∀ y ∈ l, 0 ≤ y ∧ y < 256) : ∀ {k : Nat} {fs : List Fr}, frsAt l k = some fs → ∀ f ∈ fs, FrOk f
  | 0, fs, h => by unfold frsAt at h; injection h with h; rw [← h]; intro f q; cases q
  | k + 1, fs, h => by
    unfold frsAt at h
    cases hq : frsAt l k with
    | none => rw [hq] at h; cases h
    | some g =>
      rw [hq] at h
      cases hf : frAt l k with
      | none => rw [hf] at h; cases h
      | some f =>
        rw [hf] at h
        injection h with h
        rw [← h]
        intro x hx
        rcases List.mem_append.1 hx with q | q
        · exact frsAt_ok hl hq x q
        · rw [List.mem_singleton.1 q]; exact frAt_ok hl hf
end Go.Proofs.Ytegcbdfilkecpaa
/- The journal in plain Lean: bytes of a file that stay, whatever becomes of the changes. -/
namespace Go.Proofs.Ytegcbdfilkecpaa

/-- bytes of o that are in D still -/
def Fix (P : Nat → Prop) (o D : List Int) : Prop := ∀ i, P i → i < o.length → D[i]? = o[i]?
theorem Fix.lt {P : Nat → Prop} {o D : List Int} (h : Fix P o D) {i : Nat} (hp : P i) (hi : i < o.length) : i < D.length := by
  have := h i hp hi
  rw [List.getElem?_eq_getElem hi] at this
  exact (List.getElem?_eq_some_iff.1 this).1
theorem get_sized {l : List Int} {n i : Nat} (h1 : i < l.length) (h2 : i < n) : (sizedF l n)[i]? = l[i]? := by
  unfold sizedF
  split
  · rw [List.getElem?_take_of_lt h2]
  · rw [List.getElem?_append_left h1]
theorem get_put {l d : List Int} {a i : Nat} (ha : a + d.length ≤ l.length) : (Pl.put l a d)[i]? = if a ≤ i ∧ i < a + d.length then d[i - a]? else l[i]? := by
  unfold Pl.put
  have ht : (l.take a).length = a := by rw [List.length_take]; omega
  by_cases h1 : i < a
  · rw [if_neg (by omega), List.append_assoc, List.getElem?_append_left (by rw [ht]; exact h1), List.getElem?_take_of_lt h1]
  · by_cases h2 : i < a + d.length
    · rw [if_pos ⟨by omega, h2⟩, List.append_assoc, List.getElem?_append_right (by rw [ht]; omega), ht, List.getElem?_append_left (by omega)]
    · rw [if_neg (by omega), List.getElem?_append_right (by rw [List.length_append, ht]; omega), List.length_append, ht, List.getElem?_drop, show a + d.length + (i - (a + d.length)) = i by omega]
theorem fix_made {P : Nat → Prop} {o D : List Int} {c : Cg} (ch : Int) (hg : c.sec < 0 → ∀ i, P i → i < o.length → i < c.n.toNat)
    (hs : 0 ≤ c.sec → ∀ i, P i → i < o.length → i < c.sec.toNat * 64 ∨ c.sec.toNat * 64 + 64 ≤ i) (h : Fix P o D) : Fix P o (Pl.made D c ch) := by
  unfold Pl.made
  split
  · exact h
  · split
    · rename_i q
      intro i hp hi
      rw [get_sized (h.lt hp hi) (hg q i hp hi)]
      exact h i hp hi
    · rename_i q
      intro i hp hi
      have hle := cut_le ch
      generalize (if 1 < ch then (1 + (ch - 2) % 63).toNat else 64) = n at hle ⊢
      by_cases hD : c.sec.toNat * 64 ≤ D.length
      · rw [get_put (by simp only [List.length_take]; omega), if_neg (by
          rcases hs (by omega) i hp hi with z | z
          · omega
          · simp only [List.length_take]; omega)]
        exact h i hp hi
      · rw [show D.length - c.sec.toNat * 64 = 0 by omega, List.take_zero, put_nil]
        exact h i hp hi
theorem get_wrL {l d : List Int} {a i : Nat} (h : i < l.length ∨ (a ≤ i ∧ i < a + d.length)) : (wrL l a d)[i]? = if a ≤ i ∧ i < a + d.length then d[i - a]? else l[i]? := by
  unfold wrL
  split
  · rename_i q
    rw [get_put (by rw [sizedF_len]; exact Nat.le_refl _)]
    split
    · rfl
    · rw [get_sized (by omega) (by omega)]
  · rename_i q
    exact get_put (by omega)
theorem fix_wrL {P : Nat → Prop} {o D d : List Int} {a : Nat} (ha : ∀ i, P i → i < o.length → i < a ∨ a + d.length ≤ i) (h : Fix P o D) : Fix P o (wrL D a d) := fun i hp hi => by
  rw [get_wrL (.inl (h.lt hp hi)), if_neg (by have := ha i hp hi; omega)]
  exact h i hp hi
theorem fix_sized {P : Nat → Prop} {o D : List Int} {n : Nat} (hn : ∀ i, P i → i < o.length → i < n) (h : Fix P o D) : Fix P o (sizedF D n) := fun i hp hi => by
  rw [get_sized (h.lt hp hi) (hn i hp hi)]
  exact h i hp hi
/-- what a write leaves pending, change by change -/
theorem pendW_mem {l d : List Int} {s : ByteArray} {a : Nat} {c : Cg} (h : c ∈ pendW l s a d) : c.nm = s ∧
    ((c.sec < 0 ∧ l.length < a + d.length ∧ c.n = ((a + d.length : Nat) : Int)) ∨ (0 ≤ c.sec ∧ a / 64 ≤ c.sec.toNat ∧ c.sec.toNat < (a + d.length + 63) / 64 ∧ c.s = sizedF ((wrL l a d).drop (c.sec.toNat * 64)) 64)) := by
  unfold pendW at h
  rcases List.mem_append.1 h with q | q
  · split at q
    · rename_i hl
      rw [List.mem_singleton.1 q]
      exact ⟨rfl, .inl ⟨show (-1 : Int) < 0 by omega, hl, rfl⟩⟩
    · cases q
  · unfold Pl.sectors at q
    obtain ⟨k, hk, rfl⟩ := List.mem_map.1 q
    have := List.mem_range'.1 hk
    refine ⟨rfl, .inr ⟨?_, ?_, ?_, rfl⟩⟩
    · show (0 : Int) ≤ (k : Int)
      omega
    · show a / 64 ≤ ((k : Nat) : Int).toNat
      omega
    · show ((k : Nat) : Int).toNat < (a + d.length + 63) / 64
      omega
theorem pendT_mem {l : List Int} {s : ByteArray} {n : Nat} {c : Cg} (h : c ∈ pendT l s n) : c.nm = s ∧ c.sec < 0 ∧ c.n = (n : Int) := by
  unfold pendT at h
  split at h
  · cases h
  · rw [List.mem_singleton.1 h]
    exact ⟨rfl, show (-1 : Int) < 0 by omega, rfl⟩
end Go.Proofs.Ytegcbdfilkecpaa
/- The journal in plain Lean: what may become of a file, through each step. -/
namespace Go.Proofs.Ytegcbdfilkecpaa

/-- the changes of a file -/
def chg (p : Pl) (s : ByteArray) : List Cg := p.pd.filter fun c => decide (c.nm = s)
/-- every outcome of a file -/
def FO (p : Pl) (s : ByteArray) (R : List Int → Prop) : Prop := ∀ r, Out (p.kept s) (chg p s) r → R r
/-- what is kept is I, and every change keeps it -/
structure FI (p : Pl) (s : ByteArray) (I : List Int → Prop) : Prop where
  kept : I (p.kept s)
  made : ∀ c ∈ p.pd, c.nm = s → ∀ k ch, I k → I (Pl.made k c ch)
theorem FI.fo {p : Pl} {s : ByteArray} {I : List Int → Prop} (h : FI p s I) : FO p s I := fun _ ho => out_inv ho h.kept (fun c hc => by
  have := List.mem_filter.1 hc
  exact h.made c this.1 (by simpa using this.2))
theorem FO.mono {p : Pl} {s : ByteArray} {R R' : List Int → Prop} (h : FO p s R) (hr : ∀ r, R r → R' r) : FO p s R' := fun r ho => hr r (h r ho)
/-- a step adds changes -/
theorem FI.step {p q : Pl} {E : Int} {sn : ByteArray → List Int} {l : List Cg} {s : ByteArray} {I : List Int → Prop} (h : FI p s I) (hq : Stepd p q E sn (p.pd ++ l)) (hl : ∀ c ∈ l, c.nm = s → ∀ k ch, I k → I (Pl.made k c ch)) : FI q s I := by
  refine ⟨by rw [hq.kept]; exact h.kept, fun c hc hn => ?_⟩
  rw [hq.pd] at hc
  rcases List.mem_append.1 hc with z | z
  · exact h.made c z hn
  · exact hl c z hn
theorem FI.same {p q : Pl} {E : Int} {sn : ByteArray → List Int} {s : ByteArray} {I : List Int → Prop} (h : FI p s I) (hq : Stepd p q E sn p.pd) : FI q s I := by
  refine ⟨by rw [hq.kept]; exact h.kept, fun c hc hn => ?_⟩
  rw [hq.pd] at hc
  exact h.made c hc hn
/-- behind a sync of the other file -/
theorem FI.other {p q : Pl} {s t : ByteArray} {I : List Int → Prop} (h : FI p s I) (hq : Synced p q t) (hst : s ≠ t) : FI q s I := by
  refine ⟨by rw [hq.kept, upd_other _ _ hst]; exact h.kept, fun c hc hn => ?_⟩
  rw [hq.pd] at hc
  exact h.made c (List.mem_filter.1 hc).1 hn
/-- behind a sync of the file itself: nothing is pending -/
theorem FI.synced {p q : Pl} {s : ByteArray} {I : List Int → Prop} (hq : Synced p q s) (hi : I (p.seen s)) : FI q s I := by
  refine ⟨by rw [hq.kept, upd_same]; exact hi, fun c hc hn => ?_⟩
  rw [hq.pd] at hc
  have := (List.mem_filter.1 hc).2
  rw [hn] at this
  simp at this
theorem made_head {J : List Int} (nm : ByteArray) (v : W4) (ch : Int) (hl : 64 ≤ J.length) : Pl.made J ⟨nm, 0, 0, sealB v⟩ ch = J ∨ ∃ n, n ≤ 64 ∧ Pl.made J ⟨nm, 0, 0, sealB v⟩ ch = Pl.put J 0 ((sealB v).take n) := by
  have hle := cut_le ch
  by_cases h : ch ≤ 0
  · left
    unfold Pl.made
    rw [if_pos h]
  · right
    refine ⟨_, hle, ?_⟩
    unfold Pl.made
    rw [if_neg h, if_neg (show ¬ (0 : Int) < 0 by omega)]
    show Pl.put J 0 (((sealB v).take (if 1 < ch then (1 + (ch - 2) % 63).toNat else 64)).take (J.length - 0)) = _
    rw [Nat.sub_zero, List.take_take, Nat.min_eq_right (by omega)]
end Go.Proofs.Ytegcbdfilkecpaa
/- The journal in plain Lean: a disk that is up, or has fallen; the bounds that hold through each step. -/
namespace Go.Proofs.Ytegcbdfilkecpaa

theorem out_nil {k r : List Int} (h : Out k [] r) : r = k := by
  generalize hc : ([] : List Cg) = cs at h
  cases h with
  | nil => rfl
  | cons ch h2 => cases hc
end Go.Proofs.Ytegcbdfilkecpaa
/- The journal in plain Lean: a head sealed, on a disk that may fall. -/
namespace Go.Proofs.Ytegcbdfilkecpaa

theorem seal_neA (w : W4) : sealB w ≠ [] := fun e => by have := seal_len w; rw [e] at this; cases this
theorem FO.same {p q : Pl} {E : Int} {sn : ByteArray → List Int} {s : ByteArray} {R : List Int → Prop} (h : FO p s R) (hq : Stepd p q E sn p.pd) : FO q s R := fun r ho => h r (by
  unfold chg at ho ⊢
  rwa [hq.pd, hq.kept] at ho)
/-- a head written whole over a journal that has one, or none -/
theorem wr_head (J : List Int) (w : W4) : HW (wrL J 0 (sealB w)) w := by
  have hs := seal_len w
  unfold wrL
  split
  · unfold Pl.put
    exact ⟨_, by rw [List.take_zero, List.nil_append]⟩
  · unfold Pl.put
    exact ⟨_, by rw [List.take_zero, List.nil_append]⟩
end Go.Proofs.Ytegcbdfilkecpaa
/- The journal in plain Lean: a row of writes into one file, on a disk that may fall. -/
namespace Go.Proofs.Ytegcbdfilkecpaa

/-- what is seen behind a row of writes -/
def seenW (z : List Int) (l : List Stp) : List Int := l.foldl (fun z x => wrL z x.at_.toNat x.d) z
end Go.Proofs.Ytegcbdfilkecpaa
/- The journal in plain Lean: a database of which some bytes stay, through writes beside them. -/
namespace Go.Proofs.Ytegcbdfilkecpaa

theorem fix_pendW {P : Nat → Prop} {o z d : List Int} {s : ByteArray} {a : Nat} (ha : a % 64 = 0) (hd : d.length % 64 = 0) (hout : ∀ i, P i → i < o.length → i < a ∨ a + d.length ≤ i) (hz : Fix P o z) :
    ∀ c ∈ pendW z s a d, ∀ k ch, Fix P o k → Fix P o (Pl.made k c ch) := by
  intro c hc k ch hk
  rcases (pendW_mem hc).2 with ⟨h1, h2, h3⟩ | ⟨h1, h2, h3, h4⟩
  · refine fix_made ch (fun _ i hp hi => ?_) (fun h => by omega) hk
    have := hz.lt hp hi
    rw [h3]
    omega
  · refine fix_made ch (fun h => by omega) (fun _ i hp hi => ?_) hk
    rcases hout i hp hi with q | q
    · left; omega
    · right; omega
theorem fix_pendT {P : Nat → Prop} {o z : List Int} {s : ByteArray} {n : Nat} (hn : ∀ i, P i → i < o.length → i < n) : ∀ c ∈ pendT z s n, ∀ k ch, Fix P o k → Fix P o (Pl.made k c ch) := by
  intro c hc k ch hk
  obtain ⟨h1, h2, h3⟩ := pendT_mem hc
  refine fix_made ch (fun _ i hp hi => ?_) (fun h => by omega) hk
  have := hn i hp hi
  rw [h3]
  omega
/-- the bytes of pages that are in no list, of the first s -/
def Prot (l : List Pg) (s : Nat) (i : Nat) : Prop := i < 256 * s ∧ ∀ x ∈ l, x.n ≠ ((i / 256 : Nat) : Int) + 1
end Go.Proofs.Ytegcbdfilkecpaa
/- The journal in plain Lean: a head sealed again keeps what it says, and the body. -/
namespace Go.Proofs.Ytegcbdfilkecpaa

theorem made_len_ge {k : List Int} {c : Cg} {ch : Int} {B : Nat} (hB : B ≤ k.length) (hc : c.sec < 0 → B ≤ c.n.toNat) : B ≤ (Pl.made k c ch).length := by
  unfold Pl.made
  split
  · exact hB
  · split
    · rename_i h
      rw [sizedF_len]
      exact hc h
    · unfold Pl.put
      simp only [List.length_append, List.length_take, List.length_drop]
      omega
theorem hs_made {J : List Int} {w : W4} {c : Cg} (hc : JnC w c) (ch : Int) (h : HS J w) : HS (Pl.made J c ch) w := by
  rcases hd_made hc ch (.inr h) with ⟨e, _⟩ | q
  · have := made_len_ge (ch := ch) (c := c) (hs_len h) (fun q => by have := hc.1 q; omega)
    rw [e] at this
    exact absurd this (by simp)
  · exact q
theorem head_sizedF (J : List Int) (w : W4) : sizedF ((wrL J 0 (sealB w)).drop 0) 64 = sealB w := by
  obtain ⟨t, ht⟩ := wr_head J w
  have hs := seal_len w
  rw [ht, List.drop_zero]
  unfold sizedF
  rw [if_pos (by rw [List.length_append]; omega), List.take_left' hs]
end Go.Proofs.Ytegcbdfilkecpaa
/- The journal in plain Lean: recovery as a whole, on a disk that may fall. -/
namespace Go.Proofs.Ytegcbdfilkecpaa

theorem Fix.trans {P : Nat → Prop} {o D E : List Int} (h1 : Fix P o D) (h2 : Fix P D E) : Fix P o E := fun i hp hi => (h2 i hp (h1.lt hp hi)).trans (h1 i hp hi)
theorem Fix.refl (P : Nat → Prop) (o : List Int) : Fix P o o := fun _ _ _ => rfl
def body : Nat → Prop := fun i => 64 ≤ i
theorem body_wr (J : List Int) (w : W4) : Fix body J (wrL J 0 (sealB w)) := fix_wrL (fun i hi _ => .inr (by have := seal_len w; have : 64 ≤ i := hi; omega)) (Fix.refl _ _)
end Go.Proofs.Ytegcbdfilkecpaa
/- The journal in plain Lean: old pages put home bring the old database back. -/
namespace Go.Proofs.Ytegcbdfilkecpaa

theorem seenW_fix {o : List Int} : ∀ (l : List Pg) {z : List Int} {P : Nat → Prop}, (∀ x ∈ l, 1 ≤ x.n ∧ x.n ≤ 15 ∧ x.b.length = 256) → (∀ x ∈ l, ∀ j, j < 256 → x.b[j]? = o[((x.n - 1) * 256).toNat + j]?) → Fix P o z →
    Fix (fun i => P i ∨ ∃ x ∈ l, x.n = ((i / 256 : Nat) : Int) + 1) o (seenW z (homeW l))
  | [], z, P, _, _, h => fun i hp hi => by
    rcases hp with q | ⟨x, hx, _⟩
    · exact h i q hi
    · cases hx
  | x :: r, z, P, hl, hb, h => by
    obtain ⟨h1, h2, h3⟩ := hl x (List.mem_cons_self ..)
    have hbx := hb x (List.mem_cons_self ..)
    have hs : Fix (fun i => P i ∨ x.n = ((i / 256 : Nat) : Int) + 1) o (wrL z ((x.n - 1) * 256).toNat x.b) := fun i hp hi => by
      by_cases c : ((x.n - 1) * 256).toNat ≤ i ∧ i < ((x.n - 1) * 256).toNat + x.b.length
      · rw [get_wrL (.inr c), if_pos c, hbx _ (by omega), show ((x.n - 1) * 256).toNat + (i - ((x.n - 1) * 256).toNat) = i by omega]
      · rcases hp with q | q
        · rw [get_wrL (.inl (h.lt q hi)), if_neg c]
          exact h i q hi
        · exact absurd ⟨by omega, by omega⟩ c
    have ih := seenW_fix r (fun y hy => hl y (List.mem_cons_of_mem _ hy)) (fun y hy => hb y (List.mem_cons_of_mem _ hy)) hs
    intro i hp hi
    refine ih i ?_ hi
    rcases hp with q | ⟨y, hy, e⟩
    · exact .inl (.inl q)
    · rcases List.mem_cons.1 hy with z | z
      · exact .inl (.inr (by rw [← z]; exact e))
      · exact .inr ⟨y, z, e⟩
/-- the database behind recovery is the old one -/
theorem final_old {o z : List Int} {l : List Pg} {s : Nat} (ho : o.length = s * 256) (hl : ∀ x ∈ l, 1 ≤ x.n ∧ x.n ≤ 15 ∧ x.b.length = 256) (hb : ∀ x ∈ l, ∀ j, j < 256 → x.b[j]? = o[((x.n - 1) * 256).toNat + j]?) (h : Fix (Prot l s) o z) :
    sizedF (seenW z (homeW l)) (s * 256) = o := by
  have hf := seenW_fix l hl hb h
  have hall : ∀ i, i < o.length → (seenW z (homeW l))[i]? = o[i]? := fun i hi => hf i (by
    by_cases q : ∃ x ∈ l, x.n = ((i / 256 : Nat) : Int) + 1
    · exact .inr q
    · exact .inl ⟨by omega, fun x hx e => q ⟨x, hx, e⟩⟩) hi
  refine List.ext_getElem? (fun i => ?_)
  by_cases hi : i < o.length
  · have h1 := hall i hi
    have h2 : i < (seenW z (homeW l)).length := by
      rw [List.getElem?_eq_getElem hi] at h1
      exact (List.getElem?_eq_some_iff.1 h1).1
    rw [get_sized h2 (by omega)]
    exact h1
  · rw [List.getElem?_eq_none (by rw [sizedF_len]; omega), List.getElem?_eq_none (by omega)]
end Go.Proofs.Ytegcbdfilkecpaa
/- The log in plain Lean on a disk that may crash: printed by gen_wlat.py out of the journal's texts; no condition. -/
namespace Go.Proofs.Ytegcbdfilkecpaa
open Go

theorem nm_new : nmDb ≠ nmWal := by decide
theorem two_updw {f : ByteArray → List Int} {s : ByteArray} (hs : s = nmDb ∨ s = nmWal) (l : List Int) {m : Int} (h : m = (f nmDb).length + (f nmWal).length) : m - (f s).length + l.length = ((upd f s l nmDb).length : Int) + (upd f s l nmWal).length := by
  rcases hs with rfl | rfl
  · rw [upd_same, upd_other f l nm_new.symm]
    omega
  · rw [upd_same, upd_other f l nm_new]
    omega
/-- how long a file may grow -/
def capOfw (s : ByteArray) : Nat := if s = nmDb then 4000 else 60000
/-- a disk that is up, with the two files alone, small -/
structure Lvw (p : Pl) : Prop where
  up : p.down = false
  cr : 0 ≤ p.crash
  room : p.room = 200000
  two : p.sum = (p.seen nmDb).length + (p.seen nmWal).length
  ktwo : p.ksum = (p.kept nmDb).length + (p.kept nmWal).length
  len : ∀ s, (p.seen s).length ≤ capOfw s
  klen : ∀ s, (p.kept s).length ≤ capOfw s
theorem cap_lew (s : ByteArray) : capOfw s ≤ 60000 := by unfold capOfw; split <;> omega
theorem fits_lvw {p : Pl} (h : Lvw p) (s : ByteArray) (n : Nat) (hn : n ≤ 60000) : p.fits s n = 0 := by
  unfold Pl.fits
  have h1 := h.len nmDb
  have h2 := h.len nmWal
  have := cap_lew nmDb
  have := cap_lew nmWal
  rw [if_neg (by omega), if_neg ?_]
  rintro ⟨q1, q2⟩
  have e : wrp ((n : Int) - (p.seen s).length + p.sum) = (n : Int) - (p.seen s).length + p.sum := by
    rw [h.two]
    unfold wrp
    rw [IntKind.wrap_i64]
    omega
  rw [e, h.room, h.two] at q2
  omega
/-- one step behind p: what it leaves -/
structure Stepdw (p q : Pl) (E : Int) (sn : ByteArray → List Int) (pd : List Cg) : Prop where
  e : E = if p.crash = 1 then 7 else 0
  down : q.down = decide (p.crash = 1)
  cr : 0 ≤ q.crash
  room : q.room = p.room
  two : q.sum = (q.seen nmDb).length + (q.seen nmWal).length
  kept : q.kept = p.kept
  ksum : q.ksum = p.ksum
  seen : q.seen = sn
  pd : q.pd = pd
theorem step_ofw {p q : Pl} (hq : q.crash = p.crash) (hc : 0 ≤ p.crash) (hd : q.down = false) (hr : q.room = p.room) (ht : q.sum = (q.seen nmDb).length + (q.seen nmWal).length) (hk : q.kept = p.kept) (hks : q.ksum = p.ksum) : Stepdw p q.step q.stepE q.seen q.pd := by
  refine ⟨?_, ?_, ?_, hr, ht, hk, hks, rfl, rfl⟩
  · unfold Pl.stepE; rw [hq]
  · show (if q.crash = 1 then true else q.down) = _
    rw [hq, hd]
    by_cases c : p.crash = 1 <;> simp [c]
  · show 0 ≤ (if 0 < q.crash then q.crash - 1 else q.crash)
    rw [hq]
    split <;> omega
theorem lv_writew {p : Pl} (h : Lvw p) (s : ByteArray) (hs : s = nmDb ∨ s = nmWal) (a : Nat) (d : List Int) (hd : d ≠ []) (hb : a + d.length ≤ capOfw s) :
    Stepdw p (p.write s a d) (p.writeE s a d) (upd p.seen s (wrL (p.seen s) a d)) (p.pd ++ pendW (p.seen s) s a d) := by
  have hcap := cap_lew s
  have hl := h.len s
  have hf : p.fits s (max ((a : Int) + d.length) (p.seen s).length) = 0 := by
    have := fits_lvw h s (max (a + d.length) (p.seen s).length) (by omega)
    rw [show ((max (a + d.length) (p.seen s).length : Nat) : Int) = max ((a : Int) + d.length) (p.seen s).length by omega] at this
    exact this
  unfold Pl.writeE Pl.write
  rw [h.up]
  simp only [Bool.false_eq_true, if_false, false_or]
  rw [if_neg (show ¬ (a : Int) < 0 by omega), if_neg (show ¬ (1048576 < (a : Int) ∨ 1048576 - (a : Int) < d.length) by omega), if_neg hd, if_neg (show ¬ ((a : Int) < 0 ∨ 1048576 < (a : Int) ∨ 1048576 - (a : Int) < d.length) by omega), if_neg hd, hf]
  simp only [ne_eq, not_true_eq_false, if_false]
  unfold Pl.write1
  rw [Int.toNat_natCast]
  dsimp only
  split
  · rename_i hlt
    have hL : (p.length s (a + d.length)) = ((p.at_.setSeen s (sizedF (p.seen s) (a + d.length))).pend [⟨s, -1, ((a + d.length : Nat) : Int), []⟩]) := by
      unfold Pl.length
      rw [if_neg (by omega)]
    rw [hL]
    have hse : ((p.at_.setSeen s (sizedF (p.seen s) (a + d.length))).pend [⟨s, -1, ((a + d.length : Nat) : Int), []⟩]).seen s = sizedF (p.seen s) (a + d.length) := upd_same _ _ _
    rw [hse]
    have hw : Pl.put (sizedF (p.seen s) (a + d.length)) a d = wrL (p.seen s) a d := by unfold wrL; rw [if_pos hlt]
    rw [hw]
    have hup : upd (upd p.seen s (sizedF (p.seen s) (a + d.length))) s (wrL (p.seen s) a d) = upd p.seen s (wrL (p.seen s) a d) := upd_upd _ _ _ _
    have hst := step_ofw (p := p) (q := ((((p.at_.setSeen s (sizedF (p.seen s) (a + d.length))).pend [⟨s, -1, ((a + d.length : Nat) : Int), []⟩]).at_.setSeen s (wrL (p.seen s) a d)).pend (Pl.sectors s (wrL (p.seen s) a d) a (a + d.length)))) rfl h.cr h.up rfl (by
      show p.sum - ((p.seen s).length : Int) + ((sizedF (p.seen s) (a + d.length)).length : Int) - (((upd p.seen s (sizedF (p.seen s) (a + d.length))) s).length : Int) + ((wrL (p.seen s) a d).length : Int) = ((upd (upd p.seen s (sizedF (p.seen s) (a + d.length))) s (wrL (p.seen s) a d) nmDb).length : Int) + (upd (upd p.seen s (sizedF (p.seen s) (a + d.length))) s (wrL (p.seen s) a d) nmWal).length
      exact two_updw hs (wrL (p.seen s) a d) (two_updw hs (sizedF (p.seen s) (a + d.length)) h.two)) rfl rfl
    have e1 : ((((p.at_.setSeen s (sizedF (p.seen s) (a + d.length))).pend [⟨s, -1, ((a + d.length : Nat) : Int), []⟩]).at_.setSeen s (wrL (p.seen s) a d)).pend (Pl.sectors s (wrL (p.seen s) a d) a (a + d.length))).seen = upd p.seen s (wrL (p.seen s) a d) := hup
    have e2 : ((((p.at_.setSeen s (sizedF (p.seen s) (a + d.length))).pend [⟨s, -1, ((a + d.length : Nat) : Int), []⟩]).at_.setSeen s (wrL (p.seen s) a d)).pend (Pl.sectors s (wrL (p.seen s) a d) a (a + d.length))).pd = p.pd ++ pendW (p.seen s) s a d := by
      unfold pendW
      rw [if_pos hlt]
      show (p.pd ++ [_]) ++ _ = _
      rw [List.append_assoc]
    rw [e1, e2] at hst
    exact hst
  · rename_i hlt
    have hw : Pl.put (p.seen s) a d = wrL (p.seen s) a d := by unfold wrL; rw [if_neg hlt]
    rw [hw]
    have hst := step_ofw (p := p) (q := ((p.at_.setSeen s (wrL (p.seen s) a d)).pend (Pl.sectors s (wrL (p.seen s) a d) a (a + d.length)))) rfl h.cr h.up rfl (by
      show p.sum - ((p.seen s).length : Int) + ((wrL (p.seen s) a d).length : Int) = ((upd p.seen s (wrL (p.seen s) a d) nmDb).length : Int) + (upd p.seen s (wrL (p.seen s) a d) nmWal).length
      exact two_updw hs (wrL (p.seen s) a d) h.two) rfl rfl
    have e2 : ((p.at_.setSeen s (wrL (p.seen s) a d)).pend (Pl.sectors s (wrL (p.seen s) a d) a (a + d.length))).pd = p.pd ++ pendW (p.seen s) s a d := by
      unfold pendW
      rw [if_neg hlt, List.nil_append]
      rfl
    rw [e2] at hst
    exact hst
theorem lv_truncw {p : Pl} (h : Lvw p) (s : ByteArray) (hs : s = nmDb ∨ s = nmWal) (n : Nat) (hn : n ≤ capOfw s) :
    Stepdw p (p.trunc s n) (p.truncE s n) (upd p.seen s (sizedF (p.seen s) n)) (p.pd ++ pendT (p.seen s) s n) := by
  have hf := fits_lvw h s n (by have := cap_lew s; omega)
  unfold Pl.truncE Pl.trunc
  rw [h.up, hf]
  simp only [Bool.false_eq_true, if_false, false_or, ne_eq, not_true_eq_false, or_false]
  rw [if_neg (by omega), if_neg (by omega), Int.toNat_natCast]
  unfold Pl.length pendT
  split
  · rename_i e
    have ht : upd p.seen s (sizedF (p.seen s) n) = p.seen := by rw [e, sizedF_self, upd_self]
    rw [ht, List.append_nil]
    exact step_ofw (p := p) (q := p.at_) rfl h.cr h.up rfl h.two rfl rfl
  · exact step_ofw (p := p) (q := (p.at_.setSeen s (sizedF (p.seen s) n)).pend [⟨s, -1, (n : Int), []⟩]) rfl h.cr h.up rfl (two_updw hs (sizedF (p.seen s) n) h.two) rfl rfl
/-- a sync that is done -/
structure Syncedw (p q : Pl) (s : ByteArray) : Prop where
  down : q.down = false
  cr : 0 ≤ q.crash
  room : q.room = p.room
  two : q.sum = (q.seen nmDb).length + (q.seen nmWal).length
  kept : q.kept = upd p.kept s (p.seen s)
  ktwo : q.ksum = (q.kept nmDb).length + (q.kept nmWal).length
  seen : q.seen = p.seen
  pd : q.pd = p.pd.filter fun c => !decide (c.nm = s)
theorem lv_syncw {p : Pl} (h : Lvw p) (s : ByteArray) (hs : s = nmDb ∨ s = nmWal) :
    (p.crash = 1 ∧ Stepdw p (p.sync s) p.syncE p.seen p.pd) ∨ (p.crash ≠ 1 ∧ p.syncE = 0 ∧ Syncedw p (p.sync s) s) := by
  unfold Pl.syncE Pl.sync
  rw [h.up]
  simp only [Bool.false_eq_true, if_false]
  by_cases c : p.crash = 1
  · left
    have e : p.stepE = 7 := by unfold Pl.stepE; rw [if_pos c]
    rw [if_pos (by rw [e]; decide)]
    exact ⟨c, step_ofw rfl h.cr h.up rfl h.two rfl rfl⟩
  · right
    have e : p.stepE = 0 := by unfold Pl.stepE; rw [if_neg c]
    rw [if_neg (by rw [e]; decide)]
    refine ⟨c, e, ?_, ?_, rfl, h.two, rfl, two_updw hs (p.seen s) h.ktwo, rfl, rfl⟩
    · show (if p.crash = 1 then true else p.down) = false
      rw [if_neg c, h.up]
    · show 0 ≤ (if 0 < p.crash then p.crash - 1 else p.crash)
      have := h.cr
      split <;> omega
/-- the changes are of the two files -/
def TwoNmw (l : List Cg) : Prop := ∀ c ∈ l, c.nm = nmDb ∨ c.nm = nmWal
theorem survive_twow : ∀ (cs : List Cg) (chs : List Int) (p : Pl), TwoNmw cs → p.ksum = (p.kept nmDb).length + (p.kept nmWal).length → (p.survive cs chs).ksum = ((p.survive cs chs).kept nmDb).length + ((p.survive cs chs).kept nmWal).length
  | [], chs, p, _, h => by unfold Pl.survive; exact h
  | c :: cs, [], p, _, h => by unfold Pl.survive; exact h
  | c :: cs, ch :: r, p, hn, h => by
    unfold Pl.survive
    refine survive_twow cs r _ (fun x hx => hn x (List.mem_cons_of_mem _ hx)) ?_
    exact two_updw (hn c (List.mem_cons_self ..)) (Pl.made (p.kept c.nm) c ch) h
/-- a disk started again -/
structure Againw (p q : Pl) : Prop where
  down : q.down = false
  cr : q.crash = 0
  room : q.room = p.room
  kept : q.kept = q.seen
  two : q.sum = (q.seen nmDb).length + (q.seen nmWal).length
  ktwo : q.ksum = (q.kept nmDb).length + (q.kept nmWal).length
  pd : q.pd = []
  out : ∀ s, Out (p.kept s) (p.pd.filter fun c => decide (c.nm = s)) (q.seen s)
theorem restart_againw {p : Pl} (hd : p.down = true) (hn : TwoNmw p.pd) (hk : p.ksum = (p.kept nmDb).length + (p.kept nmWal).length) (chs : List Int) : Againw p (p.restart chs) := by
  unfold Pl.restart
  rw [hd]
  have h2 := survive_twow p.pd chs p hn hk
  exact ⟨rfl, rfl, survive_room p.pd chs p, rfl, h2, h2, rfl, fun s => survive_kept s p.pd chs p⟩
end Go.Proofs.Ytegcbdfilkecpaa
/- The log in plain Lean on a disk that may crash: printed by gen_wlat.py out of the journal's texts; no condition. -/
namespace Go.Proofs.Ytegcbdfilkecpaa
open Go

/-- the changes of a file -/
def chgw (p : Pl) (s : ByteArray) : List Cg := p.pd.filter fun c => decide (c.nm = s)
/-- every outcome of a file -/
def FOw (p : Pl) (s : ByteArray) (R : List Int → Prop) : Prop := ∀ r, Out (p.kept s) (chgw p s) r → R r
/-- what is kept is I, and every change keeps it -/
structure FIw (p : Pl) (s : ByteArray) (I : List Int → Prop) : Prop where
  kept : I (p.kept s)
  made : ∀ c ∈ p.pd, c.nm = s → ∀ k ch, I k → I (Pl.made k c ch)
theorem FIw.fo {p : Pl} {s : ByteArray} {I : List Int → Prop} (h : FIw p s I) : FOw p s I := fun _ ho => out_inv ho h.kept (fun c hc => by
  have := List.mem_filter.1 hc
  exact h.made c this.1 (by simpa using this.2))
theorem FOw.mono {p : Pl} {s : ByteArray} {R R' : List Int → Prop} (h : FOw p s R) (hr : ∀ r, R r → R' r) : FOw p s R' := fun r ho => hr r (h r ho)
/-- a step adds changes -/
theorem FIw.step {p q : Pl} {E : Int} {sn : ByteArray → List Int} {l : List Cg} {s : ByteArray} {I : List Int → Prop} (h : FIw p s I) (hq : Stepdw p q E sn (p.pd ++ l)) (hl : ∀ c ∈ l, c.nm = s → ∀ k ch, I k → I (Pl.made k c ch)) : FIw q s I := by
  refine ⟨by rw [hq.kept]; exact h.kept, fun c hc hn => ?_⟩
  rw [hq.pd] at hc
  rcases List.mem_append.1 hc with z | z
  · exact h.made c z hn
  · exact hl c z hn
theorem FIw.same {p q : Pl} {E : Int} {sn : ByteArray → List Int} {s : ByteArray} {I : List Int → Prop} (h : FIw p s I) (hq : Stepdw p q E sn p.pd) : FIw q s I := by
  refine ⟨by rw [hq.kept]; exact h.kept, fun c hc hn => ?_⟩
  rw [hq.pd] at hc
  exact h.made c hc hn
/-- behind a sync of the other file -/
theorem FIw.other {p q : Pl} {s t : ByteArray} {I : List Int → Prop} (h : FIw p s I) (hq : Syncedw p q t) (hst : s ≠ t) : FIw q s I := by
  refine ⟨by rw [hq.kept, upd_other _ _ hst]; exact h.kept, fun c hc hn => ?_⟩
  rw [hq.pd] at hc
  exact h.made c (List.mem_filter.1 hc).1 hn
/-- behind a sync of the file itself: nothing is pending -/
theorem FIw.synced {p q : Pl} {s : ByteArray} {I : List Int → Prop} (hq : Syncedw p q s) (hi : I (p.seen s)) : FIw q s I := by
  refine ⟨by rw [hq.kept, upd_same]; exact hi, fun c hc hn => ?_⟩
  rw [hq.pd] at hc
  have := (List.mem_filter.1 hc).2
  rw [hn] at this
  simp at this
theorem chg_syncedw {p q : Pl} {s : ByteArray} (hq : Syncedw p q s) : chgw q s = [] ∧ q.kept s = p.seen s := by
  refine ⟨?_, by rw [hq.kept, upd_same]⟩
  unfold chgw
  rw [hq.pd, List.filter_filter]
  refine List.filter_eq_nil_iff.2 (fun c _ => ?_)
  simp
theorem chg_otherw {p q : Pl} {s t : ByteArray} (hq : Syncedw p q t) (hst : s ≠ t) : chgw q s = chgw p s ∧ q.kept s = p.kept s := by
  refine ⟨?_, by rw [hq.kept, upd_other _ _ hst]⟩
  unfold chgw
  rw [hq.pd, List.filter_filter]
  refine List.filter_congr (fun c _ => ?_)
  by_cases e : c.nm = s
  · have : ¬ c.nm = t := fun z => hst (e.symm.trans z)
    simp [e, hst]
  · simp [e]
/-- one head written over a head that is whole and synced: w, or v -/
theorem fo_headw {p q : Pl} {E : Int} {sn : ByteArray → List Int} {w v : W4} (hk : HW (p.kept nmWal) w) (h0 : chgw p nmWal = []) (hs : p.seen nmWal = p.kept nmWal) (hq : Stepdw p q E sn (p.pd ++ pendW (p.seen nmWal) nmWal 0 (sealB v))) {P : Nat → Prop} (hP : ∀ i, P i → 64 ≤ i) :
    FOw q nmWal fun J => (HS J w ∨ HS J v) ∧ Fix P (p.kept nmWal) J ∧ J.length = (p.kept nmWal).length := by
  intro r ho
  have hlen := hs_len (hw_hs hk)
  have hsl := seal_len v
  have hc : chgw q nmWal = [⟨nmWal, 0, 0, sizedF (wrL (p.kept nmWal) 0 (sealB v)) 64⟩] := by
    unfold chgw
    rw [hq.pd, List.filter_append]
    have e1 : p.pd.filter (fun c => decide (c.nm = nmWal)) = [] := h0
    rw [e1, List.nil_append, hs]
    unfold pendW
    rw [if_neg (by omega), List.nil_append, hsl]
    unfold Pl.sectors
    rw [show (0 + 64 + 63) / 64 - 0 / 64 = 1 from rfl]
    simp
  have hse : sizedF (wrL (p.kept nmWal) 0 (sealB v)) 64 = sealB v := by
    unfold wrL
    rw [if_neg (by omega)]
    unfold sizedF Pl.put
    rw [if_pos (by simp only [List.length_append, List.length_take, List.length_drop]; omega), List.take_zero, List.nil_append, List.take_left' hsl]
  rw [hc, hse, hq.kept] at ho
  cases ho with
  | cons ch h2 =>
    cases h2
    rcases made_head nmWal v ch hlen with e | ⟨n, hn, e⟩
    · rw [e]
      exact ⟨.inl (hw_hs hk), fun i _ _ => rfl, rfl⟩
    · rw [e]
      have hd : ((sealB v).take n).length = n := by rw [List.length_take, hsl]; omega
      refine ⟨hs_other hk v n hn, fun i hp hi => ?_, ?_⟩
      · rw [get_put (by rw [hd]; omega), if_neg (by have := hP i hp; rw [hd]; omega)]
      · unfold Pl.put
        simp only [List.length_append, List.length_take, List.length_drop, hsl]
        omega
/-- up, and small whatever becomes of it -/
structure Prew (p : Pl) : Prop where
  lv : Lvw p
  nm : TwoNmw p.pd
  dl : FIw p nmDb fun D => D.length ≤ capOfw nmDb
  jl : FIw p nmWal fun J => J.length ≤ capOfw nmWal
/-- fallen, and small whatever becomes of it -/
structure Fellw (p : Pl) : Prop where
  down : p.down = true
  room : p.room = 200000
  ktwo : p.ksum = (p.kept nmDb).length + (p.kept nmWal).length
  klen : ∀ s, (p.kept s).length ≤ capOfw s
  nm : TwoNmw p.pd
  dl : FIw p nmDb fun D => D.length ≤ capOfw nmDb
  jl : FIw p nmWal fun J => J.length ≤ capOfw nmWal
theorem fi_capw {p q : Pl} {E : Int} {sn : ByteArray → List Int} {l : List Cg} {s : ByteArray} (h : FIw p s fun D => D.length ≤ capOfw s) (hq : Stepdw p q E sn (p.pd ++ l)) (hl : ∀ c ∈ l, c.sec < 0 → c.n.toNat ≤ capOfw c.nm) : FIw q s fun D => D.length ≤ capOfw s :=
  h.step hq (fun c hc hn k ch hk => made_len_le hk (fun q => by have := hl c hc q; rwa [hn] at this))
theorem capOf_otherw {s : ByteArray} (h : s ≠ nmDb) : capOfw s = 60000 := by unfold capOfw; rw [if_neg h]
theorem pre_stepw {p q : Pl} {E : Int} {s : ByteArray} {l : List Int} {cs : List Cg} (h : Prew p) (hs : s = nmDb ∨ s = nmWal) (hq : Stepdw p q E (upd p.seen s l) (p.pd ++ cs)) (hl : l.length ≤ capOfw s) (hc : ∀ c ∈ cs, c.nm = s ∧ (c.sec < 0 → c.n.toNat ≤ capOfw s)) :
    (E = 7 ∧ Fellw q) ∨ (E = 0 ∧ Prew q) := by
  have hnm : TwoNmw q.pd := fun c hc2 => by
    rw [hq.pd] at hc2
    rcases List.mem_append.1 hc2 with z | z
    · exact h.nm c z
    · rw [(hc c z).1]; exact hs
  have hcap : ∀ c ∈ cs, c.sec < 0 → c.n.toNat ≤ capOfw c.nm := fun c h1 h2 => by rw [(hc c h1).1]; exact (hc c h1).2 h2
  have hdl := fi_capw h.dl hq hcap
  have hjl := fi_capw h.jl hq hcap
  by_cases c : p.crash = 1
  · left
    refine ⟨by rw [hq.e, if_pos c], by rw [hq.down]; simpa using c, by rw [hq.room]; exact h.lv.room, by rw [hq.ksum, hq.kept]; exact h.lv.ktwo, fun t => by rw [hq.kept]; exact h.lv.klen t, hnm, hdl, hjl⟩
  · right
    refine ⟨by rw [hq.e, if_neg c], ⟨by rw [hq.down]; simpa using c, hq.cr, by rw [hq.room]; exact h.lv.room, hq.two, by rw [hq.ksum, hq.kept]; exact h.lv.ktwo, fun t => ?_, fun t => by rw [hq.kept]; exact h.lv.klen t⟩, hnm, hdl, hjl⟩
    rw [hq.seen]
    by_cases e : t = s
    · rw [e, upd_same]; exact hl
    · rw [upd_other _ _ e]; exact h.lv.len t
theorem pre_writew {p : Pl} (h : Prew p) (s : ByteArray) (hs : s = nmDb ∨ s = nmWal) (a : Nat) (d : List Int) (hd : d ≠ []) (hb : a + d.length ≤ capOfw s) :
    (p.writeE s a d = 7 ∧ Fellw (p.write s a d)) ∨ (p.writeE s a d = 0 ∧ Prew (p.write s a d)) :=
  pre_stepw h hs (lv_writew h.lv s hs a d hd hb) (by rw [wrL_len]; have := h.lv.len s; omega) (fun c hc => ⟨(pendW_mem hc).1, fun q => by
    rcases (pendW_mem hc).2 with ⟨_, _, e⟩ | ⟨z, _⟩
    · rw [e]; omega
    · omega⟩)
theorem pre_truncw {p : Pl} (h : Prew p) (s : ByteArray) (hs : s = nmDb ∨ s = nmWal) (n : Nat) (hn : n ≤ capOfw s) :
    (p.truncE s n = 7 ∧ Fellw (p.trunc s n)) ∨ (p.truncE s n = 0 ∧ Prew (p.trunc s n)) :=
  pre_stepw h hs (lv_truncw h.lv s hs n hn) (by rw [sizedF_len]; exact hn) (fun c hc => ⟨(pendT_mem hc).1, fun _ => by rw [(pendT_mem hc).2.2]; omega⟩)
theorem pre_syncw {p : Pl} (h : Prew p) (s : ByteArray) (hs : s = nmDb ∨ s = nmWal) :
    (p.syncE = 7 ∧ Fellw (p.sync s) ∧ Stepdw p (p.sync s) p.syncE p.seen p.pd) ∨ (p.syncE = 0 ∧ Prew (p.sync s) ∧ Syncedw p (p.sync s) s) := by
  rcases lv_syncw h.lv s hs with ⟨c, hq⟩ | ⟨c, e, hq⟩
  · left
    exact ⟨by rw [hq.e, if_pos c], ⟨by rw [hq.down]; simpa using c, by rw [hq.room]; exact h.lv.room, by rw [hq.ksum, hq.kept]; exact h.lv.ktwo, fun t => by rw [hq.kept]; exact h.lv.klen t, by rw [hq.pd]; exact h.nm, h.dl.same hq, h.jl.same hq⟩, hq⟩
  · right
    refine ⟨e, ⟨⟨hq.down, hq.cr, by rw [hq.room]; exact h.lv.room, hq.two, hq.ktwo, fun t => by rw [hq.seen]; exact h.lv.len t, fun t => ?_⟩, fun c hc => h.nm c (by rw [hq.pd] at hc; exact (List.mem_filter.1 hc).1), ?_, ?_⟩, hq⟩
    · rw [hq.kept]
      by_cases z : t = s
      · rw [z, upd_same]; exact h.lv.len s
      · rw [upd_other _ _ z]; exact h.lv.klen t
    · by_cases z : nmDb = s
      · subst z; exact FIw.synced hq (h.lv.len _)
      · exact h.dl.other hq z
    · by_cases z : nmWal = s
      · subst z; exact FIw.synced hq (h.lv.len _)
      · exact h.jl.other hq z
/-- started again -/
theorem pre_againw {p q : Pl} (h : Fellw p) (hq : Againw p q) : Prew q := by
  have hd : (q.seen nmDb).length ≤ capOfw nmDb := h.dl.fo _ (hq.out nmDb)
  have hj : (q.seen nmWal).length ≤ capOfw nmWal := h.jl.fo _ (hq.out nmWal)
  have hall : ∀ s, (q.seen s).length ≤ capOfw s := fun s => by
    by_cases e1 : s = nmDb
    · rw [e1]; exact hd
    · by_cases e2 : s = nmWal
      · rw [e2]; exact hj
      · have ho := hq.out s
        have hn : (p.pd.filter fun c => decide (c.nm = s)) = [] := List.filter_eq_nil_iff.2 (fun c hc => by
          rcases h.nm c hc with z | z
          · rw [z]; simpa using fun y : nmDb = s => e1 y.symm
          · rw [z]; simpa using fun y : nmWal = s => e2 y.symm)
        rw [hn] at ho
        rw [out_nil ho]
        exact h.klen s
  have hk : ∀ s, (q.kept s).length ≤ capOfw s := fun s => by rw [hq.kept]; exact hall s
  refine ⟨⟨hq.down, by rw [hq.cr]; exact Int.le_refl 0, by rw [hq.room]; exact h.room, hq.two, hq.ktwo, hall, hk⟩, ?_, ⟨hk _, ?_⟩, ⟨hk _, ?_⟩⟩
  · intro c hc
    rw [hq.pd] at hc
    cases hc
  · intro c hc
    rw [hq.pd] at hc
    cases hc
  · intro c hc
    rw [hq.pd] at hc
    cases hc
end Go.Proofs.Ytegcbdfilkecpaa
/- The log in plain Lean on a disk that may crash: printed by gen_wlat.py out of the journal's texts; no condition. -/
namespace Go.Proofs.Ytegcbdfilkecpaa
open Go

theorem pendW_nmw {l d : List Int} {s t : ByteArray} {a : Nat} (h : t ≠ s) {I : List Int → Prop} : ∀ c ∈ pendW l s a d, c.nm = t → ∀ k ch, I k → I (Pl.made k c ch) := fun c hc hn => absurd (hn.symm.trans (pendW_mem hc).1) h
theorem pendT_nmw {l : List Int} {s t : ByteArray} {n : Nat} (h : t ≠ s) {I : List Int → Prop} : ∀ c ∈ pendT l s n, c.nm = t → ∀ k ch, I k → I (Pl.made k c ch) := fun c hc hn => absurd (hn.symm.trans (pendT_mem hc).1) h
theorem seal_capw (w : W4) : 0 + (sealB w).length ≤ capOfw nmWal := by rw [seal_len, capOf_otherw nm_new.symm]; omega
/-- a head sealed: fallen on the way with what every part of it keeps, or done and synced -/
theorem run_headw {p : Pl} (h : Prew p) (w : W4) (I Id : List Int → Prop) (hj : FIw p nmWal I) (hd : FIw p nmDb Id) (hI : ∀ c ∈ pendW (p.seen nmWal) nmWal 0 (sealB w), ∀ k ch, I k → I (Pl.made k c ch)) :
    ((p.runS (headS nmWal w)).2 = 7 ∧ Fellw (p.runS (headS nmWal w)).1 ∧ FIw (p.runS (headS nmWal w)).1 nmWal I ∧ FIw (p.runS (headS nmWal w)).1 nmDb Id) ∨
    ((p.runS (headS nmWal w)).2 = 0 ∧ Prew (p.runS (headS nmWal w)).1 ∧ (p.runS (headS nmWal w)).1.seen = upd p.seen nmWal (wrL (p.seen nmWal) 0 (sealB w)) ∧ chgw (p.runS (headS nmWal w)).1 nmWal = [] ∧ (p.runS (headS nmWal w)).1.kept nmWal = wrL (p.seen nmWal) 0 (sealB w) ∧ FIw (p.runS (headS nmWal w)).1 nmDb Id) := by
  have hst := lv_writew h.lv nmWal (.inr rfl) 0 (sealB w) (seal_neA w) (seal_capw w)
  have hj1 := hj.step hst (fun c hc _ => hI c hc)
  have hd1 := hd.step hst (pendW_nmw nm_new)
  have e1 : ∀ q : Pl, q.stE ⟨0, nmWal, 0, sealB w⟩ = q.writeE nmWal 0 (sealB w) := fun q => rfl
  have e2 : ∀ q : Pl, q.stP ⟨0, nmWal, 0, sealB w⟩ = q.write nmWal 0 (sealB w) := fun q => rfl
  have e3 : ∀ q : Pl, q.stE ⟨2, nmWal, 0, []⟩ = q.syncE := fun q => rfl
  have e4 : ∀ q : Pl, q.stP ⟨2, nmWal, 0, []⟩ = q.sync nmWal := fun q => rfl
  unfold headS
  rw [runS_cons, e1, e2]
  rcases pre_writew h nmWal (.inr rfl) 0 (sealB w) (seal_neA w) (seal_capw w) with ⟨e, hf⟩ | ⟨e, hp⟩
  · have e' : p.writeE nmWal 0 (sealB w) = 7 := e
    rw [e', if_neg (by decide)]
    exact .inl ⟨rfl, hf, hj1, hd1⟩
  · have e' : p.writeE nmWal 0 (sealB w) = 0 := e
    rw [e', if_pos rfl, runS_cons, e3, e4]
    have hse : (p.write nmWal 0 (sealB w)).seen = upd p.seen nmWal (wrL (p.seen nmWal) 0 (sealB w)) := hst.seen
    rcases pre_syncw hp nmWal (.inr rfl) with ⟨es, hf, hs2⟩ | ⟨es, hp2, hs2⟩
    · have es' : (p.write nmWal 0 (sealB w)).syncE = 7 := es
      rw [es', if_neg (by decide)]
      exact .inl ⟨rfl, hf, hj1.same hs2, hd1.same hs2⟩
    · have es' : (p.write nmWal 0 (sealB w)).syncE = 0 := es
      rw [es', if_pos rfl, runS_nil]
      obtain ⟨c1, c2⟩ := chg_syncedw hs2
      have hj2 : (p.write nmWal 0 (sealB w)).seen nmWal = wrL (p.seen nmWal) 0 (sealB w) := by rw [hse, upd_same]
      exact .inr ⟨rfl, hp2, hs2.seen.trans hse, c1, c2.trans hj2, hd1.other hs2 nm_new⟩
theorem FOw.same {p q : Pl} {E : Int} {sn : ByteArray → List Int} {s : ByteArray} {R : List Int → Prop} (h : FOw p s R) (hq : Stepdw p q E sn p.pd) : FOw q s R := fun r ho => h r (by
  unfold chgw at ho ⊢
  rwa [hq.pd, hq.kept] at ho)
/-- another head sealed over one that is whole and synced: fallen, it is one or the other -/
theorem run_head2w {p : Pl} (h : Prew p) (w v : W4) (Id : List Int → Prop) (hk : HW (p.kept nmWal) w) (h0 : chgw p nmWal = []) (hs : p.seen nmWal = p.kept nmWal) (hd : FIw p nmDb Id) {P : Nat → Prop} (hP : ∀ i, P i → 64 ≤ i) :
    ((p.runS (headS nmWal v)).2 = 7 ∧ Fellw (p.runS (headS nmWal v)).1 ∧ FOw (p.runS (headS nmWal v)).1 nmWal (fun J => (HS J w ∨ HS J v) ∧ Fix P (p.kept nmWal) J ∧ J.length = (p.kept nmWal).length) ∧ FIw (p.runS (headS nmWal v)).1 nmDb Id) ∨
    ((p.runS (headS nmWal v)).2 = 0 ∧ Prew (p.runS (headS nmWal v)).1 ∧ (p.runS (headS nmWal v)).1.seen = upd p.seen nmWal (wrL (p.seen nmWal) 0 (sealB v)) ∧ chgw (p.runS (headS nmWal v)).1 nmWal = [] ∧ (p.runS (headS nmWal v)).1.kept nmWal = wrL (p.seen nmWal) 0 (sealB v) ∧ FIw (p.runS (headS nmWal v)).1 nmDb Id) := by
  have hst := lv_writew h.lv nmWal (.inr rfl) 0 (sealB v) (seal_neA v) (seal_capw v)
  have hf1 := fo_headw hk h0 hs hst hP
  have hd1 := hd.step hst (pendW_nmw nm_new)
  have e1 : ∀ q : Pl, q.stE ⟨0, nmWal, 0, sealB v⟩ = q.writeE nmWal 0 (sealB v) := fun q => rfl
  have e2 : ∀ q : Pl, q.stP ⟨0, nmWal, 0, sealB v⟩ = q.write nmWal 0 (sealB v) := fun q => rfl
  have e3 : ∀ q : Pl, q.stE ⟨2, nmWal, 0, []⟩ = q.syncE := fun q => rfl
  have e4 : ∀ q : Pl, q.stP ⟨2, nmWal, 0, []⟩ = q.sync nmWal := fun q => rfl
  unfold headS
  rw [runS_cons, e1, e2]
  rcases pre_writew h nmWal (.inr rfl) 0 (sealB v) (seal_neA v) (seal_capw v) with ⟨e, hf⟩ | ⟨e, hp⟩
  · have e' : p.writeE nmWal 0 (sealB v) = 7 := e
    rw [e', if_neg (by decide)]
    exact .inl ⟨rfl, hf, hf1, hd1⟩
  · have e' : p.writeE nmWal 0 (sealB v) = 0 := e
    rw [e', if_pos rfl, runS_cons, e3, e4]
    have hse : (p.write nmWal 0 (sealB v)).seen = upd p.seen nmWal (wrL (p.seen nmWal) 0 (sealB v)) := hst.seen
    rcases pre_syncw hp nmWal (.inr rfl) with ⟨es, hf, hs2⟩ | ⟨es, hp2, hs2⟩
    · have es' : (p.write nmWal 0 (sealB v)).syncE = 7 := es
      rw [es', if_neg (by decide)]
      exact .inl ⟨rfl, hf, hf1.same hs2, hd1.same hs2⟩
    · have es' : (p.write nmWal 0 (sealB v)).syncE = 0 := es
      rw [es', if_pos rfl, runS_nil]
      obtain ⟨c1, c2⟩ := chg_syncedw hs2
      have hj2 : (p.write nmWal 0 (sealB v)).seen nmWal = wrL (p.seen nmWal) 0 (sealB v) := by rw [hse, upd_same]
      exact .inr ⟨rfl, hp2, hs2.seen.trans hse, c1, c2.trans hj2, hd1.other hs2 nm_new⟩
/-- a write that may be made: into s, inside of its bounds -/
structure WrOkw (s : ByteArray) (x : Stp) : Prop where
  k : x.k = 0
  nm : x.nm = s
  at_ : 0 ≤ x.at_
  ne : x.d ≠ []
  cap : x.at_.toNat + x.d.length ≤ capOfw s
/-- a row of writes: fallen on the way, or all seen; what each write's changes keep, is kept -/
theorem run_writesw (s t : ByteArray) (hs : s = nmDb ∨ s = nmWal) (hst : t ≠ s) (I It G : List Int → Prop) : ∀ (l : List Stp) {p : Pl}, Prew p → (∀ x ∈ l, WrOkw s x) → FIw p s I → FIw p t It → G (p.seen s) →
    (∀ x ∈ l, ∀ z, G z → G (wrL z x.at_.toNat x.d) ∧ ∀ c ∈ pendW z s x.at_.toNat x.d, ∀ k ch, I k → I (Pl.made k c ch)) →
    ((p.runS l).2 = 7 ∧ Fellw (p.runS l).1 ∧ FIw (p.runS l).1 s I ∧ FIw (p.runS l).1 t It) ∨
    ((p.runS l).2 = 0 ∧ Prew (p.runS l).1 ∧ FIw (p.runS l).1 s I ∧ FIw (p.runS l).1 t It ∧ G ((p.runS l).1.seen s) ∧ (p.runS l).1.seen = upd p.seen s (seenW (p.seen s) l) ∧ (chgw p t = [] → chgw (p.runS l).1 t = []) ∧ (p.runS l).1.kept = p.kept)
  | [], p, h, _, hi, ht, hg, _ => .inr ⟨rfl, h, hi, ht, hg, by rw [runS_nil]; exact (upd_self _ _).symm, fun e => e, rfl⟩
  | x :: r, p, h, hw, hi, ht, hg, hc => by
    obtain ⟨k0, nm0, a0, d0⟩ := x
    have hx := hw _ (List.mem_cons_self ..)
    have hk : k0 = 0 := hx.k
    have hn : nm0 = s := hx.nm
    subst hk
    subst hn
    obtain ⟨a, rfl⟩ := Int.eq_ofNat_of_zero_le (show 0 ≤ a0 from hx.at_)
    have hne : d0 ≠ [] := hx.ne
    have hcap : a + d0.length ≤ capOfw nm0 := hx.cap
    have hcx := hc _ (List.mem_cons_self ..) (p.seen nm0) hg
    have hg1 : G (wrL (p.seen nm0) a d0) := hcx.1
    have hc1 : ∀ c ∈ pendW (p.seen nm0) nm0 a d0, ∀ k ch, I k → I (Pl.made k c ch) := hcx.2
    have hstp := lv_writew h.lv nm0 hs a d0 hne hcap
    have hi1 := hi.step hstp (fun c hc _ => hc1 c hc)
    have ht1 := ht.step hstp (pendW_nmw hst)
    have e1 : ∀ q : Pl, q.stE ⟨0, nm0, (a : Int), d0⟩ = q.writeE nm0 a d0 := fun q => rfl
    have e2 : ∀ q : Pl, q.stP ⟨0, nm0, (a : Int), d0⟩ = q.write nm0 a d0 := fun q => rfl
    show ((p.runS (⟨0, nm0, (a : Int), d0⟩ :: r)).2 = 7 ∧ _) ∨ _
    rw [runS_cons, e1, e2]
    rcases pre_writew h nm0 hs a d0 hne hcap with ⟨e, hf⟩ | ⟨e, hp⟩
    · rw [e, if_neg (by decide)]
      exact .inl ⟨rfl, hf, hi1, ht1⟩
    · rw [e, if_pos rfl]
      have hse : (p.write nm0 a d0).seen nm0 = wrL (p.seen nm0) a d0 := by rw [hstp.seen, upd_same]
      have ih := run_writesw nm0 t hs hst I It G r hp (fun y hy => hw y (List.mem_cons_of_mem _ hy)) hi1 ht1 (by rw [hse]; exact hg1) (fun y hy => hc y (List.mem_cons_of_mem _ hy))
      rcases ih with z | ⟨z0, z1, z2, z3, z4, z5, z6, z7⟩
      · exact .inl z
      · refine .inr ⟨z0, z1, z2, z3, z4, ?_, fun e => z6 ?_, z7.trans hstp.kept⟩
        · rw [z5, hse, hstp.seen, upd_upd]
          rfl
        · unfold chgw at e ⊢
          rw [hstp.pd, List.filter_append, e, List.nil_append]
          refine List.filter_eq_nil_iff.2 (fun c hc => ?_)
          rw [(pendW_mem hc).1]
          simpa using fun q : nm0 = t => hst q.symm
/-- the database cut and synced -/
theorem run_tsw {p : Pl} (h : Prew p) (n : Nat) (hn : n ≤ capOfw nmDb) (I It : List Int → Prop) (hi : FIw p nmDb I) (ht : FIw p nmWal It) (hc : ∀ c ∈ pendT (p.seen nmDb) nmDb n, ∀ k ch, I k → I (Pl.made k c ch)) :
    ((p.runS [⟨1, nmDb, (n : Int), []⟩, ⟨2, nmDb, 0, []⟩]).2 = 7 ∧ Fellw (p.runS [⟨1, nmDb, (n : Int), []⟩, ⟨2, nmDb, 0, []⟩]).1 ∧ FIw (p.runS [⟨1, nmDb, (n : Int), []⟩, ⟨2, nmDb, 0, []⟩]).1 nmDb I ∧ FIw (p.runS [⟨1, nmDb, (n : Int), []⟩, ⟨2, nmDb, 0, []⟩]).1 nmWal It) ∨
    ((p.runS [⟨1, nmDb, (n : Int), []⟩, ⟨2, nmDb, 0, []⟩]).2 = 0 ∧ Prew (p.runS [⟨1, nmDb, (n : Int), []⟩, ⟨2, nmDb, 0, []⟩]).1 ∧ (p.runS [⟨1, nmDb, (n : Int), []⟩, ⟨2, nmDb, 0, []⟩]).1.seen = upd p.seen nmDb (sizedF (p.seen nmDb) n) ∧ chgw (p.runS [⟨1, nmDb, (n : Int), []⟩, ⟨2, nmDb, 0, []⟩]).1 nmDb = [] ∧
      (p.runS [⟨1, nmDb, (n : Int), []⟩, ⟨2, nmDb, 0, []⟩]).1.kept nmDb = sizedF (p.seen nmDb) n ∧ FIw (p.runS [⟨1, nmDb, (n : Int), []⟩, ⟨2, nmDb, 0, []⟩]).1 nmWal It ∧ (chgw p nmWal = [] → chgw (p.runS [⟨1, nmDb, (n : Int), []⟩, ⟨2, nmDb, 0, []⟩]).1 nmWal = []) ∧ (p.runS [⟨1, nmDb, (n : Int), []⟩, ⟨2, nmDb, 0, []⟩]).1.kept nmWal = p.kept nmWal) := by
  have hst := lv_truncw h.lv nmDb (.inl rfl) n hn
  have hi1 := hi.step hst (fun c hc2 _ => hc c hc2)
  have ht1 := ht.step hst (pendT_nmw nm_new.symm)
  have e1 : ∀ q : Pl, q.stE ⟨1, nmDb, (n : Int), []⟩ = q.truncE nmDb n := fun q => rfl
  have e2 : ∀ q : Pl, q.stP ⟨1, nmDb, (n : Int), []⟩ = q.trunc nmDb n := fun q => rfl
  have e3 : ∀ q : Pl, q.stE ⟨2, nmDb, 0, []⟩ = q.syncE := fun q => rfl
  have e4 : ∀ q : Pl, q.stP ⟨2, nmDb, 0, []⟩ = q.sync nmDb := fun q => rfl
  rw [runS_cons, e1, e2]
  rcases pre_truncw h nmDb (.inl rfl) n hn with ⟨e, hf⟩ | ⟨e, hp⟩
  · rw [e, if_neg (by decide)]
    exact .inl ⟨rfl, hf, hi1, ht1⟩
  · rw [e, if_pos rfl, runS_cons, e3, e4]
    have hse : (p.trunc nmDb n).seen nmDb = sizedF (p.seen nmDb) n := by rw [hst.seen, upd_same]
    rcases pre_syncw hp nmDb (.inl rfl) with ⟨es, hf, hs2⟩ | ⟨es, hp2, hs2⟩
    · rw [es, if_neg (by decide)]
      exact .inl ⟨rfl, hf, hi1.same hs2, ht1.same hs2⟩
    · rw [es, if_pos rfl, runS_nil]
      obtain ⟨c1, c2⟩ := chg_syncedw hs2
      obtain ⟨o1, o2⟩ := chg_otherw hs2 nm_new.symm
      refine .inr ⟨rfl, hp2, hs2.seen.trans hst.seen, c1, c2.trans hse, ht1.other hs2 nm_new.symm, fun e => ?_, o2.trans (by rw [hst.kept])⟩
      rw [o1]
      unfold chgw at e ⊢
      rw [hst.pd, List.filter_append, e, List.nil_append]
      refine List.filter_eq_nil_iff.2 (fun c hc2 => ?_)
      rw [(pendT_mem hc2).1]
      decide
end Go.Proofs.Ytegcbdfilkecpaa
/- The journal in plain Lean on a disk that does not crash: a commit is done whole or not at all; condition: at most 2000 pages. -/
namespace Go.Proofs.Ytegcbdfilkecpaa
open Go

/-- what pages are behind a list of changed ones -/
def pgsF : (Nat → List Int) → List Pg → Nat → List Int
  | f, [] => f
  | f, x :: r => pgsF (fun n => if (n : Int) = x.n then x.b else f n) r
theorem pgsF_congr : ∀ (l : List Pg) (f g : Nat → List Int) (n : Nat), f n = g n → pgsF f l n = pgsF g l n
  | [], _, _, _, h => h
  | x :: r, f, g, n, h => pgsF_congr r _ _ n (by
    show (if (n : Int) = x.n then x.b else f n) = (if (n : Int) = x.n then x.b else g n)
    rw [h])
end Go.Proofs.Ytegcbdfilkecpaa
/- The journal in plain Lean on a disk that does not crash: what a commit answers and leaves; condition: at most 2000 pages. -/
namespace Go.Proofs.Ytegcbdfilkecpaa
open Go

end Go.Proofs.Ytegcbdfilkecpaa
/- The journal in plain Lean: whatever the ways back behind a crash, one of two databases is there. -/
namespace Go.Proofs.Ytegcbdfilkecpaa

/-- the records laid aside are in the journal -/
def HasR (J : List Int) (l : List Pg) : Prop := ∀ i, i < (recsL l).length → J[64 + i]? = (recsL l)[i]?
theorem HasR.split {J : List Int} {l : List Pg} (h : HasR J l) : ∃ T, J = J.take 64 ++ (recsL l ++ T) := by
  refine ⟨(J.drop 64).drop (recsL l).length, ?_⟩
  have e : (J.drop 64).take (recsL l).length = recsL l := by
    refine List.ext_getElem? (fun i => ?_)
    rw [List.getElem?_take]
    split
    · rename_i hi
      rw [List.getElem?_drop]
      exact h i hi
    · rename_i hi
      rw [List.getElem?_eq_none (by omega)]
  have e2 : recsL l ++ (J.drop 64).drop (recsL l).length = J.drop 64 := by
    have := List.take_append_drop (recsL l).length (J.drop 64)
    rwa [e] at this
  rw [e2, List.take_append_drop]
/-! ### without a crash nothing falls -/
theorem stay_len {p : Pl} (s : ByteArray) (n : Nat) : (p.length s n).crash = p.crash ∧ (p.length s n).down = p.down := by
  unfold Pl.length
  split <;> exact ⟨rfl, rfl⟩
theorem stay_step {p q : Pl} (h : q.crash = p.crash ∧ q.down = p.down) (hc : p.crash = 0) : q.step.crash = 0 ∧ q.step.down = p.down := by
  have := step_calm (h.1.trans hc)
  exact ⟨this.1, this.2.1.trans h.2⟩
theorem stay_st {p : Pl} (hc : p.crash = 0) (x : Stp) : (p.stP x).crash = 0 ∧ (p.stP x).down = p.down := by
  unfold Pl.stP
  split
  · unfold Pl.write
    split
    · exact ⟨hc, rfl⟩
    · split
      · exact stay_step ⟨rfl, rfl⟩ hc
      · split
        · exact ⟨hc, rfl⟩
        · unfold Pl.write1
          refine stay_step (p := p) ?_ hc
          split
          · exact stay_len _ _
          · exact ⟨rfl, rfl⟩
  · split
    · unfold Pl.trunc
      split
      · exact ⟨hc, rfl⟩
      · exact stay_step (stay_len _ _) hc
    · unfold Pl.sync
      split
      · exact ⟨hc, rfl⟩
      · split
        · exact stay_step ⟨rfl, rfl⟩ hc
        · exact stay_step (q := p) ⟨rfl, rfl⟩ hc
theorem stay_run : ∀ (l : List Stp) {p : Pl}, p.crash = 0 → (p.runS l).1.crash = 0 ∧ (p.runS l).1.down = p.down
  | [], p, h => ⟨h, rfl⟩
  | x :: r, p, h => by
    have h1 := stay_st h x
    rw [runS_cons]
    split
    · have h2 := stay_run r h1.1
      exact ⟨h2.1, h2.2.trans h1.2⟩
    · exact h1
/-! ### ways back -/
theorem FI.same2 {p q : Pl} {s : ByteArray} {I : List Int → Prop} (h : FI p s I) (hk : q.kept = p.kept) (hp : q.pd = p.pd) : FI q s I := ⟨by rw [hk]; exact h.kept, by rw [hp]; exact h.made⟩
end Go.Proofs.Ytegcbdfilkecpaa
/- The journal in plain Lean on a disk that does not crash: a commit, whole; condition: at most 2000 pages. -/
namespace Go.Proofs.Ytegcbdfilkecpaa
open Go

end Go.Proofs.Ytegcbdfilkecpaa
/- The journal in plain Lean: the segments of a commit on a disk that may fall. -/
namespace Go.Proofs.Ytegcbdfilkecpaa

/-! ### records laid aside -/
theorem hw_take {J : List Int} {w : W4} : HW J w ↔ J.take 64 = sealB w := by
  have hs := seal_len w
  constructor
  · rintro ⟨t, rfl⟩
    rw [List.take_left' hs]
  · intro h
    exact ⟨J.drop 64, by rw [← h, List.take_append_drop]⟩
theorem wrL_take {z d : List Int} {a : Nat} (ha : 64 ≤ a) (hz : 64 ≤ z.length) : (wrL z a d).take 64 = z.take 64 := by
  unfold wrL
  split
  · rcases put_take (l := sizedF z (a + d.length)) (d := d) (a := a) (k := 64) ha with e | e
    · rw [e, sizedF_take (by omega) hz]
    · rw [sizedF_len] at e
      omega
  · rcases put_take (l := z) (d := d) (a := a) (k := 64) ha with e | e
    · exact e
    · omega
end Go.Proofs.Ytegcbdfilkecpaa
/- The log in plain Lean on a disk that may crash: printed by gen_wlat.py out of the journal's texts; no condition. -/
namespace Go.Proofs.Ytegcbdfilkecpaa
open Go

/-- the writes of pages home are such writes -/
theorem home_okw {l : List Pg} (hl : ∀ x ∈ l, 1 ≤ x.n ∧ x.n ≤ 15 ∧ x.b.length = 256) : ∀ y ∈ homeW l, WrOkw nmDb y := by
  intro y hy
  unfold homeW at hy
  obtain ⟨x, hx, rfl⟩ := List.mem_map.1 hy
  obtain ⟨h1, h2, h3⟩ := hl x hx
  refine ⟨rfl, rfl, ?_, ?_, ?_⟩
  · show 0 ≤ (x.n - 1) * 256
    omega
  · show x.b ≠ []
    intro e
    rw [e] at h3
    cases h3
  · show ((x.n - 1) * 256).toNat + x.b.length ≤ capOfw nmDb
    unfold capOfw
    rw [if_pos rfl, h3]
    omega
theorem home_fixw {P : Nat → Prop} {o : List Int} {l : List Pg} (hl : ∀ x ∈ l, 1 ≤ x.n ∧ x.n ≤ 15 ∧ x.b.length = 256) (hP : ∀ x ∈ l, ∀ i, P i → i < o.length → x.n ≠ ((i / 256 : Nat) : Int) + 1) :
    ∀ y ∈ homeW l, ∀ z, Fix P o z → Fix P o (wrL z y.at_.toNat y.d) ∧ ∀ c ∈ pendW z nmDb y.at_.toNat y.d, ∀ k ch, Fix P o k → Fix P o (Pl.made k c ch) := by
  intro y hy z hz
  unfold homeW at hy
  obtain ⟨x, hx, rfl⟩ := List.mem_map.1 hy
  obtain ⟨h1, h2, h3⟩ := hl x hx
  have hout : ∀ i, P i → i < o.length → i < ((x.n - 1) * 256).toNat ∨ ((x.n - 1) * 256).toNat + x.b.length ≤ i := fun i hp hi => by
    have := hP x hx i hp hi
    rw [h3]
    omega
  exact ⟨fix_wrL hout hz, fix_pendW (show ((x.n - 1) * 256).toNat % 64 = 0 by omega) (by show x.b.length % 64 = 0; rw [h3]) hout hz⟩
/-- pages put home, the database cut and synced: fallen with what stays, or done -/
theorem run_putw {p : Pl} (h : Prew p) (c : Nat) (hc : c ≤ 15) (l : List Pg) (hl : ∀ x ∈ l, 1 ≤ x.n ∧ x.n ≤ 15 ∧ x.b.length = 256) {P : Nat → Prop} {o : List Int} (hP : ∀ x ∈ l, ∀ i, P i → i < o.length → x.n ≠ ((i / 256 : Nat) : Int) + 1)
    (hcut : ∀ i, P i → i < o.length → i < c * 256) (It : List Int → Prop) (hi : FIw p nmDb (Fix P o)) (ht : FIw p nmWal It) (hg : Fix P o (p.seen nmDb)) :
    ((p.runS (homeS (c : Int) l)).2 = 7 ∧ Fellw (p.runS (homeS (c : Int) l)).1 ∧ FIw (p.runS (homeS (c : Int) l)).1 nmDb (Fix P o) ∧ FIw (p.runS (homeS (c : Int) l)).1 nmWal It) ∨
    ((p.runS (homeS (c : Int) l)).2 = 0 ∧ Prew (p.runS (homeS (c : Int) l)).1 ∧ (p.runS (homeS (c : Int) l)).1.seen = upd p.seen nmDb (sizedF (seenW (p.seen nmDb) (homeW l)) (c * 256)) ∧ chgw (p.runS (homeS (c : Int) l)).1 nmDb = [] ∧
      (p.runS (homeS (c : Int) l)).1.kept nmDb = sizedF (seenW (p.seen nmDb) (homeW l)) (c * 256) ∧ FIw (p.runS (homeS (c : Int) l)).1 nmWal It ∧ (chgw p nmWal = [] → chgw (p.runS (homeS (c : Int) l)).1 nmWal = []) ∧ (p.runS (homeS (c : Int) l)).1.kept nmWal = p.kept nmWal) := by
  have e0 : homeS (c : Int) l = homeW l ++ [⟨1, nmDb, ((c * 256 : Nat) : Int), []⟩, ⟨2, nmDb, 0, []⟩] := by
    unfold homeS
    rw [Int.natCast_mul]
    rfl
  rw [e0, runS_append]
  rcases run_writesw nmDb nmWal (.inl rfl) nm_new.symm (Fix P o) It (Fix P o) (homeW l) h (home_okw hl) hi ht hg (home_fixw hl hP) with ⟨z0, z1, z2, z3⟩ | ⟨z0, z1, z2, z3, z4, z5, z6, z7⟩
  · rw [if_neg (by rw [z0]; decide)]
    exact .inl ⟨z0, z1, z2, z3⟩
  · rw [if_pos z0]
    have hse : (p.runS (homeW l)).1.seen nmDb = seenW (p.seen nmDb) (homeW l) := by rw [z5, upd_same]
    rcases run_tsw z1 (c * 256) (by unfold capOfw; rw [if_pos rfl]; omega) (Fix P o) It z2 z3 (fix_pendT hcut) with q | ⟨q0, q1, q2, q3, q4, q5, q6, q7⟩
    · exact .inl q
    · exact .inr ⟨q0, q1, by rw [q2, hse, z5, upd_upd], q3, by rw [q4, hse], q5, fun e => q6 (z6 e), q7.trans (by rw [z7])⟩
theorem fi_emptyw {p : Pl} {s : ByteArray} {I : List Int → Prop} (h0 : chgw p s = []) (h : I (p.kept s)) : FIw p s I := ⟨h, fun c hc hn => by
  have : c ∈ chgw p s := List.mem_filter.2 ⟨hc, by simpa using hn⟩
  rw [h0] at this
  cases this⟩
theorem fi_truew {p : Pl} {s : ByteArray} : FIw p s (fun _ => True) := ⟨trivial, fun _ _ _ _ _ _ => trivial⟩
theorem run_headAw {p : Pl} (h : Prew p) (w : W4) (I : List Int → Prop) (hj : FIw p nmWal I) (hI : ∀ c ∈ pendW (p.seen nmWal) nmWal 0 (sealB w), ∀ k ch, I k → I (Pl.made k c ch)) :
    ((p.runS (headS nmWal w)).2 = 7 ∧ Fellw (p.runS (headS nmWal w)).1 ∧ FIw (p.runS (headS nmWal w)).1 nmWal I ∧ ∀ Id, FIw p nmDb Id → FIw (p.runS (headS nmWal w)).1 nmDb Id) ∨
    ((p.runS (headS nmWal w)).2 = 0 ∧ Prew (p.runS (headS nmWal w)).1 ∧ (p.runS (headS nmWal w)).1.seen = upd p.seen nmWal (wrL (p.seen nmWal) 0 (sealB w)) ∧ chgw (p.runS (headS nmWal w)).1 nmWal = [] ∧ (p.runS (headS nmWal w)).1.kept nmWal = wrL (p.seen nmWal) 0 (sealB w) ∧ ∀ Id, FIw p nmDb Id → FIw (p.runS (headS nmWal w)).1 nmDb Id) := by
  have key := fun Id hd => run_headw h w I Id hj hd hI
  generalize p.runS (headS nmWal w) = r at key ⊢
  rcases key _ fi_truew with ⟨a, b, c, _⟩ | ⟨a, b, c, d, e, _⟩
  · refine .inl ⟨a, b, c, fun Id hd => ?_⟩
    rcases key Id hd with z | z
    · exact z.2.2.2
    · rw [a] at z; exact absurd z.1 (by decide)
  · refine .inr ⟨a, b, c, d, e, fun Id hd => ?_⟩
    rcases key Id hd with z | z
    · rw [a] at z; exact absurd z.1 (by decide)
    · exact z.2.2.2.2.2
theorem run_head2Aw {p : Pl} (h : Prew p) (w v : W4) (hk : HW (p.kept nmWal) w) (h0 : chgw p nmWal = []) (hs : p.seen nmWal = p.kept nmWal) {P : Nat → Prop} (hP : ∀ i, P i → 64 ≤ i) :
    ((p.runS (headS nmWal v)).2 = 7 ∧ Fellw (p.runS (headS nmWal v)).1 ∧ FOw (p.runS (headS nmWal v)).1 nmWal (fun J => (HS J w ∨ HS J v) ∧ Fix P (p.kept nmWal) J ∧ J.length = (p.kept nmWal).length) ∧ ∀ Id, FIw p nmDb Id → FIw (p.runS (headS nmWal v)).1 nmDb Id) ∨
    ((p.runS (headS nmWal v)).2 = 0 ∧ Prew (p.runS (headS nmWal v)).1 ∧ (p.runS (headS nmWal v)).1.seen = upd p.seen nmWal (wrL (p.seen nmWal) 0 (sealB v)) ∧ chgw (p.runS (headS nmWal v)).1 nmWal = [] ∧ (p.runS (headS nmWal v)).1.kept nmWal = wrL (p.seen nmWal) 0 (sealB v) ∧ ∀ Id, FIw p nmDb Id → FIw (p.runS (headS nmWal v)).1 nmDb Id) := by
  have key := fun Id hd => run_head2w h w v Id hk h0 hs hd hP
  generalize p.runS (headS nmWal v) = r at key ⊢
  rcases key _ fi_truew with ⟨a, b, c, _⟩ | ⟨a, b, c, d, e, _⟩
  · refine .inl ⟨a, b, c, fun Id hd => ?_⟩
    rcases key Id hd with z | z
    · exact z.2.2.2
    · rw [a] at z; exact absurd z.1 (by decide)
  · refine .inr ⟨a, b, c, d, e, fun Id hd => ?_⟩
    rcases key Id hd with z | z
    · rw [a] at z; exact absurd z.1 (by decide)
    · exact z.2.2.2.2.2
theorem FIw.same2 {p q : Pl} {s : ByteArray} {I : List Int → Prop} (h : FIw p s I) (hk : q.kept = p.kept) (hp : q.pd = p.pd) : FIw q s I := ⟨by rw [hk]; exact h.kept, by rw [hp]; exact h.made⟩
theorem fell_inw {p : Pl} (h : Fellw p) (c : Int) : Fellw (p.crashIn c) := ⟨h.down, h.room, h.ktwo, h.klen, h.nm, h.dl.same2 rfl rfl, h.jl.same2 rfl rfl⟩
end Go.Proofs.Ytegcbdfilkecpaa
/- The journal: a page told; no condition but on the texts' lengths. -/
namespace Go.Proofs.Ytegcbdfilkecpaa
open Go.RowKit

section
variable {S : Nat → Prop} {W0 w : World} {db : Nat} {p : Pl}
attribute [local go_sem ↓] load26 store26 alloc26 build26
set_option maxRecDepth 100000 in
set_option maxHeartbeats 800000 in
theorem page_q (h : Dq S W0 w db p) (n : Int) (hn : -9223372036854775808 ≤ n ∧ n ≤ 9223372036854775807) :
    Calls Try.prog 11 #[ptrV db, .int .i64 n] w fun e w' => e = .returned (.tuple #[.agg (bytesV (p.jpage n)), .int .i64 (p.jpageE n)]) ∧ Kp NoB w w' := by
  have H := Lib.hid h
  have hb0 : Blk (w.alloc (.cells zero256 24)) w.heap.size 24 zero256 := Blk.new _ _ _
  have hk0 : Kp NoB w (w.alloc (.cells zero256 24)) := (Kp.refl _ _).alloc _
  have HB0 := Lib.hid hb0
  have HK0 := Lib.hid hk0
  clear h hb0 hk0
  unfold ptrV
  rcases hdn : p.down with _ | _
  · have HW0 : Hid (p.wrong = 0) := Lib.hid (by unfold Pl.wrong; rw [hdn]; rfl)
    have HE0 : Hid (p.jpageE n = if n < 1 ∨ (p.jcount : Int) < n then 4 else 0) := Lib.hid (by unfold Pl.jpageE; rw [hdn]; rfl)
    clear hdn
    by_cases h1 : n < 1
    · have HE1 : Hid (p.jpageE n = 4) := Lib.hid (by rw [HE0.out, if_pos (.inl h1)])
      have HP1 : Hid (bytesV (p.jpage n) = zero256) := Lib.hid (by unfold Pl.jpage; rw [HE1.out]; rfl)
      go_enter Try.func11, Try.ntmps11
      go_wp2_with fail
      refine (show Calls _ _ #[ptrV db] _ _ from ready_q (H.out.keep HK0.out)).mono ?_
      rintro e w2 ⟨rfl, hk⟩
      rw [HW0.out]
      have HK := Lib.hid hk
      have hb2 := HB0.out.keep hk (fun q => q)
      have HB2 := Lib.hid hb2
      have t2 : w2.there w.heap.size 0 256 := hb2.thereAll 256 (by rw [zero256_eq, bytesV_size]; rfl)
      have oz : ones zero256 := by rw [zero256_eq]; exact bytesV_one _
      have sz : zero256.size = 256 := by rw [zero256_eq, bytesV_size]; rfl
      have HSZ := Lib.hid sz
      clear hk hb2
      go_wp2_with fail
      refine bodyPost_ret (ret_cell_tmp rfl _ _ _ _ _ _ rfl (HB2.out.whole zero256 rfl) Try.underlying24 rfl (by rw [HSZ.out]; exact info26) _ rfl) rfl ⟨by rw [HE1.out, HP1.out]; rfl, ?_⟩
      exact Kp.setCells (.inl (Nat.le_refl _)) _ _ _ (HK0.out.trans HK.out (fun _ _ q => q))
    · by_cases h2 : (p.jcount : Int) < n
      · have HE1 : Hid (p.jpageE n = 4) := Lib.hid (by rw [HE0.out, if_pos (.inr h2)])
        have HP1 : Hid (bytesV (p.jpage n) = zero256) := Lib.hid (by unfold Pl.jpage; rw [HE1.out]; rfl)
        go_enter Try.func11, Try.ntmps11
        go_wp2_with fail
        refine (show Calls _ _ #[ptrV db] _ _ from ready_q (H.out.keep HK0.out)).mono ?_
        rintro e w2 ⟨rfl, hk⟩
        rw [HW0.out]
        have HK := Lib.hid hk
        have hb2 := HB0.out.keep hk (fun q => q)
        have HB2 := Lib.hid hb2
        have t2 : w2.there w.heap.size 0 256 := hb2.thereAll 256 (by rw [zero256_eq, bytesV_size]; rfl)
        have oz : ones zero256 := by rw [zero256_eq]; exact bytesV_one _
        have sz : zero256.size = 256 := by rw [zero256_eq, bytesV_size]; rfl
        have HSZ := Lib.hid sz
        clear hk hb2
        go_wp2_with fail
        refine (show Calls _ _ #[ptrV db] _ _ from count_q ((H.out.keep HK0.out).keep HK.out)).mono ?_
        rintro e w3 ⟨rfl, rfl⟩
        generalize (p.jcount : Int) = J at h2 ⊢
        go_wp2_with fail
        refine bodyPost_ret (ret_cell_tmp rfl _ _ _ _ _ _ rfl (HB2.out.whole zero256 rfl) Try.underlying24 rfl (by rw [HSZ.out]; exact info26) _ rfl) rfl ⟨by rw [HE1.out, HP1.out]; rfl, ?_⟩
        exact Kp.setCells (.inl (Nat.le_refl _)) _ _ _ (HK0.out.trans HK.out (fun _ _ q => q))
      · have HE1 : Hid (p.jpageE n = 0) := Lib.hid (by rw [HE0.out, if_neg (by omega)])
        obtain ⟨m, hm⟩ : ∃ m : Nat, n = m := ⟨n.toNat, by omega⟩
        have HP1 : Hid (p.jpage n = pageOf (p.seen nmDb) m) := Lib.hid (by unfold Pl.jpage; rw [HE1.out, hm]; rfl)
        have hm1 : 1 ≤ m := by omega
        have hm2 : m ≤ p.jcount := by omega
        have HM1 := Lib.hid hm1
        have HM2 := Lib.hid hm2
        have HMM := Lib.hid hm
        have HPL : Hid ((pageOf (p.seen nmDb) m).length = 256) := Lib.hid (sizedF_len _ _)
        clear hm hm1 hm2
        go_enter Try.func11, Try.ntmps11
        go_wp2_with fail
        refine (show Calls _ _ #[ptrV db] _ _ from ready_q (H.out.keep HK0.out)).mono ?_
        rintro e w2 ⟨rfl, hk⟩
        rw [HW0.out]
        have HK := Lib.hid hk
        clear hk
        go_wp2_with fail
        refine (show Calls _ _ #[ptrV db] _ _ from count_q ((H.out.keep HK0.out).keep HK.out)).mono ?_
        rintro e w3 ⟨rfl, rfl⟩
        obtain ⟨J, hJ⟩ : ∃ J : Int, (p.jcount : Int) = J := ⟨_, rfl⟩
        rw [hJ] at h2 ⊢
        clear hJ
        go_wp2_with fail
        have HPQ := wpage_q ((H.out.keep HK0.out).keep HK.out) m HM1.out HM2.out
        rw [← HMM.out] at HPQ
        refine (show Calls _ _ #[.agg #[ptrV db], .int .i64 n] _ _ from HPQ).mono ?_
        clear HPQ
        rintro e w4 ⟨rfl, hk4⟩
        have hk5 := HK.out.trans hk4 (fun _ _ q => q)
        have HK5 := Lib.hid hk5
        have hb2 := HB0.out.keep hk5 (fun q => q)
        have HB2 := Lib.hid hb2
        have t2 : w4.there w.heap.size 0 256 := hb2.thereAll 256 (by rw [zero256_eq, bytesV_size]; rfl)
        obtain ⟨RR, hRR⟩ : ∃ RR, bytesV (pageOf (p.seen nmDb) m) = RR := ⟨_, rfl⟩
        have o1 := bytesV_one (pageOf (p.seen nmDb) m)
        have s1 : (bytesV (pageOf (p.seen nmDb) m)).size = 256 := by rw [bytesV_size, HPL.out]
        rw [hRR] at o1 s1 ⊢
        have HRR := Lib.hid hRR
        have HS1 := Lib.hid s1
        clear hk4 hk5 hb2 hRR
        go_wp2_with fail
        refine bodyPost_ret (ret_cell_tmp rfl _ _ _ _ _ _ rfl (HB2.out.whole RR (by rw [HS1.out, zero256_eq, bytesV_size]; rfl)) Try.underlying24 rfl (by rw [HS1.out]; exact info26) _ rfl) rfl ⟨by rw [HE1.out, HP1.out, HRR.out]; rfl, ?_⟩
        exact Kp.setCells (.inl (Nat.le_refl _)) _ _ _ (HK0.out.trans HK5.out (fun _ _ q => q))
  · have HW0 : Hid (p.wrong = 7) := Lib.hid (by unfold Pl.wrong; rw [hdn]; rfl)
    have HE1 : Hid (p.jpageE n = 7) := Lib.hid (by unfold Pl.jpageE; rw [hdn]; rfl)
    have HP1 : Hid (bytesV (p.jpage n) = zero256) := Lib.hid (by unfold Pl.jpage; rw [HE1.out]; rfl)
    clear hdn
    go_enter Try.func11, Try.ntmps11
    go_wp2_with fail
    refine (show Calls _ _ #[ptrV db] _ _ from ready_q (H.out.keep HK0.out)).mono ?_
    rintro e w2 ⟨rfl, hk⟩
    rw [HW0.out]
    have HK := Lib.hid hk
    have hb2 := HB0.out.keep hk (fun q => q)
    have HB2 := Lib.hid hb2
    have t2 : w2.there w.heap.size 0 256 := hb2.thereAll 256 (by rw [zero256_eq, bytesV_size]; rfl)
    have oz : ones zero256 := by rw [zero256_eq]; exact bytesV_one _
    have sz : zero256.size = 256 := by rw [zero256_eq, bytesV_size]; rfl
    have HSZ := Lib.hid sz
    clear hk hb2
    go_wp2_with fail
    refine bodyPost_ret (ret_cell_tmp rfl _ _ _ _ _ _ rfl (HB2.out.whole zero256 rfl) Try.underlying24 rfl (by rw [HSZ.out]; exact info26) _ rfl) rfl ⟨by rw [HE1.out, HP1.out]; rfl, ?_⟩
    exact Kp.setCells (.inl (Nat.le_refl _)) _ _ _ (HK0.out.trans HK.out (fun _ _ q => q))
end
end Go.Proofs.Ytegcbdfilkecpaa
/- The journal: pages gathered that are to be laid aside: rules of the region that gathers; no condition. -/
namespace Go.Proofs.Ytegcbdfilkecpaa
open Go Go.RowKit

section
variable {P : Program} {ops : Array Oper} {Q : Exit → Act → World → Prop} {md : Region.Mode} {S : World → Prop} {fuel : Nat} {listed : Array Bool} {a : Act} {w : World} {i : Nat} {rs : List Nat}
variable {ds : Option Tmp} {op : Op} {ty : TypeId} {ps : String} {af : Array Edge}
/-- an operation that yields nothing -/
theorem AllReadyH.skipR {gd : Option (Nat × Bool)} (ho : ops[i]? = some ⟨none, op, ty, ps, af, gd⟩) (hw : Region.wanted ⟨none, op, ty, ps, af, gd⟩ (yielded ops a.tmps) = true) (w' : World)
    (hr : (execOp a.eval ⟨none, op, ty, ps, af, gd⟩).run P w = .ok .skip w') (hS : S w')
    (hn : wpAnyH P md ops Q S fuel (listed.setIfInBounds i true) a w')
    (hs : AllReadyH P md ops Q S fuel listed a w rs) : AllReadyH P md ops Q S fuel listed a w (i :: rs) :=
  AllReadyH.cons ho (fun K hK => by
    rw [if_pos hw]
    unfold Oper.wp
    rw [hr, Oper.upon_skip]
    exact hK.out _ _ hS (fun _ => hn)) hs
/-- an append to a row of the caller's own -/
theorem AllReadyH.appendB {s x : Operand} {t : TypeId} (ho : ops[i]? = some ⟨ds, .call { callee := .builtin .append, args := #[s, x], argTypes := #[t, t] }, ty, ps, af, none⟩) (hw : Region.wanted ⟨ds, .call { callee := .builtin .append, args := #[s, x], argTypes := #[t, t] }, ty, ps, af, none⟩ (yielded ops a.tmps) = true)
    (base : Nat) (e : TypeId) (j : TypeInfo) (z : Value) (size bytes : Nat) (ht : P.underlying t = some (.slice e)) (hi : P.info? e = some j) (hz : j.zero = some z)
    (hsize : j.size = size) (hby : j.bytes = bytes) (hzs : z.cells.size = size) (hsz : 0 < size)
    (v : Value) (n : Nat) (xs : List Value) (hsv : a.eval s = v) (hown : w.ownsRow base e size v n xs)
    (ad : Addr) (m c : Nat) (news : List Value) (hx : a.eval x = .slice (some ad) m c) (hl : news.length = m * size) (hnews : ∀ j u, news[j]? = some u → w.cell? (ad.add j) = some u) (h1 : ∀ u ∈ news, u.oneCell' = true)
    (h63 : n + m ≤ maxLen) (hbytes : (n + m) * bytes ≤ 140737488355328) (hbase : base ≤ w.heap.size)
    (hS : ∀ v' w', w'.ownsRow base e size v' (n + m) (xs ++ news) → w.grownBy w' v.ownBlock → (∀ b, v'.ownBlock = some b → v.ownBlock = some b ∨ w.heap.size ≤ b) → S w')
    (hn : ∀ v' w', w'.ownsRow base e size v' (n + m) (xs ++ news) → w.grownBy w' v.ownBlock → (∀ b, v'.ownBlock = some b → v.ownBlock = some b ∨ w.heap.size ≤ b) → wpAnyH P md ops Q S fuel (listed.setIfInBounds i true) (a.put ds v') w')
    (hs : AllReadyH P md ops Q S fuel listed a w rs) : AllReadyH P md ops Q S fuel listed a w (i :: rs) :=
  AllReadyH.cons ho (fun K hK => by
    rw [if_pos hw]
    exact wp_append_ownB s x t rfl base e j z size bytes ht hi hz hsize hby hzs hsz v n xs hsv hown ad m c news hx hl hnews h1 h63 hbytes hbase
      (fun v' w' q1 q2 q3 => hK.out _ _ (hS v' w' q1 q2 q3) (fun _ => hn v' w' q1 q2 q3))) hs
end
theorem stSl {w : World} {g : Nat} {v0 : Value} (h : Blk w g 22 #[v0]) (ev : Operand → Value) {x y : Operand} {A : Option Addr} {n c : Nat} {ty : TypeId} {ps : String} {af : Array Edge} {gd : Option (Nat × Bool)} (hx : ev x = .pointer (some ⟨g, 0, none⟩)) (hy : ev y = .slice A n c) :
    (execOp ev ⟨none, .store 22 x y, ty, ps, af, gd⟩).run Try.prog w = .ok .skip (w.setCell ⟨g, 0, none⟩ (.slice A n c)) := by
  have hc : w.cell? ⟨g, 0, none⟩ = some v0 := h.cell 0
  have hf : w.frozen? ⟨g, 0, none⟩ = false := h.frozen 0
  simp only [execOp, hx, hy]
  go_simp
/-- in the midst of the region -/
structure CoT (wL : World) (Ba Bd db : Nat) (v10 : Value) (W : World) : Prop where
  kl : Kp (OnB Ba) wL W
  ba : Blk W Ba 22 #[v10]
  bd : Blk W Bd 98 #[ptrV db]
structure CoS (wL : World) (Ba Bd db : Nat) (v10 : Value) (W0 W : World) : Prop extends CoT wL Ba Bd db v10 W where
  kp : Kp NoB W0 W
section
variable {wL : World} {Ba Bd db : Nat} {v10 : Value} {W0 W W' : World}
theorem CoT.sp (h : CoT wL Ba Bd db v10 W) : W.rangeAt Bd 0 [ptrV db] := Blk.range (xa := []) (xb := [ptrV db]) (xd := []) h.bd 0 rfl
theorem CoS.sp (h : CoS wL Ba Bd db v10 W0 W) : W.rangeAt Bd 0 [ptrV db] := h.toCoT.sp
theorem CoT.keep (h : CoT wL Ba Bd db v10 W) (k : Kp NoB W W') : CoT wL Ba Bd db v10 W' := ⟨h.kl.trans k (fun _ _ q => q.elim), h.ba.keep k (fun q => q), h.bd.keep k (fun q => q)⟩
theorem CoS.keep (h : CoS wL Ba Bd db v10 W0 W) (k : Kp NoB W W') : CoS wL Ba Bd db v10 W0 W' := ⟨h.toCoT.keep k, h.kp.trans k (fun _ _ q => q)⟩
theorem CoS.alloc (h : CoS wL Ba Bd db v10 W0 W) (o : Obj) : CoS wL Ba Bd db v10 W0 (W.alloc o) := h.keep ((Kp.refl _ _).alloc o)
theorem CoS.grown (h : CoS wL Ba Bd db v10 W0 W) {o : Obj} {w' : World} (hg : (W.alloc o).grownBy w' v10.ownBlock) {e : TypeId} {size n : Nat} {xs : List Value} {wx : World} (ho : wx.ownsRow wL.heap.size e size v10 n xs) (hBa : Ba < wL.heap.size := by omega) (hBd : Bd < wL.heap.size := by omega) : CoT wL Ba Bd db v10 w' := by
  have h2 := (h.alloc o).toCoT
  have hk : Kp (fun k => v10.ownBlock = some k) (W.alloc o) w' := (Kp.refl _ _).grown hg (fun k hk => .inr hk)
  have hge := own_ge ho
  exact ⟨h2.kl.own hg rfl ho, h2.ba.keep hk (fun q => by have := hge _ q; omega), h2.bd.keep hk (fun q => by have := hge _ q; omega)⟩
end
end Go.Proofs.Ytegcbdfilkecpaa
/- The journal: pages changed together; no condition but on the counts. -/
namespace Go.Proofs.Ytegcbdfilkecpaa
open Go.RowKit

theorem fill_pg (n : Int) (l : List Int) (hl : l.length = 256) : Instr.fill (fun i => (#[(0, 1), (1, 256)] : Array (Nat × Nat))[i]?) (pgA ⟨0, zeros 256⟩) [(0, .int .i64 n), (1, .agg (bytesV l))] = some (pgA ⟨n, l⟩) := by
  have hz : (pgA ⟨0, zeros 256⟩).size = 257 := by
    unfold pgA pgL
    rw [List.size_toArray, List.length_cons, List.length_map]
    unfold zeros
    rw [List.length_replicate]
  have c1 : (Value.int .i64 n).cells = #[.int .i64 n] := rfl
  have c2 : (Value.agg (bytesV l)).cells = bytesV l := rfl
  have s2 : (bytesV l).size = 256 := by rw [bytesV_size, hl]
  obtain ⟨g1, g2⟩ := Go.Great.foldl_set 0 [.int .i64 n] 0 (pgA ⟨0, zeros 256⟩)
  obtain ⟨h1, h2⟩ := Go.Great.foldl_set 1 (bytesV l).toList 0 (([Value.int .i64 n].zipIdx 0).foldl (fun cs (x : Value × Nat) => cs.setIfInBounds (0 + x.2) x.1) (pgA ⟨0, zeros 256⟩))
  have e1 : (#[Value.int .i64 n] : Array Value).zipIdx.foldl (fun cs (x : Value × Nat) => cs.setIfInBounds (0 + x.2) x.1) (pgA ⟨0, zeros 256⟩) = ([Value.int .i64 n].zipIdx 0).foldl (fun cs (x : Value × Nat) => cs.setIfInBounds (0 + x.2) x.1) (pgA ⟨0, zeros 256⟩) := by
    rw [← Array.foldl_toList, Array.toList_zipIdx]
  unfold Instr.fill
  simp only [List.getElem?_toArray, List.getElem?_cons_zero, c1]
  rw [if_neg (by rw [hz]; simp), e1]
  generalize hA : ([Value.int .i64 n].zipIdx 0).foldl (fun cs (x : Value × Nat) => cs.setIfInBounds (0 + x.2) x.1) (pgA ⟨0, zeros 256⟩) = X at g1 g2 h1 h2 ⊢
  unfold Instr.fill
  simp only [List.getElem?_toArray, List.getElem?_cons_zero, List.getElem?_cons_succ, c2]
  rw [if_neg (by rw [g1, hz, s2]; simp)]
  have e2 : (bytesV l).zipIdx.foldl (fun cs (x : Value × Nat) => cs.setIfInBounds (1 + x.2) x.1) X = ((bytesV l).toList.zipIdx 0).foldl (fun cs (x : Value × Nat) => cs.setIfInBounds (1 + x.2) x.1) X := by
    rw [← Array.foldl_toList, Array.toList_zipIdx]
  rw [e2]
  unfold Instr.fill
  refine congrArg some ?_
  apply Array.ext_getElem?
  intro k
  rw [h2 k, g1, hz, g2 k, hz]
  simp only [Array.length_toList, s2, List.length_cons, List.length_nil, Nat.add_zero, Nat.zero_add]
  rcases (show k = 0 ∨ (1 ≤ k ∧ k < 257) ∨ 257 ≤ k by omega) with rfl | hk | hk
  · rw [if_neg (by omega), if_pos (by omega)]
    rfl
  · rw [if_pos (by omega)]
    unfold pgA pgL bytesV
    obtain ⟨j, rfl⟩ : ∃ j, k = j + 1 := ⟨k - 1, by omega⟩
    rw [List.getElem?_toArray, List.getElem?_cons_succ, Nat.add_sub_cancel]
  · rw [if_neg (by omega), if_neg (by omega), Array.getElem?_eq_none (by rw [hz]; exact hk), Array.getElem?_eq_none (by unfold pgA pgL; rw [List.size_toArray, List.length_cons, List.length_map, hl]; exact hk)]
theorem built_pg (parts : List (Nat × Value)) : Try.prog.built 113 parts = Instr.fill (fun i => (#[(0, 1), (1, 256)] : Array (Nat × Nat))[i]?) (pgA ⟨0, zeros 256⟩) parts := by kernel_rfl
theorem buildPg2 (w : World) (n : Int) (l : List Int) (hl : l.length = 256) : (Instr.build 113 #[(0, .int .i64 n), (1, .agg (bytesV l))]).run Try.prog w = .ok (.agg (pgA ⟨n, l⟩)) w :=
  run_build w 113 _ _ ((built_pg _).trans (fill_pg n l hl))
theorem exBuildPg2 (w : World) (ev : Operand → Value) (x y : Operand) (n : Int) (l : List Int) (hl : l.length = 256) (ds : Option Tmp) (ty : TypeId) (ps : String) (af : Array Edge) (g : Option (Nat × Bool)) (hx : ev x = .int .i64 n) (hy : ev y = .agg (bytesV l)) :
    (execOp ev ⟨ds, .build 113 #[(0, x), (1, y)], ty, ps, af, g⟩).run Try.prog w = .ok (.value (.agg (pgA ⟨n, l⟩))) w := by
  simp only [execOp, List.map_toArray, List.map_cons, List.map_nil, hx, hy, Sem.run_bind, buildPg2 _ _ _ hl, Result.andThen_ok]
  rfl
section
variable {S : Nat → Prop} {w : World} {db : Nat} {p : Pl}
end
section
variable {S : Nat → Prop} {w : World} {db : Nat} {p : Pl}
end
section
variable {S : Nat → Prop} {w : World} {db : Nat} {p : Pl}
attribute [local go_sem ↓] loadPg storePg allocPg
end
end Go.Proofs.Ytegcbdfilkecpaa
/- The journal: the answers that every law asks at its end; no condition. -/
namespace Go.Proofs.Ytegcbdfilkecpaa
open Go.RowKit

attribute [local go_sem ↓] load26 store26 alloc26 build26
def fullL (b : Int) : List Int := List.replicate 256 b
def upF (b : Int) (n : Nat) : List Int := List.replicate n b ++ zeros (256 - n)
theorem upF_set (b : Int) (n : Nat) (hn : n < 256) : (upF b n).set n b = upF b (n + 1) := by
  unfold upF zeros
  rw [List.set_append_right _ _ (by rw [List.length_replicate]; omega), List.length_replicate, Nat.sub_self, show 256 - n = (256 - (n + 1)) + 1 by omega, List.replicate_succ, List.set_cons_zero, List.replicate_succ', List.append_assoc]
  rfl
theorem upF_at (b : Int) (n : Nat) (hn : n < 256) : (upF b n)[n]? = some 0 := by
  unfold upF zeros
  rw [List.getElem?_append_right (by rw [List.length_replicate]; omega), List.length_replicate, Nat.sub_self, show 256 - n = (256 - (n + 1)) + 1 by omega, List.replicate_succ]
  rfl
theorem upF_all (b : Int) : upF b 256 = fullL b := by
  unfold upF zeros fullL
  rw [Nat.sub_self, List.replicate_zero, List.append_nil]
structure FuS (w : World) (b : Int) (n : Nat) (W : World) : Prop where
  kp : Kp NoB w W
  b1 : Blk W w.heap.size 24 zero256
  b2 : Blk W (w.heap.size + 1) 24 (bytesV (upF b n))
def aw2L : List Pg := [⟨1, fullL 1⟩, ⟨2, fullL 2⟩]
theorem slicePg2 (w : World) (a b : Array Value) (ha : a.size = 257) (hb : b.size = 257) : (Instr.buildSlice 22 2 #[(0, .agg a), (1, .agg b)]).run Try.prog w = .ok (.slice (some ⟨w.heap.size, 0, none⟩) 2 2) (w.alloc (.cells (a ++ b) 113)) := by
  obtain ⟨i, hi, h0, h1, h2⟩ := info_parts infoPgA
  have hu := Try.underlying22
  have ca : (Value.agg a).cells = a := rfl
  have cb : (Value.agg b).cells = b := rfl
  have hf : ∀ Z : Array Value, Z.size = 514 → Instr.fill (fun i => some (i * 257, 257)) Z [(0, .agg a), (1, .agg b)] = some (a ++ b) := fun Z hZ => by
    have := Go.Great.fill_whole (s := 257) (by omega) [.agg a, .agg b] Z (by simp [ca, cb, ha, hb]) (by simp [hZ])
    have h := this
    simp only [List.zipIdx_cons, List.zipIdx_nil, List.map_cons, List.map_nil, List.flatMap_cons, List.flatMap_nil, ca, cb, List.append_nil] at h
    rw [show a ++ b = (a.toList ++ b.toList).toArray by simp]
    exact h
  simp [Instr.buildSlice, run_underlying hu, sizeOf, typeInfo, hi, h1, zeroPg, newRow, newObj]
  rw [hf _ (by simp)]
  rfl
theorem exSlicePg2 (w : World) (ev : Operand → Value) (x y : Operand) (a b : Array Value) (ds : Option Tmp) (ty : TypeId) (ps : String) (af : Array Edge) (g : Option (Nat × Bool)) (hx : ev x = .agg a) (hy : ev y = .agg b) (ha : a.size = 257) (hb : b.size = 257) :
    (execOp ev ⟨ds, .buildSlice 22 2 #[(0, x), (1, y)], ty, ps, af, g⟩).run Try.prog w = .ok (.value (.slice (some ⟨w.heap.size, 0, none⟩) 2 2)) (w.alloc (.cells (a ++ b) 113)) := by
  simp only [execOp, List.map_toArray, List.map_cons, List.map_nil, hx, hy, Sem.run_bind, slicePg2 w a b ha hb, Result.andThen_ok]
  rfl
theorem full_rng (b : Int) (hb : 0 ≤ b ∧ b < 256) : ∀ y ∈ fullL b, 0 ≤ y ∧ y < 256 := fun y hy => by
  have := List.eq_of_mem_replicate hy
  omega
theorem pgs_blk {w : World} {g n : Nat} {t : TypeId} {l : List Pg} (h : Blk w g t (pgsCells l).toArray) (hn : l.length = n) (hok : ∀ x ∈ l, PgOk x) : PgsAt w (some ⟨g, 0, none⟩) n l := by
  subst hn
  have hfl : pgsCells l = (l.map pgL).flatten := by unfold pgsCells; rw [List.flatMap_def]
  have hx : ∀ x ∈ l.map pgL, x.length = 257 := fun x hx => by
    obtain ⟨y, hy, rfl⟩ := List.mem_map.1 hx
    exact pgL_len (hok y hy)
  have hlen := flat_len 257 (l.map pgL) hx
  refine ⟨by simp, hx, fun hn => ⟨g, 0, rfl, h.lt, fun k hk j hj => ⟨?_, h.frozen _⟩⟩⟩
  rw [h.cell, List.getElem?_toArray, hfl, Nat.zero_add]
  exact flat_at 257 (l.map pgL) hx k j hj hk
theorem blk_rg8 {w : World} {g : Nat} {t : TypeId} {l : List Int} (h : Blk w g t (bytesV l)) : w.rangeAt g 0 (l.map (Value.int .u8)) :=
  Blk.range (xa := []) (xb := l.map (Value.int .u8)) (xd := []) (by unfold bytesV at h; simpa using h) 0 rfl
theorem eqTrue (w : World) (ev : Operand → Value) (ds : Option Tmp) {x y : Operand} {l : List Int} {yt : TypeId} (ty : TypeId) (ps : String) {af : Array Edge} {g : Option (Nat × Bool)} (hx : ev x = .agg (l.map (Value.int .u8)).toArray) (hy : ev y = .agg (bytesV l)) (hl : l.length = 256) :
    (execOp ev ⟨ds, .binOp .eql 24 x y yt, ty, ps, af, g⟩).run Try.prog w = .ok (.value (.bool true)) w := by
  have := eql26 w ev ds x y yt ty ps af g (by rw [hx]; exact pgOK_bytes l hl) (by rw [hy]; exact pgOK_bytes l hl)
  rw [this, hx, hy]
  have e : (l.map (Value.int .u8)).toArray = bytesV l := rfl
  rw [e, valEq_self]
theorem wpList_val {P : Program} {ops : Array Oper} {rest : List Oper} {ds : Option Tmp} {op : Op} {ty : TypeId} {ps : String} {af : Array Edge} {a : Act} {w w' : World} {Q : Exit → Act → World → Prop} (v : Value) (hr : (execOp a.eval ⟨ds, op, ty, ps, af, none⟩).run P w = .ok (.value v) w')
    (h : wpList P ops Q rest (a.put ds v) w') : wpList P ops Q (⟨ds, op, ty, ps, af, none⟩ :: rest) a w := wpList_plain rfl fun K hK => by
  unfold Oper.wp
  rw [hr, Oper.upon_value]
  exact hK _ _ h
attribute [local go_sem ↓] eql26
end Go.Proofs.Ytegcbdfilkecpaa
/- The journal: all pages told, as a list; no condition but on the counts. -/
namespace Go.Proofs.Ytegcbdfilkecpaa
open Go.RowKit

/-- pages without numbers, their cells one behind the other -/
def rawCells (l : List (List Int)) : List Value := l.flatMap fun b => b.map (Value.int .u8)
def rawOk (l : List (List Int)) : Prop := ∀ b ∈ l, b.length = 256 ∧ ∀ y ∈ b, 0 ≤ y ∧ y < 256
def OwnRaw (w : World) (n0 : Nat) (v : Value) (l : List (List Int)) : Prop := w.ownsRow n0 24 256 v l.length (rawCells l) ∧ rawOk l
theorem infoPg26 : (Try.prog.info? 24).map (fun i => (i.zero, i.size, i.bytes)) = some (some (.agg zero256), 256, 256) := by kernel_rfl
theorem sliceP1 (w : World) (cs : Array Value) (hs : cs.size = 256) : (Instr.buildSlice 38 1 #[(0, .agg cs)]).run Try.prog w = .ok (.slice (some ⟨w.heap.size, 0, none⟩) 1 1) (w.alloc (.cells cs 24)) := by
  obtain ⟨i, hi, h0, h1, h2⟩ := info_parts infoPg26
  have hu := Try.underlying38
  have hc : (Value.agg cs).cells = cs := rfl
  have hf : ∀ Z : Array Value, Z.size = 256 → Instr.fill (fun i => some (i * 256, 256)) Z [(0, .agg cs)] = some cs := fun Z hZ => by
    have := Go.Great.fill_whole (s := 256) (by omega) [.agg cs] Z (by simp [hc, hs]) (by simp [hZ])
    simpa [hc] using this
  simp [Instr.buildSlice, run_underlying hu, sizeOf, typeInfo, hi, h1, zeroValue26, newRow, newObj]
  rw [hf _ (by simp)]
  rfl
theorem exSliceP1 (w : World) (ev : Operand → Value) (x : Operand) (cs : Array Value) (ds : Option Tmp) (ty : TypeId) (ps : String) (af : Array Edge) (g : Option (Nat × Bool)) (hx : ev x = .agg cs) (hs : cs.size = 256) :
    (execOp ev ⟨ds, .buildSlice 38 1 #[(0, x)], ty, ps, af, g⟩).run Try.prog w = .ok (.value (.slice (some ⟨w.heap.size, 0, none⟩) 1 1)) (w.alloc (.cells cs 24)) := by
  simp only [execOp, List.map_toArray, List.map_cons, List.map_nil, hx, Sem.run_bind, sliceP1 w cs hs, Result.andThen_ok]
  rfl
theorem raw_new (w : World) (b : List Int) : ∀ j u, (b.map (Value.int .u8))[j]? = some u → (w.alloc (.cells (bytesV b) 24)).cell? ((⟨w.heap.size, 0, none⟩ : Addr).add j) = some u := by
  intro j u hj
  rw [add_mk, Nat.zero_add, (Blk.new w 24 (bytesV b)).cell]
  unfold bytesV
  rw [List.getElem?_toArray]
  exact hj
/-- all pages of a database of s -/
def allPg (db : List Int) (s : Nat) : List (List Int) := (List.range' 1 s).map (pageOf db)
section
variable {S : Nat → Prop} {W0 w : World} {db : Nat} {p : Pl}
attribute [local go_sem ↓] load26 store26 alloc26 build26 exSliceP1
end
end Go.Proofs.Ytegcbdfilkecpaa
/- The journal: two lists of pages held against each other; no condition but on the counts. -/
namespace Go.Proofs.Ytegcbdfilkecpaa
open Go.RowKit

def RawsAt (w : World) (A : Option Addr) (n : Nat) (l : List (List Int)) : Prop := RowsC w A n 256 (l.map fun b => b.map (Value.int .u8))
theorem RawsAt.len {w : World} {A : Option Addr} {n : Nat} {l : List (List Int)} (h : RawsAt w A n l) : l.length = n := by have := h.1; simpa using this
theorem RawsAt.keep {w w' : World} {A : Option Addr} {n : Nat} {l : List (List Int)} (h : RawsAt w A n l) (k : Kp NoB w w') : RawsAt w' A n l := RowsC.keep h k
theorem raws_own {w : World} {n0 n cap : Nat} {A : Option Addr} {l : List (List Int)} (h : OwnRaw w n0 (.slice A n cap) l) (hn : l.length = n) : RawsAt w A n l := by
  subst hn
  refine RowsC.own (base := n0) (cap := cap) (e := 24) ?_ (by simp) ?_
  · have h1 := h.1
    unfold rawCells at h1
    rw [List.flatMap_def] at h1
    exact h1
  · intro x hx
    obtain ⟨y, hy, rfl⟩ := List.mem_map.1 hx
    rw [List.length_map]
    exact (h.2 y hy).1
theorem RawsAt.at_ {w : World} {A : Option Addr} {n : Nat} {l : List (List Int)} (h : RawsAt w A n l) (k : Nat) (hk : k < n) : ∃ g o, A = some ⟨g, o, none⟩ ∧ g < w.heap.size ∧ w.rangeAt g (o + k * 256) ((l[k]'(by rw [h.len]; exact hk)).map (Value.int .u8)) := by
  have hkl : k < (l.map fun (b : List Int) => b.map (Value.int .u8)).length := by have := h.1; omega
  obtain ⟨g, o, e, hg, hc⟩ := h.2.2 (by omega)
  refine ⟨g, o, e, hg, fun j v hj => ?_⟩
  have hl : ((l.map fun (b : List Int) => b.map (Value.int .u8))[k]).length = 256 := h.2.1 _ (List.getElem_mem hkl)
  have hjl : j < 256 := by
    have h1 := (List.getElem?_eq_some_iff.1 hj).1
    simp only [List.getElem_map] at hl
    omega
  rw [(hc k hkl j hjl).1]
  simp only [List.getElem_map]
  exact hj
theorem neqPg (w : World) (ev : Operand → Value) (ds : Option Tmp) {x y : Operand} {a b : List Int} {yt : TypeId} (ty : TypeId) (ps : String) {af : Array Edge} {g : Option (Nat × Bool)} (d : Bool) (hx : ev x = .agg (a.map (Value.int .u8)).toArray) (hy : ev y = .agg (b.map (Value.int .u8)).toArray) (ha : a.length = 256) (hb : b.length = 256) (hd : d = decide (a ≠ b)) :
    (execOp ev ⟨ds, .binOp .neq 24 x y yt, ty, ps, af, g⟩).run Try.prog w = .ok (.value (.bool d)) w := by
  have := neq26 w ev ds x y yt ty ps af g (by rw [hx]; exact pgOK_bytes a ha) (by rw [hy]; exact pgOK_bytes b hb)
  rw [this, hx, hy, hd]
  congr 3
  rw [Bool.eq_iff_iff, decide_eq_true_iff]
  constructor
  · intro h e
    subst e
    rw [valEq_self] at h
    cases h
  · intro h
    rcases hv : valEq (.agg (a.map (Value.int .u8)).toArray) (.agg (b.map (Value.int .u8)).toArray) with _ | _
    · rfl
    · exact absurd (bytesV_inj (by have := (valEq_iff _ _).1 hv; injection this)) h
section
attribute [local go_sem ↓] load26 store26 alloc26 build26
def SaRel (w : World) (la lb : List (List Int)) (v : Value) (wr : World) : Prop := ∃ k : Nat, v = .int .i64 (k : Int) ∧ k ≤ la.length ∧ la.take k = lb.take k ∧ Kp NoB w wr
end
end Go.Proofs.Ytegcbdfilkecpaa
