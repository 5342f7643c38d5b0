/- The stand-in disk: Restart, its plain parts; no condition. -/
import Derived.Test.YtdgjglocgdccbaaDkSurv
namespace Go.Proofs.Ytdgjglocgdccbaa
open Go.RowKit

/-- a slice of numbers in memory -/
def Nums (w : World) (A : Option Addr) (n : Nat) (xs : List Int) : Prop :=
  xs.length = n ∧ (0 < n → ∃ g o, A = some ⟨g, o, none⟩ ∧ g < w.heap.size ∧ ∀ k, k < n → w.cell? ⟨g, o + k, none⟩ = some (.int .i64 (xs.getD k 0)))
theorem Nums.keep {S : Nat → Prop} {w w' : World} {A : Option Addr} {n : Nat} {xs : List Int} (h : Nums w A n xs) (k : Kp S w w') (hS : ∀ g o, A = some ⟨g, o, none⟩ → ¬ S g) : Nums w' A n xs :=
  ⟨h.1, fun hn => by
    obtain ⟨g, o, e, hg, hc⟩ := h.2 hn
    exact ⟨g, o, e, Nat.lt_of_lt_of_le hg k.size, fun j hj => (k.cell hg (hS g o e)).trans (hc j hj)⟩⟩
theorem survive_snoc (p : Pl) : ∀ (cs : List Cg) (chs : List Int), cs.length = chs.length → ∀ (c : Cg) (ch : Int), p.survive (cs ++ [c]) (chs ++ [ch]) = ((p.survive cs chs).at_).setKept c.nm (Pl.made ((p.survive cs chs).kept c.nm) c ch) := by
  intro cs
  induction cs generalizing p with
  | nil =>
    intro chs h c ch
    have : chs = [] := List.eq_nil_of_length_eq_zero (by simpa using h.symm)
    subst this
    simp [Pl.survive]
  | cons x cs ih =>
    intro chs h c ch
    cases chs with
    | nil => simp at h
    | cons y chs =>
      simp only [List.cons_append, Pl.survive]
      exact ih _ chs (by simpa using h) c ch
theorem survive_more (p : Pl) : ∀ (cs ds : List Cg) (chs : List Int), chs.length ≤ cs.length → p.survive (cs ++ ds) chs = p.survive cs chs := by
  intro cs
  induction cs generalizing p with
  | nil =>
    intro ds chs h
    have : chs = [] := List.eq_nil_of_length_eq_zero (by simpa using h)
    subst this
    cases ds <;> simp [Pl.survive]
  | cons x cs ih =>
    intro ds chs h
    cases chs with
    | nil => simp [Pl.survive]
    | cons y chs =>
      simp only [List.cons_append, Pl.survive]
      exact ih _ ds chs (by simpa using h)
theorem survive_take (p : Pl) : ∀ (cs : List Cg) (chs : List Int), p.survive cs (chs.take cs.length) = p.survive cs chs := by
  intro cs
  induction cs generalizing p with
  | nil => intro chs; cases chs <;> simp [Pl.survive]
  | cons x cs ih =>
    intro chs
    cases chs with
    | nil => simp [Pl.survive]
    | cons y chs =>
      simp only [List.length_cons, List.take_succ_cons, Pl.survive]
      exact ih _ chs
theorem survive_pd (p : Pl) : ∀ (cs : List Cg) (chs : List Int), (p.survive cs chs).pd = p.pd ∧ (p.survive cs chs).nf ≤ p.nf + cs.length ∧ (p.survive cs chs).starts = p.starts ∧ (p.survive cs chs).room = p.room ∧ (p.survive cs chs).steps = p.steps ∧ (p.survive cs chs).crash = p.crash ∧ (p.survive cs chs).down = p.down := by
  intro cs
  induction cs generalizing p with
  | nil => intro chs; cases chs <;> simp [Pl.survive]
  | cons x cs ih =>
    intro chs
    cases chs with
    | nil => simp [Pl.survive]
    | cons y chs =>
      simp only [Pl.survive]
      obtain ⟨h1, h2, h3, h4, h5, h6, h7⟩ := ih (p.at_.setKept x.nm (Pl.made (p.kept x.nm) x y)) chs
      refine ⟨h1, ?_, h3, h4, h5, h6, h7⟩
      simp only [List.length_cons]
      have : (p.at_.setKept x.nm (Pl.made (p.kept x.nm) x y)).nf = p.nf + 1 := rfl
      omega
/-- one change survived: the next step -/
theorem survive_next (p : Pl) (pd : List Cg) (chs : List Int) (i : Nat) (c : Cg) (hc : pd[i]? = some c) :
    (∀ ch, chs[i]? = some ch → p.survive (pd.take (i + 1)) (chs.take (i + 1)) = ((p.survive (pd.take i) (chs.take i)).at_).setKept c.nm (Pl.made ((p.survive (pd.take i) (chs.take i)).kept c.nm) c ch)) ∧
    (chs.length ≤ i → p.survive (pd.take (i + 1)) (chs.take (i + 1)) = p.survive (pd.take i) (chs.take i)) := by
  have hi : i < pd.length := (List.getElem?_eq_some_iff.1 hc).1
  refine ⟨fun ch hch => ?_, fun hle => ?_⟩
  · have hi2 : i < chs.length := (List.getElem?_eq_some_iff.1 hch).1
    rw [List.take_add_one, hc, List.take_add_one, hch]
    exact survive_snoc p _ _ (by simp; omega) c ch
  · rw [List.take_of_length_le (l := chs) (i := i + 1) (by omega), List.take_of_length_le (l := chs) (i := i) hle, List.take_add_one, hc]
    exact survive_more p _ _ _ (by rw [List.length_take]; omega)
/-- the files that the range has met: what is seen is what is kept -/
def turnF (left : List UInt8 → Bool) (fs : List Fe) : List Fe := fs.map fun e => if left (kOf e.nm) then e else { e with seen := e.kept }
theorem turnF_step {fs : List Fe} (hn : Names fs) {left : List UInt8 → Bool} {e : Fe} (he : e ∈ fs) :
    putF (turnF left fs) { e with seen := e.kept } = turnF (fun z => left z && !(z == kOf e.nm)) fs := by
  induction fs with
  | nil => simp at he
  | cons y r ih =>
    obtain ⟨h1, h2⟩ := List.pairwise_cons.1 hn
    have hnm : kOf (if left (kOf y.nm) then y else { y with seen := y.kept }).nm = kOf y.nm := by split <;> rfl
    rcases List.mem_cons.1 he with rfl | he'
    · simp only [turnF, List.map_cons, putF]
      rw [if_pos (by split <;> rfl)]
      have : (left (kOf e.nm) && !(kOf e.nm == kOf e.nm)) = false := by simp
      simp only [this, Bool.false_eq_true, if_false]
      congr 1
      apply List.map_congr_left
      intro z hz
      have h3 := h1 z hz
      have : (kOf z.nm == kOf e.nm) = false := by simpa using fun q => h3 q.symm
      simp only [this, Bool.not_false, Bool.and_true]
    · have h3 := h1 e he'
      simp only [turnF, List.map_cons, putF]
      rw [if_neg (by rw [hnm]; exact h3)]
      have : (kOf y.nm == kOf e.nm) = false := by simpa using h3
      simp only [this, Bool.not_false, Bool.and_true]
      congr 1
      exact ih h2 he'
theorem turnF_all (fs : List Fe) : turnF (fun _ => true) fs = fs := by unfold turnF; simp
theorem turnF_none {left : List UInt8 → Bool} {fs : List Fe} (h : ∀ k, left k = false) : turnF left fs = fs.map fun e => { e with seen := e.kept } := by unfold turnF; simp [h]
theorem turnF_same {l l' : List UInt8 → Bool} {fs : List Fe} (h : ∀ e ∈ fs, l (kOf e.nm) = l' (kOf e.nm)) : turnF l fs = turnF l' fs := by
  unfold turnF
  apply List.map_congr_left
  intro e he
  rw [h e he]
theorem seenOf_kept (fs : List Fe) : seenOf (fs.map fun e => { e with seen := e.kept }) = keptOf fs ∧ keptOf (fs.map fun e => { e with seen := e.kept }) = keptOf fs ∧ allSum (fs.map fun e => { e with seen := e.kept }) = allKept fs ∧ allKept (fs.map fun e => { e with seen := e.kept }) = allKept fs := by
  refine ⟨?_, ?_, ?_, ?_⟩
  · funext s
    induction fs with
    | nil => rfl
    | cons y r ih =>
      rw [List.map_cons, seenOf_cons, keptOf_cons, ih]
  · funext s
    induction fs with
    | nil => rfl
    | cons y r ih =>
      rw [List.map_cons, keptOf_cons, keptOf_cons, ih]
  · unfold allSum allKept
    rw [List.map_map]
    rfl
  · unfold allKept
    rw [List.map_map]
    rfl
/-- the disk's cells stored anew, without changes -/
theorem Dk.reset {n0 : Nat} {w w' : World} {x : Dd} (h : Dk n0 w x) (k : Kp (OnB x.db) w w') (starts : Int)
    (hb : Blk w' x.db 64 #[.map (some x.mb), .slice none 0 0, .int .i64 x.room, .int .i64 0, .int .i64 0, .bool false, .int .i64 starts]) :
    Dk n0 w' { x with pv := .slice none 0 0, pd := [], steps := 0, crash := 0, down := false, starts := starts } := by
  obtain ⟨D, hD, hM⟩ := h.mp
  have hmb : ¬ OnB x.db x.mb := by
    intro q
    obtain ⟨es, cl, hm, _⟩ := hD
    have := h.blk
    unfold Blk at this
    rw [← show x.mb = x.db from q, hm] at this
    cases this
  exact { h with
    blk := hb
    mp := ⟨D, k.map hD hmb, hM⟩
    fls := fun e he => (h.fls e he).keep k (by obtain ⟨u, v, hb', _⟩ := (h.fls e he).blk; exact onb_cells h.blk hb' (by decide)) (fun g cs hc => onb_cells h.blk hc (by decide))
    pend := World.ownsRow_nil _ _ _ _
    s64 := by simp
    c0 := by simp }
end Go.Proofs.Ytdgjglocgdccbaa
