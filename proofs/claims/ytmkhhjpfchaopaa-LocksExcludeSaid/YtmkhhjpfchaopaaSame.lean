/- The program and the reference give the same answers; no condition. -/
import Derived.Test.YtmkhhjpfchaopaaLook
import Derived.Deep.MidRow
namespace Go.Proofs.Ytmkhhjpfchaopaa
open Go.RowKit

/-- a script that came in: n steps of four numbers each -/
def Scr (w : World) (A : Option Addr) (n : Nat) : Prop :=
  0 < n → ∃ sb so, A = some ⟨sb, so, none⟩ ∧ sb < w.heap.size ∧ ∀ k, k < n → ∃ d a c l : Int, w.cell? ⟨sb, so + k * 4, none⟩ = some (.int .i64 d) ∧
    w.cell? ⟨sb, so + k * 4 + 1, none⟩ = some (.int .i64 a) ∧ w.cell? ⟨sb, so + k * 4 + 2, none⟩ = some (.int .i64 c) ∧ w.cell? ⟨sb, so + k * 4 + 3, none⟩ = some (.int .i64 l)

def Rng (hs : List Int) : Prop := ∀ o : Nat, 0 ≤ hs[o]?.getD 0 ∧ hs[o]?.getD 0 ≤ 3

def OnP (tp : Option Addr) : Nat → Prop := fun k => tp = some ⟨k, 0, none⟩
theorem others_iff (hs : List Int) (c l : Int) : others hs c l 0 = true ↔ ∃ o : Nat, o < 8 ∧ ¬ (o : Int) = c ∧ l ≤ hs[o]?.getD 0 := by
  unfold others
  simp only [List.any_eq_true, List.mem_range'_1, Bool.and_eq_true, decide_eq_true_eq]
  constructor
  · rintro ⟨o, h1, h2, h3⟩; exact ⟨o, by omega, h2, by simpa using h3⟩
  · rintro ⟨o, h1, h2, h3⟩; exact ⟨o, by omega, h2, by simpa using h3⟩
/-- the program and the reference say the same -/
theorem free_same (hs : List Int) (c l : Int) (hr : Rng hs) (h0 : 0 ≤ l) (h3 : l ≤ 3) : freeI hs c l = freeR hs c l := by
  by_cases h : ∀ o, o < 8 → ¬ blockR hs c l o
  · rw [freeR_yes hs c l h]
    have no : ∀ m : Int, (∀ o : Nat, o < 8 → ¬ (o : Int) = c → hs[o]?.getD 0 < m) → others hs c m 0 = false := by
      intro m hm
      cases hx : others hs c m 0
      · rfl
      · obtain ⟨o, q1, q2, q3⟩ := (others_iff hs c m).1 hx
        have := hm o q1 q2
        omega
    unfold blockR at h
    unfold freeI
    split
    · rw [no 1 (fun o q1 q2 => by have := h o q1; have := hr o; omega), no 2 (fun o q1 q2 => by have := h o q1; have := hr o; omega), no 3 (fun o q1 q2 => by have := h o q1; have := hr o; omega)]; rfl
    · split
      · rw [no 2 (fun o q1 q2 => by have := h o q1; have := hr o; omega), no 3 (fun o q1 q2 => by have := h o q1; have := hr o; omega)]; rfl
      · split
        · rw [no 3 (fun o q1 q2 => by have := h o q1; have := hr o; omega)]; rfl
        · rfl
  · obtain ⟨o, h⟩ := Classical.not_forall.1 h
    obtain ⟨ho, hb⟩ := Classical.not_imp.1 h
    have hb := Classical.not_not.1 hb
    rw [freeR_no hs c l o ho hb]
    unfold blockR at hb
    obtain ⟨hc, hb⟩ := hb
    have hro := hr o
    have yes : ∀ m : Int, m ≤ hs[o]?.getD 0 → others hs c m 0 = true := fun m hm => (others_iff hs c m).2 ⟨o, ho, hc, hm⟩
    unfold freeI
    split
    · rw [yes 1 (by omega)]; rfl
    · split
      · rw [yes 2 (by omega)]; rfl
      · split
        · rw [yes 3 (by omega)]; rfl
        · omega
noncomputable def takeT (is : Bool) (hs : List Int) (c l : Int) : Int × List Int := if is then takeI hs c l else (1, hs)
noncomputable def dropT (is : Bool) (hs : List Int) (c l : Int) : Int × List Int := if is then dropI hs c l else (1, hs)
theorem take_same (is : Bool) (hs : List Int) (c l : Int) (hr : Rng hs) : takeT is hs c l = takeR is hs c l := by
  unfold takeT takeI takeR
  cases is
  · simp [wrongR]
  · rcases wrongI_cases c l with ⟨h, hb⟩ | ⟨h, q0, q1, q2, q3⟩
    · rcases wrongR_cases true c l with ⟨h', hi⟩ | ⟨h', hi, hb'⟩ | ⟨h', hi, p0, p1, p2, p3⟩
      · simp at hi
      · simp [h, h']
      · omega
    · rcases wrongR_cases true c l with ⟨h', hi⟩ | ⟨h', hi, hb'⟩ | ⟨h', hi, p0, p1, p2, p3⟩
      · simp at hi
      · omega
      · simp [h, h', free_same hs c l hr q2 q3]
theorem drop_same (is : Bool) (hs : List Int) (c l : Int) (h8 : hs.length = 8) : dropT is hs c l = dropR is hs c l := by
  unfold dropT dropI dropR
  cases is
  · simp [wrongR]
  · rcases wrongI_cases c l with ⟨h, hb⟩ | ⟨h, q0, q1, q2, q3⟩
    · rcases wrongR_cases true c l with ⟨h', hi⟩ | ⟨h', hi, hb'⟩ | ⟨h', hi, p0, p1, p2, p3⟩
      · simp at hi
      · simp [h, h']
      · omega
    · rcases wrongR_cases true c l with ⟨h', hi⟩ | ⟨h', hi, hb'⟩ | ⟨h', hi, p0, p1, p2, p3⟩
      · simp at hi
      · omega
      · simp only [h, h', if_true]
        by_cases hl : l < hs.getD c.toNat 0
        · rw [if_pos hl, Int.min_eq_right (by omega)]; simp
        · rw [if_neg hl, Int.min_eq_left (by omega)]
          simp only [ne_eq, not_true_eq_false, if_false, Prod.mk.injEq, true_and]
          have hc : c.toNat < hs.length := by omega
          rw [List.getD_eq_getElem?_getD, List.getElem?_eq_getElem hc]
          simp
theorem take_any (w : World) (tp : Option Addr) (is : Bool) (hs : List Int) (c l : Int) (h : TP w tp is hs) (hr : Rng hs) (x : Int) (hs' : List Int) (hx : takeR is hs c l = (x, hs')) :
    Calls Try.prog 7 #[.pointer tp, .int .i64 c, .int .i64 l] w fun e w' => e = .returned (.int .i64 x) ∧ TP w' tp is hs' ∧ Kp (OnP tp) w w' := by
  rw [← take_same is hs c l hr] at hx
  rcases h with ⟨rfl, rfl, rfl⟩ | ⟨b, rfl, rfl, hT⟩
  · simp only [takeT, Bool.false_eq_true, if_false, Prod.mk.injEq] at hx
    obtain ⟨rfl, rfl⟩ := hx
    exact (take_nil w c l).mono fun _ w' q => ⟨q.1, .inl ⟨rfl, rfl, rfl⟩, by rw [← q.2]; exact Kp.refl _ _⟩
  · simp only [takeT, if_true] at hx
    refine (take_is w b hs c l x hs' hT hx).mono fun _ w' q => ⟨q.1, .inr ⟨b, rfl, rfl, q.2.1⟩, q.2.2.mono (fun i _ e => by unfold OnB at e; unfold OnP; rw [e])⟩
theorem drop_any (w : World) (tp : Option Addr) (is : Bool) (hs : List Int) (c l : Int) (h : TP w tp is hs) (x : Int) (hs' : List Int) (hx : dropR is hs c l = (x, hs')) :
    Calls Try.prog 9 #[.pointer tp, .int .i64 c, .int .i64 l] w fun e w' => e = .returned (.int .i64 x) ∧ TP w' tp is hs' ∧ Kp (OnP tp) w w' := by
  rw [← drop_same is hs c l h.len] at hx
  rcases h with ⟨rfl, rfl, rfl⟩ | ⟨b, rfl, rfl, hT⟩
  · simp only [dropT, Bool.false_eq_true, if_false, Prod.mk.injEq] at hx
    obtain ⟨rfl, rfl⟩ := hx
    exact (drop_nil w c l).mono fun _ w' q => ⟨q.1, .inl ⟨rfl, rfl, rfl⟩, by rw [← q.2]; exact Kp.refl _ _⟩
  · simp only [dropT, if_true] at hx
    have := drop_ok w b hs c l hT
    rw [hx] at this
    refine this.mono fun _ w' q => ⟨q.1, .inr ⟨b, rfl, rfl, q.2.1⟩, q.2.2.mono (fun i _ e => by unfold OnB at e; unfold OnP; rw [e])⟩
theorem Rng.set {hs : List Int} (h : Rng hs) (k : Nat) (l : Int) (h0 : 0 ≤ l) (h3 : l ≤ 3) : Rng (hs.set k l) := by
  intro o
  rw [List.getElem?_set]
  have := h o
  split
  · split
    · simp; omega
    · simp
  · exact this
theorem takeR_rng (is : Bool) (hs : List Int) (c l : Int) (hr : Rng hs) : Rng (takeR is hs c l).2 := by
  rcases wrongR_cases is c l with ⟨h', hi⟩ | ⟨h', hi, hb'⟩ | ⟨h', hi, p0, p1, p2, p3⟩
  · simp [takeR, h']; exact hr
  · simp [takeR, h']; exact hr
  · simp only [takeR, h', ne_eq, not_true_eq_false, if_false]
    split
    · exact hr
    · split
      · exact hr.set _ _ p2 p3
      · exact hr
theorem dropR_rng (is : Bool) (hs : List Int) (c l : Int) (hr : Rng hs) : Rng (dropR is hs c l).2 := by
  rcases wrongR_cases is c l with ⟨h', hi⟩ | ⟨h', hi, hb'⟩ | ⟨h', hi, p0, p1, p2, p3⟩
  · simp [dropR, h']; exact hr
  · simp [dropR, h']; exact hr
  · simp only [dropR, h', ne_eq, not_true_eq_false, if_false]
    split
    · exact hr.set _ _ p2 p3
    · exact hr

structure PInv (w : World) (g3 g4 : Nat) (p0 p1 : Option Addr) (i0 i1 : Bool) (h0 h1 : List Int) (wr : World) : Prop where
  kp : Kp NoB w wr
  g3w : w.heap.size ≤ g3
  g4w : w.heap.size ≤ g4
  b3 : Blk wr g3 26 #[.pointer p0, .pointer p1]
  b4 : Blk wr g4 30 (refL i0 h0 ++ refL i1 h1).toArray
  t0 : TP wr p0 i0 h0
  t1 : TP wr p1 i1 h1
  r0 : Rng h0
  r1 : Rng h1
  f0 : ∀ b, p0 = some ⟨b, 0, none⟩ → w.heap.size ≤ b ∧ p1 ≠ some ⟨b, 0, none⟩
  f1 : ∀ b, p1 = some ⟨b, 0, none⟩ → w.heap.size ≤ b

theorem Rng.zero : Rng (List.replicate 8 0) := by
  intro o
  rw [List.getElem?_replicate]
  split <;> simp

end Go.Proofs.Ytmkhhjpfchaopaa
