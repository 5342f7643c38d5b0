/- DiskSteps in plain Lean: writes to one file; no condition. -/
import Derived.Test.YtdgjglocgdccbaaDkDa
namespace Go.Proofs.Ytdgjglocgdccbaa
open Go

theorem and4095 (x : Int) : 0 ≤ bits BinOp.and IntKind.i64 x 4095 ∧ bits BinOp.and IntKind.i64 x 4095 ≤ 4095 := by
  have h2 : (BitVec.ofInt 64 (4095 : Int)).toNat = 4095 := by decide
  have e : bits BinOp.and IntKind.i64 x 4095 = IntKind.i64.wrap ((BitVec.ofInt 64 x &&& BitVec.ofInt 64 (4095 : Int)).toNat : Int) := rfl
  rw [e, BitVec.toNat_and, h2, IntKind.wrap_i64]
  have h3 : (BitVec.ofInt 64 x).toNat &&& 4095 ≤ 4095 := Nat.and_le_right
  omega
/-- the disk's state behind i writes, a crash told at c -/
structure StI (c : Int) (i : Nat) (p : Pl) : Prop where
  down : p.down = decide (1 ≤ c ∧ c ≤ i)
  crash : p.crash = if 1 ≤ c ∧ (i : Int) < c then c - i else 0
  room : p.room = 200000
  len : (p.seen nmF).length ≤ 6095
  sum : p.sum = (p.seen nmF).length
  kept : p.kept nmF = [] ∧ p.ksum = 0
  nf : p.nf ≤ 2 * i
  pd : p.pd.length ≤ 200 * i
theorem StI.start (c : Int) : StI c 0 ((Pl.new 200000).crashIn c) where
  down := by simp [Pl.crashIn, Pl.new]; omega
  crash := by simp only [Pl.crashIn]; split <;> omega
  room := rfl
  len := by simp [Pl.crashIn, Pl.new]
  sum := rfl
  kept := ⟨rfl, rfl⟩
  nf := by simp [Pl.crashIn, Pl.new]
  pd := by simp [Pl.crashIn, Pl.new]
theorem put_len2 (l d : List Int) (a : Nat) (h : a + d.length ≤ l.length) : (Pl.put l a d).length = l.length := by unfold Pl.put; simp; omega
theorem length_props (p : Pl) (s : ByteArray) (n : Nat) :
    (p.length s n).seen = upd p.seen s (sizedF (p.seen s) n) ∧ (p.length s n).kept = p.kept ∧ (p.length s n).sum = p.sum - (p.seen s).length + n ∧ (p.length s n).ksum = p.ksum ∧ (p.length s n).nf = p.nf + 1 ∧ (p.length s n).pd.length ≤ p.pd.length + 1 ∧
    (p.length s n).room = p.room ∧ (p.length s n).steps = p.steps ∧ (p.length s n).crash = p.crash ∧ (p.length s n).down = p.down ∧ (p.length s n).starts = p.starts := by
  unfold Pl.length
  split
  · rename_i h
    subst h
    refine ⟨by rw [sizedF_self, upd_self]; rfl, rfl, by simp only [Pl.at_]; omega, rfl, rfl, by simp [Pl.at_], rfl, rfl, rfl, rfl, rfl⟩
  · refine ⟨rfl, rfl, ?_, rfl, rfl, by simp [Pl.pend, Pl.setSeen, Pl.at_], rfl, rfl, rfl, rfl, rfl⟩
    simp only [Pl.pend, Pl.setSeen, Pl.at_, sizedF_len]
theorem sectors_len (s : ByteArray) (l : List Int) (a e : Nat) : (Pl.sectors s l a e).length = (e + 63) / 64 - a / 64 := by unfold Pl.sectors; simp
theorem sizedF_grow (l : List Int) (n : Nat) (h : l.length ≤ n) : sizedF l n = l ++ List.replicate (n - l.length) 0 := by
  unfold sizedF
  split
  · have : n = l.length := by omega
    subst this; simp
  · rfl
/-- a file behind a write -/
def wrote (l : List Int) (a : Nat) (d : List Int) : List Int := Pl.put (if l.length < a + d.length then sizedF l (a + d.length) else l) a d
theorem wrote_len (l : List Int) (a : Nat) (d : List Int) : (wrote l a d).length = max l.length (a + d.length) := by
  unfold wrote
  split
  · rw [put_len2 _ _ _ (by rw [sizedF_len]; omega), sizedF_len]; omega
  · rw [put_len2 _ _ _ (by omega)]; omega
theorem write1_props (p : Pl) (s : ByteArray) (a : Nat) (d : List Int) :
    (p.write1 s a d).seen = upd p.seen s (wrote (p.seen s) a d) ∧ (p.write1 s a d).kept = p.kept ∧ (p.write1 s a d).sum = p.sum - (p.seen s).length + (max (p.seen s).length (a + d.length) : Nat) ∧ (p.write1 s a d).ksum = p.ksum ∧ (p.write1 s a d).nf ≤ p.nf + 2 ∧
    (p.write1 s a d).pd.length ≤ p.pd.length + 2 + (a + d.length + 63) / 64 ∧ (p.write1 s a d).room = p.room ∧ (p.write1 s a d).steps = p.step.steps ∧ (p.write1 s a d).crash = p.step.crash ∧ (p.write1 s a d).down = p.step.down ∧ (p.write1 s a d).starts = p.starts := by
  by_cases h : (p.seen s).length < a + d.length
  · obtain ⟨h1, h2, h3, h4, h5, h6, h7, h8, h9, h10, h11⟩ := length_props p s (a + d.length)
    have hs : (p.length s (a + d.length)).seen s = sizedF (p.seen s) (a + d.length) := by rw [h1, upd_same]
    have hw : Pl.put (sizedF (p.seen s) (a + d.length)) a d = wrote (p.seen s) a d := by unfold wrote; rw [if_pos h]
    have hl := wrote_len (p.seen s) a d
    refine ⟨?_, ?_, ?_, ?_, ?_, ?_, ?_, ?_, ?_, ?_, ?_⟩ <;> simp only [Pl.write1, if_pos h, Pl.step, Pl.pend, Pl.setSeen, Pl.at_, hs, hw]
    · rw [h1, upd_upd]
    · exact h2
    · rw [h3, sizedF_len, hl]; omega
    · exact h4
    · omega
    · rw [List.length_append, sectors_len]; omega
    · exact h7
    · rw [h8]
    · rw [h9]
    · rw [h9, h10]
    · exact h11
  · have hw : Pl.put (p.seen s) a d = wrote (p.seen s) a d := by unfold wrote; rw [if_neg h]
    have hl := wrote_len (p.seen s) a d
    refine ⟨?_, ?_, ?_, ?_, ?_, ?_, ?_, ?_, ?_, ?_, ?_⟩ <;> simp only [Pl.write1, if_neg h, Pl.step, Pl.pend, Pl.setSeen, Pl.at_, hw]
    · rw [hl]
    · omega
    · rw [List.length_append, sectors_len]; omega
theorem StI.write {c : Int} {i : Nat} {p : Pl} (h : StI c i p) (a : Int) (d : List Int) (ha : 0 ≤ a ∧ a ≤ 4095) (hd : d.length ≤ 2000) :
    p.writeE nmF a d = (if 1 ≤ c ∧ c ≤ (i : Int) + 1 then 7 else 0) ∧ StI c (i + 1) (p.write nmF a d) := by
  have hl := h.len
  by_cases hdn : 1 ≤ c ∧ c ≤ i
  · have hdown : p.down = true := by rw [h.down]; simpa using hdn
    refine ⟨by unfold Pl.writeE; rw [hdown, if_pos rfl, if_pos (by omega)], ?_⟩
    have e : p.write nmF a d = p := by unfold Pl.write; rw [if_pos (.inl hdown)]
    rw [e]
    exact { h with
      down := by rw [hdown]; symm; simp; omega
      crash := by rw [h.crash, if_neg (by omega), if_neg (by push_cast; omega)]
      nf := by have := h.nf; omega
      pd := by have := h.pd; omega }
  · have hdown : p.down = false := by rw [h.down]; simpa using hdn
    have hse : p.stepE = if 1 ≤ c ∧ c ≤ (i : Int) + 1 then 7 else 0 := by
      unfold Pl.stepE
      rw [h.crash]
      by_cases h1 : 1 ≤ c ∧ (i : Int) < c
      · rw [if_pos h1]
        by_cases h2 : c - i = 1
        · rw [if_pos h2, if_pos (by omega)]
        · rw [if_neg h2, if_neg (by omega)]
      · rw [if_neg h1, if_neg (by omega), if_neg (by omega)]
    have sc : p.step.crash = if 1 ≤ c ∧ ((i + 1 : Nat) : Int) < c then c - ((i + 1 : Nat) : Int) else 0 := by
      simp only [Pl.step, h.crash]
      by_cases h1 : 1 ≤ c ∧ (i : Int) < c
      · rw [if_pos h1, if_pos (by omega)]
        by_cases h2 : ((i + 1 : Nat) : Int) < c
        · rw [if_pos ⟨h1.1, h2⟩]; omega
        · rw [if_neg (by omega)]; omega
      · rw [if_neg h1, if_neg (by omega), if_neg (by omega)]
    have sd : p.step.down = decide (1 ≤ c ∧ c ≤ ((i + 1 : Nat) : Int)) := by
      simp only [Pl.step, h.crash, hdown]
      by_cases h1 : 1 ≤ c ∧ (i : Int) < c
      · rw [if_pos h1]
        by_cases h2 : c - i = 1
        · rw [if_pos h2]; symm; simp; omega
        · rw [if_neg h2]; symm; simp; omega
      · rw [if_neg h1, if_neg (by omega)]; symm; simp; omega
    by_cases hd0 : d = []
    · subst hd0
      refine ⟨?_, ?_⟩
      · unfold Pl.writeE
        rw [hdown, if_neg (by simp), if_neg (by omega), if_neg (by simp; omega), if_pos rfl, hse]
      · have e : p.write nmF a [] = p.step := by
          unfold Pl.write
          rw [if_neg (by simp [hdown]; omega), if_pos rfl]
        rw [e]
        exact
          { down := sd
            crash := sc
            room := h.room
            len := h.len
            sum := h.sum
            kept := h.kept
            nf := by have := h.nf; simp only [Pl.step]; omega
            pd := by have := h.pd; simp only [Pl.step]; omega }
    · have hfit : p.fits nmF (max (a + d.length) (p.seen nmF).length) = 0 := by
        unfold Pl.fits
        rw [if_neg (by omega), if_neg]
        rintro ⟨h1, h2⟩
        rw [h.sum, h.room, wrp_id (by omega)] at h2
        omega
      refine ⟨?_, ?_⟩
      · unfold Pl.writeE
        rw [hdown, if_neg (by simp), if_neg (by omega), if_neg (by omega), if_neg hd0, hfit, if_neg (by simp), hse]
      · have e : p.write nmF a d = p.write1 nmF a.toNat d := by
          unfold Pl.write
          rw [if_neg (by simp [hdown]; omega), if_neg hd0, hfit, if_neg (by simp)]
        rw [e]
        obtain ⟨h1, h2, h3, h4, h5, h6, h7, h8, h9, h10, h11⟩ := write1_props p nmF a.toNat d
        have hlen : ((p.write1 nmF a.toNat d).seen nmF).length = max (p.seen nmF).length (a.toNat + d.length) := by rw [h1, upd_same, wrote_len]
        exact
          { down := by rw [h10]; exact sd
            crash := by rw [h9]; exact sc
            room := by rw [h7]; exact h.room
            len := by rw [hlen]; omega
            sum := by rw [h3, hlen, h.sum]; omega
            kept := by rw [h2, h4]; exact h.kept
            nf := by have := h.nf; omega
            pd := by have := h.pd; omega }
/-- the last answers: a disk that is up and has no crash told -/
structure UpI (p : Pl) : Prop where
  down : p.down = false
  crash : p.crash = 0
  room : p.room = 200000
  len : (p.seen nmF).length ≤ 6095
  sum : p.sum = (p.seen nmF).length
  nf : p.nf ≤ 100000
  pd : p.pd.length ≤ 100000
theorem UpI.last {p : Pl} (h : UpI p) : p.writeE nmF 0 [120] = 0 ∧ (p.write nmF 0 [120]).syncE = 0 ∧ (p.write nmF 0 [120]).nf ≤ 100002 ∧ (p.write nmF 0 [120]).pd.length ≤ 100100 := by
  have hl := h.len
  have hse : p.stepE = 0 := by unfold Pl.stepE; rw [h.crash]; rfl
  have hfit : p.fits nmF (max (0 + (([120] : List Int).length : Int)) (p.seen nmF).length) = 0 := by
    unfold Pl.fits
    simp only [List.length_cons, List.length_nil]
    rw [if_neg (by omega), if_neg]
    rintro ⟨h1, h2⟩
    rw [h.sum, h.room, wrp_id (by omega)] at h2
    omega
  have e : p.write nmF 0 [120] = p.write1 nmF 0 [120] := by
    unfold Pl.write
    rw [if_neg (by simp [h.down]), if_neg (by simp), hfit, if_neg (by simp)]
    rfl
  obtain ⟨h1, h2, h3, h4, h5, h6, h7, h8, h9, h10, h11⟩ := write1_props p nmF 0 [120]
  refine ⟨?_, ?_, ?_, ?_⟩
  · unfold Pl.writeE
    rw [h.down, if_neg (by simp), if_neg (by omega), if_neg (by simp), if_neg (by simp), hfit, if_neg (by simp), hse]
  · rw [e]
    unfold Pl.syncE Pl.stepE
    rw [h10, h9]
    simp [Pl.step, h.crash, h.down]
  · rw [e]; have := h.nf; omega
  · rw [e]; have := h.pd; simp at h6; omega
theorem StI.up {c : Int} {i : Nat} {p : Pl} (h : StI c i p) (hi : i ≤ 20) (hc : ¬ (1 ≤ c ∧ c ≤ i)) : UpI (p.crashIn 0) where
  down := by show p.down = false; rw [h.down]; simpa using hc
  crash := rfl
  room := h.room
  len := h.len
  sum := h.sum
  nf := by have := h.nf; show p.nf ≤ _; omega
  pd := by have := h.pd; show p.pd.length ≤ _; omega
theorem StI.again {c : Int} {i : Nat} {p : Pl} (h : StI c i p) (hi : i ≤ 20) (hc : 1 ≤ c ∧ c ≤ i) : p.restartE = 0 ∧ UpI (p.restart []) := by
  have hd : p.down = true := by rw [h.down]; simpa using hc
  refine ⟨by unfold Pl.restartE; rw [hd]; rfl, ?_⟩
  have e : p.survive p.pd [] = p := by cases p.pd <;> rfl
  unfold Pl.restart
  rw [hd, if_pos rfl, e]
  exact
    { down := rfl
      crash := rfl
      room := h.room
      len := by show (p.kept nmF).length ≤ _; rw [h.kept.1]; simp
      sum := by show p.ksum = ((p.kept nmF).length : Nat); rw [h.kept.1, h.kept.2]; rfl
      nf := by have := h.nf; show p.nf ≤ _; omega
      pd := by simp }
end Go.Proofs.Ytdgjglocgdccbaa
