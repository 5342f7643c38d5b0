/- Texts of this proof, one behind the other: lemmas and contracts; each says its own conditions. -/
import Derived.Test.YtegcbdfilkecpaaM1
import Derived.Test.YtegcbdfilkecpaaM2
import Derived.Test.YtegcbdfilkecpaaM4
import Derived.Shelf.Abstract
/- The reference's disk: a step, Read, on the plain state; no condition but on the count of files. -/
namespace Go.Proofs.Ytegcbdfilkecpaa
open Go.RowKit

theorem step_okR (w : World) (d : Rd) (p : Pl) (h : Rf w d p) :
    Calls Try.prog 135 #[rdV d p] w fun e w' => e = .returned (.tuple #[rdV d p.step, .int .i64 p.stepE]) ∧ Rf w' d p.step ∧ Kp NoB w w' := by
  refine (rstep_ok w d p h).mono ?_
  rintro e w' ⟨rfl, hk⟩
  have hc := h.crash
  refine ⟨rfl, { h.keep hk with steps := ?_, crash := ?_ }, hk⟩
  · show -9223372036854775808 ≤ wrp (p.steps + 1) ∧ wrp (p.steps + 1) ≤ 9223372036854775807
    unfold wrp
    rw [IntKind.wrap_i64]
    omega
  · show 0 ≤ (if 0 < p.crash then p.crash - 1 else p.crash) ∧ (if 0 < p.crash then p.crash - 1 else p.crash) ≤ 9223372036854775807
    split <;> omega
theorem wrong_okR (w : World) (d : Rd) (p : Pl) (h : Rf w d p) :
    Calls Try.prog 134 #[rdV d p] w fun e w' => e = .returned (.int .i64 p.wrong) ∧ Kp NoB w w' := rwrong_ok w d p h
set_option maxRecDepth 100000 in
set_option maxHeartbeats 800000 in
theorem read_okR (w : World) (d : Rd) (p : Pl) (s : ByteArray) (a n : Int) (h : Rf w d p) (hnf : p.nf < 1099511627776) (ha : -9223372036854775808 ≤ a ∧ a ≤ 9223372036854775807) (hn : -9223372036854775808 ≤ n ∧ n ≤ 9223372036854775807) :
    Calls Try.prog 85 #[rdV d p, .string s, .int .i64 a, .int .i64 n] w fun e w' => e = .returned (.tuple #[.string (strOf (p.read s a n)), .int .i64 (p.readE a n)]) ∧ Kp NoB w w' := by
  have H := Lib.hid h
  have HNF := Lib.hid hnf
  obtain ⟨B, hB⟩ : ∃ B : Array Value, B = #[.bool true, .bool p.down, .slice d.fA d.fn d.fc, .slice d.pA d.pn d.pc, .int .i64 p.room, .int .i64 p.steps, .int .i64 p.crash, .int .i64 p.starts] := ⟨_, rfl⟩
  clear h hnf
  by_cases hd : p.down = true
  · have hw : Hid (p.wrong = 7) := Lib.hid (by unfold Pl.wrong; rw [hd]; rfl)
    have hR : Hid (strOf (p.read s a n) = ⟨#[]⟩ ∧ p.readE a n = 7) := Lib.hid (by
      have e : p.readE a n = 7 := by unfold Pl.readE; rw [if_pos hd]
      refine ⟨?_, e⟩
      unfold Pl.read
      rw [e, if_neg (by omega)]
      rfl)
    unfold rdV
    clear hB hd
    go_enter Try.func85, Try.ntmps85
    go_wp2_with fail
    refine (show Calls _ _ #[rdV d p] _ _ from (rwrong_ok _ d p (H.out.keep ((Kp.refl NoB w).alloc _)))).mono ?_
    rintro e w2 ⟨rfl, hk⟩
    rw [hw.out]
    have HK := Lib.hid hk
    clear hk
    go_wp2_with fail
    go_ret2
    exact ⟨by rw [hR.out.1, hR.out.2]; rfl, ((Kp.refl NoB w).alloc _).trans HK.out (fun _ _ q => q)⟩
  have hd' : p.down = false := by simpa using hd
  have hw : Hid (p.wrong = 0) := Lib.hid (by unfold Pl.wrong; rw [hd']; rfl)
  have HD := Lib.hid hd'
  by_cases hneg : a < 0 ∨ n < 0
  · have hR : Hid (strOf (p.read s a n) = ⟨#[]⟩ ∧ p.readE a n = 2) := Lib.hid (by
      have e : p.readE a n = 2 := by unfold Pl.readE; rw [if_neg hd, if_pos hneg]
      refine ⟨?_, e⟩
      unfold Pl.read
      rw [e, if_neg (by omega)]
      rfl)
    clear hB hd hd'
    rcases (show a < 0 ∨ (¬ a < 0 ∧ n < 0) by omega) with q | ⟨q1, q⟩
    all_goals
      unfold rdV
      go_enter Try.func85, Try.ntmps85
      go_wp2_with fail
      refine (show Calls _ _ #[rdV d p] _ _ from (rwrong_ok _ d p (H.out.keep ((Kp.refl NoB w).alloc _)))).mono ?_
      rintro e w2 ⟨rfl, hk⟩
      rw [hw.out]
      have HK := Lib.hid hk
      clear hk
      go_wp2_with fail
      go_ret2
      exact ⟨by rw [hR.out.1, hR.out.2]; rfl, ((Kp.refl NoB w).alloc _).trans HK.out (fun _ _ q => q)⟩
  · obtain ⟨i, hi⟩ : ∃ i : Nat, a = i := ⟨a.toNat, by omega⟩
    obtain ⟨m, hm⟩ : ∃ m : Nat, n = m := ⟨n.toNat, by omega⟩
    subst hi hm
    obtain ⟨l, hl⟩ : ∃ l, p.seen s = l := ⟨_, rfl⟩
    have HL := Lib.hid hl
    have hll : l.length ≤ 1048576 := by rw [← hl]; exact (H.out.look s).1.1
    have e0 : p.readE i m = 0 := by unfold Pl.readE; rw [if_neg hd, if_neg hneg]
    have HE := Lib.hid e0
    have hP : Hid (p.read s i m = (l.drop i).take m) := Lib.hid (by unfold Pl.read; rw [e0, if_pos rfl, hl]; rfl)
    have hs := strOf_size l
    have g1 : ¬ (i : Int) < 0 := by omega
    have g2 : ¬ (m : Int) < 0 := by omega
    clear hB hd hd' hneg hl e0
    have walk : ∀ (X : World → Prop), True := fun _ => trivial
    clear walk
    unfold rdV
    go_enter Try.func85, Try.ntmps85
    go_wp2_with fail
    refine (show Calls _ _ #[rdV d p] _ _ from (rwrong_ok _ d p (H.out.keep ((Kp.refl NoB w).alloc _)))).mono ?_
    rintro e w2 ⟨rfl, hk⟩
    rw [hw.out]
    have HK := Lib.hid (((Kp.refl NoB w).alloc _).trans hk (fun _ _ q => q))
    have b2 := (Blk.new w 56 #[.bool true, .bool p.down, .slice d.fA d.fn d.fc, .slice d.pA d.pn d.pc, .int .i64 p.room, .int .i64 p.steps, .int .i64 p.crash, .int .i64 p.starts]).keep hk (fun q => q)
    obtain ⟨c0, c1, c2, c3, c4, c5, c6, c7⟩ := b2.c8
    clear hk b2
    go_wp2_with fail
    refine (show Calls _ _ #[rdV d p, .string s] _ _ from (seen_ok _ d p s (H.out.keep HK.out) HNF.out)).mono ?_
    rintro e w3 ⟨rfl, hk⟩
    rw [HL.out]
    have HK3 := Lib.hid (HK.out.trans hk (fun _ _ q => q))
    clear hk c0 c1 c2 c3 c4 c5 c6 c7
    by_cases h1 : l.length ≤ i
    · have h1' : (l.length : Int) ≤ (i : Int) := by omega
      go_wp2_with fail
      go_ret2
      exact ⟨by rw [hP.out, HE.out, List.drop_eq_nil_of_le h1, List.take_nil]; rfl, HK3.out⟩
    · have h1' : ¬ (l.length : Int) ≤ (i : Int) := by omega
      have h2 : i ≤ l.length := by omega
      have x1 : ((strOf l).extract i l.length).size = l.length - i := by rw [ByteArray.size_extract]; omega
      have y1 : (strOf l).extract i l.length = strOf (l.drop i) := by rw [strOf_sub, List.take_of_length_le (by simp)]
      rw [y1] at x1
      by_cases h3 : m < l.length - i
      · have h3' : (m : Int) < ((l.length - i : Nat) : Int) := by omega
        have h4 : m ≤ l.length - i := by omega
        have hq : Hid (strOf ((l.drop i).take m) = (strOf (l.drop i)).extract 0 m) := Lib.hid (by rw [strOf_sub, List.drop_zero, Nat.sub_zero])
        go_wp2_with fail
        go_ret2
        exact ⟨by rw [hP.out, HE.out, hq.out]; rfl, HK3.out⟩
      · have h3' : ¬ (m : Int) < ((l.length - i : Nat) : Int) := by omega
        go_wp2_with fail
        go_ret2
        exact ⟨by rw [hP.out, HE.out, List.take_of_length_le (by simp; omega)]; rfl, HK3.out⟩
end Go.Proofs.Ytegcbdfilkecpaa
/- The reference's disk: New; no condition. -/
namespace Go.Proofs.Ytegcbdfilkecpaa
open Go.RowKit

set_option maxRecDepth 100000 in
set_option maxHeartbeats 800000 in
theorem newR_ok (w : World) (r : Int) (hr : -9223372036854775808 ≤ r ∧ r ≤ 9223372036854775807) :
    Calls Try.prog 26 #[.int .i64 r] w fun e w' => ∃ d, e = .returned (rdV d (Pl.new r)) ∧ Rf w' d (Pl.new r) ∧ Kp NoB w w' := by
  have key : Hid (∀ w' : World, Rf w' ⟨none, 0, 0, [], none, 0, 0⟩ (Pl.new r)) := Lib.hid (fun w' =>
    { files := ⟨rfl, by simp, fun h => absurd h (Nat.lt_irrefl 0)⟩, pend := ⟨rfl, by simp [Pl.new], fun h => absurd h (Nat.lt_irrefl 0)⟩, fnil := fun _ => ⟨rfl, rfl⟩, pnil := fun _ => ⟨rfl, rfl⟩
      fok := by simp, cok := by simp [Pl.new], names := List.Pairwise.nil, seen := rfl, kept := rfl, sum := rfl, ksum := rfl, nf := Nat.le_refl _
      room := by show 0 ≤ max 0 r ∧ max 0 r ≤ 9223372036854775807; omega
      steps := by simp [Pl.new], crash := by simp [Pl.new], starts := by simp [Pl.new] })
  by_cases h : r ≤ 0
  · have e : Hid (max 0 r = 0) := Lib.hid (by omega)
    go_enter Try.func26, Try.ntmps26
    go_wp2_with fail
    refine bodyPost_ret (results_cell_row rfl _ _ _ _ _ _ _ rfl (Blk.new _ _ _) Try.underlying56 rfl (by exact infoRd)) rfl ⟨⟨none, 0, 0, [], none, 0, 0⟩, ?_, key.out _, (Kp.refl NoB w).alloc _⟩
    unfold rdV Pl.new
    rw [e.out]
  · have e : Hid (max 0 r = r) := Lib.hid (by omega)
    have h' : 0 ≤ r := by omega
    go_enter Try.func26, Try.ntmps26
    go_wp2_with fail
    refine bodyPost_ret (results_cell_row rfl _ _ _ _ _ _ _ rfl (Blk.new _ _ _) Try.underlying56 rfl (by exact infoRd)) rfl ⟨⟨none, 0, 0, [], none, 0, 0⟩, ?_, key.out _, (Kp.refl NoB w).alloc _⟩
    unfold rdV Pl.new
    rw [e.out]
end Go.Proofs.Ytegcbdfilkecpaa
/- The rollback journal in plain Lean: its steps on the plain disk; no condition. -/
namespace Go.Proofs.Ytegcbdfilkecpaa
open Go

namespace Pl
end Pl
def four (n : Int) : List Int := [n / 16777216 % 256, n / 65536 % 256, n / 256 % 256, n % 256]
def num (l : List Int) (a : Nat) : Int := l.getD a 0 * 16777216 + l.getD (a + 1) 0 * 65536 + l.getD (a + 2) 0 * 256 + l.getD (a + 3) 0
/-- four words -/
structure W4 where
  a : Int
  b : Int
  c : Int
  d : Int
def W4.bytes (w : W4) : List Int := four w.a ++ four w.b ++ four w.c ++ four w.d
def wordsAt (l : List Int) (a : Nat) : W4 := ⟨num l a, num l (a + 4), num l (a + 8), num l (a + 12)⟩
/-- what a sealed sector says -/
def openB (l : List Int) : W4 := if l.take 16 = (l.drop 16).take 16 then wordsAt l 0 else wordsAt l 32
def says (l : List Int) : W4 := if l.length < 64 then ⟨0, 0, 0, 0⟩ else openB (l.take 64)
/-- a page with its number -/
structure Pg where
  n : Int
  b : List Int
namespace Pl
end Pl
/-- a record of the journal -/
def recB (x : Pg) : List Int := four x.n ++ zeros 60 ++ x.b
namespace Pl
end Pl
/-- how far the counts are from their bound -/
def Pl.sm (p : Pl) (k : Nat) : Prop := p.nf + p.pd.length + k < 1099511627776
theorem sm_mono {p : Pl} {a b : Nat} (h : p.sm a) (hb : b ≤ a) : p.sm b := by unfold Pl.sm at h ⊢; omega
theorem sectors_len (s : ByteArray) (l : List Int) (a e : Nat) : (Pl.sectors s l a e).length = (e + 63) / 64 - a / 64 := by simp [Pl.sectors]
theorem sm_write {p : Pl} {k : Nat} (s : ByteArray) (a : Int) (d : List Int) (h : p.sm (k + 20000)) : (p.write s a d).sm k := by
  unfold Pl.sm at h ⊢
  unfold Pl.write
  split
  · omega
  · rename_i h1
    split
    · simp only [Pl.step]; omega
    · split
      · omega
      · have e1 : (a.toNat + d.length + 63) / 64 - a.toNat / 64 ≤ 16386 := by omega
        unfold Pl.write1
        simp only [Pl.step, Pl.pend, Pl.setSeen, Pl.at_, List.length_append, sectors_len]
        split
        · unfold Pl.length
          split
          · simp only [Pl.at_]; omega
          · simp only [Pl.pend, Pl.setSeen, Pl.at_, List.length_append, List.length_cons, List.length_nil]; omega
        · omega
theorem sm_trunc {p : Pl} {k : Nat} (s : ByteArray) (n : Int) (h : p.sm (k + 20000)) : (p.trunc s n).sm k := by
  unfold Pl.sm at h ⊢
  unfold Pl.trunc
  split
  · omega
  · simp only [Pl.step]
    unfold Pl.length
    split
    · simp only [Pl.at_]; omega
    · simp only [Pl.pend, Pl.setSeen, Pl.at_, List.length_append, List.length_cons, List.length_nil]; omega
theorem sm_sync {p : Pl} {k : Nat} (s : ByteArray) (h : p.sm (k + 20000)) : (p.sync s).sm k := by
  unfold Pl.sm at h ⊢
  unfold Pl.sync
  split
  · omega
  · split
    · simp only [Pl.step]; omega
    · simp only [Pl.step, Pl.setKept, Pl.at_]
      have := List.length_filter_le (fun c : Cg => !decide (c.nm = s)) p.pd
      omega
end Go.Proofs.Ytegcbdfilkecpaa
/- The stand-in disk among a caller's own blocks; no condition but on the texts' lengths and the counts. -/
namespace Go.Proofs.Ytegcbdfilkecpaa
open Go.RowKit

/-- a disk at db: since W0 only blocks of S are changed, and all its blocks are of S or newer than W0 -/
def Dq (S : Nat → Prop) (W0 w : World) (db : Nat) (p : Pl) : Prop := ∃ x, x.db = db ∧ Dk 0 w x ∧ Of x p ∧ Kp S W0 w ∧ (∀ b, x.O b → S b ∨ W0.heap.size ≤ b) ∧ ∀ b, S b → b < W0.heap.size
section
variable {S : Nat → Prop} {W0 w w' : World} {db : Nat} {p p' : Pl}
theorem Dq.kp (h : Dq S W0 w db p) : Kp S W0 w := by
  obtain ⟨x, e, hd, hp, hk, ho, hs⟩ := h
  exact hk
theorem Dq.lt (h : Dq S W0 w db p) : ∀ b, S b → b < W0.heap.size := by
  obtain ⟨x, e, hd, hp, hk, ho, hs⟩ := h
  exact hs
theorem Dq.keep (h : Dq S W0 w db p) (k : Kp NoB w w') : Dq S W0 w' db p := by
  obtain ⟨x, e, hd, hp, hk, ho, hs⟩ := h
  exact ⟨x, e, hd.keep k (fun _ _ q => q) (fun _ _ _ q => q), hp, hk.trans k (fun _ _ q => q.elim), ho, hs⟩
/-- the base moved up to now -/
theorem Dq.base (h : Dq S W0 w db p) : ∃ S', Dq S' w w db p ∧ (∀ b, S' b → S b ∨ W0.heap.size ≤ b) := by
  obtain ⟨x, e, hd, hp, hk, ho, hs⟩ := h
  exact ⟨x.O, ⟨x, e, hd, hp, Kp.refl _ _, fun b q => .inl q, hd.lt⟩, ho⟩
theorem Dq.base1 (h : Dq S w w db p) (k : Kp NoB w w') : Dq S w' w' db p := by
  obtain ⟨x, e, hd, hp, hk, ho, hs⟩ := h
  refine ⟨x, e, hd.keep k (fun _ _ q => q) (fun _ _ _ q => q), hp, Kp.refl _ _, fun b hb => ?_, fun b hb => Nat.lt_of_lt_of_le (hs b hb) k.size⟩
  rcases ho b hb with q | q
  · exact .inl q
  · have := hd.lt b hb
    omega
theorem Dq.tr {S' : Nat → Prop} {w0 : World} (h : Dq S' w w' db p') (k : Kp S W0 w) (hS : ∀ b, S' b → S b ∨ W0.heap.size ≤ b) (hs : ∀ b, S b → b < W0.heap.size) : Dq S W0 w' db p' := by
  obtain ⟨x, e, hd, hp, hk, ho, _⟩ := h
  refine ⟨x, e, hd, hp, k.trans hk (fun b hb q => ?_), fun b hb => ?_, hs⟩
  · rcases hS b q with q | q
    · exact q
    · omega
  · rcases ho b hb with q | q
    · exact hS b q
    · exact .inr (Nat.le_trans k.size q)
theorem Dq.up (h : Dq S w' w' db p) (k : Kp NoB w w') (hs : ∀ b, S b → b < w.heap.size) {w2 : World} (h2 : Dq S w' w2 db p') : Dq S w w2 db p' :=
  Dq.tr (w0 := w) h2 (k.mono (fun _ _ q => q.elim)) (fun _ q => .inl q) hs
theorem dq_of {x : Dd} {n0 : Nat} (hd : x.db = db) (hk : Kp S W0 w) (ho : ∀ b, x.O b → S b ∨ W0.heap.size ≤ b) (hs : ∀ b, S b → b < W0.heap.size) (h : To 0 w x p' w') : Dq S W0 w' db p' := by
  obtain ⟨x', hd', hp, e, k, o⟩ := h
  refine ⟨x', e.trans hd, hd', hp, hk.trans k (fun i hi q => ?_), fun b hb => ?_, hs⟩
  · rcases ho i q with q | q
    · exact q
    · omega
  · rcases o b hb with q | q
    · exact ho b q
    · exact .inr (Nat.le_trans hk.size q)
theorem new_q (w : World) (r : Int) (hr : -9223372036854775808 ≤ r ∧ r ≤ 9223372036854775807) :
    Calls Try.prog 17 #[.int .i64 r] w fun e w' => ∃ db, e = .returned (ptrV db) ∧ Dq (fun _ => False) w w' db (Pl.new r) :=
  (new_ok w r hr 0 (Nat.zero_le _)).mono fun e w' ⟨db, mb, he, hd, k, h1, h2⟩ => ⟨db, he, _, rfl, hd, ⟨rfl, rfl, rfl, rfl, Nat.le_refl _, rfl, rfl, rfl, rfl, rfl, rfl⟩, k, by
    refine ⟨?_, fun b q => q.elim⟩
    rintro b (rfl | rfl | q | ⟨e, he, rfl⟩)
    · exact .inr h1
    · exact .inr h2
    · cases q
    · cases he⟩
theorem write_q (h : Dq S W0 w db p) (s : ByteArray) (a : Int) (d : ByteArray) (hs : s.size ≤ maxLen) (hds : d.size ≤ maxLen) (hm : p.sm 20000) :
    Calls Try.prog 78 #[ptrV db, .string s, .int .i64 a, .string d] w fun e w' => e = .returned (.int .i64 (p.writeE s a (strI d))) ∧ Dq S W0 w' db (p.write s a (strI d)) := by
  obtain ⟨x, rfl, hd, hp, hk, ho, hz⟩ := h
  unfold Pl.sm at hm
  exact (write_ok w _ x p s a d hd hp hs hds (Nat.zero_le _) (by omega) (by omega)).mono fun e w' ⟨he, ht⟩ => ⟨he, dq_of (n0 := 0) rfl hk ho hz ht⟩
theorem trunc_q (h : Dq S W0 w db p) (s : ByteArray) (n : Int) (hn : -9223372036854775808 ≤ n ∧ n ≤ 9223372036854775807) (hs : s.size ≤ maxLen) (hm : p.sm 20000) :
    Calls Try.prog 86 #[ptrV db, .string s, .int .i64 n] w fun e w' => e = .returned (.int .i64 (p.truncE s n)) ∧ Dq S W0 w' db (p.trunc s n) := by
  obtain ⟨x, rfl, hd, hp, hk, ho, hz⟩ := h
  unfold Pl.sm at hm
  exact (trunc_ok w _ x p s n hn hd hp hs (Nat.zero_le _) (by omega) (by omega)).mono fun e w' ⟨he, ht⟩ => ⟨he, dq_of (n0 := 0) rfl hk ho hz ht⟩
theorem sync_q (h : Dq S W0 w db p) (s : ByteArray) (hs : s.size ≤ maxLen) (hm : p.sm 20000) :
    Calls Try.prog 88 #[ptrV db, .string s] w fun e w' => e = .returned (.int .i64 p.syncE) ∧ Dq S W0 w' db (p.sync s) := by
  obtain ⟨x, rfl, hd, hp, hk, ho, hz⟩ := h
  unfold Pl.sm at hm
  exact (sync_ok w _ x p s hd hp hs (Nat.zero_le _) (by omega) (by omega)).mono fun e w' ⟨he, ht⟩ => ⟨he, dq_of (n0 := 0) rfl hk ho hz ht⟩
theorem read_q (h : Dq S W0 w db p) (s : ByteArray) (a n : Int) (hs : s.size ≤ maxLen) (ha : -9223372036854775808 ≤ a ∧ a ≤ 9223372036854775807) (hn : -9223372036854775808 ≤ n ∧ n ≤ 9223372036854775807) :
    Calls Try.prog 28 #[ptrV db, .string s, .int .i64 a, .int .i64 n] w fun e w' => e = .returned (.tuple #[.string (strOf (p.read s a n)), .int .i64 (p.readE a n)]) ∧ Kp NoB w w' := by
  obtain ⟨x, rfl, hd, hp, hk, ho, hz⟩ := h
  exact read_ok w _ x p s a n ha hn hd hp hs
theorem len_q (h : Dq S W0 w db p) (s : ByteArray) (hs : s.size ≤ maxLen) : Calls Try.prog 67 #[ptrV db, .string s] w fun e w' => e = .returned (.int .i64 (p.len s)) ∧ w = w' := by
  obtain ⟨x, rfl, hd, hp, hk, ho, hz⟩ := h
  exact len_ok w _ x p s hd hp hs
/-- what is known of the plain state behind a disk -/
theorem Dq.seen_le (h : Dq S W0 w db p) (s : ByteArray) : (p.seen s).length ≤ 1048576 := by
  obtain ⟨x, rfl, hd, hp, hk, ho, hz⟩ := h
  rw [hp.seen]
  exact Go.Proofs.Ytegcbdfilkecpaa.seen_le hd s
end
end Go.Proofs.Ytegcbdfilkecpaa
/- Pages of 256 bytes in memory, and how the walk reads and writes them whole; no condition. -/
namespace Go.Proofs.Ytegcbdfilkecpaa
open Go.RowKit

def zero256 : Array Value := bytesV (zeros 256)
theorem info26 : (Try.prog.info? 24).map (·.size) = some 256 := by kernel_rfl
theorem zeroValue26 (w : World) : (zeroValue 24).run Try.prog w = .ok (.agg zero256) w := by kernel_rfl

theorem load26 (w : World) (ev : Operand → Value) (ds : Option Tmp) (x : Operand) (ty : TypeId) (ps : String) (af : Array Edge) (g : Option (Nat × Bool)) (h : thereP w (ev x) 256) :
    (execOp ev ⟨ds, .load 24 x, ty, ps, af, g⟩).run Try.prog w = .ok (.value (.agg (readP w (ev x) 256))) w := execLoad_P Try.underlying24 rfl info26 w ev ds x ty ps af g h
theorem store26 (w : World) (ev : Operand → Value) (ds : Option Tmp) (x y : Operand) (ty : TypeId) (ps : String) (af : Array Edge) (g : Option (Nat × Bool)) (hv : aggOK (ev y) 256) (h : thereP w (ev x) 256) :
    (execOp ev ⟨ds, .store 24 x y, ty, ps, af, g⟩).run Try.prog w = .ok .skip (setP w (ev x) (ev y)) := execStore_P info26 w ev ds x y ty ps af g hv h
theorem alloc26 (w : World) (ev : Operand → Value) (ds : Option Tmp) (ty : TypeId) (ps : String) (af : Array Edge) (g : Option (Nat × Bool)) :
    (execOp ev ⟨ds, .alloc 24, ty, ps, af, g⟩).run Try.prog w = .ok (.value (.pointer (some ⟨w.heap.size, 0, none⟩))) (w.alloc (.cells zero256 24)) := by
  simp only [execOp, Instr.alloc, Sem.run_bind, zeroValue26, Result.andThen_ok]
  rfl
theorem build26 (w : World) (ev : Operand → Value) (ds : Option Tmp) (ty : TypeId) (ps : String) (af : Array Edge) (g : Option (Nat × Bool)) :
    (execOp ev ⟨ds, .build 24 #[], ty, ps, af, g⟩).run Try.prog w = .ok (.value (.agg zero256)) w := by
  kernel_rfl

theorem slice26lo (w : World) (ev : Operand → Value) (ds : Option Tmp) (x lo : Operand) (ty : TypeId) (ps : String) (af : Array Edge) (g : Option (Nat × Bool)) (h : sliceOK (ev x) (ev lo) (.int .i64 (256 : Nat)) 256) :
    (execOp ev ⟨ds, .slice 24 x (some lo) none none, ty, ps, af, g⟩).run Try.prog w = .ok (.value (sliceV (ev x) (ev lo) (.int .i64 (256 : Nat)) 256)) w := execSlice_lo Try.underlying24 infoU8 w ev ds x lo ty ps af g h
theorem slice26lohi (w : World) (ev : Operand → Value) (ds : Option Tmp) (x lo hi : Operand) (ty : TypeId) (ps : String) (af : Array Edge) (g : Option (Nat × Bool)) (h : sliceOK (ev x) (ev lo) (ev hi) 256) :
    (execOp ev ⟨ds, .slice 24 x (some lo) (some hi) none, ty, ps, af, g⟩).run Try.prog w = .ok (.value (sliceV (ev x) (ev lo) (ev hi) 256)) w := execSlice_lohi Try.underlying24 infoU8 w ev ds x lo hi ty ps af g h
end Go.Proofs.Ytegcbdfilkecpaa
/- Lists of structs that lie in memory, whoever they belong to: rows that are read; no condition. -/
namespace Go.Proofs.Ytegcbdfilkecpaa
open Go.RowKit

/-- a list of structs in memory that may be read -/
def RowsC (w : World) (A : Option Addr) (n : Nat) (sz : Nat) (xs : List (List Value)) : Prop :=
  xs.length = n ∧ (∀ x ∈ xs, x.length = sz) ∧ (0 < n → ∃ g o, A = some ⟨g, o, none⟩ ∧ g < w.heap.size ∧ ∀ k (h : k < xs.length) j (hj : j < sz), w.cell? ⟨g, o + k * sz + j, none⟩ = xs[k][j]? ∧ w.frozen? ⟨g, o + k * sz + j, none⟩ = false)
theorem RowsC.keepS {S : Nat → Prop} {w w' : World} {A : Option Addr} {n sz : Nat} {xs : List (List Value)} (h : RowsC w A n sz xs) (k : Kp S w w') (hA : ∀ g o, A = some ⟨g, o, none⟩ → 0 < n → ¬ S g) : RowsC w' A n sz xs :=
  ⟨h.1, h.2.1, fun hn => by
    obtain ⟨g, o, e, hg, hc⟩ := h.2.2 hn
    have hb := k.block g hg (hA g o e hn)
    exact ⟨g, o, e, Nat.lt_of_lt_of_le hg k.size, fun i hi j hj => ⟨(World.cell?_of_block (w := w) hb).trans (hc i hi j hj).1, (World.frozen?_of_block (w := w) hb).trans (hc i hi j hj).2⟩⟩⟩
theorem RowsC.keep {w w' : World} {A : Option Addr} {n sz : Nat} {xs : List (List Value)} (h : RowsC w A n sz xs) (k : Kp NoB w w') : RowsC w' A n sz xs := h.keepS k (fun _ _ _ _ q => q)
theorem RowsC.cell {w : World} {A : Option Addr} {n sz : Nat} {xs : List (List Value)} (h : RowsC w A n sz xs) {k : Nat} {x : List Value} (hk : xs[k]? = some x) : ∃ g o, A = some ⟨g, o, none⟩ ∧ g < w.heap.size ∧ ∀ j v, x[j]? = some v → w.cell? ⟨g, o + k * sz + j, none⟩ = some v := by
  obtain ⟨hk', rfl⟩ := List.getElem?_eq_some_iff.1 hk
  obtain ⟨g, o, e, hg, hc⟩ := h.2.2 (by have := h.1; omega)
  refine ⟨g, o, e, hg, fun j v hj => ?_⟩
  have hjl : j < sz := by
    rw [← h.2.1 _ (List.getElem_mem hk')]
    exact (List.getElem?_eq_some_iff.1 hj).1
  rw [(hc k hk' j hjl).1]
  exact hj
theorem RowsC.own {w : World} {base n cap sz : Nat} {e : TypeId} {A : Option Addr} {xs : List (List Value)} (h : w.ownsRow base e sz (.slice A n cap) n xs.flatten) (hl : xs.length = n) (hx : ∀ x ∈ xs, x.length = sz) : RowsC w A n sz xs :=
  ⟨hl, hx, fun hn => by
    obtain ⟨g, ds, rfl, hg, hb⟩ := own_blkN h hn
    refine ⟨g, 0, rfl, hb.lt, fun k hk j hj => ⟨?_, hb.frozen _⟩⟩
    have hlt : k * sz + j < xs.flatten.length := by
      rw [flat_len sz xs hx]
      have : (k + 1) * sz ≤ xs.length * sz := Nat.mul_le_mul_right _ hk
      rw [Nat.add_mul] at this
      omega
    rw [hb.cell]
    simp only [Nat.zero_add, List.getElem?_toArray]
    rw [List.getElem?_append_left hlt, flat_at sz xs hx k j hj hk]⟩
theorem RowsC.src {w : World} {n sz : Nat} {A : Option Addr} {xs : List (List Value)} (h : RowsC w A n sz xs) (hn : 0 < n) (hsz : 0 < sz) : ∃ g o, A = some ⟨g, o, none⟩ ∧ ∀ j u, xs.flatten[j]? = some u → w.cell? ⟨g, o + j, none⟩ = some u := by
  obtain ⟨g, o, rfl, hg, hc⟩ := h.2.2 hn
  refine ⟨g, o, rfl, fun j u hj => ?_⟩
  have hjl := (List.getElem?_eq_some_iff.1 hj).1
  rw [flat_len sz xs h.2.1] at hjl
  have hk : j / sz < xs.length := Nat.div_lt_of_lt_mul (by rw [Nat.mul_comm]; exact hjl)
  have hm : j % sz < sz := Nat.mod_lt _ hsz
  have e : j / sz * sz + j % sz = j := by rw [Nat.mul_comm]; exact Nat.div_add_mod j sz
  have h1 := flat_at sz xs h.2.1 (j / sz) (j % sz) hm hk
  rw [e, hj] at h1
  have h2 := (hc (j / sz) hk (j % sz) hm).1
  rw [Nat.add_assoc, e] at h2
  rw [h2, ← h1]
end Go.Proofs.Ytegcbdfilkecpaa
/- The journal's types in memory: sectors, words, numbered pages; no condition. -/
namespace Go.Proofs.Ytegcbdfilkecpaa
open Go.RowKit

theorem infoSec : (Try.prog.info? 146).map (·.size) = some 64 := by kernel_rfl
theorem zeroSec (w : World) : (zeroValue 146).run Try.prog w = .ok (.agg (bytesV (zeros 64))) w := by kernel_rfl
theorem loadSec (w : World) (ev : Operand → Value) (ds : Option Tmp) (x : Operand) (ty : TypeId) (ps : String) (af : Array Edge) (g : Option (Nat × Bool)) (h : thereP w (ev x) 64) :
    (execOp ev ⟨ds, .load 146 x, ty, ps, af, g⟩).run Try.prog w = .ok (.value (.agg (readP w (ev x) 64))) w := execLoad_P Try.underlying146 rfl infoSec w ev ds x ty ps af g h
theorem storeSec (w : World) (ev : Operand → Value) (ds : Option Tmp) (x y : Operand) (ty : TypeId) (ps : String) (af : Array Edge) (g : Option (Nat × Bool)) (hv : aggOK (ev y) 64) (h : thereP w (ev x) 64) :
    (execOp ev ⟨ds, .store 146 x y, ty, ps, af, g⟩).run Try.prog w = .ok .skip (setP w (ev x) (ev y)) := execStore_P infoSec w ev ds x y ty ps af g hv h
theorem allocSec (w : World) (ev : Operand → Value) (ds : Option Tmp) (ty : TypeId) (ps : String) (af : Array Edge) (g : Option (Nat × Bool)) :
    (execOp ev ⟨ds, .alloc 146, ty, ps, af, g⟩).run Try.prog w = .ok (.value (.pointer (some ⟨w.heap.size, 0, none⟩))) (w.alloc (.cells (bytesV (zeros 64)) 146)) := by
  simp only [execOp, Instr.alloc, Sem.run_bind, zeroSec, Result.andThen_ok]
  rfl
theorem infoW4 : (Try.prog.info? 102).map (·.size) = some 4 := by kernel_rfl
theorem loadW4 (w : World) (ev : Operand → Value) (ds : Option Tmp) (x : Operand) (ty : TypeId) (ps : String) (af : Array Edge) (g : Option (Nat × Bool)) (h : thereP w (ev x) 4) :
    (execOp ev ⟨ds, .load 102 x, ty, ps, af, g⟩).run Try.prog w = .ok (.value (.agg (readP w (ev x) 4))) w := execLoad_P Try.underlying102 rfl infoW4 w ev ds x ty ps af g h
theorem storeW4 (w : World) (ev : Operand → Value) (ds : Option Tmp) (x y : Operand) (ty : TypeId) (ps : String) (af : Array Edge) (g : Option (Nat × Bool)) (hv : aggOK (ev y) 4) (h : thereP w (ev x) 4) :
    (execOp ev ⟨ds, .store 102 x y, ty, ps, af, g⟩).run Try.prog w = .ok .skip (setP w (ev x) (ev y)) := execStore_P infoW4 w ev ds x y ty ps af g hv h
def w4A (w : W4) : Array Value := #[.int .u32 w.a, .int .u32 w.b, .int .u32 w.c, .int .u32 w.d]
/-- a page with its number, as a value -/
def pgL (x : Pg) : List Value := .int .i64 x.n :: x.b.map (Value.int .u8)
def pgA (x : Pg) : Array Value := (pgL x).toArray
structure PgOk (x : Pg) : Prop where
  len : x.b.length = 256
  rng : ∀ y ∈ x.b, 0 ≤ y ∧ y < 256
  n0 : -9223372036854775808 ≤ x.n ∧ x.n ≤ 9223372036854775807
theorem infoPgA : (Try.prog.info? 113).map (fun i => (i.zero, i.size, i.bytes)) = some (some (.agg ((#[.int .i64 0] : Array Value) ++ Array.replicate 256 (.int .u8 0))), 257, 264) := by kernel_rfl
theorem infoPgS : (Try.prog.info? 113).map (·.size) = some 257 := by kernel_rfl
theorem zeroPg (w : World) : (zeroValue 113).run Try.prog w = .ok (.agg (pgA ⟨0, zeros 256⟩)) w := by kernel_rfl
theorem loadPg (w : World) (ev : Operand → Value) (ds : Option Tmp) (x : Operand) (ty : TypeId) (ps : String) (af : Array Edge) (g : Option (Nat × Bool)) (h : thereP w (ev x) 257) :
    (execOp ev ⟨ds, .load 113 x, ty, ps, af, g⟩).run Try.prog w = .ok (.value (.agg (readP w (ev x) 257))) w := execLoad_P Try.underlying113 rfl infoPgS w ev ds x ty ps af g h
theorem storePg (w : World) (ev : Operand → Value) (ds : Option Tmp) (x y : Operand) (ty : TypeId) (ps : String) (af : Array Edge) (g : Option (Nat × Bool)) (hv : aggOK (ev y) 257) (h : thereP w (ev x) 257) :
    (execOp ev ⟨ds, .store 113 x y, ty, ps, af, g⟩).run Try.prog w = .ok .skip (setP w (ev x) (ev y)) := execStore_P infoPgS w ev ds x y ty ps af g hv h
theorem allocPg (w : World) (ev : Operand → Value) (ds : Option Tmp) (ty : TypeId) (ps : String) (af : Array Edge) (g : Option (Nat × Bool)) :
    (execOp ev ⟨ds, .alloc 113, ty, ps, af, g⟩).run Try.prog w = .ok (.value (.pointer (some ⟨w.heap.size, 0, none⟩))) (w.alloc (.cells (pgA ⟨0, zeros 256⟩) 113)) := by
  simp only [execOp, Instr.alloc, Sem.run_bind, zeroPg, Result.andThen_ok]
  rfl
theorem slicePg (w : World) (cs : Array Value) (hs : cs.size = 257) : (Instr.buildSlice 22 1 #[(0, .agg cs)]).run Try.prog w = .ok (.slice (some ⟨w.heap.size, 0, none⟩) 1 1) (w.alloc (.cells cs 113)) := by
  obtain ⟨i, hi, h0, h1, h2⟩ := info_parts infoPgA
  have hu := Try.underlying22
  have hc : (Value.agg cs).cells = cs := rfl
  have hf : ∀ Z : Array Value, Z.size = 257 → Instr.fill (fun i => some (i * 257, 257)) Z [(0, .agg cs)] = some cs := fun Z hZ => by
    have := Go.Great.fill_whole (s := 257) (by omega) [.agg cs] Z (by simp [hc, hs]) (by simp [hZ])
    simpa [hc] using this
  simp [Instr.buildSlice, run_underlying hu, sizeOf, typeInfo, hi, h1, zeroPg, newRow, newObj]
  rw [hf _ (by simp)]
  rfl
theorem exSlicePg (w : World) (ev : Operand → Value) (x : Operand) (cs : Array Value) (ds : Option Tmp) (ty : TypeId) (ps : String) (af : Array Edge) (g : Option (Nat × Bool)) (hx : ev x = .agg cs) (hs : cs.size = 257) :
    (execOp ev ⟨ds, .buildSlice 22 1 #[(0, x)], ty, ps, af, g⟩).run Try.prog w = .ok (.value (.slice (some ⟨w.heap.size, 0, none⟩) 1 1)) (w.alloc (.cells cs 113)) := by
  simp only [execOp, List.map_toArray, List.map_cons, List.map_nil, hx, Sem.run_bind, slicePg w cs hs, Result.andThen_ok]
  rfl
/-- a list of pages in memory -/
def PgsAt (w : World) (A : Option Addr) (n : Nat) (l : List Pg) : Prop := RowsC w A n 257 (l.map pgL)
theorem PgsAt.len {w : World} {A : Option Addr} {n : Nat} {l : List Pg} (h : PgsAt w A n l) : l.length = n := by have := h.1; simpa using this
theorem PgsAt.keep {w w' : World} {A : Option Addr} {n : Nat} {l : List Pg} (h : PgsAt w A n l) (k : Kp NoB w w') : PgsAt w' A n l := RowsC.keep h k
/-- one of its pages -/
theorem PgsAt.at_ {w : World} {A : Option Addr} {n : Nat} {l : List Pg} (h : PgsAt w A n l) (k : Nat) (hk : k < n) : ∃ g o, A = some ⟨g, o, none⟩ ∧ g < w.heap.size ∧ w.there g (o + k * 257) 257 ∧ readRow w g (o + k * 257) 257 = pgA (l[k]'(by rw [h.len]; exact hk)) := by
  have hkl : k < (l.map pgL).length := by have := h.1; omega
  obtain ⟨g, o, e, hg, hc⟩ := h.2.2 (by omega)
  have hl : ((l.map pgL)[k]).length = 257 := h.2.1 _ (List.getElem_mem hkl)
  have h2 : k * 257 + 257 ≤ n * 257 := by omega
  have ht : w.there g (o + k * 257) 257 := fun j hj => by
    obtain ⟨h5, h6⟩ := hc k hkl j hj
    refine ⟨?_, h6⟩
    rw [h5, List.getElem?_eq_getElem (by omega)]
    rfl
  refine ⟨g, o, e, hg, ht, ?_⟩
  unfold readRow pgA
  congr 1
  apply List.ext_getElem
  · simp only [List.getElem_map] at hl
    simp [hl]
  · intro j h1 h3
    have hj : j < 257 := by simpa using h1
    simp only [List.getElem_map, List.getElem_range]
    rw [(hc k hkl j hj).1]
    simp only [List.getElem_map]
    rw [List.getElem?_eq_getElem h3]
    rfl
end Go.Proofs.Ytegcbdfilkecpaa
/- The sealed sector: one of its copies read; no condition. -/
namespace Go.Proofs.Ytegcbdfilkecpaa
open Go.RowKit

theorem sliceSeclohi (w : World) (ev : Operand → Value) (ds : Option Tmp) (x lo hi : Operand) (ty : TypeId) (ps : String) (af : Array Edge) (g : Option (Nat × Bool)) (h : sliceOK (ev x) (ev lo) (ev hi) 64) :
    (execOp ev ⟨ds, .slice 146 x (some lo) (some hi) none, ty, ps, af, g⟩).run Try.prog w = .ok (.value (sliceV (ev x) (ev lo) (ev hi) 64)) w := execSlice_lohi Try.underlying146 infoU8 w ev ds x lo hi ty ps af g h
/-- four words, the first i read, the i-th under way -/
def uW (l : List Int) (a i : Nat) (x : Int) : List Int := (List.range 4).map fun j => if j < i then num l (a + 4 * j) else if j = i then x else 0
def uWA (l : List Int) (a i : Nat) (x : Int) : Array Value := ((uW l a i x).map (Value.int .u32)).toArray
theorem uWA_set (l : List Int) (a i : Nat) (x y : Int) (hi : i < 4) : (uWA l a i x).setIfInBounds i (.int .u32 y) = uWA l a i y := by
  rcases (show i = 0 ∨ i = 1 ∨ i = 2 ∨ i = 3 by omega) with rfl | rfl | rfl | rfl <;> rfl
/-- in the midst of words -/
structure WdS (w : World) (l : List Int) (a i : Nat) (x : Int) (W : World) : Prop where
  kp : Kp NoB w W
  b1 : Blk W w.heap.size 146 (bytesV l)
  b2 : Blk W (w.heap.size + 1) 102 #[.int .u32 0, .int .u32 0, .int .u32 0, .int .u32 0]
  b3 : Blk W (w.heap.size + 2) 102 (uWA l a i x)
theorem WdS.set_ {w : World} {l : List Int} {a i : Nat} {x : Int} {W : World} (h : WdS w l a i x W) (hi : i < 4) (y : Int) : WdS w l a i y (W.setCell ⟨w.heap.size + 2, i, none⟩ (.int .u32 y)) := by
  refine ⟨h.kp.setCell (p := ⟨w.heap.size + 2, i, none⟩) (.inl (by show _ ≤ w.heap.size + 2; omega)) _, h.b1.far (p := ⟨w.heap.size + 2, i, none⟩) (by simp) _, h.b2.far (p := ⟨w.heap.size + 2, i, none⟩) (by simp) _, ?_⟩
  have := h.b3.set_ i (.int .u32 y)
  rwa [uWA_set _ _ _ _ _ hi] at this
attribute [local go_sem ↓] loadSec storeSec allocSec sliceSeclohi loadW4 storeW4
end Go.Proofs.Ytegcbdfilkecpaa
/- A region with several ways that end alike: they are brought to one form; a long store among the ready operations; no condition. -/
namespace Go.Proofs.Ytegcbdfilkecpaa
open Go

def Into (F : Nat → Act) (G : World → Nat → Prop) : Exit → Act → World → Prop
  | .normal, a, w => ∃ g, a = F g ∧ G w g
  | _, _, _ => False
theorem wp_into {P : Program} {c : Code} {Q : Exit → Act → World → Prop} {a : Act} {w : World} (F : Nat → Act) (G : World → Nat → Prop) (h : c.wp P (Into F G) a w) (k : ∀ g w', G w' g → Q .normal (F g) w') : c.wp P Q a w :=
  Code.wp_mono (fun e a w q => by cases e <;> first | exact q.elim | (obtain ⟨g, rfl, hg⟩ := q; exact k g _ hg)) h
theorem into_of {F : Nat → Act} {G : World → Nat → Prop} {a : Act} {w : World} (g : Nat) (h : G w g) (e : a = F g) : Into F G .normal a w := ⟨g, e, h⟩

theorem AllReadyH.store {P : Program} {ops : Array Oper} {Q : Exit → Act → World → Prop} {md : Region.Mode} {S : World → Prop} {fuel : Nat} {listed : Array Bool} {a : Act} {w : World} {i : Nat} {o : Oper} {rs : List Nat} (ho : ops[i]? = some o)
    (hw : Region.wanted o (yielded ops a.tmps) = true) (ty : TypeId) (x y : Operand) (hop : o.op = .store ty x y) (b off : Nat) (cells : Array Value)
    (hx : a.eval x = .pointer (some ⟨b, off, none⟩)) (hy : a.eval y = .agg cells) (ht : w.there b off cells.size) (hi : (P.info? ty).map (·.size) = some cells.size) (h1 : cells.all (·.oneCell') = true)
    (hS : S (w.setCells b off cells.toList)) (hn : wpAnyH P md ops Q S fuel (listed.setIfInBounds i true) (a.put o.dst undef) (w.setCells b off cells.toList))
    (hs : AllReadyH P md ops Q S fuel listed a w rs) : AllReadyH P md ops Q S fuel listed a w (i :: rs) :=
  AllReadyH.cons ho (fun K hK => by rw [if_pos hw]; exact wp_store_mid ty x y hop b off cells hx hy ht hi h1 (hK.out _ _ hS (fun _ => hn))) hs
end Go.Proofs.Ytegcbdfilkecpaa
/- A region with several ways that end alike in two blocks and two values; a call, a value among the ready operations; no condition. -/
namespace Go.Proofs.Ytegcbdfilkecpaa
open Go

def Into4 (F : Nat → Nat → Value → Value → Act) (G : World → Nat → Nat → Value → Value → Prop) : Exit → Act → World → Prop
  | .normal, a, w => ∃ g h u v, a = F g h u v ∧ G w g h u v
  | _, _, _ => False
theorem wp_into4 {P : Program} {c : Code} {Q : Exit → Act → World → Prop} {a : Act} {w : World} (F : Nat → Nat → Value → Value → Act) (G : World → Nat → Nat → Value → Value → Prop) (h : c.wp P (Into4 F G) a w) (k : ∀ g h u v w', G w' g h u v → Q .normal (F g h u v) w') : c.wp P Q a w :=
  Code.wp_mono (fun e a w q => by cases e <;> first | exact q.elim | (obtain ⟨g, h, u, v, rfl, hg⟩ := q; exact k g h u v _ hg)) h
theorem into4_of {F : Nat → Nat → Value → Value → Act} {G : World → Nat → Nat → Value → Value → Prop} {a : Act} {w : World} (g h : Nat) (u v : Value) (q : G w g h u v) (e : a = F g h u v) : Into4 F G .normal a w := ⟨g, h, u, v, e, q⟩

section
variable {P : Program} {ops : Array Oper} {Q : Exit → Act → World → Prop} {md : Region.Mode} {S : World → Prop} {fuel : Nat} {listed : Array Bool} {a : Act} {w : World} {i : Nat} {rs : List Nat}
variable {ds : Option Tmp} {op : Op} {ty : TypeId} {ps : String} {af : Array Edge} {gd : Option (Nat × Bool)}
/-- a call among the ready operations: what is known behind it is R -/
theorem AllReadyH.callR (R : Value → World → Prop) (ho : ops[i]? = some ⟨ds, op, ty, ps, af, gd⟩) (hw : Region.wanted ⟨ds, op, ty, ps, af, gd⟩ (yielded ops a.tmps) = true) (f : FuncId) (args : Array Value)
    (hr : (execOp a.eval ⟨ds, op, ty, ps, af, gd⟩).run P w = .ok (.enter f args) w) (hS : ∀ v w', R v w' → S w') (hc : Calls P f args w fun e w' => ∃ v, e = .returned v ∧ R v w')
    (hn : ∀ v w', R v w' → wpAnyH P md ops Q S fuel (listed.setIfInBounds i true) (a.put ds v) w')
    (hs : AllReadyH P md ops Q S fuel listed a w rs) : AllReadyH P md ops Q S fuel listed a w (i :: rs) :=
  AllReadyH.cons ho (fun K hK => by
    rw [if_pos hw]
    unfold Oper.wp
    rw [hr, Oper.upon_enter]
    refine hc.mono ?_
    rintro e w' ⟨v, rfl, h⟩
    exact hK.out _ _ (hS v w' h) (fun _ => hn v w' h)) hs
/-- an operation that yields a value and turns the world: what is known behind it is R -/
theorem AllReadyH.valR (R : World → Prop) (ho : ops[i]? = some ⟨ds, op, ty, ps, af, gd⟩) (hw : Region.wanted ⟨ds, op, ty, ps, af, gd⟩ (yielded ops a.tmps) = true) (v : Value) (w' : World)
    (hr : (execOp a.eval ⟨ds, op, ty, ps, af, gd⟩).run P w = .ok (.value v) w') (hS : ∀ w', R w' → S w') (h : R w')
    (hn : ∀ w', R w' → wpAnyH P md ops Q S fuel (listed.setIfInBounds i true) (a.put ds v) w')
    (hs : AllReadyH P md ops Q S fuel listed a w rs) : AllReadyH P md ops Q S fuel listed a w (i :: rs) :=
  AllReadyH.cons ho (fun K hK => by
    rw [if_pos hw]
    unfold Oper.wp
    rw [hr, Oper.upon_value]
    exact hK.out _ _ (hS w' h) (fun _ => hn w' h)) hs
theorem AllReadyH.storeL {tx : TypeId} {x y : Operand} (ho : ops[i]? = some ⟨none, .store tx x y, ty, ps, af, gd⟩)
    (hw : Region.wanted ⟨none, .store tx x y, ty, ps, af, gd⟩ (yielded ops a.tmps) = true) (b off : Nat) (cells : Array Value)
    (hx : a.eval x = .pointer (some ⟨b, off, none⟩)) (hy : a.eval y = .agg cells) (ht : w.there b off cells.size) (hi : (P.info? tx).map (·.size) = some cells.size) (h1 : cells.all (·.oneCell') = true)
    (hS : S (w.setCells b off cells.toList)) (hn : wpAnyH P md ops Q S fuel (listed.setIfInBounds i true) a (w.setCells b off cells.toList))
    (hs : AllReadyH P md ops Q S fuel listed a w rs) : AllReadyH P md ops Q S fuel listed a w (i :: rs) :=
  AllReadyH.cons ho (fun K hK => by rw [if_pos hw]; exact wp_store_mid tx x y rfl b off cells hx hy ht hi h1 (hK.out _ _ hS (fun _ => hn))) hs
theorem wpAnyH_takeL {v : Value} (hi : ops[i]? = some ⟨ds, op, ty, ps, af, gd⟩)
    (hs : Region.noSelect ops = true) (hf : Region.free md ops listed i = true) (hr : (Region.ready md ops listed).contains i = true)
    (hQ : ∀ c a w, Q (.panic c) (a.put ds v) w → Q (.panic c) a w) (hy : YieldsIf P ops S ⟨ds, op, ty, ps, af, gd⟩ v a) (hS : S w)
    (h : wpAnyH P md ops Q S fuel (listed.setIfInBounds i true) (a.put ds v) w) : wpAnyH P md ops Q S (fuel + 1) listed a w :=
  wpAnyH_take hi hs hf hr hQ hy hS h
end
end Go.Proofs.Ytegcbdfilkecpaa
namespace Go.Proofs.Ytegcbdfilkecpaa
section
variable {P : Go.Program} {ops : Array Go.Oper} {Q : Go.Exit → Go.Act → Go.World → Prop} {md : Go.Region.Mode} {S : Go.World → Prop} {fuel : Nat} {listed : Array Bool} {a : Go.Act} {w : Go.World} {i : Nat}
variable {ds : Option Go.Tmp} {op : Go.Op} {ty : Go.TypeId} {ps : String} {af : Array Go.Edge} {gd : Option (Nat × Bool)}
theorem tkS {v : Go.Value} (hi : ops[i]? = some ⟨ds, op, ty, ps, af, gd⟩) (hy : Go.YieldsIf P ops S ⟨ds, op, ty, ps, af, gd⟩ v a) (hS : S w)
    (h : Go.wpAnyH P md ops Q S fuel (listed.setIfInBounds i true) (a.put ds v) w) (hQ : ∀ c a w, Q (.panic c) (a.put ds v) w → Q (.panic c) a w := by exact fun _ _ _ h => h)
    (hs : Go.Region.noSelect ops = true := by kernel_rfl) (hf : Go.Region.free md ops listed i = true := by kernel_rfl) (hr : (Go.Region.ready md ops listed).contains i = true := by kernel_rfl) : Go.wpAnyH P md ops Q S (fuel + 1) listed a w :=
  wpAnyH_takeL hi hs hf hr hQ hy hS h
end
theorem skA (l : List Go.Value) (i : Nat) (v : Go.Value) : l.toArray.setIfInBounds i v = (l.set i v).toArray := by simp
theorem skB (x : Go.Value) (l : List Go.Value) (v : Go.Value) : (x :: l).set 0 v = v :: l := rfl
theorem skC (x : Go.Value) (l : List Go.Value) (i : Nat) (v : Go.Value) : (x :: l).set (i + 1) v = x :: l.set i v := rfl
end Go.Proofs.Ytegcbdfilkecpaa
/- Slices of texts in memory; no condition. -/
namespace Go.Proofs.Ytegcbdfilkecpaa
open Go.RowKit

/-- a slice of strings in memory -/
def Sl (w : World) (A : Option Addr) (n : Nat) (xs : List ByteArray) : Prop :=
  xs.length = n ∧ (0 < n → ∃ g o, A = some ⟨g, o, none⟩ ∧ g < w.heap.size ∧ ∀ k, k < n → w.cell? ⟨g, o + k, none⟩ = some (.string (xs.getD k ByteArray.empty)))
theorem Sl.keep {w w' : World} {A : Option Addr} {n : Nat} {xs : List ByteArray} (h : Sl w A n xs) (k : Kp NoB w w') : Sl w' A n xs :=
  ⟨h.1, fun hn => by
    obtain ⟨g, o, e, hg, hc⟩ := h.2 hn
    exact ⟨g, o, e, Nat.lt_of_lt_of_le hg k.size, fun j hj => (k.cell hg (fun q => q)).trans (hc j hj)⟩⟩
end Go.Proofs.Ytegcbdfilkecpaa
/- Pages are laid as the document says: the program's lay, room and told; no condition. -/
namespace Go.Proofs.Ytegcbdfilkecpaa
open Go.RowKit
attribute [local go_sem ↓] load26 store26 alloc26 build26 slice26lo

/-! ### the page of a body, as a list of numbers -/
def w8 (n : Int) : Int := n % 256
def hd6 (kind link : Int) (n : Nat) : List Int := [kind, w8 n, w8 (link / 16777216), w8 (link / 65536), w8 (link / 256), w8 link]
theorem bytesV_noStr {l : List Int} {i : Nat} {c : ByteArray} (h : (bytesV l)[i]? = some (.string c)) : False := by
  unfold bytesV at h
  simp only [List.getElem?_toArray, List.getElem?_map] at h
  cases hq : l[i]? <;> rw [hq] at h <;> simp at h
theorem Sl.on {W W' : World} {A : Option Addr} {n : Nat} {xs : List ByteArray} {g4 : Nat} {t : TypeId} {l : List Int} (h : Sl W A n xs) (hb : Blk W g4 t (bytesV l)) (k : Kp (OnB g4) W W') : Sl W' A n xs := by
  refine ⟨h.1, fun hn => ?_⟩
  obtain ⟨g, o, e, hg, hc⟩ := h.2 hn
  have hne : ¬ OnB g4 g := fun q => by
    unfold OnB at q
    subst q
    have c0 := hc 0 hn
    rw [hb.cell] at c0
    exact bytesV_noStr c0
  exact ⟨g, o, e, Nat.lt_of_lt_of_le hg k.size, fun j hj => (k.cell hg hne).trans (hc j hj)⟩
end Go.Proofs.Ytegcbdfilkecpaa
/- The program's told, cell and New: pages are made of any kind, link and cells; no condition. -/
namespace Go.Proofs.Ytegcbdfilkecpaa
open Go.RowKit
attribute [local go_sem ↓] load26 store26 alloc26 build26 slice26lo

end Go.Proofs.Ytegcbdfilkecpaa
/- The program's New: pages are made of any kind, link and cells; no condition. -/
namespace Go.Proofs.Ytegcbdfilkecpaa
open Go.RowKit
attribute [local go_sem ↓] load26 store26 alloc26 build26 slice26lo

end Go.Proofs.Ytegcbdfilkecpaa
/- The reference's Room, Lay, Told and New: pages are made of any kind, link and cells; no condition. -/
namespace Go.Proofs.Ytegcbdfilkecpaa
open Go.RowKit
attribute [local go_sem ↓] load26 store26 alloc26 build26 slice26lo

end Go.Proofs.Ytegcbdfilkecpaa
/- The reference's Told and New: pages are made of any kind, link and cells; no condition. -/
namespace Go.Proofs.Ytegcbdfilkecpaa
open Go.RowKit
attribute [local go_sem ↓] load26 store26 alloc26 build26 slice26lo

end Go.Proofs.Ytegcbdfilkecpaa
/- What 256 bytes say as a page, and that the program's read answers just that; no condition. -/
namespace Go.Proofs.Ytegcbdfilkecpaa
open Go.RowKit
attribute [local go_sem ↓] load26 store26 alloc26 build26 slice26lo slice26lohi conv64

def at_ (l : List Int) (i : Nat) : Int := l[i]?.getD 0
/-- 256 bytes -/
structure Bytes (l : List Int) : Prop where
  len : l.length = 256
  rng : ∀ i, 0 ≤ at_ l i ∧ at_ l i < 256

def ReadPost (w : World) (r : Option (Int × Int × List ByteArray)) (e : Ending) (w' : World) : Prop :=
  Kp NoB w w' ∧ ((r = none ∧ e = .returned (.tuple #[.agg #[.int .u8 0, .int .u32 0, .slice none 0 0], .bool false])) ∨
    ∃ kind link cs v, r = some (kind, link, cs) ∧ e = .returned (.tuple #[.agg #[.int .u8 kind, .int .u32 link, v], .bool true]) ∧ w'.ownsRow w.heap.size 9 1 v cs.length (cs.map Value.string))
end Go.Proofs.Ytegcbdfilkecpaa
/- The program's Room and Cell, of any 256 bytes; no condition. -/
namespace Go.Proofs.Ytegcbdfilkecpaa
open Go.RowKit
theorem own_Sl {w : World} {base n : Nat} {A : Option Addr} {cap : Nat} {cs : List ByteArray} (h : w.ownsRow base 9 1 (.slice A n cap) n (cs.map Value.string)) (hl : cs.length = n) : Sl w A n cs := by
  refine ⟨hl, fun hn => ?_⟩
  obtain ⟨g, rfl, hb, hlt⟩ := own_at h hn
  refine ⟨g, 0, rfl, hlt, fun k hk => ?_⟩
  rcases h.2 with ⟨h0, _⟩ | ⟨g', cap', cur, hv, hb', hh, h1, h2, h3, h4⟩
  · cases h0
  · simp only [Value.slice.injEq, Option.some.injEq, Addr.mk.injEq] at hv
    obtain ⟨⟨rfl, _⟩, _, rfl⟩ := hv
    rw [cell_of_row w g (0 + k) cur 9 (0, 0) hh]
    have hkc : k < cur.size := by omega
    have e : (cur.toList.take (n * 1))[k]? = (cs.map Value.string)[k]? := by rw [h4]
    rw [List.getElem?_take_of_lt (by omega)] at e
    simp only [Nat.zero_add]
    rw [← Array.getElem?_toList, e, List.getElem?_map]
    simp [show k < cs.length by omega]
theorem ReadPost.none {w w' : World} {e : Ending} (h : ReadPost w none e w') : Kp NoB w w' ∧ e = .returned (.tuple #[.agg #[.int .u8 0, .int .u32 0, .slice none 0 0], .bool false]) := by
  refine ⟨h.1, ?_⟩
  rcases h.2 with q | ⟨_, _, _, _, q, _⟩
  · exact q.2
  · cases q
theorem ReadPost.some {w w' : World} {e : Ending} {kind link : Int} {cs : List ByteArray} (h : ReadPost w (some (kind, link, cs)) e w') :
    Kp NoB w w' ∧ ∃ A cap, e = .returned (.tuple #[.agg #[.int .u8 kind, .int .u32 link, .slice A cs.length cap], .bool true]) ∧ w'.ownsRow w.heap.size 9 1 (.slice A cs.length cap) cs.length (cs.map Value.string) ∧ Sl w' A cs.length cs := by
  refine ⟨h.1, ?_⟩
  rcases h.2 with q | ⟨_, _, _, v, q, rfl, ho⟩
  · cases q.1
  · simp only [Option.some.injEq, Prod.mk.injEq] at q
    obtain ⟨rfl, rfl, rfl⟩ := q
    obtain ⟨A, cap, rfl⟩ := own_slice ho
    exact ⟨A, cap, rfl, ho, own_Sl ho rfl⟩

end Go.Proofs.Ytegcbdfilkecpaa
/- The program's Check, Kind, Count, Link and Cell, of any 256 bytes; no condition. -/
namespace Go.Proofs.Ytegcbdfilkecpaa
open Go.RowKit
end Go.Proofs.Ytegcbdfilkecpaa
/- Pages held against each other; no condition. -/
namespace Go.Proofs.Ytegcbdfilkecpaa
open Go.RowKit

noncomputable def valEq (u v : Value) : Bool := @decide (u = v) (Classical.propDecidable _)
@[go_sem] theorem valEq_self (u : Value) : valEq u u = true := by unfold valEq; simp
theorem valEq_iff (u v : Value) : valEq u v = true ↔ u = v := by unfold valEq; simp
section
variable {P : Program} (w : World)
end
end Go.Proofs.Ytegcbdfilkecpaa
/- The sealed sector: what it says; no condition. -/
namespace Go.Proofs.Ytegcbdfilkecpaa
open Go.RowKit

attribute [local go_sem ↓] loadSec storeSec allocSec loadW4 storeW4
def W4.l (w : W4) : List Int := [w.a, w.b, w.c, w.d]
/-- in the midst of Open -/
structure OpS (w : World) (l : List Int) (W : World) : Prop where
  kp : Kp NoB w W
  b1 : Blk W w.heap.size 146 (bytesV l)
  b2 : Blk W (w.heap.size + 1) 102 #[.int .u32 0, .int .u32 0, .int .u32 0, .int .u32 0]
theorem OpS.keep {w : World} {l : List Int} {W W' : World} (h : OpS w l W) (k : Kp NoB W W') : OpS w l W' := ⟨h.kp.trans k (fun _ _ q => q), h.b1.keep k (fun q => q), h.b2.keep k (fun q => q)⟩
theorem OpS.sp {w : World} {l : List Int} {W : World} (h : OpS w l W) : W.rangeAt w.heap.size 0 (l.map (Value.int .u8)) := by
  have := Blk.range (xa := []) (xb := l.map (Value.int .u8)) (xd := []) (by have := h.b1; unfold bytesV at this; simpa using this) 0 rfl
  exact this
theorem OpS.at_ {w : World} {l : List Int} {W : World} (h : OpS w l W) (hl : l.length = 64) : W.there w.heap.size 0 64 ∧ readRow W w.heap.size 0 64 = bytesV l :=
  ⟨h.b1.thereAll 64 (by simp [bytesV, hl]), h.b1.readAll 64 (by simp [bytesV, hl])⟩
end Go.Proofs.Ytegcbdfilkecpaa
/- The sealed sector, made; no condition. -/
namespace Go.Proofs.Ytegcbdfilkecpaa
open Go.RowKit

attribute [local go_sem ↓] loadSec storeSec allocSec loadW4 storeW4
def W4.at_ (w : W4) (i : Nat) : Int := if i = 0 then w.a else if i = 1 then w.b else if i = 2 then w.c else w.d
def byteK (n : Int) (k : Nat) : Int := if k = 0 then n / 16777216 % 256 else if k = 1 then n / 65536 % 256 else if k = 2 then n / 256 % 256 else n % 256
def W4.b3 (w : W4) : List Int := w.bytes ++ w.bytes ++ w.bytes
theorem b3_len (w : W4) : w.b3.length = 48 := rfl
/-- the first n bytes are there -/
def upS (w : W4) (n : Nat) : List Int := w.b3.take n ++ zeros (64 - n)
theorem upS_set (w : W4) (n : Nat) (x : Int) (hn : n < 48) (hx : w.b3[n]? = some x) : (upS w n).set n x = upS w (n + 1) := by
  unfold upS
  have e1 : (w.b3.take n).length = n := by rw [List.length_take, b3_len]; omega
  rw [List.set_append_right _ _ (by omega), e1, Nat.sub_self, show 64 - n = (64 - (n + 1)) + 1 by omega]
  unfold zeros
  rw [List.replicate_succ, List.set_cons_zero, List.take_add_one, hx]
  simp
theorem bytesV_setJ (l : List Int) (n : Nat) (x : Int) : (bytesV l).setIfInBounds n (.int .u8 x) = bytesV (l.set n x) := by
  unfold bytesV
  rw [List.setIfInBounds_toArray, List.map_set]
/-- in the midst of Seal -/
structure SeS (w : World) (v : W4) (n : Nat) (W : World) : Prop where
  kp : Kp NoB w W
  b0 : Blk W w.heap.size 102 (w4A v)
  b1 : Blk W (w.heap.size + 1) 146 (bytesV (zeros 64))
  b2 : Blk W (w.heap.size + 2) 146 (bytesV (upS v n))
theorem SeS.set_ {w : World} {v : W4} {n : Nat} {W : World} (h : SeS w v n W) (hn : n < 48) (x : Int) (hx : v.b3[n]? = some x) : SeS w v (n + 1) (W.setCell ⟨w.heap.size + 2, n, none⟩ (.int .u8 x)) := by
  refine ⟨h.kp.setCell (p := ⟨w.heap.size + 2, n, none⟩) (.inl (by show _ ≤ w.heap.size + 2; omega)) _, h.b0.far (p := ⟨w.heap.size + 2, n, none⟩) (by simp) _, h.b1.far (p := ⟨w.heap.size + 2, n, none⟩) (by simp) _, ?_⟩
  have := h.b2.set_ n (.int .u8 x)
  rwa [bytesV_setJ, upS_set _ _ _ hn hx] at this
end Go.Proofs.Ytegcbdfilkecpaa
/- The journal: steps one behind the other, till one is refused; no condition. -/
namespace Go.Proofs.Ytegcbdfilkecpaa
open Go.RowKit

/-- what function values from place i on do, one behind the other -/
def Chain (g o : Nat) : Nat → List (Nat × Array Value × Array Value) → (Int → World → Prop) → World → Prop
  | _, [], Q, w => Q 0 w
  | i, (f, a, c) :: r, Q, w => w.cell? ⟨g, o + i, none⟩ = some (.func (.func f) a c) ∧ (∀ args w, (callFunc f args).run Try.prog w = .ok (.enter f args) w) ∧
      Calls Try.prog f (a ++ c) w fun e w' => ∃ x : Int, e = .returned (.int .i64 x) ∧ (x ≠ 0 → Q x w') ∧ (x = 0 → Chain g o (i + 1) r Q w')
end Go.Proofs.Ytegcbdfilkecpaa
/- The journal: is a disk ready, how many pages, what the head says; no condition but on the texts' lengths. -/
namespace Go.Proofs.Ytegcbdfilkecpaa
open Go.RowKit

section
variable {S : Nat → Prop} {W0 w : World} {db : Nat} {p : Pl}
attribute [local go_sem ↓] loadSec storeSec allocSec loadW4 storeW4
end
end Go.Proofs.Ytegcbdfilkecpaa
/- The journal: a page of the database, is the journal hot; no condition but on the texts' lengths. -/
namespace Go.Proofs.Ytegcbdfilkecpaa
open Go.RowKit

section
variable {S : Nat → Prop} {W0 w : World} {db : Nat} {p : Pl}
attribute [local go_sem ↓] load26 store26 alloc26 build26
end
end Go.Proofs.Ytegcbdfilkecpaa
/- The journal: a head sealed and synced; no condition but on the texts' lengths and the counts. -/
namespace Go.Proofs.Ytegcbdfilkecpaa
open Go.RowKit

section
variable {S : Nat → Prop} {W0 w : World} {db : Nat} {p : Pl}
attribute [local go_sem ↓] loadSec storeSec allocSec loadW4 storeW4 conv64
end
end Go.Proofs.Ytegcbdfilkecpaa
/- The journal: function values that make steps, one behind the other; no condition but on the counts. -/
namespace Go.Proofs.Ytegcbdfilkecpaa
open Go.RowKit

/-- what stays while a disk is changed -/
def Kept (K : (Nat → Prop) → World → Prop) : Prop := ∀ (S S' : Nat → Prop) (w w' : World), K S w → Kp S w w' → (∀ b, S' b → S b ∨ w.heap.size ≤ b) → K S' w'
theorem Kept.and {K L : (Nat → Prop) → World → Prop} (h : Kept K) (k : Kept L) : Kept fun S w => K S w ∧ L S w := fun S S' w w' q kp hS => ⟨h S S' w w' q.1 kp hS, k S S' w w' q.2 kp hS⟩
theorem Chain.mono {g o : Nat} {Q Q' : Int → World → Prop} (hQ : ∀ x w, Q x w → Q' x w) : ∀ (l : List (Nat × Array Value × Array Value)) (i : Nat) (w : World), Chain g o i l Q w → Chain g o i l Q' w
  | [], _, _, h => hQ _ _ h
  | (f, a, c) :: r, i, w, h => ⟨h.1, h.2.1, h.2.2.mono fun e w' ⟨x, he, h0, h1⟩ => ⟨x, he, fun q => hQ _ _ (h0 q), fun q => Chain.mono hQ r (i + 1) w' (h1 q)⟩⟩
structure Stpr where
  f : Nat
  a : Array Value
  c : Array Value
  R : Pl → Pl × Int
  cost : Nat
def Stpr.v (s : Stpr) : Value := .func (.func s.f) s.a s.c
end Go.Proofs.Ytegcbdfilkecpaa
/- The journal: pages put into the database; no condition but on the texts' lengths and the counts. -/
namespace Go.Proofs.Ytegcbdfilkecpaa
open Go.RowKit

theorem PgsAt.lt {w : World} {A : Option Addr} {n : Nat} {l : List Pg} (h : PgsAt w A n l) {g o : Nat} (e : A = some ⟨g, o, none⟩) (hn : 0 < n) : g < w.heap.size := by
  obtain ⟨g', o', e', hg, hc⟩ := h.2.2 hn
  rw [e] at e'
  injection e' with e'
  injection e' with e1 e2
  subst e1
  exact hg
section
variable {S : Nat → Prop} {W0 w : World} {db : Nat} {p : Pl}
attribute [local go_sem ↓] loadPg storePg allocPg load26 store26 conv64
end
end Go.Proofs.Ytegcbdfilkecpaa
/- The journal: pages laid aside; no condition but on the texts' lengths and the counts. -/
namespace Go.Proofs.Ytegcbdfilkecpaa
open Go.RowKit

/-- the first i bytes of a record are there -/
def upR (n : Int) (i : Nat) : List Int := (four n).take i ++ zeros (320 - i)
theorem upR_set (n : Int) (i : Nat) (hi : i < 4) : (upR n i).set i (byteK n i) = upR n (i + 1) := by
  rcases (show i = 0 ∨ i = 1 ∨ i = 2 ∨ i = 3 by omega) with rfl | rfl | rfl | rfl <;> rfl
theorem upR_all (n : Int) : upR n 4 = (four n ++ zeros 60) ++ zeros 256 := by
  unfold upR zeros
  rw [List.append_assoc, List.replicate_append_replicate]
  rfl
/-- in the midst of a record -/
structure LyS (wr : World) (x : Pg) (i : Nat) (W : World) : Prop where
  kp : Kp NoB wr W
  b1 : Blk W wr.heap.size 113 (pgA x)
  b2 : Blk W (wr.heap.size + 1) 5 (bytesV (upR x.n i))
theorem LyS.set_ {wr : World} {x : Pg} {i : Nat} {W : World} (h : LyS wr x i W) (hi : i < 4) : LyS wr x (i + 1) (W.setCell ⟨wr.heap.size + 1, i, none⟩ (.int .u8 (byteK x.n i))) := by
  refine ⟨h.kp.setCell (p := ⟨wr.heap.size + 1, i, none⟩) (.inl (by show _ ≤ wr.heap.size + 1; omega)) _, h.b1.far (p := ⟨wr.heap.size + 1, i, none⟩) (by simp) _, ?_⟩
  have := h.b2.set_ i (.int .u8 (byteK x.n i))
  rwa [bytesV_setJ, upR_set _ _ hi] at this
set_option maxRecDepth 100000 in
theorem LyS.copy {wr : World} {x : Pg} {W : World} (h : LyS wr x 4 W) (hx : PgOk x) : Kp NoB wr (W.setCells (wr.heap.size + 1) 64 (x.b.map (Value.int .u8))) ∧ Blk (W.setCells (wr.heap.size + 1) 64 (x.b.map (Value.int .u8))) (wr.heap.size + 1) 5 (bytesV (recB x)) := by
  refine ⟨Kp.setCells (.inl (by omega)) _ _ _ h.kp, ?_⟩
  have b := h.b2
  rw [upR_all] at b
  have := Blk.bytes (la := four x.n ++ zeros 60) (lb := zeros 256) (ld := []) (lx := x.b) (by rw [List.append_nil]; exact b) 64 (by simp [four, zeros]) (by rw [hx.len]; simp [zeros])
  rw [List.append_nil] at this
  exact this
theorem LyS.drew {wr : World} {x : Pg} {i : Nat} {W : World} (h : LyS wr x i W) : LyS wr x i W.drew := ⟨h.kp.drew, h.b1, h.b2⟩
section
variable {S : Nat → Prop} {W0 w : World} {db : Nat} {p : Pl}
attribute [local go_sem ↓] loadPg storePg allocPg load26 store26 conv64
attribute [local go_sem] size_setCells
end
end Go.Proofs.Ytegcbdfilkecpaa
/- The journal: the records of a hot journal; no condition but on the texts' lengths and the counts. -/
namespace Go.Proofs.Ytegcbdfilkecpaa
open Go.RowKit

theorem bytesOf (w : World) (z : List Int) (hz : ∀ y ∈ z, 0 ≤ y ∧ y < 256) : ∃ cap w', (convert 9 42 (.string (strOf z))).run Try.prog w = .ok (.slice (some ⟨w.heap.size, 0, none⟩) z.length cap) w' ∧ Kp NoB w w' ∧ w.heap.size < w'.heap.size ∧ ∀ j, j < z.length → w'.cell? ⟨w.heap.size, j, none⟩ = some (.int .u8 (z.getD j 0)) := by
  have h := run_bytes_of_string w 9 42 5 (strOf z) Try.underlying9 Try.underlying42 Try.underlying5
  rw [strOf_size] at h
  obtain ⟨cap, hcap⟩ : ∃ c, grownCap w z.length 0 5 = c := ⟨_, rfl⟩
  rw [hcap] at h
  obtain ⟨fz, hfz⟩ : ∃ fz, ((bytesRow (strOf z) cap).size, (bytesRow (strOf z) cap).size + 1) = fz := ⟨_, rfl⟩
  rw [hfz] at h
  refine ⟨_, _, h, (Kp.refl NoB w).drew.alloc _, lt_of_heap (heap_alloc_new w.drew _), fun j hj => ?_⟩
  have hjs : j < (strOf z).data.size := by have := strOf_size z; show j < (strOf z).size; omega
  have hrow := cell_of_row (w.drew.alloc (.cells (bytesRow (strOf z) cap) 5 fz)) w.heap.size j (bytesRow (strOf z) cap) 5 fz (heap_alloc_new w.drew _)
  rw [hrow, bytesRow_at _ _ j hjs]
  refine congrArg (fun y : Int => some (Value.int .u8 y)) ?_
  have hsi := strI_strOf z hz
  have h1 : z.getD j 0 = (strI (strOf z)).getD j 0 := by rw [hsi]
  rw [h1]
  unfold strI
  rw [List.getD_eq_getElem?_getD, List.getElem?_map, List.getElem?_eq_getElem (by simpa using hjs)]
  simp
section
variable {S : Nat → Prop} {W0 w : World} {db : Nat} {p : Pl}
attribute [local go_sem ↓] loadPg storePg allocPg exSlicePg
end
end Go.Proofs.Ytegcbdfilkecpaa
/- The journal: may pages be changed; no condition but on the counts. -/
namespace Go.Proofs.Ytegcbdfilkecpaa
open Go.RowKit

section
attribute [local go_sem ↓] loadPg storePg allocPg
end
end Go.Proofs.Ytegcbdfilkecpaa
/- The journal: a page's number searched among pages in order; no condition but on the counts. -/
namespace Go.Proofs.Ytegcbdfilkecpaa
open Go.RowKit

section
attribute [local go_sem ↓] loadPg storePg allocPg
end
end Go.Proofs.Ytegcbdfilkecpaa
/- The journal: the function values of Recover and Commit; no condition but on the counts. -/
namespace Go.Proofs.Ytegcbdfilkecpaa
open Go.RowKit

section
variable {S : Nat → Prop} {w : World} {db : Nat} {p : Pl}
attribute [local go_sem ↓] loadW4 storeW4
end
end Go.Proofs.Ytegcbdfilkecpaa
/- The journal: taken back; no condition but on the counts. -/
namespace Go.Proofs.Ytegcbdfilkecpaa
open Go.RowKit

section
variable {S : Nat → Prop} {w : World} {db : Nat} {p : Pl}
attribute [local go_sem ↓] loadW4 storeW4
end
end Go.Proofs.Ytegcbdfilkecpaa
/- The journal in plain Lean: what the steps laid aside answer; no condition. -/
namespace Go.Proofs.Ytegcbdfilkecpaa
open Go

/-- no file is longer than may be -/
def Pl.le (p : Pl) : Prop := ∀ s, (p.seen s).length ≤ 1048576
end Go.Proofs.Ytegcbdfilkecpaa
/- The journal: pages gathered that are to be laid aside: rules of the region that gathers; no condition. -/
namespace Go.Proofs.Ytegcbdfilkecpaa
open Go Go.RowKit

section
variable {P : Program} {ops : Array Oper} {Q : Exit → Act → World → Prop} {md : Region.Mode} {S : World → Prop} {fuel : Nat} {listed : Array Bool} {a : Act} {w : World} {i : Nat} {rs : List Nat}
variable {ds : Option Tmp} {op : Op} {ty : TypeId} {ps : String} {af : Array Edge}
/-- an operation that yields nothing -/
theorem AllReadyH.skipR {gd : Option (Nat × Bool)} (ho : ops[i]? = some ⟨none, op, ty, ps, af, gd⟩) (hw : Region.wanted ⟨none, op, ty, ps, af, gd⟩ (yielded ops a.tmps) = true) (w' : World)
    (hr : (execOp a.eval ⟨none, op, ty, ps, af, gd⟩).run P w = .ok .skip w') (hS : S w')
    (hn : wpAnyH P md ops Q S fuel (listed.setIfInBounds i true) a w')
    (hs : AllReadyH P md ops Q S fuel listed a w rs) : AllReadyH P md ops Q S fuel listed a w (i :: rs) :=
  AllReadyH.cons ho (fun K hK => by
    rw [if_pos hw]
    unfold Oper.wp
    rw [hr, Oper.upon_skip]
    exact hK.out _ _ hS (fun _ => hn)) hs
/-- an append to a row of the caller's own -/
theorem AllReadyH.appendB {s x : Operand} {t : TypeId} (ho : ops[i]? = some ⟨ds, .call { callee := .builtin .append, args := #[s, x], argTypes := #[t, t] }, ty, ps, af, none⟩) (hw : Region.wanted ⟨ds, .call { callee := .builtin .append, args := #[s, x], argTypes := #[t, t] }, ty, ps, af, none⟩ (yielded ops a.tmps) = true)
    (base : Nat) (e : TypeId) (j : TypeInfo) (z : Value) (size bytes : Nat) (ht : P.underlying t = some (.slice e)) (hi : P.info? e = some j) (hz : j.zero = some z)
    (hsize : j.size = size) (hby : j.bytes = bytes) (hzs : z.cells.size = size) (hsz : 0 < size)
    (v : Value) (n : Nat) (xs : List Value) (hsv : a.eval s = v) (hown : w.ownsRow base e size v n xs)
    (ad : Addr) (m c : Nat) (news : List Value) (hx : a.eval x = .slice (some ad) m c) (hl : news.length = m * size) (hnews : ∀ j u, news[j]? = some u → w.cell? (ad.add j) = some u) (h1 : ∀ u ∈ news, u.oneCell' = true)
    (h63 : n + m ≤ maxLen) (hbytes : (n + m) * bytes ≤ 140737488355328) (hbase : base ≤ w.heap.size)
    (hS : ∀ v' w', w'.ownsRow base e size v' (n + m) (xs ++ news) → w.grownBy w' v.ownBlock → (∀ b, v'.ownBlock = some b → v.ownBlock = some b ∨ w.heap.size ≤ b) → S w')
    (hn : ∀ v' w', w'.ownsRow base e size v' (n + m) (xs ++ news) → w.grownBy w' v.ownBlock → (∀ b, v'.ownBlock = some b → v.ownBlock = some b ∨ w.heap.size ≤ b) → wpAnyH P md ops Q S fuel (listed.setIfInBounds i true) (a.put ds v') w')
    (hs : AllReadyH P md ops Q S fuel listed a w rs) : AllReadyH P md ops Q S fuel listed a w (i :: rs) :=
  AllReadyH.cons ho (fun K hK => by
    rw [if_pos hw]
    exact wp_append_ownB s x t rfl base e j z size bytes ht hi hz hsize hby hzs hsz v n xs hsv hown ad m c news hx hl hnews h1 h63 hbytes hbase
      (fun v' w' q1 q2 q3 => hK.out _ _ (hS v' w' q1 q2 q3) (fun _ => hn v' w' q1 q2 q3))) hs
end
/-- in the midst of the region -/
structure CoT (wL : World) (Ba Bd db : Nat) (v10 : Value) (W : World) : Prop where
  kl : Kp (OnB Ba) wL W
  ba : Blk W Ba 22 #[v10]
  bd : Blk W Bd 98 #[ptrV db]
structure CoS (wL : World) (Ba Bd db : Nat) (v10 : Value) (W0 W : World) : Prop extends CoT wL Ba Bd db v10 W where
  kp : Kp NoB W0 W
section
variable {wL : World} {Ba Bd db : Nat} {v10 : Value} {W0 W W' : World}
theorem CoT.sp (h : CoT wL Ba Bd db v10 W) : W.rangeAt Bd 0 [ptrV db] := Blk.range (xa := []) (xb := [ptrV db]) (xd := []) h.bd 0 rfl
theorem CoS.sp (h : CoS wL Ba Bd db v10 W0 W) : W.rangeAt Bd 0 [ptrV db] := h.toCoT.sp
theorem CoT.keep (h : CoT wL Ba Bd db v10 W) (k : Kp NoB W W') : CoT wL Ba Bd db v10 W' := ⟨h.kl.trans k (fun _ _ q => q.elim), h.ba.keep k (fun q => q), h.bd.keep k (fun q => q)⟩
theorem CoS.keep (h : CoS wL Ba Bd db v10 W0 W) (k : Kp NoB W W') : CoS wL Ba Bd db v10 W0 W' := ⟨h.toCoT.keep k, h.kp.trans k (fun _ _ q => q)⟩
theorem CoS.alloc (h : CoS wL Ba Bd db v10 W0 W) (o : Obj) : CoS wL Ba Bd db v10 W0 (W.alloc o) := h.keep ((Kp.refl _ _).alloc o)
theorem CoS.grown (h : CoS wL Ba Bd db v10 W0 W) {o : Obj} {w' : World} (hg : (W.alloc o).grownBy w' v10.ownBlock) {e : TypeId} {size n : Nat} {xs : List Value} {wx : World} (ho : wx.ownsRow wL.heap.size e size v10 n xs) (hBa : Ba < wL.heap.size := by omega) (hBd : Bd < wL.heap.size := by omega) : CoT wL Ba Bd db v10 w' := by
  have h2 := (h.alloc o).toCoT
  have hk : Kp (fun k => v10.ownBlock = some k) (W.alloc o) w' := (Kp.refl _ _).grown hg (fun k hk => .inr hk)
  have hge := own_ge ho
  exact ⟨h2.kl.own hg rfl ho, h2.ba.keep hk (fun q => by have := hge _ q; omega), h2.bd.keep hk (fun q => by have := hge _ q; omega)⟩
end
end Go.Proofs.Ytegcbdfilkecpaa
/- An append of what lies behind a slice that may be nil, among the ready operations; no condition. -/
namespace Go.Proofs.Ytegcbdfilkecpaa
open Go.RowKit

theorem wp_append_srcN {P : Program} {w : World} {o : Oper} {a : Act} {K : Act → World → Prop} {Q : Exit → Act → World → Prop} (s x : Operand) (t : TypeId)
    (ho : o.op = .call { callee := .builtin .append, args := #[s, x], argTypes := #[t, t] })
    (base : Nat) (e : TypeId) (i : TypeInfo) (z : Value) (size bytes : Nat) (ht : P.underlying t = some (.slice e)) (hi : P.info? e = some i) (hz : i.zero = some z)
    (hsize : i.size = size) (hby : i.bytes = bytes) (hzs : z.cells.size = size) (hsz : 0 < size)
    (v : Value) (n : Nat) (xs : List Value) (hs : a.eval s = v) (hown : w.ownsRow base e size v n xs)
    (A : Option Addr) (m c : Nat) (news : List Value) (hx : a.eval x = .slice A m c) (hA : A = none → m = 0 ∧ c = 0) (hl : news.length = m * size)
    (hnews : 0 < m → ∃ g o, A = some ⟨g, o, none⟩ ∧ ∀ j u, news[j]? = some u → w.cell? ⟨g, o + j, none⟩ = some u) (h1 : ∀ u ∈ news, u.oneCell' = true)
    (h63 : n + m ≤ maxLen) (hbytes : (n + m) * bytes ≤ 140737488355328) (hbase : base ≤ w.heap.size)
    (h : ∀ v' w', w'.ownsRow base e size v' (n + m) (xs ++ news) → w.grownBy w' v.ownBlock → K (a.put o.dst v') w') : o.wp P a w K Q := by
  rcases A with _ | ad
  · obtain ⟨rfl, rfl⟩ := hA rfl
    obtain rfl : news = [] := List.eq_nil_of_length_eq_zero (by omega)
    have hrun := run_append_owned_none (P := P) (w := w) base t o.type e i size ht hi v n xs hown
    unfold Oper.wp
    simp [execOp, ho, resolve, invoke, builtin, hs, hx, hrun, Result.andThen]
    exact h v w (by simpa using hown) ⟨rfl, rfl, rfl, Nat.le_refl _, fun _ _ _ => rfl⟩
  · refine wp_append_ownB s x t ho base e i z size bytes ht hi hz hsize hby hzs hsz v n xs hs hown ad m c news hx hl ?_ h1 h63 hbytes hbase (fun v' w' q1 q2 _ => h v' w' q1 q2)
    intro j u hj
    have hm : 0 < m := by
      rcases Nat.eq_zero_or_pos m with q | q
      · rw [q] at hl
        have := (List.getElem?_eq_some_iff.1 hj).1
        omega
      · exact q
    obtain ⟨g, o', e', hc⟩ := hnews hm
    injection e' with e'
    subst e'
    rw [add_mk]
    exact hc j u hj
section
variable {P : Program} {ops : Array Oper} {Q : Exit → Act → World → Prop} {md : Region.Mode} {S : World → Prop} {fuel : Nat} {listed : Array Bool} {a : Act} {w : World} {i : Nat} {rs : List Nat}
variable {ds : Option Tmp} {ty : TypeId} {ps : String} {af : Array Edge}
theorem AllReadyH.appendN {s x : Operand} {t : TypeId} (ho : ops[i]? = some ⟨ds, .call { callee := .builtin .append, args := #[s, x], argTypes := #[t, t] }, ty, ps, af, none⟩) (hw : Region.wanted ⟨ds, .call { callee := .builtin .append, args := #[s, x], argTypes := #[t, t] }, ty, ps, af, none⟩ (yielded ops a.tmps) = true)
    (base : Nat) (e : TypeId) (j : TypeInfo) (z : Value) (size bytes : Nat) (ht : P.underlying t = some (.slice e)) (hi : P.info? e = some j) (hz : j.zero = some z)
    (hsize : j.size = size) (hby : j.bytes = bytes) (hzs : z.cells.size = size) (hsz : 0 < size)
    (v : Value) (n : Nat) (xs : List Value) (hsv : a.eval s = v) (hown : w.ownsRow base e size v n xs)
    (A : Option Addr) (m c : Nat) (news : List Value) (hx : a.eval x = .slice A m c) (hA : A = none → m = 0 ∧ c = 0) (hl : news.length = m * size)
    (hnews : 0 < m → ∃ g o, A = some ⟨g, o, none⟩ ∧ ∀ j u, news[j]? = some u → w.cell? ⟨g, o + j, none⟩ = some u) (h1 : ∀ u ∈ news, u.oneCell' = true)
    (h63 : n + m ≤ maxLen) (hbytes : (n + m) * bytes ≤ 140737488355328) (hbase : base ≤ w.heap.size)
    (hS : ∀ v' w', w'.ownsRow base e size v' (n + m) (xs ++ news) → w.grownBy w' v.ownBlock → S w')
    (hn : ∀ v' w', w'.ownsRow base e size v' (n + m) (xs ++ news) → w.grownBy w' v.ownBlock → wpAnyH P md ops Q S fuel (listed.setIfInBounds i true) (a.put ds v') w')
    (hs : AllReadyH P md ops Q S fuel listed a w rs) : AllReadyH P md ops Q S fuel listed a w (i :: rs) :=
  AllReadyH.cons ho (fun K hK => by
    rw [if_pos hw]
    exact wp_append_srcN s x t rfl base e j z size bytes ht hi hz hsize hby hzs hsz v n xs hsv hown A m c news hx hA hl hnews h1 h63 hbytes hbase
      (fun v' w' q1 q2 => hK.out _ _ (hS v' w' q1 q2) (fun _ => hn v' w' q1 q2))) hs
end
theorem Blk.sp {w : World} {g : Nat} {t : TypeId} {cs : List Value} (h : Blk w g t cs.toArray) : w.rangeAt g 0 cs := fun j u hj => by
  rw [Nat.zero_add, h.cell, List.getElem?_toArray]
  exact hj
theorem Blk.past {w w' : World} {g : Nat} {t : TypeId} {cs : Array Value} {row : Option Nat} (h : Blk w g t cs) (hg : w.grownBy w' row) (hr : ∀ k, row = some k → k ≠ g) : Blk w' g t cs :=
  h.keep ((Kp.refl (fun b => b ≠ g) w).grown hg (fun k hk => .inr (hr k hk))) (fun q => q rfl)
theorem Blk.rc {w : World} {g : Nat} {t : TypeId} {x : Cg} (h : Blk w g t #[.string x.nm, .int .i64 x.sec, .int .i64 x.n, .string (strOf x.s)]) : ∀ j u, (rcCells x)[j]? = some u → w.cell? ((⟨g, 0, none⟩ : Addr).add j) = some u := fun j u hj => by
  rw [add_mk, Nat.zero_add, h.cell]
  show (rcCells x).toArray[j]? = some u
  rw [List.getElem?_toArray]
  exact hj
theorem infoRch : (Try.prog.info? 192).map (fun i => (i.zero, i.size, i.bytes)) = some (some (.agg #[.string ⟨#[]⟩, .int .i64 0, .int .i64 0, .string ⟨#[]⟩]), 4, 48) := by kernel_rfl
theorem infoRch4 : (Try.prog.info? 192).map (·.size) = some 4 := by kernel_rfl
theorem rc_len (cs : List Cg) : ∀ x ∈ cs.map rcCells, x.length = 4 := by
  intro x hx
  obtain ⟨c, _, rfl⟩ := List.mem_map.1 hx
  rfl
theorem rc_one (cs : List Cg) : ∀ u ∈ (cs.map rcCells).flatten, u.oneCell' = true := by
  intro u hu
  obtain ⟨l, hl, h2⟩ := List.mem_flatten.1 hu
  obtain ⟨c, _, rfl⟩ := List.mem_map.1 hl
  unfold rcCells at h2
  simp at h2
  rcases h2 with rfl | rfl | rfl | rfl <;> rfl
end Go.Proofs.Ytegcbdfilkecpaa
