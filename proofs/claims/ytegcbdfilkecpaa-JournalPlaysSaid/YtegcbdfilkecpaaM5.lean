/- Texts of this proof, one behind the other: lemmas and contracts; each says its own conditions. -/
import Derived.Test.YtegcbdfilkecpaaM1
import Derived.Test.YtegcbdfilkecpaaM4
import Derived.Shelf.Abstract
/- The reference's disk: a step, Read, on the plain state; no condition but on the count of files. -/
namespace Go.Proofs.Ytegcbdfilkecpaa
open Go.RowKit

theorem step_okR (w : World) (d : Rd) (p : Pl) (h : Rf w d p) :
    Calls Try.prog 135 #[rdV d p] w fun e w' => e = .returned (.tuple #[rdV d p.step, .int .i64 p.stepE]) ∧ Rf w' d p.step ∧ Kp NoB w w' := by
  refine (rstep_ok w d p h).mono ?_
  rintro e w' ⟨rfl, hk⟩
  have hc := h.crash
  refine ⟨rfl, { h.keep hk with steps := ?_, crash := ?_ }, hk⟩
  · show -9223372036854775808 ≤ wrp (p.steps + 1) ∧ wrp (p.steps + 1) ≤ 9223372036854775807
    unfold wrp
    rw [IntKind.wrap_i64]
    omega
  · show 0 ≤ (if 0 < p.crash then p.crash - 1 else p.crash) ∧ (if 0 < p.crash then p.crash - 1 else p.crash) ≤ 9223372036854775807
    split <;> omega
theorem wrong_okR (w : World) (d : Rd) (p : Pl) (h : Rf w d p) :
    Calls Try.prog 134 #[rdV d p] w fun e w' => e = .returned (.int .i64 p.wrong) ∧ Kp NoB w w' := rwrong_ok w d p h
set_option maxRecDepth 100000 in
set_option maxHeartbeats 800000 in
theorem read_okR (w : World) (d : Rd) (p : Pl) (s : ByteArray) (a n : Int) (h : Rf w d p) (hnf : p.nf < 1099511627776) (ha : -9223372036854775808 ≤ a ∧ a ≤ 9223372036854775807) (hn : -9223372036854775808 ≤ n ∧ n ≤ 9223372036854775807) :
    Calls Try.prog 85 #[rdV d p, .string s, .int .i64 a, .int .i64 n] w fun e w' => e = .returned (.tuple #[.string (strOf (p.read s a n)), .int .i64 (p.readE a n)]) ∧ Kp NoB w w' := by
  have H := Lib.hid h
  have HNF := Lib.hid hnf
  obtain ⟨B, hB⟩ : ∃ B : Array Value, B = #[.bool true, .bool p.down, .slice d.fA d.fn d.fc, .slice d.pA d.pn d.pc, .int .i64 p.room, .int .i64 p.steps, .int .i64 p.crash, .int .i64 p.starts] := ⟨_, rfl⟩
  clear h hnf
  by_cases hd : p.down = true
  · have hw : Hid (p.wrong = 7) := Lib.hid (by unfold Pl.wrong; rw [hd]; rfl)
    have hR : Hid (strOf (p.read s a n) = ⟨#[]⟩ ∧ p.readE a n = 7) := Lib.hid (by
      have e : p.readE a n = 7 := by unfold Pl.readE; rw [if_pos hd]
      refine ⟨?_, e⟩
      unfold Pl.read
      rw [e, if_neg (by omega)]
      rfl)
    unfold rdV
    clear hB hd
    go_enter Try.func85, Try.ntmps85
    go_wp2_with fail
    refine (show Calls _ _ #[rdV d p] _ _ from (rwrong_ok _ d p (H.out.keep ((Kp.refl NoB w).alloc _)))).mono ?_
    rintro e w2 ⟨rfl, hk⟩
    rw [hw.out]
    have HK := Lib.hid hk
    clear hk
    go_wp2_with fail
    go_ret2
    exact ⟨by rw [hR.out.1, hR.out.2]; rfl, ((Kp.refl NoB w).alloc _).trans HK.out (fun _ _ q => q)⟩
  have hd' : p.down = false := by simpa using hd
  have hw : Hid (p.wrong = 0) := Lib.hid (by unfold Pl.wrong; rw [hd']; rfl)
  have HD := Lib.hid hd'
  by_cases hneg : a < 0 ∨ n < 0
  · have hR : Hid (strOf (p.read s a n) = ⟨#[]⟩ ∧ p.readE a n = 2) := Lib.hid (by
      have e : p.readE a n = 2 := by unfold Pl.readE; rw [if_neg hd, if_pos hneg]
      refine ⟨?_, e⟩
      unfold Pl.read
      rw [e, if_neg (by omega)]
      rfl)
    clear hB hd hd'
    rcases (show a < 0 ∨ (¬ a < 0 ∧ n < 0) by omega) with q | ⟨q1, q⟩
    all_goals
      unfold rdV
      go_enter Try.func85, Try.ntmps85
      go_wp2_with fail
      refine (show Calls _ _ #[rdV d p] _ _ from (rwrong_ok _ d p (H.out.keep ((Kp.refl NoB w).alloc _)))).mono ?_
      rintro e w2 ⟨rfl, hk⟩
      rw [hw.out]
      have HK := Lib.hid hk
      clear hk
      go_wp2_with fail
      go_ret2
      exact ⟨by rw [hR.out.1, hR.out.2]; rfl, ((Kp.refl NoB w).alloc _).trans HK.out (fun _ _ q => q)⟩
  · obtain ⟨i, hi⟩ : ∃ i : Nat, a = i := ⟨a.toNat, by omega⟩
    obtain ⟨m, hm⟩ : ∃ m : Nat, n = m := ⟨n.toNat, by omega⟩
    subst hi hm
    obtain ⟨l, hl⟩ : ∃ l, p.seen s = l := ⟨_, rfl⟩
    have HL := Lib.hid hl
    have hll : l.length ≤ 1048576 := by rw [← hl]; exact (H.out.look s).1.1
    have e0 : p.readE i m = 0 := by unfold Pl.readE; rw [if_neg hd, if_neg hneg]
    have HE := Lib.hid e0
    have hP : Hid (p.read s i m = (l.drop i).take m) := Lib.hid (by unfold Pl.read; rw [e0, if_pos rfl, hl]; rfl)
    have hs := strOf_size l
    have g1 : ¬ (i : Int) < 0 := by omega
    have g2 : ¬ (m : Int) < 0 := by omega
    clear hB hd hd' hneg hl e0
    have walk : ∀ (X : World → Prop), True := fun _ => trivial
    clear walk
    unfold rdV
    go_enter Try.func85, Try.ntmps85
    go_wp2_with fail
    refine (show Calls _ _ #[rdV d p] _ _ from (rwrong_ok _ d p (H.out.keep ((Kp.refl NoB w).alloc _)))).mono ?_
    rintro e w2 ⟨rfl, hk⟩
    rw [hw.out]
    have HK := Lib.hid (((Kp.refl NoB w).alloc _).trans hk (fun _ _ q => q))
    have b2 := (Blk.new w 56 #[.bool true, .bool p.down, .slice d.fA d.fn d.fc, .slice d.pA d.pn d.pc, .int .i64 p.room, .int .i64 p.steps, .int .i64 p.crash, .int .i64 p.starts]).keep hk (fun q => q)
    obtain ⟨c0, c1, c2, c3, c4, c5, c6, c7⟩ := b2.c8
    clear hk b2
    go_wp2_with fail
    refine (show Calls _ _ #[rdV d p, .string s] _ _ from (seen_ok _ d p s (H.out.keep HK.out) HNF.out)).mono ?_
    rintro e w3 ⟨rfl, hk⟩
    rw [HL.out]
    have HK3 := Lib.hid (HK.out.trans hk (fun _ _ q => q))
    clear hk c0 c1 c2 c3 c4 c5 c6 c7
    by_cases h1 : l.length ≤ i
    · have h1' : (l.length : Int) ≤ (i : Int) := by omega
      go_wp2_with fail
      go_ret2
      exact ⟨by rw [hP.out, HE.out, List.drop_eq_nil_of_le h1, List.take_nil]; rfl, HK3.out⟩
    · have h1' : ¬ (l.length : Int) ≤ (i : Int) := by omega
      have h2 : i ≤ l.length := by omega
      have x1 : ((strOf l).extract i l.length).size = l.length - i := by rw [ByteArray.size_extract]; omega
      have y1 : (strOf l).extract i l.length = strOf (l.drop i) := by rw [strOf_sub, List.take_of_length_le (by simp)]
      rw [y1] at x1
      by_cases h3 : m < l.length - i
      · have h3' : (m : Int) < ((l.length - i : Nat) : Int) := by omega
        have h4 : m ≤ l.length - i := by omega
        have hq : Hid (strOf ((l.drop i).take m) = (strOf (l.drop i)).extract 0 m) := Lib.hid (by rw [strOf_sub, List.drop_zero, Nat.sub_zero])
        go_wp2_with fail
        go_ret2
        exact ⟨by rw [hP.out, HE.out, hq.out]; rfl, HK3.out⟩
      · have h3' : ¬ (m : Int) < ((l.length - i : Nat) : Int) := by omega
        go_wp2_with fail
        go_ret2
        exact ⟨by rw [hP.out, HE.out, List.take_of_length_le (by simp; omega)]; rfl, HK3.out⟩
end Go.Proofs.Ytegcbdfilkecpaa
/- The reference's disk: New; no condition. -/
namespace Go.Proofs.Ytegcbdfilkecpaa
open Go.RowKit

set_option maxRecDepth 100000 in
set_option maxHeartbeats 800000 in
theorem newR_ok (w : World) (r : Int) (hr : -9223372036854775808 ≤ r ∧ r ≤ 9223372036854775807) :
    Calls Try.prog 26 #[.int .i64 r] w fun e w' => ∃ d, e = .returned (rdV d (Pl.new r)) ∧ Rf w' d (Pl.new r) ∧ Kp NoB w w' := by
  have key : Hid (∀ w' : World, Rf w' ⟨none, 0, 0, [], none, 0, 0⟩ (Pl.new r)) := Lib.hid (fun w' =>
    { files := ⟨rfl, by simp, fun h => absurd h (Nat.lt_irrefl 0)⟩, pend := ⟨rfl, by simp [Pl.new], fun h => absurd h (Nat.lt_irrefl 0)⟩, fnil := fun _ => ⟨rfl, rfl⟩, pnil := fun _ => ⟨rfl, rfl⟩
      fok := by simp, cok := by simp [Pl.new], names := List.Pairwise.nil, seen := rfl, kept := rfl, sum := rfl, ksum := rfl, nf := Nat.le_refl _
      room := by show 0 ≤ max 0 r ∧ max 0 r ≤ 9223372036854775807; omega
      steps := by simp [Pl.new], crash := by simp [Pl.new], starts := by simp [Pl.new] })
  by_cases h : r ≤ 0
  · have e : Hid (max 0 r = 0) := Lib.hid (by omega)
    go_enter Try.func26, Try.ntmps26
    go_wp2_with fail
    refine bodyPost_ret (results_cell_row rfl _ _ _ _ _ _ _ rfl (Blk.new _ _ _) Try.underlying56 rfl (by exact infoRd)) rfl ⟨⟨none, 0, 0, [], none, 0, 0⟩, ?_, key.out _, (Kp.refl NoB w).alloc _⟩
    unfold rdV Pl.new
    rw [e.out]
  · have e : Hid (max 0 r = r) := Lib.hid (by omega)
    have h' : 0 ≤ r := by omega
    go_enter Try.func26, Try.ntmps26
    go_wp2_with fail
    refine bodyPost_ret (results_cell_row rfl _ _ _ _ _ _ _ rfl (Blk.new _ _ _) Try.underlying56 rfl (by exact infoRd)) rfl ⟨⟨none, 0, 0, [], none, 0, 0⟩, ?_, key.out _, (Kp.refl NoB w).alloc _⟩
    unfold rdV Pl.new
    rw [e.out]
end Go.Proofs.Ytegcbdfilkecpaa
/- The rollback journal in plain Lean: its steps on the plain disk; no condition. -/
namespace Go.Proofs.Ytegcbdfilkecpaa
open Go

def nmDb : ByteArray := ⟨#[100, 98]⟩
def nmJn : ByteArray := ⟨#[106, 111, 117, 114, 110, 97, 108]⟩
/-- a step: 0 a write, 1 a truncation, else a sync -/
structure Stp where
  k : Nat
  nm : ByteArray
  at_ : Int
  d : List Int
namespace Pl
def stE (p : Pl) (s : Stp) : Int := if s.k = 0 then p.writeE s.nm s.at_ s.d else if s.k = 1 then p.truncE s.nm s.at_ else p.syncE
def stP (p : Pl) (s : Stp) : Pl := if s.k = 0 then p.write s.nm s.at_ s.d else if s.k = 1 then p.trunc s.nm s.at_ else p.sync s.nm
/-- steps, till one is refused -/
def runS : Pl → List Stp → Pl × Int
  | p, [] => (p, 0)
  | p, s :: r => if p.stE s = 0 then runS (p.stP s) r else (p.stP s, p.stE s)
end Pl
def four (n : Int) : List Int := [n / 16777216 % 256, n / 65536 % 256, n / 256 % 256, n % 256]
def num (l : List Int) (a : Nat) : Int := l.getD a 0 * 16777216 + l.getD (a + 1) 0 * 65536 + l.getD (a + 2) 0 * 256 + l.getD (a + 3) 0
/-- four words -/
structure W4 where
  a : Int
  b : Int
  c : Int
  d : Int
def W4.bytes (w : W4) : List Int := four w.a ++ four w.b ++ four w.c ++ four w.d
def sealB (w : W4) : List Int := w.bytes ++ w.bytes ++ w.bytes ++ zeros 16
def wordsAt (l : List Int) (a : Nat) : W4 := ⟨num l a, num l (a + 4), num l (a + 8), num l (a + 12)⟩
/-- what a sealed sector says -/
def openB (l : List Int) : W4 := if l.take 16 = (l.drop 16).take 16 then wordsAt l 0 else wordsAt l 32
def says (l : List Int) : W4 := if l.length < 64 then ⟨0, 0, 0, 0⟩ else openB (l.take 64)
/-- a page with its number -/
structure Pg where
  n : Int
  b : List Int
def pageOf (l : List Int) (n : Nat) : List Int := sizedF (l.drop ((n - 1) * 256)) 256
namespace Pl
def jcount (p : Pl) : Nat := p.len nmDb / 256
def jhead (p : Pl) : W4 := says (p.seen nmJn)
def jheadD (p : Pl) : W4 := if p.down then ⟨0, 0, 0, 0⟩ else p.jhead
def jhot (p : Pl) : Bool := !p.down && decide ((p.jhead).a ≠ 0)
end Pl
def hasPg (l : List Pg) (n : Int) : Bool := l.any fun x => decide (x.n = n)
def chainPg (count : Int) : Int → List Pg → Bool
  | _, [] => true
  | last, x :: r => decide (last < x.n ∧ x.n ≤ count) && chainPg count x.n r
def above (old : Int) (l : List Pg) : Nat := l.countP fun x => decide (old < x.n)
def fitPg (old count : Int) (l : List Pg) : Bool := decide (0 ≤ count ∧ count ≤ 4096) && (chainPg count 0 l && decide ((above old l : Int) = max 0 (count - old)))
def headS (nm : ByteArray) (w : W4) : List Stp := [⟨0, nm, 0, sealB w⟩, ⟨2, nm, 0, []⟩]
def homeW (l : List Pg) : List Stp := l.map fun x => ⟨0, nmDb, (x.n - 1) * 256, x.b⟩
def homeS (count : Int) (l : List Pg) : List Stp := homeW l ++ [⟨1, nmDb, count * 256, []⟩, ⟨2, nmDb, 0, []⟩]
/-- a record of the journal -/
def recB (x : Pg) : List Int := four x.n ++ zeros 60 ++ x.b
def asideW : Nat → List Pg → List Stp
  | _, [] => []
  | k, x :: r => ⟨0, nmJn, 64 + 320 * (k : Int), recB x⟩ :: asideW (k + 1) r
def asideS (l : List Pg) : List Stp := asideW 0 l ++ [⟨2, nmJn, 0, []⟩]
def asidePg (db : List Int) (old count : Nat) (l : List Pg) : List Pg :=
  ((List.range' 1 old).filter fun n => decide (count < n) || hasPg l n).map fun (n : Nat) => ⟨(n : Int), pageOf db n⟩
def firstS (w : W4) (old : Nat) (aside : List Pg) : List Stp := headS nmJn w ++ (asideS aside ++ headS nmJn ⟨aside.length + 1, old, 0, 0⟩)
def secondS (count : Int) (l : List Pg) : List Stp := homeS count l ++ headS nmJn ⟨0, 0, 0, 0⟩
/-- too long is too full -/
def fullE (e : Int) : Int := if e = 3 then 5 else e
/-- the records of a journal from the k-th on, i of them -/
def recsPg (l : List Int) (top : Int) : Nat → Nat → Int → Option (List Pg)
  | 0, _, _ => some []
  | i + 1, k, last =>
    let b := (l.drop (64 + 320 * k)).take 320
    if b.length < 320 then none else if (b.drop 4).take 60 = zeros 60 ∧ last < num b 0 ∧ num b 0 ≤ top then
      (recsPg l top i (k + 1) (num b 0)).map fun r => ⟨num b 0, b.drop 64⟩ :: r
    else none
def recordsPg (l : List Int) (w : W4) : Option (List Pg) := if 4096 < w.a - 1 ∨ 4096 < w.b ∨ w.c ≠ 0 ∨ w.d ≠ 0 then none else recsPg l w.b (w.a - 1).toNat 0 0
namespace Pl
def recS (w : W4) (l : List Pg) : List Stp := headS nmJn w ++ (homeS w.b l ++ headS nmJn ⟨0, 0, 0, 0⟩)
/-- taken back: the disk, is it taken back, the error -/
def jrecover (p : Pl) : Pl × Bool × Int :=
  if p.down then (p, false, 7) else if p.jhot = false then (p, false, 0) else
    match recordsPg (p.seen nmJn) p.jhead with
    | none => (p, false, 8)
    | some l => let q := p.runS (recS p.jhead l); (q.1, decide (q.2 = 0), q.2)
def jfirst (p : Pl) (count : Int) (l : List Pg) : List Stp := firstS p.jhead p.jcount (asidePg (p.seen nmDb) p.jcount count.toNat l)
def jcommit (p : Pl) (count : Int) (l : List Pg) : Pl × Int :=
  if p.down then (p, 7) else if fitPg p.jcount count l = false then (p, 2) else if p.jhot then (p, 6) else
    let q := p.runS (p.jfirst count l)
    if q.2 ≠ 0 then (q.1, fullE q.2) else
      let r := q.1.runS (secondS count l)
      if r.2 = 5 then (let s := r.1.jrecover; if s.2.2 ≠ 0 then (s.1, s.2.2) else (s.1, 5)) else r
def jpageE (p : Pl) (n : Int) : Int := if p.down then 7 else if n < 1 ∨ (p.jcount : Int) < n then 4 else 0
def jpage (p : Pl) (n : Int) : List Int := if p.jpageE n = 0 then pageOf (p.seen nmDb) n.toNat else zeros 256
end Pl
theorem runS_nil (p : Pl) : p.runS [] = (p, 0) := rfl
theorem runS_cons (p : Pl) (s : Stp) (r : List Stp) : p.runS (s :: r) = if p.stE s = 0 then (p.stP s).runS r else (p.stP s, p.stE s) := rfl
theorem runS_append : ∀ (a b : List Stp) (p : Pl), p.runS (a ++ b) = if (p.runS a).2 = 0 then (p.runS a).1.runS b else p.runS a
  | [], b, p => by simp [runS_nil]
  | s :: r, b, p => by
    have ih := runS_append r b (p.stP s)
    rw [List.cons_append, runS_cons, runS_cons]
    by_cases h : p.stE s = 0
    · rw [if_pos h, if_pos h, ih]
    · rw [if_neg h, if_neg h, if_neg h]
/-- how far the counts are from their bound -/
def Pl.sm (p : Pl) (k : Nat) : Prop := p.nf + p.pd.length + k < 1099511627776
theorem sm_mono {p : Pl} {a b : Nat} (h : p.sm a) (hb : b ≤ a) : p.sm b := by unfold Pl.sm at h ⊢; omega
theorem sectors_len (s : ByteArray) (l : List Int) (a e : Nat) : (Pl.sectors s l a e).length = (e + 63) / 64 - a / 64 := by simp [Pl.sectors]
theorem sm_write {p : Pl} {k : Nat} (s : ByteArray) (a : Int) (d : List Int) (h : p.sm (k + 20000)) : (p.write s a d).sm k := by
  unfold Pl.sm at h ⊢
  unfold Pl.write
  split
  · omega
  · rename_i h1
    split
    · simp only [Pl.step]; omega
    · split
      · omega
      · have e1 : (a.toNat + d.length + 63) / 64 - a.toNat / 64 ≤ 16386 := by omega
        unfold Pl.write1
        simp only [Pl.step, Pl.pend, Pl.setSeen, Pl.at_, List.length_append, sectors_len]
        split
        · unfold Pl.length
          split
          · simp only [Pl.at_]; omega
          · simp only [Pl.pend, Pl.setSeen, Pl.at_, List.length_append, List.length_cons, List.length_nil]; omega
        · omega
theorem sm_trunc {p : Pl} {k : Nat} (s : ByteArray) (n : Int) (h : p.sm (k + 20000)) : (p.trunc s n).sm k := by
  unfold Pl.sm at h ⊢
  unfold Pl.trunc
  split
  · omega
  · simp only [Pl.step]
    unfold Pl.length
    split
    · simp only [Pl.at_]; omega
    · simp only [Pl.pend, Pl.setSeen, Pl.at_, List.length_append, List.length_cons, List.length_nil]; omega
theorem sm_sync {p : Pl} {k : Nat} (s : ByteArray) (h : p.sm (k + 20000)) : (p.sync s).sm k := by
  unfold Pl.sm at h ⊢
  unfold Pl.sync
  split
  · omega
  · split
    · simp only [Pl.step]; omega
    · simp only [Pl.step, Pl.setKept, Pl.at_]
      have := List.length_filter_le (fun c : Cg => !decide (c.nm = s)) p.pd
      omega
theorem sm_st {p : Pl} {k : Nat} (s : Stp) (h : p.sm (k + 20000)) : (p.stP s).sm k := by
  unfold Pl.stP
  split
  · exact sm_write _ _ _ h
  · split
    · exact sm_trunc _ _ h
    · exact sm_sync _ h
theorem sm_run : ∀ (l : List Stp) {p : Pl} {k : Nat}, p.sm (k + 20000 * l.length) → (p.runS l).1.sm k
  | [], p, k, h => by rw [runS_nil]; exact sm_mono h (by omega)
  | s :: r, p, k, h => by
    have h1 : (p.stP s).sm (k + 20000 * r.length) := sm_st s (sm_mono h (by simp only [List.length_cons]; omega))
    rw [runS_cons]
    split
    · exact sm_run r h1
    · exact sm_mono h1 (by omega)
end Go.Proofs.Ytegcbdfilkecpaa
/- The stand-in disk among a caller's own blocks; no condition but on the texts' lengths and the counts. -/
namespace Go.Proofs.Ytegcbdfilkecpaa
open Go.RowKit

/-- a disk at db: since W0 only blocks of S are changed, and all its blocks are of S or newer than W0 -/
def Dq (S : Nat → Prop) (W0 w : World) (db : Nat) (p : Pl) : Prop := ∃ x, x.db = db ∧ Dk 0 w x ∧ Of x p ∧ Kp S W0 w ∧ (∀ b, x.O b → S b ∨ W0.heap.size ≤ b) ∧ ∀ b, S b → b < W0.heap.size
section
variable {S : Nat → Prop} {W0 w w' : World} {db : Nat} {p p' : Pl}
theorem Dq.kp (h : Dq S W0 w db p) : Kp S W0 w := by
  obtain ⟨x, e, hd, hp, hk, ho, hs⟩ := h
  exact hk
theorem Dq.lt (h : Dq S W0 w db p) : ∀ b, S b → b < W0.heap.size := by
  obtain ⟨x, e, hd, hp, hk, ho, hs⟩ := h
  exact hs
theorem Dq.keep (h : Dq S W0 w db p) (k : Kp NoB w w') : Dq S W0 w' db p := by
  obtain ⟨x, e, hd, hp, hk, ho, hs⟩ := h
  exact ⟨x, e, hd.keep k (fun _ _ q => q) (fun _ _ _ q => q), hp, hk.trans k (fun _ _ q => q.elim), ho, hs⟩
/-- the base moved up to now -/
theorem Dq.base (h : Dq S W0 w db p) : ∃ S', Dq S' w w db p ∧ (∀ b, S' b → S b ∨ W0.heap.size ≤ b) := by
  obtain ⟨x, e, hd, hp, hk, ho, hs⟩ := h
  exact ⟨x.O, ⟨x, e, hd, hp, Kp.refl _ _, fun b q => .inl q, hd.lt⟩, ho⟩
theorem Dq.base1 (h : Dq S w w db p) (k : Kp NoB w w') : Dq S w' w' db p := by
  obtain ⟨x, e, hd, hp, hk, ho, hs⟩ := h
  refine ⟨x, e, hd.keep k (fun _ _ q => q) (fun _ _ _ q => q), hp, Kp.refl _ _, fun b hb => ?_, fun b hb => Nat.lt_of_lt_of_le (hs b hb) k.size⟩
  rcases ho b hb with q | q
  · exact .inl q
  · have := hd.lt b hb
    omega
theorem Dq.tr {S' : Nat → Prop} {w0 : World} (h : Dq S' w w' db p') (k : Kp S W0 w) (hS : ∀ b, S' b → S b ∨ W0.heap.size ≤ b) (hs : ∀ b, S b → b < W0.heap.size) : Dq S W0 w' db p' := by
  obtain ⟨x, e, hd, hp, hk, ho, _⟩ := h
  refine ⟨x, e, hd, hp, k.trans hk (fun b hb q => ?_), fun b hb => ?_, hs⟩
  · rcases hS b q with q | q
    · exact q
    · omega
  · rcases ho b hb with q | q
    · exact hS b q
    · exact .inr (Nat.le_trans k.size q)
theorem Dq.up (h : Dq S w' w' db p) (k : Kp NoB w w') (hs : ∀ b, S b → b < w.heap.size) {w2 : World} (h2 : Dq S w' w2 db p') : Dq S w w2 db p' :=
  Dq.tr (w0 := w) h2 (k.mono (fun _ _ q => q.elim)) (fun _ q => .inl q) hs
theorem dq_of {x : Dd} {n0 : Nat} (hd : x.db = db) (hk : Kp S W0 w) (ho : ∀ b, x.O b → S b ∨ W0.heap.size ≤ b) (hs : ∀ b, S b → b < W0.heap.size) (h : To 0 w x p' w') : Dq S W0 w' db p' := by
  obtain ⟨x', hd', hp, e, k, o⟩ := h
  refine ⟨x', e.trans hd, hd', hp, hk.trans k (fun i hi q => ?_), fun b hb => ?_, hs⟩
  · rcases ho i q with q | q
    · exact q
    · omega
  · rcases o b hb with q | q
    · exact ho b q
    · exact .inr (Nat.le_trans hk.size q)
theorem new_q (w : World) (r : Int) (hr : -9223372036854775808 ≤ r ∧ r ≤ 9223372036854775807) :
    Calls Try.prog 17 #[.int .i64 r] w fun e w' => ∃ db, e = .returned (ptrV db) ∧ Dq (fun _ => False) w w' db (Pl.new r) :=
  (new_ok w r hr 0 (Nat.zero_le _)).mono fun e w' ⟨db, mb, he, hd, k, h1, h2⟩ => ⟨db, he, _, rfl, hd, ⟨rfl, rfl, rfl, rfl, Nat.le_refl _, rfl, rfl, rfl, rfl, rfl, rfl⟩, k, by
    refine ⟨?_, fun b q => q.elim⟩
    rintro b (rfl | rfl | q | ⟨e, he, rfl⟩)
    · exact .inr h1
    · exact .inr h2
    · cases q
    · cases he⟩
theorem write_q (h : Dq S W0 w db p) (s : ByteArray) (a : Int) (d : ByteArray) (hs : s.size ≤ maxLen) (hds : d.size ≤ maxLen) (hm : p.sm 20000) :
    Calls Try.prog 78 #[ptrV db, .string s, .int .i64 a, .string d] w fun e w' => e = .returned (.int .i64 (p.writeE s a (strI d))) ∧ Dq S W0 w' db (p.write s a (strI d)) := by
  obtain ⟨x, rfl, hd, hp, hk, ho, hz⟩ := h
  unfold Pl.sm at hm
  exact (write_ok w _ x p s a d hd hp hs hds (Nat.zero_le _) (by omega) (by omega)).mono fun e w' ⟨he, ht⟩ => ⟨he, dq_of (n0 := 0) rfl hk ho hz ht⟩
theorem trunc_q (h : Dq S W0 w db p) (s : ByteArray) (n : Int) (hn : -9223372036854775808 ≤ n ∧ n ≤ 9223372036854775807) (hs : s.size ≤ maxLen) (hm : p.sm 20000) :
    Calls Try.prog 86 #[ptrV db, .string s, .int .i64 n] w fun e w' => e = .returned (.int .i64 (p.truncE s n)) ∧ Dq S W0 w' db (p.trunc s n) := by
  obtain ⟨x, rfl, hd, hp, hk, ho, hz⟩ := h
  unfold Pl.sm at hm
  exact (trunc_ok w _ x p s n hn hd hp hs (Nat.zero_le _) (by omega) (by omega)).mono fun e w' ⟨he, ht⟩ => ⟨he, dq_of (n0 := 0) rfl hk ho hz ht⟩
theorem sync_q (h : Dq S W0 w db p) (s : ByteArray) (hs : s.size ≤ maxLen) (hm : p.sm 20000) :
    Calls Try.prog 88 #[ptrV db, .string s] w fun e w' => e = .returned (.int .i64 p.syncE) ∧ Dq S W0 w' db (p.sync s) := by
  obtain ⟨x, rfl, hd, hp, hk, ho, hz⟩ := h
  unfold Pl.sm at hm
  exact (sync_ok w _ x p s hd hp hs (Nat.zero_le _) (by omega) (by omega)).mono fun e w' ⟨he, ht⟩ => ⟨he, dq_of (n0 := 0) rfl hk ho hz ht⟩
theorem read_q (h : Dq S W0 w db p) (s : ByteArray) (a n : Int) (hs : s.size ≤ maxLen) (ha : -9223372036854775808 ≤ a ∧ a ≤ 9223372036854775807) (hn : -9223372036854775808 ≤ n ∧ n ≤ 9223372036854775807) :
    Calls Try.prog 28 #[ptrV db, .string s, .int .i64 a, .int .i64 n] w fun e w' => e = .returned (.tuple #[.string (strOf (p.read s a n)), .int .i64 (p.readE a n)]) ∧ Kp NoB w w' := by
  obtain ⟨x, rfl, hd, hp, hk, ho, hz⟩ := h
  exact read_ok w _ x p s a n ha hn hd hp hs
theorem len_q (h : Dq S W0 w db p) (s : ByteArray) (hs : s.size ≤ maxLen) : Calls Try.prog 67 #[ptrV db, .string s] w fun e w' => e = .returned (.int .i64 (p.len s)) ∧ w = w' := by
  obtain ⟨x, rfl, hd, hp, hk, ho, hz⟩ := h
  exact len_ok w _ x p s hd hp hs
/-- what is known of the plain state behind a disk -/
theorem Dq.seen_le (h : Dq S W0 w db p) (s : ByteArray) : (p.seen s).length ≤ 1048576 := by
  obtain ⟨x, rfl, hd, hp, hk, ho, hz⟩ := h
  rw [hp.seen]
  exact Go.Proofs.Ytegcbdfilkecpaa.seen_le hd s
theorem Dq.seen_rng (h : Dq S W0 w db p) (s : ByteArray) : ∀ y ∈ p.seen s, 0 ≤ y ∧ y < 256 := by
  obtain ⟨x, rfl, hd, hp, hk, ho, hz⟩ := h
  rw [hp.seen]
  unfold seenOf
  split
  · rename_i e hf
    obtain ⟨u, v, _, hu, _⟩ := (hd.fls e (findF_some hf).1).blk
    exact hu.rng
  · simp
end
end Go.Proofs.Ytegcbdfilkecpaa
/- Pages of 256 bytes in memory, and how the walk reads and writes them whole; no condition. -/
namespace Go.Proofs.Ytegcbdfilkecpaa
open Go.RowKit

def zero256 : Array Value := bytesV (zeros 256)
theorem zero256_eq : zero256 = bytesV (zeros 256) := rfl

theorem info26 : (Try.prog.info? 24).map (·.size) = some 256 := by kernel_rfl
theorem zeroValue26 (w : World) : (zeroValue 24).run Try.prog w = .ok (.agg zero256) w := by kernel_rfl

theorem load26 (w : World) (ev : Operand → Value) (ds : Option Tmp) (x : Operand) (ty : TypeId) (ps : String) (af : Array Edge) (g : Option (Nat × Bool)) (h : thereP w (ev x) 256) :
    (execOp ev ⟨ds, .load 24 x, ty, ps, af, g⟩).run Try.prog w = .ok (.value (.agg (readP w (ev x) 256))) w := execLoad_P Try.underlying24 rfl info26 w ev ds x ty ps af g h
theorem store26 (w : World) (ev : Operand → Value) (ds : Option Tmp) (x y : Operand) (ty : TypeId) (ps : String) (af : Array Edge) (g : Option (Nat × Bool)) (hv : aggOK (ev y) 256) (h : thereP w (ev x) 256) :
    (execOp ev ⟨ds, .store 24 x y, ty, ps, af, g⟩).run Try.prog w = .ok .skip (setP w (ev x) (ev y)) := execStore_P info26 w ev ds x y ty ps af g hv h
theorem alloc26 (w : World) (ev : Operand → Value) (ds : Option Tmp) (ty : TypeId) (ps : String) (af : Array Edge) (g : Option (Nat × Bool)) :
    (execOp ev ⟨ds, .alloc 24, ty, ps, af, g⟩).run Try.prog w = .ok (.value (.pointer (some ⟨w.heap.size, 0, none⟩))) (w.alloc (.cells zero256 24)) := by
  simp only [execOp, Instr.alloc, Sem.run_bind, zeroValue26, Result.andThen_ok]
  rfl
theorem build26 (w : World) (ev : Operand → Value) (ds : Option Tmp) (ty : TypeId) (ps : String) (af : Array Edge) (g : Option (Nat × Bool)) :
    (execOp ev ⟨ds, .build 24 #[], ty, ps, af, g⟩).run Try.prog w = .ok (.value (.agg zero256)) w := by
  kernel_rfl

theorem slice26lo (w : World) (ev : Operand → Value) (ds : Option Tmp) (x lo : Operand) (ty : TypeId) (ps : String) (af : Array Edge) (g : Option (Nat × Bool)) (h : sliceOK (ev x) (ev lo) (.int .i64 (256 : Nat)) 256) :
    (execOp ev ⟨ds, .slice 24 x (some lo) none none, ty, ps, af, g⟩).run Try.prog w = .ok (.value (sliceV (ev x) (ev lo) (.int .i64 (256 : Nat)) 256)) w := execSlice_lo Try.underlying24 infoU8 w ev ds x lo ty ps af g h
theorem slice26lohi (w : World) (ev : Operand → Value) (ds : Option Tmp) (x lo hi : Operand) (ty : TypeId) (ps : String) (af : Array Edge) (g : Option (Nat × Bool)) (h : sliceOK (ev x) (ev lo) (ev hi) 256) :
    (execOp ev ⟨ds, .slice 24 x (some lo) (some hi) none, ty, ps, af, g⟩).run Try.prog w = .ok (.value (sliceV (ev x) (ev lo) (ev hi) 256)) w := execSlice_lohi Try.underlying24 infoU8 w ev ds x lo hi ty ps af g h
end Go.Proofs.Ytegcbdfilkecpaa
/- Lists of structs that lie in memory, whoever they belong to: rows that are read; no condition. -/
namespace Go.Proofs.Ytegcbdfilkecpaa
open Go.RowKit

/-- a list of structs in memory that may be read -/
def RowsC (w : World) (A : Option Addr) (n : Nat) (sz : Nat) (xs : List (List Value)) : Prop :=
  xs.length = n ∧ (∀ x ∈ xs, x.length = sz) ∧ (0 < n → ∃ g o, A = some ⟨g, o, none⟩ ∧ g < w.heap.size ∧ ∀ k (h : k < xs.length) j (hj : j < sz), w.cell? ⟨g, o + k * sz + j, none⟩ = xs[k][j]? ∧ w.frozen? ⟨g, o + k * sz + j, none⟩ = false)
theorem RowsC.keepS {S : Nat → Prop} {w w' : World} {A : Option Addr} {n sz : Nat} {xs : List (List Value)} (h : RowsC w A n sz xs) (k : Kp S w w') (hA : ∀ g o, A = some ⟨g, o, none⟩ → 0 < n → ¬ S g) : RowsC w' A n sz xs :=
  ⟨h.1, h.2.1, fun hn => by
    obtain ⟨g, o, e, hg, hc⟩ := h.2.2 hn
    have hb := k.block g hg (hA g o e hn)
    exact ⟨g, o, e, Nat.lt_of_lt_of_le hg k.size, fun i hi j hj => ⟨(World.cell?_of_block (w := w) hb).trans (hc i hi j hj).1, (World.frozen?_of_block (w := w) hb).trans (hc i hi j hj).2⟩⟩⟩
theorem RowsC.keep {w w' : World} {A : Option Addr} {n sz : Nat} {xs : List (List Value)} (h : RowsC w A n sz xs) (k : Kp NoB w w') : RowsC w' A n sz xs := h.keepS k (fun _ _ _ _ q => q)
theorem RowsC.cell {w : World} {A : Option Addr} {n sz : Nat} {xs : List (List Value)} (h : RowsC w A n sz xs) {k : Nat} {x : List Value} (hk : xs[k]? = some x) : ∃ g o, A = some ⟨g, o, none⟩ ∧ g < w.heap.size ∧ ∀ j v, x[j]? = some v → w.cell? ⟨g, o + k * sz + j, none⟩ = some v := by
  obtain ⟨hk', rfl⟩ := List.getElem?_eq_some_iff.1 hk
  obtain ⟨g, o, e, hg, hc⟩ := h.2.2 (by have := h.1; omega)
  refine ⟨g, o, e, hg, fun j v hj => ?_⟩
  have hjl : j < sz := by
    rw [← h.2.1 _ (List.getElem_mem hk')]
    exact (List.getElem?_eq_some_iff.1 hj).1
  rw [(hc k hk' j hjl).1]
  exact hj
theorem RowsC.own {w : World} {base n cap sz : Nat} {e : TypeId} {A : Option Addr} {xs : List (List Value)} (h : w.ownsRow base e sz (.slice A n cap) n xs.flatten) (hl : xs.length = n) (hx : ∀ x ∈ xs, x.length = sz) : RowsC w A n sz xs :=
  ⟨hl, hx, fun hn => by
    obtain ⟨g, ds, rfl, hg, hb⟩ := own_blkN h hn
    refine ⟨g, 0, rfl, hb.lt, fun k hk j hj => ⟨?_, hb.frozen _⟩⟩
    have hlt : k * sz + j < xs.flatten.length := by
      rw [flat_len sz xs hx]
      have : (k + 1) * sz ≤ xs.length * sz := Nat.mul_le_mul_right _ hk
      rw [Nat.add_mul] at this
      omega
    rw [hb.cell]
    simp only [Nat.zero_add, List.getElem?_toArray]
    rw [List.getElem?_append_left hlt, flat_at sz xs hx k j hj hk]⟩
theorem RowsC.src {w : World} {n sz : Nat} {A : Option Addr} {xs : List (List Value)} (h : RowsC w A n sz xs) (hn : 0 < n) (hsz : 0 < sz) : ∃ g o, A = some ⟨g, o, none⟩ ∧ ∀ j u, xs.flatten[j]? = some u → w.cell? ⟨g, o + j, none⟩ = some u := by
  obtain ⟨g, o, rfl, hg, hc⟩ := h.2.2 hn
  refine ⟨g, o, rfl, fun j u hj => ?_⟩
  have hjl := (List.getElem?_eq_some_iff.1 hj).1
  rw [flat_len sz xs h.2.1] at hjl
  have hk : j / sz < xs.length := Nat.div_lt_of_lt_mul (by rw [Nat.mul_comm]; exact hjl)
  have hm : j % sz < sz := Nat.mod_lt _ hsz
  have e : j / sz * sz + j % sz = j := by rw [Nat.mul_comm]; exact Nat.div_add_mod j sz
  have h1 := flat_at sz xs h.2.1 (j / sz) (j % sz) hm hk
  rw [e, hj] at h1
  have h2 := (hc (j / sz) hk (j % sz) hm).1
  rw [Nat.add_assoc, e] at h2
  rw [h2, ← h1]
end Go.Proofs.Ytegcbdfilkecpaa
/- The journal's types in memory: sectors, words, numbered pages; no condition. -/
namespace Go.Proofs.Ytegcbdfilkecpaa
open Go.RowKit

theorem infoSec : (Try.prog.info? 146).map (·.size) = some 64 := by kernel_rfl
theorem zeroSec (w : World) : (zeroValue 146).run Try.prog w = .ok (.agg (bytesV (zeros 64))) w := by kernel_rfl
theorem loadSec (w : World) (ev : Operand → Value) (ds : Option Tmp) (x : Operand) (ty : TypeId) (ps : String) (af : Array Edge) (g : Option (Nat × Bool)) (h : thereP w (ev x) 64) :
    (execOp ev ⟨ds, .load 146 x, ty, ps, af, g⟩).run Try.prog w = .ok (.value (.agg (readP w (ev x) 64))) w := execLoad_P Try.underlying146 rfl infoSec w ev ds x ty ps af g h
theorem storeSec (w : World) (ev : Operand → Value) (ds : Option Tmp) (x y : Operand) (ty : TypeId) (ps : String) (af : Array Edge) (g : Option (Nat × Bool)) (hv : aggOK (ev y) 64) (h : thereP w (ev x) 64) :
    (execOp ev ⟨ds, .store 146 x y, ty, ps, af, g⟩).run Try.prog w = .ok .skip (setP w (ev x) (ev y)) := execStore_P infoSec w ev ds x y ty ps af g hv h
theorem allocSec (w : World) (ev : Operand → Value) (ds : Option Tmp) (ty : TypeId) (ps : String) (af : Array Edge) (g : Option (Nat × Bool)) :
    (execOp ev ⟨ds, .alloc 146, ty, ps, af, g⟩).run Try.prog w = .ok (.value (.pointer (some ⟨w.heap.size, 0, none⟩))) (w.alloc (.cells (bytesV (zeros 64)) 146)) := by
  simp only [execOp, Instr.alloc, Sem.run_bind, zeroSec, Result.andThen_ok]
  rfl
theorem infoW4 : (Try.prog.info? 102).map (·.size) = some 4 := by kernel_rfl
theorem loadW4 (w : World) (ev : Operand → Value) (ds : Option Tmp) (x : Operand) (ty : TypeId) (ps : String) (af : Array Edge) (g : Option (Nat × Bool)) (h : thereP w (ev x) 4) :
    (execOp ev ⟨ds, .load 102 x, ty, ps, af, g⟩).run Try.prog w = .ok (.value (.agg (readP w (ev x) 4))) w := execLoad_P Try.underlying102 rfl infoW4 w ev ds x ty ps af g h
theorem storeW4 (w : World) (ev : Operand → Value) (ds : Option Tmp) (x y : Operand) (ty : TypeId) (ps : String) (af : Array Edge) (g : Option (Nat × Bool)) (hv : aggOK (ev y) 4) (h : thereP w (ev x) 4) :
    (execOp ev ⟨ds, .store 102 x y, ty, ps, af, g⟩).run Try.prog w = .ok .skip (setP w (ev x) (ev y)) := execStore_P infoW4 w ev ds x y ty ps af g hv h
def w4A (w : W4) : Array Value := #[.int .u32 w.a, .int .u32 w.b, .int .u32 w.c, .int .u32 w.d]
theorem w4A_ones (w : W4) : ones (w4A w) := by unfold ones w4A; simp [Value.oneCell']
/-- a page with its number, as a value -/
def pgL (x : Pg) : List Value := .int .i64 x.n :: x.b.map (Value.int .u8)
def pgA (x : Pg) : Array Value := (pgL x).toArray
structure PgOk (x : Pg) : Prop where
  len : x.b.length = 256
  rng : ∀ y ∈ x.b, 0 ≤ y ∧ y < 256
  n0 : -9223372036854775808 ≤ x.n ∧ x.n ≤ 9223372036854775807
theorem pgL_len {x : Pg} (h : PgOk x) : (pgL x).length = 257 := by simp [pgL, h.len]
theorem pgA_size {x : Pg} (h : PgOk x) : (pgA x).size = 257 := by simp [pgA, pgL_len h]
theorem pgL_one (x : Pg) : ∀ u ∈ pgL x, u.oneCell' = true := by
  intro u hu
  unfold pgL at hu
  rcases List.mem_cons.1 hu with rfl | hu
  · rfl
  · exact u8_one _ u hu
theorem pgA_ones (x : Pg) : ones (pgA x) := by
  unfold ones pgA
  simp only [List.all_toArray', List.all_eq_true]
  exact pgL_one x
theorem infoPgA : (Try.prog.info? 113).map (fun i => (i.zero, i.size, i.bytes)) = some (some (.agg ((#[.int .i64 0] : Array Value) ++ Array.replicate 256 (.int .u8 0))), 257, 264) := by kernel_rfl
theorem infoPgS : (Try.prog.info? 113).map (·.size) = some 257 := by kernel_rfl
theorem zeroPg (w : World) : (zeroValue 113).run Try.prog w = .ok (.agg (pgA ⟨0, zeros 256⟩)) w := by kernel_rfl
theorem loadPg (w : World) (ev : Operand → Value) (ds : Option Tmp) (x : Operand) (ty : TypeId) (ps : String) (af : Array Edge) (g : Option (Nat × Bool)) (h : thereP w (ev x) 257) :
    (execOp ev ⟨ds, .load 113 x, ty, ps, af, g⟩).run Try.prog w = .ok (.value (.agg (readP w (ev x) 257))) w := execLoad_P Try.underlying113 rfl infoPgS w ev ds x ty ps af g h
theorem storePg (w : World) (ev : Operand → Value) (ds : Option Tmp) (x y : Operand) (ty : TypeId) (ps : String) (af : Array Edge) (g : Option (Nat × Bool)) (hv : aggOK (ev y) 257) (h : thereP w (ev x) 257) :
    (execOp ev ⟨ds, .store 113 x y, ty, ps, af, g⟩).run Try.prog w = .ok .skip (setP w (ev x) (ev y)) := execStore_P infoPgS w ev ds x y ty ps af g hv h
theorem allocPg (w : World) (ev : Operand → Value) (ds : Option Tmp) (ty : TypeId) (ps : String) (af : Array Edge) (g : Option (Nat × Bool)) :
    (execOp ev ⟨ds, .alloc 113, ty, ps, af, g⟩).run Try.prog w = .ok (.value (.pointer (some ⟨w.heap.size, 0, none⟩))) (w.alloc (.cells (pgA ⟨0, zeros 256⟩) 113)) := by
  simp only [execOp, Instr.alloc, Sem.run_bind, zeroPg, Result.andThen_ok]
  rfl
theorem buildPg1 (w : World) (n : Int) : (Instr.build 113 #[(0, .int .i64 n)]).run Try.prog w = .ok (.agg (pgA ⟨n, zeros 256⟩)) w := by kernel_rfl
theorem exBuildPg1 (w : World) (ev : Operand → Value) (x : Operand) (n : Int) (ds : Option Tmp) (ty : TypeId) (ps : String) (af : Array Edge) (g : Option (Nat × Bool)) (hx : ev x = .int .i64 n) :
    (execOp ev ⟨ds, .build 113 #[(0, x)], ty, ps, af, g⟩).run Try.prog w = .ok (.value (.agg (pgA ⟨n, zeros 256⟩))) w := by
  simp only [execOp, List.map_toArray, List.map_cons, List.map_nil, hx, Sem.run_bind, buildPg1, Result.andThen_ok]
  rfl
theorem slicePg (w : World) (cs : Array Value) (hs : cs.size = 257) : (Instr.buildSlice 22 1 #[(0, .agg cs)]).run Try.prog w = .ok (.slice (some ⟨w.heap.size, 0, none⟩) 1 1) (w.alloc (.cells cs 113)) := by
  obtain ⟨i, hi, h0, h1, h2⟩ := info_parts infoPgA
  have hu := Try.underlying22
  have hc : (Value.agg cs).cells = cs := rfl
  have hf : ∀ Z : Array Value, Z.size = 257 → Instr.fill (fun i => some (i * 257, 257)) Z [(0, .agg cs)] = some cs := fun Z hZ => by
    have := Go.Great.fill_whole (s := 257) (by omega) [.agg cs] Z (by simp [hc, hs]) (by simp [hZ])
    simpa [hc] using this
  simp [Instr.buildSlice, run_underlying hu, sizeOf, typeInfo, hi, h1, zeroPg, newRow, newObj]
  rw [hf _ (by simp)]
  rfl
theorem exSlicePg (w : World) (ev : Operand → Value) (x : Operand) (cs : Array Value) (ds : Option Tmp) (ty : TypeId) (ps : String) (af : Array Edge) (g : Option (Nat × Bool)) (hx : ev x = .agg cs) (hs : cs.size = 257) :
    (execOp ev ⟨ds, .buildSlice 22 1 #[(0, x)], ty, ps, af, g⟩).run Try.prog w = .ok (.value (.slice (some ⟨w.heap.size, 0, none⟩) 1 1)) (w.alloc (.cells cs 113)) := by
  simp only [execOp, List.map_toArray, List.map_cons, List.map_nil, hx, Sem.run_bind, slicePg w cs hs, Result.andThen_ok]
  rfl
/-- a list of pages in memory -/
def PgsAt (w : World) (A : Option Addr) (n : Nat) (l : List Pg) : Prop := RowsC w A n 257 (l.map pgL)
theorem PgsAt.len {w : World} {A : Option Addr} {n : Nat} {l : List Pg} (h : PgsAt w A n l) : l.length = n := by have := h.1; simpa using this
theorem PgsAt.keep {w w' : World} {A : Option Addr} {n : Nat} {l : List Pg} (h : PgsAt w A n l) (k : Kp NoB w w') : PgsAt w' A n l := RowsC.keep h k
/-- one of its pages -/
theorem PgsAt.at_ {w : World} {A : Option Addr} {n : Nat} {l : List Pg} (h : PgsAt w A n l) (k : Nat) (hk : k < n) : ∃ g o, A = some ⟨g, o, none⟩ ∧ g < w.heap.size ∧ w.there g (o + k * 257) 257 ∧ readRow w g (o + k * 257) 257 = pgA (l[k]'(by rw [h.len]; exact hk)) := by
  have hkl : k < (l.map pgL).length := by have := h.1; omega
  obtain ⟨g, o, e, hg, hc⟩ := h.2.2 (by omega)
  have hl : ((l.map pgL)[k]).length = 257 := h.2.1 _ (List.getElem_mem hkl)
  have h2 : k * 257 + 257 ≤ n * 257 := by omega
  have ht : w.there g (o + k * 257) 257 := fun j hj => by
    obtain ⟨h5, h6⟩ := hc k hkl j hj
    refine ⟨?_, h6⟩
    rw [h5, List.getElem?_eq_getElem (by omega)]
    rfl
  refine ⟨g, o, e, hg, ht, ?_⟩
  unfold readRow pgA
  congr 1
  apply List.ext_getElem
  · simp only [List.getElem_map] at hl
    simp [hl]
  · intro j h1 h3
    have hj : j < 257 := by simpa using h1
    simp only [List.getElem_map, List.getElem_range]
    rw [(hc k hkl j hj).1]
    simp only [List.getElem_map]
    rw [List.getElem?_eq_getElem h3]
    rfl
/-- copy of a string into bytes that lie there -/
theorem copyS (w : World) (g o n cap : Nat) (s : ByteArray) (hle : s.size ≤ n) (ht : w.there g o s.size) :
    (Builtin.copy_ #[42, 9] 3 #[.slice (some ⟨g, o, none⟩) n cap, .string s]).run Try.prog w = .ok (.int .i64 s.size) (w.setCells g o ((strI s).map (Value.int .u8))) := by
  have hrun := Go.run_copy_string (P := Try.prog) w 42 9 3 5 g o n cap s Try.underlying42 sizeU8 hle (fun j hj => (ht j hj).1) (fun j hj => (ht j hj).2)
  have e : (strI s).map (Value.int .u8) = s.data.toList.map fun x => Value.int .u8 (x.toNat : Int) := by
    unfold strI
    rw [List.map_map]
    rfl
  rw [e]
  exact hrun
end Go.Proofs.Ytegcbdfilkecpaa
/- The sealed sector: one of its copies read; no condition. -/
namespace Go.Proofs.Ytegcbdfilkecpaa
open Go.RowKit

/-- the first k bytes from place a on as a number -/
def accN (l : List Int) (a : Nat) : Nat → Int
  | 0 => 0
  | k + 1 => accN l a k * 256 + l.getD (a + k) 0
theorem getD_rng {l : List Int} (h : ∀ y ∈ l, 0 ≤ y ∧ y < 256) (a : Nat) : 0 ≤ l.getD a 0 ∧ l.getD a 0 < 256 := by
  rcases Nat.lt_or_ge a l.length with q | q
  · rw [List.getD_eq_getElem?_getD, List.getElem?_eq_getElem q]
    exact h _ (List.getElem_mem q)
  · rw [List.getD_eq_getElem?_getD, List.getElem?_eq_none q]
    decide
theorem accN_num (l : List Int) (a : Nat) : accN l a 4 = num l a := by
  unfold accN accN accN accN accN num
  simp only [Nat.add_zero]
  omega
theorem accN_rng {l : List Int} (h : ∀ y ∈ l, 0 ≤ y ∧ y < 256) (a : Nat) : ∀ k, 0 ≤ accN l a k ∧ accN l a k < 256 ^ k
  | 0 => by simp [accN]
  | k + 1 => by
    obtain ⟨h1, h2⟩ := accN_rng h a k
    obtain ⟨h3, h4⟩ := getD_rng h (a + k)
    unfold accN
    rw [Int.pow_succ]
    omega
theorem num_rng {l : List Int} (h : ∀ y ∈ l, 0 ≤ y ∧ y < 256) (a : Nat) : 0 ≤ num l a ∧ num l a < 4294967296 := by
  rw [← accN_num]
  have := accN_rng h a 4
  have e : (256 : Int) ^ 4 = 4294967296 := by decide
  omega
theorem sliceSeclohi (w : World) (ev : Operand → Value) (ds : Option Tmp) (x lo hi : Operand) (ty : TypeId) (ps : String) (af : Array Edge) (g : Option (Nat × Bool)) (h : sliceOK (ev x) (ev lo) (ev hi) 64) :
    (execOp ev ⟨ds, .slice 146 x (some lo) (some hi) none, ty, ps, af, g⟩).run Try.prog w = .ok (.value (sliceV (ev x) (ev lo) (ev hi) 64)) w := execSlice_lohi Try.underlying146 infoU8 w ev ds x lo hi ty ps af g h
theorem or_byteS (a x : Int) (h0 : 0 ≤ a) (h1 : a < 16777216) (h2 : 0 ≤ x) (h3 : x < 256) : bits BinOp.or IntKind.u32 (a * 256) x = a * 256 + x := by
  obtain ⟨m, rfl⟩ := Int.eq_ofNat_of_zero_le h0
  obtain ⟨n, rfl⟩ := Int.eq_ofNat_of_zero_le h2
  have e : bits BinOp.or IntKind.u32 ((m : Int) * 256) n = IntKind.u32.wrap ((BitVec.ofInt 32 ((m : Int) * 256) ||| BitVec.ofInt 32 n).toNat) := rfl
  have hm : m < 16777216 := by omega
  have hn : n < 256 := by omega
  have e1 : BitVec.ofInt 32 ((m : Int) * 256) = BitVec.ofNat 32 (m * 256) := by
    rw [show ((m : Int) * 256) = ((m * 256 : Nat) : Int) by omega]
    exact BitVec.ofInt_natCast _ _
  have e2 : BitVec.ofInt 32 (n : Int) = BitVec.ofNat 32 n := BitVec.ofInt_natCast _ _
  rw [e, e1, e2, BitVec.toNat_or, BitVec.toNat_ofNat, BitVec.toNat_ofNat, Nat.mod_eq_of_lt (by omega), Nat.mod_eq_of_lt (by omega)]
  have h := Nat.shiftLeft_add_eq_or_of_lt (i := 8) (b := n) (by omega) m
  rw [Nat.shiftLeft_eq] at h
  have h' : m * 256 ||| n = m * 256 + n := h.symm
  rw [h', IntKind.wrap_u32]
  omega
/-- four words, the first i read, the i-th under way -/
def uW (l : List Int) (a i : Nat) (x : Int) : List Int := (List.range 4).map fun j => if j < i then num l (a + 4 * j) else if j = i then x else 0
def uWA (l : List Int) (a i : Nat) (x : Int) : Array Value := ((uW l a i x).map (Value.int .u32)).toArray
theorem uWA_set (l : List Int) (a i : Nat) (x y : Int) (hi : i < 4) : (uWA l a i x).setIfInBounds i (.int .u32 y) = uWA l a i y := by
  rcases (show i = 0 ∨ i = 1 ∨ i = 2 ∨ i = 3 by omega) with rfl | rfl | rfl | rfl <;> rfl
theorem uWA_get (l : List Int) (a i : Nat) (x : Int) (hi : i < 4) : (uWA l a i x)[i]? = some (.int .u32 x) := by
  rcases (show i = 0 ∨ i = 1 ∨ i = 2 ∨ i = 3 by omega) with rfl | rfl | rfl | rfl <;> rfl
theorem uWA_next (l : List Int) (a i : Nat) (hi : i < 4) : uWA l a i (num l (a + 4 * i)) = uWA l a (i + 1) 0 := by
  rcases (show i = 0 ∨ i = 1 ∨ i = 2 ∨ i = 3 by omega) with rfl | rfl | rfl | rfl <;> rfl
theorem uWA_all (l : List Int) (a : Nat) (x : Int) : uWA l a 4 x = w4A (wordsAt l a) := rfl
/-- in the midst of words -/
structure WdS (w : World) (l : List Int) (a i : Nat) (x : Int) (W : World) : Prop where
  kp : Kp NoB w W
  b1 : Blk W w.heap.size 146 (bytesV l)
  b2 : Blk W (w.heap.size + 1) 102 #[.int .u32 0, .int .u32 0, .int .u32 0, .int .u32 0]
  b3 : Blk W (w.heap.size + 2) 102 (uWA l a i x)
theorem WdS.set_ {w : World} {l : List Int} {a i : Nat} {x : Int} {W : World} (h : WdS w l a i x W) (hi : i < 4) (y : Int) : WdS w l a i y (W.setCell ⟨w.heap.size + 2, i, none⟩ (.int .u32 y)) := by
  refine ⟨h.kp.setCell (p := ⟨w.heap.size + 2, i, none⟩) (.inl (by show _ ≤ w.heap.size + 2; omega)) _, h.b1.far (p := ⟨w.heap.size + 2, i, none⟩) (by simp) _, h.b2.far (p := ⟨w.heap.size + 2, i, none⟩) (by simp) _, ?_⟩
  have := h.b3.set_ i (.int .u32 y)
  rwa [uWA_set _ _ _ _ _ hi] at this
attribute [local go_sem ↓] loadSec storeSec allocSec sliceSeclohi loadW4 storeW4
set_option maxRecDepth 100000 in
set_option maxHeartbeats 1600000 in
theorem words_ok (w : World) (l : List Int) (c : Nat) (hc : c ≤ 2) (hl : l.length = 64) (hr : ∀ y ∈ l, 0 ≤ y ∧ y < 256) :
    Calls Try.prog 155 #[.agg (bytesV l), .int .i64 c] w fun e w' => e = .returned (.agg (w4A (wordsAt l (16 * c)))) ∧ Kp NoB w w' := by
  have HL := Lib.hid hl
  have HR := Lib.hid hr
  have hst : WdS w l (16 * c) 0 0 (((w.alloc (.cells (bytesV l) 146)).alloc (.cells #[.int .u32 0, .int .u32 0, .int .u32 0, .int .u32 0] 102)).alloc (.cells #[.int .u32 0, .int .u32 0, .int .u32 0, .int .u32 0] 102)) :=
    ⟨(((Kp.refl _ _).alloc _).alloc _).alloc _, ((Blk.new _ _ _).alloc _).alloc _, (Blk.newAt _ _ _ _ (by simp)).alloc _, Blk.newAt _ _ _ _ (by simp)⟩
  have HST := Lib.hid hst
  clear hst hl hr
  go_enter Try.func155, Try.ntmps155
  go_wp2
  refine forget (p := fun wx => Code.wp _ _ _ _ wx) (WdS w l (16 * c) 0 0) HST.out ?_
  intro W hW
  have HW := Lib.hid hW
  clear hW HST
  go_loopw [9] (fun v wr => ∃ i : Nat, i ≤ 4 ∧ v = .int .i64 i ∧ WdS w l (16 * c) i 0 wr) (fun v _ => 4 - (intOf v).toNat)
  case atStart => exact ⟨0, by omega, rfl, HW.out⟩
  case round =>
    obtain ⟨i, hi, rfl, hs⟩ := hrel
    have HS := Lib.hid hs
    clear hs
    by_cases hlt : i < 4
    · obtain ⟨A, hA⟩ : ∃ A, 16 * c + 4 * i = A := ⟨_, rfl⟩
      have HA := Lib.hid hA
      have hw1 : IntKind.i64.wrap ((c : Int) * 16) = (c : Int) * 16 := by rw [IntKind.wrap_i64]; omega
      have hw2 : IntKind.i64.wrap ((i : Int) * 4) = (i : Int) * 4 := by rw [IntKind.wrap_i64]; omega
      have hw3 : IntKind.i64.wrap ((c : Int) * 16 + (i : Int) * 4) = (A : Int) := by rw [IntKind.wrap_i64]; omega
      have hw4 : IntKind.i64.wrap ((A : Int) + 4) = (A : Int) + 4 := by rw [IntKind.wrap_i64]; omega
      have hA0 : A + 4 ≤ 64 := by omega
      have hA1 : (A : Int) + 4 ≤ 64 := by omega
      have hA2 : (A : Int) ≤ (A : Int) + 4 := by omega
      have hA3 : ((A : Int) + 4).toNat = A + 4 := by omega
      have hA4 : 0 ≤ (A : Int) + 4 := by omega
      have hne : ¬ 64 = A := by omega
      have hii : (i : Int) < 4 := by omega
      clear hA
      go_wp2_with fail
      go_loopw [25] (fun v wr => ∃ k : Nat, k ≤ 4 ∧ v = .int .i64 k ∧ WdS w l (16 * c) i (accN l A k) wr) (fun v _ => 4 - (intOf v).toNat)
      case atStart => exact ⟨0, by omega, rfl, HS.out⟩
      case round =>
        obtain ⟨k, hk, rfl, hs2⟩ := hrel
        have HS2 := Lib.hid hs2
        by_cases hk4 : k < 4
        · have hkk : (k : Int) < 4 := by omega
          obtain ⟨b, hb⟩ : ∃ b, l.getD (A + k) 0 = b := ⟨_, rfl⟩
          have HB := Lib.hid hb
          have c1 : wr.cell? ⟨w.heap.size, A + k, none⟩ = some (.int .u8 b) := by
            rw [hs2.b1.cell, ← hb]
            unfold bytesV
            have := HL.out
            simp [List.getD_eq_getElem?_getD, show A + k < l.length by omega]
          obtain ⟨x, hx⟩ : ∃ x, accN l A k = x := ⟨_, rfl⟩
          have HX := Lib.hid hx
          have hbr := getD_rng HR.out (A + k)
          rw [hb] at hbr
          have hxr : 0 ≤ x ∧ x < 16777216 := by
            have := accN_rng HR.out A k
            rw [hx] at this
            rcases (show k = 0 ∨ k = 1 ∨ k = 2 ∨ k = 3 by omega) with rfl | rfl | rfl | rfl <;> simp at this <;> omega
          have c2 : wr.cell? ⟨w.heap.size + 1 + 1, i, none⟩ = some (.int .u32 x) := by rw [show w.heap.size + 1 + 1 = w.heap.size + 2 from rfl, hs2.b3.cell, hx]; exact uWA_get _ _ _ _ hlt
          have z2 : wr.frozen? ⟨w.heap.size + 1 + 1, i, none⟩ = false := hs2.b3.frozen i
          have HBR := Lib.hid hbr
          have HXR := Lib.hid hxr
          have hsh : IntKind.u32.wrap (x * 256) = x * 256 := by rw [IntKind.wrap_u32]; omega
          clear hs2 hb hx hbr hxr
          go_wp2_with fail
          refine ⟨⟨k + 1, by omega, by congr 1, ?_⟩, by simp [intOf]; omega⟩
          have e : accN l A (k + 1) = x * 256 + b := by
            show accN l A k * 256 + l.getD (A + k) 0 = _
            rw [HX.out, HB.out]
          rw [Int.emod_eq_of_lt HBR.out.1 (by have := HBR.out.2; omega), or_byteS x b HXR.out.1 HXR.out.2 HBR.out.1 HBR.out.2, ← e]
          exact (HS2.out.set_ hlt _).set_ hlt _
        · have hkk : ¬ (k : Int) < 4 := by omega
          obtain rfl : k = 4 := by omega
          clear hs2
          go_wp2_with fail
          refine ⟨⟨i + 1, by omega, by congr 1, ?_⟩, by simp [intOf]; omega⟩
          have h2 := HS2.out
          rw [accN_num, ← HA.out] at h2
          exact ⟨h2.kp, h2.b1, h2.b2, by have := h2.b3; rwa [uWA_next _ _ _ hlt] at this⟩
    · have hii : ¬ (i : Int) < 4 := by omega
      obtain rfl : i = 4 := by omega
      have hs := HS.out
      have b3 := hs.b3
      rw [uWA_all] at b3
      have t1 : wr.there (w.heap.size + 1 + 1) 0 4 := b3.thereAll 4 rfl
      have r1 : readRow wr (w.heap.size + 1 + 1) 0 4 = w4A (wordsAt l (16 * c)) := b3.readAll 4 rfl
      have t2 : wr.there (w.heap.size + 1) 0 4 := hs.b2.thereAll 4 rfl
      have o1 := w4A_ones (wordsAt l (16 * c))
      have s1 : (w4A (wordsAt l (16 * c))).size = 4 := rfl
      obtain ⟨RR, hRR⟩ : ∃ RR, w4A (wordsAt l (16 * c)) = RR := ⟨_, rfl⟩
      rw [hRR] at r1 o1 s1
      have HRR := Lib.hid hRR
      have S1 := Lib.hid s1
      clear hRR
      clear hs b3
      go_wp2_with fail
      refine bodyPost_ret (ret_cell1 rfl _ _ _ _ _ _ rfl (HS.out.b2.whole RR S1.out.symm) Try.underlying102 rfl (by rw [S1.out]; exact infoW4)) rfl ⟨by rw [HRR.out], ?_⟩
      exact Kp.setCells (.inl (by omega)) _ _ _ HS.out.kp
end Go.Proofs.Ytegcbdfilkecpaa
/- A region with several ways that end alike: they are brought to one form; a long store among the ready operations; no condition. -/
namespace Go.Proofs.Ytegcbdfilkecpaa
open Go

def Into (F : Nat → Act) (G : World → Nat → Prop) : Exit → Act → World → Prop
  | .normal, a, w => ∃ g, a = F g ∧ G w g
  | _, _, _ => False
theorem wp_into {P : Program} {c : Code} {Q : Exit → Act → World → Prop} {a : Act} {w : World} (F : Nat → Act) (G : World → Nat → Prop) (h : c.wp P (Into F G) a w) (k : ∀ g w', G w' g → Q .normal (F g) w') : c.wp P Q a w :=
  Code.wp_mono (fun e a w q => by cases e <;> first | exact q.elim | (obtain ⟨g, rfl, hg⟩ := q; exact k g _ hg)) h
theorem into_of {F : Nat → Act} {G : World → Nat → Prop} {a : Act} {w : World} (g : Nat) (h : G w g) (e : a = F g) : Into F G .normal a w := ⟨g, e, h⟩

theorem AllReadyH.store {P : Program} {ops : Array Oper} {Q : Exit → Act → World → Prop} {md : Region.Mode} {S : World → Prop} {fuel : Nat} {listed : Array Bool} {a : Act} {w : World} {i : Nat} {o : Oper} {rs : List Nat} (ho : ops[i]? = some o)
    (hw : Region.wanted o (yielded ops a.tmps) = true) (ty : TypeId) (x y : Operand) (hop : o.op = .store ty x y) (b off : Nat) (cells : Array Value)
    (hx : a.eval x = .pointer (some ⟨b, off, none⟩)) (hy : a.eval y = .agg cells) (ht : w.there b off cells.size) (hi : (P.info? ty).map (·.size) = some cells.size) (h1 : cells.all (·.oneCell') = true)
    (hS : S (w.setCells b off cells.toList)) (hn : wpAnyH P md ops Q S fuel (listed.setIfInBounds i true) (a.put o.dst undef) (w.setCells b off cells.toList))
    (hs : AllReadyH P md ops Q S fuel listed a w rs) : AllReadyH P md ops Q S fuel listed a w (i :: rs) :=
  AllReadyH.cons ho (fun K hK => by rw [if_pos hw]; exact wp_store_mid ty x y hop b off cells hx hy ht hi h1 (hK.out _ _ hS (fun _ => hn))) hs
end Go.Proofs.Ytegcbdfilkecpaa
/- A region with several ways that end alike in two blocks and two values; a call, a value among the ready operations; no condition. -/
namespace Go.Proofs.Ytegcbdfilkecpaa
open Go

def Into4 (F : Nat → Nat → Value → Value → Act) (G : World → Nat → Nat → Value → Value → Prop) : Exit → Act → World → Prop
  | .normal, a, w => ∃ g h u v, a = F g h u v ∧ G w g h u v
  | _, _, _ => False
theorem wp_into4 {P : Program} {c : Code} {Q : Exit → Act → World → Prop} {a : Act} {w : World} (F : Nat → Nat → Value → Value → Act) (G : World → Nat → Nat → Value → Value → Prop) (h : c.wp P (Into4 F G) a w) (k : ∀ g h u v w', G w' g h u v → Q .normal (F g h u v) w') : c.wp P Q a w :=
  Code.wp_mono (fun e a w q => by cases e <;> first | exact q.elim | (obtain ⟨g, h, u, v, rfl, hg⟩ := q; exact k g h u v _ hg)) h
theorem into4_of {F : Nat → Nat → Value → Value → Act} {G : World → Nat → Nat → Value → Value → Prop} {a : Act} {w : World} (g h : Nat) (u v : Value) (q : G w g h u v) (e : a = F g h u v) : Into4 F G .normal a w := ⟨g, h, u, v, e, q⟩

section
variable {P : Program} {ops : Array Oper} {Q : Exit → Act → World → Prop} {md : Region.Mode} {S : World → Prop} {fuel : Nat} {listed : Array Bool} {a : Act} {w : World} {i : Nat} {rs : List Nat}
variable {ds : Option Tmp} {op : Op} {ty : TypeId} {ps : String} {af : Array Edge} {gd : Option (Nat × Bool)}
/-- a call among the ready operations: what is known behind it is R -/
theorem AllReadyH.callR (R : Value → World → Prop) (ho : ops[i]? = some ⟨ds, op, ty, ps, af, gd⟩) (hw : Region.wanted ⟨ds, op, ty, ps, af, gd⟩ (yielded ops a.tmps) = true) (f : FuncId) (args : Array Value)
    (hr : (execOp a.eval ⟨ds, op, ty, ps, af, gd⟩).run P w = .ok (.enter f args) w) (hS : ∀ v w', R v w' → S w') (hc : Calls P f args w fun e w' => ∃ v, e = .returned v ∧ R v w')
    (hn : ∀ v w', R v w' → wpAnyH P md ops Q S fuel (listed.setIfInBounds i true) (a.put ds v) w')
    (hs : AllReadyH P md ops Q S fuel listed a w rs) : AllReadyH P md ops Q S fuel listed a w (i :: rs) :=
  AllReadyH.cons ho (fun K hK => by
    rw [if_pos hw]
    unfold Oper.wp
    rw [hr, Oper.upon_enter]
    refine hc.mono ?_
    rintro e w' ⟨v, rfl, h⟩
    exact hK.out _ _ (hS v w' h) (fun _ => hn v w' h)) hs
/-- an operation that yields a value and turns the world: what is known behind it is R -/
theorem AllReadyH.valR (R : World → Prop) (ho : ops[i]? = some ⟨ds, op, ty, ps, af, gd⟩) (hw : Region.wanted ⟨ds, op, ty, ps, af, gd⟩ (yielded ops a.tmps) = true) (v : Value) (w' : World)
    (hr : (execOp a.eval ⟨ds, op, ty, ps, af, gd⟩).run P w = .ok (.value v) w') (hS : ∀ w', R w' → S w') (h : R w')
    (hn : ∀ w', R w' → wpAnyH P md ops Q S fuel (listed.setIfInBounds i true) (a.put ds v) w')
    (hs : AllReadyH P md ops Q S fuel listed a w rs) : AllReadyH P md ops Q S fuel listed a w (i :: rs) :=
  AllReadyH.cons ho (fun K hK => by
    rw [if_pos hw]
    unfold Oper.wp
    rw [hr, Oper.upon_value]
    exact hK.out _ _ (hS w' h) (fun _ => hn w' h)) hs
theorem AllReadyH.storeL {tx : TypeId} {x y : Operand} (ho : ops[i]? = some ⟨none, .store tx x y, ty, ps, af, gd⟩)
    (hw : Region.wanted ⟨none, .store tx x y, ty, ps, af, gd⟩ (yielded ops a.tmps) = true) (b off : Nat) (cells : Array Value)
    (hx : a.eval x = .pointer (some ⟨b, off, none⟩)) (hy : a.eval y = .agg cells) (ht : w.there b off cells.size) (hi : (P.info? tx).map (·.size) = some cells.size) (h1 : cells.all (·.oneCell') = true)
    (hS : S (w.setCells b off cells.toList)) (hn : wpAnyH P md ops Q S fuel (listed.setIfInBounds i true) a (w.setCells b off cells.toList))
    (hs : AllReadyH P md ops Q S fuel listed a w rs) : AllReadyH P md ops Q S fuel listed a w (i :: rs) :=
  AllReadyH.cons ho (fun K hK => by rw [if_pos hw]; exact wp_store_mid tx x y rfl b off cells hx hy ht hi h1 (hK.out _ _ hS (fun _ => hn))) hs
theorem wpAnyH_takeL {v : Value} (hi : ops[i]? = some ⟨ds, op, ty, ps, af, gd⟩)
    (hs : Region.noSelect ops = true) (hf : Region.free md ops listed i = true) (hr : (Region.ready md ops listed).contains i = true)
    (hQ : ∀ c a w, Q (.panic c) (a.put ds v) w → Q (.panic c) a w) (hy : YieldsIf P ops S ⟨ds, op, ty, ps, af, gd⟩ v a) (hS : S w)
    (h : wpAnyH P md ops Q S fuel (listed.setIfInBounds i true) (a.put ds v) w) : wpAnyH P md ops Q S (fuel + 1) listed a w :=
  wpAnyH_take hi hs hf hr hQ hy hS h
end
end Go.Proofs.Ytegcbdfilkecpaa
namespace Go.Proofs.Ytegcbdfilkecpaa
section
variable {P : Go.Program} {ops : Array Go.Oper} {Q : Go.Exit → Go.Act → Go.World → Prop} {md : Go.Region.Mode} {S : Go.World → Prop} {fuel : Nat} {listed : Array Bool} {a : Go.Act} {w : Go.World} {i : Nat}
variable {ds : Option Go.Tmp} {op : Go.Op} {ty : Go.TypeId} {ps : String} {af : Array Go.Edge} {gd : Option (Nat × Bool)}
theorem tkS {v : Go.Value} (hi : ops[i]? = some ⟨ds, op, ty, ps, af, gd⟩) (hy : Go.YieldsIf P ops S ⟨ds, op, ty, ps, af, gd⟩ v a) (hS : S w)
    (h : Go.wpAnyH P md ops Q S fuel (listed.setIfInBounds i true) (a.put ds v) w) (hQ : ∀ c a w, Q (.panic c) (a.put ds v) w → Q (.panic c) a w := by exact fun _ _ _ h => h)
    (hs : Go.Region.noSelect ops = true := by kernel_rfl) (hf : Go.Region.free md ops listed i = true := by kernel_rfl) (hr : (Go.Region.ready md ops listed).contains i = true := by kernel_rfl) : Go.wpAnyH P md ops Q S (fuel + 1) listed a w :=
  wpAnyH_takeL hi hs hf hr hQ hy hS h
end
theorem skA (l : List Go.Value) (i : Nat) (v : Go.Value) : l.toArray.setIfInBounds i v = (l.set i v).toArray := by simp
theorem skB (x : Go.Value) (l : List Go.Value) (v : Go.Value) : (x :: l).set 0 v = v :: l := rfl
theorem skC (x : Go.Value) (l : List Go.Value) (i : Nat) (v : Go.Value) : (x :: l).set (i + 1) v = x :: l.set i v := rfl
end Go.Proofs.Ytegcbdfilkecpaa
/- Slices of texts in memory; no condition. -/
namespace Go.Proofs.Ytegcbdfilkecpaa
open Go.RowKit

/-- a slice of strings in memory -/
def Sl (w : World) (A : Option Addr) (n : Nat) (xs : List ByteArray) : Prop :=
  xs.length = n ∧ (0 < n → ∃ g o, A = some ⟨g, o, none⟩ ∧ g < w.heap.size ∧ ∀ k, k < n → w.cell? ⟨g, o + k, none⟩ = some (.string (xs.getD k ByteArray.empty)))
theorem Sl.keep {w w' : World} {A : Option Addr} {n : Nat} {xs : List ByteArray} (h : Sl w A n xs) (k : Kp NoB w w') : Sl w' A n xs :=
  ⟨h.1, fun hn => by
    obtain ⟨g, o, e, hg, hc⟩ := h.2 hn
    exact ⟨g, o, e, Nat.lt_of_lt_of_le hg k.size, fun j hj => (k.cell hg (fun q => q)).trans (hc j hj)⟩⟩
end Go.Proofs.Ytegcbdfilkecpaa
/- Pages are laid as the document says: the program's lay, room and told; no condition. -/
namespace Go.Proofs.Ytegcbdfilkecpaa
open Go.RowKit
attribute [local go_sem ↓] load26 store26 alloc26 build26 slice26lo

/-! ### the page of a body, as a list of numbers -/
def w8 (n : Int) : Int := n % 256
def hd6 (kind link : Int) (n : Nat) : List Int := [kind, w8 n, w8 (link / 16777216), w8 (link / 65536), w8 (link / 256), w8 link]
theorem bytesV_noStr {l : List Int} {i : Nat} {c : ByteArray} (h : (bytesV l)[i]? = some (.string c)) : False := by
  unfold bytesV at h
  simp only [List.getElem?_toArray, List.getElem?_map] at h
  cases hq : l[i]? <;> rw [hq] at h <;> simp at h
theorem Sl.on {W W' : World} {A : Option Addr} {n : Nat} {xs : List ByteArray} {g4 : Nat} {t : TypeId} {l : List Int} (h : Sl W A n xs) (hb : Blk W g4 t (bytesV l)) (k : Kp (OnB g4) W W') : Sl W' A n xs := by
  refine ⟨h.1, fun hn => ?_⟩
  obtain ⟨g, o, e, hg, hc⟩ := h.2 hn
  have hne : ¬ OnB g4 g := fun q => by
    unfold OnB at q
    subst q
    have c0 := hc 0 hn
    rw [hb.cell] at c0
    exact bytesV_noStr c0
  exact ⟨g, o, e, Nat.lt_of_lt_of_le hg k.size, fun j hj => (k.cell hg hne).trans (hc j hj)⟩
end Go.Proofs.Ytegcbdfilkecpaa
/- The program's told, cell and New: pages are made of any kind, link and cells; no condition. -/
namespace Go.Proofs.Ytegcbdfilkecpaa
open Go.RowKit
attribute [local go_sem ↓] load26 store26 alloc26 build26 slice26lo

end Go.Proofs.Ytegcbdfilkecpaa
/- The program's New: pages are made of any kind, link and cells; no condition. -/
namespace Go.Proofs.Ytegcbdfilkecpaa
open Go.RowKit
attribute [local go_sem ↓] load26 store26 alloc26 build26 slice26lo

end Go.Proofs.Ytegcbdfilkecpaa
/- The reference's Room, Lay, Told and New: pages are made of any kind, link and cells; no condition. -/
namespace Go.Proofs.Ytegcbdfilkecpaa
open Go.RowKit
attribute [local go_sem ↓] load26 store26 alloc26 build26 slice26lo

end Go.Proofs.Ytegcbdfilkecpaa
/- The reference's Told and New: pages are made of any kind, link and cells; no condition. -/
namespace Go.Proofs.Ytegcbdfilkecpaa
open Go.RowKit
attribute [local go_sem ↓] load26 store26 alloc26 build26 slice26lo

end Go.Proofs.Ytegcbdfilkecpaa
/- What 256 bytes say as a page, and that the program's read answers just that; no condition. -/
namespace Go.Proofs.Ytegcbdfilkecpaa
open Go.RowKit
attribute [local go_sem ↓] load26 store26 alloc26 build26 slice26lo slice26lohi conv64

def at_ (l : List Int) (i : Nat) : Int := l[i]?.getD 0
/-- 256 bytes -/
structure Bytes (l : List Int) : Prop where
  len : l.length = 256
  rng : ∀ i, 0 ≤ at_ l i ∧ at_ l i < 256

def ReadPost (w : World) (r : Option (Int × Int × List ByteArray)) (e : Ending) (w' : World) : Prop :=
  Kp NoB w w' ∧ ((r = none ∧ e = .returned (.tuple #[.agg #[.int .u8 0, .int .u32 0, .slice none 0 0], .bool false])) ∨
    ∃ kind link cs v, r = some (kind, link, cs) ∧ e = .returned (.tuple #[.agg #[.int .u8 kind, .int .u32 link, v], .bool true]) ∧ w'.ownsRow w.heap.size 9 1 v cs.length (cs.map Value.string))
end Go.Proofs.Ytegcbdfilkecpaa
/- The program's Room and Cell, of any 256 bytes; no condition. -/
namespace Go.Proofs.Ytegcbdfilkecpaa
open Go.RowKit
theorem own_Sl {w : World} {base n : Nat} {A : Option Addr} {cap : Nat} {cs : List ByteArray} (h : w.ownsRow base 9 1 (.slice A n cap) n (cs.map Value.string)) (hl : cs.length = n) : Sl w A n cs := by
  refine ⟨hl, fun hn => ?_⟩
  obtain ⟨g, rfl, hb, hlt⟩ := own_at h hn
  refine ⟨g, 0, rfl, hlt, fun k hk => ?_⟩
  rcases h.2 with ⟨h0, _⟩ | ⟨g', cap', cur, hv, hb', hh, h1, h2, h3, h4⟩
  · cases h0
  · simp only [Value.slice.injEq, Option.some.injEq, Addr.mk.injEq] at hv
    obtain ⟨⟨rfl, _⟩, _, rfl⟩ := hv
    rw [cell_of_row w g (0 + k) cur 9 (0, 0) hh]
    have hkc : k < cur.size := by omega
    have e : (cur.toList.take (n * 1))[k]? = (cs.map Value.string)[k]? := by rw [h4]
    rw [List.getElem?_take_of_lt (by omega)] at e
    simp only [Nat.zero_add]
    rw [← Array.getElem?_toList, e, List.getElem?_map]
    simp [show k < cs.length by omega]
theorem ReadPost.none {w w' : World} {e : Ending} (h : ReadPost w none e w') : Kp NoB w w' ∧ e = .returned (.tuple #[.agg #[.int .u8 0, .int .u32 0, .slice none 0 0], .bool false]) := by
  refine ⟨h.1, ?_⟩
  rcases h.2 with q | ⟨_, _, _, _, q, _⟩
  · exact q.2
  · cases q
theorem ReadPost.some {w w' : World} {e : Ending} {kind link : Int} {cs : List ByteArray} (h : ReadPost w (some (kind, link, cs)) e w') :
    Kp NoB w w' ∧ ∃ A cap, e = .returned (.tuple #[.agg #[.int .u8 kind, .int .u32 link, .slice A cs.length cap], .bool true]) ∧ w'.ownsRow w.heap.size 9 1 (.slice A cs.length cap) cs.length (cs.map Value.string) ∧ Sl w' A cs.length cs := by
  refine ⟨h.1, ?_⟩
  rcases h.2 with q | ⟨_, _, _, v, q, rfl, ho⟩
  · cases q.1
  · simp only [Option.some.injEq, Prod.mk.injEq] at q
    obtain ⟨rfl, rfl, rfl⟩ := q
    obtain ⟨A, cap, rfl⟩ := own_slice ho
    exact ⟨A, cap, rfl, ho, own_Sl ho rfl⟩

end Go.Proofs.Ytegcbdfilkecpaa
/- The program's Check, Kind, Count, Link and Cell, of any 256 bytes; no condition. -/
namespace Go.Proofs.Ytegcbdfilkecpaa
open Go.RowKit
end Go.Proofs.Ytegcbdfilkecpaa
/- Pages held against each other; no condition. -/
namespace Go.Proofs.Ytegcbdfilkecpaa
open Go.RowKit

/-- an array of n numbers of a kind -/
def rowOK (k : IntKind) (n : Nat) (v : Value) : Prop := ∃ l : List Int, l.length = n ∧ v = .agg (l.map (Value.int k)).toArray
noncomputable def valEq (u v : Value) : Bool := @decide (u = v) (Classical.propDecidable _)
@[go_sem] theorem valEq_self (u : Value) : valEq u u = true := by unfold valEq; simp
theorem valEq_iff (u v : Value) : valEq u v = true ↔ u = v := by unfold valEq; simp
theorem all_range_eqI : ∀ (xs ys : List Int), xs.length = ys.length → ((List.range xs.length).all fun i => xs.getD i 0 == ys.getD i 0) = (xs == ys)
  | [], [], _ => rfl
  | x :: xs, y :: ys, h => by
    have ih := all_range_eqI xs ys (by simpa using h)
    rw [List.length_cons, List.range_succ_eq_map, List.all_cons, List.all_map]
    simp only [List.getD_cons_zero, Function.comp_def, List.getD_cons_succ, ih]
    simp [List.cons_beq_cons]
  | [], _ :: _, h => by simp at h
  | _ :: _, [], h => by simp at h
section
variable {P : Program} (w : World)
theorem run_equalIn_ints (d : Nat) (t e : TypeId) (n : Nat) (k : IntKind) (ht : P.underlying t = some (.array n e)) (he : P.underlying e = some (.int k)) (hsz : ∀ w, (sizeOf e).run P w = .ok 1 w)
    (xs ys : List Int) (hx : xs.length = n) (hy : ys.length = n) :
    (Op.equalIn (d + 2) t (.agg (xs.map (Value.int k)).toArray) (.agg (ys.map (Value.int k)).toArray)).run P w = .ok (xs == ys) w := by
  rw [← all_range_eqI xs ys (hx.trans hy.symm), hx, List.range_eq_range', Op.equalIn]
  simp only [Sem.run_bind, run_underlying ht, Result.andThen_ok, hsz, Std.Legacy.Range.forIn_eq_forIn_range', Std.Legacy.Range.size, Nat.sub_zero, Nat.add_sub_cancel, Nat.div_one]
  have hl : ∀ i ∈ List.range' 0 n 1, i < n := fun i hi => by simpa using (List.mem_range'_1.1 hi).2
  generalize List.range' 0 n 1 = l at hl ⊢
  induction l with
  | nil => simp
  | cons i l ih =>
    have hi : i < n := hl i (by simp)
    have px : (part e (xs.map (Value.int k)).toArray (i * 1)).run P w = .ok (.int k (xs.getD i 0)) w := by
      simp [part, isAgg, run_underlying he, List.getD, List.getElem?_eq_getElem (show i < xs.length by omega)]
    have py : (part e (ys.map (Value.int k)).toArray (i * 1)).run P w = .ok (.int k (ys.getD i 0)) w := by
      simp [part, isAgg, run_underlying he, List.getD, List.getElem?_eq_getElem (show i < ys.length by omega)]
    have pe : (Op.equalIn (d + 1) e (.int k (xs.getD i 0)) (.int k (ys.getD i 0))).run P w = .ok (xs.getD i 0 == ys.getD i 0) w := by
      rw [run_equalIn_int w d e k k _ _ he]
    simp only [List.forIn_cons, Sem.run_bind, px, py, pe, Result.andThen_ok, List.all_cons]
    cases hb : (xs.getD i 0 == ys.getD i 0)
    · simp
    · simp only [Bool.not_true, Bool.false_eq_true, if_false, Sem.run_pure, Result.andThen_ok, Bool.true_and]
      exact ih fun j hj => hl j (by simp [hj])
theorem run_eql_ints (t e : TypeId) (n : Nat) (k : IntKind) (ht : P.underlying t = some (.array n e)) (he : P.underlying e = some (.int k)) (hsz : ∀ w, (sizeOf e).run P w = .ok 1 w)
    (u v : Value) (hu : rowOK k n u) (hv : rowOK k n v) :
    (binOp .eql t u v).run P w = .ok (.bool (valEq u v)) w ∧ (binOp .neq t u v).run P w = .ok (.bool (!valEq u v)) w := by
  obtain ⟨xs, hx, rfl⟩ := hu
  obtain ⟨ys, hy, rfl⟩ := hv
  have he' := run_equalIn_ints w 9998 t e n k ht he hsz xs ys hx hy
  have e2 : (xs == ys) = valEq (.agg (xs.map (Value.int k)).toArray) (.agg (ys.map (Value.int k)).toArray) := by
    rw [Bool.eq_iff_iff, valEq_iff, beq_iff_eq]
    constructor
    · rintro rfl; rfl
    · intro h
      injection h with h
      have h1 := congrArg Array.toList h
      exact map_int_inj (by simpa using h1)
  rw [e2] at he'
  constructor
  · rw [run_eql_struct, he']
    rfl
  · rw [run_neq_struct, he']
    rfl
theorem execEql_row {T e n : Nat} {k : IntKind} (op : BinOp) (hop : op = .eql ∨ op = .neq) (ht : P.underlying T = some (.array n e)) (he : P.underlying e = some (.int k)) (hsz : ∀ w, (sizeOf e).run P w = .ok 1 w) (hm : P.eqGuardType P.depth T = false)
    (ev : Operand → Value) (ds : Option Tmp) (x y : Operand) (yt ty : TypeId) (ps : String) (af : Array Edge) (g : Option (Nat × Bool)) (hx : rowOK k n (ev x)) (hy : rowOK k n (ev y)) :
    (execOp ev ⟨ds, .binOp op T x y yt, ty, ps, af, g⟩).run P w = .ok (.value (.bool (if op = .eql then valEq (ev x) (ev y) else !valEq (ev x) (ev y)))) w := by
  have hr := run_eql_ints w T e n k ht he hsz (ev x) (ev y) hx hy
  have hg : (eqGuard op T x y (ev x) (ev y)).run P w = .ok () w := by
    obtain ⟨xs, _, hx⟩ := hx
    obtain ⟨ys, _, hy⟩ := hy
    rw [hx, hy]
    exact run_eqGuard_agg w op T x y _ _ hm
  rcases hop with rfl | rfl
  · simp only [execOp, Sem.run_bind, hg, Result.andThen_ok, hr.1, Sem.run_pure, if_true]
  · simp only [execOp, Sem.run_bind, hg, Result.andThen_ok, hr.2, Sem.run_pure, reduceCtorEq, if_false]
end
def pgOK (v : Value) : Prop := rowOK .u8 256 v
theorem pgOK_bytes (l : List Int) (h : l.length = 256) : pgOK (.agg (bytesV l)) := ⟨l, h, rfl⟩
theorem guard26 : Try.prog.eqGuardType Try.prog.depth 24 = false := by kernel_rfl
theorem eql26 (w : World) (ev : Operand → Value) (ds : Option Tmp) (x y : Operand) (yt ty : TypeId) (ps : String) (af : Array Edge) (g : Option (Nat × Bool)) (hx : pgOK (ev x)) (hy : pgOK (ev y)) :
    (execOp ev ⟨ds, .binOp .eql 24 x y yt, ty, ps, af, g⟩).run Try.prog w = .ok (.value (.bool (valEq (ev x) (ev y)))) w :=
  execEql_row w .eql (.inl rfl) Try.underlying24 Try.underlying5 sizeU8 guard26 ev ds x y yt ty ps af g hx hy
end Go.Proofs.Ytegcbdfilkecpaa
/- The sealed sector: what it says; no condition. -/
namespace Go.Proofs.Ytegcbdfilkecpaa
open Go.RowKit

attribute [local go_sem ↓] loadSec storeSec allocSec loadW4 storeW4
theorem four_inj {a b : Int} : ∀ {l m : List Int}, l.length = 4 → m.length = 4 → (∀ y ∈ l, 0 ≤ y ∧ y < 256) → (∀ y ∈ m, 0 ≤ y ∧ y < 256) → (num l 0 = num m 0 ↔ l = m)
  | [a, b, c, d], [e, f, g, h], _, _, h1, h2 => by
    simp only [List.mem_cons, List.not_mem_nil, or_false, forall_eq_or_imp, forall_eq] at h1 h2
    unfold num
    simp only [List.getD_cons_zero, List.getD_cons_succ, List.cons.injEq, and_true, Nat.zero_add]
    omega
theorem num_drop (l : List Int) (a : Nat) : num l a = num ((l.drop a).take 4) 0 := by
  unfold num
  simp only [List.getD_eq_getElem?_getD, List.getElem?_take, List.getElem?_drop]
  simp
theorem words_eq {l : List Int} (hl : l.length = 64) (hr : ∀ y ∈ l, 0 ≤ y ∧ y < 256) : (wordsAt l 0 = wordsAt l 16) ↔ l.take 16 = (l.drop 16).take 16 := by
  have hd : ∀ a, ∀ y ∈ (l.drop a).take 4, 0 ≤ y ∧ y < 256 := fun a y hy => hr y (List.mem_of_mem_drop (List.mem_of_mem_take hy))
  have key : ∀ a b, a + 4 ≤ 64 → b + 4 ≤ 64 → (num l a = num l b ↔ (l.drop a).take 4 = (l.drop b).take 4) := fun a b ha hb => by
    rw [num_drop l a, num_drop l b]
    exact four_inj (a := 0) (b := 0) (by simp; omega) (by simp; omega) (hd a) (hd b)
  have split16 : ∀ a, a + 16 ≤ 64 → (l.drop a).take 16 = (l.drop a).take 4 ++ ((l.drop (a + 4)).take 4 ++ ((l.drop (a + 8)).take 4 ++ (l.drop (a + 12)).take 4)) := fun a ha => by
    have e : ∀ b k, (l.drop b).take (4 + k) = (l.drop b).take 4 ++ (l.drop (b + 4)).take k := fun b k => by
      rw [List.take_add, List.drop_drop]
    rw [show 16 = 4 + (4 + (4 + 4)) from rfl, e, e, e]
  have h0 := split16 0 (by omega)
  have h1 := split16 16 (by omega)
  rw [List.drop_zero] at h0
  constructor
  · intro h
    simp only [wordsAt, W4.mk.injEq] at h
    obtain ⟨a, b, c, d⟩ := h
    rw [h0, h1, (key _ _ (by omega) (by omega)).1 b, (key _ _ (by omega) (by omega)).1 c, (key _ _ (by omega) (by omega)).1 d]
    have := (key 0 16 (by omega) (by omega)).1 a
    rw [List.drop_zero] at this
    rw [this]
  · intro h
    have hh := h
    rw [h0, h1] at h
    have ln : ∀ a, a + 4 ≤ 64 → ((l.drop a).take 4).length = 4 := fun a ha => by simp; omega
    have q0 := ln 0 (by omega)
    rw [List.drop_zero] at q0
    obtain ⟨a, h⟩ := List.append_inj h (by rw [q0, ln 16 (by omega)])
    obtain ⟨b, h⟩ := List.append_inj h (by rw [ln _ (by omega), ln _ (by omega)])
    obtain ⟨c, d⟩ := List.append_inj h (by rw [ln _ (by omega), ln _ (by omega)])
    simp only [wordsAt, W4.mk.injEq]
    refine ⟨(key 0 16 (by omega) (by omega)).2 ?_, (key _ _ (by omega) (by omega)).2 b, (key _ _ (by omega) (by omega)).2 c, (key _ _ (by omega) (by omega)).2 d⟩
    rw [List.drop_zero]
    exact a
theorem W4.eta_of {u v : W4} (h : u.a = v.a ∧ u.b = v.b ∧ u.c = v.c ∧ u.d = v.d) : u = v := by
  cases u
  cases v
  simp_all
def W4.l (w : W4) : List Int := [w.a, w.b, w.c, w.d]
theorem eqW4 (w : World) (u v : W4) : (Op.equalIn 10000 102 (.agg (w4A u)) (.agg (w4A v))).run Try.prog w = .ok (u.l == v.l) w :=
  run_equalIn_ints w 9998 102 100 4 .u32 Try.underlying102 Try.underlying100 (fun _ => by kernel_rfl) u.l v.l rfl rfl
/-- in the midst of Open -/
structure OpS (w : World) (l : List Int) (W : World) : Prop where
  kp : Kp NoB w W
  b1 : Blk W w.heap.size 146 (bytesV l)
  b2 : Blk W (w.heap.size + 1) 102 #[.int .u32 0, .int .u32 0, .int .u32 0, .int .u32 0]
theorem OpS.keep {w : World} {l : List Int} {W W' : World} (h : OpS w l W) (k : Kp NoB W W') : OpS w l W' := ⟨h.kp.trans k (fun _ _ q => q), h.b1.keep k (fun q => q), h.b2.keep k (fun q => q)⟩
theorem OpS.sp {w : World} {l : List Int} {W : World} (h : OpS w l W) : W.rangeAt w.heap.size 0 (l.map (Value.int .u8)) := by
  have := Blk.range (xa := []) (xb := l.map (Value.int .u8)) (xd := []) (by have := h.b1; unfold bytesV at this; simpa using this) 0 rfl
  exact this
theorem OpS.at_ {w : World} {l : List Int} {W : World} (h : OpS w l W) (hl : l.length = 64) : W.there w.heap.size 0 64 ∧ readRow W w.heap.size 0 64 = bytesV l :=
  ⟨h.b1.thereAll 64 (by simp [bytesV, hl]), h.b1.readAll 64 (by simp [bytesV, hl])⟩
set_option maxRecDepth 100000 in
set_option maxHeartbeats 1600000 in
theorem open_ok (w : World) (l : List Int) (hl : l.length = 64) (hr : ∀ y ∈ l, 0 ≤ y ∧ y < 256) :
    Calls Try.prog 113 #[.agg (bytesV l)] w fun e w' => e = .returned (.agg (w4A (openB l))) ∧ Kp NoB w w' := by
  have HL := Lib.hid hl
  have HR := Lib.hid hr
  have HW := Lib.hid (words_eq hl hr)
  clear hl hr
  have hve : ((wordsAt l 0).l == (wordsAt l 16).l) = decide (l.take 16 = (l.drop 16).take 16) := by
    rw [Bool.eq_iff_iff, beq_iff_eq, decide_eq_true_iff, ← HW.out]
    constructor
    · intro h
      simp only [W4.l, List.cons.injEq, and_true] at h
      exact W4.eta_of h
    · intro h
      rw [h]
  have heq := fun w' => eqW4 w' (wordsAt l 0) (wordsAt l 16)
  rw [hve] at heq
  obtain ⟨D, hD⟩ : ∃ D, decide (l.take 16 = (l.drop 16).take 16) = D := ⟨_, rfl⟩
  rw [hD] at heq
  have HD := Lib.hid hD
  clear hve hD
  have hu := Try.underlying146
  have hi1 : (Try.prog.info? 146).map (·.size) = some (l.map (Value.int .u8)).length := by rw [List.length_map, HL.out]; exact infoSec
  have HST : Hid (OpS w l ((w.alloc (.cells (bytesV l) 146)).alloc (.cells #[.int .u32 0, .int .u32 0, .int .u32 0, .int .u32 0] 102))) :=
    Lib.hid ⟨((Kp.refl _ _).alloc _).alloc _, (Blk.new _ _ _).alloc _, Blk.newAt _ _ _ _ (by simp)⟩
  go_enter Try.func113, Try.ntmps113
  go_wp2_with fail
  refine forget (p := fun wx => Code.wp _ _ _ _ wx) (OpS w l) HST.out ?_
  intro W hW
  clear HST
  refine wp_region_held_drew (S := fun W' => W'.rangeAt w.heap.size 0 (l.map (Value.int .u8))) (by kernel_rfl) hW.sp (fun hHeld => ?_)
  have h0 := hW.keep (Kp.refl NoB W).drew
  generalize W.drew = W0 at h0 hHeld ⊢
  refine tkS (i := 0) (v := .agg ((l.map (Value.int .u8))).toArray) rfl (yieldsIf_load_mid (by rfl) _ _ rfl _ _ rfl (l.map (Value.int .u8)) _ (fun _ q => q) hu rfl hi1) h0.sp ?_
  simp only [Act.put, skA, skB, skC]
  refine tkS (i := 2) (v := .agg ((l.map (Value.int .u8))).toArray) rfl (yieldsIf_load_mid (by rfl) _ _ rfl _ _ rfl (l.map (Value.int .u8)) _ (fun _ q => q) hu rfl hi1) h0.sp ?_
  simp only [Act.put, skA, skB, skC]
  refine wpAnyH_ready (rs := [1]) (by kernel_rfl) (by simp) ?_
  refine AllReadyH.callR (fun x W' => x = .agg (w4A (wordsAt l 0)) ∧ OpS w l W') rfl (by rfl) 155 #[.agg (bytesV l), .int .i64 0] (by first | (go_simp; done) | (go_simp; rfl)) (fun _ _ q => q.2.sp) ((words_ok W0 l 0 (by omega) HL.out HR.out).mono (by rintro e w19 ⟨rfl, hk⟩; exact ⟨_, rfl, rfl, h0.keep hk⟩)) ?_ AllReadyH.nil
  rintro _ W1 ⟨rfl, h1⟩
  simp only [Act.put, skA, skB, skC]
  refine wpAnyH_ready (rs := [3]) (by kernel_rfl) (by simp) ?_
  refine AllReadyH.callR (fun x W' => x = .agg (w4A (wordsAt l 16)) ∧ OpS w l W') rfl (by rfl) 155 #[.agg (bytesV l), .int .i64 1] (by first | (go_simp; done) | (go_simp; rfl)) (fun _ _ q => q.2.sp) ((words_ok W1 l 1 (by omega) HL.out HR.out).mono (by rintro e w19 ⟨rfl, hk⟩; exact ⟨_, rfl, rfl, h1.keep hk⟩)) ?_ AllReadyH.nil
  rintro _ W2 ⟨rfl, h2⟩
  simp only [Act.put, skA, skB, skC]
  refine tkS (i := 4) (v := (.bool D)) rfl (Or.inl ⟨by rfl, fun w' hq => by go_simp⟩) h2.sp ?_
  simp only [Act.put, skA, skB, skC]
  refine wpAnyH_done (by kernel_rfl) ?_ _
  clear hHeld h0 h1 hW
  have H2 := Lib.hid h2
  obtain ⟨t1, r1⟩ := h2.at_ HL.out
  have t2 : W2.there (w.heap.size + 1) 0 4 := h2.b2.thereAll 4 rfl
  have e1 : openB l = if l.take 16 = (l.drop 16).take 16 then wordsAt l 0 else wordsAt l 32 := rfl
  have HE := Lib.hid e1
  clear h2 hi1 hu e1 heq
  have hll : ∀ k, (w4A (wordsAt l k)).size = 4 := fun _ => rfl
  rcases D with _ | _
  · have e2 : openB l = wordsAt l 32 := by rw [HE.out, if_neg (of_decide_eq_false HD.out)]
    go_wp2_with fail
    refine (words_ok W2 l 2 (by omega) HL.out HR.out).mono ?_
    rintro e w3 ⟨rfl, hk⟩
    have H3 := Lib.hid (H2.out.keep hk)
    have t3 : w3.there (w.heap.size + 1) 0 4 := H3.out.b2.thereAll 4 rfl
    obtain ⟨RR, hRR⟩ : ∃ RR, w4A (wordsAt l (16 * 2)) = RR := ⟨_, rfl⟩
    have o1 := w4A_ones (wordsAt l (16 * 2))
    have s1 : (w4A (wordsAt l (16 * 2))).size = 4 := rfl
    rw [hRR] at o1 s1
    rw [hRR]
    have HRR := Lib.hid hRR
    have S1 := Lib.hid s1
    clear hk hRR hll
    go_wp2_with fail
    refine bodyPost_ret (ret_cell1 rfl _ _ _ _ _ _ rfl (H3.out.b2.whole RR S1.out.symm) Try.underlying102 rfl (by rw [S1.out]; exact infoW4)) rfl ⟨by rw [e2, ← HRR.out], ?_⟩
    exact Kp.setCells (.inl (by omega)) _ _ _ H3.out.kp
  · have e2 : openB l = wordsAt l 0 := by rw [HE.out, if_pos (of_decide_eq_true HD.out)]
    go_wp2_with fail
    refine (words_ok W2 l 0 (by omega) HL.out HR.out).mono ?_
    rintro e w3 ⟨rfl, hk⟩
    have H3 := Lib.hid (H2.out.keep hk)
    have t3 : w3.there (w.heap.size + 1) 0 4 := H3.out.b2.thereAll 4 rfl
    obtain ⟨RR, hRR⟩ : ∃ RR, w4A (wordsAt l (16 * 0)) = RR := ⟨_, rfl⟩
    have o1 := w4A_ones (wordsAt l (16 * 0))
    have s1 : (w4A (wordsAt l (16 * 0))).size = 4 := rfl
    rw [hRR] at o1 s1
    rw [hRR]
    have HRR := Lib.hid hRR
    have S1 := Lib.hid s1
    clear hk hRR hll
    go_wp2_with fail
    refine bodyPost_ret (ret_cell1 rfl _ _ _ _ _ _ rfl (H3.out.b2.whole RR S1.out.symm) Try.underlying102 rfl (by rw [S1.out]; exact infoW4)) rfl ⟨by rw [e2, ← HRR.out], ?_⟩
    exact Kp.setCells (.inl (by omega)) _ _ _ H3.out.kp
end Go.Proofs.Ytegcbdfilkecpaa
/- The sealed sector, made; no condition. -/
namespace Go.Proofs.Ytegcbdfilkecpaa
open Go.RowKit

attribute [local go_sem ↓] loadSec storeSec allocSec loadW4 storeW4
def W4.at_ (w : W4) (i : Nat) : Int := if i = 0 then w.a else if i = 1 then w.b else if i = 2 then w.c else w.d
def byteK (n : Int) (k : Nat) : Int := if k = 0 then n / 16777216 % 256 else if k = 1 then n / 65536 % 256 else if k = 2 then n / 256 % 256 else n % 256
def W4.b3 (w : W4) : List Int := w.bytes ++ w.bytes ++ w.bytes
theorem b3_len (w : W4) : w.b3.length = 48 := rfl
theorem b3_at (w : W4) (c i k : Nat) (hc : c < 3) (hi : i < 4) (hk : k < 4) : w.b3[16 * c + 4 * i + k]? = some (byteK (w.at_ i) k) := by
  rcases (show c = 0 ∨ c = 1 ∨ c = 2 by omega) with rfl | rfl | rfl <;> rcases (show i = 0 ∨ i = 1 ∨ i = 2 ∨ i = 3 by omega) with rfl | rfl | rfl | rfl <;> rcases (show k = 0 ∨ k = 1 ∨ k = 2 ∨ k = 3 by omega) with rfl | rfl | rfl | rfl <;> rfl
/-- the first n bytes are there -/
def upS (w : W4) (n : Nat) : List Int := w.b3.take n ++ zeros (64 - n)
theorem upS_all (w : W4) : upS w 48 = sealB w := rfl
theorem upS_set (w : W4) (n : Nat) (x : Int) (hn : n < 48) (hx : w.b3[n]? = some x) : (upS w n).set n x = upS w (n + 1) := by
  unfold upS
  have e1 : (w.b3.take n).length = n := by rw [List.length_take, b3_len]; omega
  rw [List.set_append_right _ _ (by omega), e1, Nat.sub_self, show 64 - n = (64 - (n + 1)) + 1 by omega]
  unfold zeros
  rw [List.replicate_succ, List.set_cons_zero, List.take_add_one, hx]
  simp
theorem bytesV_setJ (l : List Int) (n : Nat) (x : Int) : (bytesV l).setIfInBounds n (.int .u8 x) = bytesV (l.set n x) := by
  unfold bytesV
  rw [List.setIfInBounds_toArray, List.map_set]
/-- in the midst of Seal -/
structure SeS (w : World) (v : W4) (n : Nat) (W : World) : Prop where
  kp : Kp NoB w W
  b0 : Blk W w.heap.size 102 (w4A v)
  b1 : Blk W (w.heap.size + 1) 146 (bytesV (zeros 64))
  b2 : Blk W (w.heap.size + 2) 146 (bytesV (upS v n))
theorem SeS.set_ {w : World} {v : W4} {n : Nat} {W : World} (h : SeS w v n W) (hn : n < 48) (x : Int) (hx : v.b3[n]? = some x) : SeS w v (n + 1) (W.setCell ⟨w.heap.size + 2, n, none⟩ (.int .u8 x)) := by
  refine ⟨h.kp.setCell (p := ⟨w.heap.size + 2, n, none⟩) (.inl (by show _ ≤ w.heap.size + 2; omega)) _, h.b0.far (p := ⟨w.heap.size + 2, n, none⟩) (by simp) _, h.b1.far (p := ⟨w.heap.size + 2, n, none⟩) (by simp) _, ?_⟩
  have := h.b2.set_ n (.int .u8 x)
  rwa [bytesV_setJ, upS_set _ _ _ hn hx] at this
theorem indexW4 (v : W4) (i : Nat) (hi : i < 4) (w : World) : (Instr.index 102 (.agg (w4A v)) (.int .i64 i)).run Try.prog w = .ok (.int .u32 (v.at_ i)) w := by
  obtain ⟨inf, h1, h2⟩ : ∃ inf, Try.prog.info? 100 = some inf ∧ inf.size = 1 := by
    have h : (Try.prog.info? 100).map (·.size) = some 1 := by kernel_rfl
    cases hq : Try.prog.info? 100 with
    | none => rw [hq] at h; cases h
    | some i => rw [hq] at h; exact ⟨i, rfl, by simpa using h⟩
  exact run_index_arr w 102 100 4 (.int .u32) inf Try.underlying102 Try.underlying100 rfl h1 h2 (w4A v).toList i hi _ (by
    rcases (show i = 0 ∨ i = 1 ∨ i = 2 ∨ i = 3 by omega) with rfl | rfl | rfl | rfl <;> rfl)
set_option maxRecDepth 100000 in
set_option maxHeartbeats 1600000 in
theorem seal_ok (w : World) (v : W4) : Calls Try.prog 115 #[.agg (w4A v)] w fun e w' => e = .returned (.agg (bytesV (sealB v))) ∧ Kp NoB w w' := by
  have hst : SeS w v 0 (((w.alloc (.cells (w4A v) 102)).alloc (.cells (bytesV (zeros 64)) 146)).alloc (.cells (bytesV (zeros 64)) 146)) :=
    ⟨(((Kp.refl _ _).alloc _).alloc _).alloc _, ((Blk.new _ _ _).alloc _).alloc _, (Blk.newAt _ _ _ _ (by simp)).alloc _, Blk.newAt _ _ _ _ (by simp)⟩
  have HST := Lib.hid hst
  clear hst
  go_enter Try.func115, Try.ntmps115
  go_wp2
  refine forget (p := fun wx => Code.wp _ _ _ _ wx) (SeS w v 0) HST.out ?_
  intro W hW
  have HW := Lib.hid hW
  clear hW HST
  go_loopw [8] (fun x wr => ∃ c : Nat, c ≤ 3 ∧ x = .int .i64 c ∧ SeS w v (16 * c) wr) (fun x _ => 3 - (intOf x).toNat)
  case atStart => exact ⟨0, by omega, rfl, HW.out⟩
  case round =>
    obtain ⟨c, hc, rfl, hs⟩ := hrel
    have HS := Lib.hid hs
    by_cases hc3 : c < 3
    · have hcc : (c : Int) < 3 := by omega
      have t0 : wr.there w.heap.size 0 4 := hs.b0.thereAll 4 rfl
      have r0 : readRow wr w.heap.size 0 4 = w4A v := hs.b0.readAll 4 rfl
      clear hs
      go_wp2_with fail
      go_loopw [12] (fun x wr => ∃ i : Nat, i ≤ 4 ∧ x = .int .i64 i ∧ SeS w v (16 * c + 4 * i) wr) (fun x _ => 4 - (intOf x).toNat)
      case atStart => exact ⟨0, by omega, rfl, HS.out⟩
      case round =>
        obtain ⟨i, hi, rfl, hs⟩ := hrel
        have HS2 := Lib.hid hs
        by_cases hi4 : i < 4
        · have hii : (i : Int) < 4 := by omega
          have hix := indexW4 v i hi4
          obtain ⟨N, hN⟩ : ∃ N, v.at_ i = N := ⟨_, rfl⟩
          rw [hN] at hix
          have HN := Lib.hid hN
          clear hs hN
          go_wp2_with fail
          go_loopw [16] (fun x wr => ∃ k : Nat, k ≤ 4 ∧ x = .int .i64 k ∧ SeS w v (16 * c + 4 * i + k) wr) (fun x _ => 4 - (intOf x).toNat)
          case atStart => exact ⟨0, by omega, rfl, HS2.out⟩
          case round =>
            obtain ⟨k, hk, rfl, hs⟩ := hrel
            have HS3 := Lib.hid hs
            by_cases hk4 : k < 4
            · have hkk : (k : Int) < 4 := by omega
              have hat := b3_at v c i k hc3 hi4 hk4
              rw [HN.out] at hat
              have hp48 : 16 * c + 4 * i + k < 48 := by omega
              obtain ⟨Ps, hPs⟩ : ∃ Ps, 16 * c + 4 * i + k = Ps := ⟨_, rfl⟩
              have HPs := Lib.hid hPs
              rw [hPs] at hat hp48
              have hP2 : c * 16 + i * 4 + k = Ps := by omega
              have hb48 : c * 16 + i * 4 + k < 64 := by omega
              have c2 : wr.cell? ⟨w.heap.size + 1 + 1, Ps, none⟩ = some (.int .u8 0) := by
                rw [show w.heap.size + 1 + 1 = w.heap.size + 2 from rfl, hs.b2.cell, hPs]
                unfold bytesV upS
                have e1 : (v.b3.take Ps).length = Ps := by rw [List.length_take, b3_len]; omega
                simp only [List.getElem?_toArray, List.getElem?_map]
                rw [List.getElem?_append_right (by omega), e1, Nat.sub_self]
                unfold zeros
                rw [show 64 - Ps = (64 - (Ps + 1)) + 1 by omega, List.replicate_succ]
                rfl
              have z2 : wr.frozen? ⟨w.heap.size + 1 + 1, Ps, none⟩ = false := hs.b2.frozen Ps
              rw [← hP2] at c2 z2
              have HAT := Lib.hid hat
              have HP48 := Lib.hid hp48
              clear hs hPs hat hp48 hP2
              have FIN : Hid (∀ W' (y : Int) (m : Nat), W' = wr.setCell ⟨w.heap.size + 2, c * 16 + i * 4 + k, none⟩ (.int .u8 y) → y = byteK N k → m = k + 1 → SeS w v (16 * c + 4 * i + m) W') := Lib.hid (by
                rintro W' y m rfl rfl rfl
                have h1 := HS3.out
                have h2 := HPs.out
                rw [h2] at h1
                have := h1.set_ HP48.out _ HAT.out
                rw [show c * 16 + i * 4 + k = Ps by omega, show 16 * c + 4 * i + (k + 1) = Ps + 1 by omega]
                exact this)
              rcases (show k = 0 ∨ k = 1 ∨ k = 2 ∨ k = 3 by omega) with rfl | rfl | rfl | rfl
              · simp only [Nat.add_zero] at c2 z2
                go_wp2_with fail
                exact ⟨⟨1, by omega, by congr 1, FIN.out _ _ _ rfl rfl rfl⟩, by simp [intOf]⟩
              · go_wp2_with fail
                exact ⟨⟨2, by omega, by congr 1, FIN.out _ _ _ rfl rfl rfl⟩, by simp [intOf]⟩
              · go_wp2_with fail
                exact ⟨⟨3, by omega, by congr 1, FIN.out _ _ _ rfl rfl rfl⟩, by simp [intOf]⟩
              · go_wp2_with fail
                exact ⟨⟨4, by omega, by congr 1, FIN.out _ _ _ rfl rfl rfl⟩, by simp [intOf]⟩
            · have hkk : ¬ (k : Int) < 4 := by omega
              obtain rfl : k = 4 := by omega
              clear hs
              go_wp2_with fail
              exact ⟨⟨i + 1, by omega, by congr 1, by have := HS3.out; rwa [show 16 * c + 4 * i + 4 = 16 * c + 4 * (i + 1) by omega] at this⟩, by simp [intOf]; omega⟩
        · have hii : ¬ (i : Int) < 4 := by omega
          obtain rfl : i = 4 := by omega
          clear hs
          go_wp2_with fail
          exact ⟨⟨c + 1, by omega, by congr 1, by have := HS2.out; rwa [show 16 * c + 4 * 4 = 16 * (c + 1) by omega] at this⟩, by simp [intOf]; omega⟩
    · have hcc : ¬ (c : Int) < 3 := by omega
      obtain rfl : c = 3 := by omega
      have b2 := hs.b2
      rw [show 16 * 3 = 48 from rfl, upS_all] at b2
      have sl : (sealB v).length = 64 := rfl
      have t1 : wr.there (w.heap.size + 1 + 1) 0 64 := b2.thereAll 64 (by rw [bytesV_size, sl])
      have r1 : readRow wr (w.heap.size + 1 + 1) 0 64 = bytesV (sealB v) := b2.readAll 64 (by rw [bytesV_size, sl])
      have t2 : wr.there (w.heap.size + 1) 0 64 := hs.b1.thereAll 64 (by rw [bytesV_size]; rfl)
      have o1 := bytesV_one (sealB v)
      have s1 : (bytesV (sealB v)).size = 64 := by rw [bytesV_size, sl]
      obtain ⟨RR, hRR⟩ : ∃ RR, bytesV (sealB v) = RR := ⟨_, rfl⟩
      rw [hRR] at r1 o1 s1
      have HRR := Lib.hid hRR
      have S1 := Lib.hid s1
      clear hs b2 sl hRR
      go_wp2_with fail
      refine bodyPost_ret (ret_cell1 rfl _ _ _ _ _ _ rfl (HS.out.b1.whole RR (by rw [S1.out, bytesV_size]; rfl)) Try.underlying146 rfl (by rw [S1.out]; exact infoSec)) rfl ⟨by rw [HRR.out], ?_⟩
      exact Kp.setCells (.inl (by omega)) _ _ _ HS.out.kp
end Go.Proofs.Ytegcbdfilkecpaa
/- The journal: steps one behind the other, till one is refused; no condition. -/
namespace Go.Proofs.Ytegcbdfilkecpaa
open Go.RowKit

/-- what function values from place i on do, one behind the other -/
def Chain (g o : Nat) : Nat → List (Nat × Array Value × Array Value) → (Int → World → Prop) → World → Prop
  | _, [], Q, w => Q 0 w
  | i, (f, a, c) :: r, Q, w => w.cell? ⟨g, o + i, none⟩ = some (.func (.func f) a c) ∧ (∀ args w, (callFunc f args).run Try.prog w = .ok (.enter f args) w) ∧
      Calls Try.prog f (a ++ c) w fun e w' => ∃ x : Int, e = .returned (.int .i64 x) ∧ (x ≠ 0 → Q x w') ∧ (x = 0 → Chain g o (i + 1) r Q w')
def ChRel (g o n : Nat) (Q : Int → World → Prop) (v : Value) (wr : World) : Prop := ∃ (i : Nat) (l : List (Nat × Array Value × Array Value)), v = .int .i64 (i : Int) ∧ i + l.length = n ∧ Chain g o i l Q wr
set_option maxRecDepth 100000 in
set_option maxHeartbeats 800000 in
theorem all_ok (w : World) (g o n cap : Nat) (l : List (Nat × Array Value × Array Value)) (Q : Int → World → Prop) (hl : l.length = n) (hn : n < 1099511627776) (h : Chain g o 0 l Q w) :
    Calls Try.prog 52 #[.slice (some ⟨g, o, none⟩) n cap] w fun e w' => ∃ x : Int, e = .returned (.int .i64 x) ∧ Q x w' := by
  have H := Lib.hid h
  have HL := Lib.hid hl
  clear h hl
  go_enter Try.func52, Try.ntmps52
  go_wp2_with fail
  go_loopw [8] (fun v wr => ChRel g o n Q v wr) (fun v _ => n - (intOf v).toNat)
  case atStart => exact ⟨0, l, rfl, by have := HL.out; omega, H.out⟩
  case round =>
    obtain ⟨i, l', rfl, hi, hc⟩ := hrel
    cases l' with
    | nil =>
      have hii : ¬ (i : Int) < (n : Int) := by simp at hi; omega
      have HC := Lib.hid (show Q 0 wr from hc)
      clear hc hi
      go_wp2_with fail
      go_ret
      exact ⟨0, rfl, HC.out⟩
    | cons x r =>
      obtain ⟨f, a, c⟩ := x
      obtain ⟨h1, h2, h3⟩ := hc
      have hii : (i : Int) < (n : Int) := by simp at hi; omega
      have HI := Lib.hid hi
      clear hi
      have H3 := Lib.hid h3
      clear h3
      go_wp2_with fail
      refine H3.out.mono ?_
      rintro e w' ⟨x, rfl, hx0, hx1⟩
      have HX0 := Lib.hid hx0
      have HX1 := Lib.hid hx1
      clear hx0 hx1
      by_cases hx : x = 0
      · subst hx
        have HX := Lib.hid (HX1.out rfl)
        go_wp2_with fail
        go_roundw
        case rel => exact ⟨i + 1, r, by go_num, by have := HI.out; simp at this; omega, HX.out⟩
        case measure => simp [intOf]; omega
      · have HX := Lib.hid (HX0.out hx)
        go_wp2_with fail
        go_ret
        exact ⟨x, rfl, HX.out⟩
end Go.Proofs.Ytegcbdfilkecpaa
/- The journal: is a disk ready, how many pages, what the head says; no condition but on the texts' lengths. -/
namespace Go.Proofs.Ytegcbdfilkecpaa
open Go.RowKit

theorem nmDb_le : nmDb.size ≤ maxLen := by decide
theorem nmJn_le : nmJn.size ≤ maxLen := by decide
section
variable {S : Nat → Prop} {W0 w : World} {db : Nat} {p : Pl}
set_option maxRecDepth 100000 in
theorem ready_q (h : Dq S W0 w db p) : Calls Try.prog 48 #[ptrV db] w fun e w' => e = .returned (.int .i64 p.wrong) ∧ Kp NoB w w' := by
  have H := Lib.hid h
  have e1 : p.readE 0 0 = p.wrong := by unfold Pl.readE Pl.wrong; simp
  have HE := Lib.hid e1
  have h63 : (-9223372036854775808 : Int) ≤ 0 ∧ (0 : Int) ≤ 9223372036854775807 := by omega
  have HZ := Lib.hid h63
  clear h e1 h63
  unfold ptrV
  go_enter Try.func48, Try.ntmps48
  go_wp2_with fail
  refine (show Calls _ _ #[ptrV db, .string nmDb, .int .i64 0, .int .i64 0] _ _ from read_q H.out nmDb 0 0 nmDb_le HZ.out HZ.out).mono ?_
  rintro e w' ⟨rfl, hk⟩
  rw [HE.out]
  have HK := Lib.hid hk
  clear hk
  go_wp2_with fail
  go_ret
  exact ⟨rfl, HK.out⟩
set_option maxRecDepth 100000 in
theorem count_q (h : Dq S W0 w db p) : Calls Try.prog 14 #[ptrV db] w fun e w' => e = .returned (.int .i64 p.jcount) ∧ w = w' := by
  have H := Lib.hid h
  have hl : p.len nmDb ≤ 1048576 := by
    unfold Pl.len
    split
    · omega
    · exact h.seen_le nmDb
  have HC := Lib.hid (show p.jcount = p.len nmDb / 256 from rfl)
  clear h
  unfold ptrV
  go_enter Try.func14, Try.ntmps14
  go_wp2_with fail
  refine (show Calls _ _ #[ptrV db, .string nmDb] _ _ from len_q H.out nmDb nmDb_le).mono ?_
  rintro e w' ⟨rfl, rfl⟩
  generalize p.len nmDb = L at hl HC ⊢
  go_wp2_with fail
  go_ret
  exact ⟨by rw [HC.out]; simp, rfl⟩
theorem head_plain (p : Pl) (hr : ∀ y ∈ p.seen nmJn, 0 ≤ y ∧ y < 256) : ∃ l, p.read nmJn 0 64 = l ∧ (∀ y ∈ l, 0 ≤ y ∧ y < 256) ∧ (p.jheadD = if l.length < 64 then ⟨0, 0, 0, 0⟩ else openB l) ∧ l.length ≤ 64 := by
  refine ⟨_, rfl, ?_⟩
  rcases hd : p.down with _ | _
  · have eE : p.readE 0 64 = 0 := by unfold Pl.readE; rw [hd]; simp
    have eR : p.read nmJn 0 64 = (p.seen nmJn).take 64 := by unfold Pl.read; rw [eE]; rfl
    rw [eR]
    refine ⟨fun y hy => hr y (List.mem_of_mem_take hy), ?_, by rw [List.length_take]; omega⟩
    unfold Pl.jheadD
    rw [hd]
    show p.jhead = _
    unfold Pl.jhead says
    have : ((p.seen nmJn).take 64).length < 64 ↔ (p.seen nmJn).length < 64 := by rw [List.length_take]; omega
    by_cases q : (p.seen nmJn).length < 64
    · rw [if_pos q, if_pos (this.2 q)]
    · rw [if_neg q, if_neg (fun r => q (this.1 r))]
  · have eE : p.readE 0 64 = 7 := by unfold Pl.readE; rw [hd]; simp
    have eR : p.read nmJn 0 64 = [] := by unfold Pl.read; rw [eE]; rfl
    rw [eR]
    refine ⟨by simp, ?_, by simp⟩
    unfold Pl.jheadD
    rw [hd]
    rfl
attribute [local go_sem ↓] loadSec storeSec allocSec loadW4 storeW4
set_option maxRecDepth 100000 in
set_option maxHeartbeats 800000 in
theorem head_q (h : Dq S W0 w db p) : Calls Try.prog 50 #[.agg #[ptrV db]] w fun e w' => e = .returned (.agg (w4A p.jheadD)) ∧ Kp NoB w w' := by
  have H := Lib.hid h
  have h63 : (-9223372036854775808 : Int) ≤ 0 ∧ (0 : Int) ≤ 9223372036854775807 := by omega
  have h64 : (-9223372036854775808 : Int) ≤ 64 ∧ (64 : Int) ≤ 9223372036854775807 := by omega
  have HZ := Lib.hid h63
  have HZ4 := Lib.hid h64
  clear h h63 h64
  unfold ptrV
  go_enter Try.func50, Try.ntmps50
  go_wp2_with fail
  have HK0 : Hid (Kp NoB w (((w.alloc (.cells #[ptrV db] 98)).alloc (.cells #[.int .u32 0, .int .u32 0, .int .u32 0, .int .u32 0] 102)).alloc (.cells (bytesV (zeros 64)) 146))) := Lib.hid ((((Kp.refl _ _).alloc _).alloc _).alloc _)
  have HB1 : Hid (Blk (((w.alloc (.cells #[ptrV db] 98)).alloc (.cells #[.int .u32 0, .int .u32 0, .int .u32 0, .int .u32 0] 102)).alloc (.cells (bytesV (zeros 64)) 146)) (w.heap.size + 1) 102 #[.int .u32 0, .int .u32 0, .int .u32 0, .int .u32 0]) := Lib.hid ((Blk.newAt _ _ _ _ (by simp)).alloc _)
  have HB2 : Hid (Blk (((w.alloc (.cells #[ptrV db] 98)).alloc (.cells #[.int .u32 0, .int .u32 0, .int .u32 0, .int .u32 0] 102)).alloc (.cells (bytesV (zeros 64)) 146)) (w.heap.size + 1 + 1) 146 (bytesV (zeros 64))) := Lib.hid (Blk.newAt _ _ _ _ (by simp))
  refine (show Calls _ _ #[ptrV db, .string nmJn, .int .i64 0, .int .i64 64] _ _ from read_q (H.out.keep HK0.out) nmJn 0 64 nmJn_le HZ.out HZ4.out).mono ?_
  rintro e w2 ⟨rfl, hk⟩
  have hB1 := HB1.out.keep hk (fun q => q)
  have hB2 := HB2.out.keep hk (fun q => q)
  have hK := HK0.out.trans hk (fun _ _ q => q)
  obtain ⟨l, hl, hrg, hj, hl64⟩ := head_plain p (fun y hy => H.out.seen_rng nmJn y hy)
  rw [hl]
  obtain ⟨rE, hrE⟩ : ∃ rE, p.readE 0 64 = rE := ⟨_, rfl⟩
  rw [hrE]
  have hsz := strOf_size l
  have hsi := strI_strOf l hrg
  generalize strOf l = s at hsz hsi ⊢
  rw [← hsz] at hj hl64
  have HJ := Lib.hid hj
  have HR := Lib.hid hrg
  have HS := Lib.hid hsz
  have HSI := Lib.hid hsi
  have HK := Lib.hid hK
  have HB1' := Lib.hid hB1
  have HB2' := Lib.hid hB2
  have t1 : w2.there (w.heap.size + 1) 0 4 := hB1.thereAll 4 rfl
  clear hj hrg hsz hsi hK hB1 hB2 hk HB1 HB2 HK0
  by_cases hlt : s.size < 64
  · have e1 : p.jheadD = ⟨0, 0, 0, 0⟩ := by rw [HJ.out, if_pos hlt]
    have HE1 := Lib.hid e1
    have hlt2 : (s.size : Int) < 64 := by omega
    have o0 : ones #[.int .u32 0, .int .u32 0, .int .u32 0, .int .u32 0] := w4A_ones ⟨0, 0, 0, 0⟩
    clear e1
    go_wp2_with fail
    refine bodyPost_ret (ret_cell1 rfl _ _ _ _ _ _ rfl (HB1'.out.whole #[.int .u32 0, .int .u32 0, .int .u32 0, .int .u32 0] rfl) Try.underlying102 rfl infoW4) rfl ⟨by rw [HE1.out]; rfl, ?_⟩
    exact Kp.setCells (.inl (by omega)) _ _ _ HK.out
  · have hs64 : s.size = 64 := by omega
    have e1 : p.jheadD = openB l := by rw [HJ.out, if_neg hlt]
    have HE1 := Lib.hid e1
    have hlt2 : ¬ (s.size : Int) < 64 := by omega
    have hcp := copyS w2 (w.heap.size + 1 + 1) 0 64 64 s (by omega) (HB2'.out.thereAll s.size (by rw [bytesV_size, hs64]; rfl))
    rw [HSI.out] at hcp
    have hB3 := HB2'.out.bytes (la := []) (lb := zeros 64) (ld := []) (lx := l) 0 rfl (by rw [← HS.out, hs64]; rfl)
    rw [List.nil_append, List.append_nil] at hB3
    have t3 : (w2.setCells (w.heap.size + 1 + 1) 0 (l.map (Value.int .u8))).there (w.heap.size + 1 + 1) 0 64 := hB3.thereAll 64 (by rw [bytesV_size, ← HS.out, hs64])
    have r3 : readRow (w2.setCells (w.heap.size + 1 + 1) 0 (l.map (Value.int .u8))) (w.heap.size + 1 + 1) 0 64 = bytesV l := hB3.readAll 64 (by rw [bytesV_size, ← HS.out, hs64])
    have HK2 : Hid (Kp NoB w (w2.setCells (w.heap.size + 1 + 1) 0 (l.map (Value.int .u8)))) := Lib.hid (Kp.setCells (.inl (by omega)) _ _ _ HK.out)
    have HB4 : Hid (Blk (w2.setCells (w.heap.size + 1 + 1) 0 (l.map (Value.int .u8))) (w.heap.size + 1) 102 #[.int .u32 0, .int .u32 0, .int .u32 0, .int .u32 0]) := Lib.hid (HB1'.out.farCells (by omega) _ _ _)
    clear e1 hB3
    go_wp2_with fail
    refine (open_ok _ l (by rw [← HS.out]; exact hs64) HR.out).mono ?_
    rintro e w3 ⟨rfl, hk⟩
    have HK3 := Lib.hid (HK2.out.trans hk (fun _ _ q => q))
    have hb3 := HB4.out.keep hk (fun q => q)
    have HB3 := Lib.hid hb3
    have t4 : w3.there (w.heap.size + 1) 0 4 := hb3.thereAll 4 rfl
    rw [← HE1.out]
    obtain ⟨RR, hRR⟩ : ∃ RR, w4A p.jheadD = RR := ⟨_, rfl⟩
    have o1 := w4A_ones p.jheadD
    have s1 : (w4A p.jheadD).size = 4 := rfl
    rw [hRR] at o1 s1
    rw [hRR]
    have HRR := Lib.hid hRR
    have S1 := Lib.hid s1
    clear hk hb3 hRR
    go_wp2_with fail
    refine bodyPost_ret (ret_cell1 rfl _ _ _ _ _ _ rfl (HB3.out.whole RR S1.out.symm) Try.underlying102 rfl (by rw [S1.out]; exact infoW4)) rfl ⟨by rw [HRR.out], ?_⟩
    exact Kp.setCells (.inl (by omega)) _ _ _ HK3.out
end
end Go.Proofs.Ytegcbdfilkecpaa
