/- Texts of this proof, one behind the other: lemmas and contracts; each says its own conditions. -/
import Derived.Test.YtegcbdfilkecpaaM1
import Derived.Test.YtegcbdfilkecpaaM6
/- The stand-in disk's calls where the disk is the caller's own; no condition but on the texts' lengths and the counts. -/
namespace Go.Proofs.Ytegcbdfilkecpaa
open Go.RowKit

/-- a disk of the caller's own: made behind W0 -/
def Da (W0 w : World) (db : Nat) (p : Pl) : Prop := ∃ x, x.db = db ∧ Dk W0.heap.size w x ∧ Of x p ∧ Kp NoB W0 w ∧ ∀ b, x.O b → W0.heap.size ≤ b
theorem Da.keep {W0 w w' : World} {db : Nat} {p : Pl} (h : Da W0 w db p) (k : Kp NoB w w') : Da W0 w' db p := by
  obtain ⟨x, e, hd, hp, hk, ho⟩ := h
  exact ⟨x, e, hd.keep k (fun _ _ q => q) (fun _ _ _ q => q), hp, hk.trans k (fun _ _ q => q), ho⟩
theorem Da.kp {W0 w : World} {db : Nat} {p : Pl} (h : Da W0 w db p) : Kp NoB W0 w := by
  obtain ⟨x, e, hd, hp, hk, ho⟩ := h
  exact hk
theorem da_of {W0 w w' : World} {x : Dd} {p' : Pl} (hk : Kp NoB W0 w) (ho : ∀ b, x.O b → W0.heap.size ≤ b) (h : To W0.heap.size w x p' w') : Da W0 w' x.db p' := by
  obtain ⟨x', hd, hp, e, k, o⟩ := h
  refine ⟨x', e, hd, hp, hk.trans k (fun i hi q => ?_), fun b hb => ?_⟩
  · have := ho i q
    omega
  · rcases o b hb with q | q
    · exact ho b q
    · exact Nat.le_trans hk.size q
theorem new_d (W0 w : World) (r : Int) (hr : -9223372036854775808 ≤ r ∧ r ≤ 9223372036854775807) (hk : Kp NoB W0 w) :
    Calls Try.prog 17 #[.int .i64 r] w fun e w' => ∃ db, e = .returned (ptrV db) ∧ Da W0 w' db (Pl.new r) :=
  (new_ok w r hr W0.heap.size hk.size).mono fun e w' ⟨db, mb, he, hd, k, h1, h2⟩ => ⟨db, he, _, rfl, hd, ⟨rfl, rfl, rfl, rfl, Nat.le_refl _, rfl, rfl, rfl, rfl, rfl, rfl⟩, hk.trans k (fun _ _ q => q), by
    have := hk.size
    rintro b (rfl | rfl | q | ⟨e, he, rfl⟩)
    · exact Nat.le_trans this h1
    · exact Nat.le_trans this h2
    · cases q
    · cases he⟩
section
variable {W0 w : World} {db : Nat} {p : Pl}
theorem write_d (h : Da W0 w db p) (s : ByteArray) (a : Int) (d : ByteArray) (hs : s.size ≤ maxLen) (hds : d.size ≤ maxLen) (hm : p.nf < 1099511627776 - 10) (hpd : p.pd.length < 1099511627776 - 20000) :
    Calls Try.prog 78 #[ptrV db, .string s, .int .i64 a, .string d] w fun e w' => e = .returned (.int .i64 (p.writeE s a (strI d))) ∧ Da W0 w' db (p.write s a (strI d)) := by
  obtain ⟨x, rfl, hd, hp, hk, ho⟩ := h
  exact (write_ok w _ x p s a d hd hp hs hds hk.size hm hpd).mono fun e w' ⟨he, ht⟩ => ⟨he, da_of hk ho ht⟩
theorem trunc_d (h : Da W0 w db p) (s : ByteArray) (n : Int) (hn : -9223372036854775808 ≤ n ∧ n ≤ 9223372036854775807) (hs : s.size ≤ maxLen) (hm : p.nf < 1099511627776 - 10) (hpd : p.pd.length < 1099511627776 - 20000) :
    Calls Try.prog 86 #[ptrV db, .string s, .int .i64 n] w fun e w' => e = .returned (.int .i64 (p.truncE s n)) ∧ Da W0 w' db (p.trunc s n) := by
  obtain ⟨x, rfl, hd, hp, hk, ho⟩ := h
  exact (trunc_ok w _ x p s n hn hd hp hs hk.size hm hpd).mono fun e w' ⟨he, ht⟩ => ⟨he, da_of hk ho ht⟩
theorem sync_d (h : Da W0 w db p) (s : ByteArray) (hs : s.size ≤ maxLen) (hm : p.nf < 1099511627776 - 10) (hpd : p.pd.length < 1099511627776 - 20000) :
    Calls Try.prog 88 #[ptrV db, .string s] w fun e w' => e = .returned (.int .i64 p.syncE) ∧ Da W0 w' db (p.sync s) := by
  obtain ⟨x, rfl, hd, hp, hk, ho⟩ := h
  exact (sync_ok w _ x p s hd hp hs hk.size hm hpd).mono fun e w' ⟨he, ht⟩ => ⟨he, da_of hk ho ht⟩
theorem read_d (h : Da W0 w db p) (s : ByteArray) (a n : Int) (hs : s.size ≤ maxLen) (ha : -9223372036854775808 ≤ a ∧ a ≤ 9223372036854775807) (hn : -9223372036854775808 ≤ n ∧ n ≤ 9223372036854775807) :
    Calls Try.prog 28 #[ptrV db, .string s, .int .i64 a, .int .i64 n] w fun e w' => e = .returned (.tuple #[.string (strOf (p.read s a n)), .int .i64 (p.readE a n)]) ∧ Da W0 w' db p := by
  have h' := h
  obtain ⟨x, rfl, hd, hp, hk, ho⟩ := h
  exact (read_ok w _ x p s a n ha hn hd hp hs).mono fun e w' ⟨he, k⟩ => ⟨he, h'.keep k⟩
theorem len_d (h : Da W0 w db p) (s : ByteArray) (hs : s.size ≤ maxLen) : Calls Try.prog 67 #[ptrV db, .string s] w fun e w' => e = .returned (.int .i64 (p.len s)) ∧ w = w' := by
  obtain ⟨x, rfl, hd, hp, hk, ho⟩ := h
  exact len_ok w _ x p s hd hp hs
theorem down_d (h : Da W0 w db p) : Calls Try.prog 23 #[ptrV db] w fun e w' => e = .returned (.bool p.down) ∧ w = w' := by
  obtain ⟨x, rfl, hd, hp, hk, ho⟩ := h
  exact down_ok w _ x p hd hp
theorem steps_d (h : Da W0 w db p) : Calls Try.prog 30 #[ptrV db] w fun e w' => e = .returned (.int .i64 p.steps) ∧ w = w' := by
  obtain ⟨x, rfl, hd, hp, hk, ho⟩ := h
  exact steps_ok w _ x p hd hp
theorem starts_d (h : Da W0 w db p) : Calls Try.prog 92 #[ptrV db] w fun e w' => e = .returned (.int .i64 p.starts) ∧ w = w' := by
  obtain ⟨x, rfl, hd, hp, hk, ho⟩ := h
  exact starts_ok w _ x p hd hp
theorem pending_d (h : Da W0 w db p) : Calls Try.prog 31 #[ptrV db] w fun e w' => e = .returned (.int .i64 (p.pd.length : Nat)) ∧ w = w' := by
  obtain ⟨x, rfl, hd, hp, hk, ho⟩ := h
  exact pending_ok w _ x p hd hp
theorem setroom_d (h : Da W0 w db p) (n : Int) (hn : -9223372036854775808 ≤ n ∧ n ≤ 9223372036854775807) : Calls Try.prog 76 #[ptrV db, .int .i64 n] w fun e w' => e = .returned (.tuple #[]) ∧ Da W0 w' db (p.setRoom n) := by
  obtain ⟨x, rfl, hd, hp, hk, ho⟩ := h
  exact (setroom_ok w _ x p n hn hd hp).mono fun e w' ⟨he, ht⟩ => ⟨he, da_of hk ho ht⟩
theorem crashin_d (h : Da W0 w db p) (n : Int) (hn : -9223372036854775808 ≤ n ∧ n ≤ 9223372036854775807) : Calls Try.prog 22 #[ptrV db, .int .i64 n] w fun e w' => e = .returned (.tuple #[]) ∧ Da W0 w' db (p.crashIn n) := by
  obtain ⟨x, rfl, hd, hp, hk, ho⟩ := h
  exact (crashin_ok w _ x p n hn hd hp).mono fun e w' ⟨he, ht⟩ => ⟨he, da_of hk ho ht⟩
theorem crash_d (h : Da W0 w db p) : Calls Try.prog 24 #[ptrV db] w fun e w' => e = .returned (.tuple #[]) ∧ Da W0 w' db p.crashNow := by
  obtain ⟨x, rfl, hd, hp, hk, ho⟩ := h
  exact (crash_ok w _ x p hd hp).mono fun e w' ⟨he, ht⟩ => ⟨he, da_of hk ho ht⟩
theorem restart_d (h : Da W0 w db p) (A : Option Addr) (n cap : Nat) (chs : List Int) (hc : Nums w A n chs) (hA : ∀ g o, A = some ⟨g, o, none⟩ → 0 < n → g < W0.heap.size) (hch : ∀ y ∈ chs, -9223372036854775808 ≤ y ∧ y ≤ 9223372036854775807)
    (hn63 : n ≤ 9223372036854775807) (hm : p.nf + p.pd.length < 1099511627776 - 10) :
    Calls Try.prog 47 #[ptrV db, .slice A n cap] w fun e w' => e = .returned (.int .i64 p.restartE) ∧ Da W0 w' db (p.restart chs) := by
  obtain ⟨x, rfl, hd, hp, hk, ho⟩ := h
  exact (restart_ok w _ x p A n cap chs hd hp hc (fun g o e hp q => by have := hA g o e hp; have := ho g q; omega) hch hn63 hm hk.size).mono fun e w' ⟨he, ht⟩ => ⟨he, da_of hk ho ht⟩
end
theorem Nums.nil (w : World) : Nums w none 0 [] := ⟨rfl, fun h => absurd h (by omega)⟩
/-! ### the answers that every law asks at its end -/
def nmF : ByteArray := ⟨#[102]⟩
def awX : ByteArray := ⟨#[120, 120, 120, 120, 120, 120, 120, 120, 120, 120]⟩
def awY : ByteArray := ⟨#[121, 121]⟩
noncomputable def aw1 : Pl := (Pl.new 100).write nmF 60 (strI awX)
noncomputable def aw2 : Pl := aw1.write nmF 99 (strI awY)
theorem awE : (Pl.new 100).writeE nmF 60 (strI awX) = 0 ∧ strOf (aw1.read nmF 58 4) = ⟨#[0, 0, 120, 120]⟩ ∧ aw1.readE 58 4 = 0 ∧ aw1.writeE nmF 99 (strI awY) = 5 ∧ aw2.len nmF = 70 ∧ aw2.pd.length = 3 ∧ aw2.steps = 1 ∧ aw1.nf = 2 ∧ aw1.pd.length = 3 ∧ (Pl.new 100).nf = 0 ∧ (Pl.new 100).pd.length = 0 := by
  refine ⟨?_, ?_, ?_, ?_, ?_, ?_, ?_, ?_, ?_, ?_, ?_⟩ <;> kernel_rfl
end Go.Proofs.Ytegcbdfilkecpaa
/- The rollback journal in plain Lean: its steps on the plain disk; no condition. -/
namespace Go.Proofs.Ytegcbdfilkecpaa
open Go

def nmDb : ByteArray := ⟨#[100, 98]⟩
def nmJn : ByteArray := ⟨#[106, 111, 117, 114, 110, 97, 108]⟩
/-- a step: 0 a write, 1 a truncation, else a sync -/
structure Stp where
  k : Nat
  nm : ByteArray
  at_ : Int
  d : List Int
namespace Pl
def stE (p : Pl) (s : Stp) : Int := if s.k = 0 then p.writeE s.nm s.at_ s.d else if s.k = 1 then p.truncE s.nm s.at_ else p.syncE
def stP (p : Pl) (s : Stp) : Pl := if s.k = 0 then p.write s.nm s.at_ s.d else if s.k = 1 then p.trunc s.nm s.at_ else p.sync s.nm
/-- steps, till one is refused -/
def runS : Pl → List Stp → Pl × Int
  | p, [] => (p, 0)
  | p, s :: r => if p.stE s = 0 then runS (p.stP s) r else (p.stP s, p.stE s)
end Pl
def four (n : Int) : List Int := [n / 16777216 % 256, n / 65536 % 256, n / 256 % 256, n % 256]
def num (l : List Int) (a : Nat) : Int := l.getD a 0 * 16777216 + l.getD (a + 1) 0 * 65536 + l.getD (a + 2) 0 * 256 + l.getD (a + 3) 0
/-- four words -/
structure W4 where
  a : Int
  b : Int
  c : Int
  d : Int
def W4.bytes (w : W4) : List Int := four w.a ++ four w.b ++ four w.c ++ four w.d
def sealB (w : W4) : List Int := w.bytes ++ w.bytes ++ w.bytes ++ zeros 16
def wordsAt (l : List Int) (a : Nat) : W4 := ⟨num l a, num l (a + 4), num l (a + 8), num l (a + 12)⟩
/-- what a sealed sector says -/
def openB (l : List Int) : W4 := if l.take 16 = (l.drop 16).take 16 then wordsAt l 0 else wordsAt l 32
def says (l : List Int) : W4 := if l.length < 64 then ⟨0, 0, 0, 0⟩ else openB (l.take 64)
/-- a page with its number -/
structure Pg where
  n : Int
  b : List Int
def pageOf (l : List Int) (n : Nat) : List Int := sizedF (l.drop ((n - 1) * 256)) 256
namespace Pl
def jcount (p : Pl) : Nat := p.len nmDb / 256
def jhead (p : Pl) : W4 := says (p.seen nmJn)
def jheadD (p : Pl) : W4 := if p.down then ⟨0, 0, 0, 0⟩ else p.jhead
def jhot (p : Pl) : Bool := !p.down && decide ((p.jhead).a ≠ 0)
end Pl
def hasPg (l : List Pg) (n : Int) : Bool := l.any fun x => decide (x.n = n)
def chainPg (count : Int) : Int → List Pg → Bool
  | _, [] => true
  | last, x :: r => decide (last < x.n ∧ x.n ≤ count) && chainPg count x.n r
def above (old : Int) (l : List Pg) : Nat := l.countP fun x => decide (old < x.n)
def fitPg (old count : Int) (l : List Pg) : Bool := decide (0 ≤ count ∧ count ≤ 4096) && (chainPg count 0 l && decide ((above old l : Int) = max 0 (count - old)))
def headS (nm : ByteArray) (w : W4) : List Stp := [⟨0, nm, 0, sealB w⟩, ⟨2, nm, 0, []⟩]
def homeW (l : List Pg) : List Stp := l.map fun x => ⟨0, nmDb, (x.n - 1) * 256, x.b⟩
def homeS (count : Int) (l : List Pg) : List Stp := homeW l ++ [⟨1, nmDb, count * 256, []⟩, ⟨2, nmDb, 0, []⟩]
/-- a record of the journal -/
def recB (x : Pg) : List Int := four x.n ++ zeros 60 ++ x.b
def asideW : Nat → List Pg → List Stp
  | _, [] => []
  | k, x :: r => ⟨0, nmJn, 64 + 320 * (k : Int), recB x⟩ :: asideW (k + 1) r
def asideS (l : List Pg) : List Stp := asideW 0 l ++ [⟨2, nmJn, 0, []⟩]
def asidePg (db : List Int) (old count : Nat) (l : List Pg) : List Pg :=
  ((List.range' 1 old).filter fun n => decide (count < n) || hasPg l n).map fun (n : Nat) => ⟨(n : Int), pageOf db n⟩
def firstS (w : W4) (old : Nat) (aside : List Pg) : List Stp := headS nmJn w ++ (asideS aside ++ headS nmJn ⟨aside.length + 1, old, 0, 0⟩)
def secondS (count : Int) (l : List Pg) : List Stp := homeS count l ++ headS nmJn ⟨0, 0, 0, 0⟩
/-- too long is too full -/
def fullE (e : Int) : Int := if e = 3 then 5 else e
/-- the records of a journal from the k-th on, i of them -/
def recsPg (l : List Int) (top : Int) : Nat → Nat → Int → Option (List Pg)
  | 0, _, _ => some []
  | i + 1, k, last =>
    let b := (l.drop (64 + 320 * k)).take 320
    if b.length < 320 then none else if (b.drop 4).take 60 = zeros 60 ∧ last < num b 0 ∧ num b 0 ≤ top then
      (recsPg l top i (k + 1) (num b 0)).map fun r => ⟨num b 0, b.drop 64⟩ :: r
    else none
def recordsPg (l : List Int) (w : W4) : Option (List Pg) := if 4096 < w.a - 1 ∨ 4096 < w.b ∨ w.c ≠ 0 ∨ w.d ≠ 0 then none else recsPg l w.b (w.a - 1).toNat 0 0
namespace Pl
def recS (w : W4) (l : List Pg) : List Stp := headS nmJn w ++ (homeS w.b l ++ headS nmJn ⟨0, 0, 0, 0⟩)
/-- taken back: the disk, is it taken back, the error -/
def jrecover (p : Pl) : Pl × Bool × Int :=
  if p.down then (p, false, 7) else if p.jhot = false then (p, false, 0) else
    match recordsPg (p.seen nmJn) p.jhead with
    | none => (p, false, 8)
    | some l => let q := p.runS (recS p.jhead l); (q.1, decide (q.2 = 0), q.2)
def jfirst (p : Pl) (count : Int) (l : List Pg) : List Stp := firstS p.jhead p.jcount (asidePg (p.seen nmDb) p.jcount count.toNat l)
def jcommit (p : Pl) (count : Int) (l : List Pg) : Pl × Int :=
  if p.down then (p, 7) else if fitPg p.jcount count l = false then (p, 2) else if p.jhot then (p, 6) else
    let q := p.runS (p.jfirst count l)
    if q.2 ≠ 0 then (q.1, fullE q.2) else
      let r := q.1.runS (secondS count l)
      if r.2 = 5 then (let s := r.1.jrecover; if s.2.2 ≠ 0 then (s.1, s.2.2) else (s.1, 5)) else r
def jpageE (p : Pl) (n : Int) : Int := if p.down then 7 else if n < 1 ∨ (p.jcount : Int) < n then 4 else 0
def jpage (p : Pl) (n : Int) : List Int := if p.jpageE n = 0 then pageOf (p.seen nmDb) n.toNat else zeros 256
end Pl
theorem runS_nil (p : Pl) : p.runS [] = (p, 0) := rfl
theorem runS_cons (p : Pl) (s : Stp) (r : List Stp) : p.runS (s :: r) = if p.stE s = 0 then (p.stP s).runS r else (p.stP s, p.stE s) := rfl
theorem runS_append : ∀ (a b : List Stp) (p : Pl), p.runS (a ++ b) = if (p.runS a).2 = 0 then (p.runS a).1.runS b else p.runS a
  | [], b, p => by simp [runS_nil]
  | s :: r, b, p => by
    have ih := runS_append r b (p.stP s)
    rw [List.cons_append, runS_cons, runS_cons]
    by_cases h : p.stE s = 0
    · rw [if_pos h, if_pos h, ih]
    · rw [if_neg h, if_neg h, if_neg h]
/-- how far the counts are from their bound -/
def Pl.sm (p : Pl) (k : Nat) : Prop := p.nf + p.pd.length + k < 1099511627776
theorem sm_mono {p : Pl} {a b : Nat} (h : p.sm a) (hb : b ≤ a) : p.sm b := by unfold Pl.sm at h ⊢; omega
theorem sectors_len (s : ByteArray) (l : List Int) (a e : Nat) : (Pl.sectors s l a e).length = (e + 63) / 64 - a / 64 := by simp [Pl.sectors]
theorem sm_write {p : Pl} {k : Nat} (s : ByteArray) (a : Int) (d : List Int) (h : p.sm (k + 20000)) : (p.write s a d).sm k := by
  unfold Pl.sm at h ⊢
  unfold Pl.write
  split
  · omega
  · rename_i h1
    split
    · simp only [Pl.step]; omega
    · split
      · omega
      · have e1 : (a.toNat + d.length + 63) / 64 - a.toNat / 64 ≤ 16386 := by omega
        unfold Pl.write1
        simp only [Pl.step, Pl.pend, Pl.setSeen, Pl.at_, List.length_append, sectors_len]
        split
        · unfold Pl.length
          split
          · simp only [Pl.at_]; omega
          · simp only [Pl.pend, Pl.setSeen, Pl.at_, List.length_append, List.length_cons, List.length_nil]; omega
        · omega
theorem sm_trunc {p : Pl} {k : Nat} (s : ByteArray) (n : Int) (h : p.sm (k + 20000)) : (p.trunc s n).sm k := by
  unfold Pl.sm at h ⊢
  unfold Pl.trunc
  split
  · omega
  · simp only [Pl.step]
    unfold Pl.length
    split
    · simp only [Pl.at_]; omega
    · simp only [Pl.pend, Pl.setSeen, Pl.at_, List.length_append, List.length_cons, List.length_nil]; omega
theorem sm_sync {p : Pl} {k : Nat} (s : ByteArray) (h : p.sm (k + 20000)) : (p.sync s).sm k := by
  unfold Pl.sm at h ⊢
  unfold Pl.sync
  split
  · omega
  · split
    · simp only [Pl.step]; omega
    · simp only [Pl.step, Pl.setKept, Pl.at_]
      have := List.length_filter_le (fun c : Cg => !decide (c.nm = s)) p.pd
      omega
theorem sm_st {p : Pl} {k : Nat} (s : Stp) (h : p.sm (k + 20000)) : (p.stP s).sm k := by
  unfold Pl.stP
  split
  · exact sm_write _ _ _ h
  · split
    · exact sm_trunc _ _ h
    · exact sm_sync _ h
theorem sm_run : ∀ (l : List Stp) {p : Pl} {k : Nat}, p.sm (k + 20000 * l.length) → (p.runS l).1.sm k
  | [], p, k, h => by rw [runS_nil]; exact sm_mono h (by omega)
  | s :: r, p, k, h => by
    have h1 : (p.stP s).sm (k + 20000 * r.length) := sm_st s (sm_mono h (by simp only [List.length_cons]; omega))
    rw [runS_cons]
    split
    · exact sm_run r h1
    · exact sm_mono h1 (by omega)
end Go.Proofs.Ytegcbdfilkecpaa
/- The stand-in disk among a caller's own blocks; no condition but on the texts' lengths and the counts. -/
namespace Go.Proofs.Ytegcbdfilkecpaa
open Go.RowKit

/-- a disk at db: since W0 only blocks of S are changed, and all its blocks are of S or newer than W0 -/
def Dq (S : Nat → Prop) (W0 w : World) (db : Nat) (p : Pl) : Prop := ∃ x, x.db = db ∧ Dk 0 w x ∧ Of x p ∧ Kp S W0 w ∧ (∀ b, x.O b → S b ∨ W0.heap.size ≤ b) ∧ ∀ b, S b → b < W0.heap.size
section
variable {S : Nat → Prop} {W0 w w' : World} {db : Nat} {p p' : Pl}
theorem Dq.kp (h : Dq S W0 w db p) : Kp S W0 w := by
  obtain ⟨x, e, hd, hp, hk, ho, hs⟩ := h
  exact hk
theorem Dq.lt (h : Dq S W0 w db p) : ∀ b, S b → b < W0.heap.size := by
  obtain ⟨x, e, hd, hp, hk, ho, hs⟩ := h
  exact hs
theorem Dq.keep (h : Dq S W0 w db p) (k : Kp NoB w w') : Dq S W0 w' db p := by
  obtain ⟨x, e, hd, hp, hk, ho, hs⟩ := h
  exact ⟨x, e, hd.keep k (fun _ _ q => q) (fun _ _ _ q => q), hp, hk.trans k (fun _ _ q => q.elim), ho, hs⟩
/-- the base moved up to now -/
theorem Dq.base (h : Dq S W0 w db p) : ∃ S', Dq S' w w db p ∧ (∀ b, S' b → S b ∨ W0.heap.size ≤ b) := by
  obtain ⟨x, e, hd, hp, hk, ho, hs⟩ := h
  exact ⟨x.O, ⟨x, e, hd, hp, Kp.refl _ _, fun b q => .inl q, hd.lt⟩, ho⟩
theorem Dq.base1 (h : Dq S w w db p) (k : Kp NoB w w') : Dq S w' w' db p := by
  obtain ⟨x, e, hd, hp, hk, ho, hs⟩ := h
  refine ⟨x, e, hd.keep k (fun _ _ q => q) (fun _ _ _ q => q), hp, Kp.refl _ _, fun b hb => ?_, fun b hb => Nat.lt_of_lt_of_le (hs b hb) k.size⟩
  rcases ho b hb with q | q
  · exact .inl q
  · have := hd.lt b hb
    omega
theorem Dq.tr {S' : Nat → Prop} {w0 : World} (h : Dq S' w w' db p') (k : Kp S W0 w) (hS : ∀ b, S' b → S b ∨ W0.heap.size ≤ b) (hs : ∀ b, S b → b < W0.heap.size) : Dq S W0 w' db p' := by
  obtain ⟨x, e, hd, hp, hk, ho, _⟩ := h
  refine ⟨x, e, hd, hp, k.trans hk (fun b hb q => ?_), fun b hb => ?_, hs⟩
  · rcases hS b q with q | q
    · exact q
    · omega
  · rcases ho b hb with q | q
    · exact hS b q
    · exact .inr (Nat.le_trans k.size q)
theorem Dq.up (h : Dq S w' w' db p) (k : Kp NoB w w') (hs : ∀ b, S b → b < w.heap.size) {w2 : World} (h2 : Dq S w' w2 db p') : Dq S w w2 db p' :=
  Dq.tr (w0 := w) h2 (k.mono (fun _ _ q => q.elim)) (fun _ q => .inl q) hs
theorem dq_of {x : Dd} {n0 : Nat} (hd : x.db = db) (hk : Kp S W0 w) (ho : ∀ b, x.O b → S b ∨ W0.heap.size ≤ b) (hs : ∀ b, S b → b < W0.heap.size) (h : To 0 w x p' w') : Dq S W0 w' db p' := by
  obtain ⟨x', hd', hp, e, k, o⟩ := h
  refine ⟨x', e.trans hd, hd', hp, hk.trans k (fun i hi q => ?_), fun b hb => ?_, hs⟩
  · rcases ho i q with q | q
    · exact q
    · omega
  · rcases o b hb with q | q
    · exact ho b q
    · exact .inr (Nat.le_trans hk.size q)
theorem new_q (w : World) (r : Int) (hr : -9223372036854775808 ≤ r ∧ r ≤ 9223372036854775807) :
    Calls Try.prog 17 #[.int .i64 r] w fun e w' => ∃ db, e = .returned (ptrV db) ∧ Dq (fun _ => False) w w' db (Pl.new r) :=
  (new_ok w r hr 0 (Nat.zero_le _)).mono fun e w' ⟨db, mb, he, hd, k, h1, h2⟩ => ⟨db, he, _, rfl, hd, ⟨rfl, rfl, rfl, rfl, Nat.le_refl _, rfl, rfl, rfl, rfl, rfl, rfl⟩, k, by
    refine ⟨?_, fun b q => q.elim⟩
    rintro b (rfl | rfl | q | ⟨e, he, rfl⟩)
    · exact .inr h1
    · exact .inr h2
    · cases q
    · cases he⟩
theorem write_q (h : Dq S W0 w db p) (s : ByteArray) (a : Int) (d : ByteArray) (hs : s.size ≤ maxLen) (hds : d.size ≤ maxLen) (hm : p.sm 20000) :
    Calls Try.prog 78 #[ptrV db, .string s, .int .i64 a, .string d] w fun e w' => e = .returned (.int .i64 (p.writeE s a (strI d))) ∧ Dq S W0 w' db (p.write s a (strI d)) := by
  obtain ⟨x, rfl, hd, hp, hk, ho, hz⟩ := h
  unfold Pl.sm at hm
  exact (write_ok w _ x p s a d hd hp hs hds (Nat.zero_le _) (by omega) (by omega)).mono fun e w' ⟨he, ht⟩ => ⟨he, dq_of (n0 := 0) rfl hk ho hz ht⟩
theorem trunc_q (h : Dq S W0 w db p) (s : ByteArray) (n : Int) (hn : -9223372036854775808 ≤ n ∧ n ≤ 9223372036854775807) (hs : s.size ≤ maxLen) (hm : p.sm 20000) :
    Calls Try.prog 86 #[ptrV db, .string s, .int .i64 n] w fun e w' => e = .returned (.int .i64 (p.truncE s n)) ∧ Dq S W0 w' db (p.trunc s n) := by
  obtain ⟨x, rfl, hd, hp, hk, ho, hz⟩ := h
  unfold Pl.sm at hm
  exact (trunc_ok w _ x p s n hn hd hp hs (Nat.zero_le _) (by omega) (by omega)).mono fun e w' ⟨he, ht⟩ => ⟨he, dq_of (n0 := 0) rfl hk ho hz ht⟩
theorem sync_q (h : Dq S W0 w db p) (s : ByteArray) (hs : s.size ≤ maxLen) (hm : p.sm 20000) :
    Calls Try.prog 88 #[ptrV db, .string s] w fun e w' => e = .returned (.int .i64 p.syncE) ∧ Dq S W0 w' db (p.sync s) := by
  obtain ⟨x, rfl, hd, hp, hk, ho, hz⟩ := h
  unfold Pl.sm at hm
  exact (sync_ok w _ x p s hd hp hs (Nat.zero_le _) (by omega) (by omega)).mono fun e w' ⟨he, ht⟩ => ⟨he, dq_of (n0 := 0) rfl hk ho hz ht⟩
theorem read_q (h : Dq S W0 w db p) (s : ByteArray) (a n : Int) (hs : s.size ≤ maxLen) (ha : -9223372036854775808 ≤ a ∧ a ≤ 9223372036854775807) (hn : -9223372036854775808 ≤ n ∧ n ≤ 9223372036854775807) :
    Calls Try.prog 28 #[ptrV db, .string s, .int .i64 a, .int .i64 n] w fun e w' => e = .returned (.tuple #[.string (strOf (p.read s a n)), .int .i64 (p.readE a n)]) ∧ Kp NoB w w' := by
  obtain ⟨x, rfl, hd, hp, hk, ho, hz⟩ := h
  exact read_ok w _ x p s a n ha hn hd hp hs
theorem len_q (h : Dq S W0 w db p) (s : ByteArray) (hs : s.size ≤ maxLen) : Calls Try.prog 67 #[ptrV db, .string s] w fun e w' => e = .returned (.int .i64 (p.len s)) ∧ w = w' := by
  obtain ⟨x, rfl, hd, hp, hk, ho, hz⟩ := h
  exact len_ok w _ x p s hd hp hs
/-- what is known of the plain state behind a disk -/
theorem Dq.seen_le (h : Dq S W0 w db p) (s : ByteArray) : (p.seen s).length ≤ 1048576 := by
  obtain ⟨x, rfl, hd, hp, hk, ho, hz⟩ := h
  rw [hp.seen]
  exact Go.Proofs.Ytegcbdfilkecpaa.seen_le hd s
theorem Dq.seen_rng (h : Dq S W0 w db p) (s : ByteArray) : ∀ y ∈ p.seen s, 0 ≤ y ∧ y < 256 := by
  obtain ⟨x, rfl, hd, hp, hk, ho, hz⟩ := h
  rw [hp.seen]
  unfold seenOf
  split
  · rename_i e hf
    obtain ⟨u, v, _, hu, _⟩ := (hd.fls e (findF_some hf).1).blk
    exact hu.rng
  · simp
end
end Go.Proofs.Ytegcbdfilkecpaa
/- Pages of 256 bytes in memory, and how the walk reads and writes them whole; no condition. -/
namespace Go.Proofs.Ytegcbdfilkecpaa
open Go.RowKit

def zero256 : Array Value := bytesV (zeros 256)
theorem zero256_eq : zero256 = bytesV (zeros 256) := rfl

theorem info26 : (Try.prog.info? 24).map (·.size) = some 256 := by kernel_rfl
theorem zeroValue26 (w : World) : (zeroValue 24).run Try.prog w = .ok (.agg zero256) w := by kernel_rfl

theorem load26 (w : World) (ev : Operand → Value) (ds : Option Tmp) (x : Operand) (ty : TypeId) (ps : String) (af : Array Edge) (g : Option (Nat × Bool)) (h : thereP w (ev x) 256) :
    (execOp ev ⟨ds, .load 24 x, ty, ps, af, g⟩).run Try.prog w = .ok (.value (.agg (readP w (ev x) 256))) w := execLoad_P Try.underlying24 rfl info26 w ev ds x ty ps af g h
theorem store26 (w : World) (ev : Operand → Value) (ds : Option Tmp) (x y : Operand) (ty : TypeId) (ps : String) (af : Array Edge) (g : Option (Nat × Bool)) (hv : aggOK (ev y) 256) (h : thereP w (ev x) 256) :
    (execOp ev ⟨ds, .store 24 x y, ty, ps, af, g⟩).run Try.prog w = .ok .skip (setP w (ev x) (ev y)) := execStore_P info26 w ev ds x y ty ps af g hv h
theorem alloc26 (w : World) (ev : Operand → Value) (ds : Option Tmp) (ty : TypeId) (ps : String) (af : Array Edge) (g : Option (Nat × Bool)) :
    (execOp ev ⟨ds, .alloc 24, ty, ps, af, g⟩).run Try.prog w = .ok (.value (.pointer (some ⟨w.heap.size, 0, none⟩))) (w.alloc (.cells zero256 24)) := by
  simp only [execOp, Instr.alloc, Sem.run_bind, zeroValue26, Result.andThen_ok]
  rfl
theorem build26 (w : World) (ev : Operand → Value) (ds : Option Tmp) (ty : TypeId) (ps : String) (af : Array Edge) (g : Option (Nat × Bool)) :
    (execOp ev ⟨ds, .build 24 #[], ty, ps, af, g⟩).run Try.prog w = .ok (.value (.agg zero256)) w := by
  kernel_rfl

theorem slice26lo (w : World) (ev : Operand → Value) (ds : Option Tmp) (x lo : Operand) (ty : TypeId) (ps : String) (af : Array Edge) (g : Option (Nat × Bool)) (h : sliceOK (ev x) (ev lo) (.int .i64 (256 : Nat)) 256) :
    (execOp ev ⟨ds, .slice 24 x (some lo) none none, ty, ps, af, g⟩).run Try.prog w = .ok (.value (sliceV (ev x) (ev lo) (.int .i64 (256 : Nat)) 256)) w := execSlice_lo Try.underlying24 infoU8 w ev ds x lo ty ps af g h
theorem slice26lohi (w : World) (ev : Operand → Value) (ds : Option Tmp) (x lo hi : Operand) (ty : TypeId) (ps : String) (af : Array Edge) (g : Option (Nat × Bool)) (h : sliceOK (ev x) (ev lo) (ev hi) 256) :
    (execOp ev ⟨ds, .slice 24 x (some lo) (some hi) none, ty, ps, af, g⟩).run Try.prog w = .ok (.value (sliceV (ev x) (ev lo) (ev hi) 256)) w := execSlice_lohi Try.underlying24 infoU8 w ev ds x lo hi ty ps af g h
end Go.Proofs.Ytegcbdfilkecpaa
/- The reference's disk, its values in memory; no condition. -/
namespace Go.Proofs.Ytegcbdfilkecpaa
open Go.RowKit

theorem Blk.top {W : World} {g : Nat} {t : TypeId} {cs : Array Value} (e : W.heap.size = g) : Blk (W.alloc (.cells cs t)) g t cs := e ▸ Blk.new W t cs
theorem infoRd : (Try.prog.info? 56).map (·.size) = some 8 := by kernel_rfl
theorem infoRf : (Try.prog.info? 137).map (·.size) = some 3 := by kernel_rfl
/-- a file of the reference: its name, what is seen, what is kept -/
structure Rfile where
  nm : ByteArray
  seen : List Int
  kept : List Int
def rfCells (f : Rfile) : List Value := [.string f.nm, .string (strOf f.seen), .string (strOf f.kept)]
def rcCells (c : Cg) : List Value := [.string c.nm, .int .i64 c.sec, .int .i64 c.n, .string (strOf c.s)]
/-- a list of structs in memory that nobody writes -/
def Rows (w : World) (A : Option Addr) (n : Nat) (sz : Nat) (xs : List (List Value)) : Prop :=
  xs.length = n ∧ (∀ x ∈ xs, x.length = sz) ∧ (0 < n → ∃ g o t cs, A = some ⟨g, o, none⟩ ∧ Blk w g t cs ∧ o + n * sz ≤ cs.size ∧ ∀ k (h : k < xs.length) j (hj : j < sz), cs[o + k * sz + j]? = xs[k][j]?)
theorem Rows.keep {w w' : World} {A : Option Addr} {n sz : Nat} {xs : List (List Value)} (h : Rows w A n sz xs) (k : Kp NoB w w') : Rows w' A n sz xs :=
  ⟨h.1, h.2.1, fun hn => by
    obtain ⟨g, o, t, cs, e, hb, hs, hc⟩ := h.2.2 hn
    exact ⟨g, o, t, cs, e, hb.keep k (fun q => q), hs, hc⟩⟩
theorem Rows.cell {w : World} {A : Option Addr} {n sz : Nat} {xs : List (List Value)} (h : Rows w A n sz xs) {k : Nat} {x : List Value} (hk : xs[k]? = some x) : ∃ g o, A = some ⟨g, o, none⟩ ∧ g < w.heap.size ∧ ∀ j v, x[j]? = some v → w.cell? ⟨g, o + k * sz + j, none⟩ = some v := by
  obtain ⟨hk', rfl⟩ := List.getElem?_eq_some_iff.1 hk
  obtain ⟨g, o, t, cs, e, hb, hs, hc⟩ := h.2.2 (by have := h.1; omega)
  refine ⟨g, o, e, hb.lt, fun j v hj => ?_⟩
  have hjl : j < sz := by
    rw [← h.2.1 _ (List.getElem_mem hk')]
    exact (List.getElem?_eq_some_iff.1 hj).1
  rw [hb.cell, hc k hk' j hjl]
  exact hj
structure Rd where
  fA : Option Addr
  fn : Nat
  fc : Nat
  fs : List Rfile
  pA : Option Addr
  pn : Nat
  pc : Nat
def rdV (d : Rd) (p : Pl) : Value := .agg #[.bool true, .bool p.down, .slice d.fA d.fn d.fc, .slice d.pA d.pn d.pc, .int .i64 p.room, .int .i64 p.steps, .int .i64 p.crash, .int .i64 p.starts]
def findR (fs : List Rfile) (s : ByteArray) : Option Rfile := fs.find? fun f => decide (f.nm = s)
def seenR (fs : List Rfile) (s : ByteArray) : List Int := match findR fs s with | some f => f.seen | none => []
def keptR (fs : List Rfile) (s : ByteArray) : List Int := match findR fs s with | some f => f.kept | none => []
def sumR (fs : List Rfile) : Int := (fs.map fun f => (f.seen.length : Int)).sum
def ksumR (fs : List Rfile) : Int := (fs.map fun f => (f.kept.length : Int)).sum
structure RfOk (f : Rfile) : Prop where
  nl : f.nm.size ≤ maxLen
  srng : ∀ y ∈ f.seen, 0 ≤ y ∧ y < 256
  krng : ∀ y ∈ f.kept, 0 ≤ y ∧ y < 256
  sl : f.seen.length ≤ 1048576
  kl : f.kept.length ≤ 1048576
/-- the reference's disk is the plain state -/
structure Rf (w : World) (d : Rd) (p : Pl) : Prop where
  files : Rows w d.fA d.fn 3 (d.fs.map rfCells)
  pend : Rows w d.pA d.pn 4 (p.pd.map rcCells)
  fnil : d.fA = none → d.fn = 0 ∧ d.fc = 0
  pnil : d.pA = none → d.pn = 0 ∧ d.pc = 0
  fok : ∀ f ∈ d.fs, RfOk f
  cok : ∀ c ∈ p.pd, CgOk c
  names : d.fs.Pairwise fun x y => x.nm ≠ y.nm
  seen : p.seen = seenR d.fs
  kept : p.kept = keptR d.fs
  sum : p.sum = sumR d.fs
  ksum : p.ksum = ksumR d.fs
  nf : d.fn ≤ p.nf
  room : 0 ≤ p.room ∧ p.room ≤ 9223372036854775807
  steps : -9223372036854775808 ≤ p.steps ∧ p.steps ≤ 9223372036854775807
  crash : 0 ≤ p.crash ∧ p.crash ≤ 9223372036854775807
  starts : -9223372036854775808 ≤ p.starts ∧ p.starts ≤ 9223372036854775807
theorem Rf.keep {w w' : World} {d : Rd} {p : Pl} (h : Rf w d p) (k : Kp NoB w w') : Rf w' d p := { h with files := h.files.keep k, pend := h.pend.keep k }
theorem Rf.fl {w : World} {d : Rd} {p : Pl} (h : Rf w d p) : d.fs.length = d.fn := by have := h.files.1; simpa using this
theorem Rf.pl {w : World} {d : Rd} {p : Pl} (h : Rf w d p) : p.pd.length = d.pn := by have := h.pend.1; simpa using this
theorem seenR_of {fs : List Rfile} (hn : fs.Pairwise fun x y => x.nm ≠ y.nm) {f : Rfile} (hf : f ∈ fs) : findR fs f.nm = some f := by
  unfold findR
  induction fs with
  | nil => cases hf
  | cons x r ih =>
    obtain ⟨h1, h2⟩ := List.pairwise_cons.1 hn
    rcases List.mem_cons.1 hf with rfl | q
    · simp
    · rw [List.find?_cons_of_neg (by simpa using h1 f q)]
      exact ih h2 q
set_option maxRecDepth 100000 in
theorem rwrong_ok (w : World) (d : Rd) (p : Pl) (h : Rf w d p) :
    Calls Try.prog 134 #[rdV d p] w fun e w' => e = .returned (.int .i64 p.wrong) ∧ Kp NoB w w' := by
  unfold rdV Pl.wrong
  generalize p.down = dn
  cases dn
  all_goals
    go_enter Try.func134, Try.ntmps134
    go_wp2_with fail
    go_ret
    exact ⟨rfl, (Kp.refl NoB w).alloc _⟩
end Go.Proofs.Ytegcbdfilkecpaa
/- The journal's types in memory: sectors, words, numbered pages; no condition. -/
namespace Go.Proofs.Ytegcbdfilkecpaa
open Go.RowKit

theorem infoSec : (Try.prog.info? 146).map (·.size) = some 64 := by kernel_rfl
theorem zeroSec (w : World) : (zeroValue 146).run Try.prog w = .ok (.agg (bytesV (zeros 64))) w := by kernel_rfl
theorem loadSec (w : World) (ev : Operand → Value) (ds : Option Tmp) (x : Operand) (ty : TypeId) (ps : String) (af : Array Edge) (g : Option (Nat × Bool)) (h : thereP w (ev x) 64) :
    (execOp ev ⟨ds, .load 146 x, ty, ps, af, g⟩).run Try.prog w = .ok (.value (.agg (readP w (ev x) 64))) w := execLoad_P Try.underlying146 rfl infoSec w ev ds x ty ps af g h
theorem storeSec (w : World) (ev : Operand → Value) (ds : Option Tmp) (x y : Operand) (ty : TypeId) (ps : String) (af : Array Edge) (g : Option (Nat × Bool)) (hv : aggOK (ev y) 64) (h : thereP w (ev x) 64) :
    (execOp ev ⟨ds, .store 146 x y, ty, ps, af, g⟩).run Try.prog w = .ok .skip (setP w (ev x) (ev y)) := execStore_P infoSec w ev ds x y ty ps af g hv h
theorem allocSec (w : World) (ev : Operand → Value) (ds : Option Tmp) (ty : TypeId) (ps : String) (af : Array Edge) (g : Option (Nat × Bool)) :
    (execOp ev ⟨ds, .alloc 146, ty, ps, af, g⟩).run Try.prog w = .ok (.value (.pointer (some ⟨w.heap.size, 0, none⟩))) (w.alloc (.cells (bytesV (zeros 64)) 146)) := by
  simp only [execOp, Instr.alloc, Sem.run_bind, zeroSec, Result.andThen_ok]
  rfl
theorem infoW4 : (Try.prog.info? 102).map (·.size) = some 4 := by kernel_rfl
theorem zeroW4 (w : World) : (zeroValue 102).run Try.prog w = .ok (.agg #[.int .u32 0, .int .u32 0, .int .u32 0, .int .u32 0]) w := by kernel_rfl
theorem loadW4 (w : World) (ev : Operand → Value) (ds : Option Tmp) (x : Operand) (ty : TypeId) (ps : String) (af : Array Edge) (g : Option (Nat × Bool)) (h : thereP w (ev x) 4) :
    (execOp ev ⟨ds, .load 102 x, ty, ps, af, g⟩).run Try.prog w = .ok (.value (.agg (readP w (ev x) 4))) w := execLoad_P Try.underlying102 rfl infoW4 w ev ds x ty ps af g h
theorem storeW4 (w : World) (ev : Operand → Value) (ds : Option Tmp) (x y : Operand) (ty : TypeId) (ps : String) (af : Array Edge) (g : Option (Nat × Bool)) (hv : aggOK (ev y) 4) (h : thereP w (ev x) 4) :
    (execOp ev ⟨ds, .store 102 x y, ty, ps, af, g⟩).run Try.prog w = .ok .skip (setP w (ev x) (ev y)) := execStore_P infoW4 w ev ds x y ty ps af g hv h
def w4A (w : W4) : Array Value := #[.int .u32 w.a, .int .u32 w.b, .int .u32 w.c, .int .u32 w.d]
theorem w4A_ones (w : W4) : ones (w4A w) := by unfold ones w4A; simp [Value.oneCell']
/-- a page with its number, as a value -/
def pgL (x : Pg) : List Value := .int .i64 x.n :: x.b.map (Value.int .u8)
def pgA (x : Pg) : Array Value := (pgL x).toArray
structure PgOk (x : Pg) : Prop where
  len : x.b.length = 256
  rng : ∀ y ∈ x.b, 0 ≤ y ∧ y < 256
  n0 : -9223372036854775808 ≤ x.n ∧ x.n ≤ 9223372036854775807
theorem pgL_len {x : Pg} (h : PgOk x) : (pgL x).length = 257 := by simp [pgL, h.len]
theorem pgA_size {x : Pg} (h : PgOk x) : (pgA x).size = 257 := by simp [pgA, pgL_len h]
theorem pgL_one (x : Pg) : ∀ u ∈ pgL x, u.oneCell' = true := by
  intro u hu
  unfold pgL at hu
  rcases List.mem_cons.1 hu with rfl | hu
  · rfl
  · exact u8_one _ u hu
theorem pgA_ones (x : Pg) : ones (pgA x) := by
  unfold ones pgA
  simp only [List.all_toArray', List.all_eq_true]
  exact pgL_one x
theorem infoPgA : (Try.prog.info? 113).map (fun i => (i.zero, i.size, i.bytes)) = some (some (.agg ((#[.int .i64 0] : Array Value) ++ Array.replicate 256 (.int .u8 0))), 257, 264) := by kernel_rfl
theorem infoPgS : (Try.prog.info? 113).map (·.size) = some 257 := by kernel_rfl
theorem zeroPg (w : World) : (zeroValue 113).run Try.prog w = .ok (.agg (pgA ⟨0, zeros 256⟩)) w := by kernel_rfl
theorem loadPg (w : World) (ev : Operand → Value) (ds : Option Tmp) (x : Operand) (ty : TypeId) (ps : String) (af : Array Edge) (g : Option (Nat × Bool)) (h : thereP w (ev x) 257) :
    (execOp ev ⟨ds, .load 113 x, ty, ps, af, g⟩).run Try.prog w = .ok (.value (.agg (readP w (ev x) 257))) w := execLoad_P Try.underlying113 rfl infoPgS w ev ds x ty ps af g h
theorem storePg (w : World) (ev : Operand → Value) (ds : Option Tmp) (x y : Operand) (ty : TypeId) (ps : String) (af : Array Edge) (g : Option (Nat × Bool)) (hv : aggOK (ev y) 257) (h : thereP w (ev x) 257) :
    (execOp ev ⟨ds, .store 113 x y, ty, ps, af, g⟩).run Try.prog w = .ok .skip (setP w (ev x) (ev y)) := execStore_P infoPgS w ev ds x y ty ps af g hv h
theorem allocPg (w : World) (ev : Operand → Value) (ds : Option Tmp) (ty : TypeId) (ps : String) (af : Array Edge) (g : Option (Nat × Bool)) :
    (execOp ev ⟨ds, .alloc 113, ty, ps, af, g⟩).run Try.prog w = .ok (.value (.pointer (some ⟨w.heap.size, 0, none⟩))) (w.alloc (.cells (pgA ⟨0, zeros 256⟩) 113)) := by
  simp only [execOp, Instr.alloc, Sem.run_bind, zeroPg, Result.andThen_ok]
  rfl
theorem buildPg1 (w : World) (n : Int) : (Instr.build 113 #[(0, .int .i64 n)]).run Try.prog w = .ok (.agg (pgA ⟨n, zeros 256⟩)) w := by kernel_rfl
theorem exBuildPg1 (w : World) (ev : Operand → Value) (x : Operand) (n : Int) (ds : Option Tmp) (ty : TypeId) (ps : String) (af : Array Edge) (g : Option (Nat × Bool)) (hx : ev x = .int .i64 n) :
    (execOp ev ⟨ds, .build 113 #[(0, x)], ty, ps, af, g⟩).run Try.prog w = .ok (.value (.agg (pgA ⟨n, zeros 256⟩))) w := by
  simp only [execOp, List.map_toArray, List.map_cons, List.map_nil, hx, Sem.run_bind, buildPg1, Result.andThen_ok]
  rfl
theorem slicePg (w : World) (cs : Array Value) (hs : cs.size = 257) : (Instr.buildSlice 22 1 #[(0, .agg cs)]).run Try.prog w = .ok (.slice (some ⟨w.heap.size, 0, none⟩) 1 1) (w.alloc (.cells cs 113)) := by
  obtain ⟨i, hi, h0, h1, h2⟩ := info_parts infoPgA
  have hu := Try.underlying22
  have hc : (Value.agg cs).cells = cs := rfl
  have hf : ∀ Z : Array Value, Z.size = 257 → Instr.fill (fun i => some (i * 257, 257)) Z [(0, .agg cs)] = some cs := fun Z hZ => by
    have := Go.Great.fill_whole (s := 257) (by omega) [.agg cs] Z (by simp [hc, hs]) (by simp [hZ])
    simpa [hc] using this
  simp [Instr.buildSlice, run_underlying hu, sizeOf, typeInfo, hi, h1, zeroPg, newRow, newObj]
  rw [hf _ (by simp)]
  rfl
theorem exSlicePg (w : World) (ev : Operand → Value) (x : Operand) (cs : Array Value) (ds : Option Tmp) (ty : TypeId) (ps : String) (af : Array Edge) (g : Option (Nat × Bool)) (hx : ev x = .agg cs) (hs : cs.size = 257) :
    (execOp ev ⟨ds, .buildSlice 22 1 #[(0, x)], ty, ps, af, g⟩).run Try.prog w = .ok (.value (.slice (some ⟨w.heap.size, 0, none⟩) 1 1)) (w.alloc (.cells cs 113)) := by
  simp only [execOp, List.map_toArray, List.map_cons, List.map_nil, hx, Sem.run_bind, slicePg w cs hs, Result.andThen_ok]
  rfl
/-- a list of pages in memory -/
def PgsAt (w : World) (A : Option Addr) (n : Nat) (l : List Pg) : Prop := Rows w A n 257 (l.map pgL)
theorem PgsAt.len {w : World} {A : Option Addr} {n : Nat} {l : List Pg} (h : PgsAt w A n l) : l.length = n := by have := h.1; simpa using this
theorem PgsAt.keep {w w' : World} {A : Option Addr} {n : Nat} {l : List Pg} (h : PgsAt w A n l) (k : Kp NoB w w') : PgsAt w' A n l := Rows.keep h k
/-- one of its pages -/
theorem PgsAt.at_ {w : World} {A : Option Addr} {n : Nat} {l : List Pg} (h : PgsAt w A n l) (k : Nat) (hk : k < n) : ∃ g o, A = some ⟨g, o, none⟩ ∧ g < w.heap.size ∧ w.there g (o + k * 257) 257 ∧ readRow w g (o + k * 257) 257 = pgA (l[k]'(by rw [h.len]; exact hk)) := by
  have hkl : k < (l.map pgL).length := by have := h.1; omega
  obtain ⟨g, o, t, cs, e, hb, hs, hc⟩ := h.2.2 (by omega)
  have hl : ((l.map pgL)[k]).length = 257 := h.2.1 _ (List.getElem_mem hkl)
  have h2 : k * 257 + 257 ≤ n * 257 := by omega
  have ht : w.there g (o + k * 257) 257 := hb.there (by omega)
  refine ⟨g, o, e, hb.lt, ht, ?_⟩
  unfold readRow pgA
  congr 1
  apply List.ext_getElem
  · simp only [List.getElem_map] at hl
    simp [hl]
  · intro j h1 h3
    have hj : j < 257 := by simpa using h1
    simp only [List.getElem_map, List.getElem_range]
    rw [hb.cell, hc k hkl j hj]
    simp only [List.getElem_map]
    rw [List.getElem?_eq_getElem h3]
    rfl
/-- copy of a string into bytes that lie there -/
theorem copyS (w : World) (g o n cap : Nat) (s : ByteArray) (hle : s.size ≤ n) (ht : w.there g o s.size) :
    (Builtin.copy_ #[42, 9] 3 #[.slice (some ⟨g, o, none⟩) n cap, .string s]).run Try.prog w = .ok (.int .i64 s.size) (w.setCells g o ((strI s).map (Value.int .u8))) := by
  have hrun := Go.run_copy_string (P := Try.prog) w 42 9 3 5 g o n cap s Try.underlying42 sizeU8 hle (fun j hj => (ht j hj).1) (fun j hj => (ht j hj).2)
  have e : (strI s).map (Value.int .u8) = s.data.toList.map fun x => Value.int .u8 (x.toNat : Int) := by
    unfold strI
    rw [List.map_map]
    rfl
  rw [e]
  exact hrun
end Go.Proofs.Ytegcbdfilkecpaa
/- The sealed sector: one of its copies read; no condition. -/
namespace Go.Proofs.Ytegcbdfilkecpaa
open Go.RowKit

/-- the first k bytes from place a on as a number -/
def accN (l : List Int) (a : Nat) : Nat → Int
  | 0 => 0
  | k + 1 => accN l a k * 256 + l.getD (a + k) 0
theorem getD_rng {l : List Int} (h : ∀ y ∈ l, 0 ≤ y ∧ y < 256) (a : Nat) : 0 ≤ l.getD a 0 ∧ l.getD a 0 < 256 := by
  rcases Nat.lt_or_ge a l.length with q | q
  · rw [List.getD_eq_getElem?_getD, List.getElem?_eq_getElem q]
    exact h _ (List.getElem_mem q)
  · rw [List.getD_eq_getElem?_getD, List.getElem?_eq_none q]
    decide
theorem accN_num (l : List Int) (a : Nat) : accN l a 4 = num l a := by
  unfold accN accN accN accN accN num
  simp only [Nat.add_zero]
  omega
theorem accN_rng {l : List Int} (h : ∀ y ∈ l, 0 ≤ y ∧ y < 256) (a : Nat) : ∀ k, 0 ≤ accN l a k ∧ accN l a k < 256 ^ k
  | 0 => by simp [accN]
  | k + 1 => by
    obtain ⟨h1, h2⟩ := accN_rng h a k
    obtain ⟨h3, h4⟩ := getD_rng h (a + k)
    unfold accN
    rw [Int.pow_succ]
    omega
theorem num_rng {l : List Int} (h : ∀ y ∈ l, 0 ≤ y ∧ y < 256) (a : Nat) : 0 ≤ num l a ∧ num l a < 4294967296 := by
  rw [← accN_num]
  have := accN_rng h a 4
  have e : (256 : Int) ^ 4 = 4294967296 := by decide
  omega
theorem sliceSeclohi (w : World) (ev : Operand → Value) (ds : Option Tmp) (x lo hi : Operand) (ty : TypeId) (ps : String) (af : Array Edge) (g : Option (Nat × Bool)) (h : sliceOK (ev x) (ev lo) (ev hi) 64) :
    (execOp ev ⟨ds, .slice 146 x (some lo) (some hi) none, ty, ps, af, g⟩).run Try.prog w = .ok (.value (sliceV (ev x) (ev lo) (ev hi) 64)) w := execSlice_lohi Try.underlying146 infoU8 w ev ds x lo hi ty ps af g h
theorem or_byteS (a x : Int) (h0 : 0 ≤ a) (h1 : a < 16777216) (h2 : 0 ≤ x) (h3 : x < 256) : bits BinOp.or IntKind.u32 (a * 256) x = a * 256 + x := by
  obtain ⟨m, rfl⟩ := Int.eq_ofNat_of_zero_le h0
  obtain ⟨n, rfl⟩ := Int.eq_ofNat_of_zero_le h2
  have e : bits BinOp.or IntKind.u32 ((m : Int) * 256) n = IntKind.u32.wrap ((BitVec.ofInt 32 ((m : Int) * 256) ||| BitVec.ofInt 32 n).toNat) := rfl
  have hm : m < 16777216 := by omega
  have hn : n < 256 := by omega
  have e1 : BitVec.ofInt 32 ((m : Int) * 256) = BitVec.ofNat 32 (m * 256) := by
    rw [show ((m : Int) * 256) = ((m * 256 : Nat) : Int) by omega]
    exact BitVec.ofInt_natCast _ _
  have e2 : BitVec.ofInt 32 (n : Int) = BitVec.ofNat 32 n := BitVec.ofInt_natCast _ _
  rw [e, e1, e2, BitVec.toNat_or, BitVec.toNat_ofNat, BitVec.toNat_ofNat, Nat.mod_eq_of_lt (by omega), Nat.mod_eq_of_lt (by omega)]
  have h := Nat.shiftLeft_add_eq_or_of_lt (i := 8) (b := n) (by omega) m
  rw [Nat.shiftLeft_eq] at h
  have h' : m * 256 ||| n = m * 256 + n := h.symm
  rw [h', IntKind.wrap_u32]
  omega
/-- four words, the first i read, the i-th under way -/
def uW (l : List Int) (a i : Nat) (x : Int) : List Int := (List.range 4).map fun j => if j < i then num l (a + 4 * j) else if j = i then x else 0
def uWA (l : List Int) (a i : Nat) (x : Int) : Array Value := ((uW l a i x).map (Value.int .u32)).toArray
theorem uWA_set (l : List Int) (a i : Nat) (x y : Int) (hi : i < 4) : (uWA l a i x).setIfInBounds i (.int .u32 y) = uWA l a i y := by
  rcases (show i = 0 ∨ i = 1 ∨ i = 2 ∨ i = 3 by omega) with rfl | rfl | rfl | rfl <;> rfl
theorem uWA_get (l : List Int) (a i : Nat) (x : Int) (hi : i < 4) : (uWA l a i x)[i]? = some (.int .u32 x) := by
  rcases (show i = 0 ∨ i = 1 ∨ i = 2 ∨ i = 3 by omega) with rfl | rfl | rfl | rfl <;> rfl
theorem uWA_next (l : List Int) (a i : Nat) (hi : i < 4) : uWA l a i (num l (a + 4 * i)) = uWA l a (i + 1) 0 := by
  rcases (show i = 0 ∨ i = 1 ∨ i = 2 ∨ i = 3 by omega) with rfl | rfl | rfl | rfl <;> rfl
theorem uWA_all (l : List Int) (a : Nat) (x : Int) : uWA l a 4 x = w4A (wordsAt l a) := rfl
theorem uWA_size (l : List Int) (a i : Nat) (x : Int) : (uWA l a i x).size = 4 := by simp [uWA, uW]
/-- in the midst of words -/
structure WdS (w : World) (l : List Int) (a i : Nat) (x : Int) (W : World) : Prop where
  kp : Kp NoB w W
  b1 : Blk W w.heap.size 146 (bytesV l)
  b2 : Blk W (w.heap.size + 1) 102 #[.int .u32 0, .int .u32 0, .int .u32 0, .int .u32 0]
  b3 : Blk W (w.heap.size + 2) 102 (uWA l a i x)
theorem WdS.set_ {w : World} {l : List Int} {a i : Nat} {x : Int} {W : World} (h : WdS w l a i x W) (hi : i < 4) (y : Int) : WdS w l a i y (W.setCell ⟨w.heap.size + 2, i, none⟩ (.int .u32 y)) := by
  refine ⟨h.kp.setCell (p := ⟨w.heap.size + 2, i, none⟩) (.inl (by show _ ≤ w.heap.size + 2; omega)) _, h.b1.far (p := ⟨w.heap.size + 2, i, none⟩) (by simp) _, h.b2.far (p := ⟨w.heap.size + 2, i, none⟩) (by simp) _, ?_⟩
  have := h.b3.set_ i (.int .u32 y)
  rwa [uWA_set _ _ _ _ _ hi] at this
attribute [local go_sem ↓] loadSec storeSec allocSec sliceSeclohi loadW4 storeW4
set_option maxRecDepth 100000 in
set_option maxHeartbeats 1600000 in
theorem words_ok (w : World) (l : List Int) (c : Nat) (hc : c ≤ 2) (hl : l.length = 64) (hr : ∀ y ∈ l, 0 ≤ y ∧ y < 256) :
    Calls Try.prog 155 #[.agg (bytesV l), .int .i64 c] w fun e w' => e = .returned (.agg (w4A (wordsAt l (16 * c)))) ∧ Kp NoB w w' := by
  have HL := Lib.hid hl
  have HR := Lib.hid hr
  have hst : WdS w l (16 * c) 0 0 (((w.alloc (.cells (bytesV l) 146)).alloc (.cells #[.int .u32 0, .int .u32 0, .int .u32 0, .int .u32 0] 102)).alloc (.cells #[.int .u32 0, .int .u32 0, .int .u32 0, .int .u32 0] 102)) :=
    ⟨(((Kp.refl _ _).alloc _).alloc _).alloc _, ((Blk.new _ _ _).alloc _).alloc _, (Blk.newAt _ _ _ _ (by simp)).alloc _, Blk.newAt _ _ _ _ (by simp)⟩
  have HST := Lib.hid hst
  clear hst hl hr
  go_enter Try.func155, Try.ntmps155
  go_wp2
  refine forget (p := fun wx => Code.wp _ _ _ _ wx) (WdS w l (16 * c) 0 0) HST.out ?_
  intro W hW
  have HW := Lib.hid hW
  clear hW HST
  go_loopw [9] (fun v wr => ∃ i : Nat, i ≤ 4 ∧ v = .int .i64 i ∧ WdS w l (16 * c) i 0 wr) (fun v _ => 4 - (intOf v).toNat)
  case atStart => exact ⟨0, by omega, rfl, HW.out⟩
  case round =>
    obtain ⟨i, hi, rfl, hs⟩ := hrel
    have HS := Lib.hid hs
    clear hs
    by_cases hlt : i < 4
    · obtain ⟨A, hA⟩ : ∃ A, 16 * c + 4 * i = A := ⟨_, rfl⟩
      have HA := Lib.hid hA
      have hw1 : IntKind.i64.wrap ((c : Int) * 16) = (c : Int) * 16 := by rw [IntKind.wrap_i64]; omega
      have hw2 : IntKind.i64.wrap ((i : Int) * 4) = (i : Int) * 4 := by rw [IntKind.wrap_i64]; omega
      have hw3 : IntKind.i64.wrap ((c : Int) * 16 + (i : Int) * 4) = (A : Int) := by rw [IntKind.wrap_i64]; omega
      have hw4 : IntKind.i64.wrap ((A : Int) + 4) = (A : Int) + 4 := by rw [IntKind.wrap_i64]; omega
      have hA0 : A + 4 ≤ 64 := by omega
      have hA1 : (A : Int) + 4 ≤ 64 := by omega
      have hA2 : (A : Int) ≤ (A : Int) + 4 := by omega
      have hA3 : ((A : Int) + 4).toNat = A + 4 := by omega
      have hA4 : 0 ≤ (A : Int) + 4 := by omega
      have hne : ¬ 64 = A := by omega
      have hii : (i : Int) < 4 := by omega
      clear hA
      go_wp2_with fail
      go_loopw [25] (fun v wr => ∃ k : Nat, k ≤ 4 ∧ v = .int .i64 k ∧ WdS w l (16 * c) i (accN l A k) wr) (fun v _ => 4 - (intOf v).toNat)
      case atStart => exact ⟨0, by omega, rfl, HS.out⟩
      case round =>
        obtain ⟨k, hk, rfl, hs2⟩ := hrel
        have HS2 := Lib.hid hs2
        by_cases hk4 : k < 4
        · have hkk : (k : Int) < 4 := by omega
          obtain ⟨b, hb⟩ : ∃ b, l.getD (A + k) 0 = b := ⟨_, rfl⟩
          have HB := Lib.hid hb
          have c1 : wr.cell? ⟨w.heap.size, A + k, none⟩ = some (.int .u8 b) := by
            rw [hs2.b1.cell, ← hb]
            unfold bytesV
            have := HL.out
            simp [List.getD_eq_getElem?_getD, show A + k < l.length by omega]
          obtain ⟨x, hx⟩ : ∃ x, accN l A k = x := ⟨_, rfl⟩
          have HX := Lib.hid hx
          have hbr := getD_rng HR.out (A + k)
          rw [hb] at hbr
          have hxr : 0 ≤ x ∧ x < 16777216 := by
            have := accN_rng HR.out A k
            rw [hx] at this
            rcases (show k = 0 ∨ k = 1 ∨ k = 2 ∨ k = 3 by omega) with rfl | rfl | rfl | rfl <;> simp at this <;> omega
          have c2 : wr.cell? ⟨w.heap.size + 1 + 1, i, none⟩ = some (.int .u32 x) := by rw [show w.heap.size + 1 + 1 = w.heap.size + 2 from rfl, hs2.b3.cell, hx]; exact uWA_get _ _ _ _ hlt
          have z2 : wr.frozen? ⟨w.heap.size + 1 + 1, i, none⟩ = false := hs2.b3.frozen i
          have HBR := Lib.hid hbr
          have HXR := Lib.hid hxr
          have hsh : IntKind.u32.wrap (x * 256) = x * 256 := by rw [IntKind.wrap_u32]; omega
          clear hs2 hb hx hbr hxr
          go_wp2_with fail
          refine ⟨⟨k + 1, by omega, by congr 1, ?_⟩, by simp [intOf]; omega⟩
          have e : accN l A (k + 1) = x * 256 + b := by
            show accN l A k * 256 + l.getD (A + k) 0 = _
            rw [HX.out, HB.out]
          rw [Int.emod_eq_of_lt HBR.out.1 (by have := HBR.out.2; omega), or_byteS x b HXR.out.1 HXR.out.2 HBR.out.1 HBR.out.2, ← e]
          exact (HS2.out.set_ hlt _).set_ hlt _
        · have hkk : ¬ (k : Int) < 4 := by omega
          obtain rfl : k = 4 := by omega
          clear hs2
          go_wp2_with fail
          refine ⟨⟨i + 1, by omega, by congr 1, ?_⟩, by simp [intOf]; omega⟩
          have h2 := HS2.out
          rw [accN_num, ← HA.out] at h2
          exact ⟨h2.kp, h2.b1, h2.b2, by have := h2.b3; rwa [uWA_next _ _ _ hlt] at this⟩
    · have hii : ¬ (i : Int) < 4 := by omega
      obtain rfl : i = 4 := by omega
      have hs := HS.out
      have b3 := hs.b3
      rw [uWA_all] at b3
      have t1 : wr.there (w.heap.size + 1 + 1) 0 4 := b3.thereAll 4 rfl
      have r1 : readRow wr (w.heap.size + 1 + 1) 0 4 = w4A (wordsAt l (16 * c)) := b3.readAll 4 rfl
      have t2 : wr.there (w.heap.size + 1) 0 4 := hs.b2.thereAll 4 rfl
      have o1 := w4A_ones (wordsAt l (16 * c))
      have s1 : (w4A (wordsAt l (16 * c))).size = 4 := rfl
      obtain ⟨RR, hRR⟩ : ∃ RR, w4A (wordsAt l (16 * c)) = RR := ⟨_, rfl⟩
      rw [hRR] at r1 o1 s1
      have HRR := Lib.hid hRR
      have S1 := Lib.hid s1
      clear hRR
      clear hs b3
      go_wp2_with fail
      refine bodyPost_ret (ret_cell1 rfl _ _ _ _ _ _ rfl (HS.out.b2.whole RR S1.out.symm) Try.underlying102 rfl (by rw [S1.out]; exact infoW4)) rfl ⟨by rw [HRR.out], ?_⟩
      exact Kp.setCells (.inl (by omega)) _ _ _ HS.out.kp
end Go.Proofs.Ytegcbdfilkecpaa
/- A region with several ways that end alike: they are brought to one form; a long store among the ready operations; no condition. -/
namespace Go.Proofs.Ytegcbdfilkecpaa
open Go

def Into (F : Nat → Act) (G : World → Nat → Prop) : Exit → Act → World → Prop
  | .normal, a, w => ∃ g, a = F g ∧ G w g
  | _, _, _ => False
theorem wp_into {P : Program} {c : Code} {Q : Exit → Act → World → Prop} {a : Act} {w : World} (F : Nat → Act) (G : World → Nat → Prop) (h : c.wp P (Into F G) a w) (k : ∀ g w', G w' g → Q .normal (F g) w') : c.wp P Q a w :=
  Code.wp_mono (fun e a w q => by cases e <;> first | exact q.elim | (obtain ⟨g, rfl, hg⟩ := q; exact k g _ hg)) h
theorem into_of {F : Nat → Act} {G : World → Nat → Prop} {a : Act} {w : World} (g : Nat) (h : G w g) (e : a = F g) : Into F G .normal a w := ⟨g, e, h⟩

theorem AllReadyH.store {P : Program} {ops : Array Oper} {Q : Exit → Act → World → Prop} {md : Region.Mode} {S : World → Prop} {fuel : Nat} {listed : Array Bool} {a : Act} {w : World} {i : Nat} {o : Oper} {rs : List Nat} (ho : ops[i]? = some o)
    (hw : Region.wanted o (yielded ops a.tmps) = true) (ty : TypeId) (x y : Operand) (hop : o.op = .store ty x y) (b off : Nat) (cells : Array Value)
    (hx : a.eval x = .pointer (some ⟨b, off, none⟩)) (hy : a.eval y = .agg cells) (ht : w.there b off cells.size) (hi : (P.info? ty).map (·.size) = some cells.size) (h1 : cells.all (·.oneCell') = true)
    (hS : S (w.setCells b off cells.toList)) (hn : wpAnyH P md ops Q S fuel (listed.setIfInBounds i true) (a.put o.dst undef) (w.setCells b off cells.toList))
    (hs : AllReadyH P md ops Q S fuel listed a w rs) : AllReadyH P md ops Q S fuel listed a w (i :: rs) :=
  AllReadyH.cons ho (fun K hK => by rw [if_pos hw]; exact wp_store_mid ty x y hop b off cells hx hy ht hi h1 (hK.out _ _ hS (fun _ => hn))) hs
end Go.Proofs.Ytegcbdfilkecpaa
/- A region with several ways that end alike in two blocks and two values; a call, a value among the ready operations; no condition. -/
namespace Go.Proofs.Ytegcbdfilkecpaa
open Go

def Into4 (F : Nat → Nat → Value → Value → Act) (G : World → Nat → Nat → Value → Value → Prop) : Exit → Act → World → Prop
  | .normal, a, w => ∃ g h u v, a = F g h u v ∧ G w g h u v
  | _, _, _ => False
theorem wp_into4 {P : Program} {c : Code} {Q : Exit → Act → World → Prop} {a : Act} {w : World} (F : Nat → Nat → Value → Value → Act) (G : World → Nat → Nat → Value → Value → Prop) (h : c.wp P (Into4 F G) a w) (k : ∀ g h u v w', G w' g h u v → Q .normal (F g h u v) w') : c.wp P Q a w :=
  Code.wp_mono (fun e a w q => by cases e <;> first | exact q.elim | (obtain ⟨g, h, u, v, rfl, hg⟩ := q; exact k g h u v _ hg)) h
theorem into4_of {F : Nat → Nat → Value → Value → Act} {G : World → Nat → Nat → Value → Value → Prop} {a : Act} {w : World} (g h : Nat) (u v : Value) (q : G w g h u v) (e : a = F g h u v) : Into4 F G .normal a w := ⟨g, h, u, v, e, q⟩

def Into2 (F : Nat → Nat → Act) (G : World → Nat → Nat → Prop) : Exit → Act → World → Prop
  | .normal, a, w => ∃ g h, a = F g h ∧ G w g h
  | _, _, _ => False
theorem wp_into2 {P : Program} {c : Code} {Q : Exit → Act → World → Prop} {a : Act} {w : World} (F : Nat → Nat → Act) (G : World → Nat → Nat → Prop) (h : c.wp P (Into2 F G) a w) (k : ∀ g h w', G w' g h → Q .normal (F g h) w') : c.wp P Q a w :=
  Code.wp_mono (fun e a w q => by cases e <;> first | exact q.elim | (obtain ⟨g, h, rfl, hg⟩ := q; exact k g h _ hg)) h
theorem into2_of {F : Nat → Nat → Act} {G : World → Nat → Nat → Prop} {a : Act} {w : World} (g h : Nat) (q : G w g h) (e : a = F g h) : Into2 F G .normal a w := ⟨g, h, e, q⟩

section
variable {P : Program} {ops : Array Oper} {Q : Exit → Act → World → Prop} {md : Region.Mode} {S : World → Prop} {fuel : Nat} {listed : Array Bool} {a : Act} {w : World} {i : Nat} {rs : List Nat}
variable {ds : Option Tmp} {op : Op} {ty : TypeId} {ps : String} {af : Array Edge} {gd : Option (Nat × Bool)}
/-- a call among the ready operations: what is known behind it is R -/
theorem AllReadyH.callR (R : Value → World → Prop) (ho : ops[i]? = some ⟨ds, op, ty, ps, af, gd⟩) (hw : Region.wanted ⟨ds, op, ty, ps, af, gd⟩ (yielded ops a.tmps) = true) (f : FuncId) (args : Array Value)
    (hr : (execOp a.eval ⟨ds, op, ty, ps, af, gd⟩).run P w = .ok (.enter f args) w) (hS : ∀ v w', R v w' → S w') (hc : Calls P f args w fun e w' => ∃ v, e = .returned v ∧ R v w')
    (hn : ∀ v w', R v w' → wpAnyH P md ops Q S fuel (listed.setIfInBounds i true) (a.put ds v) w')
    (hs : AllReadyH P md ops Q S fuel listed a w rs) : AllReadyH P md ops Q S fuel listed a w (i :: rs) :=
  AllReadyH.cons ho (fun K hK => by
    rw [if_pos hw]
    unfold Oper.wp
    rw [hr, Oper.upon_enter]
    refine hc.mono ?_
    rintro e w' ⟨v, rfl, h⟩
    exact hK.out _ _ (hS v w' h) (fun _ => hn v w' h)) hs
/-- an operation that yields a value and turns the world: what is known behind it is R -/
theorem AllReadyH.valR (R : World → Prop) (ho : ops[i]? = some ⟨ds, op, ty, ps, af, gd⟩) (hw : Region.wanted ⟨ds, op, ty, ps, af, gd⟩ (yielded ops a.tmps) = true) (v : Value) (w' : World)
    (hr : (execOp a.eval ⟨ds, op, ty, ps, af, gd⟩).run P w = .ok (.value v) w') (hS : ∀ w', R w' → S w') (h : R w')
    (hn : ∀ w', R w' → wpAnyH P md ops Q S fuel (listed.setIfInBounds i true) (a.put ds v) w')
    (hs : AllReadyH P md ops Q S fuel listed a w rs) : AllReadyH P md ops Q S fuel listed a w (i :: rs) :=
  AllReadyH.cons ho (fun K hK => by
    rw [if_pos hw]
    unfold Oper.wp
    rw [hr, Oper.upon_value]
    exact hK.out _ _ (hS w' h) (fun _ => hn w' h)) hs
theorem AllReadyH.storeL {tx : TypeId} {x y : Operand} (ho : ops[i]? = some ⟨none, .store tx x y, ty, ps, af, gd⟩)
    (hw : Region.wanted ⟨none, .store tx x y, ty, ps, af, gd⟩ (yielded ops a.tmps) = true) (b off : Nat) (cells : Array Value)
    (hx : a.eval x = .pointer (some ⟨b, off, none⟩)) (hy : a.eval y = .agg cells) (ht : w.there b off cells.size) (hi : (P.info? tx).map (·.size) = some cells.size) (h1 : cells.all (·.oneCell') = true)
    (hS : S (w.setCells b off cells.toList)) (hn : wpAnyH P md ops Q S fuel (listed.setIfInBounds i true) a (w.setCells b off cells.toList))
    (hs : AllReadyH P md ops Q S fuel listed a w rs) : AllReadyH P md ops Q S fuel listed a w (i :: rs) :=
  AllReadyH.cons ho (fun K hK => by rw [if_pos hw]; exact wp_store_mid tx x y rfl b off cells hx hy ht hi h1 (hK.out _ _ hS (fun _ => hn))) hs
theorem wpAnyH_takeL {v : Value} (hi : ops[i]? = some ⟨ds, op, ty, ps, af, gd⟩)
    (hs : Region.noSelect ops = true) (hf : Region.free md ops listed i = true) (hr : (Region.ready md ops listed).contains i = true)
    (hQ : ∀ c a w, Q (.panic c) (a.put ds v) w → Q (.panic c) a w) (hy : YieldsIf P ops S ⟨ds, op, ty, ps, af, gd⟩ v a) (hS : S w)
    (h : wpAnyH P md ops Q S fuel (listed.setIfInBounds i true) (a.put ds v) w) : wpAnyH P md ops Q S (fuel + 1) listed a w :=
  wpAnyH_take hi hs hf hr hQ hy hS h
end
end Go.Proofs.Ytegcbdfilkecpaa
/- Slices of texts in memory; no condition. -/
namespace Go.Proofs.Ytegcbdfilkecpaa
open Go.RowKit

/-- a slice of strings in memory -/
def Sl (w : World) (A : Option Addr) (n : Nat) (xs : List ByteArray) : Prop :=
  xs.length = n ∧ (0 < n → ∃ g o, A = some ⟨g, o, none⟩ ∧ g < w.heap.size ∧ ∀ k, k < n → w.cell? ⟨g, o + k, none⟩ = some (.string (xs.getD k ByteArray.empty)))
theorem Sl.keep {w w' : World} {A : Option Addr} {n : Nat} {xs : List ByteArray} (h : Sl w A n xs) (k : Kp NoB w w') : Sl w' A n xs :=
  ⟨h.1, fun hn => by
    obtain ⟨g, o, e, hg, hc⟩ := h.2 hn
    exact ⟨g, o, e, Nat.lt_of_lt_of_le hg k.size, fun j hj => (k.cell hg (fun q => q)).trans (hc j hj)⟩⟩
end Go.Proofs.Ytegcbdfilkecpaa
