/- The stand-in disk as a plain state, and what each call makes of it; no condition. -/
import Derived.Test.YtdgjglocgdccbaaDkPlain
import Derived.Test.YtdgjglocgdccbaaBy
namespace Go.Proofs.Ytdgjglocgdccbaa
open Go

/-- a change that is not kept: of a number of bytes (s is empty then), or of a sector -/
structure Cg where
  nm : ByteArray
  sec : Int
  n : Int
  s : List Int
def pad64 (l : List Int) : List Int := l ++ zeros (64 - l.length)
theorem pad64_nil : pad64 [] = zeros 64 := rfl
theorem pad64_full {l : List Int} (h : l.length = 64) : pad64 l = l := by unfold pad64; rw [h]; simp [zeros]
theorem pad64_len {l : List Int} (h : l.length ≤ 64) : (pad64 l).length = 64 := by unfold pad64; simp [zeros]; omega
theorem zeros_rng (n : Nat) : ∀ y ∈ zeros n, 0 ≤ y ∧ y < 256 := by
  intro y h
  have := List.eq_of_mem_replicate h
  omega
structure CgOk (c : Cg) : Prop where
  kind : (c.s = [] ∧ c.sec = -1 ∧ 0 ≤ c.n ∧ c.n ≤ 1048576) ∨ (c.s.length = 64 ∧ 0 ≤ c.sec ∧ c.sec ≤ 16384 ∧ c.n = 0)
  rng : ∀ y ∈ c.s, 0 ≤ y ∧ y < 256
  nl : c.nm.size ≤ maxLen
theorem CgOk.le {c : Cg} (h : CgOk c) : c.s.length ≤ 64 := by
  rcases h.kind with ⟨e, _⟩ | ⟨e, _⟩
  · rw [e]; simp
  · omega
theorem CgOk.pad {c : Cg} (h : CgOk c) : (pad64 c.s).length = 64 := pad64_len h.le
theorem CgOk.prng {c : Cg} (h : CgOk c) : ∀ y ∈ pad64 c.s, 0 ≤ y ∧ y < 256 := by
  intro y hy
  unfold pad64 at hy
  rcases List.mem_append.1 hy with q | q
  · exact h.rng y q
  · exact zeros_rng _ y q
def wrp (n : Int) : Int := IntKind.i64.wrap n
theorem wrp_add (a b : Int) : wrp (wrp a + b) = wrp (a + b) := by unfold wrp; simp only [IntKind.wrap_i64]; omega
theorem wrp_sub (a b : Int) : wrp (wrp a - b) = wrp (a - b) := by unfold wrp; simp only [IntKind.wrap_i64]; omega
theorem wrp_id {a : Int} (h : -9223372036854775808 ≤ a ∧ a ≤ 9223372036854775807) : wrp a = a := by unfold wrp; rw [IntKind.wrap_i64]; omega
/-- a disk: what is seen and what is kept of each file, their sums, how many files there may be, the changes, the numbers -/
structure Pl where
  seen : ByteArray → List Int
  kept : ByteArray → List Int
  sum : Int
  ksum : Int
  nf : Nat
  pd : List Cg
  room : Int
  steps : Int
  crash : Int
  down : Bool
  starts : Int
def sizedF (l : List Int) (n : Nat) : List Int := if n ≤ l.length then l.take n else l ++ List.replicate (n - l.length) 0
theorem sizedF_len (l : List Int) (n : Nat) : (sizedF l n).length = n := by
  unfold sizedF
  split <;> simp <;> omega
theorem sizedF_rng {l : List Int} (h : ∀ x ∈ l, 0 ≤ x ∧ x < 256) (n : Nat) : ∀ x ∈ sizedF l n, 0 ≤ x ∧ x < 256 := by
  intro x hx
  unfold sizedF at hx
  split at hx
  · exact h x (List.mem_of_mem_take hx)
  · rcases List.mem_append.1 hx with q | q
    · exact h x q
    · have := List.eq_of_mem_replicate q
      omega
theorem sizedF_self (l : List Int) : sizedF l l.length = l := by unfold sizedF; simp
def upd (f : ByteArray → List Int) (s : ByteArray) (l : List Int) : ByteArray → List Int := fun t => if t = s then l else f t
theorem upd_same (f : ByteArray → List Int) (s : ByteArray) (l : List Int) : upd f s l s = l := by simp [upd]
theorem upd_other (f : ByteArray → List Int) {s t : ByteArray} (l : List Int) (h : t ≠ s) : upd f s l t = f t := by simp [upd, h]
theorem upd_self (f : ByteArray → List Int) (s : ByteArray) : upd f s (f s) = f := by funext t; unfold upd; split <;> simp_all
theorem upd_upd (f : ByteArray → List Int) (s : ByteArray) (l m : List Int) : upd (upd f s l) s m = upd f s m := by funext t; unfold upd; split <;> simp_all
namespace Pl
def new (r : Int) : Pl := ⟨fun _ => [], fun _ => [], 0, 0, 0, [], max 0 r, 0, 0, false, 0⟩
def setSeen (p : Pl) (s : ByteArray) (l : List Int) : Pl := { p with seen := upd p.seen s l, sum := p.sum - (p.seen s).length + l.length }
def setKept (p : Pl) (s : ByteArray) (l : List Int) : Pl := { p with kept := upd p.kept s l, ksum := p.ksum - (p.kept s).length + l.length }
def at_ (p : Pl) : Pl := { p with nf := p.nf + 1 }
def pend (p : Pl) (l : List Cg) : Pl := { p with pd := p.pd ++ l }
def wrong (p : Pl) : Int := if p.down then 7 else 0
def stepE (p : Pl) : Int := if p.crash = 1 then 7 else 0
def step (p : Pl) : Pl := { p with steps := wrp (p.steps + 1), crash := if 0 < p.crash then p.crash - 1 else p.crash, down := if p.crash = 1 then true else p.down }
def fits (p : Pl) (s : ByteArray) (n : Int) : Int :=
  if 1048576 < n then 3 else if ((p.seen s).length : Int) < n ∧ p.room < wrp (n - (p.seen s).length + p.sum) then 5 else 0
def length (p : Pl) (s : ByteArray) (n : Nat) : Pl :=
  if n = (p.seen s).length then p.at_ else (p.at_.setSeen s (sizedF (p.seen s) n)).pend [⟨s, -1, n, []⟩]
def readE (p : Pl) (at_ n : Int) : Int := if p.down then 7 else if at_ < 0 ∨ n < 0 then 2 else 0
def read (p : Pl) (s : ByteArray) (at_ n : Int) : List Int := if p.readE at_ n = 0 then ((p.seen s).drop at_.toNat).take n.toNat else []
/-- bytes put at a place -/
def put (l : List Int) (a : Nat) (d : List Int) : List Int := l.take a ++ d ++ l.drop (a + d.length)
def sectors (s : ByteArray) (l : List Int) (a e : Nat) : List Cg := (List.range' (a / 64) ((e + 63) / 64 - a / 64)).map fun (k : Nat) => ⟨s, (k : Int), 0, sizedF (l.drop (k * 64)) 64⟩
def writeE (p : Pl) (s : ByteArray) (a : Int) (d : List Int) : Int :=
  if p.down then 7 else if a < 0 then 2 else if 1048576 < a ∨ 1048576 - a < d.length then 3 else if d = [] then p.stepE else
    if p.fits s (max (a + d.length) (p.seen s).length) ≠ 0 then p.fits s (max (a + d.length) (p.seen s).length) else p.stepE
/-- the data written, behind all questions -/
def write1 (p : Pl) (s : ByteArray) (a : Nat) (d : List Int) : Pl :=
  let p1 := if (p.seen s).length < a + d.length then p.length s (a + d.length) else p
  let l := put (p1.seen s) a d
  ((p1.at_.setSeen s l).pend (sectors s l a (a + d.length))).step
def write (p : Pl) (s : ByteArray) (a : Int) (d : List Int) : Pl :=
  if p.down ∨ a < 0 ∨ 1048576 < a ∨ 1048576 - a < d.length then p else if d = [] then p.step else
    if p.fits s (max (a + d.length) (p.seen s).length) ≠ 0 then p else p.write1 s a.toNat d
def truncE (p : Pl) (s : ByteArray) (n : Int) : Int :=
  if p.down then 7 else if n < 0 then 2 else if p.fits s n ≠ 0 then p.fits s n else p.stepE
def trunc (p : Pl) (s : ByteArray) (n : Int) : Pl :=
  if p.down ∨ n < 0 ∨ p.fits s n ≠ 0 then p else (p.length s n.toNat).step
def syncE (p : Pl) : Int := if p.down then 7 else p.stepE
def sync (p : Pl) (s : ByteArray) : Pl :=
  if p.down then p else if p.stepE ≠ 0 then p.step else { p.step.at_.setKept s (p.seen s) with pd := p.pd.filter fun c => !decide (c.nm = s) }
def len (p : Pl) (s : ByteArray) : Nat := if p.down then 0 else (p.seen s).length
def setRoom (p : Pl) (r : Int) : Pl := { p with room := max 0 r }
def crashIn (p : Pl) (n : Int) : Pl := { p with crash := max 0 n }
def crashNow (p : Pl) : Pl := { p with down := true }
/-- what a choice makes of what is kept, by a change -/
def made (l : List Int) (c : Cg) (ch : Int) : List Int :=
  if ch ≤ 0 then l else if c.sec < 0 then sizedF l c.n.toNat else
    put l (c.sec.toNat * 64) ((c.s.take (if 1 < ch then (1 + (ch - 2) % 63).toNat else 64)).take (l.length - c.sec.toNat * 64))
def survive (p : Pl) : List Cg → List Int → Pl
  | c :: cs, ch :: r => survive (p.at_.setKept c.nm (made (p.kept c.nm) c ch)) cs r
  | _, _ => p
def restartE (p : Pl) : Int := if p.down then 0 else 4
def restart (p : Pl) (chs : List Int) : Pl :=
  if p.down then
    let q := p.survive p.pd chs
    { q with seen := q.kept, sum := q.ksum, pd := [], steps := 0, crash := 0, down := false, starts := wrp (p.starts + 1) }
  else p
end Pl
end Go.Proofs.Ytdgjglocgdccbaa
