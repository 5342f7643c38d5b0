/- The stand-in disk in memory; no condition. -/
import Derived.Test.YtdgjglocgdccbaaDkPl
import Derived.Test.YtdgjglocgdccbaaDkZ
import Derived.Test.YtdgjglocgdccbaaBy
namespace Go.Proofs.Ytdgjglocgdccbaa
open Go.RowKit

/-- a disk: its blocks, its files, its changes, its numbers -/
structure Dd where
  db : Nat
  mb : Nat
  mn : Nat
  pv : Value
  fs : List Fe
  pd : List Cg
  room : Int
  steps : Int
  crash : Int
  down : Bool
  starts : Int
def cgCells (pd : List Cg) : List Value := pd.flatMap fun c => .string c.nm :: .int .i64 c.sec :: .int .i64 c.n :: (pad64 c.s).map (Value.int .u8)
theorem cgCells_len (pd : List Cg) (h : ∀ c ∈ pd, CgOk c) : (cgCells pd).length = pd.length * 67 := by
  unfold cgCells
  induction pd with
  | nil => rfl
  | cons c pd ih =>
    have := (h c (List.mem_cons_self ..)).pad
    rw [List.flatMap_cons, List.length_append, ih fun x hx => h x (List.mem_cons_of_mem _ hx)]
    simp [this]; omega
theorem cgCells_snoc (pd : List Cg) (c : Cg) : cgCells (pd ++ [c]) = cgCells pd ++ (.string c.nm :: .int .i64 c.sec :: .int .i64 c.n :: (pad64 c.s).map (Value.int .u8)) := by
  unfold cgCells
  rw [List.flatMap_append]
  simp
/-- a list of bytes lies at a slice of the disk's own -/
structure Bq (w : World) (n0 : Nat) (v : Value) (l : List Int) : Prop where
  own : w.ownsRow n0 5 1 v l.length (l.map (Value.int .u8))
  rng : ∀ x ∈ l, 0 ≤ x ∧ x < 256
theorem Bq.none (w : World) (n0 : Nat) : Bq w n0 (.slice none 0 0) [] := ⟨World.ownsRow_nil _ _ _ _, by simp⟩
theorem Bq.form {w : World} {n0 : Nat} {v : Value} {l : List Int} (h : Bq w n0 v l) : ∃ A cap, v = .slice A l.length cap := own_slice h.own
theorem own_type {w : World} {base : Nat} {e : TypeId} {size n : Nat} {v : Value} {xs : List Value} (h : w.ownsRow base e size v n xs) {g : Nat} (hg : v.ownBlock = some g) : ∃ cs, w.heap[g]? = some (.cells cs e (0, 0)) := by
  rcases h.2 with ⟨rfl, _⟩ | ⟨g1, cap1, cur1, rfl, _, h1, _⟩
  · cases hg
  · simp only [Value.ownBlock, Option.some.injEq] at hg
    subst hg
    exact ⟨_, h1⟩
theorem Bq.keep {w w' : World} {n0 : Nat} {v : Value} {l : List Int} {S : Nat → Prop} (h : Bq w n0 v l) (k : Kp S w w') (hS : ∀ g cs, w.heap[g]? = some (.cells cs 5 (0, 0)) → ¬ S g) : Bq w' n0 v l :=
  ⟨own_keepB h.own k (fun g hg => by obtain ⟨cs, hc⟩ := own_type h.own hg; exact hS g cs hc), h.rng⟩
/-- a file's block -/
structure FeOk (w : World) (n0 : Nat) (e : Fe) : Prop where
  blk : ∃ u v, Blk w e.fb 75 #[u, v] ∧ Bq w n0 u e.seen ∧ Bq w n0 v e.kept
  ls : e.seen.length ≤ 1048576
  lk : e.kept.length ≤ 1048576
def diskCells (x : Dd) : Array Value := #[.map (some x.mb), x.pv, .int .i64 x.room, .int .i64 x.steps, .int .i64 x.crash, .bool x.down, .int .i64 x.starts]
/-- the blocks that the disk writes -/
def Dd.O (x : Dd) : Nat → Prop := fun b => b = x.db ∨ b = x.mb ∨ x.pv.ownBlock = some b ∨ ∃ e ∈ x.fs, b = e.fb
structure Dk (n0 : Nat) (w : World) (x : Dd) : Prop where
  blk : Blk w x.db 64 (diskCells x)
  mp : ∃ D, w.ownsMap Try.prog 9 Rp x.mb x.mn D ∧ MpD D x.fs
  names : Names x.fs
  fbs : x.fs.Pairwise fun a b => a.fb ≠ b.fb
  fls : ∀ e ∈ x.fs, FeOk w n0 e
  pend : w.ownsRow n0 79 67 x.pv x.pd.length (cgCells x.pd)
  b0 : n0 ≤ x.db
  b1 : n0 ≤ x.mb
  b2 : ∀ e ∈ x.fs, n0 ≤ e.fb
  s64 : ∀ c ∈ x.pd, CgOk c
  r0 : 0 ≤ x.room ∧ x.room ≤ 9223372036854775807
  c0 : 0 ≤ x.crash ∧ x.crash ≤ 9223372036854775807
theorem Dk.lt {n0 : Nat} {w : World} {x : Dd} (h : Dk n0 w x) : ∀ b, x.O b → b < w.heap.size := by
  rintro b (rfl | rfl | hb | ⟨e, he, rfl⟩)
  · exact h.blk.lt
  · obtain ⟨D, hD, _⟩ := h.mp; exact hD.lt
  · exact (h.pend.lt b hb).2
  · obtain ⟨u, v, hb, _⟩ := (h.fls e he).blk; exact hb.lt
theorem Dk.ge {n0 : Nat} {w : World} {x : Dd} (h : Dk n0 w x) : ∀ b, x.O b → n0 ≤ b := by
  rintro b (rfl | rfl | hb | ⟨e, he, rfl⟩)
  · exact h.b0
  · exact h.b1
  · exact (h.pend.lt b hb).1
  · exact h.b2 e he
theorem blk_ne {w : World} {g g' : Nat} {t t' : TypeId} {cs cs' : Array Value} (h : Blk w g t cs) (h' : w.heap[g']? = some (.cells cs' t' (0, 0))) (hne : t ≠ t') : g ≠ g' := by
  rintro rfl
  unfold Blk at h
  rw [h] at h'
  simp only [Option.some.injEq, Obj.cells.injEq] at h'
  exact hne h'.2.1
theorem Dk.bytes {n0 : Nat} {w : World} {x : Dd} (h : Dk n0 w x) {g : Nat} {cs : Array Value} (hg : w.heap[g]? = some (.cells cs 5 (0, 0))) : ¬ x.O g := by
  rintro (rfl | rfl | hb | ⟨e, he, rfl⟩)
  · exact blk_ne h.blk hg (by decide) rfl
  · obtain ⟨D, ⟨es, cl, hb, _⟩, _⟩ := h.mp
    rw [hb] at hg; cases hg
  · obtain ⟨cs', hc⟩ := own_type h.pend hb
    rw [hc] at hg
    simp only [Option.some.injEq, Obj.cells.injEq] at hg
    exact absurd hg.2.1 (by decide)
  · obtain ⟨u, v, hb, _⟩ := (h.fls e he).blk
    exact blk_ne hb hg (by decide) rfl
theorem Kp.map {S : Nat → Prop} {w w' : World} (k : Kp S w w') {P : Program} {kt : TypeId} {R : Value → Option (DataW Value × List MemPlace)} {b n : Nat} {D : DataW Value} (h : w.ownsMap P kt R b n D) (hn : ¬ S b) : w'.ownsMap P kt R b n D := by
  obtain ⟨es, cl, hb, F, hs, hD⟩ := h
  exact ⟨es, cl, k.lift hb hn, F, hs, hD⟩
theorem FeOk.keep {w w' : World} {n0 : Nat} {e : Fe} {S : Nat → Prop} (h : FeOk w n0 e) (k : Kp S w w') (hn : ¬ S e.fb) (hS : ∀ g cs, w.heap[g]? = some (.cells cs 5 (0, 0)) → ¬ S g) : FeOk w' n0 e := by
  obtain ⟨u, v, hb, hu, hv⟩ := h.blk
  exact ⟨⟨u, v, hb.keep k hn, hu.keep k hS, hv.keep k hS⟩, h.ls, h.lk⟩
/-- the disk stays while other blocks are written and new ones are made -/
theorem Dk.keep {n0 : Nat} {w w' : World} {x : Dd} {S : Nat → Prop} (h : Dk n0 w x) (k : Kp S w w') (hO : ∀ b, x.O b → ¬ S b) (hS : ∀ g cs, w.heap[g]? = some (.cells cs 5 (0, 0)) → ¬ S g) : Dk n0 w' x := by
  obtain ⟨D, hD, hM⟩ := h.mp
  exact { h with
    blk := h.blk.keep k (hO _ (.inl rfl))
    mp := ⟨D, k.map hD (hO _ (.inr (.inl rfl))), hM⟩
    fls := fun e he => (h.fls e he).keep k (hO _ (.inr (.inr (.inr ⟨e, he, rfl⟩)))) hS
    pend := own_keepB h.pend k (fun g hg => hO _ (.inr (.inr (.inl hg)))) }
def seenOf (fs : List Fe) (s : ByteArray) : List Int := match findF fs (kOf s) with | some e => e.seen | none => []
def allKept (fs : List Fe) : Nat := (fs.map (·.kept.length)).sum
def keptOf (fs : List Fe) (s : ByteArray) : List Int := match findF fs (kOf s) with | some e => e.kept | none => []
/-- the plain state of a disk in memory -/
structure Of (x : Dd) (p : Pl) : Prop where
  seen : p.seen = seenOf x.fs
  kept : p.kept = keptOf x.fs
  sum : p.sum = allSum x.fs
  ksum : p.ksum = allKept x.fs
  nf : x.mn ≤ p.nf
  pd : p.pd = x.pd
  room : p.room = x.room
  steps : p.steps = x.steps
  crash : p.crash = x.crash
  down : p.down = x.down
  starts : p.starts = x.starts
theorem keyS (s : ByteArray) (hs : s.size ≤ maxLen) : keyOf Try.prog 9 (.string s) = some (.string (kOf s)) := WideMaps.keyOf_string_mk Try.underlying9 hs
theorem keyed : Maps.Keyed Try.prog 9 := Maps.string_keyed Try.underlying9
/-- the look-up of a name -/
theorem Dk.look {n0 : Nat} {w : World} {x : Dd} (h : Dk n0 w x) (s : ByteArray) (hs : s.size ≤ maxLen) :
    (Instr.lookup 61 (.map (some x.mb)) (.string s) false).run Try.prog w = .ok (foundV x.fs (kOf s)) w := by
  obtain ⟨D, hD, hM⟩ := h.mp
  have hz : (zeroValue 69).run Try.prog w = .ok (.pointer none) w := by kernel_rfl
  obtain ⟨v, ps, hrun, hv⟩ := hD.lookup keyed Try.underlying61 hz (zd := .held (.pointer none)) (zp := []) rfl (keyS s hs)
  obtain ⟨p, rfl, hy⟩ := Rp_inv hv
  rw [hM.at_] at hy
  simp only [Prod.mk.injEq] at hy
  rw [hrun]
  unfold foundV
  cases hf : findF x.fs (kOf s) with
  | none => rw [hf] at hy; simp at hy; simp [hy]
  | some e => rw [hf] at hy; simp [ptrV] at hy; simp [ptrV, ← hy.1]
end Go.Proofs.Ytdgjglocgdccbaa
