/- Texts of this proof, one behind the other: lemmas and contracts; each says its own conditions. -/
import Derived.Test.YtegcbdfilkecpaaM1
import Derived.Laws.AppendOwnNone
import Derived.Lib.AppendZeros
import Derived.Lib.AppendZerosOnto
import Derived.Deep.AppendLies
/- What is appended lies behind a slice, nil or not; no condition. -/
namespace Go.Proofs.Ytegcbdfilkecpaa
open Go.RowKit

theorem wpList_append_src {P : Program} {w : World} {ops : Array Oper} {rest : List Oper} {o : Oper} {a : Act} {Q : Exit → Act → World → Prop} (hgd : o.guard = none) (s x : Operand) (t : TypeId)
    (ho : o.op = .call { callee := .builtin .append, args := #[s, x], argTypes := #[t, t] })
    (base : Nat) (e : TypeId) (i : TypeInfo) (z : Value) (bytes : Nat) (ht : P.underlying t = some (.slice e)) (hi : P.info? e = some i) (hz : i.zero = some z)
    (hsize : i.size = 1) (hby : i.bytes = bytes) (hzs : z.cells.size = 1)
    (v : Value) (n : Nat) (xs : List Value) (hs : a.eval s = v) (hown : w.ownsRow base e 1 v n xs)
    (A : Option Addr) (m c : Nat) (news : List Value) (hx : a.eval x = .slice A m c) (hA : A = none → m = 0 ∧ c = 0) (hl : news.length = m)
    (hnews : 0 < m → ∃ g o, A = some ⟨g, o, none⟩ ∧ ∀ j u, news[j]? = some u → w.cell? ⟨g, o + j, none⟩ = some u) (h1 : ∀ u ∈ news, u.oneCell' = true)
    (h63 : n + m ≤ maxLen) (hbytes : (n + m) * bytes ≤ 140737488355328) (hbase : base ≤ w.heap.size)
    (h : ∀ v' w', w'.ownsRow base e 1 v' (n + m) (xs ++ news) → w.grownBy w' v.ownBlock → wpList P ops Q rest (a.put o.dst v') w') : wpList P ops Q (o :: rest) a w := by
  rcases A with _ | ad
  · obtain ⟨rfl, rfl⟩ := hA rfl
    obtain rfl : news = [] := List.eq_nil_of_length_eq_zero hl
    refine wpList_append_own_none hgd s x t ho base e i 1 ht hi v n xs hs hown hx (h v w ?_ ?_)
    · simpa using hown
    · exact ⟨rfl, rfl, rfl, Nat.le_refl _, fun _ _ _ => rfl⟩
  · refine wpList_append_own w hgd s x t ho base e i z 1 bytes ht hi hz hsize hby hzs (by omega) v n xs hs hown ad m c news hx (by omega) ?_ h1 h63 hbytes hbase (fun v' w' q1 q2 _ => h v' w' q1 q2)
    intro j u hj
    have hm : 0 < m := by
      have := (List.getElem?_eq_some_iff.1 hj).1
      omega
    obtain ⟨g, o', e', hc⟩ := hnews hm
    injection e' with e'
    subst e'
    rw [add_mk]
    exact hc j u hj
/-- the same for elements of more cells -/
theorem wpList_append_srcN {P : Program} {w : World} {ops : Array Oper} {rest : List Oper} {o : Oper} {a : Act} {Q : Exit → Act → World → Prop} (hgd : o.guard = none) (s x : Operand) (t : TypeId)
    (ho : o.op = .call { callee := .builtin .append, args := #[s, x], argTypes := #[t, t] })
    (base : Nat) (e : TypeId) (i : TypeInfo) (z : Value) (size bytes : Nat) (ht : P.underlying t = some (.slice e)) (hi : P.info? e = some i) (hz : i.zero = some z)
    (hsize : i.size = size) (hby : i.bytes = bytes) (hzs : z.cells.size = size) (hsz : 0 < size)
    (v : Value) (n : Nat) (xs : List Value) (hs : a.eval s = v) (hown : w.ownsRow base e size v n xs)
    (A : Option Addr) (m c : Nat) (news : List Value) (hx : a.eval x = .slice A m c) (hA : A = none → m = 0 ∧ c = 0) (hl : news.length = m * size)
    (hnews : 0 < m → ∃ g o, A = some ⟨g, o, none⟩ ∧ ∀ j u, news[j]? = some u → w.cell? ⟨g, o + j, none⟩ = some u) (h1 : ∀ u ∈ news, u.oneCell' = true)
    (h63 : n + m ≤ maxLen) (hbytes : (n + m) * bytes ≤ 140737488355328) (hbase : base ≤ w.heap.size)
    (h : ∀ v' w', w'.ownsRow base e size v' (n + m) (xs ++ news) → w.grownBy w' v.ownBlock → wpList P ops Q rest (a.put o.dst v') w') : wpList P ops Q (o :: rest) a w := by
  rcases A with _ | ad
  · obtain ⟨rfl, rfl⟩ := hA rfl
    obtain rfl : news = [] := List.eq_nil_of_length_eq_zero (by omega)
    refine wpList_append_own_none hgd s x t ho base e i size ht hi v n xs hs hown hx (h v w ?_ ?_)
    · simpa using hown
    · exact ⟨rfl, rfl, rfl, Nat.le_refl _, fun _ _ _ => rfl⟩
  · refine wpList_append_own w hgd s x t ho base e i z size bytes ht hi hz hsize hby hzs hsz v n xs hs hown ad m c news hx hl ?_ h1 h63 hbytes hbase (fun v' w' q1 q2 _ => h v' w' q1 q2)
    intro j u hj
    have hm : 0 < m := by
      rcases Nat.eq_zero_or_pos m with q | q
      · rw [q] at hl
        have := (List.getElem?_eq_some_iff.1 hj).1
        omega
      · exact q
    obtain ⟨g, o', e', hc⟩ := hnews hm
    injection e' with e'
    subst e'
    rw [add_mk]
    exact hc j u hj
end Go.Proofs.Ytegcbdfilkecpaa
/- Appending to a slice of the call's own: so many noughts; where the slice lies behind it; no condition. -/
namespace Go.Proofs.Ytegcbdfilkecpaa
open Go.RowKit

section
variable {P : Program}
theorem zeroCells_one (u : Value) (z : Array Value) (hz : z = #[u]) (n : Nat) : Builtin.zeroCells z n = (List.replicate n u).toArray := by
  subst hz
  unfold Builtin.zeroCells
  apply Array.ext
  · simp
  · intro i h1 h2
    simp [Nat.mod_one]
theorem append_zeros_own (w : World) (base : Nat) (t tn ty e : TypeId) (i : TypeInfo) (z u : Value) (kq kn : IntKind) (ht : P.underlying t = some (.slice e)) (htn : P.underlying tn = some (.int kn)) (hi : P.info? e = some i) (hz : i.zero = some z)
    (hsize : i.size = 1) (hby : i.bytes = 1) (hzs : z.cells = #[u]) (hu : u.oneCell' = true)
    (v : Value) (n : Nat) (xs : List Value) (hown : w.ownsRow base e 1 v n xs) (k : Nat) (hk : 0 < k) (hb : n + k ≤ 1099511627776) (hbase : base ≤ w.heap.size) :
    ∃ v' w', (Builtin.append_ #[t, tn] ty #[v, .int kq k]).run P w = .ok v' w' ∧ w'.ownsRow base e 1 v' (n + k) (xs ++ List.replicate k u) ∧ w.grownBy w' v.ownBlock ∧ (∀ b, v'.ownBlock = some b → v.ownBlock = some b ∨ w.heap.size ≤ b) := by
  have hxl : xs.length = n := by have := hown.1; omega
  have grown : ∀ (old : Nat) (row : Option Nat),
      (w.drew.alloc (.cells (xs.toArray ++ Builtin.zeroCells z.cells k ++ Builtin.zeroCells z.cells (grownCap w (n + k) old e - (n + k))) e)).ownsRow base e 1
        (.slice (some ⟨w.heap.size, 0, none⟩) (n + k) (grownCap w (n + k) old e)) (n + k) (xs ++ List.replicate k u) ∧
      w.grownBy (w.drew.alloc (.cells (xs.toArray ++ Builtin.zeroCells z.cells k ++ Builtin.zeroCells z.cells (grownCap w (n + k) old e - (n + k))) e)) row := by
    intro old row
    have hge := grownCap_ge w (n + k) old e
    have hcm : grownCap w (n + k) old e ≤ maxLen := grownCap_le_maxLen w (n + k) old e (by unfold maxLen; omega)
    rw [zeroCells_one u _ hzs, zeroCells_one u _ hzs]
    refine ⟨⟨by simp [hxl], .inr ⟨w.heap.size, _, _, rfl, hbase, heap_alloc_new w.drew _, hge, hcm, ?_, ?_⟩⟩, ⟨rfl, rfl, rfl, by simp, fun j hj _ => by first | exact Go.heap_alloc_old w.drew _ hj | exact Go.heap_alloc_old w.drew _ _ hj⟩⟩
    · simp [hxl]; omega
    · simp only [Array.toList_append, Nat.mul_one]
      exact List.take_left' (by simp [hxl])
  rcases hown.2 with ⟨rfl, rfl⟩ | ⟨g, cap, cur, rfl, hbg, hg, hnc, hcm, hcs, htake⟩
  · have hx : xs = [] := List.eq_nil_of_length_eq_zero hxl
    subst hx
    have hr := Lib.run_append_nil_zeros (P := P) w t tn ty e i z kq kn ht htn hi hz k hk (by omega) (by omega) (by rw [hby]; omega)
    have hgr := grown 0 (Value.ownBlock (.slice none 0 0))
    simp only [Nat.zero_add, List.nil_append, Array.empty_append] at hgr ⊢
    exact ⟨_, _, hr, hgr.1, hgr.2, fun b hb => .inr (by simp [Value.ownBlock] at hb; omega)⟩
  · by_cases hroom : n + k ≤ cap
    · have hfit : n * 1 + (List.replicate k u).length ≤ cur.size := by simp; omega
      have hw : IntKind.i64.wrap (k : Int) = k := by rw [IntKind.wrap_i64]; omega
      have hst := run_storeCells_at P g n e (List.replicate k u) 0 cur w hg (by simpa using hfit) (by intro v hv; rw [List.eq_of_mem_replicate hv]; exact hu)
      have hr : (Builtin.append_ #[t, tn] ty #[.slice (some ⟨g, 0, none⟩) n cap, .int kq k]).run P w = .ok (.slice (some ⟨g, 0, none⟩) (n + k) cap) (w.setRow g (cur.toList.take n ++ List.replicate k u ++ cur.toList.drop (n + k)).toArray) := by
        have hk0 : k ≠ 0 := by omega
        have h0 : ¬ ((k : Int) < 0) := by omega
        have hk48 : ¬ (281474976710656 < (k : Int)) := by omega
        simp only [Nat.add_zero, List.length_replicate] at hst
        simp [Builtin.append_, run_underlying ht, run_underlying htn, sizeOf, typeInfo, zeroValue, hi, hz, hsize, hby, hw, h0, hk0, hk48, hroom, asInt, asIntOf, zeroCells_one u _ hzs, Addr.add_lit, hst]
      refine ⟨_, _, hr, ⟨by simp [hxl], .inr ⟨g, cap, _, rfl, hbg, setRow_heap w g cur _ e _ hg, hroom, hcm, ?_, ?_⟩⟩, ⟨rfl, rfl, rfl, by simp, fun k _ hk => setRow_other w g k _ (fun e => hk (by simp [Value.ownBlock, e]))⟩, fun b hb => .inl hb⟩
      · simp; omega
      · rw [Nat.mul_one] at htake ⊢
        simp only [htake]
        exact List.take_left' (by simp [hxl])
    · have hold : (Builtin.firstCells i.size n (.slice (some ⟨g, 0, none⟩) n cap)).run P w.drew = .ok xs.toArray w.drew :=
        run_firstCells_some (P := P) w.drew i.size n ⟨g, 0, none⟩ n cap xs (by rw [hsize]; omega) (fun j u' hu' => (hown.cells (g := g) rfl) j u' hu')
      have hr := Lib.run_append_grow_zeros (P := P) w t tn ty e i z kq kn ht htn hi hz (some ⟨g, 0, none⟩) n cap xs hold k hk (by omega) (by omega) (by omega) (by rw [hby]; omega) (by
        rw [hby]
        exact growslice_fits (need := n + k) (bytes := 1) (by omega) (by omega))
      have hgr := grown cap (Value.ownBlock (.slice (some ⟨g, 0, none⟩) n cap))
      exact ⟨_, _, hr, hgr.1, hgr.2, fun b hb => .inr (by simp [Value.ownBlock] at hb; omega)⟩
end
end Go.Proofs.Ytegcbdfilkecpaa
/- The stand-in disk in memory; no condition. -/
namespace Go.Proofs.Ytegcbdfilkecpaa
open Go.RowKit

/-- a disk: its blocks, its files, its changes, its numbers -/
structure Dd where
  db : Nat
  mb : Nat
  mn : Nat
  pv : Value
  fs : List Fe
  pd : List Cg
  room : Int
  steps : Int
  crash : Int
  down : Bool
  starts : Int
def cgCells (pd : List Cg) : List Value := pd.flatMap fun c => .string c.nm :: .int .i64 c.sec :: .int .i64 c.n :: (pad64 c.s).map (Value.int .u8)
theorem cgCells_len (pd : List Cg) (h : ∀ c ∈ pd, CgOk c) : (cgCells pd).length = pd.length * 67 := by
  unfold cgCells
  induction pd with
  | nil => rfl
  | cons c pd ih =>
    have := (h c (List.mem_cons_self ..)).pad
    rw [List.flatMap_cons, List.length_append, ih fun x hx => h x (List.mem_cons_of_mem _ hx)]
    simp [this]; omega
theorem cgCells_snoc (pd : List Cg) (c : Cg) : cgCells (pd ++ [c]) = cgCells pd ++ (.string c.nm :: .int .i64 c.sec :: .int .i64 c.n :: (pad64 c.s).map (Value.int .u8)) := by
  unfold cgCells
  rw [List.flatMap_append]
  simp
/-- a list of bytes lies at a slice of the disk's own -/
structure Bq (w : World) (n0 : Nat) (v : Value) (l : List Int) : Prop where
  own : w.ownsRow n0 5 1 v l.length (l.map (Value.int .u8))
  rng : ∀ x ∈ l, 0 ≤ x ∧ x < 256
theorem Bq.none (w : World) (n0 : Nat) : Bq w n0 (.slice none 0 0) [] := ⟨World.ownsRow_nil _ _ _ _, by simp⟩
theorem Bq.form {w : World} {n0 : Nat} {v : Value} {l : List Int} (h : Bq w n0 v l) : ∃ A cap, v = .slice A l.length cap := own_slice h.own
theorem own_type {w : World} {base : Nat} {e : TypeId} {size n : Nat} {v : Value} {xs : List Value} (h : w.ownsRow base e size v n xs) {g : Nat} (hg : v.ownBlock = some g) : ∃ cs, w.heap[g]? = some (.cells cs e (0, 0)) := by
  rcases h.2 with ⟨rfl, _⟩ | ⟨g1, cap1, cur1, rfl, _, h1, _⟩
  · cases hg
  · simp only [Value.ownBlock, Option.some.injEq] at hg
    subst hg
    exact ⟨_, h1⟩
theorem Bq.keep {w w' : World} {n0 : Nat} {v : Value} {l : List Int} {S : Nat → Prop} (h : Bq w n0 v l) (k : Kp S w w') (hS : ∀ g cs, w.heap[g]? = some (.cells cs 5 (0, 0)) → ¬ S g) : Bq w' n0 v l :=
  ⟨own_keepB h.own k (fun g hg => by obtain ⟨cs, hc⟩ := own_type h.own hg; exact hS g cs hc), h.rng⟩
/-- a file's block -/
structure FeOk (w : World) (n0 : Nat) (e : Fe) : Prop where
  blk : ∃ u v, Blk w e.fb 143 #[u, v] ∧ Bq w n0 u e.seen ∧ Bq w n0 v e.kept
  ls : e.seen.length ≤ 1048576
  lk : e.kept.length ≤ 1048576
def diskCells (x : Dd) : Array Value := #[.map (some x.mb), x.pv, .int .i64 x.room, .int .i64 x.steps, .int .i64 x.crash, .bool x.down, .int .i64 x.starts]
/-- the blocks that the disk writes -/
def Dd.O (x : Dd) : Nat → Prop := fun b => b = x.db ∨ b = x.mb ∨ x.pv.ownBlock = some b ∨ ∃ e ∈ x.fs, b = e.fb
structure Dk (n0 : Nat) (w : World) (x : Dd) : Prop where
  blk : Blk w x.db 121 (diskCells x)
  mp : ∃ D, w.ownsMap Try.prog 9 Rp x.mb x.mn D ∧ MpD D x.fs
  names : Names x.fs
  fbs : x.fs.Pairwise fun a b => a.fb ≠ b.fb
  fls : ∀ e ∈ x.fs, FeOk w n0 e
  pend : w.ownsRow n0 148 67 x.pv x.pd.length (cgCells x.pd)
  b0 : n0 ≤ x.db
  b1 : n0 ≤ x.mb
  b2 : ∀ e ∈ x.fs, n0 ≤ e.fb
  s64 : ∀ c ∈ x.pd, CgOk c
  r0 : 0 ≤ x.room ∧ x.room ≤ 9223372036854775807
  c0 : 0 ≤ x.crash ∧ x.crash ≤ 9223372036854775807
theorem Dk.lt {n0 : Nat} {w : World} {x : Dd} (h : Dk n0 w x) : ∀ b, x.O b → b < w.heap.size := by
  rintro b (rfl | rfl | hb | ⟨e, he, rfl⟩)
  · exact h.blk.lt
  · obtain ⟨D, hD, _⟩ := h.mp; exact hD.lt
  · exact (h.pend.lt b hb).2
  · obtain ⟨u, v, hb, _⟩ := (h.fls e he).blk; exact hb.lt
theorem Dk.ge {n0 : Nat} {w : World} {x : Dd} (h : Dk n0 w x) : ∀ b, x.O b → n0 ≤ b := by
  rintro b (rfl | rfl | hb | ⟨e, he, rfl⟩)
  · exact h.b0
  · exact h.b1
  · exact (h.pend.lt b hb).1
  · exact h.b2 e he
theorem blk_ne {w : World} {g g' : Nat} {t t' : TypeId} {cs cs' : Array Value} (h : Blk w g t cs) (h' : w.heap[g']? = some (.cells cs' t' (0, 0))) (hne : t ≠ t') : g ≠ g' := by
  rintro rfl
  unfold Blk at h
  rw [h] at h'
  simp only [Option.some.injEq, Obj.cells.injEq] at h'
  exact hne h'.2.1
theorem Dk.bytes {n0 : Nat} {w : World} {x : Dd} (h : Dk n0 w x) {g : Nat} {cs : Array Value} (hg : w.heap[g]? = some (.cells cs 5 (0, 0))) : ¬ x.O g := by
  rintro (rfl | rfl | hb | ⟨e, he, rfl⟩)
  · exact blk_ne h.blk hg (by decide) rfl
  · obtain ⟨D, ⟨es, cl, hb, _⟩, _⟩ := h.mp
    rw [hb] at hg; cases hg
  · obtain ⟨cs', hc⟩ := own_type h.pend hb
    rw [hc] at hg
    simp only [Option.some.injEq, Obj.cells.injEq] at hg
    exact absurd hg.2.1 (by decide)
  · obtain ⟨u, v, hb, _⟩ := (h.fls e he).blk
    exact blk_ne hb hg (by decide) rfl
theorem Kp.map {S : Nat → Prop} {w w' : World} (k : Kp S w w') {P : Program} {kt : TypeId} {R : Value → Option (DataW Value × List MemPlace)} {b n : Nat} {D : DataW Value} (h : w.ownsMap P kt R b n D) (hn : ¬ S b) : w'.ownsMap P kt R b n D := by
  obtain ⟨es, cl, hb, F, hs, hD⟩ := h
  exact ⟨es, cl, k.lift hb hn, F, hs, hD⟩
theorem FeOk.keep {w w' : World} {n0 : Nat} {e : Fe} {S : Nat → Prop} (h : FeOk w n0 e) (k : Kp S w w') (hn : ¬ S e.fb) (hS : ∀ g cs, w.heap[g]? = some (.cells cs 5 (0, 0)) → ¬ S g) : FeOk w' n0 e := by
  obtain ⟨u, v, hb, hu, hv⟩ := h.blk
  exact ⟨⟨u, v, hb.keep k hn, hu.keep k hS, hv.keep k hS⟩, h.ls, h.lk⟩
/-- the disk stays while other blocks are written and new ones are made -/
theorem Dk.keep {n0 : Nat} {w w' : World} {x : Dd} {S : Nat → Prop} (h : Dk n0 w x) (k : Kp S w w') (hO : ∀ b, x.O b → ¬ S b) (hS : ∀ g cs, w.heap[g]? = some (.cells cs 5 (0, 0)) → ¬ S g) : Dk n0 w' x := by
  obtain ⟨D, hD, hM⟩ := h.mp
  exact { h with
    blk := h.blk.keep k (hO _ (.inl rfl))
    mp := ⟨D, k.map hD (hO _ (.inr (.inl rfl))), hM⟩
    fls := fun e he => (h.fls e he).keep k (hO _ (.inr (.inr (.inr ⟨e, he, rfl⟩)))) hS
    pend := own_keepB h.pend k (fun g hg => hO _ (.inr (.inr (.inl hg)))) }
def seenOf (fs : List Fe) (s : ByteArray) : List Int := match findF fs (kOf s) with | some e => e.seen | none => []
def allKept (fs : List Fe) : Nat := (fs.map (·.kept.length)).sum
def keptOf (fs : List Fe) (s : ByteArray) : List Int := match findF fs (kOf s) with | some e => e.kept | none => []
/-- the plain state of a disk in memory -/
structure Of (x : Dd) (p : Pl) : Prop where
  seen : p.seen = seenOf x.fs
  kept : p.kept = keptOf x.fs
  sum : p.sum = allSum x.fs
  ksum : p.ksum = allKept x.fs
  nf : x.mn ≤ p.nf
  pd : p.pd = x.pd
  room : p.room = x.room
  steps : p.steps = x.steps
  crash : p.crash = x.crash
  down : p.down = x.down
  starts : p.starts = x.starts
theorem keyS (s : ByteArray) (hs : s.size ≤ maxLen) : keyOf Try.prog 9 (.string s) = some (.string (kOf s)) := WideMaps.keyOf_string_mk Try.underlying9 hs
theorem keyed : Maps.Keyed Try.prog 9 := Maps.string_keyed Try.underlying9
/-- the look-up of a name -/
theorem Dk.look {n0 : Nat} {w : World} {x : Dd} (h : Dk n0 w x) (s : ByteArray) (hs : s.size ≤ maxLen) :
    (Instr.lookup 118 (.map (some x.mb)) (.string s) false).run Try.prog w = .ok (foundV x.fs (kOf s)) w := by
  obtain ⟨D, hD, hM⟩ := h.mp
  have hz : (zeroValue 139).run Try.prog w = .ok (.pointer none) w := by kernel_rfl
  obtain ⟨v, ps, hrun, hv⟩ := hD.lookup keyed Try.underlying118 hz (zd := .held (.pointer none)) (zp := []) rfl (keyS s hs)
  obtain ⟨p, rfl, hy⟩ := Rp_inv hv
  rw [hM.at_] at hy
  simp only [Prod.mk.injEq] at hy
  rw [hrun]
  unfold foundV
  cases hf : findF x.fs (kOf s) with
  | none => rw [hf] at hy; simp at hy; simp [hy]
  | some e => rw [hf] at hy; simp [ptrV] at hy; simp [ptrV, ← hy.1]
end Go.Proofs.Ytegcbdfilkecpaa
/- The stand-in disk: New, is, wrong, bytes, at; no condition but on the name's length. -/
namespace Go.Proofs.Ytegcbdfilkecpaa
open Go.RowKit

theorem mapNe (b : Nat) (w : World) : (binOp .neq 118 (.map (some b)) (.map none)).run Try.prog w = .ok (.bool true) w := by kernel_rfl
def NewPost (n0 : Nat) (w : World) (r : Int) (e : Ending) (w' : World) : Prop := ∃ db mb, e = .returned (ptrV db) ∧ Dk n0 w' ⟨db, mb, 0, .slice none 0 0, [], [], r, 0, 0, false, 0⟩ ∧ Kp NoB w w' ∧ w.heap.size ≤ db ∧ w.heap.size ≤ mb
theorem new_post (n0 : Nat) (w : World) (r : Int) (hr : 0 ≤ r ∧ r ≤ 9223372036854775807) (hn : n0 ≤ w.heap.size) : NewPost n0 w r (.returned (.pointer (some ⟨w.heap.size + 1, 0, none⟩))) ((w.alloc (.map #[] 0)).alloc (.cells #[.map (some w.heap.size), .slice none 0 0, .int .i64 r, .int .i64 0, .int .i64 0, .bool false, .int .i64 0] 121)) := by
  refine ⟨w.heap.size + 1, w.heap.size, by simp [ptrV], ?_, ((Kp.refl NoB w).alloc _).alloc _, by omega, by omega⟩
  exact
    { blk := by
        have := Blk.newAt (w.alloc (.map #[] 0)) 121 (diskCells ⟨w.heap.size + 1, w.heap.size, 0, .slice none 0 0, [], [], r, 0, 0, false, 0⟩) (w.heap.size + 1) (by simp)
        simpa [diskCells] using this
      mp := ⟨_, (World.ownsMap_made w Try.prog 9 Rp).alloc _, MpD.nil⟩
      names := List.Pairwise.nil
      fbs := List.Pairwise.nil
      fls := by simp
      pend := World.ownsRow_nil _ _ _ _
      b0 := by simp; omega
      b1 := hn
      b2 := by simp
      s64 := by simp
      r0 := hr
      c0 := by simp }
set_option maxRecDepth 100000 in
theorem new_ok (w : World) (r : Int) (hr : -9223372036854775808 ≤ r ∧ r ≤ 9223372036854775807) (n0 : Nat) (hn : n0 ≤ w.heap.size) :
    Calls Try.prog 17 #[.int .i64 r] w (NewPost n0 w (max 0 r)) := by
  have hmm := @run_makeMap Try.prog
  obtain ⟨m, hm⟩ : ∃ m, max 0 r = m := ⟨_, rfl⟩
  have HM := Lib.hid (show 0 ≤ m ∧ m ≤ 9223372036854775807 by omega)
  have HN := Lib.hid hn
  rw [hm]
  rcases (show r < 0 ∨ r = 0 ∨ 0 < r by omega) with h0 | rfl | h0
  · obtain rfl : 0 = m := by omega
    have hh : ¬ 0 ≤ r := by omega
    clear hn hm
    go_enter Try.func17, Try.ntmps17
    go_wp2_with fail
    all_goals
      go_ret
      exact new_post n0 w _ HM.out HN.out
  · obtain rfl : 0 = m := by omega
    clear hn hm
    go_enter Try.func17, Try.ntmps17
    go_wp2_with fail
    all_goals
      go_ret
      exact new_post n0 w _ HM.out HN.out
  · obtain rfl : r = m := by omega
    have hh : 0 ≤ r := by omega
    clear hn hm
    go_enter Try.func17, Try.ntmps17
    go_wp2_with fail
    all_goals
      go_ret
      exact new_post n0 w _ HM.out HN.out
set_option maxRecDepth 100000 in
theorem is_ok (w : World) (n0 : Nat) (x : Dd) (h : Dk n0 w x) : Calls Try.prog 69 #[ptrV x.db] w fun e w' => e = .returned (.bool true) ∧ w = w' := by
  have c0 : w.cell? ⟨x.db, 0, none⟩ = some (.map (some x.mb)) := by rw [h.blk.cell]; rfl
  have hne := mapNe
  unfold ptrV
  go_enter Try.func69, Try.ntmps69
  go_wp2_with fail
  go_ret
  exact ⟨rfl, rfl⟩
set_option maxRecDepth 100000 in
theorem wrong_ok (w : World) (n0 : Nat) (x : Dd) (h : Dk n0 w x) : Calls Try.prog 80 #[ptrV x.db] w fun e w' => e = .returned (.int .i64 (if x.down then 7 else 0)) ∧ w = w' := by
  have H := Lib.hid h
  have c5 : w.cell? ⟨x.db, 5, none⟩ = some (.bool x.down) := by rw [h.blk.cell]; rfl
  clear h
  obtain ⟨db, hdb⟩ : ∃ db, x.db = db := ⟨_, rfl⟩
  rw [hdb] at c5 ⊢
  have HD := Lib.hid hdb
  clear hdb
  unfold ptrV
  cases hd : x.down
  · rw [hd] at c5
    go_enter Try.func80, Try.ntmps80
    go_wp2_with (go_at_call 69; go_must (refine (show Calls _ _ #[ptrV db] _ _ by rw [← HD.out]; exact is_ok _ _ _ H.out).mono ?_); rintro e w2 ⟨rfl, rfl⟩)
    go_ret
    exact ⟨rfl, rfl⟩
  · rw [hd] at c5
    go_enter Try.func80, Try.ntmps80
    go_wp2_with (go_at_call 69; go_must (refine (show Calls _ _ #[ptrV db] _ _ by rw [← HD.out]; exact is_ok _ _ _ H.out).mono ?_); rintro e w2 ⟨rfl, rfl⟩)
    go_ret
    exact ⟨rfl, rfl⟩
set_option maxRecDepth 100000 in
theorem bytes_ok (w : World) (n0 : Nat) (x : Dd) (s : ByteArray) (hs : s.size ≤ maxLen) (h : Dk n0 w x) : Calls Try.prog 81 #[ptrV x.db, .string s] w fun e w' => ∃ A cap, e = .returned (.slice A (seenOf x.fs s).length cap) ∧ Bq w n0 (.slice A (seenOf x.fs s).length cap) (seenOf x.fs s) ∧ w' = w := by
  have c0 : w.cell? ⟨x.db, 0, none⟩ = some (.map (some x.mb)) := by rw [h.blk.cell]; rfl
  have hl := h.look s hs
  have HL := Lib.hid hl
  unfold ptrV
  cases hf : findF x.fs (kOf s) with
  | none =>
    have hv : seenOf x.fs s = [] := by unfold seenOf; rw [hf]
    rw [show foundV x.fs (kOf s) = .pointer none by unfold foundV; rw [hf]] at hl
    clear HL
    rw [hv]
    go_enter Try.func81, Try.ntmps81
    go_wp2_with fail
    go_ret
    exact ⟨none, 0, rfl, Bq.none _ _, rfl⟩
  | some e =>
    have hv : seenOf x.fs s = e.seen := by unfold seenOf; rw [hf]
    rw [show foundV x.fs (kOf s) = .pointer (some ⟨e.fb, 0, none⟩) by unfold foundV; rw [hf]; rfl] at hl
    obtain ⟨u, v, hb, hu, hq⟩ := (h.fls e (findF_some hf).1).blk
    obtain ⟨A, cap, rfl⟩ := hu.form
    have c1 : w.cell? ⟨e.fb, 0, none⟩ = some (.slice A e.seen.length cap) := by rw [hb.cell]; rfl
    have HU := Lib.hid hu
    clear HL hu hb hq
    rw [hv]
    go_enter Try.func81, Try.ntmps81
    go_wp2_with fail
    go_ret
    exact ⟨A, cap, rfl, HU.out, rfl⟩
end Go.Proofs.Ytegcbdfilkecpaa
/- The stand-in disk: at makes a file that is not there; step; no condition but on the name's length and the counts. -/
namespace Go.Proofs.Ytegcbdfilkecpaa
open Go.RowKit

theorem putF_self {fs : List Fe} {e : Fe} (h : findF fs (kOf e.nm) = some e) : putF fs e = fs := by
  induction fs with
  | nil => simp [findF] at h
  | cons y r ih =>
    unfold putF
    split
    · rename_i hy
      unfold findF at h
      rw [List.find?_cons_of_pos (by simpa using hy)] at h
      rw [Option.some.inj h]
    · rename_i hy
      rw [ih]
      unfold findF at h ⊢
      rwa [List.find?_cons_of_neg (by simpa using hy)] at h
theorem putF_fbs {fs : List Fe} {e : Fe} (hp : fs.Pairwise fun a b => a.fb ≠ b.fb) (hn : Names fs) (hne : ∀ x ∈ fs, kOf x.nm ≠ kOf e.nm → x.fb ≠ e.fb) : (putF fs e).Pairwise fun a b => a.fb ≠ b.fb := by
  induction fs with
  | nil => simp [putF]
  | cons y r ih =>
    obtain ⟨h1, h2⟩ := List.pairwise_cons.1 hp
    obtain ⟨n1, n2⟩ := List.pairwise_cons.1 hn
    unfold putF
    split
    · rename_i hy
      refine List.pairwise_cons.2 ⟨fun x hx => ?_, h2⟩
      have := hne x (List.mem_cons_of_mem _ hx) (fun q => n1 x hx (by rw [hy, q]))
      exact fun q => this q.symm
    · rename_i hy
      refine List.pairwise_cons.2 ⟨fun x hx => ?_, ih h2 n2 fun x hx => hne x (List.mem_cons_of_mem _ hx)⟩
      rcases putF_mem hx with rfl | ⟨hm, _⟩
      · exact hne y (List.mem_cons_self ..) hy
      · exact h1 x hm
theorem dk_added {n0 : Nat} {w w1 : World} {x : Dd} (h : Dk n0 w x) (hn : n0 ≤ w.heap.size) {s : ByteArray} (hs : s.size ≤ maxLen) (hf : findF x.fs (kOf s) = none) {D : DataW Value} {m : Nat} (hD : w.ownsMap Try.prog 9 Rp x.mb x.mn D) (hM : MpD D x.fs)
    (hown1 : w1.ownsMap Try.prog 9 Rp x.mb m (D.put (.string (kOf s)) (.held (ptrV w.heap.size))))
    (hg : (w.alloc (.cells #[.slice none 0 0, .slice none 0 0] 143)).grownBy w1 (some x.mb)) :
    Dk n0 w1 { x with fs := putF x.fs ⟨s, w.heap.size, [], []⟩, mn := m } ∧ Kp (OnB x.mb) w w1 := by
  have hk : Kp (OnB x.mb) w w1 := ((Kp.refl _ w).alloc _).grown hg (fun k hk => .inr (by simpa [OnB] using hk.symm))
  have hIs : Maps.IsMap D := by obtain ⟨es, cl, _, _, _, e⟩ := hD; exact ⟨_, e⟩
  have hmb : x.mb < w.heap.size := hD.lt
  have hnew : Blk w1 w.heap.size 143 #[.slice none 0 0, .slice none 0 0] := by
    have h0 := Blk.new w 143 #[.slice none 0 0, .slice none 0 0]
    unfold Blk at h0 ⊢
    rw [← h0]
    exact hg.block _ (by simp) (by simp; omega)
  have ndb : ¬ OnB x.mb x.db := by
    intro q
    obtain ⟨es, cl, hb, _⟩ := hD
    have := h.blk
    unfold Blk at this
    rw [show x.db = x.mb from q, hb] at this
    cases this
  have cellNe : ∀ g cs t, w.heap[g]? = some (.cells cs t (0, 0)) → ¬ OnB x.mb g := by
    rintro g cs t hg' rfl
    obtain ⟨es, cl, hb, _⟩ := hD
    rw [hb] at hg'
    cases hg'
  have hfl : ∀ e ∈ x.fs, FeOk w1 n0 e := fun e he => (h.fls e he).keep hk (by obtain ⟨u, v, hb, _⟩ := (h.fls e he).blk; exact cellNe _ _ _ hb) (fun g cs hc => cellNe g cs _ hc)
  refine ⟨{ h with
    blk := h.blk.keep hk ndb
    mp := ⟨_, hown1, hM.put hIs ⟨s, w.heap.size, [], []⟩ (keyed.key (keyS s hs))⟩
    names := putF_names h.names _
    fbs := putF_fbs h.fbs h.names (fun e he _ => by
      obtain ⟨u, v, hb, _⟩ := (h.fls e he).blk
      have := hb.lt
      exact Nat.ne_of_lt this)
    fls := fun e he => by
      rcases putF_mem he with rfl | ⟨hm, _⟩
      · exact ⟨⟨_, _, hnew, Bq.none _ _, Bq.none _ _⟩, by simp, by simp⟩
      · exact hfl e hm
    pend := own_keepB h.pend hk (fun g hg' => by obtain ⟨cs, hc⟩ := own_type h.pend hg'; exact cellNe _ _ _ hc)
    b2 := fun e he => by
      rcases putF_mem he with rfl | ⟨hm, _⟩
      · exact hn
      · exact h.b2 e hm }, hk⟩
def AtPost (n0 : Nat) (w : World) (x : Dd) (s : ByteArray) (e : Ending) (w' : World) : Prop :=
  ∃ e0 m, e = .returned (ptrV e0.fb) ∧ Dk n0 w' { x with fs := putF x.fs e0, mn := m } ∧ m ≤ x.mn + 1 ∧ e0.nm = s ∧ e0.seen = seenOf x.fs s ∧ e0.kept = keptOf x.fs s ∧ Kp (OnB x.mb) w w' ∧ ((∃ q ∈ x.fs, q.fb = e0.fb) ∨ w.heap.size ≤ e0.fb)
set_option maxRecDepth 100000 in
theorem at_ok (w : World) (n0 : Nat) (x : Dd) (s : ByteArray) (hs : s.size ≤ maxLen) (hm : x.mn < 1099511627776) (hn : n0 ≤ w.heap.size) (h : Dk n0 w x) :
    Calls Try.prog 111 #[ptrV x.db, .string s] w (AtPost n0 w x s) := by
  have H := Lib.hid h
  have HS := Lib.hid hs
  have HN := Lib.hid hn
  have c0 : w.cell? ⟨x.db, 0, none⟩ = some (.map (some x.mb)) := by rw [h.blk.cell]; rfl
  have hl := h.look s hs
  unfold ptrV
  cases hf : findF x.fs (kOf s) with
  | some e =>
    have HF := Lib.hid hf
    rw [show foundV x.fs (kOf s) = .pointer (some ⟨e.fb, 0, none⟩) by unfold foundV; rw [hf]; rfl] at hl
    clear h hf hs hn hm
    go_enter Try.func111, Try.ntmps111
    go_wp2_with fail
    go_ret
    have hk := (findF_some HF.out).2
    have hnm : e.nm = s := kOf_inj hk
    have hp : putF x.fs e = x.fs := putF_self (by rw [hk]; exact HF.out)
    exact ⟨e, x.mn, rfl, by rw [hp]; exact H.out, by omega, hnm, by unfold seenOf; rw [HF.out], by unfold keptOf; rw [HF.out], Kp.refl _ _, .inl ⟨e, (findF_some HF.out).1, rfl⟩⟩
  | none =>
    have HF := Lib.hid hf
    rw [show foundV x.fs (kOf s) = .pointer none by unfold foundV; rw [hf]] at hl
    obtain ⟨D, hD, hM⟩ := h.mp
    have HD := Lib.hid hD
    have HM := Lib.hid hM
    have hT : Hid (x.mn < maxLen) := Lib.hid (by unfold maxLen; omega)
    have HB := Lib.hid h.blk
    clear h hf hs hn hm hD hM
    go_enter Try.func111, Try.ntmps111
    go_wp2_with (at_mapUpdate; refine wpList_mapUpdate_own _ rfl _ _ _ 118 rfl 9 139 keyed Try.underlying118 Rp x.mb x.mn D rfl (HD.out.alloc _) hT.out _ _ (.string (kOf s)) rfl rfl (keyS s HS.out) (.held (ptrV w.heap.size)) [] rfl ?_; intro w1 hown1 hgrow1; have hA := dk_added H.out HN.out HS.out HF.out HD.out HM.out hown1 hgrow1; have HA := Lib.hid hA; have c1 : w1.cell? ⟨x.db, 0, none⟩ = some (.map (some x.mb)) := (by rw [hA.1.blk.cell]; rfl); have hl1 := hA.1.look s HS.out; rw [show foundV _ (kOf s) = .pointer (some ⟨w.heap.size, 0, none⟩) by unfold foundV; simp only [putF_find, if_true]; rfl] at hl1; clear hA hown1 hgrow1)
    go_ret
    exact ⟨⟨s, w.heap.size, [], []⟩, _, rfl, HA.out.1, Nat.le_refl _, rfl, by unfold seenOf; rw [HF.out], by unfold keptOf; rw [HF.out], HA.out.2, .inr (Nat.le_refl _)⟩
end Go.Proofs.Ytegcbdfilkecpaa
/- The stand-in disk: step; no condition. -/
namespace Go.Proofs.Ytegcbdfilkecpaa
open Go.RowKit

theorem onb_cells {w : World} {b g : Nat} {cs cs' : Array Value} {t t' : TypeId} (hb : Blk w b t cs) (hg : w.heap[g]? = some (.cells cs' t' (0, 0))) (hne : t ≠ t') : ¬ OnB b g := by
  rintro rfl
  exact blk_ne hb hg hne rfl
/-- only the disk's own cells turn -/
theorem Dk.numbers {n0 : Nat} {w w' : World} {x : Dd} (h : Dk n0 w x) (k : Kp (OnB x.db) w w') (room steps crash : Int) (down : Bool) (starts : Int)
    (hb : Blk w' x.db 121 #[.map (some x.mb), x.pv, .int .i64 room, .int .i64 steps, .int .i64 crash, .bool down, .int .i64 starts])
    (r0 : 0 ≤ room ∧ room ≤ 9223372036854775807) (c0 : 0 ≤ crash ∧ crash ≤ 9223372036854775807) :
    Dk n0 w' { x with room := room, steps := steps, crash := crash, down := down, starts := starts } := by
  obtain ⟨D, hD, hM⟩ := h.mp
  have hmb : ¬ OnB x.db x.mb := by
    intro q
    obtain ⟨es, cl, hm, _⟩ := hD
    have := h.blk
    unfold Blk at this
    rw [← show x.mb = x.db from q, hm] at this
    cases this
  exact { h with
    blk := hb
    mp := ⟨D, k.map hD hmb, hM⟩
    fls := fun e he => (h.fls e he).keep k (by obtain ⟨u, v, hb', _⟩ := (h.fls e he).blk; exact onb_cells h.blk hb' (by decide)) (fun g cs hc => onb_cells h.blk hc (by decide))
    pend := own_keepB h.pend k (fun g hg => by obtain ⟨cs, hc⟩ := own_type h.pend hg; exact onb_cells h.blk hc (by decide))
    r0 := r0
    c0 := c0 }
theorem Kp.setAt {S : Nat → Prop} {a w : World} (h : Kp S a w) {g : Nat} (hS : S g) (o : Nat) (u : Value) : Kp S a (w.setCell ⟨g, o, none⟩ u) := h.setCell (.inr hS) u
def stepF (x : Dd) : Dd := { x with steps := wrp (x.steps + 1), crash := if 0 < x.crash then x.crash - 1 else x.crash, down := if x.crash = 1 then true else x.down }
def stepE (x : Dd) : Int := if x.crash = 1 then 7 else 0
set_option maxRecDepth 100000 in
set_option maxHeartbeats 1600000 in
theorem step_ok (w : World) (n0 : Nat) (x : Dd) (h : Dk n0 w x) :
    Calls Try.prog 130 #[ptrV x.db] w fun e w' => e = .returned (.int .i64 (stepE x)) ∧ Dk n0 w' (stepF x) ∧ Kp (OnB x.db) w w' := by
  have H := Lib.hid h
  have HB := Lib.hid h.blk
  have c3 : w.cell? ⟨x.db, 3, none⟩ = some (.int .i64 x.steps) := by rw [h.blk.cell]; rfl
  have c4 : w.cell? ⟨x.db, 4, none⟩ = some (.int .i64 x.crash) := by rw [h.blk.cell]; rfl
  have c5 : w.cell? ⟨x.db, 5, none⟩ = some (.bool x.down) := by rw [h.blk.cell]; rfl
  have f3 := h.blk.frozen 3
  have f4 := h.blk.frozen 4
  have f5 := h.blk.frozen 5
  have hw2 : 0 < x.crash → IntKind.i64.wrap (x.crash - 1) = x.crash - 1 := fun hp => by rw [IntKind.wrap_i64]; have := h.c0; omega
  have hC := h.c0
  have hw1 : IntKind.i64.wrap (x.steps + 1) = wrp (x.steps + 1) := rfl
  clear h
  unfold ptrV
  rcases (show x.crash = 0 ∨ x.crash = 1 ∨ 1 < x.crash by omega) with hc | hc | hc
  · have HC := Lib.hid hc
    rw [hc] at c4
    clear hw2 hC hc
    go_enter Try.func130, Try.ntmps130
    go_wp2_with fail
    go_ret
    have e1 : stepF x = { x with room := x.room, steps := wrp (x.steps + 1), crash := 0, down := x.down, starts := x.starts } := by unfold stepF; simp [HC.out]
    have kp : Kp (OnB x.db) w (w.setCell ⟨x.db, 3, none⟩ (.int .i64 (wrp (x.steps + 1)))) := (Kp.refl (OnB x.db) w).setAt (show OnB x.db x.db from rfl) _ _
    refine ⟨by unfold stepE; simp [HC.out], ?_, kp⟩
    rw [e1]
    refine H.out.numbers kp _ _ _ _ _ ?_ H.out.r0 (by omega)
    have hb := HB.out.set_ 3 (.int .i64 (wrp (x.steps + 1)))
    simpa [diskCells, HC.out] using hb
  · have HC := Lib.hid hc
    have hw3 : IntKind.i64.wrap ((1 : Int) - 1) = 0 := by rw [IntKind.wrap_i64]; rfl
    rw [hc] at c4
    clear hw2 hC hc
    go_enter Try.func130, Try.ntmps130
    go_wp2_with fail
    go_ret
    have e1 : stepF x = { x with room := x.room, steps := wrp (x.steps + 1), crash := 0, down := true, starts := x.starts } := by unfold stepF; simp [HC.out]
    have kp : Kp (OnB x.db) w (((w.setCell ⟨x.db, 3, none⟩ (.int .i64 (wrp (x.steps + 1)))).setCell ⟨x.db, 4, none⟩ (.int .i64 0)).setCell ⟨x.db, 5, none⟩ (.bool true)) := (((Kp.refl (OnB x.db) w).setAt (show OnB x.db x.db from rfl) _ _).setAt (show OnB x.db x.db from rfl) _ _).setAt (show OnB x.db x.db from rfl) _ _
    refine ⟨by unfold stepE; simp [HC.out], ?_, kp⟩
    rw [e1]
    refine H.out.numbers kp _ _ _ _ _ ?_ H.out.r0 (by omega)
    have hb := ((HB.out.set_ 3 (.int .i64 (wrp (x.steps + 1)))).set_ 4 (.int .i64 0)).set_ 5 (.bool true)
    simpa [diskCells] using hb
  · have HC := Lib.hid hc
    have HCC := Lib.hid hC
    have hw3 := hw2 (by omega)
    have hp : (0 : Int) < x.crash := by omega
    have hq : ¬ x.crash - 1 = 0 := by omega
    have hq2 : (x.crash - 1 == 0) = false := by simpa using hq
    clear hw2 hC hc
    go_enter Try.func130, Try.ntmps130
    go_wp2_with fail
    go_ret
    have hne : ¬ x.crash = 1 := by have := HC.out; omega
    have e1 : stepF x = { x with room := x.room, steps := wrp (x.steps + 1), crash := x.crash - 1, down := x.down, starts := x.starts } := by unfold stepF; simp [hne, hp]
    have kp : Kp (OnB x.db) w ((w.setCell ⟨x.db, 3, none⟩ (.int .i64 (wrp (x.steps + 1)))).setCell ⟨x.db, 4, none⟩ (.int .i64 (x.crash - 1))) := ((Kp.refl (OnB x.db) w).setAt (show OnB x.db x.db from rfl) _ _).setAt (show OnB x.db x.db from rfl) _ _
    refine ⟨by unfold stepE; simp [hne], ?_, kp⟩
    rw [e1]
    refine H.out.numbers kp _ _ _ _ _ ?_ H.out.r0 (by have := HCC.out; omega)
    have hb := ((HB.out.set_ 3 (.int .i64 (wrp (x.steps + 1)))).set_ 4 (.int .i64 (x.crash - 1)))
    simpa [diskCells] using hb
end Go.Proofs.Ytegcbdfilkecpaa
/- The stand-in disk: fits; condition: no negative number of bytes. -/
namespace Go.Proofs.Ytegcbdfilkecpaa
open Go.RowKit

theorem next_fact {n0 : Nat} {w w1 : World} {x : Dd} {D : DataW Value} (h : Dk n0 w x) (hM : MpD D x.fs) (kp : Kp NoB w w1) {s : ByteArray} {kl : Lit} {c : Option Addr} {y : DataW Value × List MemPlace}
    (hkey : keyOf Try.prog 9 (.string s) = some kl) (hv : Rp (.pointer c) = some y) (hat : ∀ zd, D.atKey kl zd = y.1) :
    ∃ e ∈ x.fs, kl = .string (kOf e.nm) ∧ c = some ⟨e.fb, 0, none⟩ ∧ ∃ A cap, w1.cell? ⟨e.fb, 0, none⟩ = some (.slice A e.seen.length cap) := by
  obtain ⟨p, ep, rfl⟩ := Rp_inv hv
  cases ep
  have hk : kl = .string (kOf s) := by
    by_cases hs : s.size ≤ maxLen
    · rw [keyS s hs] at hkey
      exact (Option.some.inj hkey).symm
    · have hu := Try.underlying9
      simp [keyOf, mapKey, hu] at hkey
      obtain ⟨_, rfl⟩ := hkey
      rfl
  subst hk
  cases hf : findF x.fs (kOf s) with
  | none =>
    have h1 := hat (.lit (.bool true))
    have h2 := hat (.lit (.bool false))
    rw [hM.at_, hf] at h1 h2
    rw [← h2] at h1
    simp at h1
  | some e =>
    obtain ⟨he, hk⟩ := findF_some hf
    have h1 := hat .nil
    rw [hM.at_, hf] at h1
    simp only [ptrV, DataW.held.injEq, Value.pointer.injEq] at h1
    obtain ⟨u, v, hb, hu, _⟩ := (h.fls e he).blk
    obtain ⟨A, cap, rfl⟩ := hu.form
    refine ⟨e, he, by rw [hk], h1.symm, A, cap, ?_⟩
    rw [kp.cell hb.lt (fun q => q), hb.cell]
    rfl
theorem keyS_inv {key : Value} {kl : Lit} (h : keyOf Try.prog 9 key = some kl) : ∃ s, key = .string s := by
  have hk := Try.underlying9
  cases key <;> simp [keyOf, hk, mapKey] at h
  exact ⟨_, rfl⟩
theorem seen_le {n0 : Nat} {w : World} {x : Dd} (h : Dk n0 w x) (s : ByteArray) : (seenOf x.fs s).length ≤ 1048576 := by
  unfold seenOf
  split
  · rename_i e hf
    exact (h.fls e (findF_some hf).1).ls
  · simp
set_option maxRecDepth 100000 in
set_option maxHeartbeats 1600000 in
theorem fits_ok (w : World) (n0 : Nat) (x : Dd) (p : Pl) (s : ByteArray) (n : Int) (hs : s.size ≤ maxLen) (hn : 0 ≤ n ∧ n ≤ 9223372036854775807) (h : Dk n0 w x) (hp : Of x p) :
    Calls Try.prog 131 #[ptrV x.db, .string s, .int .i64 n] w fun e w' => e = .returned (.int .i64 (p.fits s n)) ∧ Kp NoB w w' := by
  have H := Lib.hid h
  have HP := Lib.hid hp
  have HS := Lib.hid hs
  obtain ⟨D, hD, hM⟩ := h.mp
  have HD := Lib.hid hD
  have HM := Lib.hid hM
  have HB := Lib.hid h.blk
  have c0 : w.cell? ⟨x.db, 0, none⟩ = some (.map (some x.mb)) := by rw [h.blk.cell]; rfl
  obtain ⟨was, hwas⟩ : ∃ m, (seenOf x.fs s).length = m := ⟨_, rfl⟩
  have hwl := seen_le h s
  rw [hwas] at hwl
  have HW := Lib.hid hwas
  obtain ⟨db, hdb⟩ : ∃ db, x.db = db := ⟨_, rfl⟩
  have HX := Lib.hid hdb
  rw [hdb] at c0 ⊢
  have hw1 : IntKind.i64.wrap (n - (was : Int)) = n - was := by rw [IntKind.wrap_i64]; omega
  have HN := Lib.hid hn
  have HWL := Lib.hid hwl
  have HR := Lib.hid h.r0
  clear h hs hD hM hwas hdb hwl hp
  unfold ptrV
  go_enter Try.func131, Try.ntmps131
  go_wp2_with (first
    | (go_at_call 81; go_must (refine (show Calls _ _ #[ptrV db, .string s] _ _ by rw [← HX.out]; exact bytes_ok _ _ _ _ HS.out H.out).mono ?_); rintro e w2 ⟨A, cap, rfl, _, rfl⟩; rw [HW.out])
    | (at_range; refine wpList_range_own _ rfl _ 118 rfl 9 139 keyed Try.underlying118 Rp x.mb x.mn D rfl HD.out ?_; intro w0 hrg0 hg0 hs0))
  go_frame
  have HR0 := Lib.hid (show (∀ e ∈ x.fs, Maps.has D (.string (kOf e.nm)) = true) from fun e he => by rw [HM.out.has, H.out.names.find he]; rfl)
  have hsm0 : n - (was : Int) = wrp (n - was) := hw1.symm
  go_loopw [8, 10] (fun sum _ wr => ∃ (left : Lit → Bool) (cnt : Nat), wr.ranges Try.prog 9 Rp x.mb w2.heap.size x.mn D left cnt ∧ sum = .int .i64 (wrp (n - was + (restSum (fun k => left (.string k)) x.fs : Nat))) ∧ Kp NoB w2 wr) (fun _ _ wr => wr.rangeLeft x.mb w2.heap.size)
  case atStart => exact ⟨Maps.has D, Maps.size D, hrg0, by rw [restSum_none (fun e he => HR0.out e he)]; simp only [Int.natCast_zero, Int.add_zero]; rw [← hsm0], (Kp.refl NoB w2).grown hg0 (by simp)⟩
  case round =>
    obtain ⟨left, cnt, hrg, rfl, hkp⟩ := hrel
    have HRG := Lib.hid hrg
    have HK := Lib.hid hkp
    obtain ⟨sm, hsm⟩ : ∃ m, wrp (n - (was : Int) + (restSum (fun k => left (.string k)) x.fs : Nat)) = m := ⟨_, rfl⟩
    rw [hsm]
    have HSM := Lib.hid hsm
    clear hkp hrg0 hg0 hs0 hsm hsm0 hw1
    go_wp2_with (at_next; refine wpList_next_ranges _ rfl _ rfl 9 keyed Rp Value.string Value.pointer (fun key kl hk => keyS_inv hk) (fun v y hv => by obtain ⟨p, rfl, _⟩ := Rp_inv hv; exact ⟨p, rfl⟩) x.mb w2.heap.size x.mn D left cnt rfl hrg ?_ ?_)
    · intro _ hl0
      have e1 : sm = wrp (n - (was : Int) + (allSum x.fs : Nat)) := by rw [← HSM.out, restSum_all (fun e _ => hl0 _)]
      have c2 : wr.cell? ⟨db, 2, none⟩ = some (.int .i64 x.room) := by rw [← HX.out, HK.out.cell HB.out.lt (fun q => q), HB.out.cell]; rfl
      have HF : Hid (p.fits s n = if 1048576 < n then 3 else if (was : Int) < n ∧ x.room < sm then 5 else 0) := Lib.hid (by unfold Pl.fits; rw [HP.out.seen, HP.out.sum, HP.out.room, HW.out, e1])
      clear hl0 e1 hrg
      by_cases h0 : (1048576 : Int) < n
      · go_wp2_with fail
        go_ret
        exact ⟨by rw [HF.out, if_pos h0]; rfl, HK.out⟩
      · by_cases h1 : (was : Int) < n
        · by_cases h2 : x.room < sm
          · go_wp2_with fail
            go_ret
            exact ⟨by rw [HF.out, if_neg (by omega), if_pos ⟨h1, h2⟩]; rfl, HK.out⟩
          · go_wp2_with fail
            go_ret
            exact ⟨by rw [HF.out, if_neg (by omega), if_neg (fun q => by omega)]; rfl, HK.out⟩
        · go_wp2_with fail
          go_ret
          exact ⟨by rw [HF.out, if_neg (by omega), if_neg (fun q => by omega)]; rfl, HK.out⟩
    · intro x1 c kl a b w3 cnt3 hkey hlk hv hat hrg3 hlt hg3 hs3 hen
      have hk3 := HK.out.grown hg3 (fun k hk => .inl (by injection hk with hk; omega))
      obtain ⟨e, he, rfl, rfl, B, cp, ce⟩ := next_fact H.out HM.out hk3 hkey hv hat
      have HE := Lib.hid he
      have HLK := Lib.hid hlk
      have HK3 := Lib.hid hk3
      have HR3 := Lib.hid hrg3
      have HLT := Lib.hid hlt
      have hst := restSum_step H.out.names (left := fun k => left (.string k)) he hlk
      have hww : IntKind.i64.wrap (sm + (e.seen.length : Int)) = wrp (sm + e.seen.length) := rfl
      have HST : Hid (wrp (sm + (e.seen.length : Int)) = wrp (n - (was : Int) + (restSum (fun z => left (.string z) && !(z == kOf e.nm)) x.fs : Nat))) := Lib.hid (by rw [← HSM.out, hst, wrp_add]; congr 1; omega)
      clear he hlk hk3 hrg3 hlt hst hkey hv hat hrg hg3 hs3
      go_wp2_with fail
      exact ⟨⟨_, cnt3, HR3.out, by rw [HST.out]; rfl, HK3.out⟩, by rw [HR3.out.left_eq, HRG.out.left_eq]; exact HLT.out⟩
end Go.Proofs.Ytegcbdfilkecpaa
/- slices.Clone of bytes; condition: fewer than 2^40. -/
namespace Go.Proofs.Ytegcbdfilkecpaa
open Go.RowKit

theorem infoU8' : (Try.prog.info? 5).map (fun i => (i.zero, i.size, i.bytes)) = some (some (.int .u8 0), 1, 1) := by kernel_rfl
theorem sliceEqN (w : World) : (binOp .eql 42 (.slice none 0 0) (.slice none 0 0)).run Try.prog w = .ok (.bool true) w := by kernel_rfl
theorem sliceEqS (a : Addr) (m c : Nat) (w : World) : (binOp .eql 42 (.slice (some a) m c) (.slice none 0 0)).run Try.prog w = .ok (.bool false) w := by kernel_rfl
def ClonePost (w : World) (l : List Int) (e : Ending) (w' : World) : Prop := ∃ A cap, e = .returned (.slice A l.length cap) ∧ Bq w' w.heap.size (.slice A l.length cap) l ∧ Kp NoB w w'
theorem bq_src {w : World} {n0 : Nat} {A : Option Addr} {m cap : Nat} {l : List Int} (h : Bq w n0 (.slice A m cap) l) (hm : m = l.length) : 0 < l.length → ∃ g o, A = some ⟨g, o, none⟩ ∧ ∀ j u, (l.map (Value.int .u8))[j]? = some u → w.cell? ⟨g, o + j, none⟩ = some u := by
  intro hp
  subst hm
  obtain ⟨g, ds, e, _, hb⟩ := own_blk1 h.own hp
  refine ⟨g, 0, e, fun j u hj => ?_⟩
  rw [hb.cell, Nat.zero_add, List.getElem?_toArray]
  have := (List.getElem?_eq_some_iff.1 hj).1
  rw [List.getElem?_append_left this]
  exact hj
theorem u8_one (l : List Int) : ∀ u ∈ l.map (Value.int .u8), u.oneCell' = true := by
  intro u hu
  obtain ⟨x, _, rfl⟩ := List.mem_map.1 hu
  rfl
set_option maxRecDepth 100000 in
set_option maxHeartbeats 1600000 in
theorem clone_ok (w : World) (n0 : Nat) (A : Option Addr) (m cap : Nat) (l : List Int) (hm : m = l.length) (hl : l.length ≤ 1099511627776) (h : Bq w n0 (.slice A m cap) l) :
    Calls Try.prog 133 #[.slice A m cap] w (ClonePost w l) := by
  obtain ⟨j0, hj0, hy0, hy1, hy2⟩ := info_parts infoU8'
  have HJ0 := Lib.hid hj0
  have HY0 := Lib.hid hy0
  have HY1 := Lib.hid hy1
  have HY2 := Lib.hid hy2
  have H := Lib.hid h
  have HL := Lib.hid hl
  have HM := Lib.hid hm
  have qn := sliceEqN
  have qs := sliceEqS
  rcases A with _ | ⟨g, o, sp⟩
  · have hf := own_form (by rw [hm] at h; exact h.own)
    obtain ⟨_, h0, h1⟩ : (none : Option Addr) = none ∧ l.length = 0 ∧ cap = 0 := by
      rcases hf with q | ⟨g, q⟩
      · exact q
      · cases q
    obtain rfl : l = [] := List.eq_nil_of_length_eq_zero h0
    simp only [List.length_nil] at hm
    subst hm h1
    clear h hl hj0 hy0 hy1 hy2 hf h0
    go_enter Try.func133, Try.ntmps133
    go_wp2_with fail
    go_ret
    exact ⟨none, 0, rfl, Bq.none _ _, Kp.refl _ _⟩
  · have HOWN : Hid ((w.alloc (.cells #[] 5)).ownsRow w.heap.size 5 1 (.slice (some ⟨w.heap.size, 0, none⟩) 0 0) 0 []) := Lib.hid ⟨rfl, .inr ⟨w.heap.size, 0, #[], rfl, Nat.le_refl _, heap_alloc_new _ _, Nat.le_refl _, by simp, rfl, rfl⟩⟩
    clear h hl hj0 hy0 hy1 hy2 hm
    go_enter Try.func133, Try.ntmps133
    go_wp2_with (at_builtin; refine wpList_append_src rfl _ _ 42 rfl w.heap.size 5 j0 _ 1 Try.underlying42 HJ0.out HY0.out HY1.out HY2.out rfl _ 0 [] rfl HOWN.out (some ⟨g, o, sp⟩) m cap (l.map (Value.int .u8)) rfl (by simp) (by rw [List.length_map, HM.out]) (by have hq := bq_src (w := w.alloc (.cells #[] 5)) (n0 := n0) (A := some ⟨g, o, sp⟩) (m := m) (cap := cap) (l := l) (H.out.keep ((Kp.refl NoB w).alloc _) (fun _ _ _ q => q)) HM.out; rw [HM.out]; exact hq) (u8_one l) (by have := HL.out; have := HM.out; unfold maxLen; omega) (by have := HL.out; have := HM.out; omega) (by simp) ?_; intro v1 w1 hown1 hgrow1; rw [Nat.zero_add, List.nil_append] at hown1; obtain ⟨B, c, rfl⟩ := own_slice hown1; have HO1 := Lib.hid hown1; have HK1 := Lib.hid (((Kp.refl NoB w).alloc _).own (v := .slice (some ⟨w.heap.size, 0, none⟩) 0 0) hgrow1 rfl HOWN.out); clear hown1 hgrow1)
    go_ret
    exact ⟨B, c, by rw [← HM.out]; rfl, ⟨by rw [← HM.out]; exact HO1.out, H.out.rng⟩, HK1.out⟩
end Go.Proofs.Ytegcbdfilkecpaa
/- The stand-in disk: a file's bytes cut or made longer; condition: at most 1048576 bytes. -/
namespace Go.Proofs.Ytegcbdfilkecpaa
open Go.RowKit

theorem step_append_zeros {P : Program} {ops : Array Oper} {o : Oper} {a : Act} {w : World} {K : Act → World → Prop} {Q : Exit → Act → World → Prop} {E : Prop} (hgd : o.guard = none) (s x : Operand) (t tn : TypeId)
    (ho : o.op = .call { callee := .builtin .append, args := #[s, x], argTypes := #[t, tn] })
    (base : Nat) (e : TypeId) (i : TypeInfo) (z u : Value) (kq kn : IntKind) (ht : P.underlying t = some (.slice e)) (htn : P.underlying tn = some (.int kn)) (hi : P.info? e = some i) (hz : i.zero = some z)
    (hsize : i.size = 1) (hby : i.bytes = 1) (hzs : z.cells = #[u]) (hu : u.oneCell' = true)
    (v : Value) (n : Nat) (xs : List Value) (hs : a.eval s = v) (hown : w.ownsRow base e 1 v n xs) (k : Nat) (hx : a.eval x = .int kq k) (hk : 0 < k) (hb : n + k ≤ 1099511627776) (hbase : base ≤ w.heap.size)
    (h : ∀ v' w', w'.ownsRow base e 1 v' (n + k) (xs ++ List.replicate k u) → w.grownBy w' v.ownBlock → (∀ b, v'.ownBlock = some b → v.ownBlock = some b ∨ w.heap.size ≤ b) → K (a.put o.dst v') w') :
    if Region.wanted o (yielded ops a.tmps) = true then Oper.wp P o a w K Q else E := by
  have hw : Region.wanted o (yielded ops a.tmps) = true := by simp [Region.wanted, hgd]
  rw [if_pos hw]
  obtain ⟨v', w', hr, h1, h2, h3⟩ := append_zeros_own (P := P) w base t tn o.type e i z u kq kn ht htn hi hz hsize hby hzs hu v n xs hown k hk hb hbase
  exact Lib.wp_append_run w s x t tn ho _ _ hs hx v' w' hr (h v' w' h1 h2 h3)
theorem Bq.take {w : World} {n0 : Nat} {A : Option Addr} {m cap : Nat} {l : List Int} (h : Bq w n0 (.slice A m cap) l) (n : Nat) (hn : n ≤ l.length) : Bq w n0 (.slice A n cap) (l.take n) := by
  refine ⟨?_, fun x hx => h.rng x (List.mem_of_mem_take hx)⟩
  have hl : (l.take n).length = n := by simp; omega
  rw [hl]
  refine ⟨by simp; omega, ?_⟩
  rcases h.own.2 with ⟨e, h0⟩ | ⟨g, cap', cur, hv, hb, hh, h1, h2, h3, h4⟩
  · simp only [Value.slice.injEq] at e
    obtain ⟨rfl, _, rfl⟩ := e
    have : n = 0 := by omega
    subst this
    exact .inl ⟨rfl, rfl⟩
  · simp only [Value.slice.injEq] at hv
    obtain ⟨rfl, _, rfl⟩ := hv
    refine .inr ⟨g, cap, cur, rfl, hb, hh, by omega, h2, h3, ?_⟩
    rw [Nat.mul_one] at h4 ⊢
    rw [List.map_take, ← h4, List.take_take, Nat.min_eq_left hn]
theorem Bq.mono {w : World} {n0 n1 : Nat} {v : Value} {l : List Int} (h : Bq w n0 v l) (hn : n1 ≤ n0) : Bq w n1 v l := ⟨h.own.mono hn, h.rng⟩
theorem Bq.drew {w : World} {n0 : Nat} {v : Value} {l : List Int} (h : Bq w n0 v l) : Bq w.drew n0 v l := ⟨h.own, h.rng⟩
def GrowPost (w : World) (n0 fb o n : Nat) (cs : Array Value) (l : List Int) (w' : World) : Prop :=
  ∃ A cap, Blk w' fb 143 (cs.setIfInBounds o (.slice A n cap)) ∧ Bq w' n0 (.slice A n cap) (sizedF l n) ∧ Kp (OnB fb) w w'
set_option maxRecDepth 100000 in
set_option maxHeartbeats 1600000 in
theorem grow_ok (w : World) (n0 fb o : Nat) (cs : Array Value) (A : Option Addr) (m cap : Nat) (l : List Int) (n : Nat) (hm : l.length = m) (hl : m ≤ 1048576) (hn : n ≤ 1048576) (hn0 : n0 ≤ w.heap.size)
    (hb : Blk w fb 143 cs) (hc : cs[o]? = some (.slice A m cap)) (hq : Bq w n0 (.slice A m cap) l) :
    Calls Try.prog 154 #[.pointer (some ⟨fb, o, none⟩), .int .i64 n] w fun e w' => e = .returned (.tuple #[]) ∧ GrowPost w n0 fb o n cs l w' := by
  have HB := Lib.hid hb
  have HQ := Lib.hid hq
  have HM := Lib.hid hm
  have HN0 := Lib.hid hn0
  have c0 : w.cell? ⟨fb, o, none⟩ = some (.slice A m cap) := by rw [hb.cell]; exact hc
  have z0 := hb.frozen o
  have hmc : m ≤ cap := own_cap (show w.ownsRow n0 5 1 (.slice A m cap) m (l.map (Value.int .u8)) by have := hq.own; rwa [hm] at this)
  clear hb hc hq hm hn0
  by_cases hle : (n : Int) ≤ m
  · have hnc : n ≤ cap := by omega
    have hnl : n ≤ m := by omega
    have HNL := Lib.hid hnl
    have HLN : Hid ((l.take n).length = n) := Lib.hid (by rw [List.length_take, HM.out]; exact Nat.min_eq_left hnl)
    go_enter Try.func154, Try.ntmps154
    go_wp2_with (go_at_call 133; go_must (refine (clone_ok w n0 A n cap (l.take n) (by rw [List.length_take, HM.out]; exact (Nat.min_eq_left HNL.out).symm) (by simp; omega) (HQ.out.take n (by rw [HM.out]; exact HNL.out))).mono ?_); rintro e w2 ⟨B, c2', rfl, hq2, hk2⟩; rw [HLN.out] at hq2 ⊢; have HQ2 := Lib.hid hq2; have HK2 := Lib.hid hk2; have z2 := (HB.out.keep hk2 (fun q => q)).frozen o; have c2 : w2.cell? ⟨fb, o, none⟩ = some (.slice A m cap) := (by rw [hk2.cell HB.out.lt (fun q => q)]; exact c0); clear hq2 hk2)
    refine bodyPost_ret (results_none rfl _ _ _) rfl ⟨rfl, B, c2', ?_, ?_, ?_⟩
    · exact (HB.out.keep HK2.out (fun q => q)).set_ o (.slice B n c2')
    · have hsz : sizedF l n = l.take n := by unfold sizedF; rw [if_pos (by rw [HM.out]; exact HNL.out)]
      rw [hsz]
      exact (HQ2.out.mono HN0.out).keep ((Kp.refl (OnB fb) w2).setAt rfl o (.slice B n c2')) (fun g cs' hc q => onb_cells (HB.out.keep HK2.out (fun q => q)) hc (by decide) q)
    · exact (HK2.out.mono (S' := OnB fb) (fun _ _ q => q.elim)).setAt rfl _ _
  · obtain ⟨k, hk⟩ : ∃ k, n - m = k := ⟨_, rfl⟩
    obtain ⟨N, hN⟩ : ∃ N : Int, (n : Int) = N := ⟨_, rfl⟩
    obtain ⟨j0, hj0, hy0, hy1, hy2⟩ := info_parts infoU8'
    have HJ0 := Lib.hid hj0
    have HY0 := Lib.hid hy0
    have HY1 := Lib.hid hy1
    have HY2 := Lib.hid hy2
    have HKN := Lib.hid (show n = m + k ∧ 0 < k ∧ m + k ≤ 1099511627776 by omega)
    have HLL := Lib.hid (show l.length ≤ 1099511627776 by rw [HM.out]; omega)
    have hw : IntKind.i64.wrap (N - (m : Int)) = (k : Int) := by rw [IntKind.wrap_i64]; omega
    have g1 : ¬ N ≤ (m : Int) := by omega
    rw [hN]
    have HNN := Lib.hid hN
    clear hle hk hN hl hn hj0 hy0 hy1 hy2
    go_enter Try.func154, Try.ntmps154
    go_wp2_with fail
    go_region_law (first
      | (refine step_append_zeros (by rfl) (.tmp 26) (.tmp 33) 42 3 (by rfl) w.heap.size 5 j0 (.int .u8 0) (.int .u8 0) .i64 .i64 Try.underlying42 Try.underlying3 HJ0.out HY0.out HY1.out HY2.out rfl rfl (.slice B m c2') m (l.map (Value.int .u8)) (by rfl) HO2.out k (by rfl) HKN.out.2.1 HKN.out.2.2 HK2.out.size ?_; intro v3 w3 hown3 hgrow3 _; obtain ⟨C, c3, rfl⟩ := own_slice hown3; have HO3 := Lib.hid hown3; have hk3 := HK2.out.own (v := .slice B m c2') hgrow3 rfl HO2.out; have HK3 := Lib.hid hk3; have z3 := (HB.out.keep hk3 (fun q => q)).frozen o; have c3' : w3.cell? ⟨fb, o, none⟩ = some (.slice A m cap) := (by rw [hk3.cell HB.out.lt (fun q => q)]; exact c0); clear hown3 hgrow3 hk3)
      | (go_simp; go_at_call 133; go_must (refine (clone_ok w.drew n0 A m cap l HM.out.symm HLL.out HQ.out.drew).mono ?_); rintro e w2 ⟨B, c2', rfl, hq2, hk2⟩; rw [HM.out] at hq2 ⊢; have HO2 := Lib.hid (show w2.ownsRow w.heap.size 5 1 (.slice B m c2') m (l.map (Value.int .u8)) by have := hq2.own; rwa [HM.out] at this); have HK2 := Lib.hid ((Kp.refl NoB w).drew.trans hk2 (fun _ _ q => q)); have z2 := (HB.out.keep HK2.out (fun q => q)).frozen o; have c2 : w2.cell? ⟨fb, o, none⟩ = some (.slice A m cap) := (by rw [HK2.out.cell HB.out.lt (fun q => q)]; exact c0); clear hq2 hk2)
      | go_simp)
    all_goals
      obtain ⟨rfl, hk0, _⟩ := HKN.out
      have e1 : sizedF l (m + k) = l ++ List.replicate k 0 := by unfold sizedF; rw [if_neg (by rw [HM.out]; omega), HM.out, Nat.add_sub_cancel_left]
      have hq3 : Bq w3 n0 (.slice C (m + k) c3) (sizedF l (m + k)) := ⟨by rw [sizedF_len, e1, List.map_append, List.map_replicate]; exact HO3.out.mono HN0.out, sizedF_rng HQ.out.rng _⟩
      refine bodyPost_end (results_none rfl _ _ _) rfl ⟨rfl, C, c3, ?_, ?_, ?_⟩
      · exact (HB.out.keep HK3.out (fun q => q)).set_ o (.slice C (m + k) c3)
      · exact hq3.keep ((Kp.refl (OnB fb) w3).setAt rfl o (.slice C (m + k) c3)) (fun g cs' hc q => onb_cells (HB.out.keep HK3.out (fun q => q)) hc (by decide) q)
      · exact (HK3.out.mono (S' := OnB fb) (fun _ _ q => q.elim)).setAt rfl _ _
end Go.Proofs.Ytegcbdfilkecpaa
