/- The program's Decode: what row a text is the record of; no condition. -/
import Derived.Test.YtlcefenjlchaiaaDoorRcDecF
import Derived.Test.YtlcefenjlchaiaaDoorOwnB
namespace Go.Proofs.YtlcefenjlchaiaaDoor
open Go.RowKit

theorem infoU64 : (Tryd.prog.info? 41).map (fun i => (i.zero, i.size, i.bytes)) = some (some (.int .u64 0), 1, 8) := by kernel_rfl
def u64s (ts : List Nat) : List Value := ts.map fun (t : Nat) => Value.int .u64 (t : Int)
theorem infoVal : (Tryd.prog.info? 34).map (fun i => (i.zero, i.size, i.bytes)) = some (some (.agg #[.int .i64 0, .int .i64 0, .string ByteArray.empty]), 3, 32) := by kernel_rfl
theorem cells_new (w : World) (cs : List Value) (t : TypeId) : ∀ j u, cs[j]? = some u → (w.alloc (.cells cs.toArray t)).cell? ((⟨w.heap.size, 0, none⟩ : Addr).add j) = some u := by
  intro j u hj
  rw [add_mk, Nat.zero_add, (Blk.new w t cs.toArray).cell]
  simpa using hj
def rvCells (vs : List RV) : List Value := vs.flatMap fun v => [.int .i64 v.k, .int .i64 v.i, .string v.s]
theorem own_one {w : World} {base : Nat} {e : TypeId} {size n : Nat} {v : Value} {xs : List Value} (h : w.ownsRow base e size v n xs) : v.oneCell' = true := by
  rcases h.2 with ⟨rfl, _⟩ | ⟨g, cap, cur, rfl, _⟩ <;> rfl
theorem rvCells_len (vs : List RV) : (rvCells vs).length = 3 * vs.length := by
  unfold rvCells
  induction vs with
  | nil => rfl
  | cons v vs ih => rw [List.flatMap_cons, List.length_append, ih]; simp; omega
theorem rvCells_get (vs : List RV) (ds : List Value) : ∀ (j : Nat), j < vs.length → (rvCells vs ++ ds)[j * 3]? = some (.int .i64 (vs.getD j RV.nul).k) ∧ (rvCells vs ++ ds)[j * 3 + 1]? = some (.int .i64 (vs.getD j RV.nul).i) ∧ (rvCells vs ++ ds)[j * 3 + 2]? = some (.string (vs.getD j RV.nul).s) := by
  unfold rvCells
  induction vs with
  | nil => intro j hj; simp at hj
  | cons v vs ih =>
    intro j hj
    cases j with
    | zero => simp
    | succ j =>
      have := ih j (by simpa using hj)
      rw [List.flatMap_cons]
      rw [show (j + 1) * 3 = j * 3 + 3 by omega]
      simpa using this
theorem rw_of_own {w : World} {base n : Nat} {A : Option Addr} {cap : Nat} {vs : List RV} (h : w.ownsRow base 34 3 (.slice A n cap) n (rvCells vs)) (hok : ∀ v ∈ vs, v.ok) : vs.length = n ∧ Rw w A n vs := by
  have hl : vs.length = n := by have := h.1; rw [rvCells_len] at this; omega
  refine ⟨hl, hl, hok, fun hn => ?_⟩
  obtain ⟨g, ds, e, _, hB⟩ := own_blkN h hn
  refine ⟨g, 0, e, hB.lt, fun j hj => ?_⟩
  have hg := rvCells_get vs ds j (by omega)
  rw [hB.cell, hB.cell, hB.cell]
  simp only [List.getElem?_toArray, Nat.zero_add]
  exact hg
/-- in the midst of Decode -/
structure DS (w : World) (s : ByteArray) (v : Value) (e : Int) (a : Nat) (W : World) : Prop where
  kp : Kp NoB w W
  b2 : Blk W w.heap.size 22 #[v]
  b3 : Blk W (w.heap.size + 1) 35 #[.int .i64 e]
  rd : Rd W (w.heap.size + 1 + 1) s a
  av : a ≤ s.size
theorem DS.num {w W W' : World} {s : ByteArray} {v : Value} {e : Int} {a b : Nat} (h : DS w s v e a W) (k : Kp (OnB (w.heap.size + 1 + 1)) W W') (hr : Rd W' (w.heap.size + 1 + 1) s b) (hb : b ≤ s.size) : DS w s v e b W' :=
  ⟨h.kp.trans k (fun i hi q => by unfold OnB at q; omega), h.b2.keep k (fun q => by unfold OnB at q; omega), h.b3.keep k (fun q => by unfold OnB at q; omega), hr, hb⟩
theorem DS.keep {w W W' : World} {s : ByteArray} {v : Value} {e : Int} {a : Nat} (h : DS w s v e a W) (k : Kp NoB W W') : DS w s v e a W' :=
  ⟨h.kp.trans k (fun _ _ q => q), h.b2.keep k (fun q => q), h.b3.keep k (fun q => q), h.rd.keep k (fun q => q), h.av⟩
theorem DS.grown {w W W' : World} {s : ByteArray} {v : Value} {e : Int} {a : Nat} {row : Option Nat} (h : DS w s v e a W) (hg : W.grownBy W' row) (hr : ∀ k, row = some k → w.heap.size + 1 + 1 + 1 ≤ k) : DS w s v e a W' := by
  have K : Kp (fun k => w.heap.size + 1 + 1 + 1 ≤ k) W W' := (Kp.refl _ W).grown hg (fun k hk => .inr (hr k hk))
  exact ⟨h.kp.trans K (fun i hi q => by omega), h.b2.keep K (fun q => by omega), h.b3.keep K (fun q => by omega), h.rd.keep K (fun q => by omega), h.av⟩
def DecPost (w : World) (r : Option (List RV)) (e : Ending) (w' : World) : Prop :=
  Kp NoB w w' ∧ match r with
    | none => e = .returned (.tuple #[.slice none 0 0, .int .i64 8])
    | some vs => ∃ A cap, e = .returned (.tuple #[.slice A vs.length cap, .int .i64 0]) ∧ Rw w' A vs.length vs ∧ (A = none → vs.length = 0 ∧ cap = 0)
theorem dec_results (w : World) (tmps : Array Value) (b2 b3 : Nat) (x y : Value) (h2 : tmps.getD 2 undef = .pointer (some ⟨b2, 0, none⟩)) (h3 : tmps.getD 3 undef = .pointer (some ⟨b3, 0, none⟩)) (c2 : Blk w b2 22 #[x]) (c3 : Blk w b3 35 #[y]) :
    (results Tryd.f12 tmps).run Tryd.prog w = .ok (.tuple #[x, y]) w := by
  have d2 : w.cell? ⟨b2, 0, none⟩ = some x := c2.cell 0
  have d3 : w.cell? ⟨b3, 0, none⟩ = some y := c3.cell 0
  have h2' : tmps[2]?.getD undef = .pointer (some ⟨b2, 0, none⟩) := by simpa using h2
  have h3' : tmps[3]?.getD undef = .pointer (some ⟨b3, 0, none⟩) := by simpa using h3
  simp [results, Tryd.results12, go_sem, h2', h3', d2, d3]
abbrev decDefer (w : World) : Deferred := { target := Target.fn (Fn.func 19) #[.pointer (some ⟨w.heap.size, 0, none⟩), .pointer (some ⟨w.heap.size + 1, 0, none⟩)], args := #[] }
/-- the results' boxes in the midst of Decode -/
structure DB (w : World) (v : Value) (e : Int) (W : World) : Prop where
  kp : Kp NoB w W
  b2 : Blk W w.heap.size 22 #[v]
  b3 : Blk W (w.heap.size + 1) 35 #[.int .i64 e]
theorem door_brk {w W : World} {s : ByteArray} {v : Value} {e : Int} {tmps : Array Value} (h : DB w v e W) (hv : v.oneCell' = true) (hn : decF s = none)
    (h2 : tmps.getD 2 undef = .pointer (some ⟨w.heap.size, 0, none⟩)) (h3 : tmps.getD 3 undef = .pointer (some ⟨w.heap.size + 1, 0, none⟩)) :
    Leaves Tryd.prog Tryd.f12 tmps (DecPost w (decF s)) [decDefer w] (.panicking [{ v := brkV, recovered := false }]) W := by
  refine leaves_cons (f := 19) (args := #[.pointer (some ⟨w.heap.size, 0, none⟩), .pointer (some ⟨w.heap.size + 1, 0, none⟩)]) (by simp) (by simp [go_sem]) ?_
  refine (catch_brk _ _ v e [] W h.b2 h.b3 hv (by omega)).mono ?_
  rintro e u' w'' ⟨rfl, rfl, k, b2, b3⟩
  refine ⟨_, dec_results w'' tmps _ _ _ _ h2 h3 b2 b3, ?_⟩
  rw [hn]
  exact ⟨h.kp.trans k (fun i hi q => by omega), rfl⟩
theorem door_ret {w W : World} {s : ByteArray} {v : Value} {e : Int} {a : Nat} {tmps : Array Value} {R : Ending → World → Prop} (h : DS w s v e a W) (hr : R (.returned (.tuple #[v, .int .i64 e])) W)
    (h2 : tmps.getD 2 undef = .pointer (some ⟨w.heap.size, 0, none⟩)) (h3 : tmps.getD 3 undef = .pointer (some ⟨w.heap.size + 1, 0, none⟩)) :
    Leaves Tryd.prog Tryd.f12 tmps R [decDefer w] .returning W := by
  refine leaves_cons (f := 19) (args := #[.pointer (some ⟨w.heap.size, 0, none⟩), .pointer (some ⟨w.heap.size + 1, 0, none⟩)]) (by simp) (by simp [go_sem]) ?_
  refine (catch_idle _ _ W).mono ?_
  rintro e u' w'' ⟨rfl, rfl, rfl⟩
  exact ⟨_, dec_results w'' tmps _ _ _ _ h2 h3 h.b2 h.b3, hr⟩
theorem dec_results_put (tmps : Array Value) (d : Nat) (h2 : d ≠ 2) (h3 : d ≠ 3) (v : Value) : results Tryd.f12 (tmps.setIfInBounds d v) = results Tryd.f12 tmps := by
  have e2 : (tmps.setIfInBounds d v)[2]?.getD undef = tmps[2]?.getD undef := by rw [Array.getElem?_setIfInBounds_ne h2]
  have e3 : (tmps.setIfInBounds d v)[3]?.getD undef = tmps[3]?.getD undef := by rw [Array.getElem?_setIfInBounds_ne h3]
  simp [results, Tryd.results12, e2, e3]
theorem dec_put (R : Ending → World → Prop) (d : Nat) (h2 : d ≠ 2) (h3 : d ≠ 3) (v : Value) (tmps : Array Value) : ∀ (ds : List Deferred) (u : FrameMode) (w : World), Leaves Tryd.prog Tryd.f12 (tmps.setIfInBounds d v) R ds u w → Leaves Tryd.prog Tryd.f12 tmps R ds u w
  | [], .returning, w, h => by
    unfold Leaves at h ⊢
    rw [dec_results_put tmps d h2 h3 v] at h
    exact h
  | [], .panicking _, w, h => h
  | [], .run, w, h => h
  | x :: ds, u, w, h => by
    obtain ⟨hu, fv, cap, f, args, e1, e2, hc⟩ := h
    refine ⟨hu, fv, cap, f, args, e1, e2, hc.mono ?_⟩
    intro e u' w' hq
    cases e with
    | returned _ => exact dec_put R d h2 h3 v tmps ds _ _ hq
    | panicked _ => exact dec_put R d h2 h3 v tmps ds _ _ hq
    | outgrown => exact hq
def DNum (w W : World) (s : ByteArray) (v : Value) (e : Int) (r : Option (Nat × Nat)) (en : Ending) (w' : World) : Prop :=
  Kp (OnB (w.heap.size + 1 + 1)) W w' ∧ match r with
  | none => en = .panicked [{ v := brkV, recovered := false }] ∧ DB w v e w'
  | some (u, b) => en = .returned (.int .u64 u) ∧ DS w s v e b w'
theorem DNum.none {w W : World} {s : ByteArray} {v : Value} {e : Int} {en : Ending} {w' : World} (h : DNum w W s v e none en w') : en = .panicked [{ v := brkV, recovered := false }] ∧ DB w v e w' ∧ Kp (OnB (w.heap.size + 1 + 1)) W w' := ⟨h.2.1, h.2.2, h.1⟩
theorem DNum.some {w W : World} {s : ByteArray} {v : Value} {e : Int} {u b : Nat} {en : Ending} {w' : World} (h : DNum w W s v e (some (u, b)) en w') : en = .returned (.int .u64 u) ∧ DS w s v e b w' ∧ Kp (OnB (w.heap.size + 1 + 1)) W w' := ⟨h.2.1, h.2.2, h.1⟩
theorem DS.db {w W W' : World} {s : ByteArray} {v : Value} {e : Int} {a : Nat} (h : DS w s v e a W) (k : Kp (OnB (w.heap.size + 1 + 1)) W W') : DB w v e W' :=
  ⟨h.kp.trans k (fun i hi q => by unfold OnB at q; omega), h.b2.keep k (fun q => by unfold OnB at q; omega), h.b3.keep k (fun q => by unfold OnB at q; omega)⟩
theorem dnum_ok {w W : World} {s : ByteArray} {v : Value} {e : Int} {a : Nat} (h : DS w s v e a W) (hs : s.size ≤ 9223372036854775807) :
    Calls Tryd.prog 20 #[.pointer (some ⟨w.heap.size + 1 + 1, 0, none⟩)] W (DNum w W s v e (numF s a)) := by
  refine (number_ok W (w.heap.size + 1 + 1) s a hs h.av h.rd).mono ?_
  intro en w' hq
  unfold numF
  cases hv : varF (s.extract a s.size) with
  | none =>
    rw [hv] at hq
    exact ⟨hq.2, hq.1, h.db hq.2⟩
  | some q =>
    obtain ⟨u, n⟩ := q
    rw [hv] at hq
    have hf := varF_facts _ _ _ hv
    have h4 := hf.2.2.2
    simp at h4
    exact ⟨hq.2.1, hq.1, h.num hq.2.1 hq.2.2 (by have := h.av; omega)⟩
theorem DS.set {w W : World} {s : ByteArray} {v : Value} {e : Int} {a : Nat} (h : DS w s v e a W) (v' : Value) (e' : Int) : DS w s v' e' a ((W.setCell ⟨w.heap.size, 0, none⟩ v').setCell ⟨w.heap.size + 1, 0, none⟩ (.int .i64 e')) := by
  refine ⟨(h.kp.setCell (p := ⟨w.heap.size, 0, none⟩) (.inl (Nat.le_refl _)) _).setCell (p := ⟨w.heap.size + 1, 0, none⟩) (.inl (by show _ ≤ w.heap.size + 1; omega)) _, ?_, ?_, ?_, h.av⟩
  · exact (h.b2.set_ 0 v').far (p := ⟨w.heap.size + 1, 0, none⟩) (by simp) _
  · exact (h.b3.far (p := ⟨w.heap.size, 0, none⟩) (by simp) _).set_ 0 (.int .i64 e')
  · exact (h.rd.far (p := ⟨w.heap.size, 0, none⟩) (by simp; omega) _).far (p := ⟨w.heap.size + 1, 0, none⟩) (by simp) _
theorem DS.set2 {w W : World} {s : ByteArray} {v : Value} {e : Int} {a : Nat} (h : DS w s v e a W) (v' : Value) : DS w s v' e a (W.setCell ⟨w.heap.size, 0, none⟩ v') :=
  ⟨h.kp.setCell (p := ⟨w.heap.size, 0, none⟩) (.inl (Nat.le_refl _)) _, h.b2.set_ 0 v', h.b3.far (p := ⟨w.heap.size, 0, none⟩) (by simp) _, h.rd.far (p := ⟨w.heap.size, 0, none⟩) (by simp; omega) _, h.av⟩
theorem own_setBox {w W : World} {e : TypeId} {size n : Nat} {v : Value} {xs : List Value} (h : W.ownsRow (w.heap.size + 1 + 1 + 1) e size v n xs) (u : Value) : (W.setCell ⟨w.heap.size, 0, none⟩ u).ownsRow (w.heap.size + 1 + 1 + 1) e size v n xs :=
  own_keep h (S := OnB w.heap.size) (Kp.setCell (S := OnB w.heap.size) (Kp.refl _ W) (p := ⟨w.heap.size, 0, none⟩) (.inr rfl) u) (fun g hg _ q => by unfold OnB at q; omega)
theorem rvCells_snoc (vs : List RV) (x : RV) : rvCells (vs ++ [x]) = rvCells vs ++ [.int .i64 x.k, .int .i64 x.i, .string x.s] := by simp [rvCells]
theorem DS.set3 {w W : World} {s : ByteArray} {v : Value} {e : Int} {a : Nat} (h : DS w s v e a W) (e' : Int) : DS w s v e' a (W.setCell ⟨w.heap.size + 1, 0, none⟩ (.int .i64 e')) :=
  ⟨h.kp.setCell (p := ⟨w.heap.size + 1, 0, none⟩) (.inl (by show _ ≤ w.heap.size + 1; omega)) _, h.b2.far (p := ⟨w.heap.size + 1, 0, none⟩) (by simp) _, h.b3.set_ 0 (.int .i64 e'), h.rd.far (p := ⟨w.heap.size + 1, 0, none⟩) (by simp) _, h.av⟩
theorem own_setBox3 {w W : World} {e : TypeId} {size n : Nat} {v : Value} {xs : List Value} (h : W.ownsRow (w.heap.size + 1 + 1 + 1) e size v n xs) (u : Value) : (W.setCell ⟨w.heap.size + 1, 0, none⟩ u).ownsRow (w.heap.size + 1 + 1 + 1) e size v n xs :=
  own_keep h (S := OnB (w.heap.size + 1)) (Kp.setCell (S := OnB (w.heap.size + 1)) (Kp.refl _ W) (p := ⟨w.heap.size + 1, 0, none⟩) (.inr rfl) u) (fun g hg _ q => by unfold OnB at q; omega)
theorem door_bad {w W : World} {s : ByteArray} {v : Value} {e : Int} {a : Nat} {tmps : Array Value} (h : DS w s v e a W) (hn : decF s = none)
    (h2 : tmps.getD 2 undef = .pointer (some ⟨w.heap.size, 0, none⟩)) (h3 : tmps.getD 3 undef = .pointer (some ⟨w.heap.size + 1, 0, none⟩)) :
    Leaves Tryd.prog Tryd.f12 tmps (DecPost w (decF s)) [decDefer w] .returning ((W.setCell ⟨w.heap.size, 0, none⟩ (.slice none 0 0)).setCell ⟨w.heap.size + 1, 0, none⟩ (.int .i64 8)) := by
  have hd := h.set (.slice none 0 0) 8
  exact door_ret hd (by rw [hn]; exact ⟨hd.kp, rfl⟩) h2 h3
def DVal (w W : World) (s : ByteArray) (v : Value) (e : Int) (r : Option (RV × Nat)) (en : Ending) (w' : World) : Prop :=
  Kp (OnB (w.heap.size + 1 + 1)) W w' ∧ match r with
  | none => en = .panicked [{ v := brkV, recovered := false }] ∧ DB w v e w'
  | some (x, b) => en = .returned (.agg #[.int .i64 x.k, .int .i64 x.i, .string x.s]) ∧ DS w s v e b w' ∧ x.ok
theorem DVal.none {w W : World} {s : ByteArray} {v : Value} {e : Int} {en : Ending} {w' : World} (h : DVal w W s v e none en w') : en = .panicked [{ v := brkV, recovered := false }] ∧ DB w v e w' ∧ Kp (OnB (w.heap.size + 1 + 1)) W w' := ⟨h.2.1, h.2.2, h.1⟩
theorem DVal.some {w W : World} {s : ByteArray} {v : Value} {e : Int} {x : RV} {b : Nat} {en : Ending} {w' : World} (h : DVal w W s v e (some (x, b)) en w') : en = .returned (.agg #[.int .i64 x.k, .int .i64 x.i, .string x.s]) ∧ DS w s v e b w' ∧ x.ok ∧ Kp (OnB (w.heap.size + 1 + 1)) W w' := ⟨h.2.1, h.2.2.1, h.2.2.2, h.1⟩
theorem dval_ok {w W : World} {s : ByteArray} {v : Value} {e : Int} {a : Nat} (t : Nat) (h : DS w s v e a W) (hs : s.size ≤ 9223372036854775807) (ht : t < 18446744073709551616) :
    Calls Tryd.prog 21 #[.pointer (some ⟨w.heap.size + 1 + 1, 0, none⟩), .int .u64 t] W (DVal w W s v e (valF t s a)) := by
  refine (value_ok W (w.heap.size + 1 + 1) s a t hs h.av ht h.rd).mono ?_
  intro en w' hq
  cases hv : valF t s a with
  | none =>
    rw [hv] at hq
    exact ⟨hq.2, hq.1, h.db hq.2⟩
  | some q =>
    obtain ⟨x, b⟩ := q
    rw [hv] at hq
    have hf := valF_facts hs hv h.av
    exact ⟨hq.2.1, hq.1, h.num hq.2.1 hq.2.2 hf.2, hf.1⟩
set_option maxRecDepth 100000 in
set_option maxHeartbeats 4000000 in
theorem dec_ok (w : World) (s : ByteArray) (hs : s.size ≤ 9223372036854775807) : Calls Tryd.prog 12 #[.string s] w (DecPost w (decF s)) := by
  have hmf : ∀ (fn : Fn) (first cap : Array Value) (w : World), (Instr.makeFunc fn first cap).run Tryd.prog w = .ok (.func fn first cap) w := fun _ _ _ _ => rfl
  have hst : DS w s (.slice none 0 0) 0 0 (((w.alloc (.cells #[.slice none 0 0] 22)).alloc (.cells #[.int .i64 0] 35)).alloc (.cells #[.string s, .int .i64 0] 51)) :=
    ⟨(((Kp.refl _ _).alloc _).alloc _).alloc _, ((Blk.new _ _ _).alloc _).alloc _, (Blk.newAt _ _ _ _ (by simp)).alloc _, Blk.newAt _ _ _ _ (by simp), by omega⟩
  have HST := Lib.hid hst
  clear hst
  cases hn : numF s 0 with
  | none =>
    have HN := Lib.hid hn
    have HF := Lib.hid (show decF s = none by unfold decF; rw [hn])
    clear hn
    go_enter_defers Tryd.func12, Tryd.ntmps12
    go_wp2_with (go_at_call 20; go_must (refine (dnum_ok HST.out hs).mono ?_); rw [HN.out]; rintro en w2 hq; obtain ⟨rfl, hb, hk⟩ := hq.none; have HB := Lib.hid hb; clear hq hb hk)
    exact door_brk HB.out rfl HF.out rfl rfl
  | some q =>
    obtain ⟨n, a0⟩ := q
    have HN := Lib.hid hn
    have hnf := numF_facts hn (by omega)
    have HNF := Lib.hid hnf
    clear hn hnf
    by_cases h16 : (16 : Int) < n
    · have HF := Lib.hid (show decF s = none by unfold decF; rw [HN.out]; simp only; rw [if_pos (by omega)])
      go_enter_defers Tryd.func12, Tryd.ntmps12
      go_wp2_with (go_at_call 20; go_must (refine (dnum_ok HST.out hs).mono ?_); rw [HN.out]; rintro en w2 hq; obtain ⟨rfl, hb, hk⟩ := hq.some; have HB := Lib.hid hb; have c2 : w2.cell? ⟨w.heap.size, 0, none⟩ = some (.slice none 0 0) := hb.b2.cell 0; have c3 : w2.cell? ⟨w.heap.size + 1, 0, none⟩ = some (.int .i64 0) := hb.b3.cell 0; have z2 := hb.b2.frozen 0; have z3 := hb.b3.frozen 0; clear hq hb hk)
      exact door_bad HB.out HF.out rfl rfl
    · have HF := Lib.hid (show decF s = match typesF s n a0 with
          | none => none
          | some (ts, a') => match valsF s ts a' with
            | none => none
            | some (vs, _) => if encF vs = (s, 0) then some vs else none by unfold decF; rw [HN.out]; simp only; rw [if_neg (by omega)]; rfl)
      obtain ⟨j0, hj0, hy0, hy1, hy2⟩ := info_parts infoVal
      have HJ0 := Lib.hid hj0
      have HY0 := Lib.hid hy0
      have HY1 := Lib.hid hy1
      have HY2 := Lib.hid hy2
      clear hj0 hy0 hy1 hy2
      obtain ⟨i0, hi0, hz0, hz1, hz2⟩ := info_parts infoU64
      have HI0 := Lib.hid hi0
      have HZ0 := Lib.hid hz0
      have HZ1 := Lib.hid hz1
      have HZ2 := Lib.hid hz2
      have hn16 : (n : Int) ≤ 16 := by omega
      clear hi0 hz0 hz1 hz2
      go_enter_defers Tryd.func12, Tryd.ntmps12
      go_wp2_with (go_at_call 20; go_must (refine (dnum_ok HST.out hs).mono ?_); rw [HN.out]; rintro en w2 hq; obtain ⟨rfl, hb, hk⟩ := hq.some; have HB := Lib.hid hb; have c2 : w2.cell? ⟨w.heap.size, 0, none⟩ = some (.slice none 0 0) := hb.b2.cell 0; have c3 : w2.cell? ⟨w.heap.size + 1, 0, none⟩ = some (.int .i64 0) := hb.b3.cell 0; have z2 := hb.b2.frozen 0; have z3 := hb.b3.frozen 0; clear hq hb hk)
      go_loopw [7, 22] (fun tv i wr => ∃ (k a : Nat) (ts : List Nat), k ≤ n ∧ i = .int .u64 k ∧ DS w s (.slice none 0 0) 0 a wr ∧ wr.ownsRow (w.heap.size + 1 + 1 + 1) 41 1 tv k (u64s ts) ∧ typesF s k a0 = some (ts, a) ∧ ∀ t ∈ ts, t < 18446744073709551616) (fun _ i _ => n - (intOf i).toNat)
      case atStart => exact ⟨0, a0, [], by omega, rfl, HB.out, World.ownsRow_nil _ _ _ _, rfl, fun t ht => by simp at ht⟩
      case round =>
        obtain ⟨k, a, ts, hk, rfl, hD, hown, hts, htb⟩ := hrel
        have HD := Lib.hid hD
        have HOWN := Lib.hid hown
        have HTS := Lib.hid hts
        have HTB := Lib.hid htb
        clear hD hown hts htb
        by_cases hlt : k < n
        · cases hn2 : numF s a with
          | none =>
            have HN2 := Lib.hid hn2
            have HF2 := Lib.hid (show decF s = none by rw [HF.out, typesF_none s n (k + 1) a0 (by rw [typesF_snoc, HTS.out]; simp only; rw [hn2]; rfl) (by omega)])
            clear hn2
            go_wp2_with (go_at_call 20; go_must (refine (dnum_ok HD.out hs).mono ?_); rw [HN2.out]; rintro en w3 hq; obtain ⟨rfl, hb, hk⟩ := hq.none; have HB3 := Lib.hid hb; clear hq hb hk)
            exact door_brk HB3.out rfl HF2.out rfl rfl
          | some q =>
            obtain ⟨t, b⟩ := q
            have HN2 := Lib.hid hn2
            have htn := (numF_facts hn2 HD.out.av).1
            have HTS2 := Lib.hid (show typesF s (k + 1) a0 = some (ts ++ [t], b) by rw [typesF_snoc, HTS.out]; simp only; rw [hn2]; rfl)
            clear hn2
            go_wp2_with (first
              | (go_at_call 20; go_must (refine (dnum_ok HD.out hs).mono ?_); rw [HN2.out]; rintro en w3 hq; obtain ⟨rfl, hb, hk⟩ := hq.some; have HB3 := Lib.hid hb; have HOWN3 := Lib.hid (own_keep HOWN.out hk (fun g hg _ q => by unfold OnB at q; omega)); have hsz3 := hb.b3.lt; have hrd3 := hb.rd.lt; clear hq hb hk)
              | (at_builtin; refine wpList_append_own _ rfl _ _ 53 rfl (w.heap.size + 1 + 1 + 1) 41 i0 _ 1 8 Tryd.underlying53 HI0.out HZ0.out HZ1.out HZ2.out rfl (by omega) _ k (u64s ts) rfl (own_keep HOWN3.out ((Kp.refl NoB w3).alloc _) (fun _ _ _ q => q)) ⟨w3.heap.size, 0, none⟩ 1 1 [_] rfl rfl (cell_one_new _ _ _) (by simp [Value.oneCell']) (by unfold maxLen; omega) (by omega) (by simp; omega) ?_; intro v1 w4 hown4 hgrow4 _; have HB4 := Lib.hid ((HB3.out.keep ((Kp.refl NoB w3).alloc _)).grown hgrow4 (own_ge HOWN3.out)); have HOWN4 := Lib.hid hown4; clear hown4 hgrow4))
            exact ⟨⟨k + 1, b, ts ++ [t], by omega, by congr 1, HB4.out, by have := HOWN4.out; simpa [u64s] using this, HTS2.out, fun x hx => by rcases List.mem_append.1 hx with q | q; exact HTB.out x q; simp at q; omega⟩, by simp [intOf]; omega⟩
        · obtain rfl : k = n := by omega
          obtain ⟨TA, tcap, rfl⟩ := own_slice HOWN.out
          have HLT := Lib.hid (show ts.length = k by have := HOWN.out.1; simpa [u64s] using this)
          obtain ⟨wo, hwo⟩ : ∃ wo : World, wo = wr := ⟨_, rfl⟩
          rw [← hwo] at HD HOWN ⊢
          clear hwo
          go_wp2_with fail
          go_loopw [9, 32] (fun _ i wx => ∃ (m b : Nat) (rv : Value) (vs : List RV), m ≤ k ∧ i = .int .i64 m ∧ DS w s rv 0 b wx ∧ wx.ownsRow (w.heap.size + 1 + 1 + 1) 34 3 rv m (rvCells vs) ∧ wx.ownsRow (w.heap.size + 1 + 1 + 1) 41 1 (.slice TA k tcap) k (u64s ts) ∧ valsF s (ts.take m) a = some (vs, b) ∧ ∀ v ∈ vs, v.ok) (fun _ i _ => k - (intOf i).toNat)
          case atStart => exact ⟨0, a, _, [], by omega, rfl, HD.out, World.ownsRow_nil _ _ _ _, HOWN.out, rfl, fun t ht => by simp at ht⟩
          case round =>
            obtain ⟨m, b, rv, vs, hm, rfl, hD2, hrow, htyp, hvs, hok⟩ := hrel
            have HD2 := Lib.hid hD2
            have HROW := Lib.hid hrow
            have HTYP := Lib.hid htyp
            have HVS := Lib.hid hvs
            have HOK := Lib.hid hok
            clear hD2 hrow htyp hvs hok
            by_cases hmk : m < k
            · obtain ⟨tg, tds, rfl, htg, htB⟩ := own_blk1 HTYP.out (by omega)
              obtain ⟨t, ht⟩ : ∃ t, ts.getD m 0 = t := ⟨_, rfl⟩
              have ctm : wr.cell? ⟨tg, m, none⟩ = some (.int .u64 (t : Int)) := by
                rw [htB.cell, List.getElem?_toArray, List.getElem?_append_left (by simp [u64s, HLT.out]; exact hmk)]
                simp [u64s, HLT.out, hmk, ← ht]
              have htb : t < 18446744073709551616 := HTB.out t (by rw [← ht]; simp [HLT.out, hmk])
              have HT := Lib.hid ht
              clear htB ht
              have c2 : wr.cell? ⟨w.heap.size, 0, none⟩ = some rv := HD2.out.b2.cell 0
              have HD3 := Lib.hid (HD2.out.keep (Kp.refl NoB wr).drew)
              cases hv : valF t s b with
              | none =>
                have HV := Lib.hid hv
                have HF2 := Lib.hid (show decF s = none by
                  rw [HF.out, HTS.out]
                  simp only
                  rw [valsF_none s ts (m + 1) a (by rw [List.take_succ_eq_append_getElem (by rw [HLT.out]; exact hmk), valsF_snoc, HVS.out]; simp only; rw [show ts[m]'(by rw [HLT.out]; exact hmk) = t by rw [← HT.out]; simp [HLT.out, hmk], hv]; rfl)])
                clear hv
                go_wp2_with fail
                have c2d : wr.drew.cell? ⟨w.heap.size, 0, none⟩ = some rv := c2
                refine wp_region_held_drew (S := fun w' => w'.cell? ⟨w.heap.size, 0, none⟩ = some rv) (by kernel_rfl) c2d (fun hHeld => ?_)
                refine wpAnyH_take (i := 0) (v := rv) rfl (by kernel_rfl) (by kernel_rfl) (by kernel_rfl) (fun c a w h => dec_put _ 36 (by decide) (by decide) _ _ _ _ _ h) (Or.inl ⟨by rfl, ?_⟩) hHeld ?_
                · intro w hSw
                  go_simp
                simp only [Act.put, List.setIfInBounds_toArray, List.set_cons_zero, List.set_cons_succ]
                refine wpAnyH_take (i := 1) (v := .pointer (some ⟨w.heap.size + 1 + 1, 0, none⟩)) rfl (by kernel_rfl) (by kernel_rfl) (by kernel_rfl) (fun c a w h => dec_put _ 37 (by decide) (by decide) _ _ _ _ _ h) (Or.inl ⟨by rfl, ?_⟩) hHeld ?_
                · intro w hSw
                  go_simp
                simp only [Act.put, List.setIfInBounds_toArray, List.set_cons_zero, List.set_cons_succ]
                refine wpAnyH_take (i := 2) (v := .int .u64 (t : Int)) rfl (by kernel_rfl) (by kernel_rfl) (by kernel_rfl) (fun c a w h => dec_put _ 38 (by decide) (by decide) _ _ _ _ _ h) (Or.inl ⟨by rfl, ?_⟩) hHeld ?_
                · intro w hSw
                  go_simp
                simp only [Act.put, List.setIfInBounds_toArray, List.set_cons_zero, List.set_cons_succ]
                refine wpAnyH_ready (rs := [3]) (by kernel_rfl) (by simp) ?_
                refine AllReadyH.cons rfl (fun K hK => ?_) AllReadyH.nil
                go_simp
                go_wp2_with (go_at_call 21; go_must (refine (dval_ok t HD3.out hs htb).mono ?_); rw [HV.out]; rintro en w3 hq; obtain ⟨rfl, hb, hk⟩ := hq.none)
                exact door_brk hb (own_one HROW.out) HF2.out rfl rfl
              | some q =>
                obtain ⟨x, b'⟩ := q
                have HV := Lib.hid hv
                have HVS2 := Lib.hid (show valsF s (ts.take (m + 1)) a = some (vs ++ [x], b') by
                  rw [List.take_succ_eq_append_getElem (by rw [HLT.out]; exact hmk), valsF_snoc, HVS.out]
                  simp only
                  rw [show ts[m]'(by rw [HLT.out]; exact hmk) = t by rw [← HT.out]; simp [HLT.out, hmk], hv]
                  rfl)
                clear hv
                go_wp2_with fail
                refine wp_region_noPanic ?_
                go_region_law (first
                  | (refine step_append_lies _ (by rfl) (.tmp 36) (.tmp 40) 22 (by rfl) (w.heap.size + 1 + 1 + 1) 34 j0 _ 3 32 Tryd.underlying22 HJ0.out HY0.out HY1.out HY2.out rfl (by omega) rv m (rvCells vs) (by rfl) (own_keep (own_keep HROW.out ((Kp.refl (OnB (w.heap.size + 1 + 1)) wr).drew.trans HK3.out (fun _ _ q => q)) (fun g hg _ q => by unfold OnB at q; omega)) ((Kp.refl NoB w3).alloc _) (fun _ _ _ q => q))
                      ⟨w3.heap.size, 0, none⟩ 1 1 [.int .i64 x.k, .int .i64 x.i, .string x.s] (by rfl) (by rfl) (cells_new _ _ _) (by simp [Value.oneCell']) (by omega) (by unfold maxLen; omega) (by omega) (by simp; omega) (w3.heap.size + 1) (by simp) ?_; intro gg cap4 w4 hown4 hgrow4 hat4 hlt4; have hge := own_ge HROW.out; have HB4 := Lib.hid ((HB3.out.keep ((Kp.refl NoB w3).alloc _)).grown hgrow4 hge); have HOWN4 := Lib.hid hown4; have HG4 := Lib.hid hgrow4; have f4 : w4.frozen? ⟨w.heap.size, 0, none⟩ = false := HB4.out.b2.frozen 0; have c4 : w4.cell? ⟨w.heap.size, 0, none⟩ = some rv := HB4.out.b2.cell 0; clear hown4 hgrow4 hat4 hlt4 hge)
                  | (go_simp; go_at_call 21; go_must (refine (dval_ok t HD3.out hs htb).mono ?_); rw [HV.out]; rintro en w3 hq; obtain ⟨rfl, hb, hx, hk⟩ := hq.some; have HB3 := Lib.hid hb; have HX := Lib.hid hx; have HK3 := Lib.hid hk; have hl3 := hb.rd.lt; have c23 : w3.cell? ⟨w.heap.size, 0, none⟩ = some rv := hb.b2.cell 0; have c24 : (w3.alloc (.cells #[.int .i64 x.k, .int .i64 x.i, .string x.s] 34)).cell? ⟨w.heap.size, 0, none⟩ = some rv := (hb.b2.alloc _).cell 0; clear hq hb hx hk)
                  | go_simp)
                all_goals
                  refine NoPanic.normal ?_
                  go_wp2_with fail
                  refine ⟨⟨m + 1, b', _, vs ++ [x], by omega, by congr 1, HB4.out.set2 _, ?_, ?_, HVS2.out, fun y hy => by rcases List.mem_append.1 hy with q | q; exact HOK.out y q; simp at q; rw [q]; exact HX.out⟩, by simp [intOf]; omega⟩
                  · rw [rvCells_snoc]
                    exact own_setBox HOWN4.out _
                  · have h3 := own_keep HTYP.out ((Kp.refl (OnB (w.heap.size + 1 + 1)) wr).drew.trans HK3.out (fun _ _ q => q)) (fun g hg _ q => by unfold OnB at q; omega)
                    have h4 := own_keep h3 ((Kp.refl NoB w3).alloc (.cells #[.int .i64 x.k, .int .i64 x.i, .string x.s] 34)) (fun _ _ _ q => q)
                    have hne := own_ne HTYP.out HROW.out (by decide)
                    exact own_setBox (own_keepB h4 ((Kp.refl (fun g => rv.ownBlock = some g) _).grown HG4.out (fun g hg => .inr hg)) (fun g hg q => hne g hg q)) _
            · obtain rfl : m = k := by omega
              obtain ⟨RA, rcap, rfl⟩ := own_slice HROW.out
              obtain ⟨hvl, hRw⟩ := rw_of_own HROW.out HOK.out
              have HRW := Lib.hid hRw
              have HVL := Lib.hid hvl
              obtain ⟨p, ec, hpe⟩ : ∃ p ec, encF vs = (p, ec) := ⟨_, _, rfl⟩
              have HE := Lib.hid hpe
              have HF2 := Lib.hid (show decF s = if (p, ec) = (s, (0 : Int)) then some vs else none by
                have h1 := HVS.out
                rw [List.take_of_length_le (by rw [HLT.out]; exact Nat.le_refl _)] at h1
                rw [HF.out, HTS.out]
                simp only
                rw [h1]
                simp only
                rw [hpe])
              have c2 : wr.cell? ⟨w.heap.size, 0, none⟩ = some (.slice RA m rcap) := HD2.out.b2.cell 0
              clear hRw hvl hpe
              by_cases he0 : ec = 0
              · subst he0
                by_cases hps : p = s
                · subst hps
                  have HF3 := Lib.hid (show decF p = some vs by rw [HF2.out, if_pos rfl])
                  go_wp2_with (go_at_call 11; go_must (refine (enc_ok _ RA m rcap vs (by omega) HRW.out).mono ?_); rw [HE.out]; rintro en w5 ⟨rfl, hk5⟩; have HD5 := Lib.hid (HD2.out.keep hk5); have HR5 := Lib.hid (own_keep HROW.out hk5 (fun _ _ _ q => q)); have d2 : w5.cell? ⟨w.heap.size, 0, none⟩ = some (.slice RA m rcap) := HD5.out.b2.cell 0; have d3 : w5.cell? ⟨w.heap.size + 1, 0, none⟩ = some (.int .i64 0) := HD5.out.b3.cell 0; have y2 := HD5.out.b2.frozen 0; have y3 := HD5.out.b3.frozen 0; clear hk5)
                  have hd := ((HD5.out.set3 0).set2 (.slice RA m rcap)).set3 0
                  have ho := own_setBox3 (own_setBox (own_setBox3 HR5.out (.int .i64 0)) (.slice RA m rcap)) (.int .i64 0)
                  have hvl := HVL.out
                  subst hvl
                  exact door_ret hd (by rw [HF3.out]; exact ⟨hd.kp, RA, rcap, rfl, (rw_of_own ho HOK.out).2, own_nil ho⟩) rfl rfl
                · have HF3 := Lib.hid (show decF s = none by rw [HF2.out, if_neg (by simp [hps])])
                  have hbf : (p.toList == s.toList) = false := str_ne hps
                  have hbn : (p.toList != s.toList) = true := by rw [bne, hbf]; rfl
                  go_wp2_with (go_at_call 11; go_must (refine (enc_ok _ RA m rcap vs (by omega) HRW.out).mono ?_); rw [HE.out]; rintro en w5 ⟨rfl, hk5⟩; have HD5 := Lib.hid (HD2.out.keep hk5); have d2 : w5.cell? ⟨w.heap.size, 0, none⟩ = some (.slice RA m rcap) := HD5.out.b2.cell 0; have d3 : w5.cell? ⟨w.heap.size + 1, 0, none⟩ = some (.int .i64 0) := HD5.out.b3.cell 0; have y2 := HD5.out.b2.frozen 0; have y3 := HD5.out.b3.frozen 0; clear hk5)
                  exact door_bad (HD5.out.set3 _) HF3.out rfl rfl
              · have HF3 := Lib.hid (show decF s = none by rw [HF2.out, if_neg (by simp [he0])])
                have hbe : (ec != 0) = true := by rw [bne_iff_ne]; exact he0
                clear he0
                go_wp2_with (go_at_call 11; go_must (refine (enc_ok _ RA m rcap vs (by omega) HRW.out).mono ?_); rw [HE.out]; rintro en w5 ⟨rfl, hk5⟩; have HD5 := Lib.hid (HD2.out.keep hk5); have d2 : w5.cell? ⟨w.heap.size, 0, none⟩ = some (.slice RA m rcap) := HD5.out.b2.cell 0; have d3 : w5.cell? ⟨w.heap.size + 1, 0, none⟩ = some (.int .i64 0) := HD5.out.b3.cell 0; have y2 := HD5.out.b2.frozen 0; have y3 := HD5.out.b3.frozen 0; clear hk5)
                exact door_bad (HD5.out.set3 _) HF3.out rfl rfl
end Go.Proofs.YtlcefenjlchaiaaDoor
