/- LocksPlay: what holds in the midst of a round; no condition. -/
import Derived.Test.YtmkhhjpfchaopaaSame
namespace Go.Proofs.Ytmkhhjpfchaopaa
open Go.RowKit

theorem TP.drew {w : World} {p : Option Addr} {is : Bool} {hs : List Int} (h : TP w p is hs) : TP w.drew p is hs := h
theorem takeR_len (is : Bool) (hs : List Int) (c l : Int) (h : hs.length = 8) : (takeR is hs c l).2.length = 8 := by
  unfold takeR
  split
  · exact h
  · split
    · exact h
    · split
      · simp [h]
      · exact h
theorem dropR_len (is : Bool) (hs : List Int) (c l : Int) (h : hs.length = 8) : (dropR is hs c l).2.length = 8 := by
  unfold dropR
  split
  · exact h
  · simp only
    split
    · simp [h]
    · exact h
theorem Blk.ne_ {w : World} {g g' : Nat} {t t' : TypeId} {cs cs' : Array Value} (h : Blk w g t cs) (h' : Blk w g' t' cs') (hne : t ≠ t') : g ≠ g' := by
  rintro rfl
  unfold Blk at h h'
  rw [h] at h'
  injection h' with h'
  injection h' with _ ht
  exact hne ht
theorem TP.ne {w : World} {p : Option Addr} {is : Bool} {hs : List Int} {g : Nat} {t : TypeId} {cs : Array Value} (h : TP w p is hs) (hb : Blk w g t cs) (ht : t ≠ 46) : ¬ OnP p g := by
  intro e
  unfold OnP at e
  subst e
  rcases h with ⟨q, _⟩ | ⟨b, q, _, hT⟩
  · cases q
  · injection q with q
    injection q with q
    subst q
    exact Blk.ne_ (t := t) (t' := 46) hb hT.2 ht rfl
theorem TP.setCells {w : World} {p : Option Addr} {is : Bool} {hs : List Int} {g : Nat} {t : TypeId} {cs : Array Value} (h : TP w p is hs) (hb : Blk w g t cs) (ht : t ≠ 46) (o : Nat) (xs : List Value) : TP (w.setCells g o xs) p is hs :=
  h.keep (S := OnB g) (Kp.setCells (S := OnB g) (.inr rfl) xs o w (Kp.refl _ _)) (fun b hb' e => by unfold OnB at e; subst e; exact h.ne hb ht hb')
theorem refL_len (is : Bool) (hs : List Int) (h : hs.length = 8) : (refL is hs).length = 9 := by simp [refL, h]
theorem refL_info (is : Bool) (hs : List Int) (h : hs.length = 8) : (Try.prog.info? 29).map (·.size) = some (refL is hs).length := by
  rw [refL_len is hs h]; exact info29

/-- the two tables, as a step on table s sees them: the one it speaks of (a), the other one (o) -/
structure Sd (w : World) (g3 g4 s : Nat) (arr : Array Value) (xa xd : List Value) (pa po : Option Addr) (ia io : Bool) (ha ho : List Int) (wr : World) : Prop where
  kp : Kp NoB w wr
  g3w : w.heap.size ≤ g3
  g4w : w.heap.size ≤ g4
  b3 : Blk wr g3 26 arr
  s3 : arr[s]? = some (.pointer pa)
  b4 : Blk wr g4 30 (xa ++ refL ia ha ++ xd).toArray
  xl : xa.length = s * 9
  ta : TP wr pa ia ha
  tO : TP wr po io ho
  ra : Rng ha
  ro : Rng ho
  fa : ∀ b, pa = some ⟨b, 0, none⟩ → w.heap.size ≤ b ∧ po ≠ some ⟨b, 0, none⟩
  fo : ∀ b, po = some ⟨b, 0, none⟩ → w.heap.size ≤ b
theorem Sd.keep {w : World} {g3 g4 s : Nat} {arr : Array Value} {xa xd : List Value} {pa po : Option Addr} {ia io : Bool} {ha ho : List Int} {wr wa : World} (h : Sd w g3 g4 s arr xa xd pa po ia io ha ho wr) (k : Kp NoB wr wa) : Sd w g3 g4 s arr xa xd pa po ia io ha ho wa :=
  ⟨h.kp.trans k (fun _ _ q => q), h.g3w, h.g4w, h.b3.keep k (fun q => q), h.s3, h.b4.keep k (fun q => q), h.xl, h.ta.keep k (fun _ _ q => q), h.tO.keep k (fun _ _ q => q), h.ra, h.ro, h.fa, h.fo⟩
/-- in the midst of a round: the step's copy and the reference's copy of the table -/
structure Mid (w : World) (g3 g4 s : Nat) (arr : Array Value) (xa xd : List Value) (pa po : Option Addr) (ia io : Bool) (ha ho : List Int) (b6 b10 : Nat) (d a c l : Int) (hs : List Int) (wa : World) : Prop where
  pi : Sd w g3 g4 s arr xa xd pa po ia io ha ho wa
  x6 : Blk wa b6 32 #[.int .i64 d, .int .i64 a, .int .i64 c, .int .i64 l]
  x10 : Blk wa b10 29 (refCells ia hs)
  l10 : w.heap.size ≤ b10
  n10 : hs.length = 8
theorem Mid.keep {w : World} {g3 g4 s : Nat} {arr : Array Value} {xa xd : List Value} {pa po : Option Addr} {ia io : Bool} {ha ho : List Int} {b6 b10 : Nat} {d a c l : Int} {hs : List Int} {wa wb : World} (h : Mid w g3 g4 s arr xa xd pa po ia io ha ho b6 b10 d a c l hs wa) (k : Kp NoB wa wb) : Mid w g3 g4 s arr xa xd pa po ia io ha ho b6 b10 d a c l hs wb :=
  ⟨h.pi.keep k, h.x6.keep k (fun q => q), h.x10.keep k (fun q => q), h.l10, h.n10⟩
/-- behind the program's step: its table holds ha', the reference's still ha -/
structure Mid2 (w : World) (g3 g4 s : Nat) (arr : Array Value) (xa xd : List Value) (pa po : Option Addr) (ia io : Bool) (ha ho : List Int) (ha' : List Int) (b6 b10 : Nat) (d a c l : Int) (hs : List Int) (wa : World) : Prop where
  kp : Kp NoB w wa
  b3 : Blk wa g3 26 arr
  b4 : Blk wa g4 30 (xa ++ refL ia ha ++ xd).toArray
  xl : xa.length = s * 9
  ta : TP wa pa ia ha'
  tO : TP wa po io ho
  x6 : Blk wa b6 32 #[.int .i64 d, .int .i64 a, .int .i64 c, .int .i64 l]
  x10 : Blk wa b10 29 (refCells ia hs)
  l10 : w.heap.size ≤ b10
  n0 : ha.length = 8
  n10 : hs.length = 8
theorem Mid2.keep {w : World} {g3 g4 s : Nat} {arr : Array Value} {xa xd : List Value} {pa po : Option Addr} {ia io : Bool} {ha ho : List Int} {ha' : List Int} {b6 b10 : Nat} {d a c l : Int} {hs : List Int} {wa wb : World} (h : Mid2 w g3 g4 s arr xa xd pa po ia io ha ho ha' b6 b10 d a c l hs wa) (k : Kp NoB wa wb) : Mid2 w g3 g4 s arr xa xd pa po ia io ha ho ha' b6 b10 d a c l hs wb :=
  ⟨h.kp.trans k (fun _ _ q => q), h.b3.keep k (fun q => q), h.b4.keep k (fun q => q), h.xl, h.ta.keep k (fun _ _ q => q), h.tO.keep k (fun _ _ q => q), h.x6.keep k (fun q => q), h.x10.keep k (fun q => q), h.l10, h.n0, h.n10⟩
theorem set10_aux {wa : World} {b10 : Nat} {i0 : Bool} {hs hs' : List Int} (h : Blk wa b10 29 (refCells i0 hs)) (h8 : hs.length = 8) (h8' : hs'.length = 8) : Blk (wa.setCells b10 0 (refCells i0 hs').toList) b10 29 (refCells i0 hs') := by
  have := Blk.cellsL (w := wa) (g := b10) (t := 29) (xa := []) (xb := refL i0 hs) (xd := []) (xs := refL i0 hs') (by simpa [refCells] using h) 0 rfl (by simp [refL, h8, h8'])
  simpa [refCells] using this
theorem Mid2.set10 {w : World} {g3 g4 s : Nat} {arr : Array Value} {xa xd : List Value} {pa po : Option Addr} {ia io : Bool} {ha ho : List Int} {ha' : List Int} {b6 b10 : Nat} {d a c l : Int} {hs : List Int} {wa : World} (h : Mid2 w g3 g4 s arr xa xd pa po ia io ha ho ha' b6 b10 d a c l hs wa) (hs' : List Int) (hl : hs'.length = 8) :
    Mid2 w g3 g4 s arr xa xd pa po ia io ha ho ha' b6 b10 d a c l hs' (wa.setCells b10 0 (refCells ia hs').toList) :=
  ⟨Kp.setCells (.inl h.l10) _ _ _ h.kp, h.b3.farCells (h.b3.ne_ h.x10 (by decide)) _ _ _, h.b4.farCells (h.b4.ne_ h.x10 (by decide)) _ _ _, h.xl, h.ta.setCells h.x10 (by decide) _ _, h.tO.setCells h.x10 (by decide) _ _, h.x6.farCells (h.x6.ne_ h.x10 (by decide)) _ _ _,
    set10_aux h.x10 h.n10 hl, h.l10, h.n0, hl⟩
theorem Mid2.sf {w : World} {g3 g4 s : Nat} {arr : Array Value} {xa xd : List Value} {pa po : Option Addr} {ia io : Bool} {ha ho : List Int} {ha' : List Int} {b6 b10 : Nat} {d a c l : Int} {hs : List Int} {wa : World} (h : Mid2 w g3 g4 s arr xa xd pa po ia io ha ho ha' b6 b10 d a c l hs wa) {o : Nat} (ho' : s * 9 = o) :
    wa.cell? ⟨b6, 2, none⟩ = some (.int .i64 c) ∧ wa.cell? ⟨b6, 3, none⟩ = some (.int .i64 l) ∧ wa.there g4 o 9 ∧ readRow wa g4 o 9 = refCells ia ha ∧ wa.there b10 0 9 :=
  ⟨h.x6.cell 2, h.x6.cell 3, Blk.there h.b4 (by have := h.xl; simp [refL, h.n0]; omega), Blk.read h.b4 o 9 (by rw [← ho']; exact h.xl) (refL_len _ _ h.n0), Blk.there h.x10 (by rw [refCells_size ia hs h.n10]; exact Nat.le_refl _)⟩
/-- what a call does to the table that it speaks of -/
theorem Mid.step {w : World} {g3 g4 s : Nat} {arr : Array Value} {xa xd : List Value} {pa po : Option Addr} {ia io : Bool} {ha ho : List Int} {b6 b10 : Nat} {d a c l : Int} {wa wb : World} (h : Mid w g3 g4 s arr xa xd pa po ia io ha ho b6 b10 d a c l ha wa) (k : Kp (OnP pa) wa wb)
    {ha' : List Int} (ht : TP wb pa ia ha') : Mid2 w g3 g4 s arr xa xd pa po ia io ha ho ha' b6 b10 d a c l ha wb := by
  have t0 := h.pi.ta
  refine ⟨h.pi.kp.trans k (fun i hi e => ?_), h.pi.b3.keep k (t0.ne h.pi.b3 (by decide)), h.pi.b4.keep k (t0.ne h.pi.b4 (by decide)), h.pi.xl, ht, h.pi.tO.keep k (fun b hb e => ?_), h.x6.keep k (t0.ne h.x6 (by decide)), h.x10.keep k (t0.ne h.x10 (by decide)), h.l10, h.pi.ta.len, h.n10⟩
  · have := (h.pi.fa i e).1
    omega
  · exact (h.pi.fa b e).2 hb
/-- a round's end: the step's copy, and both tables anew -/
structure Fin (w : World) (g3 g4 s : Nat) (arr : Array Value) (xa xd : List Value) (pa po : Option Addr) (ia io : Bool) (ha ho : List Int) (b6 : Nat) (d a c l : Int) (wa : World) : Prop where
  pi : Sd w g3 g4 s arr xa xd pa po ia io ha ho wa
  x6 : Blk wa b6 32 #[.int .i64 d, .int .i64 a, .int .i64 c, .int .i64 l]
theorem Mid2.fin {w : World} {g3 g4 s : Nat} {arr : Array Value} {xa xd : List Value} {pa po : Option Addr} {ia io : Bool} {ha ho : List Int} {ha' : List Int} {b6 b10 : Nat} {d a c l : Int} {hs : List Int} {wa wz : World} (h : Mid2 w g3 g4 s arr xa xd pa po ia io ha ho ha' b6 b10 d a c l hs wa) (z : Sd w g3 g4 s arr xa xd pa po ia io ha ho wz) (h8 : ha'.length = 8) (r0 : Rng ha') {o : Nat} (ho' : s * 9 = o) :
    Fin w g3 g4 s arr xa xd pa po ia io ha' ho b6 d a c l (wa.setCells g4 o (refCells ia ha').toList) := by
  have e := Blk.cellsL (w := wa) (g := g4) (t := 30) (xa := xa) (xb := refL ia ha) (xd := xd) (xs := refL ia ha') h.b4 o (by rw [← ho']; exact h.xl) (by simp [refL, h.n0, h8])
  exact ⟨⟨Kp.setCells (.inl z.g4w) _ _ _ h.kp, z.g3w, z.g4w, h.b3.farCells (h.b3.ne_ h.b4 (by decide)) _ _ _, z.s3, by simpa [refCells] using e, h.xl, h.ta.setCells h.b4 (by decide) _ _, h.tO.setCells h.b4 (by decide) _ _, r0, z.ro, z.fa, z.fo⟩, h.x6.farCells (h.x6.ne_ h.b4 (by decide)) _ _ _⟩
theorem Fin.keep {w : World} {g3 g4 s : Nat} {arr : Array Value} {xa xd : List Value} {pa po : Option Addr} {ia io : Bool} {ha ho : List Int} {b6 : Nat} {d a c l : Int} {wa wb : World} (h : Fin w g3 g4 s arr xa xd pa po ia io ha ho b6 d a c l wa) (k : Kp NoB wa wb) : Fin w g3 g4 s arr xa xd pa po ia io ha ho b6 d a c l wb := ⟨h.pi.keep k, h.x6.keep k (fun q => q)⟩
theorem Fin.sf {w : World} {g3 g4 s : Nat} {arr : Array Value} {xa xd : List Value} {pa po : Option Addr} {ia io : Bool} {ha ho : List Int} {b6 : Nat} {d a c l : Int} {wa : World} (h : Fin w g3 g4 s arr xa xd pa po ia io ha ho b6 d a c l wa) {o : Nat} (ho' : s * 9 = o) :
    wa.cell? ⟨b6, 2, none⟩ = some (.int .i64 c) ∧ wa.cell? ⟨b6, 3, none⟩ = some (.int .i64 l) ∧ wa.cell? ⟨g3, s, none⟩ = some (.pointer pa) ∧ wa.there g4 o 9 ∧ readRow wa g4 o 9 = refCells ia ha :=
  ⟨h.x6.cell 2, h.x6.cell 3, (h.pi.b3.cell s).trans h.pi.s3, Blk.there h.pi.b4 (by have := h.pi.xl; simp [refL, h.pi.ta.len]; omega), Blk.read h.pi.b4 o 9 (by rw [← ho']; exact h.pi.xl) (refL_len _ _ h.pi.ta.len)⟩
theorem mid_start {w : World} {g3 g4 s : Nat} {arr : Array Value} {xa xd : List Value} {pa po : Option Addr} {ia io : Bool} {ha ho : List Int} {wr : World} (h : Sd w g3 g4 s arr xa xd pa po ia io ha ho wr) {d a c l : Int} (z : Array Value) (cs : Array Value) (hc : cs = refCells ia ha) :
    Mid w g3 g4 s arr xa xd pa po ia io ha ho wr.heap.size (wr.heap.size + 1) d a c l ha (((wr.alloc (.cells #[.int .i64 d, .int .i64 a, .int .i64 c, .int .i64 l] 32)).alloc (.cells z 29)).setRow (wr.heap.size + 1) cs) := by
  subst hc
  have k : Kp NoB wr (((wr.alloc (.cells #[.int .i64 d, .int .i64 a, .int .i64 c, .int .i64 l] 32)).alloc (.cells z 29)).setRow (wr.heap.size + 1) (refCells ia ha)) := (((Kp.refl _ _).alloc _).alloc _).setRow (.inl (by omega)) _
  refine ⟨h.keep k, ((Blk.new _ _ _).alloc _).farRow (by omega) _, ?_, by have := h.kp.size; omega, h.ta.len⟩
  have := Blk.new (wr.alloc (.cells #[.int .i64 d, .int .i64 a, .int .i64 c, .int .i64 l] 32)) 29 z
  simp at this
  exact this.row _

def loopsOf : Code → List Code
  | .loop c => [c]
  | .seq a b => loopsOf a ++ loopsOf b
  | .block _ c => loopsOf c
  | .scope c => loopsOf c
  | .cond _ a b => loopsOf a ++ loopsOf b
  | _ => []
noncomputable def playBody : Code := ((Try.f3.body.map loopsOf).getD []).getD 0 .skip

/-- the loop's relation -/
def PI (w : World) (g3 g4 : Nat) (wr : World) : Prop :=
  ∃ (p0 p1 : Option Addr) (i0 i1 : Bool) (h0 h1 : List Int), Sd w g3 g4 0 #[.pointer p0, .pointer p1] [] (refL i1 h1) p0 p1 i0 i1 h0 h1 wr
theorem Sd.to0 {w : World} {g3 g4 : Nat} {p0 p1 : Option Addr} {i0 i1 : Bool} {h0 h1 : List Int} {wr : World} (h : Sd w g3 g4 0 #[.pointer p0, .pointer p1] [] (refL i1 h1) p0 p1 i0 i1 h0 h1 wr) : PI w g3 g4 wr := ⟨p0, p1, i0, i1, h0, h1, h⟩
theorem Sd.swap {w : World} {g3 g4 : Nat} {p0 p1 : Option Addr} {i0 i1 : Bool} {h0 h1 : List Int} {wr : World} (h : Sd w g3 g4 0 #[.pointer p0, .pointer p1] [] (refL i1 h1) p0 p1 i0 i1 h0 h1 wr) :
    Sd w g3 g4 1 #[.pointer p0, .pointer p1] (refL i0 h0) [] p1 p0 i1 i0 h1 h0 wr :=
  ⟨h.kp, h.g3w, h.g4w, h.b3, rfl, by simpa using h.b4, refL_len _ _ h.ta.len, h.tO, h.ta, h.ro, h.ra, fun b hb => ⟨h.fo b hb, fun e => (h.fa b e).2 hb⟩, fun b hb => (h.fa b hb).1⟩
theorem Sd.to1 {w : World} {g3 g4 : Nat} {p0 p1 : Option Addr} {i0 i1 : Bool} {h0 h1 : List Int} {wr : World} (h : Sd w g3 g4 1 #[.pointer p0, .pointer p1] (refL i0 h0) [] p1 p0 i1 i0 h1 h0 wr) : PI w g3 g4 wr :=
  ⟨p0, p1, i0, i1, h0, h1, h.kp, h.g3w, h.g4w, h.b3, rfl, by simpa using h.b4, rfl, h.tO, h.ta, h.ro, h.ra, fun b hb => ⟨h.fo b hb, fun e => (h.fa b e).2 hb⟩, fun b hb => (h.fa b hb).1⟩

set_option maxRecDepth 100000 in
def PW (w : World) (A : Option Addr) (n cap g3 g4 : Nat) (c1 c2 c11 c12 c13 c14 c15 c16 c17 c18 c19 c121 c122 c123 c124 c125 c126 c127 c128 c129 c130 c131 c132 c133 c134 c135 : Value) (a : Act) (wr : World) : Prop :=
  ∃ (k : Nat) (u6 u7 u8 u9 u10 u20 u21 u22 u23 u24 u25 u26 u27 u28 u29 u30 u31 u32 u33 u34 u35 u36 u37 u38 u39 u40 u41 u42 u43 u44 u45 u46 u47 u48 u49 u50 u51 u52 u53 u54 u55 u56 u57 u58 u59 u60 u61 u62 u63 u64 u65 u66 u67 u68 u69 u70 u71 u72 u73 u74 u75 u76 u77 u78 u79 u80 u81 u82 u83 u84 u85 u86 u87 u88 u89 u90 u91 u92 u93 u94 u95 u96 u97 u98 u99 u100 u101 u102 u103 u104 u105 u106 u107 u108 u109 u110 u111 u112 u113 u114 u115 u116 u117 u118 u119 u120 : Value), k ≤ n ∧ PI w g3 g4 wr ∧ a = ⟨#[.slice A n cap, c1, c2, .pointer (some ⟨g3, 0, none⟩), .pointer (some ⟨g4, 0, none⟩), .int .i64 k, u6, u7, u8, u9, u10, c11, c12, c13, c14, c15, c16, c17, c18, c19, u20, u21, u22, u23, u24, u25, u26, u27, u28, u29, u30, u31, u32, u33, u34, u35, u36, u37, u38, u39, u40, u41, u42, u43, u44, u45, u46, u47, u48, u49, u50, u51, u52, u53, u54, u55, u56, u57, u58, u59, u60, u61, u62, u63, u64, u65, u66, u67, u68, u69, u70, u71, u72, u73, u74, u75, u76, u77, u78, u79, u80, u81, u82, u83, u84, u85, u86, u87, u88, u89, u90, u91, u92, u93, u94, u95, u96, u97, u98, u99, u100, u101, u102, u103, u104, u105, u106, u107, u108, u109, u110, u111, u112, u113, u114, u115, u116, u117, u118, u119, u120, c121, c122, c123, c124, c125, c126, c127, c128, c129, c130, c131, c132, c133, c134, c135], []⟩
def Pmu (n : Nat) (a : Act) (_ : World) : Nat := n - (intOf (a.tmps.getD 5 undef)).toNat
end Go.Proofs.Ytmkhhjpfchaopaa
