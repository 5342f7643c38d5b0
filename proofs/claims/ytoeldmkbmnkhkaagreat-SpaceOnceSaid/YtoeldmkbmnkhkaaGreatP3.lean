/- Texts of this proof, one behind the other: lemmas and contracts; each says its own conditions. -/
import Derived.Test.YtoeldmkbmnkhkaaGreatP1
import Derived.Test.YtoeldmkbmnkhkaaGreatP2
import Derived.Maps.RangeWalk
import Derived.Maps.Views
import Derived.Lib.AppendZeros
import Derived.Lib.AppendZerosOnto
import Derived.Deep.AppendLies
import Derived.Great.FillDense
/- The stand-in disk's files in plain Lean: a list of entries, no name twice; no condition. -/
namespace Go.Proofs.YtoeldmkbmnkhkaaGreat
open Go

/-- a file: its name, its block, what is seen of it, what is kept -/
structure Fe where
  nm : ByteArray
  fb : Nat
  seen : List Int
  kept : List Int
def kOf (s : ByteArray) : List UInt8 := s.data.toList
theorem kOf_inj {s s' : ByteArray} (h : kOf s = kOf s') : s = s' := by
  cases s; cases s'; simp [kOf] at h; simp [h]
def findF (fs : List Fe) (k : List UInt8) : Option Fe := fs.find? fun e => kOf e.nm == k
theorem findF_some {fs : List Fe} {k : List UInt8} {e : Fe} (h : findF fs k = some e) : e ∈ fs ∧ kOf e.nm = k := by
  unfold findF at h
  exact ⟨List.mem_of_find?_eq_some h, by simpa using List.find?_some h⟩
def Names (fs : List Fe) : Prop := fs.Pairwise fun x y => kOf x.nm ≠ kOf y.nm
theorem Names.find {fs : List Fe} (h : Names fs) {e : Fe} (he : e ∈ fs) : findF fs (kOf e.nm) = some e := by
  unfold findF
  induction fs with
  | nil => simp at he
  | cons x fs ih =>
    obtain ⟨h1, h2⟩ := List.pairwise_cons.1 h
    rcases List.mem_cons.1 he with rfl | he'
    · simp
    · have := h1 e he'
      rw [List.find?_cons_of_neg (by simpa using this)]
      exact ih h2 he'
/-- the entry at e's name is e now; behind all where there was none -/
def putF (fs : List Fe) (e : Fe) : List Fe := match fs with
  | [] => [e]
  | x :: r => if kOf x.nm = kOf e.nm then e :: r else x :: putF r e
theorem putF_find (fs : List Fe) (e : Fe) (k : List UInt8) : findF (putF fs e) k = if kOf e.nm = k then some e else findF fs k := by
  induction fs with
  | nil =>
    unfold putF findF
    by_cases h : kOf e.nm = k <;> simp [h]
  | cons x r ih =>
    unfold putF
    by_cases h : kOf x.nm = kOf e.nm
    · rw [if_pos h]
      unfold findF
      by_cases hk : kOf e.nm = k
      · simp [hk]
      · simp [hk, h]
    · rw [if_neg h]
      unfold findF at ih ⊢
      by_cases hk : kOf x.nm = k
      · have : kOf e.nm ≠ k := fun q => h (hk.trans q.symm)
        simp [hk, this]
      · simp only [List.find?_cons, show (kOf x.nm == k) = false by simpa using hk]
        exact ih
theorem putF_mem {fs : List Fe} {e x : Fe} (h : x ∈ putF fs e) : x = e ∨ (x ∈ fs ∧ (Names fs → kOf x.nm ≠ kOf e.nm)) := by
  induction fs with
  | nil => simp [putF] at h; exact .inl h
  | cons y r ih =>
    unfold putF at h
    split at h
    · rename_i hy
      rcases List.mem_cons.1 h with rfl | hx
      · exact .inl rfl
      · refine .inr ⟨List.mem_cons_of_mem _ hx, fun hn => ?_⟩
        have := (List.pairwise_cons.1 hn).1 x hx
        rw [hy] at this
        exact fun q => this q.symm
    · rename_i hy
      rcases List.mem_cons.1 h with rfl | hx
      · exact .inr ⟨List.mem_cons_self .., fun _ => hy⟩
      · rcases ih hx with rfl | ⟨hm, hn⟩
        · exact .inl rfl
        · exact .inr ⟨List.mem_cons_of_mem _ hm, fun q => hn (List.pairwise_cons.1 q).2⟩
theorem putF_names {fs : List Fe} (h : Names fs) (e : Fe) : Names (putF fs e) := by
  induction fs with
  | nil => simp [putF, Names]
  | cons y r ih =>
    obtain ⟨h1, h2⟩ := List.pairwise_cons.1 h
    unfold putF
    split
    · rename_i hy
      exact List.pairwise_cons.2 ⟨fun x hx => by rw [← hy]; exact h1 x hx, h2⟩
    · rename_i hy
      refine List.pairwise_cons.2 ⟨fun x hx => ?_, ih h2⟩
      rcases putF_mem hx with rfl | ⟨hm, _⟩
      · exact hy
      · exact h1 x hm
/-- how many bytes the files have that were met -/
def restSum (left : List UInt8 → Bool) : List Fe → Nat
  | [] => 0
  | e :: r => (if left (kOf e.nm) then 0 else e.seen.length) + restSum left r
theorem restSum_same {l l' : List UInt8 → Bool} {fs : List Fe} (h : ∀ e ∈ fs, l (kOf e.nm) = l' (kOf e.nm)) : restSum l fs = restSum l' fs := by
  induction fs with
  | nil => rfl
  | cons x r ih =>
    simp only [restSum]
    rw [h x (List.mem_cons_self ..), ih fun e he => h e (List.mem_cons_of_mem _ he)]
theorem restSum_step {fs : List Fe} (hn : Names fs) {left : List UInt8 → Bool} {e : Fe} (he : e ∈ fs) (hl : left (kOf e.nm) = true) :
    restSum (fun z => left z && !(z == kOf e.nm)) fs = restSum left fs + e.seen.length := by
  induction fs with
  | nil => simp at he
  | cons x r ih =>
    obtain ⟨h1, h2⟩ := List.pairwise_cons.1 hn
    simp only [restSum]
    rcases List.mem_cons.1 he with rfl | he'
    · rw [restSum_same (l' := left) (fun y hy => by
        have := h1 y hy
        have e : (kOf y.nm == kOf e.nm) = false := by simpa using fun q => this q.symm
        simp [e])]
      simp [hl]; omega
    · rw [ih h2 he']
      have := h1 e he'
      have e2 : (kOf x.nm == kOf e.nm) = false := by simpa using this
      simp [e2]; omega
theorem restSum_none {left : List UInt8 → Bool} {fs : List Fe} (h : ∀ e ∈ fs, left (kOf e.nm) = true) : restSum left fs = 0 := by
  induction fs with
  | nil => rfl
  | cons x r ih =>
    simp only [restSum]
    rw [h x (List.mem_cons_self ..), ih fun e he => h e (List.mem_cons_of_mem _ he)]
    simp
def allSum (fs : List Fe) : Nat := (fs.map (·.seen.length)).sum
theorem restSum_all {left : List UInt8 → Bool} {fs : List Fe} (h : ∀ e ∈ fs, left (kOf e.nm) = false) : restSum left fs = allSum fs := by
  induction fs with
  | nil => rfl
  | cons x r ih =>
    simp only [restSum]
    rw [h x (List.mem_cons_self ..), ih fun e he => h e (List.mem_cons_of_mem _ he)]
    simp [allSum]
/-! ### the map in memory: each name leads to the file's block -/
def ptrV (b : Nat) : Value := .pointer (some ⟨b, 0, none⟩)
def Rp : Value → Option (DataW Value × List MemPlace)
  | .pointer p => some (.held (.pointer p), [])
  | _ => none
theorem Rp_inv {v : Value} {y : DataW Value × List MemPlace} (h : Rp v = some y) : ∃ p, v = .pointer p ∧ y = (.held (.pointer p), []) := by
  cases v <;> simp [Rp] at h
  exact ⟨_, rfl, h.symm⟩
def foundV (fs : List Fe) (k : List UInt8) : Value := match findF fs k with | some e => ptrV e.fb | none => .pointer none
structure MpD (D : DataW Value) (fs : List Fe) : Prop where
  at_ : ∀ k z, D.atKey (.string k) z = match findF fs k with | some e => .held (ptrV e.fb) | none => z
theorem MpD.nil : MpD (.map []) [] := ⟨fun k z => by simp [findF, DataW.atKey]⟩
theorem MpD.has {D : DataW Value} {fs : List Fe} (h : MpD D fs) (k : List UInt8) : Maps.has D (.string k) = (findF fs k).isSome := by
  cases hf : findF fs k with
  | none => exact Maps.has_false_of_atKey fun z => by rw [h.at_, hf]
  | some e => exact Maps.has_true_of_atKey (y := .held (ptrV e.fb)) fun z => by rw [h.at_, hf]
theorem MpD.put {D : DataW Value} {fs : List Fe} (h : MpD D fs) (hm : Maps.IsMap D) (e : Fe) (hw : WideAt.IsKeyLit (.string (kOf e.nm))) : MpD (D.put (.string (kOf e.nm)) (.held (ptrV e.fb))) (putF fs e) :=
  ⟨fun k z => by
    rw [putF_find]
    by_cases hk : kOf e.nm = k
    · subst hk
      rw [if_pos rfl, Maps.atKey_put_same hm hw]
    · rw [if_neg hk, Maps.atKey_put_other (fun q => hk (by injection q with q; exact q.symm)), h.at_]⟩
/-- another reading of the same files: only what is seen or kept has turned -/
theorem MpD.same {D : DataW Value} {fs fs' : List Fe} (h : MpD D fs) (hs : ∀ k, (findF fs' k).map (·.fb) = (findF fs k).map (·.fb)) : MpD D fs' :=
  ⟨fun k z => by
    have := hs k
    rw [h.at_]
    cases h1 : findF fs k <;> cases h2 : findF fs' k <;> rw [h1, h2] at this <;> simp at this
    simp [this]⟩
end Go.Proofs.YtoeldmkbmnkhkaaGreat
/- The stand-in disk as a plain state, and what each call makes of it; no condition. -/
namespace Go.Proofs.YtoeldmkbmnkhkaaGreat
open Go

/-- a change that is not kept: of a number of bytes (s is empty then), or of a sector -/
structure Cg where
  nm : ByteArray
  sec : Int
  n : Int
  s : List Int
def pad64 (l : List Int) : List Int := l ++ zeros (64 - l.length)
theorem pad64_full {l : List Int} (h : l.length = 64) : pad64 l = l := by unfold pad64; rw [h]; simp [zeros]
theorem pad64_len {l : List Int} (h : l.length ≤ 64) : (pad64 l).length = 64 := by unfold pad64; simp [zeros]; omega
theorem zeros_rng (n : Nat) : ∀ y ∈ zeros n, 0 ≤ y ∧ y < 256 := by
  intro y h
  have := List.eq_of_mem_replicate h
  omega
structure CgOk (c : Cg) : Prop where
  kind : (c.s = [] ∧ c.sec = -1 ∧ 0 ≤ c.n ∧ c.n ≤ 1048576) ∨ (c.s.length = 64 ∧ 0 ≤ c.sec ∧ c.sec ≤ 16384 ∧ c.n = 0)
  rng : ∀ y ∈ c.s, 0 ≤ y ∧ y < 256
  nl : c.nm.size ≤ maxLen
theorem CgOk.le {c : Cg} (h : CgOk c) : c.s.length ≤ 64 := by
  rcases h.kind with ⟨e, _⟩ | ⟨e, _⟩
  · rw [e]; simp
  · omega
theorem CgOk.pad {c : Cg} (h : CgOk c) : (pad64 c.s).length = 64 := pad64_len h.le
def wrp (n : Int) : Int := IntKind.i64.wrap n
theorem wrp_add (a b : Int) : wrp (wrp a + b) = wrp (a + b) := by unfold wrp; simp only [IntKind.wrap_i64]; omega
theorem wrp_id {a : Int} (h : -9223372036854775808 ≤ a ∧ a ≤ 9223372036854775807) : wrp a = a := by unfold wrp; rw [IntKind.wrap_i64]; omega
/-- a disk: what is seen and what is kept of each file, their sums, how many files there may be, the changes, the numbers -/
structure Pl where
  seen : ByteArray → List Int
  kept : ByteArray → List Int
  sum : Int
  ksum : Int
  nf : Nat
  pd : List Cg
  room : Int
  steps : Int
  crash : Int
  down : Bool
  starts : Int
def sizedF (l : List Int) (n : Nat) : List Int := if n ≤ l.length then l.take n else l ++ List.replicate (n - l.length) 0
theorem sizedF_len (l : List Int) (n : Nat) : (sizedF l n).length = n := by
  unfold sizedF
  split <;> simp <;> omega
theorem sizedF_rng {l : List Int} (h : ∀ x ∈ l, 0 ≤ x ∧ x < 256) (n : Nat) : ∀ x ∈ sizedF l n, 0 ≤ x ∧ x < 256 := by
  intro x hx
  unfold sizedF at hx
  split at hx
  · exact h x (List.mem_of_mem_take hx)
  · rcases List.mem_append.1 hx with q | q
    · exact h x q
    · have := List.eq_of_mem_replicate q
      omega
theorem sizedF_self (l : List Int) : sizedF l l.length = l := by unfold sizedF; simp
def upd (f : ByteArray → List Int) (s : ByteArray) (l : List Int) : ByteArray → List Int := fun t => if t = s then l else f t
theorem upd_same (f : ByteArray → List Int) (s : ByteArray) (l : List Int) : upd f s l s = l := by simp [upd]
theorem upd_self (f : ByteArray → List Int) (s : ByteArray) : upd f s (f s) = f := by funext t; unfold upd; split <;> simp_all
theorem upd_upd (f : ByteArray → List Int) (s : ByteArray) (l m : List Int) : upd (upd f s l) s m = upd f s m := by funext t; unfold upd; split <;> simp_all
namespace Pl
def new (r : Int) : Pl := ⟨fun _ => [], fun _ => [], 0, 0, 0, [], max 0 r, 0, 0, false, 0⟩
def setSeen (p : Pl) (s : ByteArray) (l : List Int) : Pl := { p with seen := upd p.seen s l, sum := p.sum - (p.seen s).length + l.length }
def setKept (p : Pl) (s : ByteArray) (l : List Int) : Pl := { p with kept := upd p.kept s l, ksum := p.ksum - (p.kept s).length + l.length }
def at_ (p : Pl) : Pl := { p with nf := p.nf + 1 }
def pend (p : Pl) (l : List Cg) : Pl := { p with pd := p.pd ++ l }
def wrong (p : Pl) : Int := if p.down then 7 else 0
def stepE (p : Pl) : Int := if p.crash = 1 then 7 else 0
def step (p : Pl) : Pl := { p with steps := wrp (p.steps + 1), crash := if 0 < p.crash then p.crash - 1 else p.crash, down := if p.crash = 1 then true else p.down }
def fits (p : Pl) (s : ByteArray) (n : Int) : Int :=
  if 1048576 < n then 3 else if ((p.seen s).length : Int) < n ∧ p.room < wrp (n - (p.seen s).length + p.sum) then 5 else 0
def length (p : Pl) (s : ByteArray) (n : Nat) : Pl :=
  if n = (p.seen s).length then p.at_ else (p.at_.setSeen s (sizedF (p.seen s) n)).pend [⟨s, -1, n, []⟩]
def readE (p : Pl) (at_ n : Int) : Int := if p.down then 7 else if at_ < 0 ∨ n < 0 then 2 else 0
def read (p : Pl) (s : ByteArray) (at_ n : Int) : List Int := if p.readE at_ n = 0 then ((p.seen s).drop at_.toNat).take n.toNat else []
/-- bytes put at a place -/
def put (l : List Int) (a : Nat) (d : List Int) : List Int := l.take a ++ d ++ l.drop (a + d.length)
def sectors (s : ByteArray) (l : List Int) (a e : Nat) : List Cg := (List.range' (a / 64) ((e + 63) / 64 - a / 64)).map fun (k : Nat) => ⟨s, (k : Int), 0, sizedF (l.drop (k * 64)) 64⟩
def writeE (p : Pl) (s : ByteArray) (a : Int) (d : List Int) : Int :=
  if p.down then 7 else if a < 0 then 2 else if 1048576 < a ∨ 1048576 - a < d.length then 3 else if d = [] then p.stepE else
    if p.fits s (max (a + d.length) (p.seen s).length) ≠ 0 then p.fits s (max (a + d.length) (p.seen s).length) else p.stepE
/-- the data written, behind all questions -/
def write1 (p : Pl) (s : ByteArray) (a : Nat) (d : List Int) : Pl :=
  let p1 := if (p.seen s).length < a + d.length then p.length s (a + d.length) else p
  let l := put (p1.seen s) a d
  ((p1.at_.setSeen s l).pend (sectors s l a (a + d.length))).step
def write (p : Pl) (s : ByteArray) (a : Int) (d : List Int) : Pl :=
  if p.down ∨ a < 0 ∨ 1048576 < a ∨ 1048576 - a < d.length then p else if d = [] then p.step else
    if p.fits s (max (a + d.length) (p.seen s).length) ≠ 0 then p else p.write1 s a.toNat d
def truncE (p : Pl) (s : ByteArray) (n : Int) : Int :=
  if p.down then 7 else if n < 0 then 2 else if p.fits s n ≠ 0 then p.fits s n else p.stepE
def trunc (p : Pl) (s : ByteArray) (n : Int) : Pl :=
  if p.down ∨ n < 0 ∨ p.fits s n ≠ 0 then p else (p.length s n.toNat).step
def syncE (p : Pl) : Int := if p.down then 7 else p.stepE
def sync (p : Pl) (s : ByteArray) : Pl :=
  if p.down then p else if p.stepE ≠ 0 then p.step else { p.step.at_.setKept s (p.seen s) with pd := p.pd.filter fun c => !decide (c.nm = s) }
def len (p : Pl) (s : ByteArray) : Nat := if p.down then 0 else (p.seen s).length
def crashIn (p : Pl) (n : Int) : Pl := { p with crash := max 0 n }
/-- what a choice makes of what is kept, by a change -/
def made (l : List Int) (c : Cg) (ch : Int) : List Int :=
  if ch ≤ 0 then l else if c.sec < 0 then sizedF l c.n.toNat else
    put l (c.sec.toNat * 64) ((c.s.take (if 1 < ch then (1 + (ch - 2) % 63).toNat else 64)).take (l.length - c.sec.toNat * 64))
def survive (p : Pl) : List Cg → List Int → Pl
  | c :: cs, ch :: r => survive (p.at_.setKept c.nm (made (p.kept c.nm) c ch)) cs r
  | _, _ => p
def restartE (p : Pl) : Int := if p.down then 0 else 4
def restart (p : Pl) (chs : List Int) : Pl :=
  if p.down then
    let q := p.survive p.pd chs
    { q with seen := q.kept, sum := q.ksum, pd := [], steps := 0, crash := 0, down := false, starts := wrp (p.starts + 1) }
  else p
end Pl
end Go.Proofs.YtoeldmkbmnkhkaaGreat
/- Appending to a slice of the call's own: so many noughts; where the slice lies behind it; no condition. -/
namespace Go.Proofs.YtoeldmkbmnkhkaaGreat
open Go.RowKit

section
variable {P : Program}
theorem zeroCells_one (u : Value) (z : Array Value) (hz : z = #[u]) (n : Nat) : Builtin.zeroCells z n = (List.replicate n u).toArray := by
  subst hz
  unfold Builtin.zeroCells
  apply Array.ext
  · simp
  · intro i h1 h2
    simp [Nat.mod_one]
theorem append_zeros_own (w : World) (base : Nat) (t tn ty e : TypeId) (i : TypeInfo) (z u : Value) (kq kn : IntKind) (ht : P.underlying t = some (.slice e)) (htn : P.underlying tn = some (.int kn)) (hi : P.info? e = some i) (hz : i.zero = some z)
    (hsize : i.size = 1) (hby : i.bytes = 1) (hzs : z.cells = #[u]) (hu : u.oneCell' = true)
    (v : Value) (n : Nat) (xs : List Value) (hown : w.ownsRow base e 1 v n xs) (k : Nat) (hk : 0 < k) (hb : n + k ≤ 1099511627776) (hbase : base ≤ w.heap.size) :
    ∃ v' w', (Builtin.append_ #[t, tn] ty #[v, .int kq k]).run P w = .ok v' w' ∧ w'.ownsRow base e 1 v' (n + k) (xs ++ List.replicate k u) ∧ w.grownBy w' v.ownBlock ∧ (∀ b, v'.ownBlock = some b → v.ownBlock = some b ∨ w.heap.size ≤ b) := by
  have hxl : xs.length = n := by have := hown.1; omega
  have grown : ∀ (old : Nat) (row : Option Nat),
      (w.drew.alloc (.cells (xs.toArray ++ Builtin.zeroCells z.cells k ++ Builtin.zeroCells z.cells (grownCap w (n + k) old e - (n + k))) e)).ownsRow base e 1
        (.slice (some ⟨w.heap.size, 0, none⟩) (n + k) (grownCap w (n + k) old e)) (n + k) (xs ++ List.replicate k u) ∧
      w.grownBy (w.drew.alloc (.cells (xs.toArray ++ Builtin.zeroCells z.cells k ++ Builtin.zeroCells z.cells (grownCap w (n + k) old e - (n + k))) e)) row := by
    intro old row
    have hge := grownCap_ge w (n + k) old e
    have hcm : grownCap w (n + k) old e ≤ maxLen := grownCap_le_maxLen w (n + k) old e (by unfold maxLen; omega)
    rw [zeroCells_one u _ hzs, zeroCells_one u _ hzs]
    refine ⟨⟨by simp [hxl], .inr ⟨w.heap.size, _, _, rfl, hbase, heap_alloc_new w.drew _, hge, hcm, ?_, ?_⟩⟩, ⟨rfl, rfl, rfl, by simp, fun j hj _ => by first | exact Go.heap_alloc_old w.drew _ hj | exact Go.heap_alloc_old w.drew _ _ hj⟩⟩
    · simp [hxl]; omega
    · simp only [Array.toList_append, Nat.mul_one]
      exact List.take_left' (by simp [hxl])
  rcases hown.2 with ⟨rfl, rfl⟩ | ⟨g, cap, cur, rfl, hbg, hg, hnc, hcm, hcs, htake⟩
  · have hx : xs = [] := List.eq_nil_of_length_eq_zero hxl
    subst hx
    have hr := Lib.run_append_nil_zeros (P := P) w t tn ty e i z kq kn ht htn hi hz k hk (by omega) (by omega) (by rw [hby]; omega)
    have hgr := grown 0 (Value.ownBlock (.slice none 0 0))
    simp only [Nat.zero_add, List.nil_append, Array.empty_append] at hgr ⊢
    exact ⟨_, _, hr, hgr.1, hgr.2, fun b hb => .inr (by simp [Value.ownBlock] at hb; omega)⟩
  · by_cases hroom : n + k ≤ cap
    · have hfit : n * 1 + (List.replicate k u).length ≤ cur.size := by simp; omega
      have hw : IntKind.i64.wrap (k : Int) = k := by rw [IntKind.wrap_i64]; omega
      have hst := run_storeCells_at P g n e (List.replicate k u) 0 cur w hg (by simpa using hfit) (by intro v hv; rw [List.eq_of_mem_replicate hv]; exact hu)
      have hr : (Builtin.append_ #[t, tn] ty #[.slice (some ⟨g, 0, none⟩) n cap, .int kq k]).run P w = .ok (.slice (some ⟨g, 0, none⟩) (n + k) cap) (w.setRow g (cur.toList.take n ++ List.replicate k u ++ cur.toList.drop (n + k)).toArray) := by
        have hk0 : k ≠ 0 := by omega
        have h0 : ¬ ((k : Int) < 0) := by omega
        have hk48 : ¬ (281474976710656 < (k : Int)) := by omega
        simp only [Nat.add_zero, List.length_replicate] at hst
        simp [Builtin.append_, run_underlying ht, run_underlying htn, sizeOf, typeInfo, zeroValue, hi, hz, hsize, hby, hw, h0, hk0, hk48, hroom, asInt, asIntOf, zeroCells_one u _ hzs, Addr.add_lit, hst]
      refine ⟨_, _, hr, ⟨by simp [hxl], .inr ⟨g, cap, _, rfl, hbg, setRow_heap w g cur _ e _ hg, hroom, hcm, ?_, ?_⟩⟩, ⟨rfl, rfl, rfl, by simp, fun k _ hk => setRow_other w g k _ (fun e => hk (by simp [Value.ownBlock, e]))⟩, fun b hb => .inl hb⟩
      · simp; omega
      · rw [Nat.mul_one] at htake ⊢
        simp only [htake]
        exact List.take_left' (by simp [hxl])
    · have hold : (Builtin.firstCells i.size n (.slice (some ⟨g, 0, none⟩) n cap)).run P w.drew = .ok xs.toArray w.drew :=
        run_firstCells_some (P := P) w.drew i.size n ⟨g, 0, none⟩ n cap xs (by rw [hsize]; omega) (fun j u' hu' => (hown.cells (g := g) rfl) j u' hu')
      have hr := Lib.run_append_grow_zeros (P := P) w t tn ty e i z kq kn ht htn hi hz (some ⟨g, 0, none⟩) n cap xs hold k hk (by omega) (by omega) (by omega) (by rw [hby]; omega) (by
        rw [hby]
        exact growslice_fits (need := n + k) (bytes := 1) (by omega) (by omega))
      have hgr := grown cap (Value.ownBlock (.slice (some ⟨g, 0, none⟩) n cap))
      exact ⟨_, _, hr, hgr.1, hgr.2, fun b hb => .inr (by simp [Value.ownBlock] at hb; omega)⟩
end
end Go.Proofs.YtoeldmkbmnkhkaaGreat
/- The stand-in disk in memory; no condition. -/
namespace Go.Proofs.YtoeldmkbmnkhkaaGreat
open Go.RowKit

/-- a disk: its blocks, its files, its changes, its numbers -/
structure Dd where
  db : Nat
  mb : Nat
  mn : Nat
  pv : Value
  fs : List Fe
  pd : List Cg
  room : Int
  steps : Int
  crash : Int
  down : Bool
  starts : Int
def cgCells (pd : List Cg) : List Value := pd.flatMap fun c => .string c.nm :: .int .i64 c.sec :: .int .i64 c.n :: (pad64 c.s).map (Value.int .u8)
theorem cgCells_len (pd : List Cg) (h : ∀ c ∈ pd, CgOk c) : (cgCells pd).length = pd.length * 67 := by
  unfold cgCells
  induction pd with
  | nil => rfl
  | cons c pd ih =>
    have := (h c (List.mem_cons_self ..)).pad
    rw [List.flatMap_cons, List.length_append, ih fun x hx => h x (List.mem_cons_of_mem _ hx)]
    simp [this]; omega
theorem cgCells_snoc (pd : List Cg) (c : Cg) : cgCells (pd ++ [c]) = cgCells pd ++ (.string c.nm :: .int .i64 c.sec :: .int .i64 c.n :: (pad64 c.s).map (Value.int .u8)) := by
  unfold cgCells
  rw [List.flatMap_append]
  simp
/-- a list of bytes lies at a slice of the disk's own -/
structure Bq (w : World) (n0 : Nat) (v : Value) (l : List Int) : Prop where
  own : w.ownsRow n0 5 1 v l.length (l.map (Value.int .u8))
  rng : ∀ x ∈ l, 0 ≤ x ∧ x < 256
theorem Bq.none (w : World) (n0 : Nat) : Bq w n0 (.slice none 0 0) [] := ⟨World.ownsRow_nil _ _ _ _, by simp⟩
theorem Bq.form {w : World} {n0 : Nat} {v : Value} {l : List Int} (h : Bq w n0 v l) : ∃ A cap, v = .slice A l.length cap := own_slice h.own
theorem own_type {w : World} {base : Nat} {e : TypeId} {size n : Nat} {v : Value} {xs : List Value} (h : w.ownsRow base e size v n xs) {g : Nat} (hg : v.ownBlock = some g) : ∃ cs, w.heap[g]? = some (.cells cs e (0, 0)) := by
  rcases h.2 with ⟨rfl, _⟩ | ⟨g1, cap1, cur1, rfl, _, h1, _⟩
  · cases hg
  · simp only [Value.ownBlock, Option.some.injEq] at hg
    subst hg
    exact ⟨_, h1⟩
theorem Bq.keep {w w' : World} {n0 : Nat} {v : Value} {l : List Int} {S : Nat → Prop} (h : Bq w n0 v l) (k : Kp S w w') (hS : ∀ g cs, w.heap[g]? = some (.cells cs 5 (0, 0)) → ¬ S g) : Bq w' n0 v l :=
  ⟨own_keepB h.own k (fun g hg => by obtain ⟨cs, hc⟩ := own_type h.own hg; exact hS g cs hc), h.rng⟩
/-- a file's block -/
structure FeOk (w : World) (n0 : Nat) (e : Fe) : Prop where
  blk : ∃ u v, Blk w e.fb 165 #[u, v] ∧ Bq w n0 u e.seen ∧ Bq w n0 v e.kept
  ls : e.seen.length ≤ 1048576
  lk : e.kept.length ≤ 1048576
def diskCells (x : Dd) : Array Value := #[.map (some x.mb), x.pv, .int .i64 x.room, .int .i64 x.steps, .int .i64 x.crash, .bool x.down, .int .i64 x.starts]
/-- the blocks that the disk writes -/
def Dd.O (x : Dd) : Nat → Prop := fun b => b = x.db ∨ b = x.mb ∨ x.pv.ownBlock = some b ∨ ∃ e ∈ x.fs, b = e.fb
structure Dk (n0 : Nat) (w : World) (x : Dd) : Prop where
  blk : Blk w x.db 145 (diskCells x)
  mp : ∃ D, w.ownsMap Tryz.prog 9 Rp x.mb x.mn D ∧ MpD D x.fs
  names : Names x.fs
  fbs : x.fs.Pairwise fun a b => a.fb ≠ b.fb
  fls : ∀ e ∈ x.fs, FeOk w n0 e
  pend : w.ownsRow n0 158 67 x.pv x.pd.length (cgCells x.pd)
  b0 : n0 ≤ x.db
  b1 : n0 ≤ x.mb
  b2 : ∀ e ∈ x.fs, n0 ≤ e.fb
  s64 : ∀ c ∈ x.pd, CgOk c
  r0 : 0 ≤ x.room ∧ x.room ≤ 9223372036854775807
  c0 : 0 ≤ x.crash ∧ x.crash ≤ 9223372036854775807
theorem Dk.lt {n0 : Nat} {w : World} {x : Dd} (h : Dk n0 w x) : ∀ b, x.O b → b < w.heap.size := by
  rintro b (rfl | rfl | hb | ⟨e, he, rfl⟩)
  · exact h.blk.lt
  · obtain ⟨D, hD, _⟩ := h.mp; exact hD.lt
  · exact (h.pend.lt b hb).2
  · obtain ⟨u, v, hb, _⟩ := (h.fls e he).blk; exact hb.lt
theorem Dk.ge {n0 : Nat} {w : World} {x : Dd} (h : Dk n0 w x) : ∀ b, x.O b → n0 ≤ b := by
  rintro b (rfl | rfl | hb | ⟨e, he, rfl⟩)
  · exact h.b0
  · exact h.b1
  · exact (h.pend.lt b hb).1
  · exact h.b2 e he
theorem blk_ne {w : World} {g g' : Nat} {t t' : TypeId} {cs cs' : Array Value} (h : Blk w g t cs) (h' : w.heap[g']? = some (.cells cs' t' (0, 0))) (hne : t ≠ t') : g ≠ g' := by
  rintro rfl
  unfold Blk at h
  rw [h] at h'
  simp only [Option.some.injEq, Obj.cells.injEq] at h'
  exact hne h'.2.1
theorem Dk.bytes {n0 : Nat} {w : World} {x : Dd} (h : Dk n0 w x) {g : Nat} {cs : Array Value} (hg : w.heap[g]? = some (.cells cs 5 (0, 0))) : ¬ x.O g := by
  rintro (rfl | rfl | hb | ⟨e, he, rfl⟩)
  · exact blk_ne h.blk hg (by decide) rfl
  · obtain ⟨D, ⟨es, cl, hb, _⟩, _⟩ := h.mp
    rw [hb] at hg; cases hg
  · obtain ⟨cs', hc⟩ := own_type h.pend hb
    rw [hc] at hg
    simp only [Option.some.injEq, Obj.cells.injEq] at hg
    exact absurd hg.2.1 (by decide)
  · obtain ⟨u, v, hb, _⟩ := (h.fls e he).blk
    exact blk_ne hb hg (by decide) rfl
theorem Kp.map {S : Nat → Prop} {w w' : World} (k : Kp S w w') {P : Program} {kt : TypeId} {R : Value → Option (DataW Value × List MemPlace)} {b n : Nat} {D : DataW Value} (h : w.ownsMap P kt R b n D) (hn : ¬ S b) : w'.ownsMap P kt R b n D := by
  obtain ⟨es, cl, hb, F, hs, hD⟩ := h
  exact ⟨es, cl, k.lift hb hn, F, hs, hD⟩
theorem FeOk.keep {w w' : World} {n0 : Nat} {e : Fe} {S : Nat → Prop} (h : FeOk w n0 e) (k : Kp S w w') (hn : ¬ S e.fb) (hS : ∀ g cs, w.heap[g]? = some (.cells cs 5 (0, 0)) → ¬ S g) : FeOk w' n0 e := by
  obtain ⟨u, v, hb, hu, hv⟩ := h.blk
  exact ⟨⟨u, v, hb.keep k hn, hu.keep k hS, hv.keep k hS⟩, h.ls, h.lk⟩
/-- the disk stays while other blocks are written and new ones are made -/
theorem Dk.keep {n0 : Nat} {w w' : World} {x : Dd} {S : Nat → Prop} (h : Dk n0 w x) (k : Kp S w w') (hO : ∀ b, x.O b → ¬ S b) (hS : ∀ g cs, w.heap[g]? = some (.cells cs 5 (0, 0)) → ¬ S g) : Dk n0 w' x := by
  obtain ⟨D, hD, hM⟩ := h.mp
  exact { h with
    blk := h.blk.keep k (hO _ (.inl rfl))
    mp := ⟨D, k.map hD (hO _ (.inr (.inl rfl))), hM⟩
    fls := fun e he => (h.fls e he).keep k (hO _ (.inr (.inr (.inr ⟨e, he, rfl⟩)))) hS
    pend := own_keepB h.pend k (fun g hg => hO _ (.inr (.inr (.inl hg)))) }
def seenOf (fs : List Fe) (s : ByteArray) : List Int := match findF fs (kOf s) with | some e => e.seen | none => []
def allKept (fs : List Fe) : Nat := (fs.map (·.kept.length)).sum
def keptOf (fs : List Fe) (s : ByteArray) : List Int := match findF fs (kOf s) with | some e => e.kept | none => []
/-- the plain state of a disk in memory -/
structure Of (x : Dd) (p : Pl) : Prop where
  seen : p.seen = seenOf x.fs
  kept : p.kept = keptOf x.fs
  sum : p.sum = allSum x.fs
  ksum : p.ksum = allKept x.fs
  nf : x.mn ≤ p.nf
  pd : p.pd = x.pd
  room : p.room = x.room
  steps : p.steps = x.steps
  crash : p.crash = x.crash
  down : p.down = x.down
  starts : p.starts = x.starts
theorem keyS (s : ByteArray) (hs : s.size ≤ maxLen) : keyOf Tryz.prog 9 (.string s) = some (.string (kOf s)) := WideMaps.keyOf_string_mk Tryz.underlying9 hs
theorem keyed : Maps.Keyed Tryz.prog 9 := Maps.string_keyed Tryz.underlying9
/-- the look-up of a name -/
theorem Dk.look {n0 : Nat} {w : World} {x : Dd} (h : Dk n0 w x) (s : ByteArray) (hs : s.size ≤ maxLen) :
    (Instr.lookup 142 (.map (some x.mb)) (.string s) false).run Tryz.prog w = .ok (foundV x.fs (kOf s)) w := by
  obtain ⟨D, hD, hM⟩ := h.mp
  have hz : (zeroValue 159).run Tryz.prog w = .ok (.pointer none) w := by kernel_rfl
  obtain ⟨v, ps, hrun, hv⟩ := hD.lookup keyed Tryz.underlying142 hz (zd := .held (.pointer none)) (zp := []) rfl (keyS s hs)
  obtain ⟨p, rfl, hy⟩ := Rp_inv hv
  rw [hM.at_] at hy
  simp only [Prod.mk.injEq] at hy
  rw [hrun]
  unfold foundV
  cases hf : findF x.fs (kOf s) with
  | none => rw [hf] at hy; simp at hy; simp [hy]
  | some e => rw [hf] at hy; simp [ptrV] at hy; simp [ptrV, ← hy.1]
end Go.Proofs.YtoeldmkbmnkhkaaGreat
/- The stand-in disk: New, is, wrong, bytes, at; no condition but on the name's length. -/
namespace Go.Proofs.YtoeldmkbmnkhkaaGreat
open Go.RowKit

theorem mapNe (b : Nat) (w : World) : (binOp .neq 142 (.map (some b)) (.map none)).run Tryz.prog w = .ok (.bool true) w := by kernel_rfl
def NewPost (n0 : Nat) (w : World) (r : Int) (e : Ending) (w' : World) : Prop := ∃ db mb, e = .returned (ptrV db) ∧ Dk n0 w' ⟨db, mb, 0, .slice none 0 0, [], [], r, 0, 0, false, 0⟩ ∧ Kp NoB w w' ∧ w.heap.size ≤ db ∧ w.heap.size ≤ mb
theorem new_post (n0 : Nat) (w : World) (r : Int) (hr : 0 ≤ r ∧ r ≤ 9223372036854775807) (hn : n0 ≤ w.heap.size) : NewPost n0 w r (.returned (.pointer (some ⟨w.heap.size + 1, 0, none⟩))) ((w.alloc (.map #[] 0)).alloc (.cells #[.map (some w.heap.size), .slice none 0 0, .int .i64 r, .int .i64 0, .int .i64 0, .bool false, .int .i64 0] 145)) := by
  refine ⟨w.heap.size + 1, w.heap.size, by simp [ptrV], ?_, ((Kp.refl NoB w).alloc _).alloc _, by omega, by omega⟩
  exact
    { blk := by
        have := Blk.newAt (w.alloc (.map #[] 0)) 145 (diskCells ⟨w.heap.size + 1, w.heap.size, 0, .slice none 0 0, [], [], r, 0, 0, false, 0⟩) (w.heap.size + 1) (by simp)
        simpa [diskCells] using this
      mp := ⟨_, (World.ownsMap_made w Tryz.prog 9 Rp).alloc _, MpD.nil⟩
      names := List.Pairwise.nil
      fbs := List.Pairwise.nil
      fls := by simp
      pend := World.ownsRow_nil _ _ _ _
      b0 := by simp; omega
      b1 := hn
      b2 := by simp
      s64 := by simp
      r0 := hr
      c0 := by simp }
set_option maxRecDepth 100000 in
theorem new_ok (w : World) (r : Int) (hr : -9223372036854775808 ≤ r ∧ r ≤ 9223372036854775807) (n0 : Nat) (hn : n0 ≤ w.heap.size) :
    Calls Tryz.prog 21 #[.int .i64 r] w (NewPost n0 w (max 0 r)) := by
  have hmm := @run_makeMap Tryz.prog
  obtain ⟨m, hm⟩ : ∃ m, max 0 r = m := ⟨_, rfl⟩
  have HM := Lib.hid (show 0 ≤ m ∧ m ≤ 9223372036854775807 by omega)
  have HN := Lib.hid hn
  rw [hm]
  rcases (show r < 0 ∨ r = 0 ∨ 0 < r by omega) with h0 | rfl | h0
  · obtain rfl : 0 = m := by omega
    have hh : ¬ 0 ≤ r := by omega
    clear hn hm
    go_enter Tryz.func21, Tryz.ntmps21
    go_wp2_with fail
    all_goals
      go_ret
      exact new_post n0 w _ HM.out HN.out
  · obtain rfl : 0 = m := by omega
    clear hn hm
    go_enter Tryz.func21, Tryz.ntmps21
    go_wp2_with fail
    all_goals
      go_ret
      exact new_post n0 w _ HM.out HN.out
  · obtain rfl : r = m := by omega
    have hh : 0 ≤ r := by omega
    clear hn hm
    go_enter Tryz.func21, Tryz.ntmps21
    go_wp2_with fail
    all_goals
      go_ret
      exact new_post n0 w _ HM.out HN.out
set_option maxRecDepth 100000 in
theorem is_ok (w : World) (n0 : Nat) (x : Dd) (h : Dk n0 w x) : Calls Tryz.prog 83 #[ptrV x.db] w fun e w' => e = .returned (.bool true) ∧ w = w' := by
  have c0 : w.cell? ⟨x.db, 0, none⟩ = some (.map (some x.mb)) := by rw [h.blk.cell]; rfl
  have hne := mapNe
  unfold ptrV
  go_enter Tryz.func83, Tryz.ntmps83
  go_wp2_with fail
  go_ret
  exact ⟨rfl, rfl⟩
set_option maxRecDepth 100000 in
theorem wrong_ok (w : World) (n0 : Nat) (x : Dd) (h : Dk n0 w x) : Calls Tryz.prog 159 #[ptrV x.db] w fun e w' => e = .returned (.int .i64 (if x.down then 7 else 0)) ∧ w = w' := by
  have H := Lib.hid h
  have c5 : w.cell? ⟨x.db, 5, none⟩ = some (.bool x.down) := by rw [h.blk.cell]; rfl
  clear h
  obtain ⟨db, hdb⟩ : ∃ db, x.db = db := ⟨_, rfl⟩
  rw [hdb] at c5 ⊢
  have HD := Lib.hid hdb
  clear hdb
  unfold ptrV
  cases hd : x.down
  · rw [hd] at c5
    go_enter Tryz.func159, Tryz.ntmps159
    go_wp2_with (go_at_call 83; go_must (refine (show Calls _ _ #[ptrV db] _ _ by rw [← HD.out]; exact is_ok _ _ _ H.out).mono ?_); rintro e w2 ⟨rfl, rfl⟩)
    go_ret
    exact ⟨rfl, rfl⟩
  · rw [hd] at c5
    go_enter Tryz.func159, Tryz.ntmps159
    go_wp2_with (go_at_call 83; go_must (refine (show Calls _ _ #[ptrV db] _ _ by rw [← HD.out]; exact is_ok _ _ _ H.out).mono ?_); rintro e w2 ⟨rfl, rfl⟩)
    go_ret
    exact ⟨rfl, rfl⟩
set_option maxRecDepth 100000 in
theorem bytes_ok (w : World) (n0 : Nat) (x : Dd) (s : ByteArray) (hs : s.size ≤ maxLen) (h : Dk n0 w x) : Calls Tryz.prog 162 #[ptrV x.db, .string s] w fun e w' => ∃ A cap, e = .returned (.slice A (seenOf x.fs s).length cap) ∧ Bq w n0 (.slice A (seenOf x.fs s).length cap) (seenOf x.fs s) ∧ w' = w := by
  have c0 : w.cell? ⟨x.db, 0, none⟩ = some (.map (some x.mb)) := by rw [h.blk.cell]; rfl
  have hl := h.look s hs
  have HL := Lib.hid hl
  unfold ptrV
  cases hf : findF x.fs (kOf s) with
  | none =>
    have hv : seenOf x.fs s = [] := by unfold seenOf; rw [hf]
    rw [show foundV x.fs (kOf s) = .pointer none by unfold foundV; rw [hf]] at hl
    clear HL
    rw [hv]
    go_enter Tryz.func162, Tryz.ntmps162
    go_wp2_with fail
    go_ret
    exact ⟨none, 0, rfl, Bq.none _ _, rfl⟩
  | some e =>
    have hv : seenOf x.fs s = e.seen := by unfold seenOf; rw [hf]
    rw [show foundV x.fs (kOf s) = .pointer (some ⟨e.fb, 0, none⟩) by unfold foundV; rw [hf]; rfl] at hl
    obtain ⟨u, v, hb, hu, hq⟩ := (h.fls e (findF_some hf).1).blk
    obtain ⟨A, cap, rfl⟩ := hu.form
    have c1 : w.cell? ⟨e.fb, 0, none⟩ = some (.slice A e.seen.length cap) := by rw [hb.cell]; rfl
    have HU := Lib.hid hu
    clear HL hu hb hq
    rw [hv]
    go_enter Tryz.func162, Tryz.ntmps162
    go_wp2_with fail
    go_ret
    exact ⟨A, cap, rfl, HU.out, rfl⟩
end Go.Proofs.YtoeldmkbmnkhkaaGreat
/- The stand-in disk: at makes a file that is not there; step; no condition but on the name's length and the counts. -/
namespace Go.Proofs.YtoeldmkbmnkhkaaGreat
open Go.RowKit

theorem putF_self {fs : List Fe} {e : Fe} (h : findF fs (kOf e.nm) = some e) : putF fs e = fs := by
  induction fs with
  | nil => simp [findF] at h
  | cons y r ih =>
    unfold putF
    split
    · rename_i hy
      unfold findF at h
      rw [List.find?_cons_of_pos (by simpa using hy)] at h
      rw [Option.some.inj h]
    · rename_i hy
      rw [ih]
      unfold findF at h ⊢
      rwa [List.find?_cons_of_neg (by simpa using hy)] at h
theorem putF_fbs {fs : List Fe} {e : Fe} (hp : fs.Pairwise fun a b => a.fb ≠ b.fb) (hn : Names fs) (hne : ∀ x ∈ fs, kOf x.nm ≠ kOf e.nm → x.fb ≠ e.fb) : (putF fs e).Pairwise fun a b => a.fb ≠ b.fb := by
  induction fs with
  | nil => simp [putF]
  | cons y r ih =>
    obtain ⟨h1, h2⟩ := List.pairwise_cons.1 hp
    obtain ⟨n1, n2⟩ := List.pairwise_cons.1 hn
    unfold putF
    split
    · rename_i hy
      refine List.pairwise_cons.2 ⟨fun x hx => ?_, h2⟩
      have := hne x (List.mem_cons_of_mem _ hx) (fun q => n1 x hx (by rw [hy, q]))
      exact fun q => this q.symm
    · rename_i hy
      refine List.pairwise_cons.2 ⟨fun x hx => ?_, ih h2 n2 fun x hx => hne x (List.mem_cons_of_mem _ hx)⟩
      rcases putF_mem hx with rfl | ⟨hm, _⟩
      · exact hne y (List.mem_cons_self ..) hy
      · exact h1 x hm
theorem dk_added {n0 : Nat} {w w1 : World} {x : Dd} (h : Dk n0 w x) (hn : n0 ≤ w.heap.size) {s : ByteArray} (hs : s.size ≤ maxLen) (hf : findF x.fs (kOf s) = none) {D : DataW Value} {m : Nat} (hD : w.ownsMap Tryz.prog 9 Rp x.mb x.mn D) (hM : MpD D x.fs)
    (hown1 : w1.ownsMap Tryz.prog 9 Rp x.mb m (D.put (.string (kOf s)) (.held (ptrV w.heap.size))))
    (hg : (w.alloc (.cells #[.slice none 0 0, .slice none 0 0] 165)).grownBy w1 (some x.mb)) :
    Dk n0 w1 { x with fs := putF x.fs ⟨s, w.heap.size, [], []⟩, mn := m } ∧ Kp (OnB x.mb) w w1 := by
  have hk : Kp (OnB x.mb) w w1 := ((Kp.refl _ w).alloc _).grown hg (fun k hk => .inr (by simpa [OnB] using hk.symm))
  have hIs : Maps.IsMap D := by obtain ⟨es, cl, _, _, _, e⟩ := hD; exact ⟨_, e⟩
  have hmb : x.mb < w.heap.size := hD.lt
  have hnew : Blk w1 w.heap.size 165 #[.slice none 0 0, .slice none 0 0] := by
    have h0 := Blk.new w 165 #[.slice none 0 0, .slice none 0 0]
    unfold Blk at h0 ⊢
    rw [← h0]
    exact hg.block _ (by simp) (by simp; omega)
  have ndb : ¬ OnB x.mb x.db := by
    intro q
    obtain ⟨es, cl, hb, _⟩ := hD
    have := h.blk
    unfold Blk at this
    rw [show x.db = x.mb from q, hb] at this
    cases this
  have cellNe : ∀ g cs t, w.heap[g]? = some (.cells cs t (0, 0)) → ¬ OnB x.mb g := by
    rintro g cs t hg' rfl
    obtain ⟨es, cl, hb, _⟩ := hD
    rw [hb] at hg'
    cases hg'
  have hfl : ∀ e ∈ x.fs, FeOk w1 n0 e := fun e he => (h.fls e he).keep hk (by obtain ⟨u, v, hb, _⟩ := (h.fls e he).blk; exact cellNe _ _ _ hb) (fun g cs hc => cellNe g cs _ hc)
  refine ⟨{ h with
    blk := h.blk.keep hk ndb
    mp := ⟨_, hown1, hM.put hIs ⟨s, w.heap.size, [], []⟩ (keyed.key (keyS s hs))⟩
    names := putF_names h.names _
    fbs := putF_fbs h.fbs h.names (fun e he _ => by
      obtain ⟨u, v, hb, _⟩ := (h.fls e he).blk
      have := hb.lt
      exact Nat.ne_of_lt this)
    fls := fun e he => by
      rcases putF_mem he with rfl | ⟨hm, _⟩
      · exact ⟨⟨_, _, hnew, Bq.none _ _, Bq.none _ _⟩, by simp, by simp⟩
      · exact hfl e hm
    pend := own_keepB h.pend hk (fun g hg' => by obtain ⟨cs, hc⟩ := own_type h.pend hg'; exact cellNe _ _ _ hc)
    b2 := fun e he => by
      rcases putF_mem he with rfl | ⟨hm, _⟩
      · exact hn
      · exact h.b2 e hm }, hk⟩
def AtPost (n0 : Nat) (w : World) (x : Dd) (s : ByteArray) (e : Ending) (w' : World) : Prop :=
  ∃ e0 m, e = .returned (ptrV e0.fb) ∧ Dk n0 w' { x with fs := putF x.fs e0, mn := m } ∧ m ≤ x.mn + 1 ∧ e0.nm = s ∧ e0.seen = seenOf x.fs s ∧ e0.kept = keptOf x.fs s ∧ Kp (OnB x.mb) w w' ∧ ((∃ q ∈ x.fs, q.fb = e0.fb) ∨ w.heap.size ≤ e0.fb)
set_option maxRecDepth 100000 in
theorem at_ok (w : World) (n0 : Nat) (x : Dd) (s : ByteArray) (hs : s.size ≤ maxLen) (hm : x.mn < 1099511627776) (hn : n0 ≤ w.heap.size) (h : Dk n0 w x) :
    Calls Tryz.prog 84 #[ptrV x.db, .string s] w (AtPost n0 w x s) := by
  have H := Lib.hid h
  have HS := Lib.hid hs
  have HN := Lib.hid hn
  have c0 : w.cell? ⟨x.db, 0, none⟩ = some (.map (some x.mb)) := by rw [h.blk.cell]; rfl
  have hl := h.look s hs
  unfold ptrV
  cases hf : findF x.fs (kOf s) with
  | some e =>
    have HF := Lib.hid hf
    rw [show foundV x.fs (kOf s) = .pointer (some ⟨e.fb, 0, none⟩) by unfold foundV; rw [hf]; rfl] at hl
    clear h hf hs hn hm
    go_enter Tryz.func84, Tryz.ntmps84
    go_wp2_with fail
    go_ret
    have hk := (findF_some HF.out).2
    have hnm : e.nm = s := kOf_inj hk
    have hp : putF x.fs e = x.fs := putF_self (by rw [hk]; exact HF.out)
    exact ⟨e, x.mn, rfl, by rw [hp]; exact H.out, by omega, hnm, by unfold seenOf; rw [HF.out], by unfold keptOf; rw [HF.out], Kp.refl _ _, .inl ⟨e, (findF_some HF.out).1, rfl⟩⟩
  | none =>
    have HF := Lib.hid hf
    rw [show foundV x.fs (kOf s) = .pointer none by unfold foundV; rw [hf]] at hl
    obtain ⟨D, hD, hM⟩ := h.mp
    have HD := Lib.hid hD
    have HM := Lib.hid hM
    have hT : Hid (x.mn < maxLen) := Lib.hid (by unfold maxLen; omega)
    have HB := Lib.hid h.blk
    clear h hf hs hn hm hD hM
    go_enter Tryz.func84, Tryz.ntmps84
    go_wp2_with (at_mapUpdate; refine wpList_mapUpdate_own _ rfl _ _ _ 142 rfl 9 159 keyed Tryz.underlying142 Rp x.mb x.mn D rfl (HD.out.alloc _) hT.out _ _ (.string (kOf s)) rfl rfl (keyS s HS.out) (.held (ptrV w.heap.size)) [] rfl ?_; intro w1 hown1 hgrow1; have hA := dk_added H.out HN.out HS.out HF.out HD.out HM.out hown1 hgrow1; have HA := Lib.hid hA; have c1 : w1.cell? ⟨x.db, 0, none⟩ = some (.map (some x.mb)) := (by rw [hA.1.blk.cell]; rfl); have hl1 := hA.1.look s HS.out; rw [show foundV _ (kOf s) = .pointer (some ⟨w.heap.size, 0, none⟩) by unfold foundV; simp only [putF_find, if_true]; rfl] at hl1; clear hA hown1 hgrow1)
    go_ret
    exact ⟨⟨s, w.heap.size, [], []⟩, _, rfl, HA.out.1, Nat.le_refl _, rfl, by unfold seenOf; rw [HF.out], by unfold keptOf; rw [HF.out], HA.out.2, .inr (Nat.le_refl _)⟩
end Go.Proofs.YtoeldmkbmnkhkaaGreat
/- The stand-in disk: step; no condition. -/
namespace Go.Proofs.YtoeldmkbmnkhkaaGreat
open Go.RowKit

theorem onb_cells {w : World} {b g : Nat} {cs cs' : Array Value} {t t' : TypeId} (hb : Blk w b t cs) (hg : w.heap[g]? = some (.cells cs' t' (0, 0))) (hne : t ≠ t') : ¬ OnB b g := by
  rintro rfl
  exact blk_ne hb hg hne rfl
/-- only the disk's own cells turn -/
theorem Dk.numbers {n0 : Nat} {w w' : World} {x : Dd} (h : Dk n0 w x) (k : Kp (OnB x.db) w w') (room steps crash : Int) (down : Bool) (starts : Int)
    (hb : Blk w' x.db 145 #[.map (some x.mb), x.pv, .int .i64 room, .int .i64 steps, .int .i64 crash, .bool down, .int .i64 starts])
    (r0 : 0 ≤ room ∧ room ≤ 9223372036854775807) (c0 : 0 ≤ crash ∧ crash ≤ 9223372036854775807) :
    Dk n0 w' { x with room := room, steps := steps, crash := crash, down := down, starts := starts } := by
  obtain ⟨D, hD, hM⟩ := h.mp
  have hmb : ¬ OnB x.db x.mb := by
    intro q
    obtain ⟨es, cl, hm, _⟩ := hD
    have := h.blk
    unfold Blk at this
    rw [← show x.mb = x.db from q, hm] at this
    cases this
  exact { h with
    blk := hb
    mp := ⟨D, k.map hD hmb, hM⟩
    fls := fun e he => (h.fls e he).keep k (by obtain ⟨u, v, hb', _⟩ := (h.fls e he).blk; exact onb_cells h.blk hb' (by decide)) (fun g cs hc => onb_cells h.blk hc (by decide))
    pend := own_keepB h.pend k (fun g hg => by obtain ⟨cs, hc⟩ := own_type h.pend hg; exact onb_cells h.blk hc (by decide))
    r0 := r0
    c0 := c0 }
theorem Kp.setAt {S : Nat → Prop} {a w : World} (h : Kp S a w) {g : Nat} (hS : S g) (o : Nat) (u : Value) : Kp S a (w.setCell ⟨g, o, none⟩ u) := h.setCell (.inr hS) u
def stepF (x : Dd) : Dd := { x with steps := wrp (x.steps + 1), crash := if 0 < x.crash then x.crash - 1 else x.crash, down := if x.crash = 1 then true else x.down }
def stepE (x : Dd) : Int := if x.crash = 1 then 7 else 0
set_option maxRecDepth 100000 in
set_option maxHeartbeats 1600000 in
theorem step_ok (w : World) (n0 : Nat) (x : Dd) (h : Dk n0 w x) :
    Calls Tryz.prog 160 #[ptrV x.db] w fun e w' => e = .returned (.int .i64 (stepE x)) ∧ Dk n0 w' (stepF x) ∧ Kp (OnB x.db) w w' := by
  have H := Lib.hid h
  have HB := Lib.hid h.blk
  have c3 : w.cell? ⟨x.db, 3, none⟩ = some (.int .i64 x.steps) := by rw [h.blk.cell]; rfl
  have c4 : w.cell? ⟨x.db, 4, none⟩ = some (.int .i64 x.crash) := by rw [h.blk.cell]; rfl
  have c5 : w.cell? ⟨x.db, 5, none⟩ = some (.bool x.down) := by rw [h.blk.cell]; rfl
  have f3 := h.blk.frozen 3
  have f4 := h.blk.frozen 4
  have f5 := h.blk.frozen 5
  have hw2 : 0 < x.crash → IntKind.i64.wrap (x.crash - 1) = x.crash - 1 := fun hp => by rw [IntKind.wrap_i64]; have := h.c0; omega
  have hC := h.c0
  have hw1 : IntKind.i64.wrap (x.steps + 1) = wrp (x.steps + 1) := rfl
  clear h
  unfold ptrV
  rcases (show x.crash = 0 ∨ x.crash = 1 ∨ 1 < x.crash by omega) with hc | hc | hc
  · have HC := Lib.hid hc
    rw [hc] at c4
    clear hw2 hC hc
    go_enter Tryz.func160, Tryz.ntmps160
    go_wp2_with fail
    go_ret
    have e1 : stepF x = { x with room := x.room, steps := wrp (x.steps + 1), crash := 0, down := x.down, starts := x.starts } := by unfold stepF; simp [HC.out]
    have kp : Kp (OnB x.db) w (w.setCell ⟨x.db, 3, none⟩ (.int .i64 (wrp (x.steps + 1)))) := (Kp.refl (OnB x.db) w).setAt (show OnB x.db x.db from rfl) _ _
    refine ⟨by unfold stepE; simp [HC.out], ?_, kp⟩
    rw [e1]
    refine H.out.numbers kp _ _ _ _ _ ?_ H.out.r0 (by omega)
    have hb := HB.out.set_ 3 (.int .i64 (wrp (x.steps + 1)))
    simpa [diskCells, HC.out] using hb
  · have HC := Lib.hid hc
    have hw3 : IntKind.i64.wrap ((1 : Int) - 1) = 0 := by rw [IntKind.wrap_i64]; rfl
    rw [hc] at c4
    clear hw2 hC hc
    go_enter Tryz.func160, Tryz.ntmps160
    go_wp2_with fail
    go_ret
    have e1 : stepF x = { x with room := x.room, steps := wrp (x.steps + 1), crash := 0, down := true, starts := x.starts } := by unfold stepF; simp [HC.out]
    have kp : Kp (OnB x.db) w (((w.setCell ⟨x.db, 3, none⟩ (.int .i64 (wrp (x.steps + 1)))).setCell ⟨x.db, 4, none⟩ (.int .i64 0)).setCell ⟨x.db, 5, none⟩ (.bool true)) := (((Kp.refl (OnB x.db) w).setAt (show OnB x.db x.db from rfl) _ _).setAt (show OnB x.db x.db from rfl) _ _).setAt (show OnB x.db x.db from rfl) _ _
    refine ⟨by unfold stepE; simp [HC.out], ?_, kp⟩
    rw [e1]
    refine H.out.numbers kp _ _ _ _ _ ?_ H.out.r0 (by omega)
    have hb := ((HB.out.set_ 3 (.int .i64 (wrp (x.steps + 1)))).set_ 4 (.int .i64 0)).set_ 5 (.bool true)
    simpa [diskCells] using hb
  · have HC := Lib.hid hc
    have HCC := Lib.hid hC
    have hw3 := hw2 (by omega)
    have hp : (0 : Int) < x.crash := by omega
    have hq : ¬ x.crash - 1 = 0 := by omega
    have hq2 : (x.crash - 1 == 0) = false := by simpa using hq
    clear hw2 hC hc
    go_enter Tryz.func160, Tryz.ntmps160
    go_wp2_with fail
    go_ret
    have hne : ¬ x.crash = 1 := by have := HC.out; omega
    have e1 : stepF x = { x with room := x.room, steps := wrp (x.steps + 1), crash := x.crash - 1, down := x.down, starts := x.starts } := by unfold stepF; simp [hne, hp]
    have kp : Kp (OnB x.db) w ((w.setCell ⟨x.db, 3, none⟩ (.int .i64 (wrp (x.steps + 1)))).setCell ⟨x.db, 4, none⟩ (.int .i64 (x.crash - 1))) := ((Kp.refl (OnB x.db) w).setAt (show OnB x.db x.db from rfl) _ _).setAt (show OnB x.db x.db from rfl) _ _
    refine ⟨by unfold stepE; simp [hne], ?_, kp⟩
    rw [e1]
    refine H.out.numbers kp _ _ _ _ _ ?_ H.out.r0 (by have := HCC.out; omega)
    have hb := ((HB.out.set_ 3 (.int .i64 (wrp (x.steps + 1)))).set_ 4 (.int .i64 (x.crash - 1)))
    simpa [diskCells] using hb
end Go.Proofs.YtoeldmkbmnkhkaaGreat
/- The stand-in disk: fits; condition: no negative number of bytes. -/
namespace Go.Proofs.YtoeldmkbmnkhkaaGreat
open Go.RowKit

theorem next_fact {n0 : Nat} {w w1 : World} {x : Dd} {D : DataW Value} (h : Dk n0 w x) (hM : MpD D x.fs) (kp : Kp NoB w w1) {s : ByteArray} {kl : Lit} {c : Option Addr} {y : DataW Value × List MemPlace}
    (hkey : keyOf Tryz.prog 9 (.string s) = some kl) (hv : Rp (.pointer c) = some y) (hat : ∀ zd, D.atKey kl zd = y.1) :
    ∃ e ∈ x.fs, kl = .string (kOf e.nm) ∧ c = some ⟨e.fb, 0, none⟩ ∧ ∃ A cap, w1.cell? ⟨e.fb, 0, none⟩ = some (.slice A e.seen.length cap) := by
  obtain ⟨p, ep, rfl⟩ := Rp_inv hv
  cases ep
  have hk : kl = .string (kOf s) := by
    by_cases hs : s.size ≤ maxLen
    · rw [keyS s hs] at hkey
      exact (Option.some.inj hkey).symm
    · have hu := Tryz.underlying9
      simp [keyOf, mapKey, hu] at hkey
      obtain ⟨_, rfl⟩ := hkey
      rfl
  subst hk
  cases hf : findF x.fs (kOf s) with
  | none =>
    have h1 := hat (.lit (.bool true))
    have h2 := hat (.lit (.bool false))
    rw [hM.at_, hf] at h1 h2
    rw [← h2] at h1
    simp at h1
  | some e =>
    obtain ⟨he, hk⟩ := findF_some hf
    have h1 := hat .nil
    rw [hM.at_, hf] at h1
    simp only [ptrV, DataW.held.injEq, Value.pointer.injEq] at h1
    obtain ⟨u, v, hb, hu, _⟩ := (h.fls e he).blk
    obtain ⟨A, cap, rfl⟩ := hu.form
    refine ⟨e, he, by rw [hk], h1.symm, A, cap, ?_⟩
    rw [kp.cell hb.lt (fun q => q), hb.cell]
    rfl
theorem keyS_inv {key : Value} {kl : Lit} (h : keyOf Tryz.prog 9 key = some kl) : ∃ s, key = .string s := by
  have hk := Tryz.underlying9
  cases key <;> simp [keyOf, hk, mapKey] at h
  exact ⟨_, rfl⟩
theorem seen_le {n0 : Nat} {w : World} {x : Dd} (h : Dk n0 w x) (s : ByteArray) : (seenOf x.fs s).length ≤ 1048576 := by
  unfold seenOf
  split
  · rename_i e hf
    exact (h.fls e (findF_some hf).1).ls
  · simp
set_option maxRecDepth 100000 in
set_option maxHeartbeats 1600000 in
theorem fits_ok (w : World) (n0 : Nat) (x : Dd) (p : Pl) (s : ByteArray) (n : Int) (hs : s.size ≤ maxLen) (hn : 0 ≤ n ∧ n ≤ 9223372036854775807) (h : Dk n0 w x) (hp : Of x p) :
    Calls Tryz.prog 161 #[ptrV x.db, .string s, .int .i64 n] w fun e w' => e = .returned (.int .i64 (p.fits s n)) ∧ Kp NoB w w' := by
  have H := Lib.hid h
  have HP := Lib.hid hp
  have HS := Lib.hid hs
  obtain ⟨D, hD, hM⟩ := h.mp
  have HD := Lib.hid hD
  have HM := Lib.hid hM
  have HB := Lib.hid h.blk
  have c0 : w.cell? ⟨x.db, 0, none⟩ = some (.map (some x.mb)) := by rw [h.blk.cell]; rfl
  obtain ⟨was, hwas⟩ : ∃ m, (seenOf x.fs s).length = m := ⟨_, rfl⟩
  have hwl := seen_le h s
  rw [hwas] at hwl
  have HW := Lib.hid hwas
  obtain ⟨db, hdb⟩ : ∃ db, x.db = db := ⟨_, rfl⟩
  have HX := Lib.hid hdb
  rw [hdb] at c0 ⊢
  have hw1 : IntKind.i64.wrap (n - (was : Int)) = n - was := by rw [IntKind.wrap_i64]; omega
  have HN := Lib.hid hn
  have HWL := Lib.hid hwl
  have HR := Lib.hid h.r0
  clear h hs hD hM hwas hdb hwl hp
  unfold ptrV
  go_enter Tryz.func161, Tryz.ntmps161
  go_wp2_with (first
    | (go_at_call 162; go_must (refine (show Calls _ _ #[ptrV db, .string s] _ _ by rw [← HX.out]; exact bytes_ok _ _ _ _ HS.out H.out).mono ?_); rintro e w2 ⟨A, cap, rfl, _, rfl⟩; rw [HW.out])
    | (at_range; refine wpList_range_own _ rfl _ 142 rfl 9 159 keyed Tryz.underlying142 Rp x.mb x.mn D rfl HD.out ?_; intro w0 hrg0 hg0 hs0))
  go_frame
  have HR0 := Lib.hid (show (∀ e ∈ x.fs, Maps.has D (.string (kOf e.nm)) = true) from fun e he => by rw [HM.out.has, H.out.names.find he]; rfl)
  have hsm0 : n - (was : Int) = wrp (n - was) := hw1.symm
  go_loopw [8, 10] (fun sum _ wr => ∃ (left : Lit → Bool) (cnt : Nat), wr.ranges Tryz.prog 9 Rp x.mb w2.heap.size x.mn D left cnt ∧ sum = .int .i64 (wrp (n - was + (restSum (fun k => left (.string k)) x.fs : Nat))) ∧ Kp NoB w2 wr) (fun _ _ wr => wr.rangeLeft x.mb w2.heap.size)
  case atStart => exact ⟨Maps.has D, Maps.size D, hrg0, by rw [restSum_none (fun e he => HR0.out e he)]; simp only [Int.natCast_zero, Int.add_zero]; rw [← hsm0], (Kp.refl NoB w2).grown hg0 (by simp)⟩
  case round =>
    obtain ⟨left, cnt, hrg, rfl, hkp⟩ := hrel
    have HRG := Lib.hid hrg
    have HK := Lib.hid hkp
    obtain ⟨sm, hsm⟩ : ∃ m, wrp (n - (was : Int) + (restSum (fun k => left (.string k)) x.fs : Nat)) = m := ⟨_, rfl⟩
    rw [hsm]
    have HSM := Lib.hid hsm
    clear hkp hrg0 hg0 hs0 hsm hsm0 hw1
    go_wp2_with (at_next; refine wpList_next_ranges _ rfl _ rfl 9 keyed Rp Value.string Value.pointer (fun key kl hk => keyS_inv hk) (fun v y hv => by obtain ⟨p, rfl, _⟩ := Rp_inv hv; exact ⟨p, rfl⟩) x.mb w2.heap.size x.mn D left cnt rfl hrg ?_ ?_)
    · intro _ hl0
      have e1 : sm = wrp (n - (was : Int) + (allSum x.fs : Nat)) := by rw [← HSM.out, restSum_all (fun e _ => hl0 _)]
      have c2 : wr.cell? ⟨db, 2, none⟩ = some (.int .i64 x.room) := by rw [← HX.out, HK.out.cell HB.out.lt (fun q => q), HB.out.cell]; rfl
      have HF : Hid (p.fits s n = if 1048576 < n then 3 else if (was : Int) < n ∧ x.room < sm then 5 else 0) := Lib.hid (by unfold Pl.fits; rw [HP.out.seen, HP.out.sum, HP.out.room, HW.out, e1])
      clear hl0 e1 hrg
      by_cases h0 : (1048576 : Int) < n
      · go_wp2_with fail
        go_ret
        exact ⟨by rw [HF.out, if_pos h0]; rfl, HK.out⟩
      · by_cases h1 : (was : Int) < n
        · by_cases h2 : x.room < sm
          · go_wp2_with fail
            go_ret
            exact ⟨by rw [HF.out, if_neg (by omega), if_pos ⟨h1, h2⟩]; rfl, HK.out⟩
          · go_wp2_with fail
            go_ret
            exact ⟨by rw [HF.out, if_neg (by omega), if_neg (fun q => by omega)]; rfl, HK.out⟩
        · go_wp2_with fail
          go_ret
          exact ⟨by rw [HF.out, if_neg (by omega), if_neg (fun q => by omega)]; rfl, HK.out⟩
    · intro x1 c kl a b w3 cnt3 hkey hlk hv hat hrg3 hlt hg3 hs3 hen
      have hk3 := HK.out.grown hg3 (fun k hk => .inl (by injection hk with hk; omega))
      obtain ⟨e, he, rfl, rfl, B, cp, ce⟩ := next_fact H.out HM.out hk3 hkey hv hat
      have HE := Lib.hid he
      have HLK := Lib.hid hlk
      have HK3 := Lib.hid hk3
      have HR3 := Lib.hid hrg3
      have HLT := Lib.hid hlt
      have hst := restSum_step H.out.names (left := fun k => left (.string k)) he hlk
      have hww : IntKind.i64.wrap (sm + (e.seen.length : Int)) = wrp (sm + e.seen.length) := rfl
      have HST : Hid (wrp (sm + (e.seen.length : Int)) = wrp (n - (was : Int) + (restSum (fun z => left (.string z) && !(z == kOf e.nm)) x.fs : Nat))) := Lib.hid (by rw [← HSM.out, hst, wrp_add]; congr 1; omega)
      clear he hlk hk3 hrg3 hlt hst hkey hv hat hrg hg3 hs3
      go_wp2_with fail
      exact ⟨⟨_, cnt3, HR3.out, by rw [HST.out]; rfl, HK3.out⟩, by rw [HR3.out.left_eq, HRG.out.left_eq]; exact HLT.out⟩
end Go.Proofs.YtoeldmkbmnkhkaaGreat
/- slices.Clone of bytes; condition: fewer than 2^40. -/
namespace Go.Proofs.YtoeldmkbmnkhkaaGreat
open Go.RowKit

theorem infoU8' : (Tryz.prog.info? 5).map (fun i => (i.zero, i.size, i.bytes)) = some (some (.int .u8 0), 1, 1) := by kernel_rfl
theorem sliceEqN (w : World) : (binOp .eql 50 (.slice none 0 0) (.slice none 0 0)).run Tryz.prog w = .ok (.bool true) w := by kernel_rfl
theorem sliceEqS (a : Addr) (m c : Nat) (w : World) : (binOp .eql 50 (.slice (some a) m c) (.slice none 0 0)).run Tryz.prog w = .ok (.bool false) w := by kernel_rfl
def ClonePost (w : World) (l : List Int) (e : Ending) (w' : World) : Prop := ∃ A cap, e = .returned (.slice A l.length cap) ∧ Bq w' w.heap.size (.slice A l.length cap) l ∧ Kp NoB w w'
theorem bq_src {w : World} {n0 : Nat} {A : Option Addr} {m cap : Nat} {l : List Int} (h : Bq w n0 (.slice A m cap) l) (hm : m = l.length) : 0 < l.length → ∃ g o, A = some ⟨g, o, none⟩ ∧ ∀ j u, (l.map (Value.int .u8))[j]? = some u → w.cell? ⟨g, o + j, none⟩ = some u := by
  intro hp
  subst hm
  obtain ⟨g, ds, e, _, hb⟩ := own_blk1 h.own hp
  refine ⟨g, 0, e, fun j u hj => ?_⟩
  rw [hb.cell, Nat.zero_add, List.getElem?_toArray]
  have := (List.getElem?_eq_some_iff.1 hj).1
  rw [List.getElem?_append_left this]
  exact hj
theorem u8_one (l : List Int) : ∀ u ∈ l.map (Value.int .u8), u.oneCell' = true := by
  intro u hu
  obtain ⟨x, _, rfl⟩ := List.mem_map.1 hu
  rfl
set_option maxRecDepth 100000 in
set_option maxHeartbeats 1600000 in
theorem clone_ok (w : World) (n0 : Nat) (A : Option Addr) (m cap : Nat) (l : List Int) (hm : m = l.length) (hl : l.length ≤ 1099511627776) (h : Bq w n0 (.slice A m cap) l) :
    Calls Tryz.prog 136 #[.slice A m cap] w (ClonePost w l) := by
  obtain ⟨j0, hj0, hy0, hy1, hy2⟩ := info_parts infoU8'
  have HJ0 := Lib.hid hj0
  have HY0 := Lib.hid hy0
  have HY1 := Lib.hid hy1
  have HY2 := Lib.hid hy2
  have H := Lib.hid h
  have HL := Lib.hid hl
  have HM := Lib.hid hm
  have qn := sliceEqN
  have qs := sliceEqS
  rcases A with _ | ⟨g, o, sp⟩
  · have hf := own_form (by rw [hm] at h; exact h.own)
    obtain ⟨_, h0, h1⟩ : (none : Option Addr) = none ∧ l.length = 0 ∧ cap = 0 := by
      rcases hf with q | ⟨g, q⟩
      · exact q
      · cases q
    obtain rfl : l = [] := List.eq_nil_of_length_eq_zero h0
    simp only [List.length_nil] at hm
    subst hm h1
    clear h hl hj0 hy0 hy1 hy2 hf h0
    go_enter Tryz.func136, Tryz.ntmps136
    go_wp2_with fail
    go_ret
    exact ⟨none, 0, rfl, Bq.none _ _, Kp.refl _ _⟩
  · have HOWN : Hid ((w.alloc (.cells #[] 5)).ownsRow w.heap.size 5 1 (.slice (some ⟨w.heap.size, 0, none⟩) 0 0) 0 []) := Lib.hid ⟨rfl, .inr ⟨w.heap.size, 0, #[], rfl, Nat.le_refl _, heap_alloc_new _ _, Nat.le_refl _, by simp, rfl, rfl⟩⟩
    clear h hl hj0 hy0 hy1 hy2 hm
    go_enter Tryz.func136, Tryz.ntmps136
    go_wp2_with (at_builtin; refine wpList_append_src rfl _ _ 50 rfl w.heap.size 5 j0 _ 1 Tryz.underlying50 HJ0.out HY0.out HY1.out HY2.out rfl _ 0 [] rfl HOWN.out (some ⟨g, o, sp⟩) m cap (l.map (Value.int .u8)) rfl (by simp) (by rw [List.length_map, HM.out]) (by have hq := bq_src (w := w.alloc (.cells #[] 5)) (n0 := n0) (A := some ⟨g, o, sp⟩) (m := m) (cap := cap) (l := l) (H.out.keep ((Kp.refl NoB w).alloc _) (fun _ _ _ q => q)) HM.out; rw [HM.out]; exact hq) (u8_one l) (by have := HL.out; have := HM.out; unfold maxLen; omega) (by have := HL.out; have := HM.out; omega) (by simp) ?_; intro v1 w1 hown1 hgrow1; rw [Nat.zero_add, List.nil_append] at hown1; obtain ⟨B, c, rfl⟩ := own_slice hown1; have HO1 := Lib.hid hown1; have HK1 := Lib.hid (((Kp.refl NoB w).alloc _).own (v := .slice (some ⟨w.heap.size, 0, none⟩) 0 0) hgrow1 rfl HOWN.out); clear hown1 hgrow1)
    go_ret
    exact ⟨B, c, by rw [← HM.out]; rfl, ⟨by rw [← HM.out]; exact HO1.out, H.out.rng⟩, HK1.out⟩
end Go.Proofs.YtoeldmkbmnkhkaaGreat
/- The stand-in disk: a file's bytes cut or made longer; condition: at most 1048576 bytes. -/
namespace Go.Proofs.YtoeldmkbmnkhkaaGreat
open Go.RowKit

theorem step_append_zeros {P : Program} {ops : Array Oper} {o : Oper} {a : Act} {w : World} {K : Act → World → Prop} {Q : Exit → Act → World → Prop} {E : Prop} (hgd : o.guard = none) (s x : Operand) (t tn : TypeId)
    (ho : o.op = .call { callee := .builtin .append, args := #[s, x], argTypes := #[t, tn] })
    (base : Nat) (e : TypeId) (i : TypeInfo) (z u : Value) (kq kn : IntKind) (ht : P.underlying t = some (.slice e)) (htn : P.underlying tn = some (.int kn)) (hi : P.info? e = some i) (hz : i.zero = some z)
    (hsize : i.size = 1) (hby : i.bytes = 1) (hzs : z.cells = #[u]) (hu : u.oneCell' = true)
    (v : Value) (n : Nat) (xs : List Value) (hs : a.eval s = v) (hown : w.ownsRow base e 1 v n xs) (k : Nat) (hx : a.eval x = .int kq k) (hk : 0 < k) (hb : n + k ≤ 1099511627776) (hbase : base ≤ w.heap.size)
    (h : ∀ v' w', w'.ownsRow base e 1 v' (n + k) (xs ++ List.replicate k u) → w.grownBy w' v.ownBlock → (∀ b, v'.ownBlock = some b → v.ownBlock = some b ∨ w.heap.size ≤ b) → K (a.put o.dst v') w') :
    if Region.wanted o (yielded ops a.tmps) = true then Oper.wp P o a w K Q else E := by
  have hw : Region.wanted o (yielded ops a.tmps) = true := by simp [Region.wanted, hgd]
  rw [if_pos hw]
  obtain ⟨v', w', hr, h1, h2, h3⟩ := append_zeros_own (P := P) w base t tn o.type e i z u kq kn ht htn hi hz hsize hby hzs hu v n xs hown k hk hb hbase
  exact Lib.wp_append_run w s x t tn ho _ _ hs hx v' w' hr (h v' w' h1 h2 h3)
theorem Bq.take {w : World} {n0 : Nat} {A : Option Addr} {m cap : Nat} {l : List Int} (h : Bq w n0 (.slice A m cap) l) (n : Nat) (hn : n ≤ l.length) : Bq w n0 (.slice A n cap) (l.take n) := by
  refine ⟨?_, fun x hx => h.rng x (List.mem_of_mem_take hx)⟩
  have hl : (l.take n).length = n := by simp; omega
  rw [hl]
  refine ⟨by simp; omega, ?_⟩
  rcases h.own.2 with ⟨e, h0⟩ | ⟨g, cap', cur, hv, hb, hh, h1, h2, h3, h4⟩
  · simp only [Value.slice.injEq] at e
    obtain ⟨rfl, _, rfl⟩ := e
    have : n = 0 := by omega
    subst this
    exact .inl ⟨rfl, rfl⟩
  · simp only [Value.slice.injEq] at hv
    obtain ⟨rfl, _, rfl⟩ := hv
    refine .inr ⟨g, cap, cur, rfl, hb, hh, by omega, h2, h3, ?_⟩
    rw [Nat.mul_one] at h4 ⊢
    rw [List.map_take, ← h4, List.take_take, Nat.min_eq_left hn]
theorem Bq.mono {w : World} {n0 n1 : Nat} {v : Value} {l : List Int} (h : Bq w n0 v l) (hn : n1 ≤ n0) : Bq w n1 v l := ⟨h.own.mono hn, h.rng⟩
theorem Bq.drew {w : World} {n0 : Nat} {v : Value} {l : List Int} (h : Bq w n0 v l) : Bq w.drew n0 v l := ⟨h.own, h.rng⟩
def GrowPost (w : World) (n0 fb o n : Nat) (cs : Array Value) (l : List Int) (w' : World) : Prop :=
  ∃ A cap, Blk w' fb 165 (cs.setIfInBounds o (.slice A n cap)) ∧ Bq w' n0 (.slice A n cap) (sizedF l n) ∧ Kp (OnB fb) w w'
set_option maxRecDepth 100000 in
set_option maxHeartbeats 1600000 in
theorem grow_ok (w : World) (n0 fb o : Nat) (cs : Array Value) (A : Option Addr) (m cap : Nat) (l : List Int) (n : Nat) (hm : l.length = m) (hl : m ≤ 1048576) (hn : n ≤ 1048576) (hn0 : n0 ≤ w.heap.size)
    (hb : Blk w fb 165 cs) (hc : cs[o]? = some (.slice A m cap)) (hq : Bq w n0 (.slice A m cap) l) :
    Calls Tryz.prog 135 #[.pointer (some ⟨fb, o, none⟩), .int .i64 n] w fun e w' => e = .returned (.tuple #[]) ∧ GrowPost w n0 fb o n cs l w' := by
  have HB := Lib.hid hb
  have HQ := Lib.hid hq
  have HM := Lib.hid hm
  have HN0 := Lib.hid hn0
  have c0 : w.cell? ⟨fb, o, none⟩ = some (.slice A m cap) := by rw [hb.cell]; exact hc
  have z0 := hb.frozen o
  have hmc : m ≤ cap := own_cap (show w.ownsRow n0 5 1 (.slice A m cap) m (l.map (Value.int .u8)) by have := hq.own; rwa [hm] at this)
  clear hb hc hq hm hn0
  by_cases hle : (n : Int) ≤ m
  · have hnc : n ≤ cap := by omega
    have hnl : n ≤ m := by omega
    have HNL := Lib.hid hnl
    have HLN : Hid ((l.take n).length = n) := Lib.hid (by rw [List.length_take, HM.out]; exact Nat.min_eq_left hnl)
    go_enter Tryz.func135, Tryz.ntmps135
    go_wp2_with (go_at_call 136; go_must (refine (clone_ok w n0 A n cap (l.take n) (by rw [List.length_take, HM.out]; exact (Nat.min_eq_left HNL.out).symm) (by simp; omega) (HQ.out.take n (by rw [HM.out]; exact HNL.out))).mono ?_); rintro e w2 ⟨B, c2', rfl, hq2, hk2⟩; rw [HLN.out] at hq2 ⊢; have HQ2 := Lib.hid hq2; have HK2 := Lib.hid hk2; have z2 := (HB.out.keep hk2 (fun q => q)).frozen o; have c2 : w2.cell? ⟨fb, o, none⟩ = some (.slice A m cap) := (by rw [hk2.cell HB.out.lt (fun q => q)]; exact c0); clear hq2 hk2)
    refine bodyPost_ret (results_none rfl _ _ _) rfl ⟨rfl, B, c2', ?_, ?_, ?_⟩
    · exact (HB.out.keep HK2.out (fun q => q)).set_ o (.slice B n c2')
    · have hsz : sizedF l n = l.take n := by unfold sizedF; rw [if_pos (by rw [HM.out]; exact HNL.out)]
      rw [hsz]
      exact (HQ2.out.mono HN0.out).keep ((Kp.refl (OnB fb) w2).setAt rfl o (.slice B n c2')) (fun g cs' hc q => onb_cells (HB.out.keep HK2.out (fun q => q)) hc (by decide) q)
    · exact (HK2.out.mono (S' := OnB fb) (fun _ _ q => q.elim)).setAt rfl _ _
  · obtain ⟨k, hk⟩ : ∃ k, n - m = k := ⟨_, rfl⟩
    obtain ⟨N, hN⟩ : ∃ N : Int, (n : Int) = N := ⟨_, rfl⟩
    obtain ⟨j0, hj0, hy0, hy1, hy2⟩ := info_parts infoU8'
    have HJ0 := Lib.hid hj0
    have HY0 := Lib.hid hy0
    have HY1 := Lib.hid hy1
    have HY2 := Lib.hid hy2
    have HKN := Lib.hid (show n = m + k ∧ 0 < k ∧ m + k ≤ 1099511627776 by omega)
    have HLL := Lib.hid (show l.length ≤ 1099511627776 by rw [HM.out]; omega)
    have hw : IntKind.i64.wrap (N - (m : Int)) = (k : Int) := by rw [IntKind.wrap_i64]; omega
    have g1 : ¬ N ≤ (m : Int) := by omega
    rw [hN]
    have HNN := Lib.hid hN
    clear hle hk hN hl hn hj0 hy0 hy1 hy2
    go_enter Tryz.func135, Tryz.ntmps135
    go_wp2_with fail
    go_region_law (first
      | (refine step_append_zeros (by rfl) (.tmp 26) (.tmp 33) 50 3 (by rfl) w.heap.size 5 j0 (.int .u8 0) (.int .u8 0) .i64 .i64 Tryz.underlying50 Tryz.underlying3 HJ0.out HY0.out HY1.out HY2.out rfl rfl (.slice B m c2') m (l.map (Value.int .u8)) (by rfl) HO2.out k (by rfl) HKN.out.2.1 HKN.out.2.2 HK2.out.size ?_; intro v3 w3 hown3 hgrow3 _; obtain ⟨C, c3, rfl⟩ := own_slice hown3; have HO3 := Lib.hid hown3; have hk3 := HK2.out.own (v := .slice B m c2') hgrow3 rfl HO2.out; have HK3 := Lib.hid hk3; have z3 := (HB.out.keep hk3 (fun q => q)).frozen o; have c3' : w3.cell? ⟨fb, o, none⟩ = some (.slice A m cap) := (by rw [hk3.cell HB.out.lt (fun q => q)]; exact c0); clear hown3 hgrow3 hk3)
      | (go_simp; go_at_call 136; go_must (refine (clone_ok w.drew n0 A m cap l HM.out.symm HLL.out HQ.out.drew).mono ?_); rintro e w2 ⟨B, c2', rfl, hq2, hk2⟩; rw [HM.out] at hq2 ⊢; have HO2 := Lib.hid (show w2.ownsRow w.heap.size 5 1 (.slice B m c2') m (l.map (Value.int .u8)) by have := hq2.own; rwa [HM.out] at this); have HK2 := Lib.hid ((Kp.refl NoB w).drew.trans hk2 (fun _ _ q => q)); have z2 := (HB.out.keep HK2.out (fun q => q)).frozen o; have c2 : w2.cell? ⟨fb, o, none⟩ = some (.slice A m cap) := (by rw [HK2.out.cell HB.out.lt (fun q => q)]; exact c0); clear hq2 hk2)
      | go_simp)
    all_goals
      obtain ⟨rfl, hk0, _⟩ := HKN.out
      have e1 : sizedF l (m + k) = l ++ List.replicate k 0 := by unfold sizedF; rw [if_neg (by rw [HM.out]; omega), HM.out, Nat.add_sub_cancel_left]
      have hq3 : Bq w3 n0 (.slice C (m + k) c3) (sizedF l (m + k)) := ⟨by rw [sizedF_len, e1, List.map_append, List.map_replicate]; exact HO3.out.mono HN0.out, sizedF_rng HQ.out.rng _⟩
      refine bodyPost_end (results_none rfl _ _ _) rfl ⟨rfl, C, c3, ?_, ?_, ?_⟩
      · exact (HB.out.keep HK3.out (fun q => q)).set_ o (.slice C (m + k) c3)
      · exact hq3.keep ((Kp.refl (OnB fb) w3).setAt rfl o (.slice C (m + k) c3)) (fun g cs' hc q => onb_cells (HB.out.keep HK3.out (fun q => q)) hc (by decide) q)
      · exact (HK3.out.mono (S' := OnB fb) (fun _ _ q => q.elim)).setAt rfl _ _
end Go.Proofs.YtoeldmkbmnkhkaaGreat
/- The stand-in disk: the plain state behind a file that is put; no condition. -/
namespace Go.Proofs.YtoeldmkbmnkhkaaGreat
open Go.RowKit

theorem seenOf_put (fs : List Fe) (e : Fe) : seenOf (putF fs e) = upd (seenOf fs) e.nm e.seen := by
  funext t
  unfold seenOf upd
  rw [putF_find]
  by_cases h : t = e.nm
  · subst h; simp
  · rw [if_neg h, if_neg (fun q => h (kOf_inj q).symm)]
theorem keptOf_put (fs : List Fe) (e : Fe) : keptOf (putF fs e) = upd (keptOf fs) e.nm e.kept := by
  funext t
  unfold keptOf upd
  rw [putF_find]
  by_cases h : t = e.nm
  · subst h; simp
  · rw [if_neg h, if_neg (fun q => h (kOf_inj q).symm)]
theorem seenOf_cons (y : Fe) (r : List Fe) (s : ByteArray) : seenOf (y :: r) s = if kOf y.nm = kOf s then y.seen else seenOf r s := by
  unfold seenOf findF
  by_cases h : kOf y.nm = kOf s <;> simp [h, List.find?_cons]
theorem keptOf_cons (y : Fe) (r : List Fe) (s : ByteArray) : keptOf (y :: r) s = if kOf y.nm = kOf s then y.kept else keptOf r s := by
  unfold keptOf findF
  by_cases h : kOf y.nm = kOf s <;> simp [h, List.find?_cons]
theorem allSum_put (fs : List Fe) (e : Fe) : ((allSum (putF fs e) : Nat) : Int) = (allSum fs : Nat) - (seenOf fs e.nm).length + e.seen.length := by
  induction fs with
  | nil => simp [putF, allSum, seenOf, findF]
  | cons y r ih =>
    rw [seenOf_cons]
    unfold putF
    by_cases h : kOf y.nm = kOf e.nm
    · rw [if_pos h, if_pos h]
      simp only [allSum, List.map_cons, List.sum_cons]
      omega
    · rw [if_neg h, if_neg h]
      simp only [allSum, List.map_cons, List.sum_cons] at ih ⊢
      omega
theorem allKept_put (fs : List Fe) (e : Fe) : ((allKept (putF fs e) : Nat) : Int) = (allKept fs : Nat) - (keptOf fs e.nm).length + e.kept.length := by
  induction fs with
  | nil => simp [putF, allKept, keptOf, findF]
  | cons y r ih =>
    rw [keptOf_cons]
    unfold putF
    by_cases h : kOf y.nm = kOf e.nm
    · rw [if_pos h, if_pos h]
      simp only [allKept, List.map_cons, List.sum_cons]
      omega
    · rw [if_neg h, if_neg h]
      simp only [allKept, List.map_cons, List.sum_cons] at ih ⊢
      omega
/-- a file is put -/
theorem Of.put {x : Dd} {p : Pl} (h : Of x p) (e : Fe) (m k : Nat) (hm : m ≤ k) :
    Of { x with fs := putF x.fs e, mn := m } { p with seen := upd p.seen e.nm e.seen, kept := upd p.kept e.nm e.kept, sum := p.sum - (p.seen e.nm).length + e.seen.length, ksum := p.ksum - (p.kept e.nm).length + e.kept.length, nf := k } :=
  { h with
    seen := by simp only [h.seen, seenOf_put]
    kept := by simp only [h.kept, keptOf_put]
    sum := by simp only [h.seen, h.sum]; rw [allSum_put]
    ksum := by simp only [h.kept, h.ksum]; rw [allKept_put]
    nf := hm }
theorem Pl.put_same (p : Pl) (s : ByteArray) (a b : List Int) (ha : a = p.seen s) (hb : b = p.kept s) (k : Nat) :
    ({ p with seen := upd p.seen s a, kept := upd p.kept s b, sum := p.sum - (p.seen s).length + a.length, ksum := p.ksum - (p.kept s).length + b.length, nf := k } : Pl) = { p with nf := k } := by
  subst ha hb
  simp only [upd_self]
  congr 1 <;> omega
/-- at's disk -/
theorem Of.at_ {x : Dd} {p : Pl} (h : Of x p) (e : Fe) (m : Nat) (hm : m ≤ x.mn + 1) (hs : e.seen = seenOf x.fs e.nm) (hk : e.kept = keptOf x.fs e.nm) : Of { x with fs := putF x.fs e, mn := m } p.at_ := by
  have := h.put e m (p.nf + 1) (by have := h.nf; omega)
  rw [Pl.put_same p e.nm e.seen e.kept (by rw [h.seen]; exact hs) (by rw [h.kept]; exact hk)] at this
  exact this
theorem Of.seen_eq {x : Dd} {p : Pl} (h : Of x p) (s : ByteArray) : seenOf x.fs s = p.seen s := by rw [h.seen]
theorem Of.kept_eq {x : Dd} {p : Pl} (h : Of x p) (s : ByteArray) : keptOf x.fs s = p.kept s := by rw [h.kept]
/-- what is seen of a file is put anew -/
theorem Of.setSeen {x : Dd} {p : Pl} (h : Of x p) (e : Fe) (hk : e.kept = keptOf x.fs e.nm) : Of { x with fs := putF x.fs e } (p.setSeen e.nm e.seen) := by
  have := h.put e x.mn p.nf h.nf
  have e1 : p.ksum - (p.kept e.nm).length + e.kept.length = p.ksum := by rw [hk, h.kept]; omega
  have e2 : upd p.kept e.nm e.kept = p.kept := by rw [hk, ← h.kept, upd_self]
  rw [e1, e2] at this
  exact this
theorem Of.setKept {x : Dd} {p : Pl} (h : Of x p) (e : Fe) (hk : e.seen = seenOf x.fs e.nm) : Of { x with fs := putF x.fs e } (p.setKept e.nm e.kept) := by
  have := h.put e x.mn p.nf h.nf
  have e1 : p.sum - (p.seen e.nm).length + e.seen.length = p.sum := by rw [hk, h.seen]; omega
  have e2 : upd p.seen e.nm e.seen = p.seen := by rw [hk, ← h.seen, upd_self]
  rw [e1, e2] at this
  exact this
/-- what a call makes of a disk: its plain state, its blocks, the world -/
def To (n0 : Nat) (w : World) (x : Dd) (p' : Pl) (w' : World) : Prop :=
  ∃ x', Dk n0 w' x' ∧ Of x' p' ∧ x'.db = x.db ∧ Kp x.O w w' ∧ ∀ b, x'.O b → x.O b ∨ w.heap.size ≤ b
theorem To.refl {n0 : Nat} {w : World} {x : Dd} {p : Pl} (h : Dk n0 w x) (hp : Of x p) : To n0 w x p w := ⟨x, h, hp, rfl, Kp.refl _ _, fun _ q => .inl q⟩
theorem To.trans {n0 : Nat} {w w1 w2 : World} {x x1 : Dd} {p2 : Pl} (h : To n0 w1 x1 p2 w2) (hdb : x1.db = x.db) (k : Kp x.O w w1) (ho : ∀ b, x1.O b → x.O b ∨ w.heap.size ≤ b) : To n0 w x p2 w2 := by
  obtain ⟨x2, hd, hof, e, k2, ho2⟩ := h
  refine ⟨x2, hd, hof, e.trans hdb, k.trans k2 (fun i hi q => ?_), fun b hb => ?_⟩
  · rcases ho i q with q | q
    · exact q
    · omega
  · rcases ho2 b hb with q | q
    · exact ho b q
    · exact .inr (Nat.le_trans k.size q)
theorem To.quiet {n0 : Nat} {w w1 w2 : World} {x : Dd} {p2 : Pl} (h : To n0 w1 x p2 w2) (k : Kp NoB w w1) (hx : Dk n0 w x) : To n0 w x p2 w2 :=
  h.trans rfl (k.mono (fun _ _ q => q.elim)) (fun _ q => .inl q)
end Go.Proofs.YtoeldmkbmnkhkaaGreat
/- A change of the stand-in disk as a value of 67 cells; no condition. -/
namespace Go.Proofs.YtoeldmkbmnkhkaaGreat
open Go.RowKit

theorem infoCg : (Tryz.prog.info? 158).map (fun i => (i.zero, i.size, i.bytes)) = some (some (.agg ((#[.string ⟨#[]⟩, .int .i64 0, .int .i64 0] : Array Value) ++ Array.replicate 64 (.int .u8 0))), 67, 96) := by kernel_rfl
def cgL (s : ByteArray) (sec n : Int) (l : List Int) : List Value := .string s :: .int .i64 sec :: .int .i64 n :: l.map (Value.int .u8)
def cgA (s : ByteArray) (sec n : Int) (l : List Int) : Array Value := (cgL s sec n l).toArray
theorem cgA_size (s : ByteArray) (sec n : Int) (l : List Int) : (cgA s sec n l).size = l.length + 3 := by simp [cgA, cgL]
theorem cgA_one (s : ByteArray) (sec n : Int) (l : List Int) : ∀ u ∈ cgL s sec n l, u.oneCell' = true := by
  intro u hu
  unfold cgL at hu
  simp only [List.mem_cons] at hu
  rcases hu with rfl | rfl | rfl | hu
  · rfl
  · rfl
  · rfl
  · exact u8_one l u hu
theorem buildCg3 (w : World) (s : ByteArray) (sec n : Int) : (Instr.build 158 #[(0, .string s), (1, .int .i64 sec), (2, .int .i64 n)]).run Tryz.prog w = .ok (.agg (cgA s sec n (zeros 64))) w := by kernel_rfl
theorem buildCg2 (w : World) (s : ByteArray) (sec : Int) : (Instr.build 158 #[(0, .string s), (1, .int .i64 sec)]).run Tryz.prog w = .ok (.agg (cgA s sec 0 (zeros 64))) w := by kernel_rfl
theorem exBuildCg3 (w : World) (ev : Operand → Value) (x y z : Operand) (s : ByteArray) (sec n : Int) (ds : Option Tmp) (ty : TypeId) (ps : String) (af : Array Edge) (g : Option (Nat × Bool)) (hx : ev x = .string s) (hy : ev y = .int .i64 sec) (hz : ev z = .int .i64 n) :
    (execOp ev ⟨ds, .build 158 #[(0, x), (1, y), (2, z)], ty, ps, af, g⟩).run Tryz.prog w = .ok (.value (.agg (cgA s sec n (zeros 64)))) w := by
  simp only [execOp, List.map_toArray, List.map_cons, List.map_nil, hx, hy, hz, Sem.run_bind, buildCg3, Result.andThen_ok]
  rfl
theorem exBuildCg2 (w : World) (ev : Operand → Value) (x y : Operand) (s : ByteArray) (sec : Int) (ds : Option Tmp) (ty : TypeId) (ps : String) (af : Array Edge) (g : Option (Nat × Bool)) (hx : ev x = .string s) (hy : ev y = .int .i64 sec) :
    (execOp ev ⟨ds, .build 158 #[(0, x), (1, y)], ty, ps, af, g⟩).run Tryz.prog w = .ok (.value (.agg (cgA s sec 0 (zeros 64)))) w := by
  simp only [execOp, List.map_toArray, List.map_cons, List.map_nil, hx, hy, Sem.run_bind, buildCg2, Result.andThen_ok]
  rfl
theorem sliceCg (w : World) (cs : Array Value) (hs : cs.size = 67) : (Instr.buildSlice 143 1 #[(0, .agg cs)]).run Tryz.prog w = .ok (.slice (some ⟨w.heap.size, 0, none⟩) 1 1) (w.alloc (.cells cs 158)) := by
  obtain ⟨i, hi, h0, h1, h2⟩ := info_parts infoCg
  have hu := Tryz.underlying143
  have hz : (zeroValue 158).run Tryz.prog w = .ok (.agg (cgA ⟨#[]⟩ 0 0 (zeros 64))) w := by kernel_rfl
  have hc : (Value.agg cs).cells = cs := rfl
  have hf : ∀ Z : Array Value, Z.size = 67 → Instr.fill (fun i => some (i * 67, 67)) Z [(0, .agg cs)] = some cs := fun Z hZ => by
    have := Go.Great.fill_whole (s := 67) (by omega) [.agg cs] Z (by simp [hc, hs]) (by simp [hZ])
    simpa [hc] using this
  simp [Instr.buildSlice, run_underlying hu, sizeOf, typeInfo, hi, h1, hz, newRow, newObj]
  rw [hf _ (by simp)]
  rfl
theorem exSliceCg (w : World) (ev : Operand → Value) (x : Operand) (cs : Array Value) (ds : Option Tmp) (ty : TypeId) (ps : String) (af : Array Edge) (g : Option (Nat × Bool)) (hx : ev x = .agg cs) (hs : cs.size = 67) :
    (execOp ev ⟨ds, .buildSlice 143 1 #[(0, x)], ty, ps, af, g⟩).run Tryz.prog w = .ok (.value (.slice (some ⟨w.heap.size, 0, none⟩) 1 1)) (w.alloc (.cells cs 158)) := by
  simp only [execOp, List.map_toArray, List.map_cons, List.map_nil, hx, Sem.run_bind, sliceCg w cs hs, Result.andThen_ok]
  rfl
theorem infoCgS : (Tryz.prog.info? 158).map (·.size) = some 67 := by kernel_rfl
theorem zeroCg (w : World) : (zeroValue 158).run Tryz.prog w = .ok (.agg (cgA ⟨#[]⟩ 0 0 (zeros 64))) w := by kernel_rfl
theorem loadCg (w : World) (ev : Operand → Value) (ds : Option Tmp) (x : Operand) (ty : TypeId) (ps : String) (af : Array Edge) (g : Option (Nat × Bool)) (h : thereP w (ev x) 67) :
    (execOp ev ⟨ds, .load 158 x, ty, ps, af, g⟩).run Tryz.prog w = .ok (.value (.agg (readP w (ev x) 67))) w := execLoad_P Tryz.underlying158 rfl infoCgS w ev ds x ty ps af g h
theorem storeCg (w : World) (ev : Operand → Value) (ds : Option Tmp) (x y : Operand) (ty : TypeId) (ps : String) (af : Array Edge) (g : Option (Nat × Bool)) (hv : aggOK (ev y) 67) (h : thereP w (ev x) 67) :
    (execOp ev ⟨ds, .store 158 x y, ty, ps, af, g⟩).run Tryz.prog w = .ok .skip (setP w (ev x) (ev y)) := execStore_P infoCgS w ev ds x y ty ps af g hv h
theorem allocCg (w : World) (ev : Operand → Value) (ds : Option Tmp) (ty : TypeId) (ps : String) (af : Array Edge) (g : Option (Nat × Bool)) :
    (execOp ev ⟨ds, .alloc 158, ty, ps, af, g⟩).run Tryz.prog w = .ok (.value (.pointer (some ⟨w.heap.size, 0, none⟩))) (w.alloc (.cells (cgA ⟨#[]⟩ 0 0 (zeros 64)) 158)) := by
  simp only [execOp, Instr.alloc, Sem.run_bind, zeroCg, Result.andThen_ok]
  rfl
theorem cgA_ones (s : ByteArray) (sec n : Int) (l : List Int) : ones (cgA s sec n l) := by
  unfold ones cgA
  simp only [List.all_toArray', List.all_eq_true]
  exact cgA_one s sec n l
end Go.Proofs.YtoeldmkbmnkhkaaGreat
