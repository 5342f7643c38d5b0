/- Texts of this proof, one behind the other: lemmas and contracts; each says its own conditions. -/
import Derived.Test.YtoeldmkbmnkhkaaGreatP2
import Derived.Test.YtoeldmkbmnkhkaaGreatP3
import Derived.Test.YtoeldmkbmnkhkaaGreatP5
import Derived.Test.YtoeldmkbmnkhkaaGreatP6
import Derived.Test.YtoeldmkbmnkhkaaGreatP7
import Derived.Test.YtoeldmkbmnkhkaaGreatP8
import Derived.Test.YtoeldmkbmnkhkaaGreatP9
import Derived.Maps.OwnSet
import Derived.Maps.Views
import Derived.Maps.Range
import Derived.Maps.RangeWalk
import Derived.DataShut
import Derived.Deep.AppendSrc
import Derived.BigQuiet
import Derived.Shelf.SlSortCmp.NoneTotal
import Derived.Shelf.SlSortCmp.WholeK
import Derived.Test.YtoeldmkbmnkhkaaGreatProg
import Derived.Lib.SortBridge
/- Maps of pages by their numbers, in memory: look-up, store, a new one, a copy; no condition. -/
namespace Go.Proofs.YtoeldmkbmnkhkaaGreat
open Go.RowKit Go.Maps

def Rg (v : Value) : Option (DataW Value × List MemPlace) := some (.held v, [])
def pgAt (f : PgM) (z : Int) : Option (List Int) := if 0 ≤ z then f z.toNat else none
/-- pages that may be: numbers of 1 to 4096, 256 bytes each -/
def PgF (f : PgM) : Prop := ∀ k l, f k = some l → 1 ≤ k ∧ k ≤ 4096 ∧ l.length = 256 ∧ ∀ x ∈ l, 0 ≤ x ∧ x < 256
theorem PgF.none : PgF PgM.none := fun _ _ h => by cases h
theorem PgF.put {f : PgM} (h : PgF f) {z : Nat} {l : List Int} (h1 : 1 ≤ z) (h2 : z ≤ 4096) (hl : l.length = 256) (hr : ∀ x ∈ l, 0 ≤ x ∧ x < 256) : PgF (f.put z l) := fun k m hk => by
  unfold PgM.put at hk
  split at hk
  · injection hk with hk
    subst hk
    exact ⟨by omega, by omega, hl, hr⟩
  · exact h k m hk
theorem PgF.cut {f : PgM} (h : PgF f) (n : Nat) : PgF (f.cut n) := fun k m hk => by
  unfold PgM.cut at hk
  split at hk
  · exact h k m hk
  · cases hk
def AtF (D : DataW Value) (f : PgM) : Prop := ∀ z : Int, (Lit.int .i64 z).wf = true → ∀ zd, D.atKey (.int .i64 z) zd = match pgAt f z with | some l => .held (.agg (bytesV l)) | none => zd
/-- a map in memory holds just these pages -/
def PgMap (w : World) (b : Nat) (f : PgM) : Prop := PgF f ∧ ∃ D : DataW Value, w.ownsMap Tryz.prog 3 Rg b 4096 D ∧ AtF D f
theorem keyedIntS : Maps.Keyed Tryz.prog 3 := Maps.int_keyed Tryz.underlying3
theorem nodup_len : ∀ (N : Nat) (l : List Int), l.Nodup → (∀ x ∈ l, 1 ≤ x ∧ x ≤ (N : Int)) → l.length ≤ N
  | 0, [], _, _ => Nat.le_refl _
  | 0, x :: l, _, h => by have := h x (List.mem_cons_self ..); omega
  | N + 1, l, hn, h => by
    by_cases hm : ((N : Int) + 1) ∈ l
    · have h1 := nodup_len N (l.erase ((N : Int) + 1)) (hn.erase _) (fun x hx => by
        have h2 := (hn.mem_erase_iff).1 hx
        have h3 := h x h2.2
        have h4 := h2.1
        omega)
      rw [List.length_erase_of_mem hm] at h1
      have : 0 < l.length := List.length_pos_of_mem hm
      omega
    · have h1 := nodup_len N l hn (fun x hx => by
        have h3 := h x hx
        have h4 : x ≠ (N : Int) + 1 := fun e => hm (e ▸ hx)
        omega)
      omega
theorem find_apart {α : Type} {f : α → Bool} : ∀ {l : List α} {x : α}, x ∈ l → f x = true → (∀ y ∈ l, f y = true → y = x) → l.find? f = some x
  | [], _, hm, _, _ => by cases hm
  | y :: l, x, hm, hx, hu => by
    rw [List.find?_cons]
    cases hy : f y with
    | true => rw [hu y (List.mem_cons_self ..) hy]
    | false =>
      rcases List.mem_cons.1 hm with q | q
      · subst q; rw [hx] at hy; cases hy
      · exact find_apart q hx fun z hz hf => hu z (List.mem_cons_of_mem _ hz) hf
/-- a map of such pages has at most 4096 entries -/
theorem tight {w : World} {b n : Nat} {D : DataW Value} {f : PgM} (ho : w.ownsMap Tryz.prog 3 Rg b n D) (hat : AtF D f) (hf : PgF f) : w.ownsMap Tryz.prog 3 Rg b 4096 D := by
  have ho' := ho
  obtain ⟨es, clock, hb, F, hs, hD⟩ := ho'
  refine ⟨es, clock, hb, F, ?_, hD⟩
  obtain ⟨L, hL, hap, hk⟩ := ho.entries keyedIntS
  have hlen : L.length = es.size := by
    have e := length_read (R0 := Rg) (P := Tryz.prog) (k := 3) es
    rw [hD] at hL
    injection hL with hL
    rw [← hL]
    exact e
  have hkey : ∀ p ∈ L, ∃ z : Int, p.1 = .int .i64 z ∧ 1 ≤ z ∧ z ≤ 4096 := by
    intro p hp
    have hz : ∃ z : Int, p.1 = .int .i64 z ∧ (Lit.int .i64 z).wf = true := by
      rw [hD] at hL
      injection hL with hL
      rw [← hL] at hp
      obtain ⟨x, hx, rfl⟩ := List.mem_map.1 (mem_sorted.1 hp)
      obtain ⟨y, hy⟩ := F.reads x hx
      rw [Go.WideElems.rg_of hy]
      obtain ⟨z, _, h2, h3⟩ := Maps.keyOf_int_inv Tryz.underlying3 (Go.WideElems.rd_key hy)
      exact ⟨z, h2, h3⟩
    obtain ⟨z, hz1, hz2⟩ := hz
    refine ⟨z, hz1, ?_⟩
    have hfind : ∀ zd, D.atKey (.int .i64 z) zd = p.2 := fun zd => by
      rw [hL]
      unfold DataW.atKey
      dsimp only
      rw [find_apart hp (by rw [hz1]; exact Go.WideAt.sameKey_self (show WideAt.IsKeyLit (.int .i64 z) from trivial)) (fun q hq hs => by
        have e := WideAt.sameKey_eq hs
        by_cases hne : q = p
        · exact hne
        · exfalso
          obtain ⟨i, hi⟩ := List.mem_iff_getElem.1 hq
          obtain ⟨j, hj⟩ := List.mem_iff_getElem.1 hp
          obtain ⟨hi1, hi2⟩ := hi
          obtain ⟨hj1, hj2⟩ := hj
          have hpw := List.pairwise_iff_getElem.1 hap
          rcases Nat.lt_trichotomy i j with hl | hl | hl
          · have := hpw i j hi1 hj1 hl
            rw [hi2, hj2] at this
            exact this (e.trans hz1.symm)
          · subst hl
            exact hne (hi2.symm.trans hj2)
          · have := hpw j i hj1 hi1 hl
            rw [hi2, hj2] at this
            exact this (hz1.trans e.symm))]
    have h1 := hat z hz2 (.held (.bool true))
    have h2 := hat z hz2 (.held (.bool false))
    rw [hfind] at h1 h2
    cases hq : pgAt f z with
    | none =>
      rw [hq] at h1 h2
      have h3 := h1.symm.trans h2
      injection h3 with h3
      injection h3 with h3
      cases h3
    | some l =>
      unfold pgAt at hq
      split at hq
      · have := hf _ _ hq
        omega
      · cases hq
  have hn := nodup_len 4096 (L.map fun p => match p.1 with | .int _ z => z | _ => 0) (by
    refine (List.pairwise_map).2 (hap.imp_of_mem fun {p q} hp hq hne => ?_)
    obtain ⟨z, h1, _⟩ := hkey p hp
    obtain ⟨y, h2, _⟩ := hkey q hq
    rw [h1, h2] at hne ⊢
    exact fun e => hne (by rw [show z = y from e])) (by
    intro x hx
    obtain ⟨p, hp, rfl⟩ := List.mem_map.1 hx
    obtain ⟨z, h1, h2, h3⟩ := hkey p hp
    rw [h1]
    exact ⟨h2, h3⟩)
  rw [List.length_map, hlen] at hn
  exact hn
theorem AtF.none : AtF (.map []) PgM.none := fun z _ zd => by
  have e : pgAt PgM.none z = Option.none := by unfold pgAt PgM.none; split <;> rfl
  rw [e]
  rfl
theorem PgMap.made (w : World) : PgMap (w.alloc (.map #[] 0)) w.heap.size PgM.none := ⟨PgF.none, .map [], tight (World.ownsMap_made w _ _ _) AtF.none PgF.none, AtF.none⟩
theorem PgMap.kp {w w' : World} {b : Nat} {f : PgM} (h : PgMap w b f) (k : w'.heap[b]? = w.heap[b]?) : PgMap w' b f := by
  obtain ⟨hf, D, ⟨es, clock, hb, r⟩, hat⟩ := h
  exact ⟨hf, D, ⟨es, clock, k.trans hb, r⟩, hat⟩
theorem PgMap.lt {w : World} {b : Nat} {f : PgM} (h : PgMap w b f) : b < w.heap.size := by
  obtain ⟨_, D, ho, _⟩ := h
  exact ho.lt
theorem PgMap.obj {w : World} {b : Nat} {f : PgM} (h : PgMap w b f) : ∃ es clock, w.heap[b]? = some (.map es clock) := by
  obtain ⟨_, D, ⟨es, clock, hb, r⟩, _⟩ := h
  exact ⟨es, clock, hb⟩
theorem PgMap.keep {S : Nat → Prop} {w w' : World} {b : Nat} {f : PgM} (h : PgMap w b f) (k : Kp S w w') (hn : ¬ S b) : PgMap w' b f := h.kp (k.block b h.lt hn)
/-- a block that is the other's copy -/
theorem PgMap.copy {w w' : World} {b b' : Nat} {f : PgM} (h : PgMap w b f) (e : w'.heap[b']? = w.heap[b]?) : PgMap w' b' f := by
  obtain ⟨hf, D, ⟨es, clock, hb, r⟩, hat⟩ := h
  exact ⟨hf, D, ⟨es, clock, e.trans hb, r⟩, hat⟩
def pgVal (f : PgM) (z : Int) : List Int := match pgAt f z with | some l => l | none => zeros 256
theorem zeroPgW (w : World) : (zeroValue 86).run Tryz.prog w = .ok (.agg zero256) w := by kernel_rfl
set_option maxRecDepth 100000 in
theorem PgMap.look {w : World} {b : Nat} {f : PgM} (h : PgMap w b f) {z : Int} (hz : (Lit.int .i64 z).wf = true) :
    (Instr.lookup 119 (.map (some b)) (.int .i64 z) true).run Tryz.prog w = .ok (.tuple #[.agg (bytesV (pgVal f z)), .bool (pgAt f z).isSome]) w := by
  obtain ⟨hf, D, ho, hat⟩ := h
  obtain ⟨v, ps, hrun, hv⟩ := ho.look_ok keyedIntS Tryz.underlying119 (zeroPgW w) (zd := .held (.agg zero256)) (zp := []) rfl (Maps.keyOf_int_mk Tryz.underlying3 hz)
  have h1 := hat z hz
  unfold Rg at hv
  injection hv with hv
  injection hv with hv hp
  rw [hrun]
  unfold pgVal
  cases hq : pgAt f z with
  | none =>
    rw [hq] at h1
    rw [h1] at hv
    injection hv with hv
    rw [Maps.has_false_of_atKey h1, hv]
    show Result.ok (Value.tuple #[.agg zero256, .bool false]) w = _
    rw [zero256_eq]
    rfl
  | some l =>
    rw [hq] at h1
    rw [h1] at hv
    injection hv with hv
    rw [Maps.has_true_of_atKey h1, hv]
    rfl
theorem PgMap.put {w : World} {b : Nat} {f : PgM} (h : PgMap w b f) {z : Nat} (h1 : 1 ≤ z) (h2 : z ≤ 4096) {l : List Int} (hl : l.length = 256) (hr : ∀ x ∈ l, 0 ≤ x ∧ x < 256) :
    ∃ w', (Instr.mapUpdate 119 (.map (some b)) (.int .i64 (z : Int)) (.agg (bytesV l))).run Tryz.prog w = .ok () w' ∧ PgMap w' b (f.put z l) ∧ w.mapTurned w' b := by
  obtain ⟨hf, D, ho, hat⟩ := h
  have hz : (Lit.int .i64 (z : Int)).wf = true := by
    refine (Lit.wf_int_iff .i64 _).2 ⟨?_, ?_⟩
    · show (-9223372036854775808 : Int) ≤ (z : Int)
      omega
    · show (z : Int) ≤ 9223372036854775807
      omega
  obtain ⟨w', hrun, ho', hg⟩ := ho.store keyedIntS Tryz.underlying119 (by decide) (Maps.keyOf_int_mk Tryz.underlying3 hz) (d := .held (.agg (bytesV l))) (ps := []) (val := .agg (bytesV l)) rfl
  have hF := hf.put h1 h2 hl hr
  have hA : AtF (D.put (.int .i64 (z : Int)) (.held (.agg (bytesV l)))) (f.put z l) := fun y hy zd => by
    by_cases e : (z : Int) = y
    · subst e
      rw [Maps.atKey_put_same ho.isMap (show WideAt.IsKeyLit (.int .i64 (z : Int)) from trivial)]
      have e : pgAt (f.put z l) (z : Int) = some l := by unfold pgAt PgM.put; simp
      rw [e]
    · have hne : Lit.int .i64 y ≠ Lit.int .i64 (z : Int) := fun q => e (by
        have := congrArg (fun l : Lit => match l with | .int _ a => a | _ => 0) q
        exact this.symm)
      rw [Maps.atKey_put_other hne, hat y hy]
      have e : pgAt (f.put z l) y = pgAt f y := by
        unfold pgAt PgM.put
        by_cases hy0 : 0 ≤ y
        · rw [if_pos hy0, if_pos hy0]
          rw [if_neg (by omega)]
        · rw [if_neg hy0, if_neg hy0]
      rw [e]
  exact ⟨w', hrun, ⟨hF, _, tight ho' hA hF, hA⟩, hg⟩
end Go.Proofs.YtoeldmkbmnkhkaaGreat
/- The stand-in disk among a caller's own blocks: its lesser calls; no condition but on the counts. -/
namespace Go.Proofs.YtoeldmkbmnkhkaaGreat
open Go.RowKit

section
variable {S : Nat → Prop} {W0 w w' : World} {db : Nat} {p p' : Pl}
theorem down_q (h : Dq S W0 w db p) : Calls Tryz.prog 37 #[ptrV db] w fun e w' => e = .returned (.bool p.down) ∧ w = w' := by
  obtain ⟨x, rfl, hd, hp, hk, ho, hz⟩ := h
  exact down_ok w _ x p hd hp
theorem starts_q (h : Dq S W0 w db p) : Calls Tryz.prog 73 #[ptrV db] w fun e w' => e = .returned (.int .i64 p.starts) ∧ w = w' := by
  obtain ⟨x, rfl, hd, hp, hk, ho, hz⟩ := h
  exact starts_ok w _ x p hd hp
end
end Go.Proofs.YtoeldmkbmnkhkaaGreat
/- A store and its transactions in memory: labels tell whose a block is; no condition. -/
namespace Go.Proofs.YtoeldmkbmnkhkaaGreat
open Go.RowKit Go.Maps

/-- whose is a block: 0 the caller's, 1 the store's, 2 the locks', 3 the disk's; 4+5i and on: the transaction i: itself, its pages, what it has seen, its row of savepoints, the savepoints' pages -/
abbrev Lab := Nat → Nat
/-- one state leads to another: only the labelled blocks may have changed, and old blocks keep their labels -/
structure Gw (L : Lab) (w : World) (L' : Lab) (w' : World) : Prop where
  kp : Kp (fun k => L k ≠ 0) w w'
  ext : ∀ k, k < w.heap.size → L' k = L k
theorem Gw.refl (L : Lab) (w : World) : Gw L w L w := ⟨Kp.refl _ _, fun _ _ => rfl⟩
theorem Gw.trans {L L' L2 : Lab} {w w' w2 : World} (h : Gw L w L' w') (k : Gw L' w' L2 w2) : Gw L w L2 w2 :=
  ⟨h.kp.trans k.kp (fun i hi q => by rw [h.ext i hi] at q; exact q), fun i hi => (k.ext i (Nat.lt_of_lt_of_le hi h.kp.size)).trans (h.ext i hi)⟩
theorem Gw.nob {L : Lab} {w w' : World} (k : Kp NoB w w') : Gw L w L w' := ⟨k.mono (fun _ _ q => q.elim), fun _ _ => rfl⟩
/-- a caller's block stays -/
theorem Gw.blk {L L' : Lab} {w w' : World} (h : Gw L w L' w') {g : Nat} {t : TypeId} {cs : Array Value} (hb : Blk w g t cs) (hl : L g = 0) : Blk w' g t cs ∧ L' g = 0 :=
  ⟨hb.keep h.kp (fun q => q hl), (h.ext g hb.lt).trans hl⟩
def Lok (L : Lab) (w : World) : Prop := ∀ k, L k ≠ 0 → k < w.heap.size
theorem Lok.mono {L : Lab} {w w' : World} (h : Lok L w) (k : w.heap.size ≤ w'.heap.size) : Lok L w' := fun i hi => Nat.lt_of_lt_of_le (h i hi) k
theorem Lok.new {L : Lab} {w : World} (h : Lok L w) {k : Nat} (hk : w.heap.size ≤ k) : L k = 0 := by
  rcases Nat.eq_zero_or_pos (L k) with q | q
  · exact q
  · have := h k (by omega)
    omega
/-- the disk, its blocks labelled 3 -/
def Dsk (L : Lab) (w : World) (db : Nat) (p : Pl) : Prop := Dq (fun k => L k = 3) w w db p
def NoBytes (w : World) (T : Nat → Prop) : Prop := ∀ g cs, w.heap[g]? = some (.cells cs 5 (0, 0)) → ¬ T g
theorem Dq.keepT {S T : Nat → Prop} {w w' : World} {db : Nat} {p : Pl} (h : Dq S w w db p) (k : Kp T w w') (hd : ∀ b, S b → ¬ T b) (hu : NoBytes w T) : Dq S w' w' db p := by
  obtain ⟨x, e, hx, hp, hk, ho, hs⟩ := h
  have hO : ∀ b, x.O b → S b := fun b q => by
    rcases ho b q with z | z
    · exact z
    · have := hx.lt b q
      omega
  exact ⟨x, e, hx.keep k (fun b q => hd b (hO b q)) hu, hp, Kp.refl _ _, fun b q => .inl (hO b q), fun b q => Nat.lt_of_lt_of_le (hs b q) k.size⟩
theorem Dsk.keep {L : Lab} {T : Nat → Prop} {w w' : World} {db : Nat} {p : Pl} (h : Dsk L w db p) (k : Kp T w w') (hd : ∀ b, T b → L b ≠ 3) (hu : NoBytes w T) : Dsk L w' db p :=
  Dq.keepT h k (fun b q z => hd b z q) hu
/-- the labels behind an operation of the disk -/
theorem Dsk.step {L : Lab} {w w' : World} {db : Nat} {p : Pl} (h : Dq (fun k => L k = 3) w w' db p) (hl : Lok L w) : ∃ L', Dsk L' w' db p ∧ Lok L' w' ∧ Gw L w L' w' ∧ (∀ k, w.heap.size ≤ k → L' k = 0 ∨ L' k = 3) ∧ Kp (fun k => L k = 3) w w' := by
  have hk := h.kp
  obtain ⟨x, e, hx, hp, _, ho, hs⟩ := h
  refine ⟨fun k => by classical exact if k < w.heap.size then L k else if x.O k then 3 else 0, ?_, ?_, ⟨hk.mono (fun i _ q => by rw [q]; decide), fun k hk => if_pos hk⟩, fun k hk => ?_, hk⟩
  · refine ⟨x, e, hx, hp, Kp.refl _ _, fun b q => .inl ?_, fun b q => ?_⟩
    · dsimp only
      by_cases hb : b < w.heap.size
      · rw [if_pos hb]
        rcases ho b q with z | z
        · exact z
        · omega
      · rw [if_neg hb, if_pos q]
    · dsimp only at q
      by_cases hb : b < w.heap.size
      · exact Nat.lt_of_lt_of_le hb hk.size
      · rw [if_neg hb] at q
        by_cases hq : x.O b
        · exact hx.lt b hq
        · rw [if_neg hq] at q
          cases q
  · intro b q
    dsimp only at q
    by_cases hb : b < w.heap.size
    · exact Nat.lt_of_lt_of_le hb hk.size
    · rw [if_neg hb] at q
      by_cases hq : x.O b
      · exact hx.lt b hq
      · rw [if_neg hq] at q
        exact absurd rfl q
  · dsimp only
    rw [if_neg (by omega)]
    by_cases hq : x.O k
    · rw [if_pos hq]; exact .inr rfl
    · rw [if_neg hq]; exact .inl rfl
/-- the blocks with these labels are as they were -/
structure Sm (p : Nat → Prop) (L : Lab) (w : World) (L' : Lab) (w' : World) : Prop where
  size : w.heap.size ≤ w'.heap.size
  ext : ∀ k, k < w.heap.size → L' k = L k
  blk : ∀ k, k < w.heap.size → p (L k) → w'.heap[k]? = w.heap[k]?
theorem Sm.of {p T : Nat → Prop} {L L' : Lab} {w w' : World} (k : Kp T w w') (e : ∀ k, k < w.heap.size → L' k = L k) (h : ∀ b, p (L b) → ¬ T b) : Sm p L w L' w' := ⟨k.size, e, fun b hb q => k.block b hb (h b q)⟩
theorem Sm.mono {p q : Nat → Prop} {L L' : Lab} {w w' : World} (h : Sm p L w L' w') (k : ∀ i, q i → p i) : Sm q L w L' w' := ⟨h.size, h.ext, fun b hb z => h.blk b hb (k _ z)⟩
theorem Sm.trans {p : Nat → Prop} {L L' L2 : Lab} {w w' w2 : World} (h : Sm p L w L' w') (k : Sm p L' w' L2 w2) : Sm p L w L2 w2 :=
  ⟨Nat.le_trans h.size k.size, fun i hi => (k.ext i (Nat.lt_of_lt_of_le hi h.size)).trans (h.ext i hi), fun i hi q => (k.blk i (Nat.lt_of_lt_of_le hi h.size) (by rw [h.ext i hi]; exact q)).trans (h.blk i hi q)⟩
theorem Sm.b {p : Nat → Prop} {L L' : Lab} {w w' : World} (h : Sm p L w L' w') {g m : Nat} {t : TypeId} {cs : Array Value} (hb : Blk w g t cs) (hl : L g = m) (hm : p m) : Blk w' g t cs ∧ L' g = m :=
  ⟨(h.blk g hb.lt (by rw [hl]; exact hm)).trans hb, (h.ext g hb.lt).trans hl⟩
theorem Sm.m {p : Nat → Prop} {L L' : Lab} {w w' : World} (h : Sm p L w L' w') {g m : Nat} {f : PgM} (hb : PgMap w g f) (hl : L g = m) (hm : p m) : PgMap w' g f ∧ L' g = m :=
  ⟨hb.kp (h.blk g hb.lt (by rw [hl]; exact hm)), (h.ext g hb.lt).trans hl⟩
/-- the cells of savepoints -/
def savC : List (Int × PgM) → List Nat → List Value
  | x :: xs, m :: ms => .int .i64 x.1 :: .map (some m) :: savC xs ms
  | _, _ => []
theorem savC_len : ∀ (xs : List (Int × PgM)) (ms : List Nat), ms.length = xs.length → (savC xs ms).length = xs.length * 2
  | [], [], _ => rfl
  | x :: xs, m :: ms, h => by
    have := savC_len xs ms (by simpa using h)
    simp [savC, this]
    omega
theorem savC_snoc : ∀ (xs : List (Int × PgM)) (ms : List Nat) (x : Int × PgM) (m : Nat), ms.length = xs.length → savC (xs ++ [x]) (ms ++ [m]) = savC xs ms ++ [Value.int .i64 x.1, Value.map (some m)]
  | [], [], _, _, _ => rfl
  | y :: xs, n :: ms, x, m, h => by
    have := savC_snoc xs ms x m (by simpa using h)
    simp [savC, this]
theorem savC_take : ∀ (xs : List (Int × PgM)) (ms : List Nat) (k : Nat), ms.length = xs.length → (savC xs ms).take (k * 2) = savC (xs.take k) (ms.take k)
  | [], [], _, _ => by simp [savC]
  | x :: xs, m :: ms, 0, _ => by simp [savC]
  | x :: xs, m :: ms, k + 1, h => by
    have := savC_take xs ms k (by simpa using h)
    rw [show (k + 1) * 2 = k * 2 + 1 + 1 from by omega]
    simp [savC, this]
/-- a transaction's savepoints lie at a slice -/
structure SavM (L : Lab) (w : World) (i : Nat) (A : Option Addr) (cap : Nat) (saves : List (Int × PgM)) (ms : List Nat) : Prop where
  len : ms.length = saves.length
  le : saves.length ≤ cap
  max : cap ≤ maxLen
  at_ : cap = 0 ∨ ∃ g cur, A = some ⟨g, 0, none⟩ ∧ L g = 7 + 5 * i ∧ Blk w g 121 cur ∧ cap * 2 ≤ cur.size ∧ cur.toList.take (saves.length * 2) = savC saves ms
  maps : ∀ (j : Nat) (x : Int × PgM) (m : Nat), saves[j]? = some x → ms[j]? = some m → PgMap w m x.2 ∧ L m = 8 + 5 * i ∧ 0 ≤ x.1 ∧ x.1 ≤ 4096
theorem SavM.nil (L : Lab) (w : World) (i : Nat) : SavM L w i none 0 [] [] := ⟨rfl, Nat.le_refl _, Nat.zero_le _, .inl rfl, fun j x m h => by simp at h⟩
theorem SavM.keep {L L' : Lab} {w w' : World} {i cap : Nat} {A : Option Addr} {saves : List (Int × PgM)} {ms : List Nat} (h : SavM L w i A cap saves ms) (k : Sm (fun j => j = 7 + 5 * i ∨ j = 8 + 5 * i) L w L' w') : SavM L' w' i A cap saves ms := by
  refine ⟨h.len, h.le, h.max, ?_, fun j x m h1 h2 => ?_⟩
  · rcases h.at_ with q | ⟨g, cur, e, hg, hb, h1, h2⟩
    · exact .inl q
    · obtain ⟨b1, b2⟩ := k.b hb hg (.inl rfl)
      exact .inr ⟨g, cur, e, b2, b1, h1, h2⟩
  · obtain ⟨m1, m2, m3⟩ := h.maps j x m h1 h2
    obtain ⟨b1, b2⟩ := k.m m1 m2 (.inr rfl)
    exact ⟨b1, b2, m3⟩
theorem SavM.cut {L : Lab} {w : World} {i cap : Nat} {A : Option Addr} {saves : List (Int × PgM)} {ms : List Nat} (h : SavM L w i A cap saves ms) (k : Nat) (hk : k ≤ saves.length) : SavM L w i A k (saves.take k) (ms.take k) := by
  have hl := h.len
  have hle := h.le
  have hmx := h.max
  refine ⟨by simp [hl], by simp; omega, by omega, ?_, fun j x m h1 h2 => ?_⟩
  · rcases h.at_ with q | ⟨g, cur, e, hg, hb, h1, h2⟩
    · exact .inl (by omega)
    · refine .inr ⟨g, cur, e, hg, hb, by omega, ?_⟩
      rw [← savC_take _ _ _ hl, ← h2, List.take_take, List.length_take]
      congr 1
      omega
  · rw [List.getElem?_take] at h1 h2
    split at h1
    · rename_i hj
      rw [if_pos hj] at h2
      exact h.maps j x m h1 h2
    · cases h1
theorem infoState : (Tryz.prog.info? 121).map (fun i => (i.zero, i.size, i.bytes)) = some (some (.agg #[.int .i64 0, .map none]), 2, 16) := by kernel_rfl
def Lab.put (L : Lab) (g m : Nat) : Lab := fun k => if k = g then m else L k
theorem Lab.put_old (L : Lab) (w : World) (m : Nat) : ∀ k, k < w.heap.size → (L.put w.heap.size m) k = L k := fun k hk => if_neg (by omega)
theorem Lab.put_new (L : Lab) (g m : Nat) : (L.put g m) g = m := if_pos rfl
/-- a savepoint more -/
theorem SavM.app {L : Lab} {w : World} {i cap : Nat} {A : Option Addr} {saves : List (Int × PgM)} {ms : List Nat} (h : SavM L w i A cap saves ms) (hl : Lok L w) (hb : saves.length < 1099511627776)
    (x : Int × PgM) (m : Nat) (hx : 0 ≤ x.1 ∧ x.1 ≤ 4096) (hm : PgMap w m x.2) (hlm : L m = 8 + 5 * i) (g0 : Nat) (h0 : w.cell? ⟨g0, 0, none⟩ = some (.int .i64 x.1)) (h1 : w.cell? ⟨g0, 1, none⟩ = some (.map (some m))) :
    ∃ v A' cap' w' L', (∀ ty, (Builtin.append_ #[122, 122] ty #[.slice A saves.length cap, .slice (some ⟨g0, 0, none⟩) 1 1]).run Tryz.prog w = .ok v w') ∧ v = .slice A' (saves.length + 1) cap' ∧ SavM L' w' i A' cap' (saves ++ [x]) (ms ++ [m]) ∧
      Kp (fun b => L b = 7 + 5 * i) w w' ∧ (∀ b, b < w.heap.size → L' b = L b) ∧ (∀ b, w.heap.size ≤ b → L' b = 0 ∨ L' b = 7 + 5 * i) ∧ Lok L' w' ∧ NoBytes w (fun b => w'.heap[b]? ≠ w.heap[b]?) := by
  obtain ⟨ii, hii, hin⟩ := Option.map_eq_some_iff.1 infoState
  have iz : ii.zero = some (.agg #[.int .i64 0, .map none]) := congrArg Prod.fst hin
  have is : ii.size = 2 := congrArg (fun q => q.2.1) hin
  have ib : ii.bytes = 16 := congrArg (fun q => q.2.2) hin
  have hsrc : Src Tryz.prog ii.size 122 (.slice (some ⟨g0, 0, none⟩) 1 1) 1 [Value.int .i64 x.1, Value.map (some m)] w := by
    refine Src.ofSlice w Tryz.underlying122 ⟨g0, 0, none⟩ 1 1 _ (by rw [is]; rfl) (fun j u hj => ?_) (by simp [Value.oneCell'])
    rw [add_mk]
    match j, hj with
    | 0, hj => simp at hj; subst hj; exact h0
    | 1, hj => simp at hj; subst hj; exact h1
    | j + 2, hj => simp at hj
  have hlen := h.len
  have hle := h.le
  have hmx := h.max
  have hsl := savC_len saves ms hlen
  have hsn := savC_snoc saves ms x m hlen
  have hmaps : ∀ (L' : Lab) (w' : World), Sm (fun j => j = 8 + 5 * i) L w L' w' → ∀ (j : Nat) (y : Int × PgM) (k : Nat), (saves ++ [x])[j]? = some y → (ms ++ [m])[j]? = some k → PgMap w' k y.2 ∧ L' k = 8 + 5 * i ∧ 0 ≤ y.1 ∧ y.1 ≤ 4096 := by
    intro L' w' k j y n hj hn
    by_cases hlt : j < saves.length
    · rw [List.getElem?_append_left hlt] at hj
      rw [List.getElem?_append_left (by omega)] at hn
      obtain ⟨m1, m2, m3⟩ := h.maps j y n hj hn
      obtain ⟨b1, b2⟩ := k.m m1 m2 rfl
      exact ⟨b1, b2, m3⟩
    · rw [List.getElem?_append_right (by omega)] at hj hn
      have e0 : j - saves.length = 0 := by
        have := (List.getElem?_eq_some_iff.1 hj).1
        simp at this
        omega
      rw [e0] at hj
      rw [hlen, e0] at hn
      simp at hj hn
      subst hj
      subst hn
      obtain ⟨b1, b2⟩ := k.m hm hlm rfl
      exact ⟨b1, b2, hx⟩
  by_cases hroom : saves.length + 1 ≤ cap
  · -- there is room
    rcases h.at_ with q | ⟨g, cur, rfl, hg, hblk, hsz, htk⟩
    · omega
    · have hr : ∀ ty, _ := fun ty => run_append_room_src (P := Tryz.prog) w 122 122 ty 121 ii Tryz.underlying122 hii g 0 saves.length cap _ 1 _ hsrc hroom
        (fun j hj => by
          simp at hj
          rw [hblk.cell, is, Array.getElem?_eq_getElem (by omega)]
          rfl) (fun j hj => hblk.frozen _)
      have hset : Blk (w.setCells g (0 + saves.length * ii.size) [Value.int .i64 x.1, Value.map (some m)]) g 121 (savC saves ms ++ [Value.int .i64 x.1, Value.map (some m)] ++ cur.toList.drop (saves.length * 2 + 2)).toArray := by
        have hcur : cur = (savC saves ms ++ (cur.toList.drop (saves.length * 2)).take 2 ++ cur.toList.drop (saves.length * 2 + 2)).toArray := by
          apply Array.ext'
          show cur.toList = savC saves ms ++ (cur.toList.drop (saves.length * 2)).take 2 ++ cur.toList.drop (saves.length * 2 + 2)
          rw [← htk, List.append_assoc, ← List.drop_drop, List.take_append_drop, List.take_append_drop]
        have hb2 := hblk
        rw [hcur] at hb2
        exact hb2.cellsL (0 + saves.length * ii.size) (by rw [hsl, is]; omega) (by simp; omega)
      have hk : Kp (fun b => L b = 7 + 5 * i) w (w.setCells g (0 + saves.length * ii.size) [Value.int .i64 x.1, Value.map (some m)]) := Kp.setCells (S := fun b => L b = 7 + 5 * i) (.inr hg) _ _ _ (Kp.refl _ _)
      refine ⟨_, _, _, _, L, hr, rfl, ⟨by simp [hlen], by simp; omega, hmx, .inr ⟨g, _, rfl, hg, hset, ?_, ?_⟩, hmaps L _ (Sm.of hk (fun _ _ => rfl) (fun b q z => by omega))⟩, hk, fun _ _ => rfl, fun b hb => .inl (hl.new hb), hl.mono hk.size, fun b cs hb hne => ?_⟩
      · have e : cur.toList.length = cur.size := rfl
        simp [hsl]
        omega
      · rw [hsn, List.length_append]
        show List.take ((saves.length + 1) * 2) _ = _
        rw [List.toList_toArray, List.take_append_of_le_length (by rw [List.length_append, hsl]; simp; omega), List.take_of_length_le (by rw [List.length_append, hsl]; simp; omega)]
      · by_cases e : b = g
        · subst e
          have := hblk
          unfold Blk at this
          rw [hb] at this
          injection this with this
          injection this with _ this
          exact absurd this (by decide)
        · have e2 : (w.setCells g (0 + saves.length * ii.size) [Value.int .i64 x.1, Value.map (some m)]).heap[b]? = w.heap[b]? := by
            rcases Nat.lt_or_ge b w.heap.size with q | q
            · exact (Kp.setCells (S := OnB g) (.inr rfl) _ _ _ (Kp.refl _ w)).block b q e
            · have q1 := lt_of_heap hb
              omega
          exact hne e2
  · -- a new row
    have hold : (Builtin.firstCells ii.size saves.length (.slice A saves.length cap)).run Tryz.prog w.drew = .ok (savC saves ms).toArray w.drew := by
      rcases h.at_ with q | ⟨g, cur, rfl, hg, hblk, hsz, htk⟩
      · have hs0 : saves.length = 0 := by omega
        have e0 : savC saves ms = [] := List.eq_nil_of_length_eq_zero (by omega)
        rw [e0, hs0]
        cases A with
        | none => exact run_firstCells_none w.drew ii.size 0 0 cap
        | some a => exact run_firstCells_some w.drew ii.size 0 a 0 cap [] (by simp) (fun j v hj => by simp at hj)
      · refine run_firstCells_some w.drew ii.size saves.length ⟨g, 0, none⟩ saves.length cap _ (by rw [hsl, is]) (fun j v hj => ?_)
        rw [add_mk, hblk.drew.cell, ← hj, Nat.zero_add, ← htk, List.getElem?_take]
        have := (List.getElem?_eq_some_iff.1 hj).1
        rw [if_pos (by omega), Array.getElem?_toList]
    have hcap : cap < saves.length + 1 := by omega
    have hr : ∀ ty, _ := fun ty => run_append_grow_src (P := Tryz.prog) w 122 122 ty 121 ii (.agg #[.int .i64 0, .map none]) Tryz.underlying122 hii iz A saves.length cap _ hold _ 1 _ hsrc hcap (by omega) (growslice_fits hcap (by rw [ib]; omega))
    have hge := grownCap_ge w (saves.length + 1) cap 121
    have hgm := grownCap_le_maxLen w (saves.length + 1) cap 121 (by unfold maxLen; omega)
    have hk : ∀ o, Kp (fun b => L b = 7 + 5 * i) w (w.drew.alloc o) := fun o => ((Kp.refl _ _).drew).alloc o
    refine ⟨_, _, _, _, L.put w.heap.size (7 + 5 * i), hr, rfl, ⟨by simp [hlen], by simp; omega, hgm, .inr ⟨w.heap.size, _, rfl, L.put_new _ _, Blk.new w.drew _ _, ?_, ?_⟩, hmaps _ _ (Sm.of (hk _) (L.put_old w _) (fun b q z => by omega))⟩, hk _, L.put_old w _, fun b hb => ?_, fun b hb => ?_, fun b cs hb hne => ?_⟩
    · rw [Array.size_append, size_zeroCells, List.size_toArray, List.length_append, hsl]
      show _ ≤ _ + _ * 2
      simp
      omega
    · rw [hsn, Array.toList_append, List.length_append]
      show List.take ((saves.length + 1) * 2) _ = _
      rw [List.toList_toArray, List.take_append_of_le_length (by rw [List.length_append, hsl]; simp; omega), List.take_of_length_le (by rw [List.length_append, hsl]; simp; omega)]
    · unfold Lab.put
      by_cases e : b = w.heap.size
      · rw [if_pos e]; exact .inr rfl
      · rw [if_neg e]; exact .inl (hl.new hb)
    · unfold Lab.put at hb
      have hsz : (w.drew.alloc (.cells ((savC saves ms ++ [Value.int .i64 x.1, Value.map (some m)]).toArray ++ Builtin.zeroCells (Value.agg #[.int .i64 0, .map none]).cells (grownCap w (saves.length + 1) cap 121 - (saves.length + 1))) 121)).heap.size = w.heap.size + 1 := by simp
      show b < (w.drew.alloc _).heap.size
      rw [hsz]
      by_cases e : b = w.heap.size
      · omega
      · rw [if_neg e] at hb
        have := hl b hb
        omega
    · have q1 := lt_of_heap hb
      exact hne (Below.heap_alloc w.drew _ b q1)
/-- the cells of a transaction -/
def txC (t : TxS) (sb mb sm : Nat) (A : Option Addr) (cap : Nat) : Array Value :=
  #[ptrV sb, .int .i64 t.count, .map (some mb), .int .i64 t.c, .int .i64 t.mark, .int .i64 t.first, .map (some sm), .bool t.w, .bool t.e, .slice A t.saves.length cap]
/-- a transaction in memory -/
structure TxN (L : Lab) (w : World) (i sb tb mb sm : Nat) (A : Option Addr) (cap : Nat) (ms : List Nat) (t : TxS) : Prop where
  lb : L tb = 4 + 5 * i
  lm : L mb = 5 + 5 * i
  ls : L sm = 6 + 5 * i
  blk : Blk w tb 124 (txC t sb mb sm A cap)
  pg : PgMap w mb t.pg
  seen : PgMap w sm t.seen
  sav : SavM L w i A cap t.saves ms
  rc : 0 ≤ t.count ∧ t.count ≤ 4096
def TxM (L : Lab) (w : World) (i sb tb : Nat) (t : TxS) : Prop := ∃ mb sm A cap ms, TxN L w i sb tb mb sm A cap ms t
def txL (i : Nat) : Nat → Prop := fun j => 4 + 5 * i ≤ j ∧ j ≤ 8 + 5 * i
theorem TxN.keep {L L' : Lab} {w w' : World} {i sb tb mb sm cap : Nat} {A : Option Addr} {ms : List Nat} {t : TxS} (h : TxN L w i sb tb mb sm A cap ms t) (k : Sm (txL i) L w L' w') : TxN L' w' i sb tb mb sm A cap ms t := by
  obtain ⟨a1, a2⟩ := k.b h.blk h.lb ⟨by omega, by omega⟩
  obtain ⟨b1, b2⟩ := k.m h.pg h.lm ⟨by omega, by omega⟩
  obtain ⟨c1, c2⟩ := k.m h.seen h.ls ⟨by omega, by omega⟩
  exact ⟨a2, b2, c2, a1, b1, c1, h.sav.keep (k.mono (fun j hj => ⟨by omega, by omega⟩)), h.rc⟩
theorem TxM.keep {L L' : Lab} {w w' : World} {i sb tb : Nat} {t : TxS} (h : TxM L w i sb tb t) (k : Sm (txL i) L w L' w') : TxM L' w' i sb tb t := by
  obtain ⟨mb, sm, A, cap, ms, h⟩ := h
  exact ⟨mb, sm, A, cap, ms, h.keep k⟩
/-- the store's place for a connection -/
def slot (tb : Nat → Nat) (ts : Nat → Option TxS) (i : Nat) : Value := match ts i with | some t => if t.e then .pointer none else ptrV (tb i) | none => .pointer none
def wayV (log : Bool) (db : Nat) : Value := if log then .iface 141 (.agg #[ptrV db]) else .iface 133 (.agg #[ptrV db])
def stC (db lb : Nat) (tb : Nat → Nat) (s : SdS) (ts : Nat → Option TxS) : Array Value :=
  #[ptrV db, .int .i64 s.starts, .bool s.log, wayV s.log db, ptrV lb, slot tb ts 0, slot tb ts 1, slot tb ts 2, slot tb ts 3, slot tb ts 4, slot tb ts 5, slot tb ts 6, slot tb ts 7]
/-- a store with its transactions -/
structure Sys (L : Lab) (w : World) (sb db lb : Nat) (tb : Nat → Nat) (s : SdS) (ts : Nat → Option TxS) : Prop where
  lab : Lok L w
  l1 : L sb = 1
  l2 : L lb = 2
  blk : Blk w sb 140 (stC db lb tb s ts)
  tab : Tab w lb s.hs
  dq : Dsk L w db s.p
  tx : ∀ i t, ts i = some t → i < 8 ∧ t.c = i ∧ TxM L w i sb (tb i) t
section
variable {L L' : Lab} {w w' : World} {sb db lb : Nat} {tb : Nat → Nat} {s : SdS} {ts : Nat → Option TxS}
theorem Sys.keep (h : Sys L w sb db lb tb s ts) (k : Kp NoB w w') : Sys L w' sb db lb tb s ts :=
  ⟨h.lab.mono k.size, h.l1, h.l2, h.blk.keep k (fun q => q), h.tab.keep k (fun q => q), h.dq.keep k (fun _ q => q.elim) (fun _ _ _ q => q), fun i t e => ⟨(h.tx i t e).1, (h.tx i t e).2.1, (h.tx i t e).2.2.keep (Sm.of k (fun _ _ => rfl) (fun _ _ q => q))⟩⟩
/-- the disk has moved on -/
theorem Sys.disk {p : Pl} (h : Sys L w sb db lb tb s ts) (hd : Dq (fun k => L k = 3) w w' db p) : ∃ L', Sys L' w' sb db lb tb { s with p := p } ts ∧ Gw L w L' w' := by
  obtain ⟨L', h1, h2, h3, h4, hk⟩ := Dsk.step hd h.lab
  refine ⟨L', ⟨h2, (h3.ext _ h.blk.lt).trans h.l1, (h3.ext _ h.tab.lt).trans h.l2, h.blk.keep hk (fun q => by rw [h.l1] at q; omega), h.tab.keep hk (fun q => by rw [h.l2] at q; omega), h1, fun i t e => ?_⟩, h3⟩
  obtain ⟨a, b, c⟩ := h.tx i t e
  exact ⟨a, b, c.keep (Sm.of hk h3.ext (fun b q z => by rw [z] at q; have := q.1; omega))⟩
/-- a transaction has changed -/
theorem Sys.txs {i : Nat} {t : TxS} (h : Sys L w sb db lb tb s ts) (k : Kp (fun b => txL i (L b)) w w') (he : ∀ b, b < w.heap.size → L' b = L b) (hlk : Lok L' w')
    (hu : NoBytes w (fun b => txL i (L b) ∧ w'.heap[b]? ≠ w.heap[b]?))
    (hi : i < 8) (hc : t.c = i) (ht : TxM L' w' i sb (tb i) t) (hs : slot tb (fun j => if j = i then some t else ts j) i = slot tb ts i) : Sys L' w' sb db lb tb s (fun j => if j = i then some t else ts j) := by
  have hT : Kp (fun b => txL i (L b) ∧ w'.heap[b]? ≠ w.heap[b]?) w w' := ⟨k.os, k.tape, k.output, k.size, fun b hb hn => by
    by_cases hq : txL i (L b)
    · by_cases hz : w'.heap[b]? = w.heap[b]?
      · exact hz
      · exact absurd ⟨hq, hz⟩ hn
    · exact k.block b hb hq⟩
  have hd : Dsk L w' db s.p := h.dq.keep hT (fun b q e => by have := q.1.1; omega) hu
  have hst : stC db lb tb s (fun j => if j = i then some t else ts j) = stC db lb tb s ts := by
    have : ∀ j, slot tb (fun j => if j = i then some t else ts j) j = slot tb ts j := fun j => by
      by_cases e : j = i
      · subst e; exact hs
      · unfold slot
        dsimp only
        rw [if_neg e]
    unfold stC
    simp only [this]
  refine ⟨hlk, (he _ h.blk.lt).trans h.l1, (he _ h.tab.lt).trans h.l2, ?_, h.tab.keep k (fun q => by rw [h.l2] at q; have := q.1; omega), ?_, fun j u e => ?_⟩
  · rw [hst]
    exact h.blk.keep k (fun q => by rw [h.l1] at q; have := q.1; omega)
  · obtain ⟨x, ex, hx, hp, hk, ho, hz⟩ := hd
    refine ⟨x, ex, hx, hp, Kp.refl _ _, fun b q => .inl ?_, fun b q => hlk b (by rw [q]; decide)⟩
    have hb := hx.lt b q
    have h3 : L b = 3 := by
      rcases ho b q with z | z
      · exact z
      · omega
    have h5 : b < w.heap.size := h.lab b (by rw [h3]; decide)
    exact (he b h5).trans h3
  · change (if j = i then some t else ts j) = some u at e
    by_cases ej : j = i
    · rw [if_pos ej] at e
      injection e with e
      subst e
      subst ej
      exact ⟨hi, hc, ht⟩
    · rw [if_neg ej] at e
      obtain ⟨a, b, c⟩ := h.tx j u e
      exact ⟨a, b, c.keep (Sm.of k he (fun g q z => by have := q.1; have := q.2; have := z.1; have := z.2; omega))⟩
end
end Go.Proofs.YtoeldmkbmnkhkaaGreat
/- Is a store over? Is a transaction there? How many pages? No condition. -/
namespace Go.Proofs.YtoeldmkbmnkhkaaGreat
open Go.RowKit

section
variable {L : Lab} {w : World} {sb db lb : Nat} {tb : Nat → Nat} {s : SdS} {ts : Nat → Option TxS}
set_option maxRecDepth 100000 in
set_option maxHeartbeats 800000 in
theorem over_s (h : Sys L w sb db lb tb s ts) : Calls Tryz.prog 36 #[ptrV sb] w fun e w' => e = .returned (.bool s.over) ∧ Kp NoB w w' := by
  have c0 : w.cell? ⟨sb, 0, none⟩ = some (ptrV db) := h.blk.cell 0
  have c1 : w.cell? ⟨sb, 1, none⟩ = some (.int .i64 s.starts) := h.blk.cell 1
  have HQ := Lib.hid h.dq
  clear h
  unfold SdS.over
  obtain ⟨st, hst⟩ : ∃ st, s.p.starts = st := ⟨_, rfl⟩
  obtain ⟨ss, hss⟩ : ∃ ss, s.starts = ss := ⟨_, rfl⟩
  rw [hss] at c1 ⊢
  rw [hst]
  have hs : ∀ n, Calls Tryz.prog 73 #[.pointer (some ⟨db, 0, none⟩)] (w.drewN n) fun e w' => e = .returned (.int .i64 st) ∧ w' = w.drewN n := fun n => (starts_q (HQ.out.keepT ((Kp.refl NoB w).drewN n) (fun _ _ q => q) (fun _ _ _ q => q))).mono fun e w' q => ⟨by rw [q.1, hst], q.2.symm⟩
  have HS := Lib.hid hs
  clear hs hst hss
  unfold ptrV at *
  cases hd : s.p.down
  · have hdn : ∀ n, Calls Tryz.prog 37 #[.pointer (some ⟨db, 0, none⟩)] (w.drewN n) fun e w' => e = .returned (.bool false) ∧ w' = w.drewN n := fun n => (down_q (HQ.out.keepT ((Kp.refl NoB w).drewN n) (fun _ _ q => q) (fun _ _ _ q => q))).mono fun e w' q => ⟨by rw [q.1, hd], q.2.symm⟩
    have HD := Lib.hid hdn
    clear hdn hd HQ
    go_enter Tryz.func36, Tryz.ntmps36
    go_wp2_with fail
    go_quiet (first
      | (go_at_call 37; exact Calls.quiet_of_same (HD.out _))
      | (go_at_call 73; exact Calls.quiet_of_same (HS.out _)))
    go_wp2_with fail
    go_ret
    exact ⟨ret_bool (by first | (simp; done) | (simp; rfl)), (Kp.refl _ _).drewN _⟩
  · have hdn : ∀ n, Calls Tryz.prog 37 #[.pointer (some ⟨db, 0, none⟩)] (w.drewN n) fun e w' => e = .returned (.bool true) ∧ w' = w.drewN n := fun n => (down_q (HQ.out.keepT ((Kp.refl NoB w).drewN n) (fun _ _ q => q) (fun _ _ _ q => q))).mono fun e w' q => ⟨by rw [q.1, hd], q.2.symm⟩
    have HD := Lib.hid hdn
    clear hdn hd HQ
    go_enter Tryz.func36, Tryz.ntmps36
    go_wp2_with fail
    go_quiet (first
      | (go_at_call 37; exact Calls.quiet_of_same (HD.out _))
      | (go_at_call 73; exact Calls.quiet_of_same (HS.out _)))
    go_wp2_with fail
    go_ret
    exact ⟨ret_bool (by first | (simp; done) | (simp; rfl)), (Kp.refl _ _).drewN _⟩
theorem ready_s (h : Sys L w sb db lb tb s ts) : Calls Tryz.prog 75 #[ptrV sb] w fun e w' => e = .returned (.int .i64 (if s.over then 7 else 0)) ∧ Kp NoB w w' := by
  have c0 : w.cell? ⟨sb, 0, none⟩ = some (ptrV db) := h.blk.cell 0
  have H := Lib.hid h
  clear h
  unfold ptrV at *
  cases ho : s.over
  all_goals
    have HO := Lib.hid ho
    clear ho
    go_enter Tryz.func75, Tryz.ntmps75
    go_wp2_with (go_at_call 36; refine (show Calls _ _ #[ptrV sb] _ _ from over_s H.out).mono ?_; rw [HO.out]; rintro e w1 ⟨rfl, hk⟩)
    go_ret
    exact ⟨rfl, hk⟩
variable {i : Nat} {t : TxS}
set_option maxHeartbeats 800000 in
theorem ok_t (h : Sys L w sb db lb tb s ts) (ht : ts i = some t) : Calls Tryz.prog 66 #[ptrV (tb i)] w fun e w' => e = .returned (.int .i64 (t.okE s)) ∧ Kp NoB w w' := by
  obtain ⟨_, _, mb, sm, A, cap, ms, hn⟩ := h.tx i t ht
  have c0 : w.cell? ⟨tb i, 0, none⟩ = some (ptrV sb) := hn.blk.cell 0
  have H := Lib.hid h
  have HB := Lib.hid hn.blk
  clear h hn ht
  obtain ⟨g, hg⟩ : ∃ g, tb i = g := ⟨_, rfl⟩
  rw [hg] at c0 HB ⊢
  clear hg
  obtain ⟨te, hte⟩ : ∃ te, t.e = te := ⟨_, rfl⟩
  unfold TxS.okE
  rw [hte]
  have HT := Lib.hid hte
  clear hte
  unfold ptrV at *
  cases ho : s.over
  all_goals
    have HO := Lib.hid ho
    clear ho
    cases te
    all_goals
      go_enter Tryz.func66, Tryz.ntmps66
      go_wp2_with (go_at_call 36; refine (show Calls _ _ #[ptrV sb] _ _ from over_s H.out).mono ?_; rw [HO.out]; rintro e w1 ⟨rfl, hk⟩; have c7 : w1.cell? ⟨g, 7 + 1, none⟩ = some (.bool _) := ((HB.out.keep hk (fun q => q)).cell 8).trans (by rw [show (txC t sb mb sm A cap)[8]? = some (.bool t.e) from rfl, HT.out]))
      go_ret
      exact ⟨rfl, hk⟩
end
end Go.Proofs.YtoeldmkbmnkhkaaGreat
/- The journal: pages changed together; no condition but on the counts. -/
namespace Go.Proofs.YtoeldmkbmnkhkaaGreat
open Go.RowKit

theorem fill_pg (n : Int) (l : List Int) (hl : l.length = 256) : Instr.fill (fun i => (#[(0, 1), (1, 256)] : Array (Nat × Nat))[i]?) (pgA ⟨0, zeros 256⟩) [(0, .int .i64 n), (1, .agg (bytesV l))] = some (pgA ⟨n, l⟩) := by
  have hz : (pgA ⟨0, zeros 256⟩).size = 257 := by
    unfold pgA pgL
    rw [List.size_toArray, List.length_cons, List.length_map]
    unfold zeros
    rw [List.length_replicate]
  have c1 : (Value.int .i64 n).cells = #[.int .i64 n] := rfl
  have c2 : (Value.agg (bytesV l)).cells = bytesV l := rfl
  have s2 : (bytesV l).size = 256 := by rw [bytesV_size, hl]
  obtain ⟨g1, g2⟩ := Go.Great.foldl_set 0 [.int .i64 n] 0 (pgA ⟨0, zeros 256⟩)
  obtain ⟨h1, h2⟩ := Go.Great.foldl_set 1 (bytesV l).toList 0 (([Value.int .i64 n].zipIdx 0).foldl (fun cs (x : Value × Nat) => cs.setIfInBounds (0 + x.2) x.1) (pgA ⟨0, zeros 256⟩))
  have e1 : (#[Value.int .i64 n] : Array Value).zipIdx.foldl (fun cs (x : Value × Nat) => cs.setIfInBounds (0 + x.2) x.1) (pgA ⟨0, zeros 256⟩) = ([Value.int .i64 n].zipIdx 0).foldl (fun cs (x : Value × Nat) => cs.setIfInBounds (0 + x.2) x.1) (pgA ⟨0, zeros 256⟩) := by
    rw [← Array.foldl_toList, Array.toList_zipIdx]
  unfold Instr.fill
  simp only [List.getElem?_toArray, List.getElem?_cons_zero, c1]
  rw [if_neg (by rw [hz]; simp), e1]
  generalize hA : ([Value.int .i64 n].zipIdx 0).foldl (fun cs (x : Value × Nat) => cs.setIfInBounds (0 + x.2) x.1) (pgA ⟨0, zeros 256⟩) = X at g1 g2 h1 h2 ⊢
  unfold Instr.fill
  simp only [List.getElem?_toArray, List.getElem?_cons_zero, List.getElem?_cons_succ, c2]
  rw [if_neg (by rw [g1, hz, s2]; simp)]
  have e2 : (bytesV l).zipIdx.foldl (fun cs (x : Value × Nat) => cs.setIfInBounds (1 + x.2) x.1) X = ((bytesV l).toList.zipIdx 0).foldl (fun cs (x : Value × Nat) => cs.setIfInBounds (1 + x.2) x.1) X := by
    rw [← Array.foldl_toList, Array.toList_zipIdx]
  rw [e2]
  unfold Instr.fill
  refine congrArg some ?_
  apply Array.ext_getElem?
  intro k
  rw [h2 k, g1, hz, g2 k, hz]
  simp only [Array.length_toList, s2, List.length_cons, List.length_nil, Nat.add_zero, Nat.zero_add]
  rcases (show k = 0 ∨ (1 ≤ k ∧ k < 257) ∨ 257 ≤ k by omega) with rfl | hk | hk
  · rw [if_neg (by omega), if_pos (by omega)]
    rfl
  · rw [if_pos (by omega)]
    unfold pgA pgL bytesV
    obtain ⟨j, rfl⟩ : ∃ j, k = j + 1 := ⟨k - 1, by omega⟩
    rw [List.getElem?_toArray, List.getElem?_cons_succ, Nat.add_sub_cancel]
  · rw [if_neg (by omega), if_neg (by omega), Array.getElem?_eq_none (by rw [hz]; exact hk), Array.getElem?_eq_none (by unfold pgA pgL; rw [List.size_toArray, List.length_cons, List.length_map, hl]; exact hk)]
theorem built_pg (parts : List (Nat × Value)) : Tryz.prog.built 208 parts = Instr.fill (fun i => (#[(0, 1), (1, 256)] : Array (Nat × Nat))[i]?) (pgA ⟨0, zeros 256⟩) parts := by kernel_rfl
theorem buildPg2 (w : World) (n : Int) (l : List Int) (hl : l.length = 256) : (Instr.build 208 #[(0, .int .i64 n), (1, .agg (bytesV l))]).run Tryz.prog w = .ok (.agg (pgA ⟨n, l⟩)) w :=
  run_build w 208 _ _ ((built_pg _).trans (fill_pg n l hl))
theorem exBuildPg2 (w : World) (ev : Operand → Value) (x y : Operand) (n : Int) (l : List Int) (hl : l.length = 256) (ds : Option Tmp) (ty : TypeId) (ps : String) (af : Array Edge) (g : Option (Nat × Bool)) (hx : ev x = .int .i64 n) (hy : ev y = .agg (bytesV l)) :
    (execOp ev ⟨ds, .build 208 #[(0, x), (1, y)], ty, ps, af, g⟩).run Tryz.prog w = .ok (.value (.agg (pgA ⟨n, l⟩))) w := by
  simp only [execOp, List.map_toArray, List.map_cons, List.map_nil, hx, hy, Sem.run_bind, buildPg2 _ _ _ hl, Result.andThen_ok]
  rfl
section
variable {S : Nat → Prop} {w : World} {db : Nat} {p : Pl}
end
section
variable {S : Nat → Prop} {w : World} {db : Nat} {p : Pl}
end
section
variable {S : Nat → Prop} {w : World} {db : Nat} {p : Pl}
attribute [local go_sem ↓] loadPg storePg allocPg
end
end Go.Proofs.YtoeldmkbmnkhkaaGreat
/- The log: all its marks; condition: a disk. -/
namespace Go.Proofs.YtoeldmkbmnkhkaaGreat
open Go.RowKit
theorem wopen_len {p : Pl} (he : p.wopen.1 = 0) : p.wopen.2.length ≤ 1048576 := by
  revert he
  unfold Pl.wopen
  split
  · intro he; cases he
  · split
    · intro he; cases he
    · rename_i hb
      cases hf : frsAt (p.seen nmWal) p.whead.a.toNat with
      | none => intro he; cases he
      | some g =>
        dsimp only
        split
        · intro he; cases he
        · intro _
          show g.length ≤ _
          rw [frsAt_len hf]
          omega
end Go.Proofs.YtoeldmkbmnkhkaaGreat
/- The log: may pages be changed; no condition but on the counts. -/
namespace Go.Proofs.YtoeldmkbmnkhkaaGreat
open Go.RowKit

section
attribute [local go_sem ↓] loadPg storePg allocPg
end
end Go.Proofs.YtoeldmkbmnkhkaaGreat
/- The log: steps one behind the other, till one is refused; no condition. -/
namespace Go.Proofs.YtoeldmkbmnkhkaaGreat
open Go.RowKit

def WChRel (g o n : Nat) (Q : Int → World → Prop) (v : Value) (wr : World) : Prop := ∃ (i : Nat) (l : List (Nat × Array Value × Array Value)), v = .int .i64 (i : Int) ∧ i + l.length = n ∧ Chain g o i l Q wr
set_option maxRecDepth 100000 in
set_option maxHeartbeats 800000 in
theorem wsteps_ok (w : World) (g o n cap : Nat) (l : List (Nat × Array Value × Array Value)) (Q : Int → World → Prop) (hl : l.length = n) (hn : n < 1099511627776) (h : Chain g o 0 l Q w) :
    Calls Tryz.prog 124 #[.slice (some ⟨g, o, none⟩) n cap] w fun e w' => ∃ x : Int, e = .returned (.int .i64 x) ∧ Q x w' := by
  have H := Lib.hid h
  have HL := Lib.hid hl
  clear h hl
  go_enter Tryz.func124, Tryz.ntmps124
  go_wp2_with fail
  go_loopw [8] (fun v wr => WChRel g o n Q v wr) (fun v _ => n - (intOf v).toNat)
  case atStart => exact ⟨0, l, rfl, by have := HL.out; omega, H.out⟩
  case round =>
    obtain ⟨i, l', rfl, hi, hc⟩ := hrel
    cases l' with
    | nil =>
      have hii : ¬ (i : Int) < (n : Int) := by simp at hi; omega
      have HC := Lib.hid (show Q 0 wr from hc)
      clear hc hi
      go_wp2_with fail
      go_ret
      exact ⟨0, rfl, HC.out⟩
    | cons x r =>
      obtain ⟨f, a, c⟩ := x
      obtain ⟨h1, h2, h3⟩ := hc
      have hii : (i : Int) < (n : Int) := by simp at hi; omega
      have HI := Lib.hid hi
      clear hi
      have H3 := Lib.hid h3
      clear h3
      go_wp2_with fail
      refine H3.out.mono ?_
      rintro e w' ⟨x, rfl, hx0, hx1⟩
      have HX0 := Lib.hid hx0
      have HX1 := Lib.hid hx1
      clear hx0 hx1
      by_cases hx : x = 0
      · subst hx
        have HX := Lib.hid (HX1.out rfl)
        go_wp2_with fail
        go_roundw
        case rel => exact ⟨i + 1, r, by go_num, by have := HI.out; simp at this; omega, HX.out⟩
        case measure => simp [intOf]; omega
      · have HX := Lib.hid (HX0.out hx)
        go_wp2_with fail
        go_ret
        exact ⟨x, rfl, HX.out⟩
end Go.Proofs.YtoeldmkbmnkhkaaGreat
/- The log: a head sealed and synced; condition: a log in memory on a disk. -/
namespace Go.Proofs.YtoeldmkbmnkhkaaGreat
open Go.RowKit

section
variable {S : Nat → Prop} {W0 w : World} {db lb : Nat} {p : Pl}
attribute [local go_sem ↓] loadSec storeSec allocSec loadW4 storeW4 conv64
set_option maxRecDepth 100000 in
set_option maxHeartbeats 800000 in
theorem wseal1_q (h : Dq S w w db p) (v : W4) (Bl Bs : Nat) (hn : ¬ S Bl) (hnl : ¬ S lb) (hns : ¬ S Bs) (hs : Blk w Bs 156 (bytesV (sealB v))) (hl : w.cell? ⟨Bl, 0, none⟩ = some (.pointer (some ⟨lb, 0, none⟩))) (hd : w.cell? ⟨lb, 0, none⟩ = some (.pointer (some ⟨db, 0, none⟩))) (hm : p.sm 20000) :
    Calls Tryz.prog 167 #[.pointer (some ⟨Bl, 0, none⟩), .pointer (some ⟨Bs, 0, none⟩)] w fun e w' => e = .returned (.int .i64 (p.writeE nmWal 0 (sealB v))) ∧ Dq S w w' db (p.write nmWal 0 (sealB v)) := by
  have H := Lib.hid h
  have HN := Lib.hid hn
  have HNL := Lib.hid hnl
  have HNS := Lib.hid hns
  have HM := Lib.hid hm
  have hby := hs.byAt 0 64 (by show _ ≤ 64; omega)
  have hrd := hs.byRd 0 64 (by show _ ≤ 64; omega)
  rw [List.drop_zero, List.take_of_length_le (by show 64 ≤ 64; omega)] at hrd
  have hlt1 := block_lt_of_cell hl
  have hlt2 := block_lt_of_cell hd
  have hlt3 := hs.lt
  have HD := Lib.hid hd
  have HL := Lib.hid hl
  have HLT1 := Lib.hid hlt1
  have HLT2 := Lib.hid hlt2
  have HLT3 := Lib.hid hlt3
  have hsz : (strOf (sealB v)).size ≤ maxLen := by rw [strOf_size, seal_len]; decide
  have HSZ := Lib.hid hsz
  have HSI := Lib.hid (strI_seal v (seal_rng v))
  obtain ⟨sb, hsb⟩ : ∃ sb, sealB v = sb := ⟨_, rfl⟩
  have HSB := Lib.hid hsb
  rw [hsb] at hrd HSI HSZ
  have HBY := Lib.hid hby
  have HRD := Lib.hid hrd
  clear h hm hs hd hl hlt1 hlt2 hlt3 hn hnl hns hsz hsb
  go_enter Tryz.func167, Tryz.ntmps167
  go_upto_region 1 with fail
  have hl0 := HL.out
  have hd0 := HD.out
  go_region_held3 (fun w' => w'.cell? ⟨Bl, 0, none⟩ = some (.pointer (some ⟨lb, 0, none⟩)) ∧ w'.cell? ⟨lb, 0, none⟩ = some (.pointer (some ⟨db, 0, none⟩)) ∧ byAt w' Bs 0 64 ∧ byRd w' Bs 0 64 = sb)
    (first | exact ⟨hl0, hd0, hby, hrd⟩ | exact ⟨he0, he3, he1, he2⟩ | go_keep)
    (first
      | (go_at_call 123; go_must (refine (show Calls _ _ #[ptrV db, .string nmWal, .int .i64 0, .string (strOf sb)] _ _ from write_q (H.out.base1 ((Kp.refl NoB w).drew)) nmWal 0 (strOf sb) nmW_le HSZ.out HM.out).mono ?_); rintro e w4 ⟨rfl, h4⟩; rw [HSI.out] at h4; rw [HSI.out]; have H4 := Lib.hid h4; have he0 := (h4.kp.cell HLT1.out HN.out).trans HL.out; have he3 := (h4.kp.cell HLT2.out HNL.out).trans HD.out; have he1 := by_keep h4.kp HLT3.out HNS.out HBY.out HRD.out; clear h4))
  go_wp2_with fail
  go_ret
  rw [HSB.out]
  exact ⟨rfl, Dq.up (H.out.base1 (Kp.refl NoB w).drew) (Kp.refl NoB w).drew H.out.lt H4.out⟩
set_option maxRecDepth 100000 in
set_option maxHeartbeats 800000 in
theorem wseal_q (h : Dq S w w db p) (hc : w.cell? ⟨lb, 0, none⟩ = some (.pointer (some ⟨db, 0, none⟩))) (hlb : ¬ S lb) (v : W4) (hm : p.sm 40000) :
    Calls Tryz.prog 129 #[.pointer (some ⟨lb, 0, none⟩), .agg (w4A v)] w fun e w' => e = .returned (.int .i64 (p.runS (headS nmWal v)).2) ∧ Dq S w w' db (p.runS (headS nmWal v)).1 := by
  have H := Lib.hid h
  have HM := Lib.hid hm
  have HC := Lib.hid hc
  have HLB := Lib.hid hlb
  have HLT := Lib.hid (block_lt_of_cell hc)
  have hbw : Blk ((w.alloc (.cells #[.pointer (some ⟨lb, 0, none⟩)] 199)).alloc (.cells (w4A v) 193)) (w.heap.size + 1) 193 (w4A v) := Blk.newAt _ _ _ _ (by simp)
  have hbl : Blk ((w.alloc (.cells #[.pointer (some ⟨lb, 0, none⟩)] 199)).alloc (.cells (w4A v) 193)) w.heap.size 199 #[.pointer (some ⟨lb, 0, none⟩)] := (Blk.new _ _ _).alloc _
  have hkb : Kp NoB w ((w.alloc (.cells #[.pointer (some ⟨lb, 0, none⟩)] 199)).alloc (.cells (w4A v) 193)) := ((Kp.refl _ _).alloc _).alloc _
  have t0 := hbw.thereAll 4 rfl
  have r0 := hbw.readAll 4 rfl
  have HBL := Lib.hid hbl
  have HKB := Lib.hid hkb
  clear h hm hc hlb hbw hbl hkb
  go_enter Tryz.func129, Tryz.ntmps129
  go_wp2_with fail
  refine (seal_ok _ v).mono ?_
  rintro e w2 ⟨rfl, hk⟩
  have hks := HKB.out.size
  have hk2 := HKB.out.trans hk (fun _ _ q => q)
  have hbl2 := HBL.out.keep hk (fun q => q)
  have hb := Blk.new w2 156 (bytesV (zeros 64))
  have hb2 := hb.whole (bytesV (sealB v)) (by rw [bytesV_size, bytesV_size]; rfl)
  have t1 := hb.thereAll 64 (by rw [bytesV_size]; rfl)
  have o1 := bytesV_one (sealB v)
  have s1 : (bytesV (sealB v)).size = 64 := by rw [bytesV_size]; rfl
  have hk3 : Kp NoB w ((w2.alloc (.cells (bytesV (zeros 64)) 156)).setCells w2.heap.size 0 (bytesV (sealB v)).toList) := Kp.setCells (.inl hk2.size) _ _ _ (hk2.alloc _)
  have hk23 : Kp NoB w2 ((w2.alloc (.cells (bytesV (zeros 64)) 156)).setCells w2.heap.size 0 (bytesV (sealB v)).toList) := Kp.setCells (.inl (Nat.le_refl _)) _ _ _ ((Kp.refl _ _).alloc _)
  have hbl3 := hbl2.keep hk23 (fun q => q)
  have cl := hbl3.cell 0
  have HB2 := Lib.hid hb2
  have HBL3 := Lib.hid hbl3
  have HK3 := Lib.hid hk3
  have HS2 : Hid (w.heap.size < w2.heap.size ∧ w.heap.size + 2 ≤ w2.heap.size) := Lib.hid (by have := hk.size; simp at this; omega)
  clear hk hk2 hb hb2 hk3 hk23 hbl2 hbl3 HBL HKB hks
  generalize hRR : bytesV (sealB v) = RR at t1 o1 s1 HB2 HBL3 HK3 cl ⊢
  have HRR := Lib.hid hRR
  clear hRR
  go_upto_region 2 with fail
  generalize hW3 : (w2.alloc (.cells (bytesV (zeros 64)) 156)).setCells w2.heap.size 0 RR.toList = w3 at HB2 HBL3 HK3 cl ⊢
  generalize hg : w2.heap.size = g at HB2 HS2 ⊢
  have hs3 : Hid (w3.heap.size = g + 1) := Lib.hid (by rw [← hW3, size_setCells, ← hg]; simp)
  clear hW3
  go_wp2_with fail
  refine (wsteps_ok _ w3.heap.size 0 2 2 [(167, #[], #[.pointer (some ⟨w.heap.size, 0, none⟩), .pointer (some ⟨g, 0, none⟩)]), (168, #[.pointer (some ⟨lb, 0, none⟩)], #[])]
    (fun x w' => x = (p.runS (headS nmWal v)).2 ∧ Dq S w w' db (p.runS (headS nmWal v)).1) rfl (by omega) ?_).mono ?_
  · have hb3 := Blk.new w3 53 #[.func (.func 167) #[] #[.pointer (some ⟨w.heap.size, 0, none⟩), .pointer (some ⟨g, 0, none⟩)], .func (.func 168) #[.pointer (some ⟨lb, 0, none⟩)] #[]]
    generalize hw4 : w3.alloc (.cells #[.func (.func 167) #[] #[.pointer (some ⟨w.heap.size, 0, none⟩), .pointer (some ⟨g, 0, none⟩)], .func (.func 168) #[.pointer (some ⟨lb, 0, none⟩)] #[]] 53) = w4 at hb3 ⊢
    have hk4 : Kp NoB w3 w4 := by rw [← hw4]; exact (Kp.refl _ _).alloc _
    have hk := HK3.out.trans hk4 (fun _ _ q => q)
    have h3 := H.out.base1 hk
    have hlt := H.out.lt
    have hs2 := HS2.out
    refine ⟨by rw [hb3.cell]; rfl, enters_of Tryz.func167 (by kernel_rfl) rfl, ?_⟩
    have hcl4 := (hk.cell HLT.out (fun q => q)).trans HC.out
    refine (wseal1_q h3 v w.heap.size g (fun q => by have := hlt _ q; omega) HLB.out (fun q => by have := hlt _ q; omega) (by rw [HRR.out]; exact HB2.out.keep hk4 (fun q => q)) ((HBL3.out.keep hk4 (fun q => q)).cell 0) hcl4 (sm_mono HM.out (by omega))).mono ?_
    rintro e w5 ⟨rfl, h4⟩
    refine ⟨_, rfl, fun hx => ?_, fun hx => ?_⟩
    · unfold headS
      rw [runS_cons, stE0, if_neg hx]
      exact ⟨rfl, Dq.up h3 hk hlt h4⟩
    · have hs4 := hk.size
      refine ⟨by rw [(hb3.keep h4.kp (fun q => by have := hlt _ q; have := HK3.out.size; omega)).cell]; rfl, enters_of Tryz.func168 (by kernel_rfl) rfl, ?_⟩
      obtain ⟨S5, h5, hS5⟩ := h4.base
      refine (wsync_q h5 ((h4.kp.cell (Nat.lt_of_lt_of_le HLT.out hs4) HLB.out).trans hcl4) (sm_write _ _ _ (sm_mono HM.out (by omega)))).mono ?_
      rintro e w6 ⟨rfl, h6⟩
      have hz : (p.runS (headS nmWal v)) = (((p.write nmWal 0 (sealB v)).sync nmWal), (p.write nmWal 0 (sealB v)).syncE) := by
        unfold headS
        rw [runS_cons, stE0, if_pos hx, runS_cons, stE2, stP0, stP2]
        split
        · rename_i h0
          rw [runS_nil, h0]
        · rfl
      rw [hz]
      have h7 := Dq.up h3 hk hlt (Dq.tr (w0 := w4) h6 h4.kp hS5 h4.lt)
      exact ⟨_, rfl, fun _ => ⟨rfl, h7⟩, fun hx2 => ⟨hx2.symm, h7⟩⟩
  · rintro e w5 ⟨x, rfl, rfl, h4⟩
    have H4 := Lib.hid h4
    clear h4
    go_wp2_with fail
    go_ret
    exact ⟨rfl, H4.out⟩
end
end Go.Proofs.YtoeldmkbmnkhkaaGreat
/- The log: the bytes of a frame that is made; condition: a frame that may be. -/
namespace Go.Proofs.YtoeldmkbmnkhkaaGreat
open Go.RowKit

/-- the first i bytes of both numbers are there -/
def upB (f : Fr) (i : Nat) : List Int := (four f.n).take i ++ zeros (4 - i) ++ ((four f.en).take i ++ zeros (4 - i)) ++ zeros 312
theorem upB_all (f : Fr) : upB f 4 = (four f.n ++ four f.en ++ zeros 56) ++ zeros 256 := rfl
/-- in the midst of a frame's bytes -/
structure BtS (w : World) (f : Fr) (l : List Int) (W : World) : Prop where
  kp : Kp NoB w W
  b1 : Blk W w.heap.size 236 (fnL f).toArray
  b2 : Blk W (w.heap.size + 1) 5 (bytesV l)
theorem BtS.set_ {w : World} {f : Fr} {l : List Int} {W : World} (h : BtS w f l W) (i : Nat) (y : Int) : BtS w f (l.set i y) (W.setCell ⟨w.heap.size + 1, i, none⟩ (.int .u8 y)) := by
  refine ⟨h.kp.setCell (p := ⟨w.heap.size + 1, i, none⟩) (.inl (by show _ ≤ w.heap.size + 1; omega)) _, h.b1.far (p := ⟨w.heap.size + 1, i, none⟩) (by simp) _, ?_⟩
  have := h.b2.set_ i (.int .u8 y)
  rwa [bytesV_setJ] at this
theorem BtS.drew {w : World} {f : Fr} {l : List Int} {W : World} (h : BtS w f l W) : BtS w f l W.drew := ⟨h.kp.drew, h.b1, h.b2⟩
set_option maxRecDepth 100000 in
theorem BtS.copy {w : World} {f : Fr} {W : World} (h : BtS w f (upB f 4) W) (hf : FrOk f) : Kp NoB w (W.setCells (w.heap.size + 1) 64 (f.b.map (Value.int .u8))) ∧ Blk (W.setCells (w.heap.size + 1) 64 (f.b.map (Value.int .u8))) (w.heap.size + 1) 5 (bytesV (frB f)) := by
  refine ⟨Kp.setCells (.inl (by omega)) _ _ _ h.kp, ?_⟩
  have b := h.b2
  rw [upB_all] at b
  have := Blk.bytes (la := four f.n ++ four f.en ++ zeros 56) (lb := zeros 256) (ld := []) (lx := f.b) (by rw [List.append_nil]; exact b) 64 (by simp [four, zeros]) (by rw [hf.len]; simp [zeros])
  rw [List.append_nil] at this
  exact this
attribute [local go_sem ↓] conv64
attribute [local go_sem] size_setCells
end Go.Proofs.YtoeldmkbmnkhkaaGreat
/- The log: frames written behind those that count; condition: a log in memory on a disk. -/
namespace Go.Proofs.YtoeldmkbmnkhkaaGreat
open Go.RowKit

/-- made frames in memory -/
def FnsAt (w : World) (A : Option Addr) (n : Nat) (l : List Fr) : Prop := RowsC w A n 259 (l.map fnL)
theorem FnsAt.len {w : World} {A : Option Addr} {n : Nat} {l : List Fr} (h : FnsAt w A n l) : l.length = n := by have := h.1; simpa using this
theorem FnsAt.at_ {w : World} {A : Option Addr} {n : Nat} {l : List Fr} (h : FnsAt w A n l) (k : Nat) (hk : k < n) : ∃ g o, A = some ⟨g, o, none⟩ ∧ g < w.heap.size ∧ w.there g (o + k * 259) 259 ∧ readRow w g (o + k * 259) 259 = (fnL (l[k]'(by rw [h.len]; exact hk))).toArray := by
  have hkl : k < (l.map fnL).length := by have := h.1; omega
  obtain ⟨g, o, e, hg, hc⟩ := h.2.2 (by omega)
  have hl : ((l.map fnL)[k]).length = 259 := h.2.1 _ (List.getElem_mem hkl)
  have h2 : k * 259 + 259 ≤ n * 259 := by omega
  have ht : w.there g (o + k * 259) 259 := fun j hj => by
    obtain ⟨h5, h6⟩ := hc k hkl j hj
    refine ⟨?_, h6⟩
    rw [h5, List.getElem?_eq_getElem (by omega)]
    rfl
  refine ⟨g, o, e, hg, ht, ?_⟩
  unfold readRow
  refine congrArg List.toArray ?_
  apply List.ext_getElem
  · simp only [List.getElem_map] at hl
    simp [hl]
  · intro j h1 h3
    have hj : j < 259 := by simpa using h1
    simp only [List.getElem_map, List.getElem_range]
    rw [(hc k hkl j hj).1]
    simp only [List.getElem_map]
    rw [List.getElem?_eq_getElem (by simpa using h3)]
    rfl
theorem exLoadFr {w : World} {g : Nat} {t : TypeId} {FV : Array Value} (hb : Blk w g t FV) (hs : FV.size = 259) (ev : Operand → Value) {x : Operand} {ds : Option Tmp} {ty : TypeId} {ps : String} {af : Array Edge} {gd : Option (Nat × Bool)} (hx : ev x = .pointer (some ⟨g, 0, none⟩)) :
    (execOp ev ⟨ds, .load 236 x, ty, ps, af, gd⟩).run Tryz.prog w = .ok (.value (.agg FV)) w := by
  rw [loadFr w ev ds x ty ps af gd (by rw [hx]; exact hb.thereAll 259 hs), hx]
  show Result.ok (Next.value (.agg (readRow w g 0 259))) w = _
  rw [hb.readAll 259 hs]
section
variable {S : Nat → Prop} {w : World} {db lb : Nat} {p : Pl} {Hd : W4} {A : Option Addr} {c : Nat}
/-- the log's cells -/
theorem lg_hd {k0 : Nat} (h : Blk w lb 204 (lgC db Hd A k0 c)) : w.there lb 1 4 ∧ readRow w lb 1 4 = w4A Hd := ⟨h.there (by show 1 + 4 ≤ 6; omega), (show Blk w lb 204 ([Value.pointer (some ⟨db, 0, none⟩)] ++ (w4A Hd).toList ++ [Value.slice A k0 c]).toArray from h).read 1 4 rfl rfl⟩
attribute [local go_sem ↓] loadW4 storeW4
set_option maxRecDepth 100000 in
theorem wheal_q {k0 : Nat} (h : Dq S w w db p) (hl : Blk w lb 204 (lgC db Hd A k0 c)) (hlb : ¬ S lb) (hm : p.sm 40000) :
    Calls Tryz.prog 122 #[.pointer (some ⟨lb, 0, none⟩)] w fun e w' => e = .returned (.int .i64 (p.runS (headS nmWal Hd)).2) ∧ Dq S w w' db (p.runS (headS nmWal Hd)).1 := by
  have H := Lib.hid h
  have HM := Lib.hid hm
  have HLB := Lib.hid hlb
  obtain ⟨t0, r0⟩ := lg_hd hl
  have HC := Lib.hid (show w.cell? ⟨lb, 0, none⟩ = some (.pointer (some ⟨db, 0, none⟩)) from hl.cell 0)
  clear h hm hl hlb
  go_enter Tryz.func122, Tryz.ntmps122
  go_wp2_with fail
  refine (wseal_q H.out HC.out HLB.out Hd HM.out).mono ?_
  rintro e w4 ⟨rfl, h4⟩
  have H4 := Lib.hid h4
  clear h4
  go_wp2_with fail
  go_ret
  exact ⟨rfl, H4.out⟩
attribute [local go_sem ↓] loadFr storeFr allocFr
attribute [local go_sem] size_setCells
end
end Go.Proofs.YtoeldmkbmnkhkaaGreat
/- The log: the steps of a commit, all of them; condition: what the steps want lies in memory. -/
namespace Go.Proofs.YtoeldmkbmnkhkaaGreat
open Go.RowKit

/-- the steps made by 'steps' -/
theorem wall_steps {db g n cap : Nat} {t : TypeId} {K : (Nat → Prop) → World → Prop} (hK : Kept K) (l : List Stpr) (S : Nat → Prop) (w : World) (p : Pl) (hs : ∀ s ∈ l, StepC db K s.f s.a s.c s.R s.cost) (hl : l.length = n) (hn : n < 1099511627776)
    (hb : Blk w g t (l.map Stpr.v).toArray) (hS : ¬ S g) (h : Dq S w w db p) (hk : K S w) (hm : p.sm (costs l)) :
    Calls Tryz.prog 124 #[.slice (some ⟨g, 0, none⟩) n cap] w fun e w' => e = .returned (.int .i64 (seqR (l.map (·.R)) p).2) ∧ Dq S w w' db (seqR (l.map (·.R)) p).1 := by
  have hc := chain_steps (o := 0) hK l 0 S w p hs (fun j hj => by
    simp [hj]) hb hS h hk hm
  refine (wsteps_ok w g 0 n cap _ _ (by simpa using hl) hn hc).mono ?_
  rintro e w' ⟨x, rfl, rfl, h2⟩
  exact ⟨rfl, h2⟩
section
variable {S : Nat → Prop} {w : World} {db lb : Nat} {p : Pl} {Hd : W4} {A : Option Addr} {c : Nat}
attribute [local go_sem ↓] loadW4 storeW4
end
end Go.Proofs.YtoeldmkbmnkhkaaGreat
/- The log: pages changed together; condition: a disk, pages in memory. -/
namespace Go.Proofs.YtoeldmkbmnkhkaaGreat
open Go.RowKit

theorem wcount_rng {p : Pl} {fs : List Fr} (hok : ∀ f ∈ fs, FrOk f) (hj : p.jcount ≤ 4096) {m : Int} (hm : isMark fs m = true) : 0 ≤ wcount p fs m ∧ wcount p fs m ≤ 4096 := by
  rcases mark_cases fs m with rfl | q | q | ⟨i, hi, rfl⟩
  · unfold wcount; rw [if_pos rfl]; omega
  · unfold isMark at hm
    rw [decide_eq_false (by omega), decide_eq_false (by omega)] at hm
    cases hm
  · unfold isMark at hm
    rw [decide_eq_false (by omega), decide_eq_false (by omega)] at hm
    cases hm
  · rw [isMark_at fs i hi] at hm
    have h0 := of_decide_eq_true hm
    have h1 := (hok _ (List.getElem_mem hi)).e0
    unfold wcount
    rw [if_neg (by omega), show (((i + 1 : Nat) : Int)).toNat - 1 = i by omega, List.getElem?_eq_getElem hi]
    dsimp only
    omega
theorem jcount_le {S : Nat → Prop} {W0 w : World} {db : Nat} {p : Pl} (h : Dq S W0 w db p) : p.jcount ≤ 4096 := by
  have h1 : p.len nmDb ≤ 1048576 := by
    unfold Pl.len
    split
    · omega
    · exact h.seen_le nmDb
  unfold Pl.jcount
  omega
theorem zeroIntW (w : World) : (zeroValue 3).run Tryz.prog w = .ok (.int .i64 0) w := by kernel_rfl
theorem allocIntW (w : World) (ev : Operand → Value) (ds : Option Tmp) (ty : TypeId) (ps : String) (af : Array Edge) (g : Option (Nat × Bool)) :
    (execOp ev ⟨ds, .alloc 3, ty, ps, af, g⟩).run Tryz.prog w = .ok (.value (.pointer (some ⟨w.heap.size, 0, none⟩))) (w.alloc (.cells #[.int .i64 0] 3)) := by
  simp only [execOp, Instr.alloc, Sem.run_bind, zeroIntW, Result.andThen_ok]
  rfl
theorem stIntW {w : World} {g : Nat} {v0 : Value} (h : Blk w g 3 #[v0]) (ev : Operand → Value) {x y : Operand} {z : Int} {ty : TypeId} {ps : String} {af : Array Edge} {gd : Option (Nat × Bool)} (hx : ev x = .pointer (some ⟨g, 0, none⟩)) (hy : ev y = .int .i64 z) :
    (execOp ev ⟨none, .store 3 x y, ty, ps, af, gd⟩).run Tryz.prog w = .ok .skip (w.setCell ⟨g, 0, none⟩ (.int .i64 z)) := by
  have hc : w.cell? ⟨g, 0, none⟩ = some v0 := h.cell 0
  have hf : w.frozen? ⟨g, 0, none⟩ = false := h.frozen 0
  simp only [execOp, hx, hy]
  go_simp
section
variable {S : Nat → Prop} {w : World} {db : Nat} {p : Pl}
attribute [local go_sem ↓] loadPg storePg allocPg loadFr storeFr allocFr
attribute [local go_sem] size_setCells
end
end Go.Proofs.YtoeldmkbmnkhkaaGreat
/- The pages that are told have 256 bytes, and there are at most 4096; no condition. -/
namespace Go.Proofs.YtoeldmkbmnkhkaaGreat
open Go.RowKit

end Go.Proofs.YtoeldmkbmnkhkaaGreat
/- The log's frames gone over, where the body writes blocks of the caller's; condition: a log in memory. -/
namespace Go.Proofs.YtoeldmkbmnkhkaaGreat
open Go.RowKit Go.Shelf
attribute [local go_sem ↓] loadFrI
attribute [local go_sem] Oper.semAt_some
/-- all below n₀ but the blocks of X stays -/
def KX (X : Nat → Prop) (n₀ : Nat) (W W' : World) : Prop := W.heap.size ≤ W'.heap.size ∧ ∀ i, i < n₀ → ¬ X i → W'.heap[i]? = W.heap[i]?
theorem KX.refl (X : Nat → Prop) (n₀ : Nat) (W : World) : KX X n₀ W W := ⟨Nat.le_refl _, fun _ _ _ => rfl⟩
theorem KX.trans {X : Nat → Prop} {n₀ : Nat} {A B C : World} (h : KX X n₀ A B) (k : KX X n₀ B C) : KX X n₀ A C := ⟨Nat.le_trans h.1 k.1, fun i hi hx => (k.2 i hi hx).trans (h.2 i hi hx)⟩
theorem kX_b {X : Nat → Prop} {n₀ : Nat} {w : World} (hn : n₀ ≤ w.heap.size) (W : World) (l : Nat) (o o' : Obj) (hl : w.heap.size ≤ l) (_ : W.heap[l]? = some o) (_ : o.isCells = false) (_ : o.isWalk = false) : KX X n₀ W (W.putObj l o') :=
  ⟨by simp, fun i hi _ => World.putObj_heap_other (by omega)⟩
theorem Kp.toX {S X : Nat → Prop} {n₀ : Nat} {W W' : World} (k : Kp S W W') (hn : n₀ ≤ W.heap.size) (hS : ∀ i, S i → i < n₀ → X i) : KX X n₀ W W' := ⟨k.size, fun i hi hx => k.block i (by omega) (fun q => hx (hS i q hi))⟩
theorem Blk.keepX {X : Nat → Prop} {w w' : World} {g : Nat} {t : TypeId} {cs : Array Value} (h : Blk w g t cs) (k : KX X w.heap.size w w') (hx : ¬ X g) : Blk w' g t cs := (k.2 g h.lt hx).trans h
theorem LgS.keepX {X : Nat → Prop} {w w' : World} {db lb : Nat} {H : W4} {A : Option Addr} {c : Nat} {fs : List Fr} (h : LgS w db lb H A c fs) (k : KX X w.heap.size w w') (hl : ¬ X lb) (hf : ∀ g, A = some ⟨g, 0, none⟩ → ¬ X g) : LgS w' db lb H A c fs :=
  ⟨h.b.keepX k hl, ⟨h.o.1, h.o.2.elim .inl (fun ⟨g, cap, cur, e, hb, hg, r⟩ => .inr ⟨g, cap, cur, e, hb, (k.2 g (lt_of_heap hg) (hf g (by injection e with e1 _ _))).trans hg, r⟩)⟩, h.ok⟩
set_option maxRecDepth 100000 in
set_option maxHeartbeats 2000000 in
theorem up1_inX (X : Nat → Prop) (F : Fence) (n : Nat) (h7 : F.fn 180) (hro : F.round = none) (hn : 1 ≤ n) (l B C n₀ db lb : Nat) (H : W4) (A : Option Addr) (c : Nat) (fs : List Fr) (m : Nat) (hm : m ≤ fs.length)
    (J Jx : List Nat → World → Prop)
    (hY : ∀ pre (x : Nat) W, J pre W → pre.length < m → YieldAt F (n - 1) Tryz.prog l (encF fs m x) W fun e W' =>
      (e = .returned (.bool true) ∧ J (pre ++ [x]) W' ∧ KX X n₀ W W') ∨ (e = .returned (.bool false) ∧ Jx (pre ++ [x]) W'))
    (hXl : ¬ X lb) (hXB : ¬ X B) (hXC : ¬ X C) (hXf : ∀ g, A = some ⟨g, 0, none⟩ → ¬ X g) (w W : World) (hw : w.heap.size = n₀) (hL : LgS w db lb H A c fs) (hB : Blk w B 3 #[.int .i64 (m : Int)]) (hC : Blk w C 199 #[.pointer (some ⟨lb, 0, none⟩)]) (hBel : KX X n₀ w W) (h0 : J [] W) :
    CallsIn F n Tryz.prog 180 #[.func (.yield l) #[] #[], .pointer (some ⟨B, 0, none⟩), .pointer (some ⟨C, 0, none⟩)] W fun e W' => (∃ v, e = .returned v) ∧
      ((∃ ys, ys = List.range m ∧ J ys W') ∨ (∃ pre, (∃ k, k ≤ m ∧ pre = List.range k) ∧ Jx pre W')) := by
  subst hw
  have HL := Lib.hid hL
  have HB := Lib.hid hB
  have HC := Lib.hid hC
  have hlen := hL.len
  have c1 : W.cell? ⟨B, 0, none⟩ = some (.int .i64 (m : Int)) := (hB.keepX hBel hXB).cell 0
  have hw1 : IntKind.i64.wrap ((m : Int) - 1) = (m : Int) - 1 := by rw [IntKind.wrap_i64]; omega
  clear hL hB hC
  refine callsIn_of_wp Tryz.func180 rfl h7 ?_ hro
  simp only [Tryz.ntmps180, List.size_toArray, List.length_cons, List.length_nil, Nat.reduceAdd, Nat.reduceSub, Array.replicate_succ, Array.replicate_zero, List.push_toArray, List.append_toArray, List.nil_append, List.cons_append]
  gi_wp2
  gi_loopw [4] (fun i wr => ∃ k : Nat, k ≤ m ∧ i = .int .i64 ((m : Int) - 1 - (k : Int)) ∧ J (List.range k) wr ∧ KX X w.heap.size w wr)
    (fun i _ => (intOf i + 1).toNat)
  case atStart => exact ⟨0, Nat.zero_le _, by simp, h0, hBel⟩
  case round =>
    obtain ⟨k, hk, rfl, hJs, hnx⟩ := hrel
    by_cases hlt : k < m
    · have hl2 := HL.out.keepX hnx hXl hXf
      have c0 : wr.cell? ⟨C, 0, none⟩ = some (.pointer (some ⟨lb, 0, none⟩)) := (HC.out.keepX hnx hXC).cell 0
      have c5 := hl2.cl.2
      obtain ⟨q, hq⟩ : ∃ q : Nat, m - 1 - k = q := ⟨_, rfl⟩
      have hqi : (m : Int) - 1 - (k : Int) = (q : Int) := by omega
      rw [hqi]
      have hql : q < fs.length := by omega
      obtain ⟨g, hA, hth, hrd⟩ := hl2.row q hql
      subst hA
      obtain ⟨fn, tmps, assign, body, hy, hR⟩ := hY _ k wr hJs (by rw [List.length_range]; exact hlt)
      unfold encF at hy
      rw [hq] at hy
      obtain ⟨fv, hfv⟩ : ∃ fv, (frL (fs.getD q ⟨0, 0, []⟩)).toArray = fv := ⟨_, rfl⟩
      rw [hfv] at hrd hy
      clear hl2 hql
      gi_wp2
      refine hR.mono ?_
      rintro e W3 (⟨rfl, hJ3, hk3⟩ | ⟨rfl, hJx3⟩)
      · have hw2 : IntKind.i64.wrap ((q : Int) - 1) = (q : Int) - 1 := by rw [IntKind.wrap_i64]; omega
        gi_wp2
        go_roundw
        case rel => exact ⟨k + 1, by omega, by first | (congr 1; done) | (congr 1; omega), by rw [List.range_succ]; exact hJ3, hnx.trans hk3⟩
        case measure => first | (simp [intOf]; done) | (simp [intOf]; omega)
      · gi_wp2
        refine bodyPost_ret (results_none rfl _ _ _) rfl ?_
        exact ⟨⟨_, rfl⟩, .inr ⟨_, ⟨k + 1, by omega, by rw [List.range_succ]⟩, hJx3⟩⟩
    · obtain rfl : k = m := by omega
      have hqi : (k : Int) - 1 - (k : Int) = -1 := by omega
      rw [hqi]
      gi_wp2
      go_end0
      exact ⟨⟨_, rfl⟩, .inl ⟨_, rfl, hJs⟩⟩
theorem up_stopsX (X : Nat → Prop) (F : Fence) (n : Nat) (h7 : F.fn 180) (hro : F.round = none) (hn : 1 ≤ n) (B C db lb : Nat) (H : W4) (A : Option Addr) (c : Nat) (fs : List Fr) (m : Nat) (hm : m ≤ fs.length) (hXl : ¬ X lb) (hXB : ¬ X B) (hXC : ¬ X C) (hXf : ∀ g, A = some ⟨g, 0, none⟩ → ¬ X g) (w : World) (hL : LgS w db lb H A c fs) (hB : Blk w B 3 #[.int .i64 (m : Int)]) (hC : Blk w C 199 #[.pointer (some ⟨lb, 0, none⟩)]) :
    SeqStopsK F n Tryz.prog 180 #[.pointer (some ⟨B, 0, none⟩), .pointer (some ⟨C, 0, none⟩)] (encF fs m) (KX X w.heap.size) (fun ys => ys = List.range m)
      (fun pre => ∃ k, k ≤ m ∧ pre = List.range k) m w := fun l J Jx W hW _ _ hY h0 =>
  up1_inX X F n h7 hro hn l B C w.heap.size db lb H A c fs m hm J Jx hY hXl hXB hXC hXf w W rfl hL hB hC ⟨hW.size, fun i hi _ => hW.block i hi⟩ h0
end Go.Proofs.YtoeldmkbmnkhkaaGreat
/- The shelf's contract of slices.SortFunc at pages laid at this dump (as ShelfS, its names turned); no condition. -/
namespace Go.Proofs.YtoeldmkbmnkhkaaGreat
open Go.Shelf
def laySortP_ren : Go.Shelf.Ren := ⟨fun | 6 => 132 | 15 => 172 | 14 => 171 | 28 => 190 | 29 => 191 | 20 => 182 | 21 => 183 | 22 => 184 | 23 => 185 | 24 => 186 | 25 => 187 | 26 => 188 | 27 => 189 | 46 => 192 | 47 => 193 | 48 => 194 | 49 => 195 | 50 => 196 | 57 => 197 | n => n, fun | 22 => 149 | 24 => 208 | 25 => 217 | 3 => 3 | 39 => 31 | 0 => 0 | 53 => 67 | 55 => 175 | 4 => 4 | 46 => 263 | 45 => 262 | 50 => 267 | 5 => 5 | 9 => 9 | 66 => 271 | 70 => 275 | 76 => 277 | 77 => 278 | n => n, fun | n => n⟩
theorem laySortP : Go.Proofs.SlLaysF0.n6 Tryz.prog laySortP_ren := {
  mixed := by kernel_rfl
  f6 := ⟨Tryz.f132.name, by decide, Tryz.func132.trans (congrArg some (by kernel_rfl))⟩
  f14 := ⟨Tryz.f171.name, by decide, Tryz.func171.trans (congrArg some (by kernel_rfl))⟩
  f15 := Tryz.func172.trans (congrArg some (by kernel_rfl))
  f20 := ⟨Tryz.f182.name, by decide, Tryz.func182.trans (congrArg some (by kernel_rfl))⟩
  f21 := ⟨Tryz.f183.name, by decide, Tryz.func183.trans (congrArg some (by kernel_rfl))⟩
  f22 := ⟨Tryz.f184.name, by decide, Tryz.func184.trans (congrArg some (by kernel_rfl))⟩
  f23 := ⟨Tryz.f185.name, by decide, Tryz.func185.trans (congrArg some (by kernel_rfl))⟩
  f24 := ⟨Tryz.f186.name, by decide, Tryz.func186.trans (congrArg some (by kernel_rfl))⟩
  f25 := ⟨Tryz.f187.name, by decide, Tryz.func187.trans (congrArg some (by kernel_rfl))⟩
  f26 := ⟨Tryz.f188.name, by decide, Tryz.func188.trans (congrArg some (by kernel_rfl))⟩
  f27 := ⟨Tryz.f189.name, by decide, Tryz.func189.trans (congrArg some (by kernel_rfl))⟩
  f28 := Tryz.func190.trans (congrArg some (by kernel_rfl))
  f29 := Tryz.func191.trans (congrArg some (by kernel_rfl))
  f46 := ⟨Tryz.f192.name, by decide, Tryz.func192.trans (congrArg some (by kernel_rfl))⟩
  f47 := Tryz.func193.trans (congrArg some (by kernel_rfl))
  f48 := Tryz.func194.trans (congrArg some (by kernel_rfl))
  f49 := ⟨Tryz.f195.name, by decide, Tryz.func195.trans (congrArg some (by kernel_rfl))⟩
  f50 := ⟨Tryz.f196.name, by decide, Tryz.func196.trans (congrArg some (by kernel_rfl))⟩
  f57 := ⟨Tryz.f197.name, by decide, Tryz.func197.trans (congrArg some (by kernel_rfl))⟩
  t0 := Tryz.underlying0
  a0 := Tryz.isAgg0
  z0 := Tryz.sizeOf0
  v0 := Tryz.zeroValue0
  t3 := Tryz.underlying3
  a3 := Tryz.isAgg3
  z3 := Tryz.sizeOf3
  v3 := Tryz.zeroValue3
  t4 := Tryz.underlying4
  a4 := Tryz.isAgg4
  z4 := Tryz.sizeOf4
  v4 := Tryz.zeroValue4
  t5 := Tryz.underlying5
  a5 := Tryz.isAgg5
  z5 := Tryz.sizeOf5
  v5 := Tryz.zeroValue5
  t9 := Tryz.underlying9
  a9 := Tryz.isAgg9
  z9 := Tryz.sizeOf9
  v9 := Tryz.zeroValue9
  t22 := Tryz.underlying149
  a22 := Tryz.isAgg149
  z22 := Tryz.sizeOf149
  v22 := Tryz.zeroValue149
  t25 := Tryz.underlying217
  a25 := Tryz.isAgg217
  z25 := Tryz.sizeOf217
  v25 := Tryz.zeroValue217
  t39 := Tryz.underlying31
  a39 := Tryz.isAgg31
  z39 := Tryz.sizeOf31
  v39 := Tryz.zeroValue31
  t45 := Tryz.underlying262
  a45 := Tryz.isAgg262
  z45 := Tryz.sizeOf262
  v45 := Tryz.zeroValue262
  t46 := Tryz.underlying263
  a46 := Tryz.isAgg263
  z46 := Tryz.sizeOf263
  v46 := Tryz.zeroValue263
  t50 := Tryz.underlying267
  a50 := Tryz.isAgg267
  z50 := Tryz.sizeOf267
  v50 := Tryz.zeroValue267
  t53 := Tryz.underlying67
  a53 := Tryz.isAgg67
  z53 := Tryz.sizeOf67
  v53 := Tryz.zeroValue67
  t55 := Tryz.underlying175
  a55 := Tryz.isAgg175
  z55 := Tryz.sizeOf175
  v55 := Tryz.zeroValue175
  t66 := Tryz.underlying271
  a66 := Tryz.isAgg271
  z66 := Tryz.sizeOf271
  v66 := Tryz.zeroValue271
  t70 := Tryz.underlying275
  a70 := Tryz.isAgg275
  z70 := Tryz.sizeOf275
  v70 := Tryz.zeroValue275
  t76 := Tryz.underlying277
  a76 := Tryz.isAgg277
  z76 := Tryz.sizeOf277
  v76 := Tryz.zeroValue277
  t77 := Tryz.underlying278
  a77 := Tryz.isAgg278
  z77 := Tryz.sizeOf278
  v77 := Tryz.zeroValue278 }
end Go.Proofs.YtoeldmkbmnkhkaaGreat
/- slices.SortFunc at pages, by their numbers; condition: less than 2^62 of them. -/
namespace Go.Proofs.YtoeldmkbmnkhkaaGreat
open Go.RowKit Go.Lib Go.Sort

abbrev PgE := {x : Pg // x.b.length = 256 ∧ 0 ≤ x.n ∧ x.n ≤ 4096}
instance : Inhabited PgE := ⟨⟨⟨0, zeros 256⟩, List.length_replicate .., by decide, by decide⟩⟩
def encPg (x : PgE) : List Value := pgL x.1
def cfPg (x y : PgE) : Int := x.1.n - y.1.n
theorem encPg_len (x : PgE) : (encPg x).length = 257 := by
  unfold encPg pgL
  rw [List.length_cons, List.length_map, x.2.1]
theorem encPg_one (x : PgE) : ∀ v ∈ encPg x, v.oneCell' = true := by
  intro v hv
  rcases List.mem_cons.1 hv with rfl | hv
  · rfl
  · exact u8_one _ v hv
theorem swoPg : Sort.SWO (ltOf cfPg) where
  irrefl x := by unfold ltOf cfPg; exact decide_eq_false (by omega)
  trans x y z h1 h2 := by
    unfold ltOf cfPg at *
    have := of_decide_eq_true h1
    have := of_decide_eq_true h2
    exact decide_eq_true (by omega)
  ntrans x y z h1 h2 := by
    unfold ltOf cfPg at *
    have := of_decide_eq_false h1
    have := of_decide_eq_false h2
    exact decide_eq_false (by omega)
theorem flatMap_get {α : Type} [Inhabited α] (enc : α → List Value) (k : Nat) (hk : ∀ x, (enc x).length = k) (k0 : 0 < k) : ∀ (l : List α) (t : Nat), t < l.length * k → (l.flatMap enc)[t]? = (enc l[t / k]!)[t % k]?
  | [], t, h => by simp at h
  | x :: r, t, h => by
    rw [List.flatMap_cons]
    by_cases ht : t < k
    · rw [List.getElem?_append_left (by rw [hk]; exact ht), Nat.div_eq_of_lt ht, Nat.mod_eq_of_lt ht]
      rfl
    · rw [List.length_cons, Nat.succ_mul] at h
      rw [List.getElem?_append_right (by rw [hk]; omega), hk, flatMap_get enc k hk k0 r (t - k) (by omega)]
      have e1 : t / k = (t - k) / k + 1 := by
        have := Nat.div_eq_sub_div k0 (show k ≤ t by omega)
        omega
      have e2 : t % k = (t - k) % k := Nat.mod_eq_sub_mod (by omega)
      rw [e1, e2]
      rfl
theorem flatK_list {α : Type} [Inhabited α] (enc : α → List Value) (k : Nat) (hk : ∀ x, (enc x).length = k) (k0 : 0 < k) (d : Array α) : (flatK enc k d).toList = d.toList.flatMap enc := by
  have hl : (d.toList.flatMap enc).length = d.size * k := by
    rw [List.length_flatMap]
    have : d.toList.map (fun a => (enc a).length) = List.replicate d.size k := by
      rw [List.eq_replicate_iff]
      exact ⟨by simp, fun b hb => by obtain ⟨x, _, rfl⟩ := List.mem_map.1 hb; exact hk x⟩
    rw [this, List.sum_replicate_nat]
  apply List.ext_getElem?
  intro t
  by_cases h : t < d.size * k
  · rw [flatMap_get enc k hk k0 _ t (by simpa using h), Array.getElem?_toList, Array.getElem?_eq_getElem (by simpa using h)]
    have h1 := get_flatK enc k d t h
    rw [getElem!_pos (flatK enc k d) t (by simpa using h)] at h1
    have hq : t / k < d.size := Nat.div_lt_of_lt_mul (by rw [Nat.mul_comm]; exact h)
    have h3 : d.toList[t / k]! = d[t / k]! := by rw [getElem!_pos d.toList (t / k) (by simpa using hq), getElem!_pos d (t / k) hq, Array.getElem_toList]
    rw [h1, h3]
    have h4 : t % k < (enc d[t / k]!).length := by rw [hk]; exact Nat.mod_lt _ k0
    rw [getElem!_pos (enc d[t / k]!) (t % k) h4, List.getElem?_eq_getElem h4]
  · rw [List.getElem?_eq_none (by simpa using h), List.getElem?_eq_none (by rw [hl]; omega)]
set_option maxRecDepth 100000 in
theorem cmp_q (W : World) (x y : PgE) : Calls Tryz.prog 158 #[.agg (encPg x).toArray, .agg (encPg y).toArray] W fun e w' => e = .returned (.int .i64 (cfPg x y)) ∧ w' = (W.alloc (.cells (encPg x).toArray 208)).alloc (.cells (encPg y).toArray 208) := by
  have hx := x.2.2
  have hy := y.2.2
  have c0 : ((W.alloc (.cells (encPg x).toArray 208)).alloc (.cells (encPg y).toArray 208)).cell? ⟨W.heap.size, 0, none⟩ = some (.int .i64 x.1.n) := by
    rw [((Blk.new W 208 (encPg x).toArray).alloc _).cell]; rfl
  have c1 : ((W.alloc (.cells (encPg x).toArray 208)).alloc (.cells (encPg y).toArray 208)).cell? ⟨W.heap.size + 1, 0, none⟩ = some (.int .i64 y.1.n) := by
    rw [(Blk.newAt (W.alloc (.cells (encPg x).toArray 208)) 208 (encPg y).toArray (W.heap.size + 1) (by simp)).cell]; rfl
  obtain ⟨CX, hCX⟩ : ∃ CX, (encPg x).toArray = CX := ⟨_, rfl⟩
  obtain ⟨CY, hCY⟩ : ∃ CY, (encPg y).toArray = CY := ⟨_, rfl⟩
  rw [hCX, hCY] at c0 c1 ⊢
  have hcf : cfPg x y = x.1.n - y.1.n := rfl
  rw [hcf]
  generalize x.1.n = a at *
  generalize y.1.n = b at *
  have hw : IntKind.i64.wrap (a - b) = a - b := by rw [IntKind.wrap_i64]; omega
  clear hCX hCY hcf
  go_enter Tryz.func158, Tryz.ntmps158
  go_wp2_with fail
  go_ret
  exact ⟨rfl, rfl⟩
theorem grow_kp {S : Nat → Prop} {a w : World} (h : Kp S a w) (os : Array Obj) : Kp S a (Sort.grow w os) :=
  ⟨h.os, h.tape, h.output, by have := h.size; unfold Sort.grow; simp; omega, fun i hi hn => by
    have h1 := h.block i hi hn
    have h2 := h.size
    rw [← h1]
    show (w.heap ++ os)[i]? = _
    rw [Array.getElem?_append_left (by omega)]⟩
theorem sort_pgs (w : World) (base : Nat) (A : Option Addr) (n cap : Nat) (l : List Pg) (hn : l.length = n) (hown : w.ownsRow base 208 257 (.slice A n cap) n (pgsCells l)) (hl : n < 4611686018427387904) (hok : ∀ x ∈ l, x.b.length = 256 ∧ 0 ≤ x.n ∧ x.n ≤ 4096) :
    Calls Tryz.prog 132 #[.slice A n cap, .func (.func 158) #[] #[]] w fun e w' => e = .returned (.tuple #[]) ∧ ∃ l', l'.Perm l ∧ (l'.Pairwise fun a b => ¬ b.n < a.n) ∧ w'.ownsRow base 208 257 (.slice A n cap) n (pgsCells l') ∧ Kp (fun b => (Value.slice A n cap).ownBlock = some b) w w' := by
  subst hn
  by_cases h0 : l = []
  · subst h0
    have h := AnyF.slices_SortFunc_none laySortP A cap (.func (.func 158) #[] #[]) w
    refine (show Calls Tryz.prog 132 _ w _ from h).mono ?_
    rintro e w' ⟨rfl, rfl⟩
    exact ⟨rfl, [], List.Perm.nil, List.Pairwise.nil, hown, Kp.refl _ _⟩
  · have hpos : 0 < l.length := List.length_pos_iff.2 h0
    obtain ⟨hlen, hor⟩ := hown
    rcases hor with ⟨_, q⟩ | ⟨g, cap', cur, hv, hb, hg, h1, h2, h3, h4⟩
    · omega
    · injection hv with e1 e2 e3
      subst e1 e3
      obtain ⟨d, hd⟩ : ∃ d : List PgE, d.map (·.1) = l := ⟨l.pmap Subtype.mk hok, by rw [List.map_pmap]; simp⟩
      have hdl : d.length = l.length := by rw [← hd, List.length_map]
      have hfm : ∀ e : List PgE, e.flatMap encPg = pgsCells (e.map (·.1)) := fun e => by
        unfold pgsCells encPg
        rw [List.flatMap_map]
      have hcells : (flatK encPg 257 d.toArray).toList = pgsCells l := by
        rw [flatK_list encPg 257 encPg_len (by omega), ← hd, ← hfm]
      have hsz : (flatK encPg 257 d.toArray).size = l.length * 257 := by rw [size_flatK]; simp [hdl]
      have hblk : Blk w g 208 cur := hg
      have hH : Sort.HoldsK encPg 257 w g 0 d.toArray := fun j hj => by
        refine ⟨?_, hblk.frozen _⟩
        have hj' : j < l.length * 257 := by rw [← hsz]; exact hj
        have h5 : (cur.toList.take (l.length * 257))[j]? = (pgsCells l)[j]? := by rw [h4]
        rw [List.getElem?_take, if_pos hj', Array.getElem?_toList] at h5
        rw [Nat.zero_add, hblk.cell, h5, ← hcells, Array.getElem?_toList, getElem!_pos _ j hj, Array.getElem?_eq_getElem hj]
        rfl
      have eg : ∀ args w, (callFunc 158 args).run Tryz.prog w = .ok (.enter 158 args) w := enters_of Tryz.func158 (by kernel_rfl) rfl
      have hcr : CmpLays Tryz.prog 158 #[] encPg 257 cfPg g 0 d.toArray.size w := fun m os dk hs x y => by
        refine (cmp_q (sortWorldK encPg 257 w g 0 m dk os) x y).mono ?_
        rintro e w' ⟨rfl, rfl⟩
        refine ⟨rfl, 0, #[.cells (encPg x).toArray 208, .cells (encPg y).toArray 208], ?_⟩
        rw [alloc_eq_grow, alloc_eq_grow, grow_grow]
        rfl
      have h := AnyQ.slices_SortFunc laySortP 257 Tryz.isAgg208 Tryz.sizeOf208 encPg encPg_len encPg_one cfPg swoPg 158 #[] g 0 cap d.toArray w eg hcr hH hblk.lt (by simpa [hdl] using hl)
      rw [show d.toArray.size = l.length by simp [hdl]] at h
      refine (show Calls Tryz.prog 132 #[.slice (some ⟨g, 0, none⟩) l.length cap, .func (.func 158) #[] #[]] w _ from h).mono ?_
      rintro e w' ⟨rfl, d', m, os, hp, hso, rfl⟩
      have hs' : d'.size = l.length := by rw [hp.1]; simp [hdl]
      have hperm : d'.toList.Perm d := by
        have h5 := hp.2.2
        rw [Array.toList_extract, Array.toList_extract] at h5
        simpa [hs', hdl, List.extract, List.take_of_length_le] using h5
      refine ⟨rfl, d'.toList.map (·.1), by rw [← hd]; exact hperm.map _, ?_, ?_, ?_⟩
      · rw [List.pairwise_map, List.pairwise_iff_getElem]
        intro i j hi hj hij
        have h5 := hso i j (Nat.zero_le _) hij (by rw [← hs']; simpa using hj)
        rw [getElem!_pos d' i (by simpa using hi), getElem!_pos d' j (by simpa using hj)] at h5
        unfold ltOf cfPg at h5
        have h6 := of_decide_eq_false h5
        simp only [Array.getElem_toList]
        omega
      · have hfl : (flatK encPg 257 d').toList = pgsCells (d'.toList.map (·.1)) := by rw [flatK_list encPg 257 encPg_len (by omega), hfm]
        have hsl : (pgsCells (d'.toList.map (·.1))).length = l.length * 257 := by rw [← hfl, Array.length_toList, size_flatK, hs']
        have hw : sortWorldK encPg 257 w g 0 m d' os = Sort.grow ((w.drewN m).setCells g 0 ((flatK encPg 257 d').toList.map id)) os := Lib.sorted_world id w g 0 m (flatK encPg 257 d.toArray) (flatK encPg 257 d').toList os hH (by rw [Array.length_toList, size_flatK, hs', hsz])
        rw [hw, List.map_id, hfl]
        have hc0 : cur = (pgsCells l ++ cur.toList.drop (l.length * 257)).toArray := by rw [← h4, List.take_append_drop]
        have hpl : (pgsCells l).length = l.length * 257 := by rw [← hcells, Array.length_toList, hsz]
        have hb2 : Blk (w.drewN m) g 208 ([] ++ pgsCells l ++ cur.toList.drop (l.length * 257)).toArray := by rw [List.nil_append, ← hc0]; exact hblk
        have hb3 := Blk.cellsL (xs := pgsCells (d'.toList.map (·.1))) hb2 0 rfl (by rw [hsl, hpl])
        refine ⟨hsl, .inr ⟨g, cap, _, rfl, hb, hb3.keep (grow_kp (Kp.refl NoB _) os) (fun q => q), h1, h2, ?_, ?_⟩⟩
        · simp only [List.size_toArray, List.length_append, hsl, List.nil_append, List.length_drop, Array.length_toList]
          omega
        · simp only [List.nil_append]
          rw [List.take_append_of_le_length (by rw [hsl]; exact Nat.le_refl _), List.take_of_length_le (by rw [hsl]; exact Nat.le_refl _)]
      · have hfl : (flatK encPg 257 d').toList = pgsCells (d'.toList.map (·.1)) := by rw [flatK_list encPg 257 encPg_len (by omega), hfm]
        have hw : sortWorldK encPg 257 w g 0 m d' os = Sort.grow ((w.drewN m).setCells g 0 ((flatK encPg 257 d').toList.map id)) os := Lib.sorted_world id w g 0 m (flatK encPg 257 d.toArray) (flatK encPg 257 d').toList os hH (by rw [Array.length_toList, size_flatK, hs', hsz])
        rw [hw]
        exact grow_kp (Kp.setCells (S := fun b => (Value.slice (some ⟨g, 0, none⟩) l.length cap).ownBlock = some b) (g := g) (.inr rfl) _ _ _ ((Kp.refl _ w).drewN m)) os
end Go.Proofs.YtoeldmkbmnkhkaaGreat
