/- LocksPlay: what holds in the midst of a round; no condition. -/
import Derived.Test.YtmkhhjpfchaopaaPlayB
namespace Go.Proofs.Ytmkhhjpfchaopaa
open Go.RowKit

/-- in the midst of a round, the reference's two tables being the cells L, its copy the cells cs -/
structure Mid3 (w : World) (g3 g4 s : Nat) (arr : Array Value) (L : List Value) (pa po : Option Addr) (ia io : Bool) (ha ho : List Int) (b6 b10 : Nat) (d a c l : Int) (cs : Array Value) (wa : World) : Prop where
  kp : Kp NoB w wa
  g3w : w.heap.size ≤ g3
  g4w : w.heap.size ≤ g4
  b3 : Blk wa g3 26 arr
  s3 : arr[s]? = some (.pointer pa)
  b4 : Blk wa g4 30 L.toArray
  ta : TP wa pa ia ha
  tO : TP wa po io ho
  ra : Rng ha
  ro : Rng ho
  fa : ∀ b, pa = some ⟨b, 0, none⟩ → w.heap.size ≤ b ∧ po ≠ some ⟨b, 0, none⟩
  fo : ∀ b, po = some ⟨b, 0, none⟩ → w.heap.size ≤ b
  x6 : Blk wa b6 32 #[.int .i64 d, .int .i64 a, .int .i64 c, .int .i64 l]
  x10 : Blk wa b10 29 cs
  l10 : w.heap.size ≤ b10
theorem Mid.to3 {w : World} {g3 g4 s : Nat} {arr : Array Value} {xa xd : List Value} {pa po : Option Addr} {ia io : Bool} {ha ho : List Int} {b6 b10 : Nat} {d a c l : Int} {wa : World} (h : Mid w g3 g4 s arr xa xd pa po ia io ha ho b6 b10 d a c l ha wa) : Mid3 w g3 g4 s arr (xa ++ refL ia ha ++ xd) pa po ia io ha ho b6 b10 d a c l (refCells ia ha) wa :=
  ⟨h.pi.kp, h.pi.g3w, h.pi.g4w, h.pi.b3, h.pi.s3, h.pi.b4, h.pi.ta, h.pi.tO, h.pi.ra, h.pi.ro, h.pi.fa, h.pi.fo, h.x6, h.x10, h.l10⟩
theorem TP.setCell {w : World} {p : Option Addr} {is : Bool} {hs : List Int} {g : Nat} {t : TypeId} {cs : Array Value} (h : TP w p is hs) (hb : Blk w g t cs) (ht : t ≠ 46) (o : Nat) (v : Value) : TP (w.setCell ⟨g, o, none⟩ v) p is hs :=
  h.keep (S := OnB g) (Kp.setCell (S := OnB g) (p := ⟨g, o, none⟩) (Kp.refl _ _) (.inr rfl) v) (fun b hb' e => by unfold OnB at e; subst e; exact h.ne hb ht hb')
theorem TP.setRow {w : World} {p : Option Addr} {is : Bool} {hs : List Int} {g : Nat} {t : TypeId} {cs : Array Value} (h : TP w p is hs) (hb : Blk w g t cs) (ht : t ≠ 46) (cs' : Array Value) : TP (w.setRow g cs') p is hs :=
  h.keep (S := OnB g) (Kp.setRow (S := OnB g) (Kp.refl _ _) (.inr rfl) cs') (fun b hb' e => by unfold OnB at e; subst e; exact h.ne hb ht hb')
theorem TP.lt {w : World} {b : Nat} {is : Bool} {hs : List Int} (h : TP w (some ⟨b, 0, none⟩) is hs) : b < w.heap.size := by
  rcases h with ⟨q, _⟩ | ⟨b', q, _, hT⟩
  · cases q
  · injection q with q; injection q with q; subst q; exact hT.lt
theorem Rng.zeros : Rng (List.replicate 8 0) := by
  intro o
  rw [List.getElem?_replicate]
  split <;> simp
/-- a new table in place s -/
theorem Mid3.new {w : World} {g3 g4 s : Nat} {arr : Array Value} {L : List Value} {pa po : Option Addr} {ia io : Bool} {ha ho : List Int} {b6 b10 : Nat} {d a c l : Int} {cs : Array Value} {wa w2 : World} (h : Mid3 w g3 g4 s arr L pa po ia io ha ho b6 b10 d a c l cs wa) (k : Kp NoB wa w2) (hT : Tab w2 wa.heap.size (List.replicate 8 0)) (arr' : Array Value) (he : arr.setIfInBounds s (.pointer (some ⟨wa.heap.size, 0, none⟩)) = arr') :
    Mid3 w g3 g4 s arr' L (some ⟨wa.heap.size, 0, none⟩) po true io (List.replicate 8 0) ho b6 b10 d a c l cs (w2.setCell ⟨g3, s, none⟩ (.pointer (some ⟨wa.heap.size, 0, none⟩))) := by
  subst he
  have hs : s < arr.size := (Array.getElem?_eq_some_iff.1 h.s3).1
  have hb3 : Blk w2 g3 26 arr := h.b3.keep k (fun q => q)
  refine ⟨(h.kp.trans k (fun _ _ q => q)).setCell (p := ⟨g3, s, none⟩) (.inl h.g3w) _, h.g3w, h.g4w, hb3.set_ _ _, by simp [hs], (h.b4.keep k (fun q => q)).far (p := ⟨g3, s, none⟩) (h.b4.ne_ h.b3 (by decide)) _, TP.setCell (.inr ⟨_, rfl, rfl, hT⟩) hb3 (by decide) _ _, (h.tO.keep k (fun _ _ q => q)).setCell hb3 (by decide) _ _, Rng.zeros, h.ro, ?_, h.fo, (h.x6.keep k (fun q => q)).far (p := ⟨g3, s, none⟩) (h.x6.ne_ h.b3 (by decide)) _, (h.x10.keep k (fun q => q)).far (p := ⟨g3, s, none⟩) (h.x10.ne_ h.b3 (by decide)) _, h.l10⟩
  intro b hb
  injection hb with hb
  injection hb with hb
  subst hb
  refine ⟨h.kp.size, fun e => ?_⟩
  subst e
  have := h.tO.lt
  omega
theorem copy_any (w : World) (tp : Option Addr) (is : Bool) (hs : List Int) (h : TP w tp is hs) : Calls Try.prog 11 #[.pointer tp] w fun e w' => ∃ p, e = .returned (.pointer p) ∧ TP w' p is hs ∧ Kp NoB w w' ∧ (∀ b, p = some ⟨b, 0, none⟩ → b = w.heap.size) := by
  rcases h with ⟨rfl, rfl, rfl⟩ | ⟨b, rfl, rfl, hT⟩
  · exact (copy_nil w).mono fun _ w' q => ⟨none, q.1, .inl ⟨rfl, rfl, rfl⟩, by rw [← q.2]; exact Kp.refl _ _, by simp⟩
  · exact (copy_ok w b hs hT).mono fun _ w' q => ⟨_, q.1, .inr ⟨_, rfl, rfl, q.2.1⟩, q.2.2, fun b hb => by injection hb with hb; injection hb with hb; exact hb.symm⟩
/-- a copy of the table a in the other place -/
theorem Mid3.copy {w : World} {g3 g4 s : Nat} {arr : Array Value} {L : List Value} {pa po : Option Addr} {ia io : Bool} {ha ho : List Int} {b6 b10 : Nat} {d a c l : Int} {cs : Array Value} {wa w2 : World} (h : Mid3 w g3 g4 s arr L pa po ia io ha ho b6 b10 d a c l cs wa) {p : Option Addr} (k : Kp NoB wa w2) (hT : TP w2 p ia ha) (hp : ∀ b, p = some ⟨b, 0, none⟩ → b = wa.heap.size) (o : Nat) (hso : o ≠ s) (arr' : Array Value) (he : arr.setIfInBounds o (.pointer p) = arr') :
    Mid3 w g3 g4 s arr' L pa p ia ia ha ha b6 b10 d a c l cs (w2.setCell ⟨g3, o, none⟩ (.pointer p)) := by
  subst he
  have hb3 : Blk w2 g3 26 arr := h.b3.keep k (fun q => q)
  refine ⟨(h.kp.trans k (fun _ _ q => q)).setCell (p := ⟨g3, o, none⟩) (.inl h.g3w) _, h.g3w, h.g4w, hb3.set_ _ _, by rw [Array.getElem?_setIfInBounds_ne hso]; exact h.s3, (h.b4.keep k (fun q => q)).far (p := ⟨g3, o, none⟩) (h.b4.ne_ h.b3 (by decide)) _, (h.ta.keep k (fun _ _ q => q)).setCell hb3 (by decide) _ _, hT.setCell hb3 (by decide) _ _, h.ra, h.ra, ?_, ?_, (h.x6.keep k (fun q => q)).far (p := ⟨g3, o, none⟩) (h.x6.ne_ h.b3 (by decide)) _, (h.x10.keep k (fun q => q)).far (p := ⟨g3, o, none⟩) (h.x10.ne_ h.b3 (by decide)) _, h.l10⟩
  · intro b hb
    refine ⟨(h.fa b hb).1, fun e => ?_⟩
    have := hp b e
    subst hb
    have := h.ta.lt
    omega
  · intro b hb
    rw [hp b hb]
    exact h.kp.size
theorem Mid3.row10 {w : World} {g3 g4 s : Nat} {arr : Array Value} {L : List Value} {pa po : Option Addr} {ia io : Bool} {ha ho : List Int} {b6 b10 : Nat} {d a c l : Int} {cs : Array Value} {wa : World} (h : Mid3 w g3 g4 s arr L pa po ia io ha ho b6 b10 d a c l cs wa) (cs' : Array Value) : Mid3 w g3 g4 s arr L pa po ia io ha ho b6 b10 d a c l cs' (wa.setRow b10 cs') :=
  ⟨h.kp.setRow (.inl h.l10) _, h.g3w, h.g4w, h.b3.farRow (h.b3.ne_ h.x10 (by decide)) _, h.s3, h.b4.farRow (h.b4.ne_ h.x10 (by decide)) _, h.ta.setRow h.x10 (by decide) _, h.tO.setRow h.x10 (by decide) _, h.ra, h.ro, h.fa, h.fo, h.x6.farRow (h.x6.ne_ h.x10 (by decide)) _, h.x10.row _, h.l10⟩
/-- nine cells of the reference's tables written -/
theorem Mid3.cells {w : World} {g3 g4 s : Nat} {arr : Array Value} {L : List Value} {pa po : Option Addr} {ia io : Bool} {ha ho : List Int} {b6 b10 : Nat} {d a c l : Int} {cs : Array Value} {wa : World} (h : Mid3 w g3 g4 s arr L pa po ia io ha ho b6 b10 d a c l cs wa) (xa xb xd xs : List Value) (hL : L = xa ++ xb ++ xd) (o : Nat) (ho' : xa.length = o) (hx : xb.length = xs.length) : Mid3 w g3 g4 s arr (xa ++ xs ++ xd) pa po ia io ha ho b6 b10 d a c l cs (wa.setCells g4 o xs) := by
  subst hL
  exact ⟨Kp.setCells (.inl h.g4w) _ _ _ h.kp, h.g3w, h.g4w, h.b3.farCells (h.b3.ne_ h.b4 (by decide)) _ _ _, h.s3, Blk.cellsL h.b4 o ho' hx, h.ta.setCells h.b4 (by decide) _ _, h.tO.setCells h.b4 (by decide) _ _, h.ra, h.ro, h.fa, h.fo, h.x6.farCells (h.x6.ne_ h.b4 (by decide)) _ _ _, h.x10.farCells (h.x10.ne_ h.b4 (by decide)) _ _ _, h.l10⟩
theorem Mid3.fin {w : World} {g3 g4 s : Nat} {arr : Array Value} {L : List Value} {pa po : Option Addr} {ia io : Bool} {ha ho : List Int} {b6 b10 : Nat} {d a c l : Int} {cs : Array Value} {wa : World} (h : Mid3 w g3 g4 s arr L pa po ia io ha ho b6 b10 d a c l cs wa) (xa xd : List Value) (hL : L = xa ++ refL ia ha ++ xd) (hx : xa.length = s * 9) : Fin w g3 g4 s arr xa xd pa po ia io ha ho b6 d a c l wa := by
  subst hL
  exact ⟨⟨h.kp, h.g3w, h.g4w, h.b3, h.s3, h.b4, hx, h.ta, h.tO, h.ra, h.ro, h.fa, h.fo⟩, h.x6⟩
end Go.Proofs.Ytmkhhjpfchaopaa
