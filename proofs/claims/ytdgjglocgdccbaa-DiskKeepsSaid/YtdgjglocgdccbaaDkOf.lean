/- The stand-in disk: the plain state behind a file that is put; no condition. -/
import Derived.Test.YtdgjglocgdccbaaDkGrow
namespace Go.Proofs.Ytdgjglocgdccbaa
open Go.RowKit

theorem seenOf_put (fs : List Fe) (e : Fe) : seenOf (putF fs e) = upd (seenOf fs) e.nm e.seen := by
  funext t
  unfold seenOf upd
  rw [putF_find]
  by_cases h : t = e.nm
  · subst h; simp
  · rw [if_neg h, if_neg (fun q => h (kOf_inj q).symm)]
theorem keptOf_put (fs : List Fe) (e : Fe) : keptOf (putF fs e) = upd (keptOf fs) e.nm e.kept := by
  funext t
  unfold keptOf upd
  rw [putF_find]
  by_cases h : t = e.nm
  · subst h; simp
  · rw [if_neg h, if_neg (fun q => h (kOf_inj q).symm)]
theorem seenOf_cons (y : Fe) (r : List Fe) (s : ByteArray) : seenOf (y :: r) s = if kOf y.nm = kOf s then y.seen else seenOf r s := by
  unfold seenOf findF
  by_cases h : kOf y.nm = kOf s <;> simp [h, List.find?_cons]
theorem keptOf_cons (y : Fe) (r : List Fe) (s : ByteArray) : keptOf (y :: r) s = if kOf y.nm = kOf s then y.kept else keptOf r s := by
  unfold keptOf findF
  by_cases h : kOf y.nm = kOf s <;> simp [h, List.find?_cons]
theorem allSum_put (fs : List Fe) (e : Fe) : ((allSum (putF fs e) : Nat) : Int) = (allSum fs : Nat) - (seenOf fs e.nm).length + e.seen.length := by
  induction fs with
  | nil => simp [putF, allSum, seenOf, findF]
  | cons y r ih =>
    rw [seenOf_cons]
    unfold putF
    by_cases h : kOf y.nm = kOf e.nm
    · rw [if_pos h, if_pos h]
      simp only [allSum, List.map_cons, List.sum_cons]
      omega
    · rw [if_neg h, if_neg h]
      simp only [allSum, List.map_cons, List.sum_cons] at ih ⊢
      omega
theorem allKept_put (fs : List Fe) (e : Fe) : ((allKept (putF fs e) : Nat) : Int) = (allKept fs : Nat) - (keptOf fs e.nm).length + e.kept.length := by
  induction fs with
  | nil => simp [putF, allKept, keptOf, findF]
  | cons y r ih =>
    rw [keptOf_cons]
    unfold putF
    by_cases h : kOf y.nm = kOf e.nm
    · rw [if_pos h, if_pos h]
      simp only [allKept, List.map_cons, List.sum_cons]
      omega
    · rw [if_neg h, if_neg h]
      simp only [allKept, List.map_cons, List.sum_cons] at ih ⊢
      omega
/-- a file is put -/
theorem Of.put {x : Dd} {p : Pl} (h : Of x p) (e : Fe) (m k : Nat) (hm : m ≤ k) :
    Of { x with fs := putF x.fs e, mn := m } { p with seen := upd p.seen e.nm e.seen, kept := upd p.kept e.nm e.kept, sum := p.sum - (p.seen e.nm).length + e.seen.length, ksum := p.ksum - (p.kept e.nm).length + e.kept.length, nf := k } :=
  { h with
    seen := by simp only [h.seen, seenOf_put]
    kept := by simp only [h.kept, keptOf_put]
    sum := by simp only [h.seen, h.sum]; rw [allSum_put]
    ksum := by simp only [h.kept, h.ksum]; rw [allKept_put]
    nf := hm }
theorem Pl.put_same (p : Pl) (s : ByteArray) (a b : List Int) (ha : a = p.seen s) (hb : b = p.kept s) (k : Nat) :
    ({ p with seen := upd p.seen s a, kept := upd p.kept s b, sum := p.sum - (p.seen s).length + a.length, ksum := p.ksum - (p.kept s).length + b.length, nf := k } : Pl) = { p with nf := k } := by
  subst ha hb
  simp only [upd_self]
  congr 1 <;> omega
/-- at's disk -/
theorem Of.at_ {x : Dd} {p : Pl} (h : Of x p) (e : Fe) (m : Nat) (hm : m ≤ x.mn + 1) (hs : e.seen = seenOf x.fs e.nm) (hk : e.kept = keptOf x.fs e.nm) : Of { x with fs := putF x.fs e, mn := m } p.at_ := by
  have := h.put e m (p.nf + 1) (by have := h.nf; omega)
  rw [Pl.put_same p e.nm e.seen e.kept (by rw [h.seen]; exact hs) (by rw [h.kept]; exact hk)] at this
  exact this
theorem Of.seen_eq {x : Dd} {p : Pl} (h : Of x p) (s : ByteArray) : seenOf x.fs s = p.seen s := by rw [h.seen]
theorem Of.kept_eq {x : Dd} {p : Pl} (h : Of x p) (s : ByteArray) : keptOf x.fs s = p.kept s := by rw [h.kept]
/-- what is seen of a file is put anew -/
theorem Of.setSeen {x : Dd} {p : Pl} (h : Of x p) (e : Fe) (hk : e.kept = keptOf x.fs e.nm) : Of { x with fs := putF x.fs e } (p.setSeen e.nm e.seen) := by
  have := h.put e x.mn p.nf h.nf
  have e1 : p.ksum - (p.kept e.nm).length + e.kept.length = p.ksum := by rw [hk, h.kept]; omega
  have e2 : upd p.kept e.nm e.kept = p.kept := by rw [hk, ← h.kept, upd_self]
  rw [e1, e2] at this
  exact this
theorem Of.setKept {x : Dd} {p : Pl} (h : Of x p) (e : Fe) (hk : e.seen = seenOf x.fs e.nm) : Of { x with fs := putF x.fs e } (p.setKept e.nm e.kept) := by
  have := h.put e x.mn p.nf h.nf
  have e1 : p.sum - (p.seen e.nm).length + e.seen.length = p.sum := by rw [hk, h.seen]; omega
  have e2 : upd p.seen e.nm e.seen = p.seen := by rw [hk, ← h.seen, upd_self]
  rw [e1, e2] at this
  exact this
/-- what a call makes of a disk: its plain state, its blocks, the world -/
def To (n0 : Nat) (w : World) (x : Dd) (p' : Pl) (w' : World) : Prop :=
  ∃ x', Dk n0 w' x' ∧ Of x' p' ∧ x'.db = x.db ∧ Kp x.O w w' ∧ ∀ b, x'.O b → x.O b ∨ w.heap.size ≤ b
theorem To.refl {n0 : Nat} {w : World} {x : Dd} {p : Pl} (h : Dk n0 w x) (hp : Of x p) : To n0 w x p w := ⟨x, h, hp, rfl, Kp.refl _ _, fun _ q => .inl q⟩
theorem To.trans {n0 : Nat} {w w1 w2 : World} {x x1 : Dd} {p2 : Pl} (h : To n0 w1 x1 p2 w2) (hdb : x1.db = x.db) (k : Kp x.O w w1) (ho : ∀ b, x1.O b → x.O b ∨ w.heap.size ≤ b) : To n0 w x p2 w2 := by
  obtain ⟨x2, hd, hof, e, k2, ho2⟩ := h
  refine ⟨x2, hd, hof, e.trans hdb, k.trans k2 (fun i hi q => ?_), fun b hb => ?_⟩
  · rcases ho i q with q | q
    · exact q
    · omega
  · rcases ho2 b hb with q | q
    · exact ho b q
    · exact .inr (Nat.le_trans k.size q)
theorem To.quiet {n0 : Nat} {w w1 w2 : World} {x : Dd} {p2 : Pl} (h : To n0 w1 x p2 w2) (k : Kp NoB w w1) (hx : Dk n0 w x) : To n0 w x p2 w2 :=
  h.trans rfl (k.mono (fun _ _ q => q.elim)) (fun _ q => .inl q)
end Go.Proofs.Ytdgjglocgdccbaa
