/- Texts of this proof, one behind the other: lemmas and contracts; each says its own conditions. -/
import Derived.Test.YtegcbdfilkecpaaM7
import Derived.Test.YtegcbdfilkecpaaM16
import Derived.Test.YtegcbdfilkecpaaRows
import Derived.SliceStrings
import Derived.ProofKit
import Derived.OpenShut
import Derived.ShutString
import Derived.ChangeOld
import Derived.ChangeSame
import Derived.DataShut
/- How arguments that come in are read: numbers, texts, lists of texts, arrays of bytes; no condition. -/
namespace Go.Proofs.Ytegcbdfilkecpaa
open Go.ChangeShapes Go.WideShapes Go.ChangeAt Go.RowKit

section
variable {H : Type} {enc : TypeId × Value → H} {P : Program} {W : World} {spare : Nat → Bool} {held : Bool} {t e : TypeId} {d : DataW H} {p : List MemPlace}
theorem open_wf {k : IntKind} {n : Int} (hu : P.underlying t = some (.int k)) (h : DataW.Trod enc P W 0 spare held t (.int k n) d p) : (Lit.int k n).wf = true := by
  obtain ⟨fuel, hf⟩ := h
  obtain ⟨m, e1, _, wf⟩ := DataW.trod_int hu hf
  simp [Value.cells] at e1
  subst e1
  exact wf
theorem wf_u8 {n : Int} (h : (Lit.int .u8 n).wf = true) : 0 ≤ n ∧ n ≤ 255 := (Lit.wf_int_iff .u8 n).1 h
theorem wf_u32 {n : Int} (h : (Lit.int .u32 n).wf = true) : 0 ≤ n ∧ n ≤ 4294967295 := (Lit.wf_int_iff .u32 n).1 h
theorem wf_u64 {n : Int} (h : (Lit.int .u64 n).wf = true) : 0 ≤ n ∧ n ≤ 18446744073709551615 := (Lit.wf_int_iff .u64 n).1 h
theorem wf_i64 {n : Int} (h : (Lit.int .i64 n).wf = true) : -9223372036854775808 ≤ n ∧ n ≤ 9223372036854775807 := (Lit.wf_int_iff .i64 n).1 h
theorem open_str {s : ByteArray} (hu : P.underlying t = some .string) (h : DataW.Trod enc P W 0 spare held t (.string s) d p) : s.size ≤ 9223372036854775807 := by
  obtain ⟨fuel, hf⟩ := h
  obtain ⟨s', e1, _, hs⟩ := DataW.trod_string hu hf
  simp [Value.cells] at e1
  subst e1
  exact hs
theorem trod_lt' {v : Value} (h : DataW.Trod enc P W 0 spare held t v d p) : ∀ x ∈ p, x.block < W.heap.size := by obtain ⟨m, hm⟩ := h; exact DataW.trod_lt m _ _ _ hm
theorem open_strs {a0 : Option Addr} {len cap : Nat} (hu : P.underlying t = some (.slice e)) (he : P.underlying e = some .string) (hc : P.cellsOf e = 1) (h : DataW.Trod enc P W 0 spare held t (.slice a0 len cap) d p) :
    ∃ xs : List ByteArray, Sl W a0 len xs ∧ len ≤ 9223372036854775807 ∧ (a0 = none → len = 0 ∧ cap = 0) ∧ ∀ c ∈ xs, c.size ≤ 9223372036854775807 := by
  obtain ⟨fuel, hf⟩ := h
  rcases open_strings hu he hc hf with ⟨hcs, hx⟩ | ⟨a, len', cap', ss, hcs, _, hl, hm, hz, hx, hcell, hsz⟩
  · simp [Value.cells] at hcs
    obtain ⟨rfl, rfl, rfl⟩ := hcs
    exact ⟨[], ⟨rfl, fun h => absurd h (by omega)⟩, by omega, fun _ => ⟨rfl, rfl⟩, fun c hc => by simp at hc⟩
  · simp [Value.cells] at hcs
    obtain ⟨rfl, rfl, rfl⟩ := hcs
    have hlm : len ≤ ss.length := by rw [hz]; split <;> omega
    refine ⟨ss.take len, ⟨by simp; omega, fun h0 => ?_⟩, by unfold maxLen at hm; omega, (fun q => by cases q), fun c hc => hsz c (List.mem_of_mem_take hc)⟩
    obtain ⟨b, off, spot⟩ := a
    have hspot : spot = none := by simpa [Addr.add] using World.cell?_spot (hcell 0 (by omega))
    subst hspot
    refine ⟨b, off, rfl, ?_, fun k hk => ?_⟩
    · have := hcell 0 (by omega)
      rw [add_mk] at this
      exact block_lt_of_cell this
    · have := hcell k (by omega)
      rw [add_mk] at this
      rw [this]
      simp [List.getElem?_take_of_lt hk]
theorem DataW.trod_array {n fuel : Nat} {cs : List Value} {x : DataW H × List MemPlace} {base : Nat} (ht : P.underlying t = some (.array n e)) (h : DataW.trod enc P W base spare held fuel t cs = some x) :
    ∃ m, fuel = m + 1 ∧ cs.length = P.cellsOf t ∧ ∀ i, i < n → ∃ y, DataW.trod enc P W base spare held m e ((cs.drop (i * P.cellsOf e)).take (P.cellsOf e)) = some y := by
  cases fuel with
  | zero => simp [DataW.trod] at h
  | succ m =>
    unfold DataW.trod at h
    rw [ht] at h
    split at h <;> simp_all
    obtain ⟨hl, xs, hp, hd⟩ := h
    intro i hi
    have h1 := mapM_some_get hp i i (by simp [hi])
    have h2 := mapM_some_length hp
    simp at h2
    exact ⟨_, _, h1.trans (List.getElem?_eq_getElem (by omega))⟩
theorem open_row {n : Nat} {k : IntKind} {v : Value} (ht : P.underlying t = some (.array n e)) (he : P.underlying e = some (.int k)) (hc : P.cellsOf t = n) (hce : P.cellsOf e = 1) (hn : n ≠ 1) (h : DataW.Trod enc P W 0 spare held t v d p) :
    ∃ l : List Int, l.length = n ∧ v = .agg (l.map (Value.int k)).toArray ∧ ∀ x ∈ l, (Lit.int k x).wf = true := by
  obtain ⟨fuel, hf⟩ := h
  obtain ⟨m, _, hl, hi⟩ := DataW.trod_array ht hf
  rw [hc] at hl
  have hv : ∃ cs, v = .agg cs := by
    cases v <;> first | exact ⟨_, rfl⟩ | (simp [Value.cells] at hl; omega)
  obtain ⟨cs, rfl⟩ := hv
  simp only [Value.cells] at hl hi
  have hsz : cs.size = n := by simpa using hl
  have each : ∀ i, i < n → ∃ x : Int, cs[i]? = some (.int k x) ∧ (Lit.int k x).wf = true := by
    intro i hin
    obtain ⟨y, hy⟩ := hi i hin
    rw [hce, Nat.mul_one] at hy
    obtain ⟨x, e1, _, wf⟩ := DataW.trod_int he hy
    refine ⟨x, ?_, wf⟩
    have : (cs.toList.drop i)[0]? = some (.int k x) := by
      have := congrArg (fun l => l[0]?) e1
      simpa [List.getElem?_take] using this
    simpa using this
  refine ⟨cs.toList.map (fun v => match v with | .int _ x => x | _ => 0), by simp [hsz], ?_, ?_⟩
  · congr 1
    apply Array.ext_getElem?
    intro i
    simp only [List.map_map, List.getElem?_toArray, List.getElem?_map, Array.getElem?_toList]
    rcases Nat.lt_or_ge i n with q | q
    · obtain ⟨x, hx, _⟩ := each i q
      rw [hx]; rfl
    · rw [Array.getElem?_eq_none (by omega)]; rfl
  · intro x hx
    obtain ⟨i, hi', rfl⟩ := List.getElem_of_mem hx
    have hi2 : i < n := by simpa [hsz] using hi'
    obtain ⟨x, hx, wf⟩ := each i hi2
    have h3 : (cs.toList.map (fun v => match v with | .int _ x => x | _ => (0 : Int)))[i]? = some x := by
      rw [List.getElem?_map, Array.getElem?_toList, hx]; rfl
    rw [List.getElem?_eq_getElem (by simpa using hi')] at h3
    simp only [Option.some.injEq] at h3
    rw [h3]
    exact wf
end
end Go.Proofs.Ytegcbdfilkecpaa
/- How a list of changes that comes in is read; no condition. -/
namespace Go.Proofs.Ytegcbdfilkecpaa
open Go.ChangeShapes Go.WideShapes Go.ChangeAt Go.RowKit Go.Deep

theorem u8_cell : Try.prog.cellsOf 5 = 1 := by kernel_rfl
theorem open_chs {H : Type} {enc : TypeId × Value → H} {W : World} {spare : Nat → Bool} {held : Bool} {a0 : Option Addr} {len0 cap0 : Nat} {d0 : DataW H} {p0 : List MemPlace}
    (h0 : DataW.Trod enc Try.prog W 0 spare held 35 (.slice a0 len0 cap0) d0 p0) : Chs W a0 len0 := by
  obtain ⟨fuel, hf⟩ := h0
  rcases open_slice_fields Try.underlying35 Try.underlying44 (by kernel_rfl) (by kernel_rfl) hf with ⟨hcs, _⟩ | ⟨x, l, c, m, D, Pl, hcs, _, hl, hm, hmm, hx, hi⟩
  · simp [Value.cells] at hcs
    obtain ⟨rfl, rfl, rfl⟩ := hcs
    exact fun k hk => absurd hk (by omega)
  · simp [Value.cells] at hcs
    obtain ⟨rfl, rfl, rfl⟩ := hcs
    have hlm : len0 ≤ m := by rw [hmm]; split <;> omega
    intro k hk
    obtain ⟨ys, nn, _, _, _, hf4⟩ := hi k (by omega)
    obtain ⟨v0, y0, c0, _, t0⟩ := hf4 0 _ rfl
    obtain ⟨v1, y1, c1, _, t1⟩ := hf4 1 _ rfl
    obtain ⟨n0, e0, _, _⟩ := DataW.trod_int Try.underlying3 t0
    simp only [List.cons.injEq, and_true] at e0
    subst e0
    obtain ⟨sb, so, sp⟩ := x
    have hspot : sp = none := by
      obtain ⟨ys', nn', _, _, _, hf4'⟩ := hi 0 (by omega)
      obtain ⟨v0', y0', c0', _, t0'⟩ := hf4' 0 _ rfl
      simpa [Addr.add] using World.cell?_spot c0'
    subst hspot
    rw [add_mk] at c0 c1
    rcases open_slice Try.underlying42 t1 with ⟨hcs, _⟩ | ⟨x2, l2, c2, m2, nn2, D2, Pl2, hcs, _, hl2, hm2, hmm2, hx2, hi2⟩
    · simp only [List.cons.injEq, and_true] at hcs
      subst hcs
      exact ⟨sb, so, n0, none, 0, 0, [], rfl, block_lt_of_cell c0, c0, c1, ⟨rfl, by simp, fun k y h => by cases h⟩, by omega⟩
    · simp only [List.cons.injEq, and_true] at hcs
      subst hcs
      have hlm2 : l2 ≤ m2 := by rw [hmm2]; split <;> omega
      have hcells : ∀ j, j < l2 → ∃ y : Int, W.cell? (x2.add j) = some (.int .u8 y) ∧ 0 ≤ y ∧ y < 256 := by
        intro j hj
        obtain ⟨cs', hc, ht'⟩ := hi2 j (by omega)
        rw [u8_cell, Nat.mul_one] at hc
        obtain ⟨b0, e0, _, wf⟩ := DataW.trod_int Try.underlying5 ht'
        subst e0
        obtain ⟨_, hcl, hat⟩ := World.cells?_some hc
        have := hat 0 (by omega)
        rw [show (x2.add j).add 0 = x2.add j from rfl] at this
        exact ⟨b0, this, by have := wf_u8 wf; omega⟩
      have hL : ∃ L : List Int, L.length = l2 ∧ ∀ j (h : j < L.length), W.cell? (x2.add j) = some (.int .u8 L[j]) ∧ 0 ≤ L[j] ∧ L[j] < 256 := by
        refine ⟨(List.range l2).pmap (fun j hj => Classical.choose (hcells j hj)) (fun j hj => by simpa using hj), by simp, ?_⟩
        intro j hj
        have hj' : j < l2 := by simpa using hj
        have := Classical.choose_spec (hcells j hj')
        simpa using this
      obtain ⟨L, hLl, hLc⟩ := hL
      refine ⟨sb, so, n0, some x2, l2, c2, L, rfl, block_lt_of_cell c0, c0, c1, ⟨hLl, fun y hy => ?_, fun j y hy => ?_⟩, by unfold maxLen at hm2; omega⟩
      · obtain ⟨j, hj, rfl⟩ := List.getElem_of_mem hy
        exact (hLc j hj).2
      · obtain ⟨hj, rfl⟩ := List.getElem?_eq_some_iff.1 hy
        have hc := (hLc j hj).1
        have hc0 := (hLc 0 (by omega)).1
        obtain ⟨tb, tn, tp⟩ := x2
        have hspot : tp = none := by
          simpa [Addr.add] using World.cell?_spot hc0
        subst hspot
        rw [add_mk] at hc
        exact ⟨tb, tn, rfl, block_lt_of_cell hc, hc⟩
end Go.Proofs.Ytegcbdfilkecpaa
