/- How arguments that come in are read: numbers, texts, lists of texts, arrays of bytes; no condition. -/
import Derived.Test.YtdgjglocgdccbaaRows
import Derived.Test.YtdgjglocgdccbaaStrs
import Derived.SliceStrings
import Derived.ProofKit
import Derived.OpenShut
import Derived.ShutString
import Derived.ChangeOld
import Derived.ChangeSame
import Derived.DataShut
namespace Go.Proofs.Ytdgjglocgdccbaa
open Go.ChangeShapes Go.WideShapes Go.ChangeAt Go.RowKit

section
variable {H : Type} {enc : TypeId × Value → H} {P : Program} {W : World} {spare : Nat → Bool} {held : Bool} {t e : TypeId} {d : DataW H} {p : List MemPlace}
theorem open_wf {k : IntKind} {n : Int} (hu : P.underlying t = some (.int k)) (h : DataW.Trod enc P W 0 spare held t (.int k n) d p) : (Lit.int k n).wf = true := by
  obtain ⟨fuel, hf⟩ := h
  obtain ⟨m, e1, _, wf⟩ := DataW.trod_int hu hf
  simp [Value.cells] at e1
  subst e1
  exact wf
theorem wf_u8 {n : Int} (h : (Lit.int .u8 n).wf = true) : 0 ≤ n ∧ n ≤ 255 := (Lit.wf_int_iff .u8 n).1 h
theorem wf_u32 {n : Int} (h : (Lit.int .u32 n).wf = true) : 0 ≤ n ∧ n ≤ 4294967295 := (Lit.wf_int_iff .u32 n).1 h
theorem wf_u64 {n : Int} (h : (Lit.int .u64 n).wf = true) : 0 ≤ n ∧ n ≤ 18446744073709551615 := (Lit.wf_int_iff .u64 n).1 h
theorem wf_i64 {n : Int} (h : (Lit.int .i64 n).wf = true) : -9223372036854775808 ≤ n ∧ n ≤ 9223372036854775807 := (Lit.wf_int_iff .i64 n).1 h
theorem open_str {s : ByteArray} (hu : P.underlying t = some .string) (h : DataW.Trod enc P W 0 spare held t (.string s) d p) : s.size ≤ 9223372036854775807 := by
  obtain ⟨fuel, hf⟩ := h
  obtain ⟨s', e1, _, hs⟩ := DataW.trod_string hu hf
  simp [Value.cells] at e1
  subst e1
  exact hs
theorem trod_lt' {v : Value} (h : DataW.Trod enc P W 0 spare held t v d p) : ∀ x ∈ p, x.block < W.heap.size := by obtain ⟨m, hm⟩ := h; exact DataW.trod_lt m _ _ _ hm
theorem open_strs {a0 : Option Addr} {len cap : Nat} (hu : P.underlying t = some (.slice e)) (he : P.underlying e = some .string) (hc : P.cellsOf e = 1) (h : DataW.Trod enc P W 0 spare held t (.slice a0 len cap) d p) :
    ∃ xs : List ByteArray, Sl W a0 len xs ∧ len ≤ 9223372036854775807 ∧ (a0 = none → len = 0 ∧ cap = 0) ∧ ∀ c ∈ xs, c.size ≤ 9223372036854775807 := by
  obtain ⟨fuel, hf⟩ := h
  rcases open_strings hu he hc hf with ⟨hcs, hx⟩ | ⟨a, len', cap', ss, hcs, _, hl, hm, hz, hx, hcell, hsz⟩
  · simp [Value.cells] at hcs
    obtain ⟨rfl, rfl, rfl⟩ := hcs
    exact ⟨[], ⟨rfl, fun h => absurd h (by omega)⟩, by omega, fun _ => ⟨rfl, rfl⟩, fun c hc => by simp at hc⟩
  · simp [Value.cells] at hcs
    obtain ⟨rfl, rfl, rfl⟩ := hcs
    have hlm : len ≤ ss.length := by rw [hz]; split <;> omega
    refine ⟨ss.take len, ⟨by simp; omega, fun h0 => ?_⟩, by unfold maxLen at hm; omega, (fun q => by cases q), fun c hc => hsz c (List.mem_of_mem_take hc)⟩
    obtain ⟨b, off, spot⟩ := a
    have hspot : spot = none := by simpa [Addr.add] using World.cell?_spot (hcell 0 (by omega))
    subst hspot
    refine ⟨b, off, rfl, ?_, fun k hk => ?_⟩
    · have := hcell 0 (by omega)
      rw [add_mk] at this
      exact block_lt_of_cell this
    · have := hcell k (by omega)
      rw [add_mk] at this
      rw [this]
      simp [List.getElem?_take_of_lt hk]
theorem DataW.trod_array {n fuel : Nat} {cs : List Value} {x : DataW H × List MemPlace} {base : Nat} (ht : P.underlying t = some (.array n e)) (h : DataW.trod enc P W base spare held fuel t cs = some x) :
    ∃ m, fuel = m + 1 ∧ cs.length = P.cellsOf t ∧ ∀ i, i < n → ∃ y, DataW.trod enc P W base spare held m e ((cs.drop (i * P.cellsOf e)).take (P.cellsOf e)) = some y := by
  cases fuel with
  | zero => simp [DataW.trod] at h
  | succ m =>
    unfold DataW.trod at h
    rw [ht] at h
    split at h <;> simp_all
    obtain ⟨hl, xs, hp, hd⟩ := h
    intro i hi
    have h1 := mapM_some_get hp i i (by simp [hi])
    have h2 := mapM_some_length hp
    simp at h2
    exact ⟨_, _, h1.trans (List.getElem?_eq_getElem (by omega))⟩
theorem open_row {n : Nat} {k : IntKind} {v : Value} (ht : P.underlying t = some (.array n e)) (he : P.underlying e = some (.int k)) (hc : P.cellsOf t = n) (hce : P.cellsOf e = 1) (hn : n ≠ 1) (h : DataW.Trod enc P W 0 spare held t v d p) :
    ∃ l : List Int, l.length = n ∧ v = .agg (l.map (Value.int k)).toArray ∧ ∀ x ∈ l, (Lit.int k x).wf = true := by
  obtain ⟨fuel, hf⟩ := h
  obtain ⟨m, _, hl, hi⟩ := DataW.trod_array ht hf
  rw [hc] at hl
  have hv : ∃ cs, v = .agg cs := by
    cases v <;> first | exact ⟨_, rfl⟩ | (simp [Value.cells] at hl; omega)
  obtain ⟨cs, rfl⟩ := hv
  simp only [Value.cells] at hl hi
  have hsz : cs.size = n := by simpa using hl
  have each : ∀ i, i < n → ∃ x : Int, cs[i]? = some (.int k x) ∧ (Lit.int k x).wf = true := by
    intro i hin
    obtain ⟨y, hy⟩ := hi i hin
    rw [hce, Nat.mul_one] at hy
    obtain ⟨x, e1, _, wf⟩ := DataW.trod_int he hy
    refine ⟨x, ?_, wf⟩
    have : (cs.toList.drop i)[0]? = some (.int k x) := by
      have := congrArg (fun l => l[0]?) e1
      simpa [List.getElem?_take] using this
    simpa using this
  refine ⟨cs.toList.map (fun v => match v with | .int _ x => x | _ => 0), by simp [hsz], ?_, ?_⟩
  · congr 1
    apply Array.ext_getElem?
    intro i
    simp only [List.map_map, List.getElem?_toArray, List.getElem?_map, Array.getElem?_toList]
    rcases Nat.lt_or_ge i n with q | q
    · obtain ⟨x, hx, _⟩ := each i q
      rw [hx]; rfl
    · rw [Array.getElem?_eq_none (by omega)]; rfl
  · intro x hx
    obtain ⟨i, hi', rfl⟩ := List.getElem_of_mem hx
    have hi2 : i < n := by simpa [hsz] using hi'
    obtain ⟨x, hx, wf⟩ := each i hi2
    have h3 : (cs.toList.map (fun v => match v with | .int _ x => x | _ => (0 : Int)))[i]? = some x := by
      rw [List.getElem?_map, Array.getElem?_toList, hx]; rfl
    rw [List.getElem?_eq_getElem (by simpa using hi')] at h3
    simp only [Option.some.injEq] at h3
    rw [h3]
    exact wf
end
end Go.Proofs.Ytdgjglocgdccbaa
