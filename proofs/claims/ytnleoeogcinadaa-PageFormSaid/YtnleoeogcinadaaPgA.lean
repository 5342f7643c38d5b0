/- A page's cells, the reference's body, new blocks: what PageChanges' texts share; no condition. -/
import Derived.Test.YtnleoeogcinadaaPgJoin
import Derived.Test.YtnleoeogcinadaaPgRRead
import Derived.Test.YtnleoeogcinadaaPgAwake
namespace Go.Proofs.Ytnleoeogcinadaa
open Go.RowKit

def zero4 : Array Value := #[.bool false, .int .i64 0, .int .u32 0, .slice none 0 0]
/-- v is the reference's body of what was read -/
def RRf (r : Option (Int × Int × List ByteArray)) (v : Value) (W : World) : Prop :=
  match r with
  | none => v = .agg (rBody4 false 0 0 none 0 0)
  | some (kind, link, cs) => ∃ A cap, v = .agg (rBody4 true kind link A cs.length cap) ∧ Sl W A cs.length cs ∧ ((A = none ∧ cs.length = 0 ∧ cap = 0) ∨ ∃ g, A = some ⟨g, 0, none⟩) ∧ cs.length ≤ cap
theorem RRf.keep {r : Option (Int × Int × List ByteArray)} {v : Value} {W W' : World} (h : RRf r v W) (k : Kp NoB W W') : RRf r v W' := by
  rcases r with _ | ⟨kind, link, cs⟩
  · exact h
  · obtain ⟨A, cap, e, hs, hf, hc⟩ := h
    exact ⟨A, cap, e, hs.keep k, hf, hc⟩
theorem RRf.agg {r : Option (Int × Int × List ByteArray)} {v : Value} {W : World} (h : RRf r v W) : ∃ is kind link A n cap, v = .agg (rBody4 is kind link A n cap) := by
  rcases r with _ | ⟨kind, link, cs⟩
  · exact ⟨_, _, _, _, _, _, h⟩
  · obtain ⟨A, cap, e, _⟩ := h
    exact ⟨_, _, _, _, _, _, e⟩
theorem rread4 (w : World) (l : List Int) (hB : Bytes l) : Calls Try.prog 11 #[.agg (bytesV l)] w fun e w' => ∃ v, e = .returned v ∧ RRf (readF l) v w' ∧ Kp NoB w w' := by
  refine (rread_ok w l hB).mono ?_
  rintro e w' ⟨hk, hq⟩
  rcases hr : readF l with _ | ⟨kind, link, cs⟩
  · rw [hr] at hq
    exact ⟨_, hq, rfl, hk⟩
  · rw [hr] at hq
    obtain ⟨A, cap, e, ho, hs⟩ := hq
    exact ⟨_, e, ⟨A, cap, rfl, hs, own_form ho, own_cap ho⟩, hk⟩
/-- a page's cells -/
structure PgA (X : Array Value) : Prop where
  s : X.size = 256
  o : ones X
  p : pgOK (.agg X)
theorem PgA.bytes (L : List Int) (h : L.length = 256) : PgA (bytesV L) := ⟨by rw [bytesV_size, h], bytesV_one L, pgOK_bytes L h⟩
theorem PgA.zero : PgA zero256 := PgA.bytes (zeros 256) (List.length_replicate ..)
theorem PgA.told (kind link : Int) (xs : List ByteArray) : PgA (toldR kind link xs).1 := by
  obtain ⟨L, h, hl⟩ := told_page kind link xs
  rw [h]
  exact PgA.bytes L hl
theorem cellAt {W : World} {g : Nat} {t : TypeId} {cs : Array Value} (h : Blk W g t cs) (i : Nat) {v : Value} (e : cs[i]? = some v) : W.cell? ⟨g, i, none⟩ = some v := (h.cell i).trans e
theorem one_page (w2 : World) (X : Array Value) (hX : X.size = 256) :
    (w2.alloc (.cells zero256 26)).there w2.heap.size 0 256 ∧ Blk ((w2.alloc (.cells zero256 26)).setCells w2.heap.size 0 X.toList) w2.heap.size 26 X ∧ Kp NoB w2 ((w2.alloc (.cells zero256 26)).setCells w2.heap.size 0 X.toList) := by
  have b1 := Blk.new w2 26 zero256
  exact ⟨b1.thereAll 256 zero256_size, b1.whole X (by rw [zero256_size, hX]), Kp.setCells (.inl (by omega)) _ _ _ ((Kp.refl NoB w2).alloc _)⟩
theorem after15 (V : World) (s0 : Nat) (hs : V.heap.size = s0) :
    (V.alloc (.cells zero256 26)).there s0 0 256 ∧ Kp NoB V ((V.alloc (.cells zero256 26)).setCells s0 0 zero256.toList) ∧ Blk ((V.alloc (.cells zero256 26)).setCells s0 0 zero256.toList) s0 26 zero256 ∧ ((V.alloc (.cells zero256 26)).setCells s0 0 zero256.toList).heap.size = s0 + 1 := by
  subst hs
  obtain ⟨t, b, k⟩ := one_page V zero256 zero256_size
  exact ⟨t, k, b, by rw [size_setCells]; simp⟩
theorem after19 (V : World) (s1 : Nat) (c8 : Array Value) (hs : V.heap.size = s1) (h4 : c8.size = 4) :
    (V.alloc (.cells #[.bool false, .int .i64 0, .int .u32 0, .slice none 0 0] 34)).there s1 0 4 ∧ Kp NoB V ((V.alloc (.cells #[.bool false, .int .i64 0, .int .u32 0, .slice none 0 0] 34)).setCells s1 0 c8.toList) ∧ Blk ((V.alloc (.cells #[.bool false, .int .i64 0, .int .u32 0, .slice none 0 0] 34)).setCells s1 0 c8.toList) s1 34 c8 ∧ ((V.alloc (.cells #[.bool false, .int .i64 0, .int .u32 0, .slice none 0 0] 34)).setCells s1 0 c8.toList).heap.size = s1 + 1 := by
  subst hs
  have b1 := Blk.new V 34 #[.bool false, .int .i64 0, .int .u32 0, .slice none 0 0]
  exact ⟨b1.thereAll 4 rfl, Kp.setCells (.inl (by omega)) _ _ _ ((Kp.refl NoB V).alloc _), b1.whole c8 (by rw [h4]; rfl), by rw [size_setCells]; simp⟩
theorem RRf.form {k l : Int} {cs : List ByteArray} {v : Value} {W : World} (h : RRf (some (k, l, cs)) v W) : ∃ A cap, v = .agg (rBody4 true k l A cs.length cap) ∧ Sl W A cs.length cs ∧ (A = none → cs.length = 0 ∧ cap = 0) ∧ ((A = none ∧ cs.length = 0 ∧ cap = 0) ∨ ∃ g, A = some ⟨g, 0, none⟩) ∧ cs.length ≤ cap := by
  obtain ⟨A, cap, e, hs, hf, hc⟩ := h
  refine ⟨A, cap, e, hs, ?_, hf, hc⟩
  rintro rfl
  rcases hf with ⟨_, q⟩ | ⟨g, q⟩
  · exact q
  · cases q
theorem body4_one (is : Bool) (kind link : Int) (A : Option Addr) (n cap : Nat) : (rBody4 is kind link A n cap).all (·.oneCell') = true := by simp [rBody4, Value.oneCell']
end Go.Proofs.Ytnleoeogcinadaa
