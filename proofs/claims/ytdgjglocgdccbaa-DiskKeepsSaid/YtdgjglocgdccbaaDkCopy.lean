/- The stand-in disk: Copy; condition: fewer than 2^40 files and changes. -/
import Derived.Test.YtdgjglocgdccbaaDkDa
import Derived.Laws.Externs
import Derived.MapKept
import Derived.Maps.OwnSet
namespace Go.Proofs.Ytdgjglocgdccbaa
open Go.RowKit

theorem own_exact {P : Program} {k : TypeId} {R : Value → Option (DataW Value × List MemPlace)} {w : World} {b n : Nat} {D : DataW Value} (h : w.ownsMap P k R b n D) {m : Nat} (hm : Maps.size D ≤ m) : w.ownsMap P k R b m D := by
  obtain ⟨es, clock, hb, F, hs, hD⟩ := h
  refine ⟨es, clock, hb, F, ?_, hD⟩
  have : Maps.size D = es.size := by rw [hD]; simp [Maps.size, length_sorted]
  omega
theorem mapEqN (b : Nat) (w : World) : (binOp .eql 61 (.map (some b)) (.map none)).run Try.prog w = .ok (.bool false) w := by kernel_rfl
theorem run_mclone (w : World) {r : Nat} {es : Array MapEntry} {clock : Nat} (t : TypeId) (hb : w.heap[r]? = some (.map es clock)) :
    (Extern.MapsClone.clone #[.iface t (.map (some r))]).run Try.prog w = .ok (.iface t (.map (some w.heap.size))) (w.alloc (.map es clock)) := by
  have e : Extern.MapsClone.clone #[.iface t (.map (some r))] = (getObj r >>= fun o => match o with
      | .map entries clock => (newObj (.map entries clock) >>= fun n => pure (.iface t (.map (some n))))
      | _ => stuck "maps.clone: a map expected") := rfl
  rw [e]
  simp [MapKept.run_getObj_map hb, Result.andThen, go_sem]
theorem run_massert (w : World) (t xT : TypeId) (v : Value) (k e : TypeId) (h : Try.prog.underlying t = some (.map k e)) : (Instr.typeAssert (.iface t v) xT t false).run Try.prog w = .ok v w := by
  simp [Instr.typeAssert, run_underlying h, go_sem, Result.andThen]
set_option maxRecDepth 100000 in
set_option maxHeartbeats 800000 in
theorem mclone_ok (w : World) (b : Nat) (es : Array MapEntry) (clock : Nat) (hb : w.heap[b]? = some (.map es clock)) :
    Calls Try.prog 41 #[.map (some b)] w fun e w' => e = .returned (.map (some w.heap.size)) ∧ w' = w.alloc (.map es clock) := by
  have hq := mapEqN b
  have HB := Lib.hid hb
  clear hb
  go_enter Try.func41, Try.ntmps41
  go_wp2
  rw [run_callFunc_extern Try.func53 (by kernel_rfl) (by kernel_rfl) (by kernel_rfl) (e := Extern.MapsClone.clone) (by kernel_rfl), run_mclone w 61 HB.out]
  simp only [Result.andThen]
  rw [Oper.upon_value]
  go_wp2
  rw [run_massert _ 61 _ _ _ _ Try.underlying61]
  simp only [Result.andThen]
  rw [Oper.upon_value]
  go_wp2
  go_ret
  exact ⟨rfl, rfl⟩
theorem infoDk : (Try.prog.info? 64).map (·.size) = some 7 := by kernel_rfl
def zeroDk : Array Value := #[.map none, .slice none 0 0, .int .i64 0, .int .i64 0, .int .i64 0, .bool false, .int .i64 0]
theorem zeroVDk (w : World) : (zeroValue 64).run Try.prog w = .ok (.agg zeroDk) w := by kernel_rfl
theorem loadDk (w : World) (ev : Operand → Value) (ds : Option Tmp) (x : Operand) (ty : TypeId) (ps : String) (af : Array Edge) (g : Option (Nat × Bool)) (h : thereP w (ev x) 7) :
    (execOp ev ⟨ds, .load 64 x, ty, ps, af, g⟩).run Try.prog w = .ok (.value (.agg (readP w (ev x) 7))) w := execLoad_P Try.underlying64 rfl infoDk w ev ds x ty ps af g h
theorem storeDk (w : World) (ev : Operand → Value) (ds : Option Tmp) (x y : Operand) (ty : TypeId) (ps : String) (af : Array Edge) (g : Option (Nat × Bool)) (hv : aggOK (ev y) 7) (h : thereP w (ev x) 7) :
    (execOp ev ⟨ds, .store 64 x y, ty, ps, af, g⟩).run Try.prog w = .ok .skip (setP w (ev x) (ev y)) := execStore_P infoDk w ev ds x y ty ps af g hv h
theorem allocDk (w : World) (ev : Operand → Value) (ds : Option Tmp) (ty : TypeId) (ps : String) (af : Array Edge) (g : Option (Nat × Bool)) :
    (execOp ev ⟨ds, .alloc 64, ty, ps, af, g⟩).run Try.prog w = .ok (.value (.pointer (some ⟨w.heap.size, 0, none⟩))) (w.alloc (.cells zeroDk 64)) := by
  simp only [execOp, Instr.alloc, Sem.run_bind, zeroVDk, Result.andThen_ok]
  rfl
theorem infoFe : (Try.prog.info? 75).map (·.size) = some 2 := by kernel_rfl
def zeroFe : Array Value := #[.slice none 0 0, .slice none 0 0]
theorem zeroVFe (w : World) : (zeroValue 75).run Try.prog w = .ok (.agg zeroFe) w := by kernel_rfl
theorem loadFe (w : World) (ev : Operand → Value) (ds : Option Tmp) (x : Operand) (ty : TypeId) (ps : String) (af : Array Edge) (g : Option (Nat × Bool)) (h : thereP w (ev x) 2) :
    (execOp ev ⟨ds, .load 75 x, ty, ps, af, g⟩).run Try.prog w = .ok (.value (.agg (readP w (ev x) 2))) w := execLoad_P Try.underlying75 rfl infoFe w ev ds x ty ps af g h
theorem storeFe (w : World) (ev : Operand → Value) (ds : Option Tmp) (x y : Operand) (ty : TypeId) (ps : String) (af : Array Edge) (g : Option (Nat × Bool)) (hv : aggOK (ev y) 2) (h : thereP w (ev x) 2) :
    (execOp ev ⟨ds, .store 75 x y, ty, ps, af, g⟩).run Try.prog w = .ok .skip (setP w (ev x) (ev y)) := execStore_P infoFe w ev ds x y ty ps af g hv h
theorem allocFe (w : World) (ev : Operand → Value) (ds : Option Tmp) (ty : TypeId) (ps : String) (af : Array Edge) (g : Option (Nat × Bool)) :
    (execOp ev ⟨ds, .alloc 75, ty, ps, af, g⟩).run Try.prog w = .ok (.value (.pointer (some ⟨w.heap.size, 0, none⟩))) (w.alloc (.cells zeroFe 75)) := by
  simp only [execOp, Instr.alloc, Sem.run_bind, zeroVFe, Result.andThen_ok]
  rfl
/-- the files, those that were met at their new blocks -/
def cpF (left : List UInt8 → Bool) (nb : List UInt8 → Nat) (fs : List Fe) : List Fe := fs.map fun e => if left (kOf e.nm) then e else { e with fb := nb (kOf e.nm) }
theorem cpF_find (left : List UInt8 → Bool) (nb : List UInt8 → Nat) (fs : List Fe) (k : List UInt8) : findF (cpF left nb fs) k = (findF fs k).map fun e => if left (kOf e.nm) then e else { e with fb := nb (kOf e.nm) } := by
  induction fs with
  | nil => rfl
  | cons y r ih =>
    unfold findF cpF at *
    rw [List.map_cons, List.find?_cons, List.find?_cons]
    have hnm : kOf (if left (kOf y.nm) then y else { y with fb := nb (kOf y.nm) }).nm = kOf y.nm := by split <;> rfl
    rw [hnm]
    by_cases h : kOf y.nm = k
    · simp [h]
    · have : (kOf y.nm == k) = false := by simpa using h
      simp only [this]
      exact ih
end Go.Proofs.Ytdgjglocgdccbaa
