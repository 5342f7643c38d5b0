/- A change of the stand-in disk as a value of 67 cells; no condition. -/
import Derived.Test.YtdgjglocgdccbaaDkOf
import Derived.Great.FillDense
namespace Go.Proofs.Ytdgjglocgdccbaa
open Go.RowKit

theorem infoCg : (Try.prog.info? 79).map (fun i => (i.zero, i.size, i.bytes)) = some (some (.agg ((#[.string ⟨#[]⟩, .int .i64 0, .int .i64 0] : Array Value) ++ Array.replicate 64 (.int .u8 0))), 67, 96) := by kernel_rfl
def cgL (s : ByteArray) (sec n : Int) (l : List Int) : List Value := .string s :: .int .i64 sec :: .int .i64 n :: l.map (Value.int .u8)
def cgA (s : ByteArray) (sec n : Int) (l : List Int) : Array Value := (cgL s sec n l).toArray
theorem cgA_size (s : ByteArray) (sec n : Int) (l : List Int) : (cgA s sec n l).size = l.length + 3 := by simp [cgA, cgL]
theorem cgA_one (s : ByteArray) (sec n : Int) (l : List Int) : ∀ u ∈ cgL s sec n l, u.oneCell' = true := by
  intro u hu
  unfold cgL at hu
  simp only [List.mem_cons] at hu
  rcases hu with rfl | rfl | rfl | hu
  · rfl
  · rfl
  · rfl
  · exact u8_one l u hu
theorem buildCg3 (w : World) (s : ByteArray) (sec n : Int) : (Instr.build 79 #[(0, .string s), (1, .int .i64 sec), (2, .int .i64 n)]).run Try.prog w = .ok (.agg (cgA s sec n (zeros 64))) w := by kernel_rfl
theorem buildCg2 (w : World) (s : ByteArray) (sec : Int) : (Instr.build 79 #[(0, .string s), (1, .int .i64 sec)]).run Try.prog w = .ok (.agg (cgA s sec 0 (zeros 64))) w := by kernel_rfl
theorem exBuildCg3 (w : World) (ev : Operand → Value) (x y z : Operand) (s : ByteArray) (sec n : Int) (ds : Option Tmp) (ty : TypeId) (ps : String) (af : Array Edge) (g : Option (Nat × Bool)) (hx : ev x = .string s) (hy : ev y = .int .i64 sec) (hz : ev z = .int .i64 n) :
    (execOp ev ⟨ds, .build 79 #[(0, x), (1, y), (2, z)], ty, ps, af, g⟩).run Try.prog w = .ok (.value (.agg (cgA s sec n (zeros 64)))) w := by
  simp only [execOp, List.map_toArray, List.map_cons, List.map_nil, hx, hy, hz, Sem.run_bind, buildCg3, Result.andThen_ok]
  rfl
theorem exBuildCg2 (w : World) (ev : Operand → Value) (x y : Operand) (s : ByteArray) (sec : Int) (ds : Option Tmp) (ty : TypeId) (ps : String) (af : Array Edge) (g : Option (Nat × Bool)) (hx : ev x = .string s) (hy : ev y = .int .i64 sec) :
    (execOp ev ⟨ds, .build 79 #[(0, x), (1, y)], ty, ps, af, g⟩).run Try.prog w = .ok (.value (.agg (cgA s sec 0 (zeros 64)))) w := by
  simp only [execOp, List.map_toArray, List.map_cons, List.map_nil, hx, hy, Sem.run_bind, buildCg2, Result.andThen_ok]
  rfl
theorem sliceCg (w : World) (cs : Array Value) (hs : cs.size = 67) : (Instr.buildSlice 62 1 #[(0, .agg cs)]).run Try.prog w = .ok (.slice (some ⟨w.heap.size, 0, none⟩) 1 1) (w.alloc (.cells cs 79)) := by
  obtain ⟨i, hi, h0, h1, h2⟩ := info_parts infoCg
  have hu := Try.underlying62
  have hz : (zeroValue 79).run Try.prog w = .ok (.agg (cgA ⟨#[]⟩ 0 0 (zeros 64))) w := by kernel_rfl
  have hc : (Value.agg cs).cells = cs := rfl
  have hf : ∀ Z : Array Value, Z.size = 67 → Instr.fill (fun i => some (i * 67, 67)) Z [(0, .agg cs)] = some cs := fun Z hZ => by
    have := Go.Great.fill_whole (s := 67) (by omega) [.agg cs] Z (by simp [hc, hs]) (by simp [hZ])
    simpa [hc] using this
  simp [Instr.buildSlice, run_underlying hu, sizeOf, typeInfo, hi, h1, hz, newRow, newObj]
  rw [hf _ (by simp)]
  rfl
theorem exSliceCg (w : World) (ev : Operand → Value) (x : Operand) (cs : Array Value) (ds : Option Tmp) (ty : TypeId) (ps : String) (af : Array Edge) (g : Option (Nat × Bool)) (hx : ev x = .agg cs) (hs : cs.size = 67) :
    (execOp ev ⟨ds, .buildSlice 62 1 #[(0, x)], ty, ps, af, g⟩).run Try.prog w = .ok (.value (.slice (some ⟨w.heap.size, 0, none⟩) 1 1)) (w.alloc (.cells cs 79)) := by
  simp only [execOp, List.map_toArray, List.map_cons, List.map_nil, hx, Sem.run_bind, sliceCg w cs hs, Result.andThen_ok]
  rfl
theorem infoCgS : (Try.prog.info? 79).map (·.size) = some 67 := by kernel_rfl
theorem zeroCg (w : World) : (zeroValue 79).run Try.prog w = .ok (.agg (cgA ⟨#[]⟩ 0 0 (zeros 64))) w := by kernel_rfl
theorem loadCg (w : World) (ev : Operand → Value) (ds : Option Tmp) (x : Operand) (ty : TypeId) (ps : String) (af : Array Edge) (g : Option (Nat × Bool)) (h : thereP w (ev x) 67) :
    (execOp ev ⟨ds, .load 79 x, ty, ps, af, g⟩).run Try.prog w = .ok (.value (.agg (readP w (ev x) 67))) w := execLoad_P Try.underlying79 rfl infoCgS w ev ds x ty ps af g h
theorem storeCg (w : World) (ev : Operand → Value) (ds : Option Tmp) (x y : Operand) (ty : TypeId) (ps : String) (af : Array Edge) (g : Option (Nat × Bool)) (hv : aggOK (ev y) 67) (h : thereP w (ev x) 67) :
    (execOp ev ⟨ds, .store 79 x y, ty, ps, af, g⟩).run Try.prog w = .ok .skip (setP w (ev x) (ev y)) := execStore_P infoCgS w ev ds x y ty ps af g hv h
theorem allocCg (w : World) (ev : Operand → Value) (ds : Option Tmp) (ty : TypeId) (ps : String) (af : Array Edge) (g : Option (Nat × Bool)) :
    (execOp ev ⟨ds, .alloc 79, ty, ps, af, g⟩).run Try.prog w = .ok (.value (.pointer (some ⟨w.heap.size, 0, none⟩))) (w.alloc (.cells (cgA ⟨#[]⟩ 0 0 (zeros 64)) 79)) := by
  simp only [execOp, Instr.alloc, Sem.run_bind, zeroCg, Result.andThen_ok]
  rfl
theorem cgA_ones (s : ByteArray) (sec n : Int) (l : List Int) : ones (cgA s sec n l) := by
  unfold ones cgA
  simp only [List.all_toArray', List.all_eq_true]
  exact cgA_one s sec n l
end Go.Proofs.Ytdgjglocgdccbaa
