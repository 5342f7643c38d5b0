/- Bytes in memory, as texts and as cells; no condition. -/
import Derived.Test.YtdgjglocgdccbaaLib
import Derived.Test.YtdgjglocgdccbaaProg
import Derived.Lib.LazyBuf
namespace Go.Proofs.Ytdgjglocgdccbaa
open Go.RowKit

/-- bytes as the cells of an array -/
def bytesV (l : List Int) : Array Value := (l.map (Value.int .u8)).toArray
theorem bytesV_size (l : List Int) : (bytesV l).size = l.length := by simp [bytesV]
theorem bytesV_one (l : List Int) : ones (bytesV l) := by
  unfold ones bytesV
  simp only [List.all_toArray', List.all_map]
  simp [Value.oneCell']
theorem map_int_inj {k : IntKind} : ∀ {l m : List Int}, l.map (Value.int k) = m.map (Value.int k) → l = m
  | [], [], _ => rfl
  | [], _ :: _, h => by simp at h
  | _ :: _, [], h => by simp at h
  | a :: l, b :: m, h => by
    simp only [List.map_cons, List.cons.injEq, Value.int.injEq, true_and] at h
    rw [h.1, map_int_inj h.2]
theorem bytesV_inj {l m : List Int} (h : bytesV l = bytesV m) : l = m := by
  have h1 : l.map (Value.int .u8) = m.map (Value.int .u8) := by
    have := congrArg Array.toList h
    simpa [bytesV] using this
  exact map_int_inj h1
def zeros (n : Nat) : List Int := List.replicate n 0
def strI (s : ByteArray) : List Int := s.data.toList.map fun b => (b.toNat : Int)
theorem strI_len (s : ByteArray) : (strI s).length = s.size := by simp [strI]
/-- copy of a string into cells that lie there -/
theorem wpList_copyS {P : Program} {w : World} {ops : Array Oper} {rest : List Oper} {o : Oper} {a : Act} {Q : Exit → Act → World → Prop} (hgd : o.guard = none) (x y : Operand) (dT sT elem : TypeId)
    (ho : o.op = .call { callee := .builtin .copy, args := #[x, y], argTypes := #[dT, sT] }) (hu : P.underlying dT = some (.slice elem)) (hz : ∀ w, (Go.sizeOf elem).run P w = .ok 1 w)
    (g0 o0 dLen dCap : Nat) (s : ByteArray) (hx : a.eval x = .slice (some ⟨g0, o0, none⟩) dLen dCap) (hy : a.eval y = .string s) (hle : s.size ≤ dLen) (ht : w.there g0 o0 s.size)
    (h : wpList P ops Q rest (a.put o.dst (.int .i64 s.size)) (w.setCells g0 o0 ((strI s).map (Value.int .u8)))) : wpList P ops Q (o :: rest) a w := by
  have hrun := Go.run_copy_string (P := P) w dT sT o.type elem g0 o0 dLen dCap s hu hz hle (fun j hj => (ht j hj).1) (fun j hj => (ht j hj).2)
  refine wpList_plain hgd fun K hK => ?_
  have e : (strI s).map (Value.int .u8) = s.data.toList.map fun x => Value.int .u8 (x.toNat : Int) := by
    unfold strI
    rw [List.map_map]
    rfl
  rw [e] at h
  unfold Oper.wp
  simp only [execOp, ho, resolve, invoke, builtin, Sem.run_bind, Sem.run_pure, Result.andThen_ok, List.map_toArray, List.map_cons, List.map_nil, hx, hy, hrun]
  exact hK _ _ h
theorem Blk.bytes {w : World} {g : Nat} {t : TypeId} {la lb ld lx : List Int} (h : Blk w g t (bytesV (la ++ lb ++ ld))) (o : Nat) (ho : la.length = o) (hl : lb.length = lx.length) : Blk (w.setCells g o (lx.map (Value.int .u8))) g t (bytesV (la ++ lx ++ ld)) := by
  have := Blk.cellsL (xa := la.map (Value.int .u8)) (xb := lb.map (Value.int .u8)) (xd := ld.map (Value.int .u8)) (xs := lx.map (Value.int .u8)) (by simpa [bytesV] using h) o (by simpa using ho) (by simpa using hl)
  simpa [bytesV] using this
theorem infoU8 : (Try.prog.info? 5).map (·.size) = some 1 := by kernel_rfl
theorem sizeU8 (w : World) : (Go.sizeOf 5).run Try.prog w = .ok 1 w := by kernel_rfl

/-- bytes as a string -/
def strOf (ns : List Int) : ByteArray := ⟨(ns.map fun n => UInt8.ofNat n.toNat).toArray⟩
theorem foldl_push (ns : List Int) : ∀ (s : ByteArray), ns.foldl (fun r n => r.push (UInt8.ofNat n.toNat)) s = ⟨s.data ++ (ns.map fun n => UInt8.ofNat n.toNat).toArray⟩ := by
  induction ns with
  | nil => intro s; simp
  | cons n ns ih =>
    intro s
    rw [List.foldl_cons, ih]
    simp [ByteArray.push]
theorem strOf_size (ns : List Int) : (strOf ns).size = ns.length := by simp [strOf, ByteArray.size]
theorem strI_strOf (ns : List Int) (h : ∀ n ∈ ns, 0 ≤ n ∧ n < 256) : strI (strOf ns) = ns := by
  unfold strI strOf
  simp only [List.map_map]
  conv => rhs; rw [← List.map_id ns]
  apply List.map_congr_left
  intro n hn
  obtain ⟨a, b⟩ := h n hn
  simp only [Function.comp, id]
  obtain ⟨k, rfl⟩ := Int.eq_ofNat_of_zero_le a
  have : k < 256 := by omega
  simp [UInt8.toNat_ofNat, Nat.mod_eq_of_lt this]
/-- n bytes lie in block g from place o on -/
def byAt (w : World) (g o n : Nat) : Prop := ∀ j, j < n → ∃ v, w.cell? ⟨g, o + j, none⟩ = some (.int .u8 v)
def numOf : Option Value → Int
  | some (.int _ n) => n
  | _ => 0
def byRd (w : World) (g o n : Nat) : List Int := (List.range n).map fun j => numOf (w.cell? ⟨g, o + j, none⟩)
def bytesAt (w : World) : Value → Prop
  | .slice (some ⟨g, o, none⟩) n _ => byAt w g o n
  | _ => False
def strAt (w : World) : Value → Value
  | .slice (some ⟨g, o, none⟩) n _ => .string (strOf (byRd w g o n))
  | _ => undef
@[go_sem] theorem bytesAt_mk (w : World) (g o n c : Nat) : bytesAt w (.slice (some ⟨g, o, none⟩) n c) = byAt w g o n := rfl
@[go_sem] theorem strAt_mk (w : World) (g o n c : Nat) : strAt w (.slice (some ⟨g, o, none⟩) n c) = .string (strOf (byRd w g o n)) := rfl
@[simp, go_sem] theorem byAt_drew (w : World) (g o n : Nat) : byAt w.drew g o n = byAt w g o n := rfl
@[simp, go_sem] theorem byRd_drew (w : World) (g o n : Nat) : byRd w.drew g o n = byRd w g o n := rfl
theorem execConv_S {P : Program} {S D e : TypeId} (hs : P.underlying S = some (.slice e)) (he : P.underlying e = some (.int .u8)) (hd : P.underlying D = some .string) (w : World) (ev : Operand → Value) (ds : Option Tmp) (x : Operand) (ty : TypeId) (ps : String) (af : Array Edge) (g : Option (Nat × Bool)) (h : bytesAt w (ev x)) :
    (execOp ev ⟨ds, .convert S D x, ty, ps, af, g⟩).run P w = .ok (.value (strAt w (ev x))) w := by
  generalize hx : ev x = v at h
  unfold bytesAt at h
  split at h
  · rename_i g' o' n' c'
    have hl : (loadCells ⟨g', o', none⟩ n').run P w = .ok ((byRd w g' o' n').map (Value.int .u8)).toArray w := by
      have := run_loadCells_list (P := P) w ⟨g', o', none⟩ ((byRd w g' o' n').map (Value.int .u8)) (fun j v hv => by
        rw [add_mk]
        unfold byRd at hv
        rw [List.map_map, List.getElem?_map] at hv
        rcases Nat.lt_or_ge j n' with hj | hj
        · rw [List.getElem?_range hj] at hv
          simp only [Option.map_some, Option.some.injEq, Function.comp] at hv
          obtain ⟨u, hu⟩ := h j hj
          rw [hu] at hv ⊢
          rw [← hv]
          rfl
        · rw [List.getElem?_eq_none (by simpa using hj)] at hv
          cases hv)
      simpa [byRd] using this
    simp only [execOp, hx, Sem.run_bind, run_convert_bytes_string w S D e _ _ _ hs he hd, run_bytesToString w _ _ _ _ hl, Result.andThen_ok, Sem.run_pure, foldl_push]
    simp [strAt, strOf]
  · exact h.elim
theorem conv64 (w : World) (ev : Operand → Value) (ds : Option Tmp) (x : Operand) (ty : TypeId) (ps : String) (af : Array Edge) (g : Option (Nat × Bool)) (h : bytesAt w (ev x)) :
    (execOp ev ⟨ds, .convert 66 9 x, ty, ps, af, g⟩).run Try.prog w = .ok (.value (strAt w (ev x))) w := execConv_S Try.underlying66 Try.underlying5 Try.underlying9 w ev ds x ty ps af g h
theorem Blk.byAt {w : World} {g : Nat} {t : TypeId} {l : List Int} (h : Blk w g t (bytesV l)) (o n : Nat) (hn : o + n ≤ l.length) : byAt w g o n := fun j hj => by
  refine ⟨l[o + j]?.getD 0, ?_⟩
  rw [h.cell]
  unfold bytesV
  simp [show o + j < l.length by omega]
theorem Blk.byRd {w : World} {g : Nat} {t : TypeId} {l : List Int} (h : Blk w g t (bytesV l)) (o n : Nat) (hn : o + n ≤ l.length) : byRd w g o n = (l.drop o).take n := by
  unfold Go.Proofs.Ytdgjglocgdccbaa.byRd
  apply List.ext_getElem
  · simp; omega
  · intro j h1 h2
    have hj : j < n := by simpa using h1
    simp only [List.getElem_map, List.getElem_range, List.getElem_take, List.getElem_drop]
    rw [h.cell]
    unfold bytesV
    simp [show o + j < l.length by omega, numOf]
theorem ret_cell1 {P : Program} {fn : Func} {p : Tmp} {ty : TypeId} (h : fn.results = #[.cell p ty]) (tmps : Array Value) (w : World) (g : Nat) (t : TypeId) (cs : Array Value) (d : TypeDesc)
    (hp : tmps.getD p undef = .pointer (some ⟨g, 0, none⟩)) (hg : Blk w g t cs)
    (hu : P.underlying ty = some d) (hd : (match d with | .struct _ | .array _ _ => true | _ => false) = true) (hi : (P.info? ty).map (·.size) = some cs.size) :
    (results fn tmps).run P w = .ok (.agg cs) w := by
  have hp' : tmps[p]?.getD undef = .pointer (some ⟨g, 0, none⟩) := by simpa using hp
  simp [results, h, hp', asAddr, run_loadVar_row w g t ty cs (0, 0) d hg hu hd hi]
end Go.Proofs.Ytdgjglocgdccbaa
