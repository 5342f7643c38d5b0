/- Texts of this proof, one behind the other: lemmas and contracts; each says its own conditions. -/
import Derived.Test.YtegcbdfilkecpaaM1
import Derived.Test.YtegcbdfilkecpaaM2
import Derived.Great.FillDense
/- The stand-in disk: the plain state behind a file that is put; no condition. -/
namespace Go.Proofs.Ytegcbdfilkecpaa
open Go.RowKit

theorem seenOf_put (fs : List Fe) (e : Fe) : seenOf (putF fs e) = upd (seenOf fs) e.nm e.seen := by
  funext t
  unfold seenOf upd
  rw [putF_find]
  by_cases h : t = e.nm
  · subst h; simp
  · rw [if_neg h, if_neg (fun q => h (kOf_inj q).symm)]
theorem keptOf_put (fs : List Fe) (e : Fe) : keptOf (putF fs e) = upd (keptOf fs) e.nm e.kept := by
  funext t
  unfold keptOf upd
  rw [putF_find]
  by_cases h : t = e.nm
  · subst h; simp
  · rw [if_neg h, if_neg (fun q => h (kOf_inj q).symm)]
theorem seenOf_cons (y : Fe) (r : List Fe) (s : ByteArray) : seenOf (y :: r) s = if kOf y.nm = kOf s then y.seen else seenOf r s := by
  unfold seenOf findF
  by_cases h : kOf y.nm = kOf s <;> simp [h, List.find?_cons]
theorem keptOf_cons (y : Fe) (r : List Fe) (s : ByteArray) : keptOf (y :: r) s = if kOf y.nm = kOf s then y.kept else keptOf r s := by
  unfold keptOf findF
  by_cases h : kOf y.nm = kOf s <;> simp [h, List.find?_cons]
theorem allSum_put (fs : List Fe) (e : Fe) : ((allSum (putF fs e) : Nat) : Int) = (allSum fs : Nat) - (seenOf fs e.nm).length + e.seen.length := by
  induction fs with
  | nil => simp [putF, allSum, seenOf, findF]
  | cons y r ih =>
    rw [seenOf_cons]
    unfold putF
    by_cases h : kOf y.nm = kOf e.nm
    · rw [if_pos h, if_pos h]
      simp only [allSum, List.map_cons, List.sum_cons]
      omega
    · rw [if_neg h, if_neg h]
      simp only [allSum, List.map_cons, List.sum_cons] at ih ⊢
      omega
theorem allKept_put (fs : List Fe) (e : Fe) : ((allKept (putF fs e) : Nat) : Int) = (allKept fs : Nat) - (keptOf fs e.nm).length + e.kept.length := by
  induction fs with
  | nil => simp [putF, allKept, keptOf, findF]
  | cons y r ih =>
    rw [keptOf_cons]
    unfold putF
    by_cases h : kOf y.nm = kOf e.nm
    · rw [if_pos h, if_pos h]
      simp only [allKept, List.map_cons, List.sum_cons]
      omega
    · rw [if_neg h, if_neg h]
      simp only [allKept, List.map_cons, List.sum_cons] at ih ⊢
      omega
/-- a file is put -/
theorem Of.put {x : Dd} {p : Pl} (h : Of x p) (e : Fe) (m k : Nat) (hm : m ≤ k) :
    Of { x with fs := putF x.fs e, mn := m } { p with seen := upd p.seen e.nm e.seen, kept := upd p.kept e.nm e.kept, sum := p.sum - (p.seen e.nm).length + e.seen.length, ksum := p.ksum - (p.kept e.nm).length + e.kept.length, nf := k } :=
  { h with
    seen := by simp only [h.seen, seenOf_put]
    kept := by simp only [h.kept, keptOf_put]
    sum := by simp only [h.seen, h.sum]; rw [allSum_put]
    ksum := by simp only [h.kept, h.ksum]; rw [allKept_put]
    nf := hm }
theorem Pl.put_same (p : Pl) (s : ByteArray) (a b : List Int) (ha : a = p.seen s) (hb : b = p.kept s) (k : Nat) :
    ({ p with seen := upd p.seen s a, kept := upd p.kept s b, sum := p.sum - (p.seen s).length + a.length, ksum := p.ksum - (p.kept s).length + b.length, nf := k } : Pl) = { p with nf := k } := by
  subst ha hb
  simp only [upd_self]
  congr 1 <;> omega
/-- at's disk -/
theorem Of.at_ {x : Dd} {p : Pl} (h : Of x p) (e : Fe) (m : Nat) (hm : m ≤ x.mn + 1) (hs : e.seen = seenOf x.fs e.nm) (hk : e.kept = keptOf x.fs e.nm) : Of { x with fs := putF x.fs e, mn := m } p.at_ := by
  have := h.put e m (p.nf + 1) (by have := h.nf; omega)
  rw [Pl.put_same p e.nm e.seen e.kept (by rw [h.seen]; exact hs) (by rw [h.kept]; exact hk)] at this
  exact this
theorem Of.seen_eq {x : Dd} {p : Pl} (h : Of x p) (s : ByteArray) : seenOf x.fs s = p.seen s := by rw [h.seen]
theorem Of.kept_eq {x : Dd} {p : Pl} (h : Of x p) (s : ByteArray) : keptOf x.fs s = p.kept s := by rw [h.kept]
/-- what is seen of a file is put anew -/
theorem Of.setSeen {x : Dd} {p : Pl} (h : Of x p) (e : Fe) (hk : e.kept = keptOf x.fs e.nm) : Of { x with fs := putF x.fs e } (p.setSeen e.nm e.seen) := by
  have := h.put e x.mn p.nf h.nf
  have e1 : p.ksum - (p.kept e.nm).length + e.kept.length = p.ksum := by rw [hk, h.kept]; omega
  have e2 : upd p.kept e.nm e.kept = p.kept := by rw [hk, ← h.kept, upd_self]
  rw [e1, e2] at this
  exact this
theorem Of.setKept {x : Dd} {p : Pl} (h : Of x p) (e : Fe) (hk : e.seen = seenOf x.fs e.nm) : Of { x with fs := putF x.fs e } (p.setKept e.nm e.kept) := by
  have := h.put e x.mn p.nf h.nf
  have e1 : p.sum - (p.seen e.nm).length + e.seen.length = p.sum := by rw [hk, h.seen]; omega
  have e2 : upd p.seen e.nm e.seen = p.seen := by rw [hk, ← h.seen, upd_self]
  rw [e1, e2] at this
  exact this
/-- what a call makes of a disk: its plain state, its blocks, the world -/
def To (n0 : Nat) (w : World) (x : Dd) (p' : Pl) (w' : World) : Prop :=
  ∃ x', Dk n0 w' x' ∧ Of x' p' ∧ x'.db = x.db ∧ Kp x.O w w' ∧ ∀ b, x'.O b → x.O b ∨ w.heap.size ≤ b
theorem To.refl {n0 : Nat} {w : World} {x : Dd} {p : Pl} (h : Dk n0 w x) (hp : Of x p) : To n0 w x p w := ⟨x, h, hp, rfl, Kp.refl _ _, fun _ q => .inl q⟩
theorem To.trans {n0 : Nat} {w w1 w2 : World} {x x1 : Dd} {p2 : Pl} (h : To n0 w1 x1 p2 w2) (hdb : x1.db = x.db) (k : Kp x.O w w1) (ho : ∀ b, x1.O b → x.O b ∨ w.heap.size ≤ b) : To n0 w x p2 w2 := by
  obtain ⟨x2, hd, hof, e, k2, ho2⟩ := h
  refine ⟨x2, hd, hof, e.trans hdb, k.trans k2 (fun i hi q => ?_), fun b hb => ?_⟩
  · rcases ho i q with q | q
    · exact q
    · omega
  · rcases ho2 b hb with q | q
    · exact ho b q
    · exact .inr (Nat.le_trans k.size q)
theorem To.quiet {n0 : Nat} {w w1 w2 : World} {x : Dd} {p2 : Pl} (h : To n0 w1 x p2 w2) (k : Kp NoB w w1) (hx : Dk n0 w x) : To n0 w x p2 w2 :=
  h.trans rfl (k.mono (fun _ _ q => q.elim)) (fun _ q => .inl q)
end Go.Proofs.Ytegcbdfilkecpaa
/- A change of the stand-in disk as a value of 67 cells; no condition. -/
namespace Go.Proofs.Ytegcbdfilkecpaa
open Go.RowKit

theorem infoCg : (Try.prog.info? 148).map (fun i => (i.zero, i.size, i.bytes)) = some (some (.agg ((#[.string ⟨#[]⟩, .int .i64 0, .int .i64 0] : Array Value) ++ Array.replicate 64 (.int .u8 0))), 67, 96) := by kernel_rfl
def cgL (s : ByteArray) (sec n : Int) (l : List Int) : List Value := .string s :: .int .i64 sec :: .int .i64 n :: l.map (Value.int .u8)
def cgA (s : ByteArray) (sec n : Int) (l : List Int) : Array Value := (cgL s sec n l).toArray
theorem cgA_size (s : ByteArray) (sec n : Int) (l : List Int) : (cgA s sec n l).size = l.length + 3 := by simp [cgA, cgL]
theorem cgA_one (s : ByteArray) (sec n : Int) (l : List Int) : ∀ u ∈ cgL s sec n l, u.oneCell' = true := by
  intro u hu
  unfold cgL at hu
  simp only [List.mem_cons] at hu
  rcases hu with rfl | rfl | rfl | hu
  · rfl
  · rfl
  · rfl
  · exact u8_one l u hu
theorem buildCg3 (w : World) (s : ByteArray) (sec n : Int) : (Instr.build 148 #[(0, .string s), (1, .int .i64 sec), (2, .int .i64 n)]).run Try.prog w = .ok (.agg (cgA s sec n (zeros 64))) w := by kernel_rfl
theorem buildCg2 (w : World) (s : ByteArray) (sec : Int) : (Instr.build 148 #[(0, .string s), (1, .int .i64 sec)]).run Try.prog w = .ok (.agg (cgA s sec 0 (zeros 64))) w := by kernel_rfl
theorem exBuildCg3 (w : World) (ev : Operand → Value) (x y z : Operand) (s : ByteArray) (sec n : Int) (ds : Option Tmp) (ty : TypeId) (ps : String) (af : Array Edge) (g : Option (Nat × Bool)) (hx : ev x = .string s) (hy : ev y = .int .i64 sec) (hz : ev z = .int .i64 n) :
    (execOp ev ⟨ds, .build 148 #[(0, x), (1, y), (2, z)], ty, ps, af, g⟩).run Try.prog w = .ok (.value (.agg (cgA s sec n (zeros 64)))) w := by
  simp only [execOp, List.map_toArray, List.map_cons, List.map_nil, hx, hy, hz, Sem.run_bind, buildCg3, Result.andThen_ok]
  rfl
theorem exBuildCg2 (w : World) (ev : Operand → Value) (x y : Operand) (s : ByteArray) (sec : Int) (ds : Option Tmp) (ty : TypeId) (ps : String) (af : Array Edge) (g : Option (Nat × Bool)) (hx : ev x = .string s) (hy : ev y = .int .i64 sec) :
    (execOp ev ⟨ds, .build 148 #[(0, x), (1, y)], ty, ps, af, g⟩).run Try.prog w = .ok (.value (.agg (cgA s sec 0 (zeros 64)))) w := by
  simp only [execOp, List.map_toArray, List.map_cons, List.map_nil, hx, hy, Sem.run_bind, buildCg2, Result.andThen_ok]
  rfl
theorem sliceCg (w : World) (cs : Array Value) (hs : cs.size = 67) : (Instr.buildSlice 119 1 #[(0, .agg cs)]).run Try.prog w = .ok (.slice (some ⟨w.heap.size, 0, none⟩) 1 1) (w.alloc (.cells cs 148)) := by
  obtain ⟨i, hi, h0, h1, h2⟩ := info_parts infoCg
  have hu := Try.underlying119
  have hz : (zeroValue 148).run Try.prog w = .ok (.agg (cgA ⟨#[]⟩ 0 0 (zeros 64))) w := by kernel_rfl
  have hc : (Value.agg cs).cells = cs := rfl
  have hf : ∀ Z : Array Value, Z.size = 67 → Instr.fill (fun i => some (i * 67, 67)) Z [(0, .agg cs)] = some cs := fun Z hZ => by
    have := Go.Great.fill_whole (s := 67) (by omega) [.agg cs] Z (by simp [hc, hs]) (by simp [hZ])
    simpa [hc] using this
  simp [Instr.buildSlice, run_underlying hu, sizeOf, typeInfo, hi, h1, hz, newRow, newObj]
  rw [hf _ (by simp)]
  rfl
theorem exSliceCg (w : World) (ev : Operand → Value) (x : Operand) (cs : Array Value) (ds : Option Tmp) (ty : TypeId) (ps : String) (af : Array Edge) (g : Option (Nat × Bool)) (hx : ev x = .agg cs) (hs : cs.size = 67) :
    (execOp ev ⟨ds, .buildSlice 119 1 #[(0, x)], ty, ps, af, g⟩).run Try.prog w = .ok (.value (.slice (some ⟨w.heap.size, 0, none⟩) 1 1)) (w.alloc (.cells cs 148)) := by
  simp only [execOp, List.map_toArray, List.map_cons, List.map_nil, hx, Sem.run_bind, sliceCg w cs hs, Result.andThen_ok]
  rfl
theorem infoCgS : (Try.prog.info? 148).map (·.size) = some 67 := by kernel_rfl
theorem zeroCg (w : World) : (zeroValue 148).run Try.prog w = .ok (.agg (cgA ⟨#[]⟩ 0 0 (zeros 64))) w := by kernel_rfl
theorem loadCg (w : World) (ev : Operand → Value) (ds : Option Tmp) (x : Operand) (ty : TypeId) (ps : String) (af : Array Edge) (g : Option (Nat × Bool)) (h : thereP w (ev x) 67) :
    (execOp ev ⟨ds, .load 148 x, ty, ps, af, g⟩).run Try.prog w = .ok (.value (.agg (readP w (ev x) 67))) w := execLoad_P Try.underlying148 rfl infoCgS w ev ds x ty ps af g h
theorem storeCg (w : World) (ev : Operand → Value) (ds : Option Tmp) (x y : Operand) (ty : TypeId) (ps : String) (af : Array Edge) (g : Option (Nat × Bool)) (hv : aggOK (ev y) 67) (h : thereP w (ev x) 67) :
    (execOp ev ⟨ds, .store 148 x y, ty, ps, af, g⟩).run Try.prog w = .ok .skip (setP w (ev x) (ev y)) := execStore_P infoCgS w ev ds x y ty ps af g hv h
theorem allocCg (w : World) (ev : Operand → Value) (ds : Option Tmp) (ty : TypeId) (ps : String) (af : Array Edge) (g : Option (Nat × Bool)) :
    (execOp ev ⟨ds, .alloc 148, ty, ps, af, g⟩).run Try.prog w = .ok (.value (.pointer (some ⟨w.heap.size, 0, none⟩))) (w.alloc (.cells (cgA ⟨#[]⟩ 0 0 (zeros 64)) 148)) := by
  simp only [execOp, Instr.alloc, Sem.run_bind, zeroCg, Result.andThen_ok]
  rfl
theorem cgA_ones (s : ByteArray) (sec n : Int) (l : List Int) : ones (cgA s sec n l) := by
  unfold ones cgA
  simp only [List.all_toArray', List.all_eq_true]
  exact cgA_one s sec n l
end Go.Proofs.Ytegcbdfilkecpaa
/- Appending to a slice of the call's own: its block behind it is the old one or a new one; no condition. -/
namespace Go.Proofs.Ytegcbdfilkecpaa
open Go.RowKit

section
variable {P : Program}
theorem append_block (w : World) (base : Nat) (t ty e : TypeId) (i : TypeInfo) (z : Value) (size bytes : Nat) (ht : P.underlying t = some (.slice e)) (hi : P.info? e = some i) (hz : i.zero = some z)
    (hsize : i.size = size) (hby : i.bytes = bytes) (hsz : 0 < size) (v : Value) (n : Nat) (xs : List Value) (hown : w.ownsRow base e size v n xs)
    (a : Addr) (m c : Nat) (news : List Value) (hl : news.length = m * size) (hnews : ∀ j u, news[j]? = some u → w.cell? (a.add j) = some u) (h1 : ∀ u ∈ news, u.oneCell' = true)
    (h63 : n + m ≤ maxLen) (hbytes : (n + m) * bytes ≤ 140737488355328) {v' : Value} {w' : World} (hr : (Builtin.append_ #[t, t] ty #[v, .slice (some a) m c]).run P w = .ok v' w') :
    ∀ b, v'.ownBlock = some b → v.ownBlock = some b ∨ w.heap.size ≤ b := by
  intro b hb
  subst hsize hby
  unfold maxLen at h63
  rcases hown.2 with ⟨rfl, rfl⟩ | ⟨g, cap, cur, rfl, hbg, hg, hnc, hcm, hcs, htake⟩
  · have hx : xs = [] := List.eq_nil_of_length_eq_zero (by simpa using hown.1)
    subst hx
    by_cases hm : m = 0
    · subst hm
      have hn : news = [] := List.eq_nil_of_length_eq_zero (by simpa using hl)
      subst hn
      simp [Builtin.append_, run_underlying ht, sizeOf, typeInfo, hi, Builtin.lenOf, Builtin.firstCells, loadCells, loadCellsFrom] at hr
      rw [← hr.1] at hb
      cases hb
    · have hq := run_append_nil (P := P) w t ty e i z ht hi hz a m c news hl hnews (by omega) (by omega) (by have hb := hbytes; simp only [Nat.zero_add] at hb; omega)
      rw [hq] at hr
      injection hr with hv _
      rw [← hv] at hb
      simp only [Value.ownBlock, Option.some.injEq] at hb
      exact .inr (by omega)
  · by_cases hroom : n + m ≤ cap
    · have hfit : n * i.size + news.length ≤ cur.size := by rw [hl, hcs, ← Nat.add_mul]; exact Nat.mul_le_mul_right _ hroom
      have hq := run_append_room (P := P) w t ty e i ht hi g n cap cur hg a m c news hl hnews h1 hroom hfit
      rw [hq] at hr
      injection hr with hv _
      rw [← hv] at hb
      exact .inl hb
    · have hq := run_append_grow (P := P) w t ty e i z ht hi hz ⟨g, 0, none⟩ n cap xs hown.1 (hown.cells (g := g) rfl) a m c news hl hnews (by omega) (by omega) (growslice_fits (by omega) hbytes)
      rw [hq] at hr
      injection hr with hv _
      rw [← hv] at hb
      simp only [Value.ownBlock, Option.some.injEq] at hb
      exact .inr (by omega)
theorem wp_append_ownB {w : World} {o : Oper} {a : Act} {K : Act → World → Prop} {Q : Exit → Act → World → Prop} (s x : Operand) (t : TypeId)
    (ho : o.op = .call { callee := .builtin .append, args := #[s, x], argTypes := #[t, t] })
    (base : Nat) (e : TypeId) (i : TypeInfo) (z : Value) (size bytes : Nat) (ht : P.underlying t = some (.slice e)) (hi : P.info? e = some i) (hz : i.zero = some z)
    (hsize : i.size = size) (hby : i.bytes = bytes) (hzs : z.cells.size = size) (hsz : 0 < size)
    (v : Value) (n : Nat) (xs : List Value) (hs : a.eval s = v) (hown : w.ownsRow base e size v n xs)
    (ad : Addr) (m c : Nat) (news : List Value) (hx : a.eval x = .slice (some ad) m c) (hl : news.length = m * size) (hnews : ∀ j u, news[j]? = some u → w.cell? (ad.add j) = some u) (h1 : ∀ u ∈ news, u.oneCell' = true)
    (h63 : n + m ≤ maxLen) (hbytes : (n + m) * bytes ≤ 140737488355328) (hbase : base ≤ w.heap.size)
    (h : ∀ v' w', w'.ownsRow base e size v' (n + m) (xs ++ news) → w.grownBy w' v.ownBlock → (∀ b, v'.ownBlock = some b → v.ownBlock = some b ∨ w.heap.size ≤ b) → K (a.put o.dst v') w') : o.wp P a w K Q := by
  obtain ⟨v', w', hr, h2, h3, h4⟩ := run_append_own (P := P) w base t o.type e i z size bytes ht hi hz hsize hby hzs hsz v n xs hown ad m c news hl hnews h1 h63 hbytes hbase
  have hb := append_block w base t o.type e i z size bytes ht hi hz hsize hby hsz v n xs hown ad m c news hl hnews h1 h63 hbytes hr
  unfold Oper.wp execOp
  simp only [ho, resolve, invoke, builtin, Sem.run_bind, Sem.run_pure, Result.andThen_ok, List.map_toArray, List.map_cons, List.map_nil, hs, hx, hr]
  exact h v' w' h2 h3 hb
theorem wpList_append_ownB {w : World} {ops : Array Oper} {rest : List Oper} {o : Oper} {a : Act} {Q : Exit → Act → World → Prop} (hgd : o.guard = none) (s x : Operand) (t : TypeId)
    (ho : o.op = .call { callee := .builtin .append, args := #[s, x], argTypes := #[t, t] })
    (base : Nat) (e : TypeId) (i : TypeInfo) (z : Value) (size bytes : Nat) (ht : P.underlying t = some (.slice e)) (hi : P.info? e = some i) (hz : i.zero = some z)
    (hsize : i.size = size) (hby : i.bytes = bytes) (hzs : z.cells.size = size) (hsz : 0 < size)
    (v : Value) (n : Nat) (xs : List Value) (hs : a.eval s = v) (hown : w.ownsRow base e size v n xs)
    (ad : Addr) (m c : Nat) (news : List Value) (hx : a.eval x = .slice (some ad) m c) (hl : news.length = m * size) (hnews : ∀ j u, news[j]? = some u → w.cell? (ad.add j) = some u) (h1 : ∀ u ∈ news, u.oneCell' = true)
    (h63 : n + m ≤ maxLen) (hbytes : (n + m) * bytes ≤ 140737488355328) (hbase : base ≤ w.heap.size)
    (h : ∀ v' w', w'.ownsRow base e size v' (n + m) (xs ++ news) → w.grownBy w' v.ownBlock → (∀ b, v'.ownBlock = some b → v.ownBlock = some b ∨ w.heap.size ≤ b) → wpList P ops Q rest (a.put o.dst v') w') : wpList P ops Q (o :: rest) a w :=
  wpList_plain hgd fun _ hK => wp_append_ownB s x t ho base e i z size bytes ht hi hz hsize hby hzs hsz v n xs hs hown ad m c news hx hl hnews h1 h63 hbytes hbase fun v' w' h2 h3 h4 => hK _ _ (h v' w' h2 h3 h4)
end
end Go.Proofs.Ytegcbdfilkecpaa
/- The stand-in disk: length; conditions: at most 1048576 bytes, at most 2^40 files and changes. -/
namespace Go.Proofs.Ytegcbdfilkecpaa
open Go.RowKit

theorem putF_cons (y : Fe) (r : List Fe) (e : Fe) : putF (y :: r) e = if kOf y.nm = kOf e.nm then e :: r else y :: putF r e := rfl
theorem putF_putF (fs : List Fe) (e e' : Fe) (h : e.nm = e'.nm) : putF (putF fs e) e' = putF fs e' := by
  induction fs with
  | nil => simp [putF, h]
  | cons y r ih =>
    rw [putF_cons, putF_cons, h]
    by_cases hy : kOf y.nm = kOf e'.nm
    · rw [if_pos hy, if_pos hy, putF_cons, if_pos (by rw [h])]
    · rw [if_neg hy, if_neg hy, putF_cons, if_neg hy, ih]
theorem fb_inj {fs : List Fe} (hp : fs.Pairwise fun a b => a.fb ≠ b.fb) {a b : Fe} (ha : a ∈ fs) (hb : b ∈ fs) (h : a.fb = b.fb) : a = b := by
  induction fs with
  | nil => simp at ha
  | cons y r ih =>
    obtain ⟨h1, h2⟩ := List.pairwise_cons.1 hp
    rcases List.mem_cons.1 ha with rfl | ha'
    · rcases List.mem_cons.1 hb with rfl | hb'
      · rfl
      · exact absurd h (h1 b hb')
    · rcases List.mem_cons.1 hb with rfl | hb'
      · exact absurd h.symm (h1 a ha')
      · exact ih h2 ha' hb'
/-- one file's block turns -/
theorem Dk.refile {n0 : Nat} {w w' : World} {x : Dd} (h : Dk n0 w x) {e : Fe} (he : e ∈ x.fs) (k : Kp (OnB e.fb) w w') (e' : Fe) (hnm : e'.nm = e.nm) (hfb : e'.fb = e.fb) (hok : FeOk w' n0 e') : Dk n0 w' { x with fs := putF x.fs e' } := by
  obtain ⟨D, hD, hM⟩ := h.mp
  obtain ⟨u, v, hb, _⟩ := (h.fls e he).blk
  have cne : ∀ g cs t, w.heap[g]? = some (.cells cs t (0, 0)) → 143 ≠ t → ¬ OnB e.fb g := fun g cs t hg hne => onb_cells hb hg hne
  have hmb : ¬ OnB e.fb x.mb := by
    intro q
    obtain ⟨es, cl, hm, _⟩ := hD
    have := hb
    unfold Blk at this
    rw [← show x.mb = e.fb from q, hm] at this
    cases this
  have hf : findF x.fs (kOf e.nm) = some e := h.names.find he
  exact { h with
    blk := h.blk.keep k (cne _ _ _ h.blk (by decide))
    mp := ⟨D, k.map hD hmb, hM.same fun s => by
      rw [putF_find]
      by_cases hs : kOf e'.nm = s
      · rw [if_pos hs, ← hs, hnm, hf]; simp [hfb]
      · rw [if_neg hs]⟩
    names := putF_names h.names _
    fbs := putF_fbs h.fbs h.names (fun y hy hne => by
      intro q
      have := fb_inj h.fbs hy he (q.trans hfb)
      rw [this, hnm] at hne
      exact hne rfl)
    fls := fun y hy => by
      rcases putF_mem hy with rfl | ⟨hm, hne⟩
      · exact hok
      · refine (h.fls y hm).keep k (fun q => ?_) (fun g cs hc => cne g cs _ hc (by decide))
        have := fb_inj h.fbs hm he q
        exact hne h.names (by rw [this, hnm])
    pend := own_keepB h.pend k (fun g hg => by obtain ⟨cs, hc⟩ := own_type h.pend hg; exact cne _ _ _ hc (by decide))
    b2 := fun y hy => by
      rcases putF_mem hy with rfl | ⟨hm, _⟩
      · rw [hfb]; exact h.b2 e he
      · exact h.b2 y hm }
/-- one change more -/
theorem Dk.pended {n0 : Nat} {w w' : World} {x : Dd} (h : Dk n0 w x) (k : Kp (fun b => b = x.db ∨ x.pv.ownBlock = some b) w w') (pv : Value) (pd : List Cg)
    (hb : Blk w' x.db 121 (diskCells { x with pv := pv })) (ho : w'.ownsRow n0 148 67 pv pd.length (cgCells pd)) (hs : ∀ c ∈ pd, CgOk c) : Dk n0 w' { x with pv := pv, pd := pd } := by
  obtain ⟨D, hD, hM⟩ := h.mp
  have cne : ∀ g cs t, w.heap[g]? = some (.cells cs t (0, 0)) → 121 ≠ t → 148 ≠ t → ¬ (g = x.db ∨ x.pv.ownBlock = some g) := by
    rintro g cs t hg h1 h2 (rfl | hq)
    · exact blk_ne h.blk hg h1 rfl
    · obtain ⟨cs', hc⟩ := own_type h.pend hq
      rw [hc] at hg
      simp only [Option.some.injEq, Obj.cells.injEq] at hg
      exact h2 hg.2.1
  have hmb : ¬ (x.mb = x.db ∨ x.pv.ownBlock = some x.mb) := by
    obtain ⟨es, cl, hm, _⟩ := hD
    rintro (q | q)
    · have := h.blk
      unfold Blk at this
      rw [← q, hm] at this
      cases this
    · obtain ⟨cs', hc⟩ := own_type h.pend q
      rw [hm] at hc
      cases hc
  exact { h with
    blk := hb
    mp := ⟨D, k.map hD hmb, hM⟩
    fls := fun e he => (h.fls e he).keep k (by obtain ⟨u, v, hb', _⟩ := (h.fls e he).blk; exact cne _ _ _ hb' (by decide) (by decide)) (fun g cs hc => cne g cs _ hc (by decide) (by decide))
    pend := ho
    s64 := hs }
attribute [local go_sem ↓] exBuildCg3 exBuildCg2 exSliceCg
theorem cgCells_add (pd : List Cg) (c : Cg) : cgCells (pd ++ [c]) = cgCells pd ++ cgL c.nm c.sec c.n (pad64 c.s) := cgCells_snoc pd c
theorem cgA_new (w : World) (s : ByteArray) (sec n : Int) (l : List Int) : ∀ j u, (cgL s sec n l)[j]? = some u → (w.alloc (.cells (cgA s sec n l) 148)).cell? ((⟨w.heap.size, 0, none⟩ : Addr).add j) = some u := by
  intro j u hj
  rw [add_mk, Nat.zero_add, (Blk.new w 148 (cgA s sec n l)).cell]
  simpa [cgA] using hj
theorem O_at {w w' : World} {n0 : Nat} {x : Dd} (h : Dk n0 w x) {e0 : Fe} {m : Nat} (hk : Kp (OnB x.mb) w w') (hfb : (∃ q ∈ x.fs, q.fb = e0.fb) ∨ w.heap.size ≤ e0.fb) :
    Kp x.O w w' ∧ ∀ b, ({ x with fs := putF x.fs e0, mn := m } : Dd).O b → x.O b ∨ w.heap.size ≤ b := by
  refine ⟨hk.mono (fun b _ q => .inr (.inl q)), ?_⟩
  rintro b (q | q | q | ⟨e, he, rfl⟩)
  · exact .inl (.inl q)
  · exact .inl (.inr (.inl q))
  · exact .inl (.inr (.inr (.inl q)))
  · rcases putF_mem he with rfl | ⟨hm, _⟩
    · rcases hfb with ⟨y, hy, e1⟩ | q
      · exact .inl (.inr (.inr (.inr ⟨y, hy, e1.symm⟩)))
      · exact .inr q
    · exact .inl (.inr (.inr (.inr ⟨e, hm, rfl⟩)))
theorem O_put {x : Dd} {e : Fe} (h : ∃ q ∈ x.fs, q.fb = e.fb) : ∀ b, ({ x with fs := putF x.fs e } : Dd).O b → x.O b := by
  rintro b (q | q | q | ⟨y, hy, rfl⟩)
  · exact .inl q
  · exact .inr (.inl q)
  · exact .inr (.inr (.inl q))
  · rcases putF_mem hy with rfl | ⟨hm, _⟩
    · obtain ⟨z, hz, e1⟩ := h
      exact .inr (.inr (.inr ⟨z, hz, e1.symm⟩))
    · exact .inr (.inr (.inr ⟨y, hm, rfl⟩))
theorem Dk.blk1 {n0 : Nat} {w w1 : World} {x : Dd} (h : Dk n0 w x) {o : Obj} (hg : (w.alloc o).grownBy w1 x.pv.ownBlock) : Blk w1 x.db 121 (diskCells x) := by
  have k1 : Kp (fun b => x.pv.ownBlock = some b) w w1 := ((Kp.refl _ w).alloc _).grown hg (fun k q => .inr q)
  refine h.blk.keep k1 (fun q => ?_)
  obtain ⟨cs', hc'⟩ := own_type h.pend q
  exact blk_ne h.blk hc' (by decide) rfl
/-- one change more, the disk's cell stored -/
theorem Dk.pendX {n0 : Nat} {w w1 : World} {x : Dd} (h : Dk n0 w x) {s : ByteArray} {sec n : Int} {l : List Int} (hc : CgOk ⟨s, sec, n, l⟩) {pv : Value} {cs : Array Value}
    (hown : w1.ownsRow n0 148 67 pv (x.pd.length + 1) (cgCells x.pd ++ cgL s sec n (pad64 l))) (hg : (w.alloc (.cells cs 148)).grownBy w1 x.pv.ownBlock)
    (hb : ∀ b, pv.ownBlock = some b → x.pv.ownBlock = some b ∨ (w.alloc (.cells cs 148)).heap.size ≤ b) :
    Dk n0 (w1.setCell ⟨x.db, 1, none⟩ pv) { x with pv := pv, pd := x.pd ++ [⟨s, sec, n, l⟩] } ∧ Kp (fun b => b = x.db ∨ x.pv.ownBlock = some b) w (w1.setCell ⟨x.db, 1, none⟩ pv) ∧ ∀ b, pv.ownBlock = some b → x.pv.ownBlock = some b ∨ w.heap.size ≤ b := by
  have k1 : Kp (fun b => x.pv.ownBlock = some b) w w1 := ((Kp.refl _ w).alloc _).grown hg (fun k q => .inr q)
  have hdb : ¬ x.pv.ownBlock = some x.db := by
    intro q
    obtain ⟨cs', hc'⟩ := own_type h.pend q
    exact blk_ne h.blk hc' (by decide) rfl
  have hB : Blk w1 x.db 121 (diskCells x) := h.blk.keep k1 hdb
  have k2 : Kp (fun b => b = x.db ∨ x.pv.ownBlock = some b) w (w1.setCell ⟨x.db, 1, none⟩ pv) := (k1.mono (S' := fun b => b = x.db ∨ x.pv.ownBlock = some b) (fun _ _ q => .inr q)).setAt (.inl rfl) _ _
  have hsz : (w.alloc (.cells cs 148)).heap.size = w.heap.size + 1 := by simp
  refine ⟨h.pended k2 pv (x.pd ++ [⟨s, sec, n, l⟩]) (by
    have := hB.set_ 1 pv
    simpa [diskCells] using this) (by
    rw [cgCells_add, List.length_append]
    refine own_keepB hown ((Kp.refl (OnB x.db) w1).setAt rfl 1 pv) (fun g hg' q => ?_)
    obtain ⟨cs', hc'⟩ := own_type hown hg'
    rw [show g = x.db from q] at hc'
    exact blk_ne hB hc' (by decide) rfl) (fun c hc' => by
    rcases List.mem_append.1 hc' with q | q
    · exact h.s64 c q
    · rw [List.mem_singleton.1 q]; exact hc), k2, fun b q => ?_⟩
  rcases hb b q with q | q
  · exact .inl q
  · exact .inr (by omega)
theorem O_pend {w : World} {x : Dd} {pv : Value} {pd : List Cg} (hb : ∀ b, pv.ownBlock = some b → x.pv.ownBlock = some b ∨ w.heap.size ≤ b) : ∀ b, ({ x with pv := pv, pd := pd } : Dd).O b → x.O b ∨ w.heap.size ≤ b := by
  rintro b (q | q | q | q)
  · exact .inl (.inl q)
  · exact .inl (.inr (.inl q))
  · rcases hb b q with q | q
    · exact .inl (.inr (.inr (.inl q)))
    · exact .inr q
  · exact .inl (.inr (.inr (.inr q)))
theorem Kp.pendO {w w' : World} {x : Dd} (k : Kp (fun b => b = x.db ∨ x.pv.ownBlock = some b) w w') : Kp x.O w w' := k.mono (fun b _ q => by
  rcases q with q | q
  · exact .inl q
  · exact .inr (.inr (.inl q)))
theorem Dk.pend1 {n0 : Nat} {w w1 : World} {x : Dd} (h : Dk n0 w x) {p : Pl} (hp : Of x p) {s : ByteArray} {sec n : Int} {l : List Int} (hc : CgOk ⟨s, sec, n, l⟩) {pv : Value} {cs : Array Value}
    (hown : w1.ownsRow n0 148 67 pv (x.pd.length + 1) (cgCells x.pd ++ cgL s sec n (pad64 l))) (hg : (w.alloc (.cells cs 148)).grownBy w1 x.pv.ownBlock)
    (hb : ∀ b, pv.ownBlock = some b → x.pv.ownBlock = some b ∨ (w.alloc (.cells cs 148)).heap.size ≤ b) :
    To n0 w x (p.pend [⟨s, sec, n, l⟩]) (w1.setCell ⟨x.db, 1, none⟩ pv) := by
  obtain ⟨hd, k2, hb2⟩ := h.pendX hc hown hg hb
  exact ⟨_, hd, { hp with pd := by simp only [Pl.pend, hp.pd] }, rfl, k2.pendO, O_pend hb2⟩
set_option maxRecDepth 100000 in
set_option maxHeartbeats 800000 in
theorem length_ok (w : World) (n0 : Nat) (x : Dd) (p : Pl) (s : ByteArray) (n : Nat) (hs : s.size ≤ maxLen) (hm : p.nf < 1099511627776) (hpd : p.pd.length < 1099511627776) (hn : n ≤ 1048576) (hn0 : n0 ≤ w.heap.size) (h : Dk n0 w x) (hp : Of x p) :
    Calls Try.prog 132 #[ptrV x.db, .string s, .int .i64 n] w fun e w' => e = .returned (.tuple #[]) ∧ To n0 w x (p.length s n) w' := by
  have H := Lib.hid h
  have HP := Lib.hid hp
  have HS := Lib.hid hs
  have HN0 := Lib.hid hn0
  have HPD := Lib.hid hpd
  have hsl := seen_le h s
  obtain ⟨l, hl⟩ : ∃ l, seenOf x.fs s = l := ⟨_, rfl⟩
  have HL := Lib.hid hl
  rw [hl] at hsl
  obtain ⟨m, hml⟩ : ∃ m, l.length = m := ⟨_, rfl⟩
  have HML := Lib.hid hml
  rw [hml] at hsl
  have HMN : Hid (x.mn < 1099511627776) := Lib.hid (by have := hp.nf; omega)
  obtain ⟨db, hdb⟩ : ∃ db, x.db = db := ⟨_, rfl⟩
  have HX := Lib.hid hdb
  rw [hdb]
  clear h hs hn0 hpd hl hml hdb hm hp
  by_cases hnm : n = m
  · subst hnm
    unfold ptrV
    go_enter Try.func132, Try.ntmps132
    go_wp2_with fail
    refine (show Calls _ _ #[ptrV db, .string s] _ _ by rw [← HX.out]; exact at_ok _ n0 x s HS.out HMN.out HN0.out H.out).mono ?_
    rintro e w2 ⟨e0, m2, rfl, hd2, hm2, hnm2, hsn2, hkp2, hk2, hfb2⟩
    rw [HL.out] at hsn2
    have HD2 := Lib.hid hd2
    have HE2 := Lib.hid (show m2 ≤ x.mn + 1 ∧ e0.nm = s ∧ e0.seen = l ∧ e0.kept = keptOf x.fs s from ⟨hm2, hnm2, hsn2, hkp2⟩)
    have HK2 := Lib.hid hk2
    have HFB := Lib.hid hfb2
    have HF0 := Lib.hid (findF_some (show findF (putF x.fs e0) (kOf e0.nm) = some e0 by rw [putF_find, if_pos rfl])).1
    obtain ⟨u, v, hb, hu, hv⟩ := (hd2.fls e0 HF0.out).blk
    obtain ⟨A, cap, rfl⟩ := hu.form
    rw [hsn2, HML.out] at hu hb
    have c1 : w2.cell? ⟨e0.fb, 0, none⟩ = some (.slice A n cap) := by rw [hb.cell]; rfl
    rw [show ptrV e0.fb = .pointer (some ⟨e0.fb, 0, none⟩) from rfl]
    clear hb hu hv hd2 hm2 hnm2 hsn2 hkp2 hk2 hfb2
    go_wp2_with fail
    have hO := O_at (m := m2) H.out HK2.out HFB.out
    refine bodyPost_end (results_none rfl _ _ _) rfl ⟨rfl, _, HD2.out, ?_, rfl, hO.1, hO.2⟩
    unfold Pl.length
    rw [if_pos (by rw [← HP.out.seen_eq, HL.out, HML.out])]
    exact HP.out.at_ e0 m2 HE2.out.1 (by rw [HE2.out.2.1, HE2.out.2.2.1, HL.out]) (by rw [HE2.out.2.1, HE2.out.2.2.2])
  · have hne : ((n : Int) != m) = true := by rw [bne_iff_ne]; omega
    obtain ⟨j0, hj0, hy0, hy1, hy2⟩ := info_parts infoCg
    have HJ0 := Lib.hid hj0
    have HY0 := Lib.hid hy0
    have HY1 := Lib.hid hy1
    have HY2 := Lib.hid hy2
    have HN := Lib.hid hn
    have HSL := Lib.hid hsl
    have HNM := Lib.hid hnm
    clear hj0 hy0 hy1 hy2
    clear hnm
    unfold ptrV
    go_enter Try.func132, Try.ntmps132
    go_wp2_with fail
    refine (show Calls _ _ #[ptrV db, .string s] _ _ by rw [← HX.out]; exact at_ok _ n0 x s HS.out HMN.out HN0.out H.out).mono ?_
    rintro e w2 ⟨e0, m2, rfl, hd2, hm2, hnm2, hsn2, hkp2, hk2, hfb2⟩
    rw [HL.out] at hsn2
    have HD2 := Lib.hid hd2
    have HE2 := Lib.hid (show m2 ≤ x.mn + 1 ∧ e0.nm = s ∧ e0.seen = l ∧ e0.kept = keptOf x.fs s from ⟨hm2, hnm2, hsn2, hkp2⟩)
    have HK2 := Lib.hid hk2
    have HFB := Lib.hid hfb2
    have HF0 := Lib.hid (findF_some (show findF (putF x.fs e0) (kOf e0.nm) = some e0 by rw [putF_find, if_pos rfl])).1
    have HO2 := Lib.hid (O_at (m := m2) H.out hk2 hfb2)
    have HP2 := Lib.hid (HP.out.at_ e0 m2 hm2 (by rw [hsn2, hnm2, HL.out]) (by rw [hkp2, hnm2]))
    obtain ⟨u, v, hb, hu, hv⟩ := (hd2.fls e0 HF0.out).blk
    obtain ⟨A, cap, rfl⟩ := hu.form
    rw [hsn2, HML.out] at hu hb
    have HB2 := Lib.hid hb
    have HU := Lib.hid hu
    have HV := Lib.hid hv
    have c1 : w2.cell? ⟨e0.fb, 0, none⟩ = some (.slice A m cap) := by rw [hb.cell]; rfl
    rw [show ptrV e0.fb = .pointer (some ⟨e0.fb, 0, none⟩) from rfl]
    clear hb hu hv hd2 hm2 hnm2 hsn2 hkp2 hk2 hfb2
    go_wp2_with fail
    refine (grow_ok w2 n0 e0.fb 0 _ A m cap l n HML.out HSL.out HN.out (Nat.le_trans HN0.out HK2.out.size) HB2.out rfl HU.out).mono ?_
    rintro e w3 ⟨rfl, B, c2, hb3, hq3, hk3⟩
    have hd3 := HD2.out.refile HF0.out hk3 { e0 with seen := sizedF l n } rfl rfl ⟨⟨.slice B n c2, v, by simpa using hb3, by simp only [sizedF_len]; exact hq3, HV.out.keep hk3 (fun g cs hc q => onb_cells HB2.out hc (by decide) q)⟩, by simp only [sizedF_len]; exact HN.out, (HD2.out.fls e0 HF0.out).lk⟩
    have HD3 := Lib.hid hd3
    have HK3 := Lib.hid hk3
    have c30 : w3.cell? ⟨db, 1, none⟩ = some x.pv := by rw [← HX.out, hd3.blk.cell]; rfl
    have z30 : w3.frozen? ⟨db, 1, none⟩ = false := by rw [← HX.out]; exact hd3.blk.frozen 1
    have HPV := Lib.hid hd3.pend
    have HLT := Lib.hid hd3.blk.lt
    have HBDB := Lib.hid hd3.blk
    have cz : ∀ s sec n, (cgA s sec n (zeros 64)).size = 67 := fun s sec n => by rw [cgA_size]; rfl
    have hn03 : n0 ≤ w3.heap.size := Nat.le_trans HN0.out (Nat.le_trans HK2.out.size HK3.out.size)
    have HN3 := Lib.hid hn03
    have HPD2 : Hid (x.pd.length < 1099511627776) := Lib.hid (by rw [← HP.out.pd]; exact HPD.out)
    have HP3 := Lib.hid (HP2.out.setSeen { e0 with seen := sizedF l n } (by simp only [keptOf_put, upd_same]))
    have HCG : Hid (CgOk ⟨s, -1, n, []⟩) := Lib.hid ⟨.inl ⟨rfl, rfl, by simp, by have := HN.out; simp; omega⟩, by simp, HS.out⟩
    clear hb3 hq3 hk3 hd3 c1 hn03
    go_wp2_with (at_builtin; refine wpList_append_ownB rfl _ _ 119 rfl n0 148 j0 _ 67 96 Try.underlying119 HJ0.out HY0.out HY1.out HY2.out rfl (by omega) _ x.pd.length (cgCells x.pd) rfl (HPV.out.kept (World.grownBy_alloc _ _ none) (by cases x.pv.ownBlock <;> simp)) ⟨w3.heap.size, 0, none⟩ 1 1 (cgL s (-1) n (zeros 64)) rfl rfl (cgA_new w3 _ _ _ _) (cgA_one _ _ _ _) (by have := HPD2.out; unfold maxLen; omega) (by have := HPD2.out; omega) (by simp; have := HN3.out; omega) ?_; intro v4 w4 hown4 hgrow4 hb4; have hbb := HD3.out.blk1 hgrow4; obtain ⟨A4, k4, rfl⟩ := own_slice hown4; have HT4 := Lib.hid (HD3.out.pend1 HP3.out HCG.out hown4 hgrow4 hb4); have c4 : w4.cell? ⟨db, 1, none⟩ = some x.pv := (by rw [← HX.out, hbb.cell]; rfl); have z4 : w4.frozen? ⟨db, 1, none⟩ = false := (by rw [← HX.out]; exact hbb.frozen 1); clear hown4 hgrow4 hb4 hbb)
    refine bodyPost_end (results_none rfl _ _ _) rfl ⟨rfl, ?_⟩
    have hF := HF0.out
    have k3 : Kp x.O w w3 := HO2.out.1.trans HK3.out (fun i hi q => by
      rcases HO2.out.2 i (.inr (.inr (.inr ⟨e0, hF, q⟩))) with q | q
      · exact q
      · omega)
    have hT := HT4.out.trans (w := w) (x := x) rfl k3 (fun b hb => HO2.out.2 b (O_put (x := { x with fs := putF x.fs e0, mn := m2 }) (e := { e0 with seen := sizedF l n }) ⟨e0, hF, rfl⟩ b hb))
    have e1 : p.length s n = (p.at_.setSeen s (sizedF l n)).pend [⟨s, -1, n, []⟩] := by
      unfold Pl.length
      rw [← HP.out.seen_eq, HL.out, if_neg (by rw [HML.out]; intro q; subst q; simp at hne)]
    rw [e1, ← HX.out]
    have e2 : e0.nm = s := HE2.out.2.1
    rw [e2] at hT
    exact hT
end Go.Proofs.Ytegcbdfilkecpaa
/- The stand-in disk: Write, refused; no condition but on the texts' lengths. -/
namespace Go.Proofs.Ytegcbdfilkecpaa
open Go.RowKit

theorem wrong_p (w : World) (n0 : Nat) (x : Dd) (p : Pl) (h : Dk n0 w x) (hp : Of x p) (d : Bool) (hd : p.down = d) : Calls Try.prog 80 #[ptrV x.db] w fun e w' => e = .returned (.int .i64 (if d then 7 else 0)) ∧ w = w' := by
  have := wrong_ok w n0 x h
  rw [← hp.down, hd] at this
  exact this
theorem step_p (w : World) (n0 : Nat) (x : Dd) (p : Pl) (h : Dk n0 w x) (hp : Of x p) :
    Calls Try.prog 130 #[ptrV x.db] w fun e w' => e = .returned (.int .i64 p.stepE) ∧ To n0 w x p.step w' :=
  (step_ok w n0 x h).mono fun e w' ⟨he, hd, hk⟩ => ⟨by rw [he]; unfold stepE Pl.stepE; rw [hp.crash], stepF x, hd, { hp with steps := by simp only [Pl.step, stepF, hp.steps], crash := by simp only [Pl.step, stepF, hp.crash], down := by simp only [Pl.step, stepF, hp.crash, hp.down] }, rfl, hk.mono (fun _ _ q => .inl q), fun b hb => .inl hb⟩
def WrPost (n0 : Nat) (w : World) (x : Dd) (p : Pl) (s : ByteArray) (a : Int) (d : List Int) (e : Ending) (w' : World) : Prop := e = .returned (.int .i64 (p.writeE s a d)) ∧ To n0 w x (p.write s a d) w'
set_option maxRecDepth 100000 in
set_option maxHeartbeats 800000 in
theorem write_down (w : World) (n0 : Nat) (x : Dd) (p : Pl) (s : ByteArray) (a : Int) (d : ByteArray) (h : Dk n0 w x) (hp : Of x p) (hd : p.down = true) :
    Calls Try.prog 78 #[ptrV x.db, .string s, .int .i64 a, .string d] w (WrPost n0 w x p s a (strI d)) := by
  have H := Lib.hid h
  have HP := Lib.hid hp
  have HD := Lib.hid hd
  obtain ⟨db, hdb⟩ : ∃ db, x.db = db := ⟨_, rfl⟩
  have HX := Lib.hid hdb
  rw [hdb]
  clear h hp hd hdb
  unfold ptrV
  go_enter Try.func78, Try.ntmps78
  go_wp2_with (go_at_call 80; go_must (refine (show Calls _ _ #[ptrV db] _ _ by rw [← HX.out]; exact wrong_p _ n0 x p H.out HP.out true HD.out).mono ?_); rintro e w2 ⟨rfl, rfl⟩)
  go_ret
  exact ⟨by unfold Pl.writeE; simp [HD.out], by unfold Pl.write; simp only [HD.out, true_or, if_true]; exact To.refl H.out HP.out⟩
set_option maxRecDepth 100000 in
set_option maxHeartbeats 800000 in
theorem write_neg (w : World) (n0 : Nat) (x : Dd) (p : Pl) (s : ByteArray) (a : Int) (d : ByteArray) (h : Dk n0 w x) (hp : Of x p) (hd : p.down = false) (ha : a < 0) :
    Calls Try.prog 78 #[ptrV x.db, .string s, .int .i64 a, .string d] w (WrPost n0 w x p s a (strI d)) := by
  have H := Lib.hid h
  have HP := Lib.hid hp
  have HD := Lib.hid hd
  obtain ⟨db, hdb⟩ : ∃ db, x.db = db := ⟨_, rfl⟩
  have HX := Lib.hid hdb
  rw [hdb]
  clear h hp hd hdb
  unfold ptrV
  go_enter Try.func78, Try.ntmps78
  go_wp2_with (go_at_call 80; go_must (refine (show Calls _ _ #[ptrV db] _ _ by rw [← HX.out]; exact wrong_p _ n0 x p H.out HP.out false HD.out).mono ?_); rintro e w2 ⟨rfl, rfl⟩)
  go_ret
  exact ⟨by unfold Pl.writeE; simp [HD.out, ha], by unfold Pl.write; simp only [HD.out, ha, true_or, or_true, if_true]; exact To.refl H.out HP.out⟩
set_option maxRecDepth 100000 in
set_option maxHeartbeats 800000 in
theorem write_long (w : World) (n0 : Nat) (x : Dd) (p : Pl) (s : ByteArray) (a : Int) (d : ByteArray) (h : Dk n0 w x) (hp : Of x p) (hd : p.down = false) (ha : 0 ≤ a) (hds : d.size ≤ maxLen) (hl : 1048576 < a ∨ 1048576 - a < d.size) :
    Calls Try.prog 78 #[ptrV x.db, .string s, .int .i64 a, .string d] w (WrPost n0 w x p s a (strI d)) := by
  have H := Lib.hid h
  have HP := Lib.hid hp
  have HD := Lib.hid hd
  have HL := Lib.hid hl
  obtain ⟨db, hdb⟩ : ∃ db, x.db = db := ⟨_, rfl⟩
  have HX := Lib.hid hdb
  rw [hdb]
  unfold maxLen at hds
  have hna : ¬ a < 0 := by omega
  have fin : ∀ w2, w = w2 → WrPost n0 w x p s a (strI d) (.returned (.int .i64 3)) w2 := by
    rintro w2 rfl
    have hl' := HL.out
    exact ⟨by unfold Pl.writeE; simp only [HD.out, strI_len]; rw [if_neg (by simp), if_neg hna, if_pos hl'], by unfold Pl.write; simp only [HD.out, strI_len]; rw [if_pos (.inr (.inr hl'))]; exact To.refl H.out HP.out⟩
  have FIN := Lib.hid fin
  clear h hp hd hdb hl fin
  unfold ptrV
  by_cases h1 : 1048576 < a
  · go_enter Try.func78, Try.ntmps78
    go_wp2_with (go_at_call 80; go_must (refine (show Calls _ _ #[ptrV db] _ _ by rw [← HX.out]; exact wrong_p _ n0 x p H.out HP.out false HD.out).mono ?_); rintro e w2 ⟨rfl, rfl⟩)
    go_ret
    exact FIN.out _ rfl
  · have h2 : 1048576 - a < d.size := by have := HL.out; omega
    go_enter Try.func78, Try.ntmps78
    go_wp2_with (go_at_call 80; go_must (refine (show Calls _ _ #[ptrV db] _ _ by rw [← HX.out]; exact wrong_p _ n0 x p H.out HP.out false HD.out).mono ?_); rintro e w2 ⟨rfl, rfl⟩)
    go_ret
    exact FIN.out _ rfl
set_option maxRecDepth 100000 in
set_option maxHeartbeats 800000 in
theorem write_none (w : World) (n0 : Nat) (x : Dd) (p : Pl) (s : ByteArray) (a : Int) (d : ByteArray) (h : Dk n0 w x) (hp : Of x p) (hd : p.down = false) (ha : 0 ≤ a) (ha2 : a ≤ 1048576) (hz : d.size = 0) :
    Calls Try.prog 78 #[ptrV x.db, .string s, .int .i64 a, .string d] w (WrPost n0 w x p s a (strI d)) := by
  obtain rfl : d = ⟨#[]⟩ := by
    cases d with | mk a => simp [ByteArray.size] at hz; simp [hz]
  have H := Lib.hid h
  have HP := Lib.hid hp
  have HD := Lib.hid hd
  obtain ⟨db, hdb⟩ : ∃ db, x.db = db := ⟨_, rfl⟩
  have HX := Lib.hid hdb
  rw [hdb]
  have hna : ¬ a < 0 := by omega
  have fin : ∀ w2, To n0 w x p.step w2 → WrPost n0 w x p s a (strI ⟨#[]⟩) (.returned (.int .i64 p.stepE)) w2 := by
    intro w2 h2
    have e0 : strI ⟨#[]⟩ = [] := rfl
    rw [e0]
    exact ⟨by unfold Pl.writeE; simp only [HD.out, List.length_nil]; rw [if_neg (by simp), if_neg hna, if_neg (by omega)]; simp, by unfold Pl.write; simp only [HD.out, List.length_nil]; rw [if_neg (by simp; omega)]; simpa using h2⟩
  have FIN := Lib.hid fin
  clear h hp hd hdb hz fin
  unfold ptrV
  go_enter Try.func78, Try.ntmps78
  go_wp2_with (first
    | (go_at_call 80; go_must (refine (show Calls _ _ #[ptrV db] _ _ by rw [← HX.out]; exact wrong_p _ n0 x p H.out HP.out false HD.out).mono ?_); rintro e w2 ⟨rfl, rfl⟩)
    | (go_at_call 130; go_must (refine (show Calls _ _ #[ptrV db] _ _ by rw [← HX.out]; exact step_p _ n0 x p H.out HP.out).mono ?_); rintro e w3 ⟨rfl, ht3⟩; have HT := Lib.hid ht3; clear ht3))
  go_ret
  exact FIN.out _ HT.out
end Go.Proofs.Ytegcbdfilkecpaa
/- The stand-in disk: Write, no room; no condition but on the texts' lengths. -/
namespace Go.Proofs.Ytegcbdfilkecpaa
open Go.RowKit

theorem str_empty1 (s : ByteArray) : s.toList.isEmpty = decide (s.size = 0) := by
  have h : s.toList = s.data.toList := ByteArray.toList_eq s
  rw [h]
  have : s.size = s.data.toList.length := by simp
  rw [this]
  cases s.data.toList <;> simp
theorem str_empty0 {d : ByteArray} (h : 0 < d.size) : d.toList.isEmpty = false := by
  rw [str_empty1]
  exact decide_eq_false (by omega)
set_option maxRecDepth 100000 in
set_option maxHeartbeats 800000 in
theorem write_full (w : World) (n0 : Nat) (x : Dd) (p : Pl) (s : ByteArray) (a : Int) (d : ByteArray) (h : Dk n0 w x) (hp : Of x p) (hs : s.size ≤ maxLen) (hd : p.down = false) (ha : 0 ≤ a) (ha2 : a + d.size ≤ 1048576) (hz : 0 < d.size)
    (hf : p.fits s (max (a + d.size) (p.seen s).length) ≠ 0) :
    Calls Try.prog 78 #[ptrV x.db, .string s, .int .i64 a, .string d] w (WrPost n0 w x p s a (strI d)) := by
  have H := Lib.hid h
  have HP := Lib.hid hp
  have HD := Lib.hid hd
  have HS := Lib.hid hs
  obtain ⟨db, hdb⟩ : ∃ db, x.db = db := ⟨_, rfl⟩
  have HX := Lib.hid hdb
  rw [hdb]
  have hna : ¬ a < 0 := by omega
  have ha3 : ¬ 1048576 < a := by omega
  have ha4 : ¬ 1048576 - a < d.size := by omega
  obtain ⟨f, hff⟩ : ∃ f, p.fits s (max (a + d.size) (p.seen s).length) = f := ⟨_, rfl⟩
  rw [hff] at hf
  have HF := Lib.hid hff
  have hf2 : (f != 0) = true := by simpa using hf
  have HF2 := Lib.hid hf
  obtain ⟨was, hwas⟩ : ∃ m, (seenOf x.fs s).length = m := ⟨_, rfl⟩
  have hwl := seen_le h s
  rw [hwas] at hwl
  have HW := Lib.hid hwas
  have hne := str_empty0 hz
  have HMX := Lib.hid (show (a + d.size < was → p.fits s was = f) ∧ (was ≤ a + d.size → p.fits s (a + d.size) = f) by
    rw [← HP.out.seen_eq, HW.out] at HF
    exact ⟨fun q => by rw [← HF.out, Int.max_eq_right (by omega)], fun q => by rw [← HF.out, Int.max_eq_left (by omega)]⟩)
  clear h hp hd hdb hff hf hs hwas
  unfold ptrV
  go_enter Try.func78, Try.ntmps78
  go_wp2_with (first
    | (go_at_call 80; go_must (refine (show Calls _ _ #[ptrV db] _ _ by rw [← HX.out]; exact wrong_p _ n0 x p H.out HP.out false HD.out).mono ?_); rintro e w2 ⟨rfl, rfl⟩)
    | (go_at_call 81; go_must (refine (show Calls _ _ #[ptrV db, .string s] _ _ by rw [← HX.out]; exact bytes_ok _ _ _ _ HS.out H.out).mono ?_); rintro e w3 ⟨B, cap, rfl, _, rfl⟩; rw [HW.out])
    | (go_at_call 131; go_must (refine (show Calls _ _ #[ptrV db, .string s, .int .i64 _] _ _ by rw [← HX.out]; exact fits_ok _ n0 x p s _ HS.out (by omega) H.out HP.out).mono ?_); rintro e w4 ⟨rfl, hk4⟩; (first | rw [HMX.out.1 (by omega)] | rw [HMX.out.2 (by omega)]); have HK4 := Lib.hid hk4; clear hk4))
  all_goals
    go_ret
    refine ⟨?_, ?_⟩
    · unfold Pl.writeE
      simp only [HD.out, strI_len]
      rw [if_neg (by simp), if_neg (by omega), if_neg (by omega), if_neg (by rw [← List.length_eq_zero_iff, strI_len]; omega), HF.out, if_pos HF2.out]
      rfl
    · unfold Pl.write
      simp only [HD.out, strI_len]
      rw [if_neg (by simp; omega), if_neg (by rw [← List.length_eq_zero_iff, strI_len]; omega), HF.out, if_pos HF2.out]
      exact (To.refl (H.out.keep HK4.out (fun _ _ q => q) (fun _ _ _ q => q)) HP.out).quiet HK4.out H.out
end Go.Proofs.Ytegcbdfilkecpaa
