/- Texts of this proof, one behind the other: lemmas and contracts; each says its own conditions. -/
import Derived.Test.YtoeldmkbmnkhkaaGreatP2
import Derived.Test.YtoeldmkbmnkhkaaGreatP7
import Derived.Test.YtoeldmkbmnkhkaaGreatP9
import Derived.Test.YtoeldmkbmnkhkaaGreatP12
/- The law's cells: a page's cells collected; no condition. -/
namespace Go.Proofs.YtoeldmkbmnkhkaaGreat
open Go.RowKit Go.Shelf
attribute [local go_sem ↓] load26 store26 alloc26 build26 slice26lo load62 store62 load26i
attribute [local go_sem] Oper.semAt_some eqlSeq

/-- whatever lay below n₀ lies as it lay, but for block b -/
def KeepX (n₀ b : Nat) (W W' : World) : Prop := ∀ k, k < n₀ → k ≠ b → W'.heap[k]? = W.heap[k]?
theorem KeepX.trans {n₀ b : Nat} {A B C : World} (h : KeepX n₀ b A B) (k : KeepX n₀ b B C) : KeepX n₀ b A C := fun i hi hb => (k i hi hb).trans (h i hi hb)
theorem keepX_below {n₀ b : Nat} {A B : World} (h : Below n₀ A B) : KeepX n₀ b A B := fun i hi _ => h.block i hi
theorem keepX_b {n₀ b : Nat} {w : World} (hn : n₀ ≤ w.heap.size) (W : World) (l : Nat) (o o' : Obj) (hl : w.heap.size ≤ l) (_ : W.heap[l]? = some o) (_ : o.isCells = false) (_ : o.isWalk = false) : KeepX n₀ b W (W.putObj l o') :=
  fun i hi _ => World.putObj_heap_other (by omega)
theorem Blk.keepXP {w w' : World} {b g : Nat} {t : TypeId} {cs : Array Value} (h : Blk w g t cs) (k : KeepX w.heap.size b w w') (hg : g ≠ b) : Blk w' g t cs := (k g h.lt hg).trans h
theorem Sl.keepXP {w w' : World} {b : Nat} {A : Option Addr} {n : Nat} {xs : List ByteArray} (h : Sl w A n xs) (k : KeepX w.heap.size b w w') (hA : ∀ g o, A = some ⟨g, o, none⟩ → g ≠ b) : Sl w' A n xs :=
  ⟨h.1, fun hn => by
    obtain ⟨g, o, e, hg, hc⟩ := h.2 hn
    have hk := k g hg (hA g o e)
    refine ⟨g, o, e, ?_, fun j hj => (World.cell?_of_block (w := w) hk).trans (hc j hj)⟩
    rw [Array.getElem?_eq_getElem hg] at hk
    exact lt_of_heap hk⟩
/-- the iterator's blocks, none of them b -/
def ItX (W : World) (b B : Nat) (cs : List ByteArray) : Prop :=
  ∃ kd lk A cap t, B ≠ b ∧ B + 1 ≠ b ∧ Blk W B 185 (body3 kd lk A cs.length cap) ∧ Blk W (B + 1) 4 #[.bool t] ∧ (t = false → cs = []) ∧ Sl W A cs.length cs ∧ ∀ g o, A = some ⟨g, o, none⟩ → g ≠ b

theorem cells_boxesX (w2 : World) (lo : Nat) (hlo : lo ≤ w2.heap.size) (kd lk : Int) (A : Option Addr) (n cap : Nat) (t : Bool) (cs : List ByteArray) (hn : cs.length = n) (hb : t = false → cs = []) (hs : Sl w2 A n cs) (hA : ∀ g o, A = some ⟨g, o, none⟩ → lo ≤ g) :
    ∀ b, b < lo → ItX ((((w2.alloc (.cells #[.int .u8 0, .int .u32 0, .slice none 0 0] 185)).alloc (.cells #[.bool false] 4)).setCells w2.heap.size 0 [.int .u8 kd, .int .u32 lk, .slice A n cap]).setCell ⟨w2.heap.size + 1, 0, none⟩ (.bool t)) b w2.heap.size cs := by
  subst hn
  intro b hlt
  have b1 := (Blk.new w2 185 #[.int .u8 0, .int .u32 0, .slice none 0 0]).alloc (.cells #[.bool false] 4)
  have b2 := Blk.newAt (w2.alloc (.cells #[.int .u8 0, .int .u32 0, .slice none 0 0] 185)) 4 #[.bool false] (w2.heap.size + 1) (by simp)
  have b3 := b1.whole (body3 kd lk A cs.length cap) rfl
  have b4 := b2.farCells (g' := w2.heap.size) (by omega) [.int .u8 kd, .int .u32 lk, .slice A cs.length cap] 0
  have b5 := b4.set_ 0 (.bool t)
  have b6 := b3.far (p := ⟨w2.heap.size + 1, 0, none⟩) (by show w2.heap.size ≠ w2.heap.size + 1; omega) (.bool t)
  have k := (Kp.setCells (S := NoB) (.inl (Nat.le_refl _)) [.int .u8 kd, .int .u32 lk, .slice A cs.length cap] 0 _ (((Kp.refl NoB w2).alloc (.cells #[.int .u8 0, .int .u32 0, .slice none 0 0] 185)).alloc (.cells #[.bool false] 4))).setCell (p := ⟨w2.heap.size + 1, 0, none⟩) (.inl (by show _ ≤ w2.heap.size + 1; omega)) (.bool t)
  exact ⟨kd, lk, A, cap, t, by omega, by omega, b6, b5, hb, hs.keep k, fun g o e => by have := hA g o e; omega⟩

set_option maxRecDepth 100000 in
set_option maxHeartbeats 1600000 in
theorem CellsX_ok (w : World) (l : List Int) (hB : Bytes l) : Calls Tryz.prog 107 #[.agg (bytesV l)] w fun e w' =>
    ∃ B, e = .returned (.func (.func 144) #[] #[.pointer (some ⟨B, 0, none⟩), .pointer (some ⟨B + 1, 0, none⟩)]) ∧ Kp NoB w w' ∧ ∀ b, b < w.heap.size → ItX w' b B (cellsF (readF l)) := by
  have HB := Lib.hid hB
  have hb1 : Blk (w.alloc (.cells (bytesV l) 86)) w.heap.size 86 (bytesV l) := Blk.new _ _ _
  have t1 := hb1.thereAll 256 (by rw [bytesV_size]; exact hB.len)
  have r1 := hb1.readAll 256 (by rw [bytesV_size]; exact hB.len)
  clear hB hb1
  obtain ⟨r, hr⟩ : ∃ r, readF l = r := ⟨_, rfl⟩
  have HR := Lib.hid hr
  rw [hr]
  clear hr
  have on3 : ones #[.int .u8 0, .int .u32 0, .slice none 0 0] := by unfold ones; simp [Value.oneCell']
  rcases r with _ | ⟨kind, link, cs⟩
  · go_enter Tryz.func107, Tryz.ntmps107
    go_wp2_with (go_at_call 142; go_must (refine (pgread_ok _ l HB.out).mono ?_); rintro e w2 hq; rw [HR.out] at hq; obtain ⟨hk2, rfl⟩ := hq.none; clear hq; obtain ⟨th, c4, f4, hi⟩ := cells_boxes w2 0 0 none 0 0 false [] rfl (by intro _; rfl) ⟨rfl, fun h => by omega⟩; have HX := Lib.hid (cells_boxesX w2 w.heap.size (by have := hk2.size; simp at this; omega) 0 0 none 0 0 false [] rfl (by intro _; rfl) ⟨rfl, fun h => by omega⟩ (fun _ _ e => by cases e)); have HK := Lib.hid hk2; have HI := Lib.hid hi; clear hk2 hi)
    go_ret
    exact ⟨_, rfl, (((Kp.refl _ _).alloc _).trans HK.out (fun _ _ q => q)).trans HI.out.1 (fun _ _ q => q), HX.out⟩
  · have HF := Lib.hid (readF_facts HB.out HR.out)
    go_enter Tryz.func107, Tryz.ntmps107
    go_wp2_with (go_at_call 142; go_must (refine (pgread_ok _ l HB.out).mono ?_); rintro e w2 hq; rw [HR.out] at hq; obtain ⟨hk2, A, cap, rfl, ho, hs⟩ := hq.some; have hge := own_ge ho; clear hq ho; obtain ⟨th, c4, f4, hi⟩ := cells_boxes w2 kind link A cs.length cap true cs rfl (by intro h; cases h) hs; have HX := Lib.hid (cells_boxesX w2 w.heap.size (by have := hk2.size; simp at this; omega) kind link A cs.length cap true cs rfl (by intro h; cases h) hs (fun g o e => by subst e; have := hge g (by simp [Value.ownBlock]); simp at this; omega)); have on4 : ones #[.int .u8 kind, .int .u32 link, .slice A cs.length cap] := (by unfold ones; simp [Value.oneCell']); have HK := Lib.hid hk2; have HI := Lib.hid hi; clear hk2 hi hs hge)
    go_ret
    exact ⟨_, rfl, (((Kp.refl _ _).alloc _).trans HK.out (fun _ _ q => q)).trans HI.out.1 (fun _ _ q => q), HX.out⟩

set_option maxRecDepth 100000 in
set_option maxHeartbeats 2000000 in
theorem cells1x_in (F : Fence) (n : Nat) (h7 : F.fn 144) (hro : F.round = none) (hn : 1 ≤ n) (l b B n₀ : Nat) (cs : List ByteArray) (hcs : cs.length ≤ 250)
    (J Jx : List Nat → World → Prop)
    (hY : ∀ pre (x : Nat) W, J pre W → pre.length < cs.length → YieldAt F (n - 1) Tryz.prog l (encC cs x) W fun e W' =>
      (e = .returned (.bool true) ∧ J (pre ++ [x]) W' ∧ KeepX n₀ b W W') ∨ (e = .returned (.bool false) ∧ Jx (pre ++ [x]) W'))
    (w W : World) (hw : w.heap.size = n₀) (hI : ItX w b B cs) (hBel : KeepX n₀ b w W) (h0 : J [] W) :
    CallsIn F n Tryz.prog 144 #[.func (.yield l) #[] #[], .pointer (some ⟨B, 0, none⟩), .pointer (some ⟨B + 1, 0, none⟩)] W fun e W' => (∃ v, e = .returned v) ∧
      ((∃ ys, ys = List.range cs.length ∧ J ys W') ∨ (∃ pre, (∃ k, k ≤ cs.length ∧ pre = List.range k) ∧ Jx pre W')) := by
  subst hw
  obtain ⟨kd, lk, A, cap, t, n1, n2, i1, i2, i3, i4, i5⟩ := hI
  have I2 := Lib.hid i2
  have I4 := Lib.hid i4
  have I5 := Lib.hid i5
  have N2 := Lib.hid n2
  have c2 : W.cell? ⟨B, 2, none⟩ = some (.slice A cs.length cap) := (i1.keepXP hBel n1).cell 2
  clear i1 i2 i4 i5 n1 n2
  refine callsIn_of_wp Tryz.func144 rfl h7 ?_ hro
  simp only [Tryz.ntmps144, List.size_toArray, List.length_cons, List.length_nil, Nat.reduceAdd, Nat.reduceSub, Array.replicate_succ, Array.replicate_zero, List.push_toArray, List.append_toArray, List.nil_append, List.cons_append]
  gi_wp2
  gi_loopw [9] (fun i wr => ∃ k : Nat, k ≤ cs.length ∧ i = .int .i64 k ∧ J (List.range k) wr ∧ KeepX w.heap.size b w wr)
    (fun i _ => cs.length - (intOf i).toNat)
  case atStart => exact ⟨0, Nat.zero_le _, rfl, h0, hBel⟩
  case round =>
    obtain ⟨k, hk, rfl, hJs, hnx⟩ := hrel
    by_cases hlt : k < cs.length
    · obtain rfl : t = true := by
        cases t
        · have := i3 rfl
          subst this
          simp at hlt
        · rfl
      obtain ⟨g, o, rfl, hg, hc⟩ := (I4.out.keepXP hnx I5.out).2 (by omega)
      have hcx := hc k hlt
      have hok : wr.cell? ⟨B + 1, 0, none⟩ = some (.bool true) := (I2.out.keepXP hnx N2.out).cell 0
      obtain ⟨fn, tmps, assign, body, hy, hR⟩ := hY _ k wr hJs (by rw [List.length_range]; exact hlt)
      unfold encC at hy
      obtain ⟨s, hs⟩ : ∃ s, cs.getD k ByteArray.empty = s := ⟨_, rfl⟩
      rw [hs] at hcx hy
      have HS := Lib.hid hs
      clear hs hc
      gi_wp2
      refine hR.mono ?_
      rintro e W3 (⟨rfl, hJ3, hk3⟩ | ⟨rfl, hJx3⟩)
      · gi_wp2
        go_roundw
        case rel => exact ⟨k + 1, by omega, by simp, by rw [List.range_succ]; exact hJ3, hnx.trans hk3⟩
        case measure => simp [intOf]; omega
      · gi_wp2
        refine bodyPost_ret (results_none rfl _ _ _) rfl ?_
        exact ⟨⟨_, rfl⟩, .inr ⟨_, ⟨k + 1, by omega, by rw [List.range_succ]⟩, hJx3⟩⟩
    · obtain rfl : k = cs.length := by omega
      gi_wp2
      go_end0
      exact ⟨⟨_, rfl⟩, .inl ⟨_, rfl, hJs⟩⟩
theorem cells_stopsX (F : Fence) (n : Nat) (h7 : F.fn 144) (hro : F.round = none) (hn : 1 ≤ n) (b B : Nat) (cs : List ByteArray) (hcs : cs.length ≤ 250) (w : World) (hI : ItX w b B cs) :
    SeqStopsK F n Tryz.prog 144 #[.pointer (some ⟨B, 0, none⟩), .pointer (some ⟨B + 1, 0, none⟩)] (encC cs) (KeepX w.heap.size b) (fun ys => ys = List.range cs.length)
      (fun pre => ∃ k, k ≤ cs.length ∧ pre = List.range k) cs.length w := fun l J Jx W hW _ _ hY h0 =>
  cells1x_in F n h7 hro hn l b B w.heap.size cs hcs J Jx hY w W rfl hI (keepX_below hW) h0

end Go.Proofs.YtoeldmkbmnkhkaaGreat
/- The first page read; no condition. -/
namespace Go.Proofs.YtoeldmkbmnkhkaaGreat
open Go.RowKit Go.Shelf
theorem loadSfi (r : Option Nat) (w : World) (ev : Operand → Value) (ds : Option Tmp) (x : Operand) (ty : TypeId) (ps : String) (af : Array Edge) (g : Option (Nat × Bool)) (h : thereP w (ev x) 9) :
    (Oper.semAt r ev ⟨ds, .load 114 x, ty, ps, af, g⟩).run Tryz.prog w = .ok (.value (.agg (readP w (ev x) 9))) w := by
  rw [Oper.semAt_eq _ _ _ (by intro c h; cases h)]
  exact loadSf w ev ds x ty ps af g h
attribute [local go_sem ↓] loadSfi load26 store26 alloc26 build26 load26i loadSf storeSf allocSf buildSf0 buildSfE
attribute [local go_sem] Oper.semAt_some
/-- a cell's bytes so far -/
def RdJ (ln : Int) (g : Nat) (ns : List Int) (i : Nat) (z : List Int) (w7 : World) (j : Nat) (W : World) : Prop :=
  Blk W g 114 (sfC ⟨ln, ns.set i ((z.take j).foldl numStep (ns.getD i 0))⟩) ∧ Kp (OnB g) w7 W
theorem set_self {ns : List Int} {i : Nat} : ns.set i (ns.getD i 0) = ns := by
  apply List.ext_getElem?
  intro j
  rw [List.getElem?_set]
  split
  · rename_i e
    subst e
    split
    · rename_i h
      rw [List.getD_eq_getElem?_getD, List.getElem?_eq_getElem h]
      rfl
    · rw [List.getElem?_eq_none (by omega)]
  · rfl
theorem getD_set {ns : List Int} {i : Nat} {v : Int} (h : i < ns.length) : (ns.set i v).getD i 0 = v := by
  rw [List.getD_eq_getElem?_getD, List.getElem?_set_self h]
  rfl
/-- the numbers so far -/
def RdI (cs : List ByteArray) (ln : Int) (g : Nat) (w6 : World) (pre : List Nat) (W : World) : Prop :=
  Blk W g 114 (sfC ⟨ln, pre.foldl (stepNs cs) ns0⟩) ∧ NsOk (pre.foldl (stepNs cs) ns0) ∧ Kp (OnB g) w6 W

/-- a page that is laid and written -/
theorem pageFacts (w : World) (l : List Int) (hl : l.length = 256) :
    ones (bytesV l) ∧ (bytesV l).size = 256 ∧ (w.alloc (.cells zero256 86)).there w.heap.size 0 256 ∧
    ((w.alloc (.cells zero256 86)).setCells w.heap.size 0 (bytesV l).toList).there w.heap.size 0 256 ∧
    readRow ((w.alloc (.cells zero256 86)).setCells w.heap.size 0 (bytesV l).toList) w.heap.size 0 256 = bytesV l ∧
    Kp NoB w ((w.alloc (.cells zero256 86)).setCells w.heap.size 0 (bytesV l).toList) ∧
    ∀ {g : Nat} {t : TypeId} {cs : Array Value}, Blk w g t cs → Blk ((w.alloc (.cells zero256 86)).setCells w.heap.size 0 (bytesV l).toList) g t cs := by
  have sp : (bytesV l).size = 256 := by rw [bytesV_size]; exact hl
  have hb3 := Blk.new w 86 zero256
  have hb4 := hb3.whole (bytesV l) (by rw [sp, sz256P])
  have kk : Kp NoB w ((w.alloc (.cells zero256 86)).setCells w.heap.size 0 (bytesV l).toList) := Kp.setCells (.inl (Nat.le_refl _)) _ _ _ ((Kp.refl _ _).alloc _)
  exact ⟨bytesV_one _, sp, hb3.thereAll 256 sz256P, hb4.thereAll 256 sp, hb4.readAll 256 sp, kk, fun hb => hb.keep kk (fun q => q)⟩
theorem blk_rgP {w : World} {g : Nat} {t : TypeId} {l : List Int} (h : Blk w g t (bytesV l)) : w.rangeAt g 0 (l.map (Value.int .u8)) :=
  Blk.range (xa := []) (xb := l.map (Value.int .u8)) (xd := []) (by unfold bytesV at h; simpa using h) 0 rfl
theorem neqPgS (w : World) (ev : Operand → Value) (ds : Option Tmp) {x y : Operand} {a b : List Int} {yt : TypeId} (ty : TypeId) (ps : String) {af : Array Edge} {g : Option (Nat × Bool)} (hx : ev x = .agg (bytesV a)) (hy : ev y = .agg (bytesV b)) (ha : a.length = 256) (hb : b.length = 256) :
    (execOp ev ⟨ds, .binOp .neq 86 x y yt, ty, ps, af, g⟩).run Tryz.prog w = .ok (.value (.bool (!decide (a = b)))) w := by
  have h := neq26 w ev ds x y yt ty ps af g (by rw [hx]; exact pgOK_bytes a ha) (by rw [hy]; exact pgOK_bytes b hb)
  rw [h, hx, hy]
  congr 3
  by_cases e : a = b
  · subst e
    rw [valEq_self, decide_eq_true rfl]
  · rw [decide_eq_false e]
    cases hv : valEq (.agg (bytesV a)) (.agg (bytesV b)) with
    | false => rfl
    | true =>
      have h2 := (valEq_iff _ _).1 hv
      injection h2 with h2
      exact absurd (bytesV_inj h2) e
theorem leaveM0 {F : Fence} {n : Nat} {P : Program} {fn : Func} {tmps : Array Value} {R : Ending → World → Prop} {w : World} {v : Value}
    (hr : (results fn tmps).run P w = .ok v w) (h : R (.returned v) w) : bodyPostM F n P fn R .ret { tmps := tmps, defers := [] } w := ⟨v, hr, h⟩
/-- a first page's say that is laid and written -/
theorem firstFacts (w : World) (f : Sf) (hl : f.ns.length = 8) :
    ones (sfC f) ∧ (sfC f).size = 9 ∧ (w.alloc (.cells (sfC sf0) 114)).there w.heap.size 0 9 ∧
    Blk ((w.alloc (.cells (sfC sf0) 114)).setCells w.heap.size 0 (sfC f).toList) w.heap.size 114 (sfC f) ∧
    Kp NoB w ((w.alloc (.cells (sfC sf0) 114)).setCells w.heap.size 0 (sfC f).toList) := by
  have hb3 := Blk.new w 114 (sfC sf0)
  exact ⟨sfC_one f, sfC_size hl, hb3.thereAll 9 (sfC_size rfl), hb3.whole (sfC f) (by rw [sfC_size hl, sfC_size rfl]), Kp.setCells (.inl (Nat.le_refl _)) _ _ _ ((Kp.refl _ _).alloc _)⟩
def readV (D : List (List Int)) : Sf := (readS D).getD sf0
def readE (D : List (List Int)) : Int := if (readS D).isSome then 0 else 8
section
variable {L : Lab} {w : World} {t0 : Nat} {D : List (List Int)} {sv : List (List (List Int))}
set_option maxRecDepth 100000 in
set_option maxHeartbeats 1600000 in
theorem read_w (h : Wr L w t0 D sv) : Calls Tryz.prog 68 #[ptrV t0] w fun e w' => e = .returned (.tuple #[.agg (sfC (readV D)), .int .i64 (readE D)]) ∧ Kp NoB w w' := by
  have H := Lib.hid h
  clear h
  unfold ptrV at *
  cases D with
  | nil =>
    refine (callsIn_wide (n := 5)).1 ?_
    refine callsIn_of_wp_marks Tryz.func68 rfl trivial ?_ rfl
    simp only [Tryz.ntmps68, List.size_toArray, List.length_cons, List.length_nil, Nat.reduceAdd, Nat.reduceSub, Array.replicate_succ, Array.replicate_zero, List.push_toArray, List.append_toArray, List.nil_append, List.cons_append]
    refine wpIn_wide.2 ?_
    go_wp2_with fail
    refine (page_w (H.out.keep ((Kp.refl NoB w).alloc (.cells (sfC sf0) 114))) 1).mono ?_
    rintro e w2 ⟨rfl, hk⟩
    have ev : Hid (pgD ([] : List (List Int)) 1 = zeros 256 ∧ pgE ([] : List (List Int)) 1 = 4) := Lib.hid ⟨rfl, rfl⟩
    rw [ev.out.1, ev.out.2]
    have HK := Lib.hid (((Kp.refl NoB w).alloc (.cells (sfC sf0) 114)).trans hk (fun _ _ q => q))
    have hb0 := (Blk.new w 114 (sfC sf0)).keep hk (fun q => q)
    have PF := pageFacts w2 (zeros 256) (List.length_replicate ..)
    obtain ⟨o1, s1, t3, t4, r4, kk, fr⟩ := PF
    have hb1 := fr hb0
    have t0' := hb1.thereAll 9 (sfC_size rfl)
    have o0 := sfC_one sf0
    have s0 : (sfC sf0).size = 9 := sfC_size rfl
    have HS0 := Lib.hid s0
    have HB1 := Lib.hid hb1
    have KK := Lib.hid kk
    have oz := oz256P
    have sz := sz256P
    clear hk hb0 fr kk hb1
    go_wp2_with fail
    refine leaveM0 (ret_cell_tmp rfl _ _ _ _ _ _ rfl (HB1.out.whole (sfC sf0) (by rw [HS0.out])) Tryz.underlying114 rfl (by rw [HS0.out]; exact infoSf) _ rfl) ⟨rfl, ?_⟩
    exact Kp.setCells (.inl (Nat.le_refl _)) _ _ _ (HK.out.trans KK.out (fun _ _ q => q))
  | cons p D =>
    refine (callsIn_wide (n := 5)).1 ?_
    refine callsIn_of_wp_marks Tryz.func68 rfl trivial ?_ rfl
    simp only [Tryz.ntmps68, List.size_toArray, List.length_cons, List.length_nil, Nat.reduceAdd, Nat.reduceSub, Array.replicate_succ, Array.replicate_zero, List.push_toArray, List.append_toArray, List.nil_append, List.cons_append]
    refine wpIn_wide.2 ?_
    go_wp2_with fail
    refine (page_w (H.out.keep ((Kp.refl NoB w).alloc (.cells (sfC sf0) 114))) 1).mono ?_
    rintro e w2 ⟨rfl, hk⟩
    have hB := H.out.bytes 1
    have ev : Hid (pgE (p :: D) 1 = 0) := Lib.hid (by unfold pgE; rw [if_pos ⟨by decide, by rw [List.length_cons]; omega⟩])
    rw [pgD_one] at hB ⊢
    rw [ev.out]
    have HB := Lib.hid hB
    have HK := Lib.hid (((Kp.refl NoB w).alloc (.cells (sfC sf0) 114)).trans hk (fun _ _ q => q))
    have hb0 := (Blk.new w 114 (sfC sf0)).keep hk (fun q => q)
    have HB0 := Lib.hid hb0
    obtain ⟨o1, s1, t3, t4, r4, kk, fr⟩ := pageFacts w2 p hB.len
    have KK := Lib.hid kk
    have FR := Lib.hid (fr hb0)
    have oz := oz256P
    have sz := sz256P
    have hb4 : Blk ((w2.alloc (.cells zero256 86)).setCells w2.heap.size 0 (bytesV p).toList) w2.heap.size 86 (bytesV p) := (Blk.new w2 86 zero256).whole (bytesV p) (by rw [s1, sz])
    have HB4 := Lib.hid hb4
    clear hk hb0 fr kk hB hb4
    go_wp2_with fail
    refine (Link_ok _ p HB.out).mono ?_
    rintro e w4 ⟨rfl, hk4⟩
    have hk4' := KK.out.trans hk4 (fun _ _ q => q)
    have hB2 := FR.out.keep hk4 (fun q => q)
    have hB4 := HB4.out.keep hk4 (fun q => q)
    have HQ4 := Lib.hid hB4.lt
    have hlr := link_rng HB.out
    obtain ⟨ln, hln⟩ : ∃ ln, linkF (readF p) = ln := ⟨_, rfl⟩
    rw [hln] at hlr ⊢
    have HLN := Lib.hid hln
    have HLR := Lib.hid hlr
    obtain ⟨l0, l1⟩ := hlr
    obtain ⟨o9, s9, t9, hb9, kk9⟩ := firstFacts w4 ⟨ln, ns0⟩ rfl
    have hB4' := hB4.keep kk9 (fun q => q)
    have t10 := hB4'.thereAll 256 s1
    have r10 := hB4'.readAll 256 s1
    have HB9 := Lib.hid hb9
    have HK9 := Lib.hid kk9
    have HK4 := Lib.hid hk4'
    have HB2 := Lib.hid (hB2.keep kk9 (fun q => q))
    have HB4' := Lib.hid hB4'
    have t5 := hB4.thereAll 256 s1
    have r5 := hB4.readAll 256 s1
    clear hk4 hk4' hB2 hB4 hB4' hln kk9 hb9 t3 t4 r4
    go_wp2_with fail
    refine (CellsX_ok _ p HB.out).mono ?_
    rintro e w6 ⟨B, rfl, hk6, hi6⟩
    have hi7 := hi6 w4.heap.size (by simp [World.setCells])
    obtain ⟨cs, hcs⟩ : ∃ cs, cellsF (readF p) = cs := ⟨_, rfl⟩
    have hcl : cs.length ≤ 250 := by
      rw [← hcs]
      rcases hr : readF p with _ | ⟨kd, lk, c⟩
      · exact Nat.zero_le _
      · exact (readF_facts HB.out hr).1
    have HC60 : Hid (∀ c ∈ cs, c.size ≤ 60) := Lib.hid (fun c hc => by
      rw [← hcs] at hc
      rcases hr : readF p with _ | ⟨kd, lk, cc⟩
      · rw [hr] at hc
        exact absurd hc (by simp [cellsF])
      · rw [hr] at hc
        exact ((readF_facts HB.out hr).2.1 c hc).2)
    rw [hcs] at hi7
    have HI7 := Lib.hid hi7
    have HCS := Lib.hid hcs
    have HCL := Lib.hid hcl
    have HK6 := Lib.hid hk6
    have HW : Hid (Kp NoB w w6) := Lib.hid (((HK.out.trans HK4.out (fun _ _ q => q)).trans HK9.out (fun _ _ q => q)).trans hk6 (fun _ _ q => q))
    have B2 := Lib.hid (HB2.out.keep hk6 (fun q => q))
    have B4 := Lib.hid (HB4'.out.keep hk6 (fun q => q))
    have B6 := Lib.hid (HB9.out.keep hk6 (fun q => q))
    have HLT : Hid (w.heap.size ≠ w4.heap.size ∧ w2.heap.size ≠ w4.heap.size ∧ w4.heap.size < w6.heap.size ∧ w.heap.size ≤ w4.heap.size ∧ w2.heap.size < w4.heap.size) := Lib.hid (by
      have q1 := HQ4.out
      have q2 := B6.out.lt
      have q3 := HB0.out.lt
      omega)
    have HSZW : Hid (∀ b, b < w.heap.size → b ≠ w4.heap.size) := Lib.hid (fun b hb => by have := HLT.out; omega)
    clear hi6 hi7 hcs hcl hk6 t9 o9 s9 t5 r5
    generalize w4.heap.size = g6 at HI7 B6 HLT HSZW ⊢
    generalize w2.heap.size = g4 at B4 HLT ⊢
    obtain ⟨g2, hg2⟩ : ∃ g2, w.heap.size = g2 := ⟨_, rfl⟩
    rw [hg2] at B2 HLT ⊢
    have HG2 := Lib.hid hg2
    clear hg2
    dsimp only
    go_wp2_with fail
    refine (wpIn_wide (n := 5)).1 ?_
    refine wpIn_rangeFunc_ownG (w0 := w6) rfl (by omega) (gf := 144) (lb := #[.pointer (some ⟨B, 0, none⟩), .pointer (some ⟨B + 1, 0, none⟩)]) rfl trivial (enters_of Tryz.func144 (by kernel_rfl) rfl)
      (cells_stopsX Fence.wide (5 - 1) trivial rfl (by omega) g6 B cs HCL.out w6 HI7.out) (fun h k => h.trans k) (keepX_b (Nat.le_refl _)) (Below.refl _ _) (fun _ => rfl)
      (RdI cs ln g6 w6) (fun _ _ _ => False)
      (fun pre W W' row hs hg hr => ⟨blkOwn hs.1 hg (fun r e => (hr r e).2), hs.2.1, hs.2.2.grownBy hg (fun r e => (hr r e).1)⟩)
      (fun _ _ _ _ _ hs _ _ => hs)
      ⟨B6.out, NsOk.zero, Kp.refl _ _⟩
      (fun x => { tmps := #[.pointer (some ⟨t0, 0, none⟩), undef, .pointer (some ⟨g2, 0, none⟩), .int .i64 0, .pointer (some ⟨g4, 0, none⟩), .int .i64 0, .pointer (some ⟨g6, 0, none⟩), .int .i64 x, .string (cs.getD x ByteArray.empty), undef, undef, (.tuple #[.agg (bytesV p), .int .i64 0]), .pointer (some ⟨t0, 0, none⟩), (.tuple #[.agg (bytesV p), .int .i64 0]), .agg (bytesV p), .int .i64 0, .int .i64 0, .bool false, .int .i64 0, .bool false, undef, undef, .agg (bytesV p), .int .u32 ln, .int .i64 ln, .agg (sfC ⟨ln, ns0⟩), .agg (bytesV p), (.func (.func 144) #[] #[.pointer (some ⟨B, 0, none⟩), .pointer (some ⟨B + 1, 0, none⟩)]), .int .i64 x, .string (cs.getD x ByteArray.empty), undef, undef, undef, undef, undef, undef, undef, undef, undef, undef, undef, undef, undef, undef, undef, undef, undef, undef, undef, undef, undef, undef, undef, undef, undef, undef, undef, undef, undef, undef, undef, undef, undef], defers := [] }) ?assign ?body ?done ?stop
    case assign =>
      intro l x W K hK
      unfold encC
      gi_wp2
      exact hK
    case body =>
      rintro l pre x W ⟨hb, hns, hk⟩ hlt
      have hfold : (pre ++ [x]).foldl (stepNs cs) ns0 = stepNs cs (pre.foldl (stepNs cs) ns0) x := by rw [List.foldl_append]; rfl
      have HKN := Lib.hid hk
      have HFO := Lib.hid hfold
      clear hk hfold
      generalize pre.foldl (stepNs cs) ns0 = ns at hb hns HFO
      have HNS := Lib.hid hns
      have HBB := Lib.hid hb
      clear hns hb
      rcases Nat.eq_zero_or_pos x with rfl | hx0
      · clear hlt
        gi_wp2
        refine ⟨KeepsFrom.refl _ _, fun _ _ _ => rfl, ?_⟩
        unfold RdI
        rw [HFO.out]
        unfold stepNs
        rw [if_pos (.inl rfl)]
        exact ⟨HBB.out, HNS.out, HKN.out⟩
      · by_cases hx8 : 8 < x
        · have hx1 : ((x : Int) == 0) = false := by simp; omega
          have hx2 : (8 : Int) < (x : Int) := by omega
          clear hlt
          gi_wp2
          refine ⟨KeepsFrom.refl _ _, fun _ _ _ => rfl, ?_⟩
          unfold RdI
          rw [HFO.out]
          unfold stepNs
          rw [if_pos (.inr hx8)]
          exact ⟨HBB.out, HNS.out, HKN.out⟩
        · have hst : stepNs cs ns x = ns.set (x - 1) ((strI (cs.getD x ByteArray.empty)).foldl numStep (ns.getD (x - 1) 0)) := by
            unfold stepNs
            rw [if_neg (by omega)]
          rw [hst] at HFO
          clear hst hlt
          obtain ⟨z, hz⟩ : ∃ z, strI (cs.getD x ByteArray.empty) = z := ⟨_, rfl⟩
          have hs : cs.getD x ByteArray.empty = strOf z := by rw [← hz, strOfI]
          have hzr : ∀ y ∈ z, 0 ≤ y ∧ y < 256 := by rw [← hz]; exact fun y hy => strI_rngP _ y hy
          have hz60 : z.length ≤ 60 := by
            rw [← hz]
            unfold strI
            rw [List.length_map]
            show (cs.getD x ByteArray.empty).size ≤ 60
            rw [List.getD_eq_getElem?_getD]
            rcases hq : cs[x]? with _ | c
            · exact Nat.zero_le _
            · exact HC60.out c (List.mem_of_getElem? hq)
          rw [hz] at HFO
          rw [hs]
          obtain ⟨cap, w7, hcv, hk7, hs7, hc7⟩ := bytesOf W z hzr
          have HK7 := Lib.hid hk7
          have HC7 := Lib.hid hc7
          have HZR := Lib.hid hzr
          clear hk7 hc7 hzr hs hz
          have hx : x = 1 ∨ x = 2 ∨ x = 3 ∨ x = 4 ∨ x = 5 ∨ x = 6 ∨ x = 7 ∨ x = 8 := by omega
          clear hx0 hx8
          rcases hx with rfl | rfl | rfl | rfl | rfl | rfl | rfl | rfl
          · gi_wp2
            gi_loopw [39] (fun v wr => ∃ j : Nat, j ≤ z.length ∧ v = .int .i64 j ∧ RdJ ln g6 ns 0 z w7 j wr) (fun v _ => z.length - (intOf v).toNat)
            case atStart => exact ⟨0, Nat.zero_le _, rfl, by
              have := HBB.out.keep HK7.out (fun q => q)
              unfold RdJ
              rw [List.take_zero, List.foldl_nil, set_self]
              exact ⟨this, Kp.refl _ _⟩⟩
            case round =>
              obtain ⟨j, hj, rfl, hb, hk⟩ := hrel
              have HKR := Lib.hid hk
              have HBR := Lib.hid hb
              clear hk hb
              by_cases hlt : j < z.length
              · have hlt' : (j : Int) < (z.length : Int) := by omega
                have hj60 : (j : Int) < 60 := by omega
                have hl8 := HNS.out.1
                have hfr := fold_rng (z.take j) (ns.getD 0 0) (HNS.out.2 0)
                have hstep := fold_next hlt (ns.getD 0 0)
                have hyr := HZR.out (z.getD j 0) (by rw [List.getD_eq_getElem?_getD, List.getElem?_eq_getElem hlt]; exact List.getElem_mem hlt)
                have cz : wr.cell? ⟨W.heap.size, j, none⟩ = some (.int .u8 (z.getD j 0)) := (HKR.out.cell (g := W.heap.size) (o := j) hs7 (fun q => by have := HBB.out.lt; unfold OnB at q; omega)).trans (HC7.out j hlt)
                have cn : wr.cell? ⟨g6, 1, none⟩ = some (.int .u32 ((z.take j).foldl numStep (ns.getD 0 0))) := by
                  rw [HBR.out.cell, sfC_at (i := 0) (by rw [List.length_set, hl8]; omega), getD_set (by rw [hl8]; omega)]
                have zn : wr.frozen? ⟨g6, 1, none⟩ = false := HBR.out.frozen 1
                have hb2 := fun v => HBR.out.set_ 1 (.int .u32 v)
                simp only [sfC_set, List.set_set] at hb2
                have HB2' := Lib.hid hb2
                have HSTEP := Lib.hid hstep
                clear hstep hb2
                generalize (z.take j).foldl numStep (ns.getD 0 0) = a at hfr cn HSTEP
                generalize z.getD j 0 = y at hyr cz HSTEP
                have hor := or32 a y hfr.1 hfr.2 hyr.1 hyr.2
                obtain ⟨f0, f1⟩ := hfr
                obtain ⟨y0, y1⟩ := hyr
                gi_wp2
                go_roundw
                case rel => exact ⟨j + 1, by omega, by push_cast; rfl, by
                  unfold RdJ
                  rw [HSTEP.out]
                  exact ⟨HB2'.out _, HKR.out.setCell (p := ⟨g6, 1, none⟩) (.inr rfl) _⟩⟩
                case measure => simp [intOf]; omega
              · obtain rfl : j = z.length := by omega
                clear hlt hj
                gi_wp2
                have kk : Kp (OnB g6) W wr := (HK7.out.mono (fun _ _ q => q.elim)).trans HKR.out (fun _ _ q => q)
                refine ⟨kk.from (fun b q => by have := HLT.out.2.2.1; unfold OnB at q; omega), fun k hk hne => kk.block k (Nat.lt_of_lt_of_le hk HKN.out.size) hne, ?_⟩
                unfold RdI
                rw [HFO.out]
                refine ⟨?_, HNS.out.set _ (fold_rng _ _ (HNS.out.2 _)), HKN.out.trans kk (fun _ _ q => q)⟩
                have := HBR.out
                rw [List.take_of_length_le (Nat.le_refl _)] at this
                exact this
          · gi_wp2
            gi_loopw [39] (fun v wr => ∃ j : Nat, j ≤ z.length ∧ v = .int .i64 j ∧ RdJ ln g6 ns 1 z w7 j wr) (fun v _ => z.length - (intOf v).toNat)
            case atStart => exact ⟨0, Nat.zero_le _, rfl, by
              have := HBB.out.keep HK7.out (fun q => q)
              unfold RdJ
              rw [List.take_zero, List.foldl_nil, set_self]
              exact ⟨this, Kp.refl _ _⟩⟩
            case round =>
              obtain ⟨j, hj, rfl, hb, hk⟩ := hrel
              have HKR := Lib.hid hk
              have HBR := Lib.hid hb
              clear hk hb
              by_cases hlt : j < z.length
              · have hlt' : (j : Int) < (z.length : Int) := by omega
                have hj60 : (j : Int) < 60 := by omega
                have hl8 := HNS.out.1
                have hfr := fold_rng (z.take j) (ns.getD 1 0) (HNS.out.2 1)
                have hstep := fold_next hlt (ns.getD 1 0)
                have hyr := HZR.out (z.getD j 0) (by rw [List.getD_eq_getElem?_getD, List.getElem?_eq_getElem hlt]; exact List.getElem_mem hlt)
                have cz : wr.cell? ⟨W.heap.size, j, none⟩ = some (.int .u8 (z.getD j 0)) := (HKR.out.cell (g := W.heap.size) (o := j) hs7 (fun q => by have := HBB.out.lt; unfold OnB at q; omega)).trans (HC7.out j hlt)
                have cn : wr.cell? ⟨g6, 2, none⟩ = some (.int .u32 ((z.take j).foldl numStep (ns.getD 1 0))) := by
                  rw [HBR.out.cell, sfC_at (i := 1) (by rw [List.length_set, hl8]; omega), getD_set (by rw [hl8]; omega)]
                have zn : wr.frozen? ⟨g6, 2, none⟩ = false := HBR.out.frozen 2
                have hb2 := fun v => HBR.out.set_ 2 (.int .u32 v)
                simp only [sfC_set, List.set_set] at hb2
                have HB2' := Lib.hid hb2
                have HSTEP := Lib.hid hstep
                clear hstep hb2
                generalize (z.take j).foldl numStep (ns.getD 1 0) = a at hfr cn HSTEP
                generalize z.getD j 0 = y at hyr cz HSTEP
                have hor := or32 a y hfr.1 hfr.2 hyr.1 hyr.2
                obtain ⟨f0, f1⟩ := hfr
                obtain ⟨y0, y1⟩ := hyr
                gi_wp2
                go_roundw
                case rel => exact ⟨j + 1, by omega, by push_cast; rfl, by
                  unfold RdJ
                  rw [HSTEP.out]
                  exact ⟨HB2'.out _, HKR.out.setCell (p := ⟨g6, 2, none⟩) (.inr rfl) _⟩⟩
                case measure => simp [intOf]; omega
              · obtain rfl : j = z.length := by omega
                clear hlt hj
                gi_wp2
                have kk : Kp (OnB g6) W wr := (HK7.out.mono (fun _ _ q => q.elim)).trans HKR.out (fun _ _ q => q)
                refine ⟨kk.from (fun b q => by have := HLT.out.2.2.1; unfold OnB at q; omega), fun k hk hne => kk.block k (Nat.lt_of_lt_of_le hk HKN.out.size) hne, ?_⟩
                unfold RdI
                rw [HFO.out]
                refine ⟨?_, HNS.out.set _ (fold_rng _ _ (HNS.out.2 _)), HKN.out.trans kk (fun _ _ q => q)⟩
                have := HBR.out
                rw [List.take_of_length_le (Nat.le_refl _)] at this
                exact this
          · gi_wp2
            gi_loopw [39] (fun v wr => ∃ j : Nat, j ≤ z.length ∧ v = .int .i64 j ∧ RdJ ln g6 ns 2 z w7 j wr) (fun v _ => z.length - (intOf v).toNat)
            case atStart => exact ⟨0, Nat.zero_le _, rfl, by
              have := HBB.out.keep HK7.out (fun q => q)
              unfold RdJ
              rw [List.take_zero, List.foldl_nil, set_self]
              exact ⟨this, Kp.refl _ _⟩⟩
            case round =>
              obtain ⟨j, hj, rfl, hb, hk⟩ := hrel
              have HKR := Lib.hid hk
              have HBR := Lib.hid hb
              clear hk hb
              by_cases hlt : j < z.length
              · have hlt' : (j : Int) < (z.length : Int) := by omega
                have hj60 : (j : Int) < 60 := by omega
                have hl8 := HNS.out.1
                have hfr := fold_rng (z.take j) (ns.getD 2 0) (HNS.out.2 2)
                have hstep := fold_next hlt (ns.getD 2 0)
                have hyr := HZR.out (z.getD j 0) (by rw [List.getD_eq_getElem?_getD, List.getElem?_eq_getElem hlt]; exact List.getElem_mem hlt)
                have cz : wr.cell? ⟨W.heap.size, j, none⟩ = some (.int .u8 (z.getD j 0)) := (HKR.out.cell (g := W.heap.size) (o := j) hs7 (fun q => by have := HBB.out.lt; unfold OnB at q; omega)).trans (HC7.out j hlt)
                have cn : wr.cell? ⟨g6, 3, none⟩ = some (.int .u32 ((z.take j).foldl numStep (ns.getD 2 0))) := by
                  rw [HBR.out.cell, sfC_at (i := 2) (by rw [List.length_set, hl8]; omega), getD_set (by rw [hl8]; omega)]
                have zn : wr.frozen? ⟨g6, 3, none⟩ = false := HBR.out.frozen 3
                have hb2 := fun v => HBR.out.set_ 3 (.int .u32 v)
                simp only [sfC_set, List.set_set] at hb2
                have HB2' := Lib.hid hb2
                have HSTEP := Lib.hid hstep
                clear hstep hb2
                generalize (z.take j).foldl numStep (ns.getD 2 0) = a at hfr cn HSTEP
                generalize z.getD j 0 = y at hyr cz HSTEP
                have hor := or32 a y hfr.1 hfr.2 hyr.1 hyr.2
                obtain ⟨f0, f1⟩ := hfr
                obtain ⟨y0, y1⟩ := hyr
                gi_wp2
                go_roundw
                case rel => exact ⟨j + 1, by omega, by push_cast; rfl, by
                  unfold RdJ
                  rw [HSTEP.out]
                  exact ⟨HB2'.out _, HKR.out.setCell (p := ⟨g6, 3, none⟩) (.inr rfl) _⟩⟩
                case measure => simp [intOf]; omega
              · obtain rfl : j = z.length := by omega
                clear hlt hj
                gi_wp2
                have kk : Kp (OnB g6) W wr := (HK7.out.mono (fun _ _ q => q.elim)).trans HKR.out (fun _ _ q => q)
                refine ⟨kk.from (fun b q => by have := HLT.out.2.2.1; unfold OnB at q; omega), fun k hk hne => kk.block k (Nat.lt_of_lt_of_le hk HKN.out.size) hne, ?_⟩
                unfold RdI
                rw [HFO.out]
                refine ⟨?_, HNS.out.set _ (fold_rng _ _ (HNS.out.2 _)), HKN.out.trans kk (fun _ _ q => q)⟩
                have := HBR.out
                rw [List.take_of_length_le (Nat.le_refl _)] at this
                exact this
          · gi_wp2
            gi_loopw [39] (fun v wr => ∃ j : Nat, j ≤ z.length ∧ v = .int .i64 j ∧ RdJ ln g6 ns 3 z w7 j wr) (fun v _ => z.length - (intOf v).toNat)
            case atStart => exact ⟨0, Nat.zero_le _, rfl, by
              have := HBB.out.keep HK7.out (fun q => q)
              unfold RdJ
              rw [List.take_zero, List.foldl_nil, set_self]
              exact ⟨this, Kp.refl _ _⟩⟩
            case round =>
              obtain ⟨j, hj, rfl, hb, hk⟩ := hrel
              have HKR := Lib.hid hk
              have HBR := Lib.hid hb
              clear hk hb
              by_cases hlt : j < z.length
              · have hlt' : (j : Int) < (z.length : Int) := by omega
                have hj60 : (j : Int) < 60 := by omega
                have hl8 := HNS.out.1
                have hfr := fold_rng (z.take j) (ns.getD 3 0) (HNS.out.2 3)
                have hstep := fold_next hlt (ns.getD 3 0)
                have hyr := HZR.out (z.getD j 0) (by rw [List.getD_eq_getElem?_getD, List.getElem?_eq_getElem hlt]; exact List.getElem_mem hlt)
                have cz : wr.cell? ⟨W.heap.size, j, none⟩ = some (.int .u8 (z.getD j 0)) := (HKR.out.cell (g := W.heap.size) (o := j) hs7 (fun q => by have := HBB.out.lt; unfold OnB at q; omega)).trans (HC7.out j hlt)
                have cn : wr.cell? ⟨g6, 4, none⟩ = some (.int .u32 ((z.take j).foldl numStep (ns.getD 3 0))) := by
                  rw [HBR.out.cell, sfC_at (i := 3) (by rw [List.length_set, hl8]; omega), getD_set (by rw [hl8]; omega)]
                have zn : wr.frozen? ⟨g6, 4, none⟩ = false := HBR.out.frozen 4
                have hb2 := fun v => HBR.out.set_ 4 (.int .u32 v)
                simp only [sfC_set, List.set_set] at hb2
                have HB2' := Lib.hid hb2
                have HSTEP := Lib.hid hstep
                clear hstep hb2
                generalize (z.take j).foldl numStep (ns.getD 3 0) = a at hfr cn HSTEP
                generalize z.getD j 0 = y at hyr cz HSTEP
                have hor := or32 a y hfr.1 hfr.2 hyr.1 hyr.2
                obtain ⟨f0, f1⟩ := hfr
                obtain ⟨y0, y1⟩ := hyr
                gi_wp2
                go_roundw
                case rel => exact ⟨j + 1, by omega, by push_cast; rfl, by
                  unfold RdJ
                  rw [HSTEP.out]
                  exact ⟨HB2'.out _, HKR.out.setCell (p := ⟨g6, 4, none⟩) (.inr rfl) _⟩⟩
                case measure => simp [intOf]; omega
              · obtain rfl : j = z.length := by omega
                clear hlt hj
                gi_wp2
                have kk : Kp (OnB g6) W wr := (HK7.out.mono (fun _ _ q => q.elim)).trans HKR.out (fun _ _ q => q)
                refine ⟨kk.from (fun b q => by have := HLT.out.2.2.1; unfold OnB at q; omega), fun k hk hne => kk.block k (Nat.lt_of_lt_of_le hk HKN.out.size) hne, ?_⟩
                unfold RdI
                rw [HFO.out]
                refine ⟨?_, HNS.out.set _ (fold_rng _ _ (HNS.out.2 _)), HKN.out.trans kk (fun _ _ q => q)⟩
                have := HBR.out
                rw [List.take_of_length_le (Nat.le_refl _)] at this
                exact this
          · gi_wp2
            gi_loopw [39] (fun v wr => ∃ j : Nat, j ≤ z.length ∧ v = .int .i64 j ∧ RdJ ln g6 ns 4 z w7 j wr) (fun v _ => z.length - (intOf v).toNat)
            case atStart => exact ⟨0, Nat.zero_le _, rfl, by
              have := HBB.out.keep HK7.out (fun q => q)
              unfold RdJ
              rw [List.take_zero, List.foldl_nil, set_self]
              exact ⟨this, Kp.refl _ _⟩⟩
            case round =>
              obtain ⟨j, hj, rfl, hb, hk⟩ := hrel
              have HKR := Lib.hid hk
              have HBR := Lib.hid hb
              clear hk hb
              by_cases hlt : j < z.length
              · have hlt' : (j : Int) < (z.length : Int) := by omega
                have hj60 : (j : Int) < 60 := by omega
                have hl8 := HNS.out.1
                have hfr := fold_rng (z.take j) (ns.getD 4 0) (HNS.out.2 4)
                have hstep := fold_next hlt (ns.getD 4 0)
                have hyr := HZR.out (z.getD j 0) (by rw [List.getD_eq_getElem?_getD, List.getElem?_eq_getElem hlt]; exact List.getElem_mem hlt)
                have cz : wr.cell? ⟨W.heap.size, j, none⟩ = some (.int .u8 (z.getD j 0)) := (HKR.out.cell (g := W.heap.size) (o := j) hs7 (fun q => by have := HBB.out.lt; unfold OnB at q; omega)).trans (HC7.out j hlt)
                have cn : wr.cell? ⟨g6, 5, none⟩ = some (.int .u32 ((z.take j).foldl numStep (ns.getD 4 0))) := by
                  rw [HBR.out.cell, sfC_at (i := 4) (by rw [List.length_set, hl8]; omega), getD_set (by rw [hl8]; omega)]
                have zn : wr.frozen? ⟨g6, 5, none⟩ = false := HBR.out.frozen 5
                have hb2 := fun v => HBR.out.set_ 5 (.int .u32 v)
                simp only [sfC_set, List.set_set] at hb2
                have HB2' := Lib.hid hb2
                have HSTEP := Lib.hid hstep
                clear hstep hb2
                generalize (z.take j).foldl numStep (ns.getD 4 0) = a at hfr cn HSTEP
                generalize z.getD j 0 = y at hyr cz HSTEP
                have hor := or32 a y hfr.1 hfr.2 hyr.1 hyr.2
                obtain ⟨f0, f1⟩ := hfr
                obtain ⟨y0, y1⟩ := hyr
                gi_wp2
                go_roundw
                case rel => exact ⟨j + 1, by omega, by push_cast; rfl, by
                  unfold RdJ
                  rw [HSTEP.out]
                  exact ⟨HB2'.out _, HKR.out.setCell (p := ⟨g6, 5, none⟩) (.inr rfl) _⟩⟩
                case measure => simp [intOf]; omega
              · obtain rfl : j = z.length := by omega
                clear hlt hj
                gi_wp2
                have kk : Kp (OnB g6) W wr := (HK7.out.mono (fun _ _ q => q.elim)).trans HKR.out (fun _ _ q => q)
                refine ⟨kk.from (fun b q => by have := HLT.out.2.2.1; unfold OnB at q; omega), fun k hk hne => kk.block k (Nat.lt_of_lt_of_le hk HKN.out.size) hne, ?_⟩
                unfold RdI
                rw [HFO.out]
                refine ⟨?_, HNS.out.set _ (fold_rng _ _ (HNS.out.2 _)), HKN.out.trans kk (fun _ _ q => q)⟩
                have := HBR.out
                rw [List.take_of_length_le (Nat.le_refl _)] at this
                exact this
          · gi_wp2
            gi_loopw [39] (fun v wr => ∃ j : Nat, j ≤ z.length ∧ v = .int .i64 j ∧ RdJ ln g6 ns 5 z w7 j wr) (fun v _ => z.length - (intOf v).toNat)
            case atStart => exact ⟨0, Nat.zero_le _, rfl, by
              have := HBB.out.keep HK7.out (fun q => q)
              unfold RdJ
              rw [List.take_zero, List.foldl_nil, set_self]
              exact ⟨this, Kp.refl _ _⟩⟩
            case round =>
              obtain ⟨j, hj, rfl, hb, hk⟩ := hrel
              have HKR := Lib.hid hk
              have HBR := Lib.hid hb
              clear hk hb
              by_cases hlt : j < z.length
              · have hlt' : (j : Int) < (z.length : Int) := by omega
                have hj60 : (j : Int) < 60 := by omega
                have hl8 := HNS.out.1
                have hfr := fold_rng (z.take j) (ns.getD 5 0) (HNS.out.2 5)
                have hstep := fold_next hlt (ns.getD 5 0)
                have hyr := HZR.out (z.getD j 0) (by rw [List.getD_eq_getElem?_getD, List.getElem?_eq_getElem hlt]; exact List.getElem_mem hlt)
                have cz : wr.cell? ⟨W.heap.size, j, none⟩ = some (.int .u8 (z.getD j 0)) := (HKR.out.cell (g := W.heap.size) (o := j) hs7 (fun q => by have := HBB.out.lt; unfold OnB at q; omega)).trans (HC7.out j hlt)
                have cn : wr.cell? ⟨g6, 6, none⟩ = some (.int .u32 ((z.take j).foldl numStep (ns.getD 5 0))) := by
                  rw [HBR.out.cell, sfC_at (i := 5) (by rw [List.length_set, hl8]; omega), getD_set (by rw [hl8]; omega)]
                have zn : wr.frozen? ⟨g6, 6, none⟩ = false := HBR.out.frozen 6
                have hb2 := fun v => HBR.out.set_ 6 (.int .u32 v)
                simp only [sfC_set, List.set_set] at hb2
                have HB2' := Lib.hid hb2
                have HSTEP := Lib.hid hstep
                clear hstep hb2
                generalize (z.take j).foldl numStep (ns.getD 5 0) = a at hfr cn HSTEP
                generalize z.getD j 0 = y at hyr cz HSTEP
                have hor := or32 a y hfr.1 hfr.2 hyr.1 hyr.2
                obtain ⟨f0, f1⟩ := hfr
                obtain ⟨y0, y1⟩ := hyr
                gi_wp2
                go_roundw
                case rel => exact ⟨j + 1, by omega, by push_cast; rfl, by
                  unfold RdJ
                  rw [HSTEP.out]
                  exact ⟨HB2'.out _, HKR.out.setCell (p := ⟨g6, 6, none⟩) (.inr rfl) _⟩⟩
                case measure => simp [intOf]; omega
              · obtain rfl : j = z.length := by omega
                clear hlt hj
                gi_wp2
                have kk : Kp (OnB g6) W wr := (HK7.out.mono (fun _ _ q => q.elim)).trans HKR.out (fun _ _ q => q)
                refine ⟨kk.from (fun b q => by have := HLT.out.2.2.1; unfold OnB at q; omega), fun k hk hne => kk.block k (Nat.lt_of_lt_of_le hk HKN.out.size) hne, ?_⟩
                unfold RdI
                rw [HFO.out]
                refine ⟨?_, HNS.out.set _ (fold_rng _ _ (HNS.out.2 _)), HKN.out.trans kk (fun _ _ q => q)⟩
                have := HBR.out
                rw [List.take_of_length_le (Nat.le_refl _)] at this
                exact this
          · gi_wp2
            gi_loopw [39] (fun v wr => ∃ j : Nat, j ≤ z.length ∧ v = .int .i64 j ∧ RdJ ln g6 ns 6 z w7 j wr) (fun v _ => z.length - (intOf v).toNat)
            case atStart => exact ⟨0, Nat.zero_le _, rfl, by
              have := HBB.out.keep HK7.out (fun q => q)
              unfold RdJ
              rw [List.take_zero, List.foldl_nil, set_self]
              exact ⟨this, Kp.refl _ _⟩⟩
            case round =>
              obtain ⟨j, hj, rfl, hb, hk⟩ := hrel
              have HKR := Lib.hid hk
              have HBR := Lib.hid hb
              clear hk hb
              by_cases hlt : j < z.length
              · have hlt' : (j : Int) < (z.length : Int) := by omega
                have hj60 : (j : Int) < 60 := by omega
                have hl8 := HNS.out.1
                have hfr := fold_rng (z.take j) (ns.getD 6 0) (HNS.out.2 6)
                have hstep := fold_next hlt (ns.getD 6 0)
                have hyr := HZR.out (z.getD j 0) (by rw [List.getD_eq_getElem?_getD, List.getElem?_eq_getElem hlt]; exact List.getElem_mem hlt)
                have cz : wr.cell? ⟨W.heap.size, j, none⟩ = some (.int .u8 (z.getD j 0)) := (HKR.out.cell (g := W.heap.size) (o := j) hs7 (fun q => by have := HBB.out.lt; unfold OnB at q; omega)).trans (HC7.out j hlt)
                have cn : wr.cell? ⟨g6, 7, none⟩ = some (.int .u32 ((z.take j).foldl numStep (ns.getD 6 0))) := by
                  rw [HBR.out.cell, sfC_at (i := 6) (by rw [List.length_set, hl8]; omega), getD_set (by rw [hl8]; omega)]
                have zn : wr.frozen? ⟨g6, 7, none⟩ = false := HBR.out.frozen 7
                have hb2 := fun v => HBR.out.set_ 7 (.int .u32 v)
                simp only [sfC_set, List.set_set] at hb2
                have HB2' := Lib.hid hb2
                have HSTEP := Lib.hid hstep
                clear hstep hb2
                generalize (z.take j).foldl numStep (ns.getD 6 0) = a at hfr cn HSTEP
                generalize z.getD j 0 = y at hyr cz HSTEP
                have hor := or32 a y hfr.1 hfr.2 hyr.1 hyr.2
                obtain ⟨f0, f1⟩ := hfr
                obtain ⟨y0, y1⟩ := hyr
                gi_wp2
                go_roundw
                case rel => exact ⟨j + 1, by omega, by push_cast; rfl, by
                  unfold RdJ
                  rw [HSTEP.out]
                  exact ⟨HB2'.out _, HKR.out.setCell (p := ⟨g6, 7, none⟩) (.inr rfl) _⟩⟩
                case measure => simp [intOf]; omega
              · obtain rfl : j = z.length := by omega
                clear hlt hj
                gi_wp2
                have kk : Kp (OnB g6) W wr := (HK7.out.mono (fun _ _ q => q.elim)).trans HKR.out (fun _ _ q => q)
                refine ⟨kk.from (fun b q => by have := HLT.out.2.2.1; unfold OnB at q; omega), fun k hk hne => kk.block k (Nat.lt_of_lt_of_le hk HKN.out.size) hne, ?_⟩
                unfold RdI
                rw [HFO.out]
                refine ⟨?_, HNS.out.set _ (fold_rng _ _ (HNS.out.2 _)), HKN.out.trans kk (fun _ _ q => q)⟩
                have := HBR.out
                rw [List.take_of_length_le (Nat.le_refl _)] at this
                exact this
          · gi_wp2
            gi_loopw [39] (fun v wr => ∃ j : Nat, j ≤ z.length ∧ v = .int .i64 j ∧ RdJ ln g6 ns 7 z w7 j wr) (fun v _ => z.length - (intOf v).toNat)
            case atStart => exact ⟨0, Nat.zero_le _, rfl, by
              have := HBB.out.keep HK7.out (fun q => q)
              unfold RdJ
              rw [List.take_zero, List.foldl_nil, set_self]
              exact ⟨this, Kp.refl _ _⟩⟩
            case round =>
              obtain ⟨j, hj, rfl, hb, hk⟩ := hrel
              have HKR := Lib.hid hk
              have HBR := Lib.hid hb
              clear hk hb
              by_cases hlt : j < z.length
              · have hlt' : (j : Int) < (z.length : Int) := by omega
                have hj60 : (j : Int) < 60 := by omega
                have hl8 := HNS.out.1
                have hfr := fold_rng (z.take j) (ns.getD 7 0) (HNS.out.2 7)
                have hstep := fold_next hlt (ns.getD 7 0)
                have hyr := HZR.out (z.getD j 0) (by rw [List.getD_eq_getElem?_getD, List.getElem?_eq_getElem hlt]; exact List.getElem_mem hlt)
                have cz : wr.cell? ⟨W.heap.size, j, none⟩ = some (.int .u8 (z.getD j 0)) := (HKR.out.cell (g := W.heap.size) (o := j) hs7 (fun q => by have := HBB.out.lt; unfold OnB at q; omega)).trans (HC7.out j hlt)
                have cn : wr.cell? ⟨g6, 8, none⟩ = some (.int .u32 ((z.take j).foldl numStep (ns.getD 7 0))) := by
                  rw [HBR.out.cell, sfC_at (i := 7) (by rw [List.length_set, hl8]; omega), getD_set (by rw [hl8]; omega)]
                have zn : wr.frozen? ⟨g6, 8, none⟩ = false := HBR.out.frozen 8
                have hb2 := fun v => HBR.out.set_ 8 (.int .u32 v)
                simp only [sfC_set, List.set_set] at hb2
                have HB2' := Lib.hid hb2
                have HSTEP := Lib.hid hstep
                clear hstep hb2
                generalize (z.take j).foldl numStep (ns.getD 7 0) = a at hfr cn HSTEP
                generalize z.getD j 0 = y at hyr cz HSTEP
                have hor := or32 a y hfr.1 hfr.2 hyr.1 hyr.2
                obtain ⟨f0, f1⟩ := hfr
                obtain ⟨y0, y1⟩ := hyr
                gi_wp2
                go_roundw
                case rel => exact ⟨j + 1, by omega, by push_cast; rfl, by
                  unfold RdJ
                  rw [HSTEP.out]
                  exact ⟨HB2'.out _, HKR.out.setCell (p := ⟨g6, 8, none⟩) (.inr rfl) _⟩⟩
                case measure => simp [intOf]; omega
              · obtain rfl : j = z.length := by omega
                clear hlt hj
                gi_wp2
                have kk : Kp (OnB g6) W wr := (HK7.out.mono (fun _ _ q => q.elim)).trans HKR.out (fun _ _ q => q)
                refine ⟨kk.from (fun b q => by have := HLT.out.2.2.1; unfold OnB at q; omega), fun k hk hne => kk.block k (Nat.lt_of_lt_of_le hk HKN.out.size) hne, ?_⟩
                unfold RdI
                rw [HFO.out]
                refine ⟨?_, HNS.out.set _ (fold_rng _ _ (HNS.out.2 _)), HKN.out.trans kk (fun _ _ q => q)⟩
                have := HBR.out
                rw [List.take_of_length_le (Nat.le_refl _)] at this
                exact this
    case stop =>
      rintro D c pre W _ _ h _
      exact h.elim
    case done =>
      rintro D2 xs W hD rfl ⟨hb, hns, hk⟩ hK
      rw [foldNs cs cs.length (Nat.le_refl _), partNs_all] at hb
      have hpf : Sf.mk ln ((List.range 8).map (numAt cs)) = parse p := by
        unfold parse
        rw [HLN.out, HCS.out]
      have hok := parse_ok p HB.out
      have hread : readS (p :: D) = if spg (parse p) = p then some (parse p) else none := rfl
      rw [← hpf] at hok hread
      clear hns hpf
      generalize (List.range 8).map (numAt cs) = ns at hb hok hread
      have HOK := Lib.hid hok
      have h2 := B2.out.keep hk HLT.out.1
      have h4 := B4.out.keep hk HLT.out.2.1
      have HB2 := Lib.hid h2
      have HB4' := Lib.hid h4
      have HB6' := Lib.hid hb
      have HREAD := Lib.hid hread
      have HKW : Hid (Kp NoB w W) := Lib.hid (HW.out.trans hk (fun b hb q => by
        exact HSZW.out b hb q))
      have HD9 := Lib.hid hK
      have HDD := Lib.hid hD
      clear hb hok hread h2 h4 hk hK hD
      gi_wp2
      go_upto_region 16 with fail
      have hS : ∀ V, Kp NoB W V → V.rangeAt g6 0 (.int .i64 ln :: ns.map (Value.int .u32)) ∧ V.rangeAt g4 0 (p.map (Value.int .u8)) := fun V k =>
        ⟨Blk.range (xa := []) (xb := .int .i64 ln :: ns.map (Value.int .u32)) (xd := []) (by have := HB6'.out.keep k (fun q => q); unfold sfC at this; simpa using this) 0 rfl, blk_rgP (HB4'.out.keep k (fun q => q))⟩
      have hl8 := HOK.out.len
      refine wp_region_noPanic ?_
      refine wp_region_held_drew (S := fun V => V.rangeAt g6 0 (.int .i64 ln :: ns.map (Value.int .u32)) ∧ V.rangeAt g4 0 (p.map (Value.int .u8))) (by kernel_rfl) (hS _ (Kp.refl NoB W).drew) (fun hHeld => ?_)
      have hk0 : Kp NoB W W.drew := (Kp.refl NoB W).drew
      have hi9 : (Tryz.prog.info? 114).map (·.size) = some (Value.int .i64 ln :: ns.map (Value.int .u32)).length := by rw [List.length_cons, List.length_map, show ns.length = 8 from hl8]; exact infoSf
      have hi1 : (Tryz.prog.info? 86).map (·.size) = some (p.map (Value.int .u8)).length := by rw [List.length_map, HB.out.len]; exact info26
      have hu9 := Tryz.underlying114
      have hu := Tryz.underlying86
      generalize W.drew = W0 at hk0 hHeld ⊢
      refine tkS (i := 0) (v := .agg ((.int .i64 ln :: ns.map (Value.int .u32))).toArray) rfl (yieldsIf_load_mid (by rfl) _ _ rfl _ _ rfl (.int .i64 ln :: ns.map (Value.int .u32)) _ (fun _ q => q.1) hu9 rfl hi9) (hS _ hk0) ?_
      simp only [Act.put, skA, skB, skC]
      refine tkS (i := 2) (v := .agg ((p.map (Value.int .u8))).toArray) rfl (yieldsIf_load_mid (by rfl) _ _ rfl _ _ rfl (p.map (Value.int .u8)) _ (fun _ q => q.2) hu rfl hi1) (hS _ hk0) ?_
      simp only [Act.put, skA, skB, skC]
      refine wpAnyH_ready (rs := [1]) (by kernel_rfl) (by simp) ?_
      refine AllReadyH.callR (fun x W' => x = .agg (bytesV (spg ⟨ln, ns⟩)) ∧ Kp NoB W W') rfl (by rfl) 65 #[.agg (sfC ⟨ln, ns⟩)] (by first | (go_simp; done) | (go_simp; rfl)) (fun _ _ q => (hS _ q.2)) ((page_ok W0 ⟨ln, ns⟩ HOK.out).mono (by rintro e w19 ⟨rfl, hk⟩; exact ⟨_, rfl, rfl, hk0.trans hk (fun _ _ q => q)⟩)) ?_ AllReadyH.nil
      rintro _ W1 ⟨rfl, hk1⟩
      simp only [Act.put, skA, skB, skC]
      have hspl := (spg_bytes hl8).len
      refine tkS (i := 3) (v := .bool (!decide (spg ⟨ln, ns⟩ = p))) rfl (Or.inl ⟨by rfl, fun w' hq => by
        exact neqPgS w' _ _ _ _ rfl rfl hspl HB.out.len⟩) (hS _ hk1) ?_
      simp only [Act.put, skA, skB, skC]
      refine wpAnyH_done (by kernel_rfl) ?_ _
      refine NoPanic.normal ?_
      generalize (Value.int .i64 ln :: List.map (Value.int .u32) ns).toArray = A57
      generalize (List.map (Value.int .u8) p).toArray = A59
      generalize bytesV (spg ⟨ln, ns⟩) = A58
      have HK1 := Lib.hid hk1
      clear hHeld hk0 hk1 hi1 hi9 hu hu9 hspl hS
      have h2 := HB2.out.keep HK1.out (fun q => q)
      have h6 := HB6'.out.keep HK1.out (fun q => q)
      have t2 := h2.thereAll 9 (sfC_size rfl)
      have t6 := h6.thereAll 9 (sfC_size hl8)
      have r6 := h6.readAll 9 (sfC_size hl8)
      have o6 := sfC_one ⟨ln, ns⟩
      have s6 : (sfC ⟨ln, ns⟩).size = 9 := sfC_size hl8
      have o0 := sfC_one sf0
      have s0 : (sfC sf0).size = 9 := sfC_size rfl
      have S0 := Lib.hid s0
      have S6 := Lib.hid s6
      have H2 := Lib.hid h2
      have hD9 : ∀ xs : List Value, (W1.setCells g2 0 xs).heap[D2]? = some (.deferred (some [])) := fun xs => by
        have hlt := lt_of_heap HD9.out
        have h1 : W1.heap[D2]? = some (.deferred (some [])) := (HK1.out.block D2 hlt (fun q => q)).trans HD9.out
        have kk : Kp (OnB g2) W1 (W1.setCells g2 0 xs) := Kp.setCells (S := OnB g2) (g := g2) (.inr rfl) _ _ _ (Kp.refl _ _)
        exact (kk.block D2 (lt_of_heap h1) (by have := HDD.out; have := HLT.out; unfold OnB; omega)).trans h1
      have HD9' := Lib.hid hD9
      clear h2 h6 hD9 hl8
      by_cases heq : spg ⟨ln, ns⟩ = p
      · rw [decide_eq_true heq, Bool.not_true]
        have hr := HREAD.out
        rw [if_pos heq] at hr
        have HRV : Hid (readV (p :: D) = ⟨ln, ns⟩ ∧ readE (p :: D) = 0) := Lib.hid (by unfold readV readE; rw [hr]; exact ⟨rfl, rfl⟩)
        clear hr heq
        gi_wp2
        go_wp2_with fail
        have hbp2 := blkOwn (H2.out.whole (sfC ⟨ln, ns⟩) (by rw [S6.out, S0.out])) (grownBy_putObj' _ D2 (.deferred none)) (fun r e => by cases e; exact ⟨_, HD9'.out _, rfl⟩)
        refine leaveM (HD9'.out _) (ret_cell_tmp (p := 2) (u := 3) rfl _ _ g2 _ _ _ rfl hbp2 Tryz.underlying114 rfl (by rw [S6.out]; exact infoSf) _ rfl) ⟨by rw [HRV.out.1, HRV.out.2]; rfl, ?_⟩
        exact (Kp.setCells (.inl (by have := HG2.out; omega)) _ _ _ (HKW.out.trans HK1.out (fun _ _ q => q))).grownBy (grownBy_putObj' _ D2 _) (fun r e => by cases e; have := HDD.out; have := HW.out.size; omega)
      · rw [decide_eq_false heq, Bool.not_false]
        have hr := HREAD.out
        rw [if_neg heq] at hr
        have HRV : Hid (readV (p :: D) = sf0 ∧ readE (p :: D) = 8) := Lib.hid (by unfold readV readE; rw [hr]; exact ⟨rfl, rfl⟩)
        clear hr heq
        gi_wp2
        go_wp2_with fail
        have hbp2 := blkOwn (H2.out.whole (sfC sf0) (by rw [S0.out])) (grownBy_putObj' _ D2 (.deferred none)) (fun r e => by cases e; exact ⟨_, HD9'.out _, rfl⟩)
        refine leaveM (HD9'.out _) (ret_cell_tmp (p := 2) (u := 3) rfl _ _ g2 _ _ _ rfl hbp2 Tryz.underlying114 rfl (by rw [S0.out]; exact infoSf) _ rfl) ⟨by rw [HRV.out.1, HRV.out.2]; rfl, ?_⟩
        exact (Kp.setCells (.inl (by have := HG2.out; omega)) _ _ _ (HKW.out.trans HK1.out (fun _ _ q => q))).grownBy (grownBy_putObj' _ D2 _) (fun r e => by cases e; have := HDD.out; have := HW.out.size; omega)
end
end Go.Proofs.YtoeldmkbmnkhkaaGreat
/- A transaction stays where only the caller's own blocks change; no condition. -/
namespace Go.Proofs.YtoeldmkbmnkhkaaGreat
open Go.RowKit

section
variable {L : Lab} {w w' : World} {sb db lb : Nat} {tb : Nat → Nat} {s : SdS} {ts : Nat → Option TxS} {T : Nat → Prop} {t0 : Nat} {D : List (List Int)} {sv : List (List (List Int))}
theorem Sys.keepC (h : Sys L w sb db lb tb s ts) (k : Kp T w w') (h0 : ∀ b, T b → L b = 0) (hu : NoBytes w T) : Sys L w' sb db lb tb s ts :=
  ⟨h.lab.mono k.size, h.l1, h.l2, h.blk.keep k (fun q => by have := h0 _ q; rw [h.l1] at this; cases this), h.tab.keep k (fun q => by have := h0 _ q; rw [h.l2] at this; cases this), h.dq.keep k (fun b q => by rw [h0 b q]; decide) hu, fun i t e => ⟨(h.tx i t e).1, (h.tx i t e).2.1, (h.tx i t e).2.2.keep (Sm.of k (fun _ _ => rfl) (fun b q z => by have := h0 b z; rw [this] at q; have := q.1; omega))⟩⟩
theorem Wr.keepC (h : Wr L w t0 D sv) (k : Kp T w w') (h0 : ∀ b, T b → L b = 0) (hu : NoBytes w T) : Wr L w' t0 D sv := by
  obtain ⟨sb, db, lb, tb, s, ts, i, t, h1, h2⟩ := h
  exact ⟨sb, db, lb, tb, s, ts, i, t, h1.keepC k h0 hu, h2⟩
/-- a block of the caller's is written: it holds no bytes -/
theorem Wr.box (h : Wr L w t0 D sv) {g : Nat} {t : TypeId} {cs : Array Value} (hb : Blk w g t cs) (ht : t ≠ 5) (hl : L g = 0) (k : Kp (OnB g) w w') : Wr L w' t0 D sv :=
  h.keepC k (fun b q => by unfold OnB at q; rw [q]; exact hl) (fun b ds hd q => by
    unfold OnB at q
    subst q
    have := hb
    unfold Blk at this
    rw [hd] at this
    injection this with this
    injection this with _ this
    exact ht this.symm)
/-- what a call makes, seen from an earlier world -/
theorem Gw.own {L L' : Lab} {w w1 w' : World} (h : Gw L w L' w1) (k : Kp (fun b => w.heap.size ≤ b) w1 w') : Gw L w L' w' :=
  ⟨h.kp.trans k (fun b hb q => by omega), h.ext⟩
end
end Go.Proofs.YtoeldmkbmnkhkaaGreat
/- The space's operations that read; no condition. -/
namespace Go.Proofs.YtoeldmkbmnkhkaaGreat
open Go.RowKit
theorem neqT (w : World) (ev : Operand → Value) (ds : Option Tmp) (x y : Operand) (yt ty : TypeId) (ps : String) (af : Array Edge) (g : Option (Nat × Bool)) (hx : pgOK (ev x)) (hy : pgOK (ev y)) (hv : valEq (ev x) (ev y) = true) :
    (execOp ev ⟨ds, .binOp .neq 86 x y yt, ty, ps, af, g⟩).run Tryz.prog w = .ok (.value (.bool false)) w := by
  rw [neq26 w ev ds x y yt ty ps af g hx hy, hv]; rfl
theorem neqF (w : World) (ev : Operand → Value) (ds : Option Tmp) (x y : Operand) (yt ty : TypeId) (ps : String) (af : Array Edge) (g : Option (Nat × Bool)) (hx : pgOK (ev x)) (hy : pgOK (ev y)) (hv : valEq (ev x) (ev y) = false) :
    (execOp ev ⟨ds, .binOp .neq 86 x y yt, ty, ps, af, g⟩).run Tryz.prog w = .ok (.value (.bool true)) w := by
  rw [neq26 w ev ds x y yt ty ps af g hx hy, hv]; rfl
attribute [local go_sem ↓] load26 store26 alloc26 build26 loadSf storeSf allocSf buildSf0 buildSfE neqT neqF

theorem readV_some {D : List (List Int)} {f : Sf} (h : readS D = some f) : readV D = f ∧ readE D = 0 := by unfold readV readE; rw [h]; exact ⟨rfl, rfl⟩
theorem readV_none {D : List (List Int)} (h : readS D = none) : readV D = sf0 ∧ readE D = 8 := by unfold readV readE; rw [h]; exact ⟨rfl, rfl⟩
section
variable {L : Lab} {w : World} {t0 : Nat} {D : List (List Int)} {sv : List (List (List Int))}
theorem readV_ok (h : Wr L w t0 D sv) : SfOk (readV D) := by
  unfold readV readS
  cases D with
  | nil => exact ⟨⟨by decide, by decide⟩, rfl, fun n hn => by rw [List.eq_of_mem_replicate hn]; decide⟩
  | cons p D =>
    dsimp only
    split
    · have := h.bytes 1
      rw [pgD_one] at this
      exact parse_ok p this
    · exact ⟨⟨by decide, by decide⟩, rfl, fun n hn => by rw [List.eq_of_mem_replicate hn]; decide⟩
theorem shrS_all (D : List (List Int)) : shrS D (D.length : Int) = (D, 0) := by
  unfold shrS
  rw [if_neg (by omega), show ((D.length : Int)).toNat = D.length from rfl, List.take_length]
set_option maxRecDepth 100000 in
set_option maxHeartbeats 800000 in
theorem writer_w (h : Wr L w t0 D sv) : Calls Tryz.prog 63 #[ptrV t0] w (WrEnd L w t0 D sv (.tuple #[.agg (sfC (readV D)), .int .i64 (readE D)])) := by
  have H := Lib.hid h
  have HRL := Lib.hid (readV_ok h).len
  have hl0 := h.lok.new (Nat.le_refl w.heap.size)
  have HL0 := Lib.hid hl0
  clear h hl0
  unfold ptrV at *
  go_enter Tryz.func63, Tryz.ntmps63
  go_wp2_with fail
  have k0 : Kp NoB w (w.alloc (.cells (sfC sf0) 114)) := (Kp.refl NoB w).alloc _
  refine (count_w (H.out.keep k0)).mono ?_
  rintro e w1 ⟨rfl, hk1⟩
  have K1 := Lib.hid (k0.trans hk1 (fun _ _ q => q))
  have B1 := Lib.hid ((Blk.new w 114 (sfC sf0)).keep hk1 (fun q => q))
  have HS := Lib.hid (shrS_all D)
  generalize (D.length : Int) = n at HS ⊢
  clear k0 hk1
  go_wp2_with fail
  refine (shrink_w (H.out.keep K1.out) n).mono ?_
  rw [HS.out]
  rintro e w2 ⟨rfl, L2, h2, g2⟩
  have H2 := Lib.hid h2
  have G2 := Lib.hid g2
  have hb2 := g2.blk B1.out HL0.out
  have B2 := Lib.hid hb2
  clear h2 g2 hb2
  go_wp2_with fail
  refine (read_w H2.out).mono ?_
  rintro e w3 ⟨rfl, hk3⟩
  have hb3 := B2.out.1.keep hk3 (fun q => q)
  have B3 := Lib.hid hb3
  have t3 := hb3.thereAll 9 (sfC_size rfl)
  have oF := sfC_one (readV D)
  have sF := sfC_size HRL.out
  have SF := Lib.hid sF
  have K3 := Lib.hid hk3
  have E : Hid (∀ xs : List Value, Kp (OnB w.heap.size) w3 (w3.setCells w.heap.size 0 xs)) := Lib.hid fun xs => Kp.setCells (S := OnB w.heap.size) (.inr rfl) _ _ _ (Kp.refl _ _)
  obtain ⟨f, hf⟩ : ∃ f, readV D = f := ⟨_, rfl⟩
  obtain ⟨re, hre⟩ : ∃ re, readE D = re := ⟨_, rfl⟩
  rw [hf] at oF sF SF ⊢
  rw [hre]
  have HF := Lib.hid hf
  have HRE := Lib.hid hre
  clear hf hre
  clear hb3 hk3
  go_wp2_with fail
  refine bodyPost_ret (ret_cell_tmp rfl _ _ _ _ _ _ rfl (B3.out.whole (sfC f) (by rw [SF.out, sfC_size rfl])) Tryz.underlying114 rfl (by rw [SF.out]; exact infoSf) _ rfl) rfl ⟨by rw [HF.out, HRE.out]; rfl, L2, ?_, ?_⟩
  · exact (H2.out.keep K3.out).box B3.out (by decide) B2.out.2 (E.out _)
  · exact (((Gw.nob K1.out).trans G2.out).trans (Gw.nob K3.out)).own ((E.out _).mono (fun b _ q => by unfold OnB at q; omega))
set_option maxRecDepth 100000 in
set_option maxHeartbeats 800000 in
theorem next_w (h : Wr L w t0 D sv) (n : Int) : Calls Tryz.prog 64 #[ptrV t0, .int .i64 n] w fun e w' => e = .returned (.tuple #[.int .i64 (nextS D n).1, .int .i64 (nextS D n).2]) ∧ Kp NoB w w' := by
  have HP := Lib.hid (page_w h n)
  have HB := Lib.hid (h.bytes n)
  clear h
  obtain ⟨p, hp⟩ : ∃ p, pgD D n = p := ⟨_, rfl⟩
  have hn : nextS D n = if 2 ≤ n ∧ n ≤ D.length ∧ fpg (linkF (readF p)) = p then (linkF (readF p), 0) else (0, 8) := by unfold nextS linkD; rw [hp]
  rw [hp] at HP HB
  have HN := Lib.hid hn
  clear hp hn
  unfold ptrV at *
  by_cases h1 : 1 ≤ n ∧ n ≤ D.length
  · have hpe : pgE D n = 0 := if_pos h1
    rw [hpe] at HP
    clear hpe
    by_cases h2 : n < 2
    · have E : Hid (nextS D n = (0, 8)) := Lib.hid (by rw [HN.out, if_neg (by omega)])
      go_enter Tryz.func64, Tryz.ntmps64
      go_wp2_with fail
      refine HP.out.mono ?_
      rintro e w1 ⟨rfl, hk⟩
      obtain ⟨o1, s1, t3, t4, r4, kk, fr⟩ := pageFacts w1 p HB.out.len
      have K := Lib.hid (hk.trans kk (fun _ _ q => q))
      clear fr kk hk r4 t4
      go_wp2_with fail
      go_ret2
      exact ⟨by rw [E.out]; rfl, K.out⟩
    · have h3 : 2 ≤ n := by omega
      go_enter Tryz.func64, Tryz.ntmps64
      go_wp2_with fail
      refine HP.out.mono ?_
      rintro e w1 ⟨rfl, hk⟩
      obtain ⟨o1, s1, t3, t4, r4, kk, fr⟩ := pageFacts w1 p HB.out.len
      have K := Lib.hid (hk.trans kk (fun _ _ q => q))
      have hbp : Blk ((w1.alloc (.cells zero256 86)).setCells w1.heap.size 0 (bytesV p).toList) w1.heap.size 86 (bytesV p) := (Blk.new w1 86 zero256).whole (bytesV p) (by rw [s1, sz256P])
      have BP := Lib.hid hbp
      clear fr kk hk hbp
      go_wp2_with fail
      refine (Link_ok _ p HB.out).mono ?_
      rintro e w2 ⟨rfl, hk2⟩
      have hlr := link_rng HB.out
      obtain ⟨ln, hln⟩ : ∃ ln, linkF (readF p) = ln := ⟨_, rfl⟩
      have hn2 := HN.out
      rw [hln] at hlr hn2 ⊢
      have HN2 := Lib.hid hn2
      have HLN := Lib.hid hln
      clear hn2 hln
      obtain ⟨l0, l1⟩ := hlr
      have K2 := Lib.hid (K.out.trans hk2 (fun _ _ q => q))
      have BP2 := Lib.hid (BP.out.keep hk2 (fun q => q))
      clear hk2
      go_wp2_with fail
      refine (pgnew_ok w2 0 ln none 0 0 [] (by omega) (by simp) ⟨rfl, fun q => by omega⟩).mono ?_
      rintro e w3 ⟨rfl, hk3⟩
      rw [new_fpg]
      have hbp := BP2.out.keep hk3 (fun q => q)
      have hfl := (fpg_bytes ln).len
      obtain ⟨q, hq⟩ : ∃ q, fpg ln = q := ⟨_, rfl⟩
      rw [hq] at hfl ⊢
      have HQ := Lib.hid hq
      clear hq
      obtain ⟨o5, s5, t5, t6, r6, kk5, fr5⟩ := pageFacts w3 q hfl
      have K3 := Lib.hid ((K2.out.trans hk3 (fun _ _ q => q)).trans kk5 (fun _ _ q => q))
      have hbp5 := fr5 hbp
      have t7 := hbp5.thereAll 256 s1
      have r7 := hbp5.readAll 256 s1
      have BP5 := Lib.hid hbp5
      have HFL := Lib.hid hfl
      clear hk3 hbp kk5 fr5 hbp5 hfl
      by_cases heq : q = p
      · have hv : valEq (.agg (bytesV q)) (.agg (bytesV p)) = true := by rw [heq]; exact valEq_self _
        have E : Hid (nextS D n = (ln, 0)) := Lib.hid (by rw [HN2.out, if_pos ⟨h3, h1.2, by rw [HQ.out]; exact heq⟩])
        have hpq := pgOK_bytes q HFL.out
        have hpp := pgOK_bytes p HB.out.len
        clear heq
        dsimp only
        go_wp2_with fail
        refine (Link_ok _ p HB.out).mono ?_
        rintro e w6 ⟨rfl, hk6⟩
        rw [HLN.out]
        have K6 := Lib.hid (K3.out.trans hk6 (fun _ _ q => q))
        clear hk6
        go_wp2_with fail
        go_ret2
        exact ⟨by rw [E.out]; rfl, K6.out⟩
      · have hv : valEq (.agg (bytesV q)) (.agg (bytesV p)) = false := by
          cases hc : valEq (.agg (bytesV q)) (.agg (bytesV p)) with
          | false => rfl
          | true =>
            have h2 := (valEq_iff _ _).1 hc
            injection h2 with h2
            exact absurd (bytesV_inj h2) heq
        have E : Hid (nextS D n = (0, 8)) := Lib.hid (by rw [HN2.out, if_neg (fun z => heq (by rw [← HQ.out]; exact z.2.2))])
        have hpq := pgOK_bytes q HFL.out
        have hpp := pgOK_bytes p HB.out.len
        clear heq
        dsimp only
        go_wp2_with fail
        go_ret2
        exact ⟨by rw [E.out]; rfl, K3.out⟩
  · have hpe : pgE D n = 4 := if_neg h1
    rw [hpe] at HP
    have E : Hid (nextS D n = (0, 8)) := Lib.hid (by rw [HN.out, if_neg (by omega)])
    clear hpe
    go_enter Tryz.func64, Tryz.ntmps64
    go_wp2_with fail
    refine HP.out.mono ?_
    rintro e w1 ⟨rfl, hk⟩
    obtain ⟨o1, s1, t3, t4, r4, kk, fr⟩ := pageFacts w1 p HB.out.len
    have K := Lib.hid (hk.trans kk (fun _ _ q => q))
    clear fr kk hk r4 t4
    go_wp2_with fail
    go_ret2
    exact ⟨by rw [E.out]; rfl, K.out⟩
end
end Go.Proofs.YtoeldmkbmnkhkaaGreat
/- A page taken; no condition. -/
namespace Go.Proofs.YtoeldmkbmnkhkaaGreat
open Go.RowKit
attribute [local go_sem ↓] load26 store26 alloc26 build26 loadSf storeSf allocSf buildSf0 buildSfE

section
variable {L : Lab} {w : World} {t0 : Nat} {D : List (List Int)} {sv : List (List (List Int))}
theorem zero_page : zero256 = bytesV (zeros 256) := zero256_eq
theorem putS_one {D : List (List Int)} (h : 0 < D.length) (b : List Int) : putS D 1 b = (D.set 0 b, 0) := by
  unfold putS
  rw [if_neg (by omega), if_neg (by decide), if_neg (by omega)]
  rfl
theorem putS_new (D : List (List Int)) (b : List Int) : putS D ((D.length : Int) + 1) b = if 4096 ≤ D.length then (D, 5) else (D ++ [b], 0) := by
  unfold putS
  rw [if_neg (by omega)]
  by_cases h : 4096 ≤ D.length
  · rw [if_pos (by omega), if_pos h]
  · rw [if_neg (by omega), if_neg h, if_pos rfl]
theorem readS_pos {D : List (List Int)} {f : Sf} (h : readS D = some f) : 0 < D.length := by
  cases D with
  | nil => cases h
  | cons p D => rw [List.length_cons]; omega
theorem nextS_cases (D : List (List Int)) (n : Int) : nextS D n = (0, 8) ∨ (nextS D n = (linkD D n, 0)) := by
  unfold nextS
  split
  · exact .inr rfl
  · exact .inl rfl
set_option maxRecDepth 100000 in
set_option maxHeartbeats 1600000 in
theorem take_w (h : Wr L w t0 D sv) : Calls Tryz.prog 15 #[ptrV t0] w (WrEnd L w t0 (takeS D).1 sv (.tuple #[.int .i64 (takeS D).2.1, .int .i64 (takeS D).2.2])) := by
  have H := Lib.hid h
  have HOK := Lib.hid (readV_ok h)
  have HLN : Hid (∀ n, 0 ≤ linkD D n ∧ linkD D n < 4294967296) := Lib.hid fun n => link_rng (h.bytes n)
  have hlen := h.ok.1
  clear h
  obtain ⟨PP, hPP⟩ : ∃ PP, WrEnd L w t0 (takeS D).1 sv (.tuple #[.int .i64 (takeS D).2.1, .int .i64 (takeS D).2.2]) = PP := ⟨_, rfl⟩
  have HPP := Lib.hid hPP
  rw [hPP]
  clear hPP
  unfold ptrV at *
  go_enter Tryz.func15, Tryz.ntmps15
  go_wp2_with fail
  refine (writer_w H.out).mono ?_
  rintro e w1 ⟨rfl, L1, h1, g1⟩
  have H1 := Lib.hid h1
  have G1 := Lib.hid g1
  have HL1 := Lib.hid (h1.lok.new (Nat.le_refl w1.heap.size))
  obtain ⟨o9, s9, t9, hb9, kk9⟩ := firstFacts w1 (readV D) HOK.out.len
  have B9 := Lib.hid hb9
  have K9 := Lib.hid kk9
  clear h1 g1 hb9 kk9
  cases hr : readS D with
  | none =>
    obtain ⟨e1, e2⟩ := readV_none hr
    have E : Hid (takeS D = (D, 0, 8)) := Lib.hid (by unfold takeS; rw [hr])
    rw [e1] at o9 s9 B9 K9 ⊢
    rw [e2]
    clear hr e1 e2
    go_wp2_with fail
    rw [← HPP.out, E.out]
    exact ⟨rfl, L1, H1.out.keep K9.out, G1.out.trans (Gw.nob K9.out)⟩
  | some f =>
    obtain ⟨e1, e2⟩ := readV_some hr
    have hps := readS_pos hr
    have hok := HOK.out
    rw [e1] at hok o9 s9 B9 K9 ⊢
    rw [e2]
    have HOF := Lib.hid hok
    have HPS := Lib.hid hps
    have hts : takeS D = if f.free = 0 then (if 4096 ≤ D.length then (D, 0, 5) else (D ++ [zeros 256], (D.length : Int) + 1, 0)) else if (nextS D f.free).2 ≠ 0 then (D, 0, 8) else (D.set 0 (spg ⟨(nextS D f.free).1, f.ns⟩), f.free, 0) := by
      unfold takeS
      rw [hr]
    have HTS := Lib.hid hts
    clear hr e1 e2 hps hok hts
    go_upto_region 2 with fail
    have hb := B9.out
    have hk := K9.out
    clear t9 o9 s9 B9 K9
    generalize (w1.alloc (.cells (sfC sf0) 114)).setCells w1.heap.size 0 (sfC f).toList = w2 at hb hk ⊢
    have c0 : w2.cell? ⟨w1.heap.size, 0, none⟩ = some (.int .i64 f.free) := hb.cell 0
    have B := Lib.hid hb
    have K := Lib.hid hk
    clear hb hk
    by_cases h0 : f.free = 0
    · have E0 : Hid (takeS D = if 4096 ≤ D.length then (D, 0, 5) else (D ++ [zeros 256], (D.length : Int) + 1, 0)) := Lib.hid (by rw [HTS.out, if_pos h0])
      rw [h0] at c0
      clear h0
      go_wp2_with fail
      refine (count_w (H1.out.keep K.out)).mono ?_
      rintro e w3 ⟨rfl, hk3⟩
      have K3 := Lib.hid (K.out.trans hk3 (fun _ _ q => q))
      have HPN := Lib.hid (putS_new D (zeros 256))
      clear hk3
      have hl2 : (D.length : Int) ≤ 4096 := by omega
      have hl3 : (0 : Int) ≤ (D.length : Int) := by omega
      by_cases hfull : 4096 ≤ D.length
      · have EP : Hid (putS D ((D.length : Int) + 1) (zeros 256) = (D, 5) ∧ takeS D = (D, 0, 5)) := Lib.hid ⟨by rw [HPN.out, if_pos hfull], by rw [E0.out, if_pos hfull]⟩
        have HC := Lib.hid (put_w (H1.out.keep K3.out) ((D.length : Int) + 1) (zeros 256) zeros_bytes)
        generalize (D.length : Int) = m at hl2 hl3 EP HC ⊢
        rw [EP.out.1, ← zero_page] at HC
        clear hfull hlen
        go_wp2_with fail
        refine HC.out.mono ?_
        rintro e w4 ⟨rfl, L4, h4, g4⟩
        go_wp2_with fail
        rw [← HPP.out, EP.out.2]
        exact ⟨rfl, L4, h4, (G1.out.trans (Gw.nob K3.out)).trans g4⟩
      · have EP : Hid (putS D ((D.length : Int) + 1) (zeros 256) = (D ++ [zeros 256], 0) ∧ takeS D = (D ++ [zeros 256], (D.length : Int) + 1, 0)) := Lib.hid ⟨by rw [HPN.out, if_neg hfull], by rw [E0.out, if_neg hfull]⟩
        have HC := Lib.hid (put_w (H1.out.keep K3.out) ((D.length : Int) + 1) (zeros 256) zeros_bytes)
        generalize (D.length : Int) = m at hl2 hl3 EP HC ⊢
        rw [EP.out.1, ← zero_page] at HC
        clear hfull hlen
        go_wp2_with fail
        refine HC.out.mono ?_
        rintro e w4 ⟨rfl, L4, h4, g4⟩
        go_wp2_with fail
        rw [← HPP.out, EP.out.2]
        exact ⟨rfl, L4, h4, (G1.out.trans (Gw.nob K3.out)).trans g4⟩
    · have E0 : Hid (takeS D = if (nextS D f.free).2 ≠ 0 then (D, 0, 8) else (D.set 0 (spg ⟨(nextS D f.free).1, f.ns⟩), f.free, 0)) := Lib.hid (by rw [HTS.out, if_neg h0])
      have h0t : (f.free == 0) = false := beq_false_of_ne h0
      clear h0
      have HFN := Lib.hid (next_w (H1.out.keep K.out) f.free)
      have hnx := nextS_cases D f.free
      obtain ⟨fr, hfr⟩ : ∃ fr, f.free = fr := ⟨_, rfl⟩
      rw [hfr] at c0 h0t E0 HFN hnx
      clear hfr
      rcases hnx with hn | hn
      · rw [hn] at HFN
        have EP : Hid (takeS D = (D, 0, 8)) := Lib.hid (by rw [E0.out, hn, if_pos (by decide)])
        clear hn
        go_wp2_with fail
        refine HFN.out.mono ?_
        rintro e w3 ⟨rfl, hk3⟩
        have hb3 := B.out.keep hk3 (fun q => q)
        have z3 : w3.frozen? ⟨w1.heap.size, 0, none⟩ = false := hb3.frozen 0
        have c3 : w3.cell? ⟨w1.heap.size, 0, none⟩ = some (.int .i64 f.free) := hb3.cell 0
        have B3 := Lib.hid hb3
        have K3 := Lib.hid (K.out.trans hk3 (fun _ _ q => q))
        clear hk3 hb3
        dsimp only
        go_wp2_with fail
        rw [← HPP.out, EP.out]
        have kk : Kp (OnB w1.heap.size) w3 (w3.setCell ⟨w1.heap.size, 0, none⟩ (.int .i64 0)) := (Kp.refl (OnB w1.heap.size) w3).setCell (p := ⟨w1.heap.size, 0, none⟩) (.inr rfl) _
        refine ⟨rfl, L1, (H1.out.keep K3.out).box B3.out (by decide) HL1.out kk, (G1.out.trans (Gw.nob K3.out)).own (kk.mono (fun b _ q => ?_))⟩
        have := G1.out.kp.size
        unfold OnB at q
        omega
      · have hlr := HLN.out fr
        rw [hn] at HFN E0
        obtain ⟨nf, hnf⟩ : ∃ nf, linkD D fr = nf := ⟨_, rfl⟩
        rw [hnf] at HFN E0 hlr
        have HOK2 : Hid (SfOk ⟨nf, f.ns⟩) := Lib.hid ⟨hlr, HOF.out.len, HOF.out.ns⟩
        have EP : Hid (takeS D = (D.set 0 (spg ⟨nf, f.ns⟩), fr, 0)) := Lib.hid (by rw [E0.out, if_neg (fun q => q rfl)])
        clear hn hnf hlr
        go_wp2_with fail
        refine HFN.out.mono ?_
        rintro e w3 ⟨rfl, hk3⟩
        have hb3 := B.out.keep hk3 (fun q => q)
        have z3 : w3.frozen? ⟨w1.heap.size, 0, none⟩ = false := hb3.frozen 0
        have c3 : w3.cell? ⟨w1.heap.size, 0, none⟩ = some (.int .i64 f.free) := hb3.cell 0
        have hb4 : Blk (w3.setCell ⟨w1.heap.size, 0, none⟩ (.int .i64 nf)) w1.heap.size 114 (sfC ⟨nf, f.ns⟩) := hb3.set_ 0 (.int .i64 nf)
        have t4 := hb4.thereAll 9 (sfC_size HOF.out.len)
        have r4 := hb4.readAll 9 (sfC_size HOF.out.len)
        have B3 := Lib.hid hb3
        have K3 := Lib.hid (K.out.trans hk3 (fun _ _ q => q))
        have kk : Kp (OnB w1.heap.size) w3 (w3.setCell ⟨w1.heap.size, 0, none⟩ (.int .i64 nf)) := (Kp.refl (OnB w1.heap.size) w3).setCell (p := ⟨w1.heap.size, 0, none⟩) (.inr rfl) _
        have H4 := Lib.hid ((H1.out.keep K3.out).box B3.out (by decide) HL1.out kk)
        have G4 := Lib.hid ((G1.out.trans (Gw.nob K3.out)).own (kk.mono (fun b _ q => by have := G1.out.kp.size; unfold OnB at q; omega)))
        clear hk3 hb3 hb4 kk
        dsimp only
        go_wp2_with fail
        refine (page_ok _ ⟨nf, f.ns⟩ HOK2.out).mono ?_
        rintro e w5 ⟨rfl, hk5⟩
        have HC := put_w (H4.out.keep hk5) 1 (spg ⟨nf, f.ns⟩) (spg_bytes HOF.out.len)
        rw [putS_one HPS.out] at HC
        have G5 := Lib.hid (G4.out.trans (Gw.nob hk5))
        have HC' := Lib.hid HC
        clear HC hk5
        go_wp2_with fail
        refine HC'.out.mono ?_
        rintro e w6 ⟨rfl, L6, h6, g6⟩
        dsimp only
        go_wp2_with fail
        rw [← HPP.out, EP.out]
        exact ⟨rfl, L6, h6, G5.out.trans g6⟩
end
end Go.Proofs.YtoeldmkbmnkhkaaGreat
/- A page given back; a database laid; is it laid; a number asked; no condition. -/
namespace Go.Proofs.YtoeldmkbmnkhkaaGreat
open Go.RowKit
attribute [local go_sem ↓] load26 store26 alloc26 build26 loadSf storeSf allocSf buildSf0 buildSfE

section
variable {L : Lab} {w : World} {t0 : Nat} {D : List (List Int)} {sv : List (List (List Int))}
theorem putS_in {D : List (List Int)} {n : Int} (h : 1 ≤ n ∧ n ≤ D.length) (hl : D.length ≤ 4096) (b : List Int) : putS D n b = (D.set (n.toNat - 1) b, 0) := by
  unfold putS
  rw [if_neg (by omega), if_neg (by omega), if_neg (by omega)]
set_option maxRecDepth 100000 in
set_option maxHeartbeats 1600000 in
theorem give_w (h : Wr L w t0 D sv) (n : Int) : Calls Tryz.prog 17 #[ptrV t0, .int .i64 n] w (WrEnd L w t0 (giveS D n).1 sv (.int .i64 (giveS D n).2)) := by
  have H := Lib.hid h
  have HOK := Lib.hid (readV_ok h)
  have HLEN := Lib.hid h.ok.1
  clear h
  obtain ⟨PP, hPP⟩ : ∃ PP, WrEnd L w t0 (giveS D n).1 sv (.int .i64 (giveS D n).2) = PP := ⟨_, rfl⟩
  have HPP := Lib.hid hPP
  rw [hPP]
  clear hPP
  unfold ptrV at *
  go_enter Tryz.func17, Tryz.ntmps17
  go_wp2_with fail
  refine (writer_w H.out).mono ?_
  rintro e w1 ⟨rfl, L1, h1, g1⟩
  have H1 := Lib.hid h1
  have G1 := Lib.hid g1
  have HL1 := Lib.hid (h1.lok.new (Nat.le_refl w1.heap.size))
  obtain ⟨o9, s9, t9, hb9, kk9⟩ := firstFacts w1 (readV D) HOK.out.len
  have B9 := Lib.hid hb9
  have K9 := Lib.hid kk9
  clear h1 g1 hb9 kk9
  cases hr : readS D with
  | none =>
    obtain ⟨e1, e2⟩ := readV_none hr
    have E : Hid (giveS D n = (D, 8)) := Lib.hid (by unfold giveS; rw [hr])
    rw [e1] at o9 s9 B9 K9 ⊢
    rw [e2]
    clear hr e1 e2
    go_wp2_with fail
    rw [← HPP.out, E.out]
    exact ⟨rfl, L1, H1.out.keep K9.out, G1.out.trans (Gw.nob K9.out)⟩
  | some f =>
    obtain ⟨e1, e2⟩ := readV_some hr
    have hps := readS_pos hr
    have hok := HOK.out
    rw [e1] at hok o9 s9 B9 K9 ⊢
    rw [e2]
    have HOF := Lib.hid hok
    have HPS := Lib.hid hps
    have hts : giveS D n = if n < 2 ∨ (D.length : Int) < n then (D, 2) else ((D.set (n.toNat - 1) (fpg f.free)).set 0 (spg ⟨n, f.ns⟩), 0) := by
      unfold giveS
      rw [hr]
    have HTS := Lib.hid hts
    clear hr e1 e2 hps hok hts
    go_upto_region 2 with fail
    have hb := B9.out
    have hk := K9.out
    clear t9 o9 s9 B9 K9
    generalize (w1.alloc (.cells (sfC sf0) 114)).setCells w1.heap.size 0 (sfC f).toList = w2 at hb hk ⊢
    have B := Lib.hid hb
    have K := Lib.hid hk
    clear hb hk
    by_cases hn2 : n < 2
    · have E : Hid (giveS D n = (D, 2)) := Lib.hid (by rw [HTS.out, if_pos (.inl hn2)])
      go_wp2_with fail
      rw [← HPP.out, E.out]
      exact ⟨rfl, L1, H1.out.keep K.out, G1.out.trans (Gw.nob K.out)⟩
    · have HC := Lib.hid (count_w (H1.out.keep K.out))
      by_cases hnl : (D.length : Int) < n
      · have E : Hid (giveS D n = (D, 2)) := Lib.hid (by rw [HTS.out, if_pos (.inr hnl)])
        generalize (D.length : Int) = m at HC hnl
        go_wp2_with (go_at_call 16; refine HC.out.mono ?_; rintro e w3 ⟨rfl, hk3⟩; have K3 := Lib.hid (K.out.trans hk3 (fun _ _ q => q)); clear hk3)
        rw [← HPP.out, E.out]
        exact ⟨rfl, L1, H1.out.keep K3.out, G1.out.trans (Gw.nob K3.out)⟩
      · have E : Hid (giveS D n = ((D.set (n.toNat - 1) (fpg f.free)).set 0 (spg ⟨n, f.ns⟩), 0)) := Lib.hid (by rw [HTS.out, if_neg (by omega)])
        have HIN : Hid (2 ≤ n ∧ n ≤ (D.length : Int)) := Lib.hid (by omega)
        have f0 := HOF.out.fr.1
        have f1 := HOF.out.fr.2
        have HOK2 : Hid (SfOk ⟨n, f.ns⟩) := Lib.hid ⟨by have := HLEN.out; show 0 ≤ n ∧ n < _; omega, HOF.out.len, HOF.out.ns⟩
        have HP1 : Hid (∀ b, putS D n b = (D.set (n.toNat - 1) b, 0)) := Lib.hid (fun b => putS_in (by have := HIN.out; omega) HLEN.out b)
        have HP2 : Hid (∀ b c, putS (D.set (n.toNat - 1) b) 1 c = ((D.set (n.toNat - 1) b).set 0 c, 0)) := Lib.hid (fun b c => putS_one (by rw [List.length_set]; exact HPS.out) c)
        generalize (D.length : Int) = m at HC hnl
        have B2 := B
        go_wp2_with (go_at_call 16; refine HC.out.mono ?_; rintro e w3 ⟨rfl, hk3⟩; have K3 := Lib.hid (K.out.trans hk3 (fun _ _ q => q)); have B3 := Lib.hid (B2.out.keep hk3 (fun q => q)); have c0 : w3.cell? ⟨w1.heap.size, 0, none⟩ = some (.int .i64 f.free) := B3.out.cell 0; clear hk3)
        refine (pgnew_ok w3 0 f.free none 0 0 [] (by omega) (by simp) ⟨rfl, fun q => by omega⟩).mono ?_
        rintro e w4 ⟨rfl, hk4⟩
        rw [new_fpg]
        dsimp only
        have hfl := fpg_bytes f.free
        obtain ⟨q, hq⟩ : ∃ q, fpg f.free = q := ⟨_, rfl⟩
        rw [hq] at hfl ⊢
        have E2 := E.out
        rw [hq] at E2
        have HFL := Lib.hid hfl
        have HE2 := Lib.hid E2
        have B4 := B3.out.keep hk4 (fun q => q)
        obtain ⟨o5, s5, t5, t6, r6, kk5, fr5⟩ := pageFacts w4 q hfl.len
        have hb5 := fr5 B4
        have hbq : Blk ((w4.alloc (.cells zero256 86)).setCells w4.heap.size 0 (bytesV q).toList) w4.heap.size 86 (bytesV q) := (Blk.new w4 86 zero256).whole (bytesV q) (by rw [s5, sz256P])
        have K5 := Lib.hid ((K3.out.trans hk4 (fun _ _ q => q)).trans kk5 (fun _ _ q => q))
        have B5 := Lib.hid hb5
        have BQ := Lib.hid hbq
        have LT4 : Hid (w1.heap.size < w4.heap.size) := Lib.hid B4.lt
        clear hk4 hq hfl E2 B4 kk5 fr5 hb5 hbq r6 t6 hn2 hnl f0 f1
        go_upto_region 7 with fail
        have hb5 := B5.out
        have hk5 := K5.out
        have hbq := BQ.out
        clear B5 K5 BQ t5 o5
        generalize (w4.alloc (.cells zero256 86)).setCells w4.heap.size 0 (bytesV q).toList = w5 at hb5 hk5 hbq ⊢
        have z5 : w5.frozen? ⟨w1.heap.size, 0, none⟩ = false := hb5.frozen 0
        have c5 : w5.cell? ⟨w1.heap.size, 0, none⟩ = some (.int .i64 f.free) := hb5.cell 0
        have hb6 : Blk (w5.setCell ⟨w1.heap.size, 0, none⟩ (.int .i64 n)) w1.heap.size 114 (sfC ⟨n, f.ns⟩) := hb5.set_ 0 (.int .i64 n)
        have hbq6 := hbq.far (p := ⟨w1.heap.size, 0, none⟩) (by have := LT4.out; show w4.heap.size ≠ w1.heap.size; omega) (.int .i64 n)
        have kk : Kp (OnB w1.heap.size) w5 (w5.setCell ⟨w1.heap.size, 0, none⟩ (.int .i64 n)) := (Kp.refl (OnB w1.heap.size) w5).setCell (p := ⟨w1.heap.size, 0, none⟩) (.inr rfl) _
        have H6 := Lib.hid ((H1.out.keep hk5).box hb5 (by decide) HL1.out kk)
        have G6 := Lib.hid ((G1.out.trans (Gw.nob hk5)).own (kk.mono (fun b _ q => by have := G1.out.kp.size; unfold OnB at q; omega)))
        have t7 := hbq6.thereAll 256 s5
        have r7 := hbq6.readAll 256 s5
        have B6 := Lib.hid hb6
        clear hb5 hk5 hbq hb6 hbq6 kk
        go_wp2_with fail
        have HC2 := put_w H6.out n q HFL.out
        rw [HP1.out] at HC2
        refine HC2.mono ?_
        clear HC2
        rintro e w7 ⟨rfl, L7, h7, g7⟩
        have hl0 : L1 w1.heap.size = 0 := HL1.out
        have hb7 := g7.blk B6.out hl0
        have t8 := hb7.1.thereAll 9 (sfC_size (f := ⟨n, f.ns⟩) HOF.out.len)
        have r8 := hb7.1.readAll 9 (sfC_size (f := ⟨n, f.ns⟩) HOF.out.len)
        have H7 := Lib.hid h7
        have G7 := Lib.hid (G6.out.trans g7)
        clear h7 g7 hl0 hb7 t7 r7
        dsimp only
        go_wp2_with fail
        refine (page_ok _ ⟨n, f.ns⟩ HOK2.out).mono ?_
        rintro e w8 ⟨rfl, hk8⟩
        have HC3 := put_w (H7.out.keep hk8) 1 (spg ⟨n, f.ns⟩) (spg_bytes HOF.out.len)
        rw [HP2.out] at HC3
        have HC4 := Lib.hid HC3
        have G8 := Lib.hid (G7.out.trans (Gw.nob hk8))
        clear HC3 hk8
        go_wp2_with fail
        refine HC4.out.mono ?_
        rintro e w9 ⟨rfl, L9, h9, g9⟩
        dsimp only
        go_wp2_with fail
        rw [← HPP.out, HE2.out]
        exact ⟨rfl, L9, h9, G8.out.trans g9⟩
end
end Go.Proofs.YtoeldmkbmnkhkaaGreat
