/- The law's cells: a page's cells collected; no condition. -/
import Derived.Test.YtnleoeogcinadaaPgGoneS
namespace Go.Proofs.Ytnleoeogcinadaa
open Go.RowKit Go.Shelf
attribute [local go_sem ↓] load26 store26 alloc26 build26 slice26lo load62 store62 load26i
attribute [local go_sem] Oper.semAt_some eqlSeq

/-- whatever lay below n₀ lies as it lay, but for block b -/
def KeepX (n₀ b : Nat) (W W' : World) : Prop := ∀ k, k < n₀ → k ≠ b → W'.heap[k]? = W.heap[k]?
theorem KeepX.trans {n₀ b : Nat} {A B C : World} (h : KeepX n₀ b A B) (k : KeepX n₀ b B C) : KeepX n₀ b A C := fun i hi hb => (k i hi hb).trans (h i hi hb)
theorem keepX_below {n₀ b : Nat} {A B : World} (h : Below n₀ A B) : KeepX n₀ b A B := fun i hi _ => h.block i hi
theorem keepX_b {n₀ b : Nat} {w : World} (hn : n₀ ≤ w.heap.size) (W : World) (l : Nat) (o o' : Obj) (hl : w.heap.size ≤ l) (_ : W.heap[l]? = some o) (_ : o.isCells = false) (_ : o.isWalk = false) : KeepX n₀ b W (W.putObj l o') :=
  fun i hi _ => World.putObj_heap_other (by omega)
theorem Blk.keepX {w w' : World} {b g : Nat} {t : TypeId} {cs : Array Value} (h : Blk w g t cs) (k : KeepX w.heap.size b w w') (hg : g ≠ b) : Blk w' g t cs := (k g h.lt hg).trans h
theorem Sl.keepX {w w' : World} {b : Nat} {A : Option Addr} {n : Nat} {xs : List ByteArray} (h : Sl w A n xs) (k : KeepX w.heap.size b w w') (hA : ∀ g o, A = some ⟨g, o, none⟩ → g ≠ b) : Sl w' A n xs :=
  ⟨h.1, fun hn => by
    obtain ⟨g, o, e, hg, hc⟩ := h.2 hn
    have hk := k g hg (hA g o e)
    refine ⟨g, o, e, ?_, fun j hj => (World.cell?_of_block (w := w) hk).trans (hc j hj)⟩
    rw [Array.getElem?_eq_getElem hg] at hk
    exact lt_of_heap hk⟩
/-- the iterator's blocks, none of them b -/
def ItX (W : World) (b B : Nat) (cs : List ByteArray) : Prop :=
  ∃ kd lk A cap t, B ≠ b ∧ B + 1 ≠ b ∧ Blk W B 62 (body3 kd lk A cs.length cap) ∧ Blk W (B + 1) 4 #[.bool t] ∧ (t = false → cs = []) ∧ Sl W A cs.length cs ∧ ∀ g o, A = some ⟨g, o, none⟩ → g ≠ b

theorem cells_boxesX (w2 : World) (lo : Nat) (hlo : lo ≤ w2.heap.size) (kd lk : Int) (A : Option Addr) (n cap : Nat) (t : Bool) (cs : List ByteArray) (hn : cs.length = n) (hb : t = false → cs = []) (hs : Sl w2 A n cs) (hA : ∀ g o, A = some ⟨g, o, none⟩ → lo ≤ g) :
    ∀ b, b < lo → ItX ((((w2.alloc (.cells #[.int .u8 0, .int .u32 0, .slice none 0 0] 62)).alloc (.cells #[.bool false] 4)).setCells w2.heap.size 0 [.int .u8 kd, .int .u32 lk, .slice A n cap]).setCell ⟨w2.heap.size + 1, 0, none⟩ (.bool t)) b w2.heap.size cs := by
  subst hn
  intro b hlt
  have b1 := (Blk.new w2 62 #[.int .u8 0, .int .u32 0, .slice none 0 0]).alloc (.cells #[.bool false] 4)
  have b2 := Blk.newAt (w2.alloc (.cells #[.int .u8 0, .int .u32 0, .slice none 0 0] 62)) 4 #[.bool false] (w2.heap.size + 1) (by simp)
  have b3 := b1.whole (body3 kd lk A cs.length cap) rfl
  have b4 := b2.farCells (g' := w2.heap.size) (by omega) [.int .u8 kd, .int .u32 lk, .slice A cs.length cap] 0
  have b5 := b4.set_ 0 (.bool t)
  have b6 := b3.far (p := ⟨w2.heap.size + 1, 0, none⟩) (by show w2.heap.size ≠ w2.heap.size + 1; omega) (.bool t)
  have k := (Kp.setCells (S := NoB) (.inl (Nat.le_refl _)) [.int .u8 kd, .int .u32 lk, .slice A cs.length cap] 0 _ (((Kp.refl NoB w2).alloc (.cells #[.int .u8 0, .int .u32 0, .slice none 0 0] 62)).alloc (.cells #[.bool false] 4))).setCell (p := ⟨w2.heap.size + 1, 0, none⟩) (.inl (by show _ ≤ w2.heap.size + 1; omega)) (.bool t)
  exact ⟨kd, lk, A, cap, t, by omega, by omega, b6, b5, hb, hs.keep k, fun g o e => by have := hA g o e; omega⟩

set_option maxRecDepth 100000 in
set_option maxHeartbeats 1600000 in
theorem CellsX_ok (w : World) (l : List Int) (hB : Bytes l) : Calls Try.prog 34 #[.agg (bytesV l)] w fun e w' =>
    ∃ B, e = .returned (.func (.func 39) #[] #[.pointer (some ⟨B, 0, none⟩), .pointer (some ⟨B + 1, 0, none⟩)]) ∧ Kp NoB w w' ∧ ∀ b, b < w.heap.size → ItX w' b B (cellsF (readF l)) := by
  have HB := Lib.hid hB
  have hb1 : Blk (w.alloc (.cells (bytesV l) 26)) w.heap.size 26 (bytesV l) := Blk.new _ _ _
  have t1 := hb1.thereAll 256 (by rw [bytesV_size]; exact hB.len)
  have r1 := hb1.readAll 256 (by rw [bytesV_size]; exact hB.len)
  clear hB hb1
  obtain ⟨r, hr⟩ : ∃ r, readF l = r := ⟨_, rfl⟩
  have HR := Lib.hid hr
  rw [hr]
  clear hr
  have on3 : ones #[.int .u8 0, .int .u32 0, .slice none 0 0] := by unfold ones; simp [Value.oneCell']
  rcases r with _ | ⟨kind, link, cs⟩
  · go_enter Try.func34, Try.ntmps34
    go_wp2_with (go_at_call 32; go_must (refine (read_ok _ l HB.out).mono ?_); rintro e w2 hq; rw [HR.out] at hq; obtain ⟨hk2, rfl⟩ := hq.none; clear hq; obtain ⟨th, c4, f4, hi⟩ := cells_boxes w2 0 0 none 0 0 false [] rfl (by intro _; rfl) ⟨rfl, fun h => by omega⟩; have HX := Lib.hid (cells_boxesX w2 w.heap.size (by have := hk2.size; simp at this; omega) 0 0 none 0 0 false [] rfl (by intro _; rfl) ⟨rfl, fun h => by omega⟩ (fun _ _ e => by cases e)); have HK := Lib.hid hk2; have HI := Lib.hid hi; clear hk2 hi)
    go_ret
    exact ⟨_, rfl, (((Kp.refl _ _).alloc _).trans HK.out (fun _ _ q => q)).trans HI.out.1 (fun _ _ q => q), HX.out⟩
  · have HF := Lib.hid (readF_facts HB.out HR.out)
    go_enter Try.func34, Try.ntmps34
    go_wp2_with (go_at_call 32; go_must (refine (read_ok _ l HB.out).mono ?_); rintro e w2 hq; rw [HR.out] at hq; obtain ⟨hk2, A, cap, rfl, ho, hs⟩ := hq.some; have hge := own_ge ho; clear hq ho; obtain ⟨th, c4, f4, hi⟩ := cells_boxes w2 kind link A cs.length cap true cs rfl (by intro h; cases h) hs; have HX := Lib.hid (cells_boxesX w2 w.heap.size (by have := hk2.size; simp at this; omega) kind link A cs.length cap true cs rfl (by intro h; cases h) hs (fun g o e => by subst e; have := hge g (by simp [Value.ownBlock]); simp at this; omega)); have on4 : ones #[.int .u8 kind, .int .u32 link, .slice A cs.length cap] := (by unfold ones; simp [Value.oneCell']); have HK := Lib.hid hk2; have HI := Lib.hid hi; clear hk2 hi hs hge)
    go_ret
    exact ⟨_, rfl, (((Kp.refl _ _).alloc _).trans HK.out (fun _ _ q => q)).trans HI.out.1 (fun _ _ q => q), HX.out⟩

set_option maxRecDepth 100000 in
set_option maxHeartbeats 2000000 in
theorem cells1x_in (F : Fence) (n : Nat) (h7 : F.fn 39) (hro : F.round = none) (hn : 1 ≤ n) (l b B n₀ : Nat) (cs : List ByteArray) (hcs : cs.length ≤ 250)
    (J Jx : List Nat → World → Prop)
    (hY : ∀ pre (x : Nat) W, J pre W → pre.length < cs.length → YieldAt F (n - 1) Try.prog l (encC cs x) W fun e W' =>
      (e = .returned (.bool true) ∧ J (pre ++ [x]) W' ∧ KeepX n₀ b W W') ∨ (e = .returned (.bool false) ∧ Jx (pre ++ [x]) W'))
    (w W : World) (hw : w.heap.size = n₀) (hI : ItX w b B cs) (hBel : KeepX n₀ b w W) (h0 : J [] W) :
    CallsIn F n Try.prog 39 #[.func (.yield l) #[] #[], .pointer (some ⟨B, 0, none⟩), .pointer (some ⟨B + 1, 0, none⟩)] W fun e W' => (∃ v, e = .returned v) ∧
      ((∃ ys, ys = List.range cs.length ∧ J ys W') ∨ (∃ pre, (∃ k, k ≤ cs.length ∧ pre = List.range k) ∧ Jx pre W')) := by
  subst hw
  obtain ⟨kd, lk, A, cap, t, n1, n2, i1, i2, i3, i4, i5⟩ := hI
  have I2 := Lib.hid i2
  have I4 := Lib.hid i4
  have I5 := Lib.hid i5
  have N2 := Lib.hid n2
  have c2 : W.cell? ⟨B, 2, none⟩ = some (.slice A cs.length cap) := (i1.keepX hBel n1).cell 2
  clear i1 i2 i4 i5 n1 n2
  refine callsIn_of_wp Try.func39 rfl h7 ?_ hro
  simp only [Try.ntmps39, List.size_toArray, List.length_cons, List.length_nil, Nat.reduceAdd, Nat.reduceSub, Array.replicate_succ, Array.replicate_zero, List.push_toArray, List.append_toArray, List.nil_append, List.cons_append]
  gi_wp2
  gi_loopw [9] (fun i wr => ∃ k : Nat, k ≤ cs.length ∧ i = .int .i64 k ∧ J (List.range k) wr ∧ KeepX w.heap.size b w wr)
    (fun i _ => cs.length - (intOf i).toNat)
  case atStart => exact ⟨0, Nat.zero_le _, rfl, h0, hBel⟩
  case round =>
    obtain ⟨k, hk, rfl, hJs, hnx⟩ := hrel
    by_cases hlt : k < cs.length
    · obtain rfl : t = true := by
        cases t
        · have := i3 rfl
          subst this
          simp at hlt
        · rfl
      obtain ⟨g, o, rfl, hg, hc⟩ := (I4.out.keepX hnx I5.out).2 (by omega)
      have hcx := hc k hlt
      have hok : wr.cell? ⟨B + 1, 0, none⟩ = some (.bool true) := (I2.out.keepX hnx N2.out).cell 0
      obtain ⟨fn, tmps, assign, body, hy, hR⟩ := hY _ k wr hJs (by rw [List.length_range]; exact hlt)
      unfold encC at hy
      obtain ⟨s, hs⟩ : ∃ s, cs.getD k ByteArray.empty = s := ⟨_, rfl⟩
      rw [hs] at hcx hy
      have HS := Lib.hid hs
      clear hs hc
      gi_wp2
      refine hR.mono ?_
      rintro e W3 (⟨rfl, hJ3, hk3⟩ | ⟨rfl, hJx3⟩)
      · gi_wp2
        go_roundw
        case rel => exact ⟨k + 1, by omega, by simp, by rw [List.range_succ]; exact hJ3, hnx.trans hk3⟩
        case measure => simp [intOf]; omega
      · gi_wp2
        refine bodyPost_ret (results_none rfl _ _ _) rfl ?_
        exact ⟨⟨_, rfl⟩, .inr ⟨_, ⟨k + 1, by omega, by rw [List.range_succ]⟩, hJx3⟩⟩
    · obtain rfl : k = cs.length := by omega
      gi_wp2
      go_end0
      exact ⟨⟨_, rfl⟩, .inl ⟨_, rfl, hJs⟩⟩
theorem cells_stopsX (F : Fence) (n : Nat) (h7 : F.fn 39) (hro : F.round = none) (hn : 1 ≤ n) (b B : Nat) (cs : List ByteArray) (hcs : cs.length ≤ 250) (w : World) (hI : ItX w b B cs) :
    SeqStopsK F n Try.prog 39 #[.pointer (some ⟨B, 0, none⟩), .pointer (some ⟨B + 1, 0, none⟩)] (encC cs) (KeepX w.heap.size b) (fun ys => ys = List.range cs.length)
      (fun pre => ∃ k, k ≤ cs.length ∧ pre = List.range k) cs.length w := fun l J Jx W hW _ _ hY h0 =>
  cells1x_in F n h7 hro hn l b B w.heap.size cs hcs J Jx hY w W rfl hI (keepX_below hW) h0

/-- what has come, as values -/
def gotC (cs : List ByteArray) (pre : List Nat) : List Value := pre.map fun k => .string (cs.getD k ByteArray.empty)
theorem gotC_all (cs : List ByteArray) : gotC cs (List.range cs.length) = cs.map Value.string := by
  unfold gotC
  apply List.ext_getElem
  · simp
  · intro i h1 h2
    simp at h1
    simp [h1]
theorem gotC_snoc (cs : List ByteArray) (pre : List Nat) (x : Nat) : gotC cs (pre ++ [x]) = gotC cs pre ++ [.string (cs.getD x ByteArray.empty)] := by simp [gotC]

set_option maxRecDepth 100000 in
set_option maxHeartbeats 3200000 in
theorem cellsL_ok (w : World) (l : List Int) (hB : Bytes l) (cs : List ByteArray) (hcs : cellsF (readF l) = cs) (hlen : cs.length ≤ 250) :
    Calls Try.prog 29 #[.agg (bytesV l)] w fun e w' => ∃ A cap, e = .returned (.slice A cs.length cap) ∧ Sl w' A cs.length cs ∧ Kp NoB w w' := by
  have HB := Lib.hid hB
  have HCS := Lib.hid hcs
  have HLEN := Lib.hid hlen
  obtain ⟨i0, hi, hz0, hz1, hz2⟩ := info_parts infoStr
  have hb1 : Blk ((w.alloc (.cells (bytesV l) 26)).alloc (.cells #[.slice none 0 0] 23)) w.heap.size 26 (bytesV l) := (Blk.new _ _ _).alloc _
  have t1 := hb1.thereAll 256 (by rw [bytesV_size]; exact hB.len)
  have r1 := hb1.readAll 256 (by rw [bytesV_size]; exact hB.len)
  clear hB hb1 hcs hlen
  refine (callsIn_wide (n := 5)).1 ?_
  refine callsIn_of_wp_marks Try.func29 rfl trivial ?_ rfl
  simp only [Try.ntmps29, List.size_toArray, List.length_cons, List.length_nil, Nat.reduceAdd, Nat.reduceSub, Array.replicate_succ, Array.replicate_zero, List.push_toArray, List.append_toArray, List.nil_append, List.cons_append]
  gi_wp2_with (refine ⟨trivial, ?_⟩; gi_at_call 34; refine (callsIn_wide.2 (CellsX_ok _ l HB.out)).mono ?_; rintro e w2 ⟨B, rfl, hk2, hi2⟩)
  rw [HCS.out] at hi2
  have hi3 := hi2 (w.heap.size + 1) (by simp)
  have HSZ : Hid (w.heap.size + 2 ≤ w2.heap.size) := Lib.hid (by have := hk2.size; simp at this; omega)
  have bO : Boxed w2 (w.heap.size + 1) 23 (.slice none 0 0) := (Blk.newAt (w.alloc (.cells (bytesV l) 26)) 23 #[.slice none 0 0] (w.heap.size + 1) (by simp)).keep hk2 (fun q => q)
  have HK2 := Lib.hid ((((Kp.refl NoB w).alloc (.cells (bytesV l) 26)).alloc (.cells #[.slice none 0 0] 23)).trans hk2 (fun _ _ q => q))
  have HI3 := Lib.hid hi3
  have BO := Lib.hid bO
  clear t1 r1 hk2 hi2 hi3 bO
  refine wpIn_rangeFunc_ownG (w0 := w2) rfl (by omega) (gf := 39) (lb := #[.pointer (some ⟨B, 0, none⟩), .pointer (some ⟨B + 1, 0, none⟩)]) rfl trivial (enters_of Try.func39 (by kernel_rfl) rfl)
    (cells_stopsX Fence.wide (5 - 1) trivial rfl (by omega) (w.heap.size + 1) B cs HLEN.out w2 HI3.out) (fun h k => h.trans k) (keepX_b (Nat.le_refl _)) (Below.refl _ _) (fun _ => rfl)
    (fun pre W => (∃ v, Boxed W (w.heap.size + 1) 23 v ∧ W.ownsRow w2.heap.size 9 1 v pre.length (gotC cs pre) ∧ True) ∧ Kp NoB w W ∧ w2.heap.size ≤ W.heap.size)
    (fun _ _ _ => False)
    (OwnFrom.and (Own.from (holdsRow_own w2.heap.size (w.heap.size + 1) 23 9 1 (fun pre => pre.length) (fun pre => gotC cs pre) (fun _ _ => True)) _) (fun pre W W' row hs hg hr => ⟨hs.1.grown hg (fun r e => .inl (by have := (hr r e).1; have := HSZ.out; omega)), Nat.le_trans hs.2 hg.size⟩))
    (fun _ _ _ _ _ hs _ _ => hs)
    ⟨⟨_, BO.out, World.ownsRow_nil _ _ _ _, trivial⟩, HK2.out, Nat.le_refl _⟩
    (fun x => { tmps := #[.agg (bytesV l), .pointer (some ⟨w.heap.size, 0, none⟩), .slice none 0 0, .pointer (some ⟨w.heap.size + 1, 0, none⟩), .func (.func 39) #[] #[.pointer (some ⟨B, 0, none⟩), .pointer (some ⟨B + 1, 0, none⟩)], undef, .string (cs.getD x ByteArray.empty), .agg (bytesV l), .func (.func 39) #[] #[.pointer (some ⟨B, 0, none⟩), .pointer (some ⟨B + 1, 0, none⟩)], .func (.func 39) #[] #[.pointer (some ⟨B, 0, none⟩), .pointer (some ⟨B + 1, 0, none⟩)], .bool false, .func (.func 39) #[] #[.pointer (some ⟨B, 0, none⟩), .pointer (some ⟨B + 1, 0, none⟩)], .int .i64 (x : Int), .string (cs.getD x ByteArray.empty), undef, undef, undef, undef, undef], defers := [] }) ?assign ?body ?done ?stop
  case assign =>
    intro l x W K hK
    unfold encC
    gi_wp2
    exact hK
  case body =>
    rintro l pre x W ⟨⟨v, hv, hrow, _⟩, hkp, hle⟩ hlt
    have hc := hv.cell
    have HV := Lib.hid hv
    have HKP := Lib.hid hkp
    have HLT : Hid (pre.length < 250) := Lib.hid (by have := HLEN.out; omega)
    obtain ⟨s, hs⟩ : ∃ s, cs.getD x ByteArray.empty = s := ⟨_, rfl⟩
    rw [hs]
    have HS := Lib.hid hs
    have HROW := Lib.hid hrow
    have HLE := Lib.hid hle
    clear hs hv hkp hlt hrow hle
    gi_wp2_with (gi_at_builtin; refine wpListIn_append_own _ rfl _ _ 23 rfl w2.heap.size 9 i0 _ 1 16 Try.underlying23 hi hz0 hz1 hz2 rfl (by decide) _ _ _ rfl (HROW.out.alloc _) ⟨W.heap.size, 0, none⟩ 1 1 [.string s] rfl rfl (cell_one_new _ _ _) (by simp [Value.oneCell']) (by have := HLT.out; unfold maxLen; omega) (by have := HLT.out; omega) (by have := HLE.out; simp; omega) ?_; intro v' w1 hown' hgrow _; obtain ⟨g', cap', rfl⟩ := ownsRow_succ hown'; obtain ⟨hv1, hv2, hr2, hk2, hb2⟩ := HV.out.appended (n₀ := w.heap.size + 1) (by decide) (HROW.out.mono (by have := HSZ.out; omega)) (by have := HLE.out; have := HSZ.out; omega) (Nat.le_refl _) (hown'.mono (by have := HSZ.out; omega)) hgrow; have hc1 := hv1.cell; have hf1 := hv1.frozen; have HX := Lib.hid (show _ ∧ _ ∧ _ ∧ _ from ⟨hv2, hown', hk2, hgrow⟩); clear hv1 hv2 hr2 hk2 hb2 hgrow hown')
    obtain ⟨q1, q2, q3, q4⟩ := HX.out
    have hge := own_ge HROW.out
    have hz := HSZ.out
    refine ⟨q3.from _, fun k hk hb => (Below.heap_setCell _ _ _ k hb).trans ((q4.block k (by have := HLE.out; simp; omega) (fun e => by have := hge k e.symm; omega)).trans (Below.heap_alloc _ _ k (by have := HLE.out; omega))), ⟨_, q1, ?_, trivial⟩, ((HKP.out.alloc _).grown q4 (fun k e => .inl (by have := hge k e; omega))).setCell (p := ⟨w.heap.size + 1, 0, none⟩) (.inl (by show _ ≤ w.heap.size + 1; omega)) _, ?_⟩
    · have := own_keep q2 (S := OnB (w.heap.size + 1)) (Kp.setCell (S := OnB (w.heap.size + 1)) (p := ⟨w.heap.size + 1, 0, none⟩) (Kp.refl _ _) (.inr rfl) (.slice (some ⟨g', 0, none⟩) (pre.length + 1) cap')) (fun g hg _ q => by unfold OnB at q; omega)
      rw [gotC_snoc, HS.out, List.length_append]
      exact this
    · have := q4.size
      have := HLE.out
      simp [World.setCell] at *
      omega
  case done =>
    rintro D ys W hD rfl ⟨⟨v, hv, hrow, _⟩, hkp, hle⟩ hK
    have hc := hv.cell
    rw [gotC_all, List.length_range] at hrow
    obtain ⟨A, cap, rfl⟩ := own_slice hrow
    gi_wp2
    refine ⟨by simp, .inl ⟨_, _, rfl, run_takeDeferred hK, ?_⟩⟩
    exact ⟨_, results_tmp rfl _ _ _, A, cap, rfl, own_Sl (ownsRow_putObj hrow _ hK rfl) rfl, hkp.grown (grownBy_putObj' _ D _) (fun k e => by cases e; exact .inl (by have := HSZ.out; omega))⟩
  case stop =>
    rintro D c pre W _ _ h _
    exact h.elim
end Go.Proofs.Ytnleoeogcinadaa
