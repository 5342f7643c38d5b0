/- The program's Cells and the function that it hands back: a page's cells, one after the other; no condition. -/
import Derived.RangeFuncNested
import Derived.RangeFuncBound
import Derived.RangeFuncCalls
import Derived.RangeFuncLeaves
import Derived.RangeFuncBox
import Derived.Shelf.Abstract
import Derived.Shelf.RegionOpen
import Derived.WalkKit
import Derived.OwnWalkIn
import Derived.TacticsInMore
import Derived.LoopNIn
import Derived.LoopIn
import Derived.Maps.AppendAt
import Derived.Test.YtnleoeogcinadaaPgTell
namespace Go.Proofs.Ytnleoeogcinadaa
open Go.RowKit Go.Shelf
attribute [local go_sem ↓] load26 store26 alloc26 build26 slice26lo load62 store62
attribute [local go_sem] Oper.semAt_some

def cellsF : Option (Int × Int × List ByteArray) → List ByteArray
  | none => []
  | some (_, _, cs) => cs
/-- the iterator's two blocks -/
def ItC (W : World) (B : Nat) (cs : List ByteArray) : Prop :=
  ∃ kd lk A cap b, Blk W B 62 (body3 kd lk A cs.length cap) ∧ Blk W (B + 1) 4 #[.bool b] ∧ (b = false → cs = []) ∧ Sl W A cs.length cs
theorem Sl.below {w w' : World} {A : Option Addr} {n : Nat} {xs : List ByteArray} (h : Sl w A n xs) (k : Below w.heap.size w w') : Sl w' A n xs :=
  ⟨h.1, fun hn => by
    obtain ⟨g, o, e, hg, hc⟩ := h.2 hn
    exact ⟨g, o, e, Nat.lt_of_lt_of_le hg k.size, fun j hj => (k.cell (p := ⟨g, o + j, none⟩) hg).trans (hc j hj)⟩⟩
theorem Blk.below {w w' : World} {g : Nat} {t : TypeId} {cs : Array Value} (h : Blk w g t cs) (k : Below w.heap.size w w') : Blk w' g t cs := (k.block g h.lt).trans h
theorem ItC.below {w w' : World} {B : Nat} {cs : List ByteArray} (h : ItC w B cs) (k : Below w.heap.size w w') : ItC w' B cs := by
  obtain ⟨kd, lk, A, cap, b, h1, h2, h3, h4⟩ := h
  exact ⟨kd, lk, A, cap, b, h1.below k, h2.below k, h3, h4.below k⟩

theorem cells_boxes (w2 : World) (kd lk : Int) (A : Option Addr) (n cap : Nat) (b : Bool) (cs : List ByteArray) (hn : cs.length = n) (hb : b = false → cs = []) (hs : Sl w2 A n cs) :
    ((w2.alloc (.cells #[.int .u8 0, .int .u32 0, .slice none 0 0] 62)).alloc (.cells #[.bool false] 4)).there w2.heap.size 0 3 ∧
    (((w2.alloc (.cells #[.int .u8 0, .int .u32 0, .slice none 0 0] 62)).alloc (.cells #[.bool false] 4)).setCells w2.heap.size 0 [.int .u8 kd, .int .u32 lk, .slice A n cap]).cell? ⟨w2.heap.size + 1, 0, none⟩ = some (.bool false) ∧
    (((w2.alloc (.cells #[.int .u8 0, .int .u32 0, .slice none 0 0] 62)).alloc (.cells #[.bool false] 4)).setCells w2.heap.size 0 [.int .u8 kd, .int .u32 lk, .slice A n cap]).frozen? ⟨w2.heap.size + 1, 0, none⟩ = false ∧
    (Kp NoB w2 ((((w2.alloc (.cells #[.int .u8 0, .int .u32 0, .slice none 0 0] 62)).alloc (.cells #[.bool false] 4)).setCells w2.heap.size 0 [.int .u8 kd, .int .u32 lk, .slice A n cap]).setCell ⟨w2.heap.size + 1, 0, none⟩ (.bool b)) ∧
     ItC ((((w2.alloc (.cells #[.int .u8 0, .int .u32 0, .slice none 0 0] 62)).alloc (.cells #[.bool false] 4)).setCells w2.heap.size 0 [.int .u8 kd, .int .u32 lk, .slice A n cap]).setCell ⟨w2.heap.size + 1, 0, none⟩ (.bool b)) w2.heap.size cs) := by
  subst hn
  have b1 := (Blk.new w2 62 #[.int .u8 0, .int .u32 0, .slice none 0 0]).alloc (.cells #[.bool false] 4)
  have b2 := Blk.newAt (w2.alloc (.cells #[.int .u8 0, .int .u32 0, .slice none 0 0] 62)) 4 #[.bool false] (w2.heap.size + 1) (by simp)
  have b3 := b1.whole (body3 kd lk A cs.length cap) rfl
  have b4 := b2.farCells (g' := w2.heap.size) (by omega) [.int .u8 kd, .int .u32 lk, .slice A cs.length cap] 0
  have b5 := b4.set_ 0 (.bool b)
  have b6 := b3.far (p := ⟨w2.heap.size + 1, 0, none⟩) (by show w2.heap.size ≠ w2.heap.size + 1; omega) (.bool b)
  have k := (Kp.setCells (S := NoB) (.inl (Nat.le_refl _)) [.int .u8 kd, .int .u32 lk, .slice A cs.length cap] 0 _ (((Kp.refl NoB w2).alloc (.cells #[.int .u8 0, .int .u32 0, .slice none 0 0] 62)).alloc (.cells #[.bool false] 4))).setCell (p := ⟨w2.heap.size + 1, 0, none⟩) (.inl (by show _ ≤ w2.heap.size + 1; omega)) (.bool b)
  exact ⟨b1.thereAll 3 rfl, b4.cell 0, b4.frozen 0, k, kd, lk, A, cap, b, b6, b5, hb, hs.keep k⟩

set_option maxRecDepth 100000 in
set_option maxHeartbeats 1600000 in
theorem Cells_ok (w : World) (l : List Int) (hB : Bytes l) : Calls Try.prog 34 #[.agg (bytesV l)] w fun e w' =>
    ∃ B, e = .returned (.func (.func 39) #[] #[.pointer (some ⟨B, 0, none⟩), .pointer (some ⟨B + 1, 0, none⟩)]) ∧ Kp NoB w w' ∧ ItC w' B (cellsF (readF l)) := by
  have HB := Lib.hid hB
  have hb1 : Blk (w.alloc (.cells (bytesV l) 26)) w.heap.size 26 (bytesV l) := Blk.new _ _ _
  have t1 := hb1.thereAll 256 (by rw [bytesV_size]; exact hB.len)
  have r1 := hb1.readAll 256 (by rw [bytesV_size]; exact hB.len)
  clear hB hb1
  obtain ⟨r, hr⟩ : ∃ r, readF l = r := ⟨_, rfl⟩
  have HR := Lib.hid hr
  rw [hr]
  clear hr
  have on3 : ones #[.int .u8 0, .int .u32 0, .slice none 0 0] := by unfold ones; simp [Value.oneCell']
  rcases r with _ | ⟨kind, link, cs⟩
  · go_enter Try.func34, Try.ntmps34
    go_wp2_with (go_at_call 32; go_must (refine (read_ok _ l HB.out).mono ?_); rintro e w2 hq; rw [HR.out] at hq; obtain ⟨hk2, rfl⟩ := hq.none; clear hq; obtain ⟨th, c4, f4, hi⟩ := cells_boxes w2 0 0 none 0 0 false [] rfl (by intro _; rfl) ⟨rfl, fun h => by omega⟩; have HK := Lib.hid hk2; have HI := Lib.hid hi; clear hk2 hi)
    go_ret
    exact ⟨_, rfl, (((Kp.refl _ _).alloc _).trans HK.out (fun _ _ q => q)).trans HI.out.1 (fun _ _ q => q), HI.out.2⟩
  · have HF := Lib.hid (readF_facts HB.out HR.out)
    go_enter Try.func34, Try.ntmps34
    go_wp2_with (go_at_call 32; go_must (refine (read_ok _ l HB.out).mono ?_); rintro e w2 hq; rw [HR.out] at hq; obtain ⟨hk2, A, cap, rfl, ho, hs⟩ := hq.some; clear hq ho; obtain ⟨th, c4, f4, hi⟩ := cells_boxes w2 kind link A cs.length cap true cs rfl (by intro h; cases h) hs; have on4 : ones #[.int .u8 kind, .int .u32 link, .slice A cs.length cap] := (by unfold ones; simp [Value.oneCell']); have HK := Lib.hid hk2; have HI := Lib.hid hi; clear hk2 hi hs)
    go_ret
    exact ⟨_, rfl, (((Kp.refl _ _).alloc _).trans HK.out (fun _ _ q => q)).trans HI.out.1 (fun _ _ q => q), HI.out.2⟩

/-- what a round is handed: the index, the cell -/
def encC (cs : List ByteArray) (k : Nat) : Array Value := #[.int .i64 (k : Int), .string (cs.getD k ByteArray.empty)]

set_option maxRecDepth 100000 in
set_option maxHeartbeats 2000000 in
theorem cells1_in (F : Fence) (n : Nat) (h7 : F.fn 39) (hro : F.round = none) (hn : 1 ≤ n) (l B n₀ : Nat) (cs : List ByteArray) (hcs : cs.length ≤ 250)
    (J Jx : List Nat → World → Prop)
    (hY : ∀ pre (x : Nat) W, J pre W → pre.length < cs.length → YieldAt F (n - 1) Try.prog l (encC cs x) W fun e W' =>
      (e = .returned (.bool true) ∧ J (pre ++ [x]) W' ∧ Below n₀ W W') ∨ (e = .returned (.bool false) ∧ Jx (pre ++ [x]) W'))
    (w W : World) (hw : w.heap.size = n₀) (hI : ItC w B cs) (hBel : Below n₀ w W) (h0 : J [] W) :
    CallsIn F n Try.prog 39 #[.func (.yield l) #[] #[], .pointer (some ⟨B, 0, none⟩), .pointer (some ⟨B + 1, 0, none⟩)] W fun e W' => (∃ v, e = .returned v) ∧
      ((∃ ys, ys = List.range cs.length ∧ J ys W') ∨ (∃ pre, (∃ k, k ≤ cs.length ∧ pre = List.range k) ∧ Jx pre W')) := by
  subst hw
  obtain ⟨kd, lk, A, cap, b, i1, i2, i3, i4⟩ := hI
  have I1 := Lib.hid i1
  have I2 := Lib.hid i2
  have I4 := Lib.hid i4
  have c2 : W.cell? ⟨B, 2, none⟩ = some (.slice A cs.length cap) := (i1.below hBel).cell 2
  clear i1 i2 i4
  refine callsIn_of_wp Try.func39 rfl h7 ?_ hro
  simp only [Try.ntmps39, List.size_toArray, List.length_cons, List.length_nil, Nat.reduceAdd, Nat.reduceSub, Array.replicate_succ, Array.replicate_zero, List.push_toArray, List.append_toArray, List.nil_append, List.cons_append]
  gi_wp2
  gi_loopw [9] (fun i wr => ∃ k : Nat, k ≤ cs.length ∧ i = .int .i64 k ∧ J (List.range k) wr ∧ Below w.heap.size w wr)
    (fun i _ => cs.length - (intOf i).toNat)
  case atStart => exact ⟨0, Nat.zero_le _, rfl, h0, hBel⟩
  case round =>
    obtain ⟨k, hk, rfl, hJs, hnx⟩ := hrel
    by_cases hlt : k < cs.length
    · obtain rfl : b = true := by
        cases b
        · have := i3 rfl
          subst this
          simp at hlt
        · rfl
      obtain ⟨g, o, rfl, hg, hc⟩ := (I4.out.below hnx).2 (by omega)
      have hcx := hc k hlt
      have hok : wr.cell? ⟨B + 1, 0, none⟩ = some (.bool true) := (I2.out.below hnx).cell 0
      obtain ⟨fn, tmps, assign, body, hy, hR⟩ := hY _ k wr hJs (by rw [List.length_range]; exact hlt)
      unfold encC at hy
      obtain ⟨s, hs⟩ : ∃ s, cs.getD k ByteArray.empty = s := ⟨_, rfl⟩
      rw [hs] at hcx hy
      have HS := Lib.hid hs
      clear hs hc
      gi_wp2
      refine hR.mono ?_
      rintro e W3 (⟨rfl, hJ3, hk3⟩ | ⟨rfl, hJx3⟩)
      · gi_wp2
        go_roundw
        case rel => exact ⟨k + 1, by omega, by simp, by rw [List.range_succ]; exact hJ3, hnx.trans hk3⟩
        case measure => simp [intOf]; omega
      · gi_wp2
        refine bodyPost_ret (results_none rfl _ _ _) rfl ?_
        exact ⟨⟨_, rfl⟩, .inr ⟨_, ⟨k + 1, by omega, by rw [List.range_succ]⟩, hJx3⟩⟩
    · obtain rfl : k = cs.length := by omega
      gi_wp2
      go_end0
      exact ⟨⟨_, rfl⟩, .inl ⟨_, rfl, hJs⟩⟩

theorem cells_stops (F : Fence) (n : Nat) (h7 : F.fn 39) (hro : F.round = none) (hn : 1 ≤ n) (B : Nat) (cs : List ByteArray) (hcs : cs.length ≤ 250) (w : World) (hI : ItC w B cs) :
    SeqStopsK F n Try.prog 39 #[.pointer (some ⟨B, 0, none⟩), .pointer (some ⟨B + 1, 0, none⟩)] (encC cs) (Below w.heap.size) (fun ys => ys = List.range cs.length)
      (fun pre => ∃ k, k ≤ cs.length ∧ pre = List.range k) cs.length w := fun l J Jx W hW _ _ hY h0 =>
  cells1_in F n h7 hro hn l B w.heap.size cs hcs J Jx hY w W rfl hI hW h0
end Go.Proofs.Ytnleoeogcinadaa
