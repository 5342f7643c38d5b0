/- The law's gone: a page's cells gone over, left early, and once more; no condition. -/
import Derived.Test.YtnleoeogcinadaaPgGoneS
namespace Go.Proofs.Ytnleoeogcinadaa
open Go.RowKit Go.Shelf
attribute [local go_sem ↓] load26 store26 alloc26 build26 slice26lo load26i
attribute [local go_sem] Oper.semAt_some eqlSeq

set_option maxRecDepth 100000 in
set_option maxHeartbeats 3200000 in
theorem gone_ok (w : World) (l : List Int) (hB : Bytes l) (A : Option Addr) (n cap : Nat) (cs : List ByteArray) (hcs : cellsF (readF l) = cs) (hlen : cs.length ≤ 250) (hn : cs.length = n) (hsl : Sl w A n cs) (early : Int) :
    Calls Try.prog 19 #[.agg (bytesV l), .slice A n cap, .int .i64 early] w fun e w' => e = .returned (.bool true) ∧ Kp NoB w w' := by
  have HB := Lib.hid hB
  have HCS := Lib.hid hcs
  have HLEN := Lib.hid hlen
  have HSL := Lib.hid hsl
  have HN := Lib.hid hn
  have hb1 : Blk (((((w.alloc (.cells (bytesV l) 26)).alloc (.cells #[.slice A n cap] 23)).alloc (.cells #[.int .i64 early] 3)).alloc (.cells #[.bool false] 4))) w.heap.size 26 (bytesV l) := (((Blk.new _ _ _).alloc _).alloc _).alloc _
  have t1 := hb1.thereAll 256 (by rw [bytesV_size]; exact hB.len)
  have r1 := hb1.readAll 256 (by rw [bytesV_size]; exact hB.len)
  clear hB hb1 hcs hlen hsl hn
  refine (callsIn_wide (n := 5)).1 ?_
  refine callsIn_of_wp_marks Try.func19 rfl trivial ?_ rfl
  simp only [Try.ntmps19, List.size_toArray, List.length_cons, List.length_nil, Nat.reduceAdd, Nat.reduceSub, Array.replicate_succ, Array.replicate_zero, List.push_toArray, List.append_toArray, List.nil_append, List.cons_append]
  gi_wp2_with (refine ⟨trivial, ?_⟩; gi_at_call 34; refine (callsIn_wide.2 (Cells_ok _ l HB.out)).mono ?_; rintro e w2 ⟨B, rfl, hk2, hi2⟩)
  rw [HCS.out] at hi2
  have HGS := Lib.hid (gs_start w w2 A n cap cs early (bytesV l) HSL.out hk2)
  have HSZ : Hid (w.heap.size + 4 ≤ w2.heap.size) := Lib.hid (by have := hk2.size; simp at this; omega)
  have HI2 := Lib.hid hi2
  clear t1 r1 hk2 hi2
  refine wpIn_loop_rounds 3 ?_
  rw [roundsIn_succ]
  gi_wp2
  refine wpIn_rangeFunc_ownG (w0 := w2) rfl (by omega) (gf := 39) (lb := #[.pointer (some ⟨B, 0, none⟩), .pointer (some ⟨B + 1, 0, none⟩)]) rfl trivial (enters_of Try.func39 (by kernel_rfl) rfl)
    (cells_stops Fence.wide (5 - 1) trivial rfl (by omega) B cs HLEN.out w2 HI2.out) belowK_t (belowK_b (by have := HGS.out.bel.size; simpa using this)) HGS.out.bel (fun _ => rfl)
    (fun pre W => pre = List.range pre.length ∧ GS w w2 A n cap cs early (w2.heap.size) 0 (pre.length : Int) W)
    (fun c pre W => (c = .ret ∧ pre ≠ List.range pre.length) ∨ (c = .exit 2 ∧ GS w w2 A n cap cs early (w2.heap.size) 0 (pre.length : Int) W))
    (GS.own (by have := HSZ.out; omega) (by simp) (fun pre => pre = List.range pre.length) (fun pre => (pre.length : Int)))
    (fun c pre W W' row hs hg hr => hs.elim .inl (fun q => .inr ⟨q.1, q.2.kept (by have := HSZ.out; omega) hg (fun r e => ⟨by have := (hr r e).1; simp at this; omega, (hr r e).2⟩)⟩))
    ⟨rfl, HGS.out⟩
    (fun x => { tmps := #[.agg (bytesV l), .slice A n cap, .int .i64 early, .pointer (some ⟨w.heap.size, 0, none⟩), .pointer (some ⟨w.heap.size + 1, 0, none⟩), .pointer (some ⟨w.heap.size + 1 + 1, 0, none⟩), .pointer (some ⟨w.heap.size + 1 + 1 + 1, 0, none⟩), .func (.func 39) #[] #[.pointer (some ⟨B, 0, none⟩), .pointer (some ⟨B + 1, 0, none⟩)], .pointer (some ⟨w2.heap.size, 0, none⟩), .pointer (some ⟨w2.heap.size + 1, 0, none⟩), .int .i64 (x : Int), .string (cs.getD x ByteArray.empty), .agg (bytesV l), .func (.func 39) #[] #[.pointer (some ⟨B, 0, none⟩), .pointer (some ⟨B + 1, 0, none⟩)], .func (.func 39) #[] #[.pointer (some ⟨B, 0, none⟩), .pointer (some ⟨B + 1, 0, none⟩)], .bool false, .int .i64 0, .bool true, undef, undef, .func (.func 39) #[] #[.pointer (some ⟨B, 0, none⟩), .pointer (some ⟨B + 1, 0, none⟩)], .int .i64 (x : Int), .string (cs.getD x ByteArray.empty), undef, undef, undef, undef, undef, undef, undef, undef, undef, undef, undef, undef, undef, undef, undef, undef, undef, undef, undef, undef, undef, undef, undef, undef, undef, undef, undef, undef, undef, undef, undef, undef, undef, undef, undef], defers := [] }) ?assign ?body ?done ?stop
  case assign =>
    intro l x W K hK
    unfold encC
    gi_wp2
    exact hK
  case body =>
    rintro l pre x W ⟨hp, hg⟩ hlt
    obtain ⟨m, hm⟩ : ∃ m, pre.length = m := ⟨_, rfl⟩
    rw [hm] at hlt hg
    have HP := Lib.hid hp
    have HM := Lib.hid hm
    have HG := Lib.hid hg
    have c4 := cellAt1 hg.b4
    have c5 := cellAt1 hg.b5
    have c6 := cellAt1 hg.b6
    have f6 := hg.b6.frozen 0
    have c8 := cellAt1 hg.b8
    have c9 := cellAt1 hg.b9
    have f9 := hg.b9.frozen 0
    have hm250 : m < 250 := by have := HLEN.out; omega
    have hmn : m < n := by have := HN.out; omega
    obtain ⟨g, o, rfl, hgl, hc⟩ := hg.sl.2 (by omega)
    have hcm := hc m hmn
    have hg2 := hg.set HSZ.out ((m : Int) + 1)
    have c5b := cellAt1 hg2.b5
    have c8b := cellAt1 hg2.b8
    have c9b := cellAt1 hg2.b9
    clear hp hm hg hc hg2
    by_cases hx : x = m
    · subst hx
      obtain ⟨s, hs⟩ : ∃ s, cs.getD x ByteArray.empty = s := ⟨_, rfl⟩
      rw [hs] at hcm ⊢
      clear hs
      by_cases he : (x : Int) + 1 = early
      · subst he
        gi_wp2
        exact ⟨(KeepsOthers.setCell _ _ _).from _, .inr ⟨rfl, by
          have := HG.out.set HSZ.out ((x : Int) + 1)
          rw [List.length_append, HM.out]
          simpa using this⟩⟩
      · have he2 : (((x : Int) + 1) == early) = false := by simpa using he
        gi_wp2
        exact ⟨(KeepsOthers.setCell _ _ _).from _, (Below.refl _ W).setCell (p := ⟨w2.heap.size + 1, 0, none⟩) (by have := HG.out.le; show _ ≤ w2.heap.size + 1; omega) _, by rw [List.length_append, HM.out]; exact range_snoc HP.out HM.out, by
          have := HG.out.set HSZ.out ((x : Int) + 1)
          rw [List.length_append, HM.out]
          simpa using this⟩
    · have hx2 : ((x : Int) == (m : Int)) = false := by simp; omega
      have hx3 : ((x : Int) != (m : Int)) = true := by simp; omega
      gi_wp2
      exact ⟨(KeepsOthers.setCell _ _ _).from _, .inl ⟨rfl, by
        rw [List.length_append, HM.out]
        exact range_not HP.out HM.out hx⟩⟩
  case done =>
    rintro D ys W hD rfl ⟨hp, hg⟩ hK
    rw [List.length_range] at hg
    clear hp
    have c8 := cellAt1 hg.b8
    have f8 := hg.b8.frozen 0
    have HGS2 := Lib.hid (gs_second hg)
    have HDL : Hid (w2.heap.size + 2 ≤ D) := Lib.hid (by simpa using hD)
    have HDD := Lib.hid (show ((W.alloc (.cells #[.int .i64 1] 3)).alloc (.cells #[.int .i64 0] 3)).heap[D]? = some (.deferred (some [])) from (Below.heap_alloc _ _ D (by have := lt_of_heap hK; simp; omega)).trans ((Below.heap_alloc _ _ D (lt_of_heap hK)).trans hK))
    have HDW0 := Lib.hid (lt_of_heap hK)
    clear HGS hg hD hK
    gi_wp2
    rw [roundsIn_succ]
    gi_wp2
    refine wpIn_rangeFunc_ownG (w0 := w2) rfl (by omega) (gf := 39) (lb := #[.pointer (some ⟨B, 0, none⟩), .pointer (some ⟨B + 1, 0, none⟩)]) rfl trivial (enters_of Try.func39 (by kernel_rfl) rfl)
      (cells_stops Fence.wide (5 - 1) trivial rfl (by omega) B cs HLEN.out w2 HI2.out) belowK_t (belowK_b (by have := HGS2.out.bel.size; simpa using this)) HGS2.out.bel (fun _ => rfl)
      (fun pre V => (pre = List.range pre.length ∧ V.heap[D]? = some (.deferred (some []))) ∧ GS w w2 A n cap cs early (W.heap.size) 1 (pre.length : Int) V)
      (fun c pre W => (c = .ret ∧ pre ≠ List.range pre.length))
      (fun pre V V' row hs hg hr => ⟨⟨hs.1.1, (hg.block D (lt_of_heap hs.1.2) (fun e => by have := (hr D e.symm).1; have := HDW0.out; simp at *; omega)).trans hs.1.2⟩, hs.2.kept (by have := HSZ.out; omega) hg (fun r e => ⟨by have := (hr r e).1; simp at this; omega, (hr r e).2⟩)⟩)
      (fun c pre V V' row hs hg hr => hs)
      ⟨⟨rfl, HDD.out⟩, HGS2.out⟩
      (fun x => { tmps := #[.agg (bytesV l), .slice A n cap, .int .i64 early, .pointer (some ⟨w.heap.size, 0, none⟩), .pointer (some ⟨w.heap.size + 1, 0, none⟩), .pointer (some ⟨w.heap.size + 1 + 1, 0, none⟩), .pointer (some ⟨w.heap.size + 1 + 1 + 1, 0, none⟩), .func (.func 39) #[] #[.pointer (some ⟨B, 0, none⟩), .pointer (some ⟨B + 1, 0, none⟩)], .pointer (some ⟨W.heap.size, 0, none⟩), .pointer (some ⟨W.heap.size + 1, 0, none⟩), .int .i64 (x : Int), .string (cs.getD x ByteArray.empty), .agg (bytesV l), .func (.func 39) #[] #[.pointer (some ⟨B, 0, none⟩), .pointer (some ⟨B + 1, 0, none⟩)], .func (.func 39) #[] #[.pointer (some ⟨B, 0, none⟩), .pointer (some ⟨B + 1, 0, none⟩)], .bool false, .int .i64 1, .bool true, .int .i64 0, .int .i64 1, .func (.func 39) #[] #[.pointer (some ⟨B, 0, none⟩), .pointer (some ⟨B + 1, 0, none⟩)], .int .i64 (x : Int), .string (cs.getD x ByteArray.empty), undef, undef, undef, undef, undef, undef, undef, undef, undef, undef, undef, undef, undef, undef, undef, undef, undef, undef, undef, undef, undef, undef, undef, undef, undef, undef, .int .i64 0, .bool false, .bool false, undef, undef, undef, undef, .bool false, .int .i64 0], defers := [] }) ?assign2 ?body2 ?done2 ?stop2
    case assign2 =>
      intro l x V K hK
      unfold encC
      gi_wp2
      exact hK
    case body2 =>
      rintro l pre x V ⟨⟨hp, hD⟩, hg⟩ hlt
      obtain ⟨m, hm⟩ : ∃ m, pre.length = m := ⟨_, rfl⟩
      rw [hm] at hlt hg
      have HP := Lib.hid hp
      have HM := Lib.hid hm
      have HG := Lib.hid hg
      have c4 := cellAt1 hg.b4
      have c5 := cellAt1 hg.b5
      have c6 := cellAt1 hg.b6
      have f6 := hg.b6.frozen 0
      have c8 := cellAt1 hg.b8
      have c9 := cellAt1 hg.b9
      have f9 := hg.b9.frozen 0
      have hm250 : m < 250 := by have := HLEN.out; omega
      have hmn : m < n := by have := HN.out; omega
      obtain ⟨g, o, rfl, hgl, hc⟩ := hg.sl.2 (by omega)
      have hcm := hc m hmn
      have hg2 := hg.set HSZ.out ((m : Int) + 1)
      have c5b := cellAt1 hg2.b5
      have c8b := cellAt1 hg2.b8
      have c9b := cellAt1 hg2.b9
      have HDW := Lib.hid hD
      clear hp hm hg hc hg2 hD
      by_cases hx : x = m
      · subst hx
        obtain ⟨s, hs⟩ : ∃ s, cs.getD x ByteArray.empty = s := ⟨_, rfl⟩
        rw [hs] at hcm ⊢
        clear hs
        gi_wp2
        exact ⟨(KeepsOthers.setCell _ _ _).from _, (Below.refl _ V).setCell (p := ⟨W.heap.size + 1, 0, none⟩) (by have := HG.out.le; show _ ≤ W.heap.size + 1; omega) _, ⟨by rw [List.length_append, HM.out]; exact range_snoc HP.out HM.out, (Below.heap_setCell _ _ _ D (by have := HDW0.out; show D ≠ W.heap.size + 1; omega)).trans HDW.out⟩, by
          have := HG.out.set HSZ.out ((x : Int) + 1)
          rw [List.length_append, HM.out]
          simpa using this⟩
      · have hx2 : ((x : Int) == (m : Int)) = false := by simp; omega
        have hx3 : ((x : Int) != (m : Int)) = true := by simp; omega
        gi_wp2
        exact ⟨(KeepsOthers.setCell _ _ _).from _, ⟨rfl, by
          rw [List.length_append, HM.out]
          exact range_not HP.out HM.out hx⟩⟩
    case done2 =>
      rintro D2 ys V hD2 rfl ⟨⟨hp, hD⟩, hg⟩ hK
      rw [List.length_range] at hg
      clear hp
      have c4 := cellAt1 hg.b4
      have f6 := (hg.b6.alloc (.cells #[.int .i64 2] 3)).frozen 0
      have c6 := cellAt1 (hg.b6.alloc (.cells #[.int .i64 2] 3))
      have c8 := cellAt1 hg.b8
      have f8 := hg.b8.frozen 0
      have c9 := cellAt1 hg.b9
      have hnn := HN.out
      have HG := Lib.hid hg
      have HF := Lib.hid (gone_fin HSZ.out HDL.out HDW0.out (by simpa using hD2) hg hD hK)
      clear hg hD2 hD hK
      subst hnn
      gi_wp2
      rw [roundsIn_succ]
      gi_wp2
      obtain ⟨q1, q2, q3, q4⟩ := HF.out
      refine ⟨by simp, .inl ⟨_, _, rfl, run_takeDeferred q1, by simp, .inl ⟨_, _, rfl, run_takeDeferred q2, ?_⟩⟩⟩
      refine ⟨.bool true, ?_, rfl, q4⟩
      simp [results, Try.f19, go_sem, q3]
    case stop2 =>
      rintro D2 c pre V hD2 ⟨k, hk, rfl⟩ ⟨rfl, hne⟩ hK
      exact absurd (by rw [List.length_range]) hne
  case stop =>
    rintro D c pre W hD ⟨k, hk, rfl⟩ (⟨rfl, hne⟩ | ⟨rfl, hg⟩) hK
    · exact absurd (by rw [List.length_range]) hne
    · rw [List.length_range] at hg
      have c8 := cellAt1 hg.b8
      have f8 := hg.b8.frozen 0
      have HGS2 := Lib.hid (gs_second hg)
      have HDL : Hid (w2.heap.size + 2 ≤ D) := Lib.hid (by simpa using hD)
      have HDD := Lib.hid (show ((W.alloc (.cells #[.int .i64 1] 3)).alloc (.cells #[.int .i64 0] 3)).heap[D]? = some (.deferred (some [])) from (Below.heap_alloc _ _ D (by have := lt_of_heap hK; simp; omega)).trans ((Below.heap_alloc _ _ D (lt_of_heap hK)).trans hK))
      have HDW0 := Lib.hid (lt_of_heap hK)
      clear HGS hg hD hK
      gi_wp2
      rw [roundsIn_succ]
      gi_wp2
      refine wpIn_rangeFunc_ownG (w0 := w2) rfl (by omega) (gf := 39) (lb := #[.pointer (some ⟨B, 0, none⟩), .pointer (some ⟨B + 1, 0, none⟩)]) rfl trivial (enters_of Try.func39 (by kernel_rfl) rfl)
        (cells_stops Fence.wide (5 - 1) trivial rfl (by omega) B cs HLEN.out w2 HI2.out) belowK_t (belowK_b (by have := HGS2.out.bel.size; simpa using this)) HGS2.out.bel (fun _ => rfl)
        (fun pre V => (pre = List.range pre.length ∧ V.heap[D]? = some (.deferred (some []))) ∧ GS w w2 A n cap cs early (W.heap.size) 1 (pre.length : Int) V)
        (fun c pre W => (c = .ret ∧ pre ≠ List.range pre.length))
        (fun pre V V' row hs hg hr => ⟨⟨hs.1.1, (hg.block D (lt_of_heap hs.1.2) (fun e => by have := (hr D e.symm).1; have := HDW0.out; simp at *; omega)).trans hs.1.2⟩, hs.2.kept (by have := HSZ.out; omega) hg (fun r e => ⟨by have := (hr r e).1; simp at this; omega, (hr r e).2⟩)⟩)
        (fun c pre V V' row hs hg hr => hs)
        ⟨⟨rfl, HDD.out⟩, HGS2.out⟩
        (fun x => { tmps := #[.agg (bytesV l), .slice A n cap, .int .i64 early, .pointer (some ⟨w.heap.size, 0, none⟩), .pointer (some ⟨w.heap.size + 1, 0, none⟩), .pointer (some ⟨w.heap.size + 1 + 1, 0, none⟩), .pointer (some ⟨w.heap.size + 1 + 1 + 1, 0, none⟩), .func (.func 39) #[] #[.pointer (some ⟨B, 0, none⟩), .pointer (some ⟨B + 1, 0, none⟩)], .pointer (some ⟨W.heap.size, 0, none⟩), .pointer (some ⟨W.heap.size + 1, 0, none⟩), .int .i64 (x : Int), .string (cs.getD x ByteArray.empty), .agg (bytesV l), .func (.func 39) #[] #[.pointer (some ⟨B, 0, none⟩), .pointer (some ⟨B + 1, 0, none⟩)], .func (.func 39) #[] #[.pointer (some ⟨B, 0, none⟩), .pointer (some ⟨B + 1, 0, none⟩)], .bool false, .int .i64 1, .bool true, .int .i64 0, .int .i64 1, .func (.func 39) #[] #[.pointer (some ⟨B, 0, none⟩), .pointer (some ⟨B + 1, 0, none⟩)], .int .i64 (x : Int), .string (cs.getD x ByteArray.empty), undef, undef, undef, undef, undef, undef, undef, undef, undef, undef, undef, undef, undef, undef, undef, undef, undef, undef, undef, undef, undef, undef, undef, undef, undef, undef, .int .i64 0, .bool false, .bool false, undef, undef, undef, undef, .bool false, .int .i64 0], defers := [] }) ?assign2 ?body2 ?done2 ?stop2
      case assign2 =>
        intro l x V K hK
        unfold encC
        gi_wp2
        exact hK
      case body2 =>
        rintro l pre x V ⟨⟨hp, hD⟩, hg⟩ hlt
        obtain ⟨m, hm⟩ : ∃ m, pre.length = m := ⟨_, rfl⟩
        rw [hm] at hlt hg
        have HP := Lib.hid hp
        have HM := Lib.hid hm
        have HG := Lib.hid hg
        have c4 := cellAt1 hg.b4
        have c5 := cellAt1 hg.b5
        have c6 := cellAt1 hg.b6
        have f6 := hg.b6.frozen 0
        have c8 := cellAt1 hg.b8
        have c9 := cellAt1 hg.b9
        have f9 := hg.b9.frozen 0
        have hm250 : m < 250 := by have := HLEN.out; omega
        have hmn : m < n := by have := HN.out; omega
        obtain ⟨g, o, rfl, hgl, hc⟩ := hg.sl.2 (by omega)
        have hcm := hc m hmn
        have hg2 := hg.set HSZ.out ((m : Int) + 1)
        have c5b := cellAt1 hg2.b5
        have c8b := cellAt1 hg2.b8
        have c9b := cellAt1 hg2.b9
        have HDW := Lib.hid hD
        clear hp hm hg hc hg2 hD
        by_cases hx : x = m
        · subst hx
          obtain ⟨s, hs⟩ : ∃ s, cs.getD x ByteArray.empty = s := ⟨_, rfl⟩
          rw [hs] at hcm ⊢
          clear hs
          gi_wp2
          exact ⟨(KeepsOthers.setCell _ _ _).from _, (Below.refl _ V).setCell (p := ⟨W.heap.size + 1, 0, none⟩) (by have := HG.out.le; show _ ≤ W.heap.size + 1; omega) _, ⟨by rw [List.length_append, HM.out]; exact range_snoc HP.out HM.out, (Below.heap_setCell _ _ _ D (by have := HDW0.out; show D ≠ W.heap.size + 1; omega)).trans HDW.out⟩, by
            have := HG.out.set HSZ.out ((x : Int) + 1)
            rw [List.length_append, HM.out]
            simpa using this⟩
        · have hx2 : ((x : Int) == (m : Int)) = false := by simp; omega
          have hx3 : ((x : Int) != (m : Int)) = true := by simp; omega
          gi_wp2
          exact ⟨(KeepsOthers.setCell _ _ _).from _, ⟨rfl, by
            rw [List.length_append, HM.out]
            exact range_not HP.out HM.out hx⟩⟩
      case done2 =>
        rintro D2 ys V hD2 rfl ⟨⟨hp, hD⟩, hg⟩ hK
        rw [List.length_range] at hg
        clear hp
        have c4 := cellAt1 hg.b4
        have f6 := (hg.b6.alloc (.cells #[.int .i64 2] 3)).frozen 0
        have c6 := cellAt1 (hg.b6.alloc (.cells #[.int .i64 2] 3))
        have c8 := cellAt1 hg.b8
        have f8 := hg.b8.frozen 0
        have c9 := cellAt1 hg.b9
        have hnn := HN.out
        have HG := Lib.hid hg
        have HF := Lib.hid (gone_fin HSZ.out HDL.out HDW0.out (by simpa using hD2) hg hD hK)
        clear hg hD2 hD hK
        subst hnn
        gi_wp2
        rw [roundsIn_succ]
        gi_wp2
        obtain ⟨q1, q2, q3, q4⟩ := HF.out
        refine ⟨by simp, .inl ⟨_, _, rfl, run_takeDeferred q1, by simp, .inl ⟨_, _, rfl, run_takeDeferred q2, ?_⟩⟩⟩
        refine ⟨.bool true, ?_, rfl, q4⟩
        simp [results, Try.f19, go_sem, q3]
      case stop2 =>
        rintro D2 c pre V hD2 ⟨k, hk, rfl⟩ ⟨rfl, hne⟩ hK
        exact absurd (by rw [List.length_range]) hne
end Go.Proofs.Ytnleoeogcinadaa
