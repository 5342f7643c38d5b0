/- LocksPlay returns true for every script in memory; no condition. -/
import Derived.Test.YtmkhhjpfchaopaaPlayL
import Derived.Test.YtmkhhjpfchaopaaPlayM
namespace Go.Proofs.Ytmkhhjpfchaopaa
open Go.RowKit

@[local go_sem ↓] theorem load29P (w : World) (ev : Operand → Value) (ds : Option Tmp) (x : Operand) (ty : TypeId) (ps : String) (af : Array Edge) (g : Option (Nat × Bool)) (h : thereP w (ev x) 9) :
    (execOp ev ⟨ds, .load 29 x, ty, ps, af, g⟩).run Try.prog w = .ok (.value (.agg (readP w (ev x) 9))) w := execLoad_P Try.underlying29 rfl info29 w ev ds x ty ps af g h

theorem PI.facts {w : World} {g3 g4 : Nat} {wr : World} (h : PI w g3 g4 wr) : ∃ p0 p1 i0 i1 h0 h1, Kp NoB w wr ∧ Blk wr g3 26 #[.pointer p0, .pointer p1] ∧ wr.there g4 0 9 ∧ wr.there g4 9 9 ∧ readRow wr g4 0 9 = refCells i0 h0 ∧ readRow wr g4 9 9 = refCells i1 h1 ∧ TP wr p0 i0 h0 ∧ TP wr p1 i1 h1 ∧ Blk wr g4 30 (refL i0 h0 ++ refL i1 h1).toArray := by
  obtain ⟨p0, p1, i0, i1, h0, h1, h⟩ := h
  refine ⟨p0, p1, i0, i1, h0, h1, h.kp, h.b3, Blk.there h.b4 ?_, Blk.there h.b4 ?_, Blk.read h.b4 0 9 rfl (refL_len _ _ h.ta.len), ?_, h.ta, h.tO, by simpa using h.b4⟩
  · simp [refL, h.ta.len]
  · simp [refL, h.ta.len, h.tO.len]
  · exact Blk.read (xa := refL i0 h0) (xb := refL i1 h1) (xd := []) (by simpa using h.b4) 9 9 (refL_len _ _ h.ta.len) (refL_len _ _ h.tO.len)

set_option maxRecDepth 100000 in
set_option maxHeartbeats 3200000 in
theorem play_ok (w : World) (A : Option Addr) (n cap : Nat) (hn : n ≤ 9223372036854775807) (hS : Scr w A n) :
    Calls Try.prog 3 #[.slice A n cap] w fun e w' => e = .returned (.bool true) ∧ Kp NoB w w' := by
  have HS := Lib.hid hS
  clear hS
  by_cases hbig : (200 : Int) < n
  · go_enter Try.func3, Try.ntmps3
    go_wp2_with (go_at_call 5; refine (awake_ok _).mono ?_; rintro e w1 ⟨rfl, hk1⟩)
    go_ret
    exact ⟨rfl, hk1⟩
  · go_enter Try.func3, Try.ntmps3
    go_wp2_with (first
      | (go_at_call 6; refine (new_ok _).mono ?_; rintro e w1 ⟨rfl, hT1, hk1⟩; have HT1 := Lib.hid hT1; clear hT1))
    refine play_loop w _ A n cap w1.heap.size (w1.heap.size + 1) _ _ _ _ _ _ _ _ _ _ _ _ _ _ _ _ _ _ _ _ _ _ _ _ _ _ _ _ _ _ _ _ _ _ _ _ _ _ _ _ _ _ _ _ _ _ _ _ _ _ _ _ _ _ _ _ _ _ _ _ _ _ _ _ _ _ _ _ _ _ _ _ _ _ _ _ _ _ _ _ _ _ _ _ _ _ _ _ _ _ _ _ _ _ _ _ _ _ _ _ _ _ _ _ _ _ _ _ _ _ _ _ _ _ _ _ _ _ _ _ _ _ _ _ _ _ _ _ _ _ _ _ _ (by omega) HS.out ?_ ?_
    · refine ⟨some ⟨w.heap.size, 0, none⟩, none, true, false, List.replicate 8 0, List.replicate 8 0, ?_⟩
      have hz := HT1.out
      have k : Kp NoB w1 ((w1.alloc (.cells #[.pointer (some ⟨w.heap.size, 0, none⟩), .pointer none] 26)).alloc (.cells (refL true (List.replicate 8 0) ++ refL false (List.replicate 8 0)).toArray 30)) := ((Kp.refl _ _).alloc _).alloc _
      refine ⟨hk1.trans k (fun _ _ q => q), hk1.size, by have := hk1.size; omega, (Blk.new _ _ _).alloc _, rfl, ?_, rfl, .inr ⟨_, rfl, rfl, hz.keep k (fun q => q)⟩, .inl ⟨rfl, rfl, rfl⟩, Rng.zeros, Rng.zeros, fun b hb => ⟨?_, by simp⟩, by simp⟩
      · have := Blk.new (w1.alloc (.cells #[.pointer (some ⟨w.heap.size, 0, none⟩), .pointer none] 26)) 30 (refL true (List.replicate 8 0) ++ refL false (List.replicate 8 0)).toArray
        simp only [World.size_alloc] at this
        exact this
      · injection hb with hb
        injection hb with hb
        omega
    · intro u6 u7 u8 u9 u10 u24 u25 u26 u27 u28 u29 u30 u31 u32 u33 u34 u35 u36 u37 u38 u39 u40 u41 u42 u43 u44 u45 u46 u47 u48 u49 u50 u51 u52 u53 u54 u55 u56 u57 u58 u59 u60 u61 u62 u63 u64 u65 u66 u67 u68 u69 u70 u71 u72 u73 u74 u75 u76 u77 u78 u79 u80 u81 u82 u83 u84 u85 u86 u87 u88 u89 u90 u91 u92 u93 u94 u95 u96 u97 u98 u99 u100 u101 u102 u103 u104 u105 u106 u107 u108 u109 u110 u111 u112 u113 u114 u115 u116 u117 u118 u119 u120 wx hP
      obtain ⟨p0, p1, i0, i1, h0, h1, hk, hb3, ht0, ht9, hr0, hr9, htp0, htp1, hb4⟩ := hP.facts
      have HT0 := Lib.hid htp0
      have HT1' := Lib.hid htp1
      have f0 : wx.cell? ⟨w1.heap.size, 0, none⟩ = some (.pointer p0) := hb3.cell 0
      have HB3 := Lib.hid hb3
      have HB4 := Lib.hid hb4
      clear hb3 hb4 htp0 htp1 hP
      go_wp2_with (first
        | (go_at_call_of 12 (Value.agg (refCells i0 h0)); go_must (refine (look_ok _ p0 i0 h0 _ _ HT0.out).mono ?_); rintro e w2 ⟨rfl, hk2⟩; have f2 : w2.cell? ⟨w1.heap.size, 1, none⟩ = some (.pointer p1) := (HB3.out.keep hk2 (fun q => q)).cell 1; have ht2 : w2.there (w1.heap.size + 1) 9 9 := there_congr (hk2.block _ HB4.out.lt (fun q => q)) ht9; have hr2 : readRow w2 (w1.heap.size + 1) 9 9 = refCells i1 h1 := (readRow_congr (hk2.block _ HB4.out.lt (fun q => q))).trans hr9)
        | (go_at_call_of 12 (Value.agg (refCells i1 h1)); go_must (refine (look_ok _ p1 i1 h1 _ _ (HT1'.out.keep hk2 (fun _ _ q => q))).mono ?_); rintro e w3 ⟨rfl, hk3⟩)
        | (go_at_call 5; refine (awake_ok _).mono ?_; rintro e w4 ⟨rfl, hk4⟩))
      go_ret
      exact ⟨rfl, ((hk.trans hk2 (fun _ _ q => q)).trans hk3 (fun _ _ q => q)).trans hk4 (fun _ _ q => q)⟩
end Go.Proofs.Ytmkhhjpfchaopaa
