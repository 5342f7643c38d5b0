/- LocksPlay: one kind of step in a round; no condition. -/
import Derived.Test.YtmkhhjpfchaopaaPlayM
namespace Go.Proofs.Ytmkhhjpfchaopaa
open Go.RowKit

@[local go_sem ↓] theorem load29No1 (w : World) (ev : Operand → Value) (ds : Option Tmp) (x : Operand) (ty : TypeId) (ps : String) (af : Array Edge) (g : Option (Nat × Bool)) (h : thereP w (ev x) 9) :
    (execOp ev ⟨ds, .load 29 x, ty, ps, af, g⟩).run Try.prog w = .ok (.value (.agg (readP w (ev x) 9))) w := execLoad_P Try.underlying29 rfl info29 w ev ds x ty ps af g h
@[local go_sem ↓] theorem store29No1 (w : World) (ev : Operand → Value) (ds : Option Tmp) (x y : Operand) (ty : TypeId) (ps : String) (af : Array Edge) (g : Option (Nat × Bool)) (hv : aggOK (ev y) 9) (h : thereP w (ev x) 9) :
    (execOp ev ⟨ds, .store 29 x y, ty, ps, af, g⟩).run Try.prog w = .ok .skip (setP w (ev x) (ev y)) := execStore_P info29 w ev ds x y ty ps af g hv h

set_option maxRecDepth 100000 in
set_option maxHeartbeats 3200000 in
theorem round_none1 (w wr : World) (A : Option Addr) (n cap g3 g4 k sb so : Nat) (c1 c2 c11 c12 c13 c14 c15 c16 c17 c18 c19 c121 c122 c123 c124 c125 c126 c127 c128 c129 c130 c131 c132 c133 c134 c135 u6 u7 u8 u9 u10 u20 u21 u22 u23 u24 u25 u26 u27 u28 u29 u30 u31 u32 u33 u34 u35 u36 u37 u38 u39 u40 u41 u42 u43 u44 u45 u46 u47 u48 u49 u50 u51 u52 u53 u54 u55 u56 u57 u58 u59 u60 u61 u62 u63 u64 u65 u66 u67 u68 u69 u70 u71 u72 u73 u74 u75 u76 u77 u78 u79 u80 u81 u82 u83 u84 u85 u86 u87 u88 u89 u90 u91 u92 u93 u94 u95 u96 u97 u98 u99 u100 u101 u102 u103 u104 u105 u106 u107 u108 u109 u110 u111 u112 u113 u114 u115 u116 u117 u118 u119 u120 : Value) (p0 p1 : Option Addr) (i0 i1 : Bool) (h0 h1 : List Int) (d a c l : Int) (Q0 : Exit → Act → World → Prop)
    (hn : n ≤ 200) (hk : k < n) (HI : Hid (Sd w g3 g4 1 #[.pointer p0, .pointer p1] (refL i0 h0) [] p1 p0 i1 i0 h1 h0 wr)) (hA : Hid (A = some ⟨sb, so, none⟩))
    (e0 : wr.cell? ⟨sb, so + k * 4, none⟩ = some (.int .i64 d)) (e1 : wr.cell? ⟨sb, so + k * 4 + 1, none⟩ = some (.int .i64 a)) (e2 : wr.cell? ⟨sb, so + k * 4 + 2, none⟩ = some (.int .i64 c)) (e3 : wr.cell? ⟨sb, so + k * 4 + 3, none⟩ = some (.int .i64 l))
    (hd0 : (d == 0) = false) (hd1 : (d == 1) = false) (hd2 : (d == 2) = false) (hd3 : (d == 3) = false) (ha : bits BinOp.and IntKind.i64 a 1 = 1) :
    Code.wp Try.prog playBody (Exit.then (fun a' w'' => PW w A n cap g3 g4 c1 c2 c11 c12 c13 c14 c15 c16 c17 c18 c19 c121 c122 c123 c124 c125 c126 c127 c128 c129 c130 c131 c132 c133 c134 c135 a' w'' ∧ Pmu n a' w'' < Pmu n ⟨#[.slice A n cap, c1, c2, .pointer (some ⟨g3, 0, none⟩), .pointer (some ⟨g4, 0, none⟩), .int .i64 k, u6, u7, u8, u9, u10, c11, c12, c13, c14, c15, c16, c17, c18, c19, u20, u21, u22, u23, u24, u25, u26, u27, u28, u29, u30, u31, u32, u33, u34, u35, u36, u37, u38, u39, u40, u41, u42, u43, u44, u45, u46, u47, u48, u49, u50, u51, u52, u53, u54, u55, u56, u57, u58, u59, u60, u61, u62, u63, u64, u65, u66, u67, u68, u69, u70, u71, u72, u73, u74, u75, u76, u77, u78, u79, u80, u81, u82, u83, u84, u85, u86, u87, u88, u89, u90, u91, u92, u93, u94, u95, u96, u97, u98, u99, u100, u101, u102, u103, u104, u105, u106, u107, u108, u109, u110, u111, u112, u113, u114, u115, u116, u117, u118, u119, u120, c121, c122, c123, c124, c125, c126, c127, c128, c129, c130, c131, c132, c133, c134, c135], []⟩ wr) Q0) ⟨#[.slice A n cap, c1, c2, .pointer (some ⟨g3, 0, none⟩), .pointer (some ⟨g4, 0, none⟩), .int .i64 k, u6, u7, u8, u9, u10, c11, c12, c13, c14, c15, c16, c17, c18, c19, u20, u21, u22, u23, u24, u25, u26, u27, u28, u29, u30, u31, u32, u33, u34, u35, u36, u37, u38, u39, u40, u41, u42, u43, u44, u45, u46, u47, u48, u49, u50, u51, u52, u53, u54, u55, u56, u57, u58, u59, u60, u61, u62, u63, u64, u65, u66, u67, u68, u69, u70, u71, u72, u73, u74, u75, u76, u77, u78, u79, u80, u81, u82, u83, u84, u85, u86, u87, u88, u89, u90, u91, u92, u93, u94, u95, u96, u97, u98, u99, u100, u101, u102, u103, u104, u105, u106, u107, u108, u109, u110, u111, u112, u113, u114, u115, u116, u117, u118, u119, u120, c121, c122, c123, c124, c125, c126, c127, c128, c129, c130, c131, c132, c133, c134, c135], []⟩ wr := by
  have H8 := Lib.hid (HI.out.ta.len)
  have ht0 : wr.there g4 9 9 := Blk.there HI.out.b4 (by have := HI.out.xl; simp [refL, H8.out] at *; try omega)
  have HR := Lib.hid (refL_info i1 h1 H8.out)
  have HB : Hid (wr.rangeAt g4 9 (refL i1 h1)) := Lib.hid (Blk.range HI.out.b4 9 (HI.out.xl.trans (by rfl)))
  clear ht0
  have HO8 := Lib.hid (HI.out.tO.len)
  have HA8 := H8
  conv => arg 2; whnf
  rw [hA.out]
  go_wp2_with (first
    | (show wpList _ _ _ (⟨some 35, _, _, _, _, _⟩ :: _) _ _; go_must (refine wpList_load_mid rfl 29 (.tmp 34) rfl g4 9 rfl (refL i1 h1) _ (World.rangeAt_alloc HB.out _) Try.underlying29 rfl HR.out ?_))
    | (show wpList _ _ _ (⟨none, .store _ (.tmp 10) (.tmp 35), _, _, _, _⟩ :: _) _ _; go_must (refine wpList_store_row rfl 29 (.tmp 10) _ rfl (wr.heap.size + 1) (refCells i1 h1) rfl rfl 29 _ (heap_alloc2_new _ _ _) (refInfo i1 h1 H8.out) (by rw [refCells_size i1 h1 H8.out]; rfl) (refCells_one _ _) ?_); refine forget (p := fun wx => wpList _ _ _ _ _ wx) (Mid w g3 g4 1 #[.pointer p0, .pointer p1] (refL i0 h0) [] p1 p0 i1 i0 h1 h0 wr.heap.size (wr.heap.size + 1) d a c l h1) (mid_start HI.out _ _ rfl) ?_; intro wa hM0; have HM := Lib.hid hM0; clear hM0 e0 e1 e2 e3; have f0 : wa.cell? ⟨wr.heap.size, 0, none⟩ = some (.int .i64 d) := HM.out.x6.cell 0; have HM3 := Lib.hid HM.out.to3)
    | (show wpList _ _ _ (⟨some 102, _, _, _, _, _⟩ :: _) _ _; refine forget (p := fun wx => wpList _ _ _ _ _ wx) (Mid3 w g3 g4 1 #[.pointer p0, .pointer p1] ((refL i0 h0) ++ refL i1 h1 ++ []) p1 p0 i1 i0 h1 h0 wr.heap.size (wr.heap.size + 1) d a c l (refCells i1 h1)) HM3.out ?_; intro w4 hM4; have HM4 := Lib.hid hM4; clear hM4; have hg4 : w4.there g4 9 9 := Blk.there HM4.out.b4 (by simp [refL, H8.out, HO8.out]); have hn9 : (refCells i1 h1).size = 9 := refCells_size _ _ HA8.out; have hon : ones (refCells i1 h1) := refCells_one _ _; go_must (refine wpList_load_row rfl 29 (.tmp 10) rfl (wr.heap.size + 1) rfl 29 (refCells i1 h1) (0, 0) _ HM4.out.x10 Try.underlying29 rfl (refInfo _ _ HA8.out) ?_)))
  refine forget (p := fun wx => Code.wp _ _ _ _ wx) (Fin w g3 g4 1 #[.pointer p0, .pointer p1] (refL i0 h0) [] p1 p0 i1 i0 h1 h0 wr.heap.size d a c l) (Mid3.fin (HM4.out.cells (refL i0 h0) (refL i1 h1) [] (refCells i1 h1).toList (by rfl) 9 (by simp [refL, HO8.out]) (by simp [refCells, refL, H8.out, HA8.out])) (refL i0 h0) [] (by simp [refCells]) ((by simp [refL, HO8.out]))) ?_
  intro w5 hF5
  have HF5 := Lib.hid hF5
  clear hF5 hg4 hn9 hon
  go_region_held3 (fun w' => w'.cell? ⟨wr.heap.size, 2, none⟩ = some (.int .i64 c) ∧ w'.cell? ⟨wr.heap.size, 3, none⟩ = some (.int .i64 l) ∧ w'.cell? ⟨g3, 1, none⟩ = some (.pointer p1) ∧ w'.there g4 9 9 ∧ readRow w' g4 9 9 = refCells i1 h1)
    (first | exact HF5.out.sf rfl | exact HF6.out.sf rfl | go_keep)
    (first | (go_at_call 12; go_must (refine (look_ok _ p1 i1 h1 c l (HF5.out.keep (Kp.refl _ _).drew).pi.ta).mono ?_); rintro e w6 ⟨rfl, hk6⟩; have HF6 := Lib.hid (Fin.keep (Fin.keep HF5.out (Kp.refl _ _).drew) hk6); clear hk6))
  go_wp2_with fail
  unfold PW
  exact ⟨⟨k + 1, _, _, _, _, _, _, _, _, _, _, _, _, _, _, _, _, _, _, _, _, _, _, _, _, _, _, _, _, _, _, _, _, _, _, _, _, _, _, _, _, _, _, _, _, _, _, _, _, _, _, _, _, _, _, _, _, _, _, _, _, _, _, _, _, _, _, _, _, _, _, _, _, _, _, _, _, _, _, _, _, _, _, _, _, _, _, _, _, _, _, _, _, _, _, _, _, _, _, _, _, _, _, _, _, _, _, by omega, HF6.out.pi.to1, rfl⟩, by simp [Pmu, intOf]; omega⟩
end Go.Proofs.Ytmkhhjpfchaopaa
