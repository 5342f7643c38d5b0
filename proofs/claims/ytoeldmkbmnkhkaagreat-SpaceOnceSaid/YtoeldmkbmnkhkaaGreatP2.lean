/- Texts of this proof, one behind the other: lemmas and contracts; each says its own conditions. -/
import Derived.Test.YtoeldmkbmnkhkaaGreatP1
import Derived.Laws.AppendOwnNone
import Derived.RangeFuncNested
import Derived.RangeFuncBound
import Derived.RangeFuncCalls
import Derived.RangeFuncLeaves
import Derived.RangeFuncBox
import Derived.Shelf.Abstract
import Derived.Shelf.RegionOpen
import Derived.WalkKit
import Derived.OwnWalkIn
import Derived.TacticsInMore
import Derived.LoopNIn
import Derived.LoopIn
import Derived.Maps.AppendAt
/- What 256 bytes say as a page, and that the program's read answers just that; no condition. -/
namespace Go.Proofs.YtoeldmkbmnkhkaaGreat
open Go.RowKit
attribute [local go_sem ↓] load26 store26 alloc26 build26 slice26lo slice26lohi conv64

theorem info62 : (Tryz.prog.info? 185).map (·.size) = some 3 := by kernel_rfl
theorem load62 (w : World) (ev : Operand → Value) (ds : Option Tmp) (x : Operand) (ty : TypeId) (ps : String) (af : Array Edge) (g : Option (Nat × Bool)) (h : thereP w (ev x) 3) :
    (execOp ev ⟨ds, .load 185 x, ty, ps, af, g⟩).run Tryz.prog w = .ok (.value (.agg (readP w (ev x) 3))) w := execLoad_P Tryz.underlying185 rfl info62 w ev ds x ty ps af g h
theorem store62 (w : World) (ev : Operand → Value) (ds : Option Tmp) (x y : Operand) (ty : TypeId) (ps : String) (af : Array Edge) (g : Option (Nat × Bool)) (hv : aggOK (ev y) 3) (h : thereP w (ev x) 3) :
    (execOp ev ⟨ds, .store 185 x y, ty, ps, af, g⟩).run Tryz.prog w = .ok .skip (setP w (ev x) (ev y)) := execStore_P info62 w ev ds x y ty ps af g hv h

def subL (l : List Int) (o n : Nat) : List Int := (l.drop o).take n
def at_ (l : List Int) (i : Nat) : Int := l[i]?.getD 0
/-- the cells of the lengths, from a place on, and where they end -/
def rdCells (l : List Int) : Nat → List Int → Option (List ByteArray × Nat)
  | a, [] => some ([], a)
  | a, n :: r => if n < 1 ∨ 60 < n ∨ 256 < a + n then none else (rdCells l (a + n.toNat) r).map fun q => (strOf (subL l a n.toNat) :: q.1, q.2)
def beL (l : List Int) (k : Nat) : Int := (List.range k).foldl (fun a i => a * 256 + at_ l (2 + i)) 0
def readF (l : List Int) : Option (Int × Int × List ByteArray) :=
  if 5 < at_ l 0 ∨ 256 < 6 + at_ l 1 then none else
  match rdCells l (6 + (at_ l 1).toNat) (subL l 6 (at_ l 1).toNat) with
  | none => none
  | some q => if (l.drop q.2).all (fun x => decide (x = 0)) = true then some (at_ l 0, beL l 4, q.1) else none
/-- 256 bytes -/
structure Bytes (l : List Int) : Prop where
  len : l.length = 256
  rng : ∀ i, 0 ≤ at_ l i ∧ at_ l i < 256

theorem beL_succ (l : List Int) (k : Nat) : beL l (k + 1) = beL l k * 256 + at_ l (2 + k) := by
  unfold beL
  rw [List.range_succ, List.foldl_append]
  rfl
theorem beL_bd (l : List Int) (h : ∀ i, 0 ≤ at_ l i ∧ at_ l i < 256) (k : Nat) : 0 ≤ beL l k ∧ beL l k < 256 ^ k := by
  induction k with
  | zero => simp [beL]
  | succ k ih =>
    rw [beL_succ]
    have := h (2 + k)
    rw [Int.pow_succ]
    omega
theorem or_byte (a x : Int) (h0 : 0 ≤ a) (h1 : a < 16777216) (h2 : 0 ≤ x) (h3 : x < 256) : bits BinOp.or IntKind.u32 (a * 256) x = a * 256 + x := by
  obtain ⟨m, rfl⟩ := Int.eq_ofNat_of_zero_le h0
  obtain ⟨n, rfl⟩ := Int.eq_ofNat_of_zero_le h2
  have e : bits BinOp.or IntKind.u32 ((m : Int) * 256) n = IntKind.u32.wrap ((BitVec.ofInt 32 ((m : Int) * 256) ||| BitVec.ofInt 32 n).toNat) := rfl
  have hm : m < 16777216 := by omega
  have hn : n < 256 := by omega
  have e1 : BitVec.ofInt 32 ((m : Int) * 256) = BitVec.ofNat 32 (m * 256) := by
    rw [show ((m : Int) * 256) = ((m * 256 : Nat) : Int) by omega]
    exact BitVec.ofInt_natCast _ _
  have e2 : BitVec.ofInt 32 (n : Int) = BitVec.ofNat 32 n := BitVec.ofInt_natCast _ _
  rw [e, e1, e2, BitVec.toNat_or, BitVec.toNat_ofNat, BitVec.toNat_ofNat, Nat.mod_eq_of_lt (by omega), Nat.mod_eq_of_lt (by omega)]
  have h := Nat.shiftLeft_add_eq_or_of_lt (i := 8) (b := n) (by omega) m
  rw [Nat.shiftLeft_eq] at h
  have h' : m * 256 ||| n = m * 256 + n := h.symm
  rw [h', IntKind.wrap_u32]
  omega
attribute [local go_sem ↓] load62 store62
theorem infoStr : (Tryz.prog.info? 9).map (fun i => (i.zero, i.size, i.bytes)) = some (some (.string ByteArray.empty), 1, 16) := by kernel_rfl
theorem rdCells_bad (l : List Int) (a n : Nat) (r : List Int) (h : (n : Int) < 1 ∨ 60 < (n : Int) ∨ 256 < (a : Int) + n) : rdCells l a ((n : Int) :: r) = none := by
  unfold rdCells
  rw [if_pos h]
theorem rdCells_good (l : List Int) (a n : Nat) (r : List Int) (h : ¬ ((n : Int) < 1 ∨ 60 < (n : Int) ∨ 256 < (a : Int) + n)) : rdCells l a ((n : Int) :: r) = (rdCells l (a + n) r).map fun q => (strOf (subL l a n) :: q.1, q.2) := by
  conv => lhs; unfold rdCells
  rw [if_neg h, Int.toNat_natCast]
theorem drop_cons {L : List Int} {k : Nat} {v : Int} (h : L[k]? = some v) : L.drop k = v :: L.drop (k + 1) := by
  obtain ⟨hk, rfl⟩ := List.getElem?_eq_some_iff.1 h
  exact List.drop_eq_getElem_cons hk
theorem subL_drop (l : List Int) (hl : l.length = 256) (N k : Nat) (hk : k < N) (hN : 6 + N ≤ 256) : (subL l 6 N).drop k = at_ l (6 + k) :: (subL l 6 N).drop (k + 1) := by
  apply drop_cons
  unfold subL at_
  rw [List.getElem?_take_of_lt hk, List.getElem?_drop, List.getElem?_eq_getElem (by omega)]
  rfl
theorem dropAll_false {l : List Int} {a i : Nat} (ha : a ≤ i) (h : at_ l i ≠ 0) : (l.drop a).all (fun x => decide (x = 0)) = false := by
  have hi : i < l.length := by
    rcases Nat.lt_or_ge i l.length with q | q
    · exact q
    · exact absurd (show at_ l i = 0 by unfold at_; rw [List.getElem?_eq_none q]; rfl) h
  rw [List.all_eq_false]
  refine ⟨at_ l i, ?_, by simpa using h⟩
  rw [List.mem_drop_iff_getElem]
  refine ⟨i - a, by omega, ?_⟩
  unfold at_
  have e : a + (i - a) = i := by omega
  simp [e, List.getElem?_eq_getElem hi]
theorem dropAll_true {l : List Int} {a : Nat} (h : ∀ i, a ≤ i → i < l.length → at_ l i = 0) : (l.drop a).all (fun x => decide (x = 0)) = true := by
  rw [List.all_eq_true]
  intro x hx
  rw [List.mem_drop_iff_getElem] at hx
  obtain ⟨j, hj, rfl⟩ := hx
  have := h (a + j) (by omega) (by omega)
  unfold at_ at this
  rw [List.getElem?_eq_getElem (by omega)] at this
  simpa using this
/-- in the midst of read -/
structure RdS (w : World) (l : List Int) (kind link : Int) (v : Value) (n : Nat) (cs : List ByteArray) (W : World) : Prop where
  kp : Kp NoB w W
  b1 : Blk W w.heap.size 86 (bytesV l)
  b2 : Blk W (w.heap.size + 1) 185 #[.int .u8 0, .int .u32 0, .slice none 0 0]
  b4 : Blk W (w.heap.size + 1 + 1) 185 #[.int .u8 kind, .int .u32 link, v]
  own : W.ownsRow (w.heap.size + 1 + 1 + 1) 9 1 v n (cs.map Value.string)
  ncs : cs.length = n
theorem RdS.cell {w : World} {l : List Int} {kind link : Int} {v : Value} {n : Nat} {cs : List ByteArray} {W : World} (h : RdS w l kind link v n cs W) (hl : l.length = 256) (i : Nat) (hi : i < 256) :
    W.cell? ⟨w.heap.size, i, none⟩ = some (.int .u8 (at_ l i)) := (h.b1.cell i).trans (bytesV_get l i (by rw [hl]; exact hi))

theorem RdS.link {w : World} {l : List Int} {kind link : Int} {v : Value} {n : Nat} {cs : List ByteArray} {W : World} (h : RdS w l kind link v n cs W) (x : Int) :
    RdS w l kind x v n cs (W.setCell ⟨w.heap.size + 1 + 1, 1, none⟩ (.int .u32 x)) :=
  ⟨h.kp.setCell (p := ⟨w.heap.size + 1 + 1, 1, none⟩) (.inl (by show _ ≤ w.heap.size + 1 + 1; omega)) _, h.b1.far (p := ⟨w.heap.size + 1 + 1, 1, none⟩) (by simp; omega) _, h.b2.far (p := ⟨w.heap.size + 1 + 1, 1, none⟩) (by simp) _, h.b4.set_ 1 _,
    own_keep h.own (S := OnB (w.heap.size + 1 + 1)) (Kp.setCell (S := OnB (w.heap.size + 1 + 1)) (p := ⟨w.heap.size + 1 + 1, 1, none⟩) (Kp.refl _ _) (.inr rfl) _) (fun g hg _ q => by unfold OnB at q; omega), h.ncs⟩
theorem RdS.grown {w : World} {l : List Int} {kind link : Int} {v : Value} {n : Nat} {cs : List ByteArray} {W w1 : World} (h : RdS w l kind link v n cs W) {o : Obj} (hg : ((W.alloc o).drew).grownBy w1 v.ownBlock) {v' : Value} {s : ByteArray}
    (ho : w1.ownsRow (w.heap.size + 1 + 1 + 1) 9 1 v' (n + 1) (cs.map Value.string ++ [Value.string s])) :
    RdS w l kind link v' (n + 1) (cs ++ [s]) (w1.setCell ⟨w.heap.size + 1 + 1, 2, none⟩ v') ∧ w1.cell? ⟨w.heap.size + 1 + 1, 2, none⟩ = some v ∧ w1.frozen? ⟨w.heap.size + 1 + 1, 2, none⟩ = false := by
  have hge := own_ge h.own
  have hK : Kp (fun k => v.ownBlock = some k) W w1 := (((Kp.refl _ W).alloc o).drew).grown hg (fun k hk => .inr hk)
  have b4 := h.b4.keep hK (fun q => by have := hge _ q; omega)
  refine ⟨⟨?_, ?_, ?_, ?_, ?_, by simp [h.ncs]⟩, b4.cell 2, b4.frozen 2⟩
  · exact ((h.kp.trans hK (fun i hi q => by have := hge _ q; omega))).setCell (p := ⟨w.heap.size + 1 + 1, 2, none⟩) (.inl (by show _ ≤ w.heap.size + 1 + 1; omega)) _
  · exact (h.b1.keep hK (fun q => by have := hge _ q; omega)).far (p := ⟨w.heap.size + 1 + 1, 2, none⟩) (by simp; omega) _
  · exact (h.b2.keep hK (fun q => by have := hge _ q; omega)).far (p := ⟨w.heap.size + 1 + 1, 2, none⟩) (by simp) _
  · exact b4.set_ 2 _
  · have := own_keep ho (S := OnB (w.heap.size + 1 + 1)) (Kp.setCell (S := OnB (w.heap.size + 1 + 1)) (p := ⟨w.heap.size + 1 + 1, 2, none⟩) (Kp.refl _ _) (.inr rfl) v') (fun g hg _ q => by unfold OnB at q; omega)
    simpa using this
def ReadPost (w : World) (r : Option (Int × Int × List ByteArray)) (e : Ending) (w' : World) : Prop :=
  Kp NoB w w' ∧ ((r = none ∧ e = .returned (.tuple #[.agg #[.int .u8 0, .int .u32 0, .slice none 0 0], .bool false])) ∨
    ∃ kind link cs v, r = some (kind, link, cs) ∧ e = .returned (.tuple #[.agg #[.int .u8 kind, .int .u32 link, v], .bool true]) ∧ w'.ownsRow w.heap.size 9 1 v cs.length (cs.map Value.string))
theorem RdS.fin {w : World} {l : List Int} {kind link : Int} {v : Value} {n : Nat} {cs : List ByteArray} {W : World} (h : RdS w l kind link v n cs W) (xs : List Value) {r : Option (Int × Int × List ByteArray)} (hr : r = some (kind, link, cs)) :
    ReadPost w r (.returned (.tuple #[.agg #[.int .u8 kind, .int .u32 link, v], .bool true])) (W.setCells (w.heap.size + 1) 0 xs) := by
  refine ⟨Kp.setCells (.inl (by omega)) _ _ _ h.kp, .inr ⟨_, _, cs, v, hr, rfl, ?_⟩⟩
  have := own_keep h.own (S := OnB (w.heap.size + 1)) (Kp.setCells (S := OnB (w.heap.size + 1)) (g := w.heap.size + 1) (.inr rfl) xs 0 W (Kp.refl _ _)) (fun g hg _ q => by unfold OnB at q; omega)
  rw [h.ncs]
  exact this.mono (by omega)
theorem RdS.one {w : World} {l : List Int} {kind link : Int} {v : Value} {n : Nat} {cs : List ByteArray} {W : World} (h : RdS w l kind link v n cs W) : ones #[.int .u8 kind, .int .u32 link, v] := by
  obtain ⟨A, cap, rfl⟩ := own_slice h.own
  unfold ones
  simp [Value.oneCell']

set_option maxRecDepth 100000 in
set_option maxHeartbeats 1600000 in
theorem pgread_ok (w : World) (l : List Int) (hB : Bytes l) : Calls Tryz.prog 142 #[.agg (bytesV l)] w (ReadPost w (readF l)) := by
  have HL := Lib.hid hB.len
  have HR := Lib.hid hB.rng
  clear hB
  have hst : RdS w l (at_ l 0) 0 (.slice none 0 0) 0 [] (((w.alloc (.cells (bytesV l) 86)).alloc (.cells #[.int .u8 0, .int .u32 0, .slice none 0 0] 185)).alloc (.cells #[.int .u8 (at_ l 0), .int .u32 0, .slice none 0 0] 185)) :=
    ⟨(((Kp.refl _ _).alloc _).alloc _).alloc _, ((Blk.new _ _ _).alloc _).alloc _, (Blk.newAt _ _ _ _ (by simp)).alloc _, Blk.newAt _ _ _ _ (by simp), ⟨rfl, .inl ⟨rfl, rfl⟩⟩, rfl⟩
  have HST := Lib.hid hst
  have c0 : (((w.alloc (.cells (bytesV l) 86)).alloc (.cells #[.int .u8 0, .int .u32 0, .slice none 0 0] 185)).cell? ⟨w.heap.size, 0, none⟩) = some (.int .u8 (at_ l 0)) := by
    have := (Blk.new w 86 (bytesV l)).alloc (.cells #[.int .u8 0, .int .u32 0, .slice none 0 0] 185)
    exact (this.cell 0).trans (bytesV_get l 0 (by rw [HL.out]; omega))
  clear hst
  go_enter Tryz.func142, Tryz.ntmps142
  go_wp2
  refine forget (p := fun wx => Code.wp _ _ _ _ wx) (RdS w l (at_ l 0) (beL l 0) (.slice none 0 0) 0 []) HST.out ?_
  intro W hW
  have HW := Lib.hid hW
  clear hW c0 HST
  go_loopw [17] (fun i wr => ∃ k : Nat, k ≤ 4 ∧ i = .int .i64 k ∧ RdS w l (at_ l 0) (beL l k) (.slice none 0 0) 0 [] wr) (fun i _ => 4 - (intOf i).toNat)
  case atStart => exact ⟨0, by omega, rfl, HW.out⟩
  case round =>
    obtain ⟨k, hk, rfl, hL⟩ := hrel
    have HLk := Lib.hid hL
    have f1 : wr.cell? ⟨w.heap.size + 1 + 1, 1, none⟩ = some (.int .u32 (beL l k)) := hL.b4.cell 1
    have z1 := hL.b4.frozen 1
    clear hL
    by_cases hlt : k < 4
    · have c2 := HLk.out.cell HL.out (2 + k) (by omega)
      have r2 := HR.out (2 + k)
      obtain ⟨x, hx⟩ : ∃ x, at_ l (2 + k) = x := ⟨_, rfl⟩
      rw [hx] at c2 r2
      have HX := Lib.hid hx
      clear hx
      have hbe : 0 ≤ beL l k ∧ beL l k < 16777216 := by
        have := beL_bd l HR.out k
        rcases (show k = 0 ∨ k = 1 ∨ k = 2 ∨ k = 3 by omega) with rfl | rfl | rfl | rfl <;> simp at this <;> omega
      obtain ⟨bl, hbl⟩ : ∃ bl, beL l k = bl := ⟨_, rfl⟩
      rw [hbl] at f1 hbe
      have HBL := Lib.hid hbl
      clear hbl
      go_wp2
      exact ⟨⟨k + 1, by omega, by congr 1, by rw [or_byte bl x hbe.1 hbe.2 r2.1 r2.2, ← HX.out, ← HBL.out, ← beL_succ]; exact HLk.out.link _⟩, by simp [intOf]; omega⟩
    · obtain rfl : k = 4 := by omega
      have c1 := HLk.out.cell HL.out 1 (by omega)
      have f0 : wr.cell? ⟨w.heap.size + 1 + 1, 0, none⟩ = some (.int .u8 (at_ l 0)) := HLk.out.b4.cell 0
      have r1 := HR.out 1
      obtain ⟨N, hN⟩ := Int.eq_ofNat_of_zero_le r1.1
      rw [hN] at c1 r1
      have HNN := Lib.hid hN
      clear hN
      have o3 : ones #[.int .u8 0, .int .u32 0, .slice none 0 0] := by unfold ones; simp [Value.oneCell']
      have t2 := HLk.out.b2.thereAll 3 rfl
      by_cases hk5 : 5 < at_ l 0
      · have HF := Lib.hid (show readF l = none by unfold readF; rw [if_pos (.inl hk5)])
        go_wp2
        refine bodyPost_ret (ret_cell_tmp rfl _ _ _ _ _ _ rfl (HLk.out.b2.whole #[.int .u8 0, .int .u32 0, .slice none 0 0] rfl) Tryz.underlying185 rfl info62 _ rfl) rfl ?_
        exact ⟨Kp.setCells (.inl (by omega)) _ _ _ HLk.out.kp, .inl ⟨HF.out, rfl⟩⟩
      · by_cases hn256 : (256 : Int) < 6 + N
        · have HF := Lib.hid (show readF l = none by unfold readF; rw [if_pos (.inr (by rw [HNN.out]; exact hn256))])
          go_wp2
          refine bodyPost_ret (ret_cell_tmp rfl _ _ _ _ _ _ rfl (HLk.out.b2.whole #[.int .u8 0, .int .u32 0, .slice none 0 0] rfl) Tryz.underlying185 rfl info62 _ rfl) rfl ?_
          exact ⟨Kp.setCells (.inl (by omega)) _ _ _ HLk.out.kp, .inl ⟨HF.out, rfl⟩⟩
        · have HF := Lib.hid (show readF l = match rdCells l (6 + N) (subL l 6 N) with | none => none | some q => if (l.drop q.2).all (fun x => decide (x = 0)) = true then some (at_ l 0, beL l 4, q.1) else none by
            unfold readF; rw [if_neg (by rw [HNN.out]; omega), HNN.out]; rfl)
          have h6 : (6 : Int) + N ≤ 256 := by omega
          have h66 : (6 : Int) ≤ 6 + N := by omega
          clear hlt
          go_wp2
          have HHN := Lib.hid h6
          go_loopw [7, 47] (fun p i wr => ∃ (k a : Nat) (v : Value) (cs : List ByteArray), k ≤ N ∧ a ≤ 256 ∧ i = .int .i64 k ∧ p = .int .i64 a ∧ RdS w l (at_ l 0) (beL l 4) v k cs wr ∧
            rdCells l (6 + N) (subL l 6 N) = (rdCells l a ((subL l 6 N).drop k)).map (fun q => (cs ++ q.1, q.2))) (fun _ i _ => N - (intOf i).toNat)
          case atStart => exact ⟨0, 6 + N, _, [], by omega, by omega, rfl, by congr 1, HLk.out, by simp⟩
          case round =>
            obtain ⟨k, a, v, cs, hkN, ha, rfl, rfl, hL, hcs⟩ := hrel
            have HLv := Lib.hid hL
            have HCS := Lib.hid hcs
            clear hL hcs
            by_cases hkn : k < N
            · have ck := HLv.out.cell HL.out (6 + k) (by omega)
              have rk := HR.out (6 + k)
              have hdr := subL_drop l HL.out N k hkn (by omega)
              obtain ⟨x, hx⟩ := Int.eq_ofNat_of_zero_le rk.1
              rw [hx] at ck rk hdr
              have HDR := Lib.hid hdr
              have t2 := HLv.out.b2.thereAll 3 rfl
              clear hx hdr
              by_cases hbad : (x : Int) < 1 ∨ 60 < (x : Int) ∨ 256 < (a : Int) + x
              · have HN := Lib.hid (show readF l = none by rw [HF.out, HCS.out, HDR.out, rdCells_bad l a x _ hbad]; rfl)
                rcases (show (x : Int) < 1 ∨ (1 ≤ (x : Int) ∧ 60 < (x : Int)) ∨ (1 ≤ (x : Int) ∧ (x : Int) ≤ 60 ∧ 256 < (a : Int) + x) by omega) with q1 | ⟨q1, q2⟩ | ⟨q1, q2, q3⟩
                all_goals
                  clear hbad
                  go_wp2
                  refine bodyPost_ret (ret_cell_tmp rfl _ _ _ _ _ _ rfl (HLv.out.b2.whole #[.int .u8 0, .int .u32 0, .slice none 0 0] rfl) Tryz.underlying185 rfl info62 _ rfl) rfl ?_
                  exact ⟨Kp.setCells (.inl (by omega)) _ _ _ HLv.out.kp, .inl ⟨HN.out, rfl⟩⟩
              · have q1 : (1 : Int) ≤ x := by omega
                have q2 : (x : Int) ≤ 60 := by omega
                have q3 : (a : Int) + x ≤ 256 := by omega
                have HRC := Lib.hid (rdCells_good l a x ((subL l 6 N).drop (k + 1)) hbad)
                have f2 : wr.cell? ⟨w.heap.size + 1 + 1, 2, none⟩ = some v := HLv.out.b4.cell 2
                have z2 := HLv.out.b4.frozen 2
                have hby : byAt wr w.heap.size a x := HLv.out.b1.byAt a x (by rw [HL.out]; omega)
                have hbr : byRd wr w.heap.size a x = subL l a x := HLv.out.b1.byRd a x (by rw [HL.out]; omega)
                have hna : ¬ 256 = a := by omega
                have ha2 : (a : Int) ≤ a + x := by omega
                have hnn : ((a : Int) + x).toNat = a + x := by omega
                have hn2 : a + x - a = x := by omega
                have hw1 : IntKind.i64.wrap (x : Int) = x := by rw [IntKind.wrap_i64]; omega
                have hw2 : IntKind.i64.wrap ((a : Int) + x) = a + x := by rw [IntKind.wrap_i64]; omega
                clear hbad
                go_wp2
                obtain ⟨i0, hi0, hz0, hz1, hz2⟩ := info_parts infoStr
                have HI0 := Lib.hid hi0
                have HZ0 := Lib.hid hz0
                have HZ1 := Lib.hid hz1
                have HZ2 := Lib.hid hz2
                have f2a : (wr.alloc (.cells #[.string (strOf (subL l a x))] 9)).cell? ⟨w.heap.size + 1 + 1, 2, none⟩ = some v := (HLv.out.b4.alloc _).cell 2
                clear hi0 hz0 hz1 hz2
                go_region_law (first
                  | (refine step_append_lies _ (by rfl) (.tmp 66) (.tmp 74) 99 (by rfl) (w.heap.size + 1 + 1 + 1) 9 i0 _ 1 16 Tryz.underlying99 HI0.out HZ0.out HZ1.out HZ2.out rfl (by omega) v k (cs.map Value.string) (by rfl) ((HLv.out.own.alloc _).drew)
                      ⟨wr.heap.size, 0, none⟩ 1 1 [Value.string (strOf (subL l a x))] (by rfl) (by rfl) (cell_one_new _ _ _) (by simp [Value.oneCell']) (by omega) (by unfold maxLen; omega) (by omega) (by simp; have := HLv.out.b4.lt; omega) (wr.heap.size + 1) (by simp) ?_; intro gg cap w1 hown1 hgrow1 hat1 hlt1; obtain ⟨hRR, f21, z21⟩ := HLv.out.grown hgrow1 hown1; have HRR := Lib.hid hRR; clear hRR hown1 hgrow1 hat1 hlt1)
                  | go_simp)
                all_goals
                  go_wp2
                  exact ⟨⟨k + 1, a + x, _, cs ++ [strOf (subL l a x)], by omega, by omega, by congr 1, by congr 1, HRR.out, by rw [HCS.out, HDR.out, HRC.out]; cases rdCells l (a + x) ((subL l 6 N).drop (k + 1)) <;> simp⟩, by simp [intOf]; omega⟩
            · obtain rfl : k = N := by omega
              have HQ := Lib.hid (show readF l = if (l.drop a).all (fun x => decide (x = 0)) = true then some (at_ l 0, beL l 4, cs) else none by
                rw [HF.out, HCS.out, List.drop_of_length_le (by unfold subL; rw [List.length_take]; omega)]; simp [rdCells])
              rcases (show a = 256 ∨ a < 256 by omega) with rfl | ha2
              · have HT := Lib.hid (dropAll_true (l := l) (a := 256) (fun i h1 h2 => by have := HL.out; omega))
                go_wp2
                go_loopw [85] (fun i wx => i = .int .i64 0 ∧ RdS w l (at_ l 0) (beL l 4) v k cs wx) (fun _ _ => 0)
                case atStart => exact ⟨rfl, HLv.out⟩
                case round =>
                  obtain ⟨rfl, hL⟩ := hrel
                  have HX := Lib.hid hL
                  have t2 := hL.b2.thereAll 3 rfl
                  have t4 := hL.b4.thereAll 3 rfl
                  have r4 := hL.b4.readAll 3 rfl
                  clear hL
                  have hon := HX.out.one
                  go_wp2
                  refine bodyPost_ret (ret_cell_tmp rfl _ _ _ _ _ _ rfl (HX.out.b2.whole #[.int .u8 (at_ l 0), .int .u32 (beL l 4), v] rfl) Tryz.underlying185 rfl info62 _ rfl) rfl ?_
                  exact HX.out.fin _ (by rw [HQ.out, if_pos HT.out])
              · have hna : ¬ 256 = a := by omega
                have hai : (a : Int) ≤ 256 := by omega
                go_wp2
                go_loopw [11, 85] (fun _ i wx => ∃ j : Nat, a + j ≤ 256 ∧ i = .int .i64 j ∧ (∀ i, a ≤ i → i < a + j → at_ l i = 0) ∧ RdS w l (at_ l 0) (beL l 4) v k cs wx) (fun _ i _ => 256 - (intOf i).toNat)
                case atStart => exact ⟨0, by omega, rfl, fun i h1 h2 => by omega, HLv.out⟩
                case round =>
                  obtain ⟨j, haj, rfl, hz, hL⟩ := hrel
                  have HX := Lib.hid hL
                  have HZ := Lib.hid hz
                  have t2 := hL.b2.thereAll 3 rfl
                  have t4 := hL.b4.thereAll 3 rfl
                  have r4 := hL.b4.readAll 3 rfl
                  have hon := HX.out.one
                  clear hL hz
                  by_cases hj : j < 256 - a
                  · have cj := HX.out.cell HL.out (a + j) (by omega)
                    by_cases hz0 : at_ l (a + j) = 0
                    · go_wp2
                      have hz1 : ∀ i, a ≤ i → i < a + (j + 1) → at_ l i = 0 := by
                        intro i h1 h2
                        rcases Nat.lt_or_ge i (a + j) with q | q
                        · exact HZ.out i h1 q
                        · have e : i = a + j := by omega
                          subst e
                          exact hz0
                      exact ⟨⟨j + 1, by omega, by congr 1, hz1, HX.out⟩, by simp [intOf]; omega⟩
                    · have HF2 := Lib.hid (show readF l = none by rw [HQ.out, dropAll_false (show a ≤ a + j by omega) hz0]; rfl)
                      go_wp2
                      refine bodyPost_ret (ret_cell_tmp rfl _ _ _ _ _ _ rfl (HX.out.b2.whole #[.int .u8 0, .int .u32 0, .slice none 0 0] rfl) Tryz.underlying185 rfl info62 _ rfl) rfl ?_
                      exact ⟨Kp.setCells (.inl (by omega)) _ _ _ HX.out.kp, .inl ⟨HF2.out, rfl⟩⟩
                  · have HT := Lib.hid (dropAll_true (l := l) (a := a) (fun i h1 h2 => HZ.out i h1 (by have := HL.out; omega)))
                    go_wp2
                    refine bodyPost_ret (ret_cell_tmp rfl _ _ _ _ _ _ rfl (HX.out.b2.whole #[.int .u8 (at_ l 0), .int .u32 (beL l 4), v] rfl) Tryz.underlying185 rfl info62 _ rfl) rfl ?_
                    exact HX.out.fin _ (by rw [HQ.out, if_pos HT.out])
end Go.Proofs.YtoeldmkbmnkhkaaGreat
/- The program's Room and Cell, of any 256 bytes; no condition. -/
namespace Go.Proofs.YtoeldmkbmnkhkaaGreat
open Go.RowKit
attribute [local go_sem ↓] load26 store26 alloc26 build26 slice26lo load62 store62

theorem rdCells_facts (l : List Int) (hl : l.length = 256) : ∀ (ns : List Int) (a : Nat) (q : List ByteArray × Nat), rdCells l a ns = some q → q.1.length = ns.length ∧ ∀ c ∈ q.1, 1 ≤ c.size ∧ c.size ≤ 60
  | [], a, q, h => by
    simp [rdCells] at h
    subst h
    simp
  | n :: r, a, q, h => by
    unfold rdCells at h
    by_cases hb : n < 1 ∨ 60 < n ∨ 256 < (a : Int) + n
    · rw [if_pos hb] at h; cases h
    · rw [if_neg hb] at h
      cases hr : rdCells l (a + n.toNat) r with
      | none => rw [hr] at h; cases h
      | some p =>
        rw [hr] at h
        simp only [Option.map_some, Option.some.injEq] at h
        subst h
        obtain ⟨h1, h2⟩ := rdCells_facts l hl r _ p hr
        refine ⟨by simp [h1], fun c hc => ?_⟩
        rcases List.mem_cons.1 hc with rfl | hc
        · rw [strOf_size]
          unfold subL
          rw [List.length_take, List.length_drop]
          omega
        · exact h2 c hc
theorem readF_facts {l : List Int} (hB : Bytes l) {kind link : Int} {cs : List ByteArray} (h : readF l = some (kind, link, cs)) :
    cs.length ≤ 250 ∧ (∀ c ∈ cs, 1 ≤ c.size ∧ c.size ≤ 60) ∧ 0 ≤ kind ∧ kind ≤ 5 ∧ 0 ≤ link ∧ link < 4294967296 := by
  have r1 := hB.rng 1
  have r0 := hB.rng 0
  have rb := beL_bd l hB.rng 4
  unfold readF at h
  by_cases hb : 5 < at_ l 0 ∨ 256 < 6 + at_ l 1
  · rw [if_pos hb] at h; cases h
  · rw [if_neg hb] at h
    cases hr : rdCells l (6 + (at_ l 1).toNat) (subL l 6 (at_ l 1).toNat) with
    | none => rw [hr] at h; cases h
    | some q =>
      rw [hr] at h
      simp only at h
      split at h
      · simp only [Option.some.injEq, Prod.mk.injEq] at h
        obtain ⟨rfl, rfl, rfl⟩ := h
        obtain ⟨h1, h2⟩ := rdCells_facts l hB.len _ _ _ hr
        refine ⟨?_, h2, r0.1, by omega, rb.1, by simpa using rb.2⟩
        rw [h1]
        unfold subL
        rw [List.length_take]
        omega
      · cases h
theorem own_Sl {w : World} {base n : Nat} {A : Option Addr} {cap : Nat} {cs : List ByteArray} (h : w.ownsRow base 9 1 (.slice A n cap) n (cs.map Value.string)) (hl : cs.length = n) : Sl w A n cs := by
  refine ⟨hl, fun hn => ?_⟩
  obtain ⟨g, rfl, hb, hlt⟩ := own_at h hn
  refine ⟨g, 0, rfl, hlt, fun k hk => ?_⟩
  rcases h.2 with ⟨h0, _⟩ | ⟨g', cap', cur, hv, hb', hh, h1, h2, h3, h4⟩
  · cases h0
  · simp only [Value.slice.injEq, Option.some.injEq, Addr.mk.injEq] at hv
    obtain ⟨⟨rfl, _⟩, _, rfl⟩ := hv
    rw [cell_of_row w g (0 + k) cur 9 (0, 0) hh]
    have hkc : k < cur.size := by omega
    have e : (cur.toList.take (n * 1))[k]? = (cs.map Value.string)[k]? := by rw [h4]
    rw [List.getElem?_take_of_lt (by omega)] at e
    simp only [Nat.zero_add]
    rw [← Array.getElem?_toList, e, List.getElem?_map]
    simp [show k < cs.length by omega]
def body3 (kind link : Int) (A : Option Addr) (n cap : Nat) : Array Value := #[.int .u8 kind, .int .u32 link, .slice A n cap]
theorem ReadPost.none {w w' : World} {e : Ending} (h : ReadPost w none e w') : Kp NoB w w' ∧ e = .returned (.tuple #[.agg #[.int .u8 0, .int .u32 0, .slice none 0 0], .bool false]) := by
  refine ⟨h.1, ?_⟩
  rcases h.2 with q | ⟨_, _, _, _, q, _⟩
  · exact q.2
  · cases q
theorem ReadPost.some {w w' : World} {e : Ending} {kind link : Int} {cs : List ByteArray} (h : ReadPost w (some (kind, link, cs)) e w') :
    Kp NoB w w' ∧ ∃ A cap, e = .returned (.tuple #[.agg #[.int .u8 kind, .int .u32 link, .slice A cs.length cap], .bool true]) ∧ w'.ownsRow w.heap.size 9 1 (.slice A cs.length cap) cs.length (cs.map Value.string) ∧ Sl w' A cs.length cs := by
  refine ⟨h.1, ?_⟩
  rcases h.2 with q | ⟨_, _, _, v, q, rfl, ho⟩
  · cases q.1
  · simp only [Option.some.injEq, Prod.mk.injEq] at q
    obtain ⟨rfl, rfl, rfl⟩ := q
    obtain ⟨A, cap, rfl⟩ := own_slice ho
    exact ⟨A, cap, rfl, ho, own_Sl ho rfl⟩

end Go.Proofs.YtoeldmkbmnkhkaaGreat
/- The program's Check, Kind, Count, Link and Cell, of any 256 bytes; no condition. -/
namespace Go.Proofs.YtoeldmkbmnkhkaaGreat
open Go.RowKit
attribute [local go_sem ↓] load26 store26 alloc26 build26 slice26lo load62 store62

def linkF : Option (Int × Int × List ByteArray) → Int
  | none => 0
  | some (_, k, _) => k
set_option maxRecDepth 100000 in
set_option maxHeartbeats 1600000 in
theorem Link_ok (w : World) (l : List Int) (hB : Bytes l) : Calls Tryz.prog 103 #[.agg (bytesV l)] w fun e w' => e = .returned (.int .u32 (linkF (readF l))) ∧ Kp NoB w w' := by
  have HB := Lib.hid hB
  have hb1 : Blk (w.alloc (.cells (bytesV l) 86)) w.heap.size 86 (bytesV l) := Blk.new _ _ _
  have t1 := hb1.thereAll 256 (by rw [bytesV_size]; exact hB.len)
  have r1 := hb1.readAll 256 (by rw [bytesV_size]; exact hB.len)
  clear hB hb1
  obtain ⟨r, hr⟩ : ∃ r, readF l = r := ⟨_, rfl⟩
  have HR := Lib.hid hr
  rw [hr]
  clear hr
  have on3 : ones #[.int .u8 0, .int .u32 0, .slice none 0 0] := by unfold ones; simp [Value.oneCell']
  rcases r with _ | ⟨kind, link, cs⟩
  · go_enter Tryz.func103, Tryz.ntmps103
    go_wp2_with (go_at_call 142; go_must (refine (pgread_ok _ l HB.out).mono ?_); rintro e w2 hq; rw [HR.out] at hq; obtain ⟨hk2, rfl⟩ := hq.none; clear hq; have HK := Lib.hid hk2; have th := (Blk.new w2 185 #[.int .u8 0, .int .u32 0, .slice none 0 0]).thereAll 3 rfl; clear hk2)
    go_ret
    exact ⟨rfl, Kp.setCells (.inl (by have := HK.out.size; simp at this; omega)) _ _ _ ((((Kp.refl _ _).alloc _).trans HK.out (fun _ _ q => q)).alloc _)⟩
  · have HF := Lib.hid (readF_facts HB.out HR.out)
    go_enter Tryz.func103, Tryz.ntmps103
    go_wp2_with (go_at_call 142; go_must (refine (pgread_ok _ l HB.out).mono ?_); rintro e w2 hq; rw [HR.out] at hq; obtain ⟨hk2, A, cap, rfl, ho, hs⟩ := hq.some; clear hq ho; have HK := Lib.hid hk2; have HS := Lib.hid hs; have hb := (Blk.new w2 185 #[.int .u8 0, .int .u32 0, .slice none 0 0]); have th := hb.thereAll 3 rfl; have hb3 := hb.whole (body3 kind link A cs.length cap) rfl; have HB3 := Lib.hid hb3; have c0 := hb3.cell 0; have c1 := hb3.cell 1; have c2 := hb3.cell 2; have th3 := hb3.thereAll 3 rfl; have rd3 := hb3.readAll 3 rfl; have on4 : ones (body3 kind link A cs.length cap) := (by unfold ones body3; simp [Value.oneCell']); unfold body3 at th3 rd3 on4 c0 c1 c2; clear hk2 hs hb hb3)
    go_ret
    exact ⟨rfl, ((((Kp.refl _ _).alloc _).trans HK.out (fun _ _ q => q)).trans (Kp.setCells (S := NoB) (.inl (Nat.le_refl _)) _ _ _ ((Kp.refl NoB _).alloc _)) (fun _ _ q => q))⟩

end Go.Proofs.YtoeldmkbmnkhkaaGreat
/- The reference's Read answers what 256 bytes say as a page; no condition. -/
namespace Go.Proofs.YtoeldmkbmnkhkaaGreat
open Go.RowKit
attribute [local go_sem ↓] load26 store26 alloc26 build26 slice26lo slice26lohi conv64

section
variable {w : World} {l : List Int} {kind link : Int} {v : Value} {n : Nat} {cs : List ByteArray} {W : World}
end
end Go.Proofs.YtoeldmkbmnkhkaaGreat
/- Pages as lists: what is read has room, and parts of it too; no condition. -/
namespace Go.Proofs.YtoeldmkbmnkhkaaGreat
open Go.RowKit

theorem Sl.take {w : World} {A : Option Addr} {n : Nat} {xs : List ByteArray} (h : Sl w A n xs) (k : Nat) (hk : k ≤ n) : Sl w A k (xs.take k) := by
  refine ⟨by rw [List.length_take, h.1]; omega, fun hk0 => ?_⟩
  obtain ⟨g, o, e, hg, hc⟩ := h.2 (by omega)
  refine ⟨g, o, e, hg, fun j hj => ?_⟩
  rw [hc j (by omega)]
  simp [List.getElem?_take_of_lt hj]
theorem Sl.drop {w : World} {g o : Nat} {n : Nat} {xs : List ByteArray} (h : Sl w (some ⟨g, o, none⟩) n xs) (k : Nat) (hk : k ≤ n) : Sl w (some ⟨g, o + k, none⟩) (n - k) (xs.drop k) := by
  refine ⟨by rw [List.length_drop, h.1], fun hk0 => ?_⟩
  obtain ⟨g', o', e, hg, hc⟩ := h.2 (by omega)
  injection e with e
  injection e with e1 e2
  subst e1 e2
  refine ⟨g, o + k, rfl, hg, fun j hj => ?_⟩
  rw [show o + k + j = o + (k + j) by omega, hc (k + j) (by omega)]
  simp
theorem Sl.empty (w : World) (A : Option Addr) : Sl w A 0 [] := ⟨rfl, fun h => by omega⟩
end Go.Proofs.YtoeldmkbmnkhkaaGreat
/- Pages as lists: a page is the page of what is read of it, and what is read of a page is what was laid; no condition. -/
namespace Go.Proofs.YtoeldmkbmnkhkaaGreat
open Go.RowKit

theorem strOfI (s : ByteArray) : strOf (strI s) = s := by
  unfold strOf strI
  apply ByteArray.ext
  rw [List.map_map]
  have : ((fun n : Int => UInt8.ofNat n.toNat) ∘ fun b : UInt8 => (b.toNat : Int)) = id := by
    funext b
    simp
  rw [this, List.map_id]
theorem strI_rngP (s : ByteArray) : ∀ n ∈ strI s, 0 ≤ n ∧ n < 256 := by
  intro n hn
  unfold strI at hn
  obtain ⟨b, _, rfl⟩ := List.mem_map.1 hn
  have := b.toNat_lt
  omega
theorem flatI_rng (xs : List ByteArray) : ∀ n ∈ flatI xs, 0 ≤ n ∧ n < 256 := by
  intro n hn
  unfold flatI at hn
  obtain ⟨s, _, hs⟩ := List.mem_flatMap.1 hn
  exact strI_rngP s n hs
theorem layI_eq (kind link : Int) (xs : List ByteArray) : layI kind link xs = hd6 kind link xs.length ++ xs.map (fun c => (c.size : Int)) ++ (flatI xs ++ zeros (250 - xs.length - (flatI xs).length)) := by
  unfold layI layK
  rw [List.take_length, Nat.sub_self]
  simp [zeros]
theorem room_len (xs : List ByteArray) (h : 0 ≤ roomI xs) : xs.length + (flatI xs).length ≤ 250 := by
  rw [roomI_flat] at h
  omega
theorem rd_lay : ∀ (xs : List ByteArray) (l : List Int) (a : Nat) (post : List Int), l.length = 256 → (∀ c ∈ xs, 1 ≤ c.size ∧ c.size ≤ 60) → l.drop a = flatI xs ++ post → a ≤ 256 → rdCells l a (xs.map (fun c => (c.size : Int))) = some (xs, a + (flatI xs).length)
  | [], l, a, post, hl, h60, hd, ha => by simp [rdCells, flatI]
  | c :: xs, l, a, post, hl, h60, hd, ha => by
    have hc := h60 c (by simp)
    have hlen : 256 - a = (flatI (c :: xs)).length + post.length := by
      have := congrArg List.length hd
      rw [List.length_drop, List.length_append, hl] at this
      exact this
    have hf : (flatI (c :: xs)).length = c.size + (flatI xs).length := by
      unfold flatI
      rw [List.flatMap_cons, List.length_append, strI_len]
    rw [List.map_cons]
    have hgood := rdCells_good l a c.size (xs.map (fun c => (c.size : Int))) (by omega)
    rw [hgood]
    have hd2 : l.drop a = strI c ++ (flatI xs ++ post) := by
      rw [hd]
      unfold flatI
      rw [List.flatMap_cons, List.append_assoc]
    have hd3 : l.drop (a + c.size) = flatI xs ++ post := by
      rw [← List.drop_drop, hd2, ← strI_len c, List.drop_left]
    rw [rd_lay xs l (a + c.size) post hl (fun d hd => h60 d (by simp [hd])) hd3 (by omega)]
    have hs : strOf (subL l a c.size) = c := by
      unfold subL
      rw [hd2, ← strI_len c, List.take_left, strOfI]
    simp only [Option.map_some, hs, hf]
    congr 2
    omega
theorem bytes_of_mem {l : List Int} (hl : l.length = 256) (h : ∀ n ∈ l, 0 ≤ n ∧ n < 256) : Bytes l := ⟨hl, fun i => by
  unfold at_
  cases e : l[i]? with
  | none => simp
  | some v => exact h v (List.mem_of_getElem? e)⟩
theorem beL4 (l : List Int) : beL l 4 = at_ l 2 * 16777216 + at_ l 3 * 65536 + at_ l 4 * 256 + at_ l 5 := by
  rw [beL_succ, beL_succ, beL_succ, beL_succ]
  show (((0 * 256 + at_ l 2) * 256 + at_ l 3) * 256 + at_ l 4) * 256 + at_ l 5 = _
  omega
theorem take6 (l : List Int) (hl : l.length = 256) : l.take 6 = [at_ l 0, at_ l 1, at_ l 2, at_ l 3, at_ l 4, at_ l 5] := by
  match l, hl with
  | a :: b :: c :: d :: e :: f :: r, _ => rfl
theorem lay_bytes (kind link : Int) (xs : List ByteArray) (hk : 0 ≤ kind ∧ kind ≤ 5) (h60 : ∀ c ∈ xs, 1 ≤ c.size ∧ c.size ≤ 60) (hr : 0 ≤ roomI xs) : Bytes (layI kind link xs) := by
  refine bytes_of_mem (layI_len kind link xs hr) ?_
  rw [layI_eq]
  intro n hn
  rcases List.mem_append.1 hn with hn | hn
  · rcases List.mem_append.1 hn with hn | hn
    · unfold hd6 w8 at hn
      simp only [List.mem_cons, List.not_mem_nil, or_false] at hn
      rcases hn with rfl | rfl | rfl | rfl | rfl | rfl <;> omega
    · obtain ⟨c, hc, rfl⟩ := List.mem_map.1 hn
      have := h60 c hc
      omega
  · rcases List.mem_append.1 hn with hn | hn
    · exact flatI_rng xs n hn
    · have := List.eq_of_mem_replicate hn
      omega
/-- what is read of a page that was laid -/
theorem read_lay (kind link : Int) (xs : List ByteArray) (hk : 0 ≤ kind ∧ kind ≤ 5) (hlk : 0 ≤ link ∧ link < 4294967296) (h60 : ∀ c ∈ xs, 1 ≤ c.size ∧ c.size ≤ 60) (hr : 0 ≤ roomI xs) : readF (layI kind link xs) = some (kind, link, xs) := by
  have hlen := layI_len kind link xs hr
  have hrm := room_len xs hr
  have e := layI_eq kind link xs
  have hh : (layI kind link xs).take 6 = hd6 kind link xs.length := by
    rw [e, List.append_assoc]
    exact List.take_left' rfl
  have ht := (take6 _ hlen).symm.trans hh
  unfold hd6 w8 at ht
  simp only [List.cons.injEq, and_true] at ht
  obtain ⟨a0, a1, a2, a3, a4, a5⟩ := ht
  have a1' : at_ (layI kind link xs) 1 = (xs.length : Int) := by omega
  have hbe : beL (layI kind link xs) 4 = link := by rw [beL4, a2, a3, a4, a5]; omega
  have hsub : subL (layI kind link xs) 6 xs.length = xs.map (fun c => (c.size : Int)) := by
    unfold subL
    rw [e, List.append_assoc, List.drop_left' (by rfl)]
    exact List.take_left' (by simp)
  have hdrop : (layI kind link xs).drop (6 + xs.length) = flatI xs ++ zeros (250 - xs.length - (flatI xs).length) := by
    rw [e]
    exact List.drop_left' (by simp [hd6]; omega)
  unfold readF
  rw [a0, a1', if_neg (by omega), Int.toNat_natCast, hsub, rd_lay xs _ _ _ hlen h60 hdrop (by omega)]
  simp only
  rw [hbe, if_pos]
  rw [← List.drop_drop, hdrop, List.drop_left' rfl]
  rw [List.all_eq_true]
  intro x hx
  have := List.eq_of_mem_replicate hx
  simp [this]
end Go.Proofs.YtoeldmkbmnkhkaaGreat
/- Pages held against each other; no condition. -/
namespace Go.Proofs.YtoeldmkbmnkhkaaGreat
open Go.RowKit

/-- an array of n numbers of a kind -/
def rowOK (k : IntKind) (n : Nat) (v : Value) : Prop := ∃ l : List Int, l.length = n ∧ v = .agg (l.map (Value.int k)).toArray
noncomputable def valEq (u v : Value) : Bool := @decide (u = v) (Classical.propDecidable _)
@[go_sem] theorem valEq_self (u : Value) : valEq u u = true := by unfold valEq; simp
theorem valEq_iff (u v : Value) : valEq u v = true ↔ u = v := by unfold valEq; simp
theorem all_range_eqI : ∀ (xs ys : List Int), xs.length = ys.length → ((List.range xs.length).all fun i => xs.getD i 0 == ys.getD i 0) = (xs == ys)
  | [], [], _ => rfl
  | x :: xs, y :: ys, h => by
    have ih := all_range_eqI xs ys (by simpa using h)
    rw [List.length_cons, List.range_succ_eq_map, List.all_cons, List.all_map]
    simp only [List.getD_cons_zero, Function.comp_def, List.getD_cons_succ, ih]
    simp [List.cons_beq_cons]
  | [], _ :: _, h => by simp at h
  | _ :: _, [], h => by simp at h
section
variable {P : Program} (w : World)
theorem run_equalIn_ints (d : Nat) (t e : TypeId) (n : Nat) (k : IntKind) (ht : P.underlying t = some (.array n e)) (he : P.underlying e = some (.int k)) (hsz : ∀ w, (sizeOf e).run P w = .ok 1 w)
    (xs ys : List Int) (hx : xs.length = n) (hy : ys.length = n) :
    (Op.equalIn (d + 2) t (.agg (xs.map (Value.int k)).toArray) (.agg (ys.map (Value.int k)).toArray)).run P w = .ok (xs == ys) w := by
  rw [← all_range_eqI xs ys (hx.trans hy.symm), hx, List.range_eq_range', Op.equalIn]
  simp only [Sem.run_bind, run_underlying ht, Result.andThen_ok, hsz, Std.Legacy.Range.forIn_eq_forIn_range', Std.Legacy.Range.size, Nat.sub_zero, Nat.add_sub_cancel, Nat.div_one]
  have hl : ∀ i ∈ List.range' 0 n 1, i < n := fun i hi => by simpa using (List.mem_range'_1.1 hi).2
  generalize List.range' 0 n 1 = l at hl ⊢
  induction l with
  | nil => simp
  | cons i l ih =>
    have hi : i < n := hl i (by simp)
    have px : (part e (xs.map (Value.int k)).toArray (i * 1)).run P w = .ok (.int k (xs.getD i 0)) w := by
      simp [part, isAgg, run_underlying he, List.getD, List.getElem?_eq_getElem (show i < xs.length by omega)]
    have py : (part e (ys.map (Value.int k)).toArray (i * 1)).run P w = .ok (.int k (ys.getD i 0)) w := by
      simp [part, isAgg, run_underlying he, List.getD, List.getElem?_eq_getElem (show i < ys.length by omega)]
    have pe : (Op.equalIn (d + 1) e (.int k (xs.getD i 0)) (.int k (ys.getD i 0))).run P w = .ok (xs.getD i 0 == ys.getD i 0) w := by
      rw [run_equalIn_int w d e k k _ _ he]
    simp only [List.forIn_cons, Sem.run_bind, px, py, pe, Result.andThen_ok, List.all_cons]
    cases hb : (xs.getD i 0 == ys.getD i 0)
    · simp
    · simp only [Bool.not_true, Bool.false_eq_true, if_false, Sem.run_pure, Result.andThen_ok, Bool.true_and]
      exact ih fun j hj => hl j (by simp [hj])
theorem run_eql_ints (t e : TypeId) (n : Nat) (k : IntKind) (ht : P.underlying t = some (.array n e)) (he : P.underlying e = some (.int k)) (hsz : ∀ w, (sizeOf e).run P w = .ok 1 w)
    (u v : Value) (hu : rowOK k n u) (hv : rowOK k n v) :
    (binOp .eql t u v).run P w = .ok (.bool (valEq u v)) w ∧ (binOp .neq t u v).run P w = .ok (.bool (!valEq u v)) w := by
  obtain ⟨xs, hx, rfl⟩ := hu
  obtain ⟨ys, hy, rfl⟩ := hv
  have he' := run_equalIn_ints w 9998 t e n k ht he hsz xs ys hx hy
  have e2 : (xs == ys) = valEq (.agg (xs.map (Value.int k)).toArray) (.agg (ys.map (Value.int k)).toArray) := by
    rw [Bool.eq_iff_iff, valEq_iff, beq_iff_eq]
    constructor
    · rintro rfl; rfl
    · intro h
      injection h with h
      have h1 := congrArg Array.toList h
      exact map_int_inj (by simpa using h1)
  rw [e2] at he'
  constructor
  · rw [run_eql_struct, he']
    rfl
  · rw [run_neq_struct, he']
    rfl
theorem execEql_row {T e n : Nat} {k : IntKind} (op : BinOp) (hop : op = .eql ∨ op = .neq) (ht : P.underlying T = some (.array n e)) (he : P.underlying e = some (.int k)) (hsz : ∀ w, (sizeOf e).run P w = .ok 1 w) (hm : P.eqGuardType P.depth T = false)
    (ev : Operand → Value) (ds : Option Tmp) (x y : Operand) (yt ty : TypeId) (ps : String) (af : Array Edge) (g : Option (Nat × Bool)) (hx : rowOK k n (ev x)) (hy : rowOK k n (ev y)) :
    (execOp ev ⟨ds, .binOp op T x y yt, ty, ps, af, g⟩).run P w = .ok (.value (.bool (if op = .eql then valEq (ev x) (ev y) else !valEq (ev x) (ev y)))) w := by
  have hr := run_eql_ints w T e n k ht he hsz (ev x) (ev y) hx hy
  have hg : (eqGuard op T x y (ev x) (ev y)).run P w = .ok () w := by
    obtain ⟨xs, _, hx⟩ := hx
    obtain ⟨ys, _, hy⟩ := hy
    rw [hx, hy]
    exact run_eqGuard_agg w op T x y _ _ hm
  rcases hop with rfl | rfl
  · simp only [execOp, Sem.run_bind, hg, Result.andThen_ok, hr.1, Sem.run_pure, if_true]
  · simp only [execOp, Sem.run_bind, hg, Result.andThen_ok, hr.2, Sem.run_pure, reduceCtorEq, if_false]
end
def pgOK (v : Value) : Prop := rowOK .u8 256 v
theorem pgOK_bytes (l : List Int) (h : l.length = 256) : pgOK (.agg (bytesV l)) := ⟨l, h, rfl⟩
theorem guard26 : Tryz.prog.eqGuardType Tryz.prog.depth 86 = false := by kernel_rfl
theorem eql26 (w : World) (ev : Operand → Value) (ds : Option Tmp) (x y : Operand) (yt ty : TypeId) (ps : String) (af : Array Edge) (g : Option (Nat × Bool)) (hx : pgOK (ev x)) (hy : pgOK (ev y)) :
    (execOp ev ⟨ds, .binOp .eql 86 x y yt, ty, ps, af, g⟩).run Tryz.prog w = .ok (.value (.bool (valEq (ev x) (ev y)))) w :=
  execEql_row w .eql (.inl rfl) Tryz.underlying86 Tryz.underlying5 sizeU8 guard26 ev ds x y yt ty ps af g hx hy
theorem neq26 (w : World) (ev : Operand → Value) (ds : Option Tmp) (x y : Operand) (yt ty : TypeId) (ps : String) (af : Array Edge) (g : Option (Nat × Bool)) (hx : pgOK (ev x)) (hy : pgOK (ev y)) :
    (execOp ev ⟨ds, .binOp .neq 86 x y yt, ty, ps, af, g⟩).run Tryz.prog w = .ok (.value (.bool (!valEq (ev x) (ev y)))) w :=
  execEql_row w .neq (.inr rfl) Tryz.underlying86 Tryz.underlying5 sizeU8 guard26 ev ds x y yt ty ps af g hx hy
end Go.Proofs.YtoeldmkbmnkhkaaGreat
/- The answers that awake asks for; no condition. -/
namespace Go.Proofs.YtoeldmkbmnkhkaaGreat
open Go.RowKit
attribute [local go_sem ↓] load26 store26 alloc26 build26 slice26lo eql26 neq26

end Go.Proofs.YtoeldmkbmnkhkaaGreat
/- What is appended lies behind a slice, nil or not; no condition. -/
namespace Go.Proofs.YtoeldmkbmnkhkaaGreat
open Go.RowKit

theorem wpList_append_src {P : Program} {w : World} {ops : Array Oper} {rest : List Oper} {o : Oper} {a : Act} {Q : Exit → Act → World → Prop} (hgd : o.guard = none) (s x : Operand) (t : TypeId)
    (ho : o.op = .call { callee := .builtin .append, args := #[s, x], argTypes := #[t, t] })
    (base : Nat) (e : TypeId) (i : TypeInfo) (z : Value) (bytes : Nat) (ht : P.underlying t = some (.slice e)) (hi : P.info? e = some i) (hz : i.zero = some z)
    (hsize : i.size = 1) (hby : i.bytes = bytes) (hzs : z.cells.size = 1)
    (v : Value) (n : Nat) (xs : List Value) (hs : a.eval s = v) (hown : w.ownsRow base e 1 v n xs)
    (A : Option Addr) (m c : Nat) (news : List Value) (hx : a.eval x = .slice A m c) (hA : A = none → m = 0 ∧ c = 0) (hl : news.length = m)
    (hnews : 0 < m → ∃ g o, A = some ⟨g, o, none⟩ ∧ ∀ j u, news[j]? = some u → w.cell? ⟨g, o + j, none⟩ = some u) (h1 : ∀ u ∈ news, u.oneCell' = true)
    (h63 : n + m ≤ maxLen) (hbytes : (n + m) * bytes ≤ 140737488355328) (hbase : base ≤ w.heap.size)
    (h : ∀ v' w', w'.ownsRow base e 1 v' (n + m) (xs ++ news) → w.grownBy w' v.ownBlock → wpList P ops Q rest (a.put o.dst v') w') : wpList P ops Q (o :: rest) a w := by
  rcases A with _ | ad
  · obtain ⟨rfl, rfl⟩ := hA rfl
    obtain rfl : news = [] := List.eq_nil_of_length_eq_zero hl
    refine wpList_append_own_none hgd s x t ho base e i 1 ht hi v n xs hs hown hx (h v w ?_ ?_)
    · simpa using hown
    · exact ⟨rfl, rfl, rfl, Nat.le_refl _, fun _ _ _ => rfl⟩
  · refine wpList_append_own w hgd s x t ho base e i z 1 bytes ht hi hz hsize hby hzs (by omega) v n xs hs hown ad m c news hx (by omega) ?_ h1 h63 hbytes hbase (fun v' w' q1 q2 _ => h v' w' q1 q2)
    intro j u hj
    have hm : 0 < m := by
      have := (List.getElem?_eq_some_iff.1 hj).1
      omega
    obtain ⟨g, o', e', hc⟩ := hnews hm
    injection e' with e'
    subst e'
    rw [add_mk]
    exact hc j u hj
/-- the same for elements of more cells -/
theorem wpList_append_srcN {P : Program} {w : World} {ops : Array Oper} {rest : List Oper} {o : Oper} {a : Act} {Q : Exit → Act → World → Prop} (hgd : o.guard = none) (s x : Operand) (t : TypeId)
    (ho : o.op = .call { callee := .builtin .append, args := #[s, x], argTypes := #[t, t] })
    (base : Nat) (e : TypeId) (i : TypeInfo) (z : Value) (size bytes : Nat) (ht : P.underlying t = some (.slice e)) (hi : P.info? e = some i) (hz : i.zero = some z)
    (hsize : i.size = size) (hby : i.bytes = bytes) (hzs : z.cells.size = size) (hsz : 0 < size)
    (v : Value) (n : Nat) (xs : List Value) (hs : a.eval s = v) (hown : w.ownsRow base e size v n xs)
    (A : Option Addr) (m c : Nat) (news : List Value) (hx : a.eval x = .slice A m c) (hA : A = none → m = 0 ∧ c = 0) (hl : news.length = m * size)
    (hnews : 0 < m → ∃ g o, A = some ⟨g, o, none⟩ ∧ ∀ j u, news[j]? = some u → w.cell? ⟨g, o + j, none⟩ = some u) (h1 : ∀ u ∈ news, u.oneCell' = true)
    (h63 : n + m ≤ maxLen) (hbytes : (n + m) * bytes ≤ 140737488355328) (hbase : base ≤ w.heap.size)
    (h : ∀ v' w', w'.ownsRow base e size v' (n + m) (xs ++ news) → w.grownBy w' v.ownBlock → wpList P ops Q rest (a.put o.dst v') w') : wpList P ops Q (o :: rest) a w := by
  rcases A with _ | ad
  · obtain ⟨rfl, rfl⟩ := hA rfl
    obtain rfl : news = [] := List.eq_nil_of_length_eq_zero (by omega)
    refine wpList_append_own_none hgd s x t ho base e i size ht hi v n xs hs hown hx (h v w ?_ ?_)
    · simpa using hown
    · exact ⟨rfl, rfl, rfl, Nat.le_refl _, fun _ _ _ => rfl⟩
  · refine wpList_append_own w hgd s x t ho base e i z size bytes ht hi hz hsize hby hzs hsz v n xs hs hown ad m c news hx hl ?_ h1 h63 hbytes hbase (fun v' w' q1 q2 _ => h v' w' q1 q2)
    intro j u hj
    have hm : 0 < m := by
      rcases Nat.eq_zero_or_pos m with q | q
      · rw [q] at hl
        have := (List.getElem?_eq_some_iff.1 hj).1
        omega
      · exact q
    obtain ⟨g, o', e', hc⟩ := hnews hm
    injection e' with e'
    subst e'
    rw [add_mk]
    exact hc j u hj
end Go.Proofs.YtoeldmkbmnkhkaaGreat
/- PageNew: the walk of the law; condition: none. -/
namespace Go.Proofs.YtoeldmkbmnkhkaaGreat
open Go.RowKit
attribute [local go_sem ↓] load26 store26 alloc26 build26 slice26lo eql26 neq26

/-- in the midst of PageNew -/
structure PNS (w : World) (A B : Option Addr) (n : Nat) (xs : List ByteArray) (g1 g2 : Nat) (L : List Int) (W : World) : Prop where
  kp : Kp NoB w W
  s0 : Sl W A n xs
  s1 : Sl W B n xs
  b1 : Blk W g1 86 (bytesV L)
  b2 : Blk W g2 86 (bytesV L)
theorem PNS.drewN {w : World} {A B : Option Addr} {n : Nat} {xs : List ByteArray} {g1 g2 : Nat} {L : List Int} {W : World} (h : PNS w A B n xs g1 g2 L W) (k : Nat) : PNS w A B n xs g1 g2 L (W.drewN k) :=
  ⟨h.kp.drewN k, h.s0, h.s1, h.b1, h.b2⟩
end Go.Proofs.YtoeldmkbmnkhkaaGreat
/- A block stays where nothing below changes; no condition. -/
namespace Go.Proofs.YtoeldmkbmnkhkaaGreat
open Go.RowKit
theorem Blk.below {w w' : World} {g : Nat} {t : TypeId} {cs : Array Value} (h : Blk w g t cs) (k : Below w.heap.size w w') : Blk w' g t cs := (k.block g h.lt).trans h
end Go.Proofs.YtoeldmkbmnkhkaaGreat
/- The program's Cells and the function that it hands back: a page's cells, one after the other; no condition. -/
namespace Go.Proofs.YtoeldmkbmnkhkaaGreat
open Go.RowKit Go.Shelf
attribute [local go_sem ↓] load26 store26 alloc26 build26 slice26lo load62 store62
attribute [local go_sem] Oper.semAt_some

def cellsF : Option (Int × Int × List ByteArray) → List ByteArray
  | none => []
  | some (_, _, cs) => cs
/-- the iterator's two blocks -/
def ItC (W : World) (B : Nat) (cs : List ByteArray) : Prop :=
  ∃ kd lk A cap b, Blk W B 185 (body3 kd lk A cs.length cap) ∧ Blk W (B + 1) 4 #[.bool b] ∧ (b = false → cs = []) ∧ Sl W A cs.length cs
theorem Sl.below {w w' : World} {A : Option Addr} {n : Nat} {xs : List ByteArray} (h : Sl w A n xs) (k : Below w.heap.size w w') : Sl w' A n xs :=
  ⟨h.1, fun hn => by
    obtain ⟨g, o, e, hg, hc⟩ := h.2 hn
    exact ⟨g, o, e, Nat.lt_of_lt_of_le hg k.size, fun j hj => (k.cell (p := ⟨g, o + j, none⟩) hg).trans (hc j hj)⟩⟩
theorem ItC.below {w w' : World} {B : Nat} {cs : List ByteArray} (h : ItC w B cs) (k : Below w.heap.size w w') : ItC w' B cs := by
  obtain ⟨kd, lk, A, cap, b, h1, h2, h3, h4⟩ := h
  exact ⟨kd, lk, A, cap, b, h1.below k, h2.below k, h3, h4.below k⟩

theorem cells_boxes (w2 : World) (kd lk : Int) (A : Option Addr) (n cap : Nat) (b : Bool) (cs : List ByteArray) (hn : cs.length = n) (hb : b = false → cs = []) (hs : Sl w2 A n cs) :
    ((w2.alloc (.cells #[.int .u8 0, .int .u32 0, .slice none 0 0] 185)).alloc (.cells #[.bool false] 4)).there w2.heap.size 0 3 ∧
    (((w2.alloc (.cells #[.int .u8 0, .int .u32 0, .slice none 0 0] 185)).alloc (.cells #[.bool false] 4)).setCells w2.heap.size 0 [.int .u8 kd, .int .u32 lk, .slice A n cap]).cell? ⟨w2.heap.size + 1, 0, none⟩ = some (.bool false) ∧
    (((w2.alloc (.cells #[.int .u8 0, .int .u32 0, .slice none 0 0] 185)).alloc (.cells #[.bool false] 4)).setCells w2.heap.size 0 [.int .u8 kd, .int .u32 lk, .slice A n cap]).frozen? ⟨w2.heap.size + 1, 0, none⟩ = false ∧
    (Kp NoB w2 ((((w2.alloc (.cells #[.int .u8 0, .int .u32 0, .slice none 0 0] 185)).alloc (.cells #[.bool false] 4)).setCells w2.heap.size 0 [.int .u8 kd, .int .u32 lk, .slice A n cap]).setCell ⟨w2.heap.size + 1, 0, none⟩ (.bool b)) ∧
     ItC ((((w2.alloc (.cells #[.int .u8 0, .int .u32 0, .slice none 0 0] 185)).alloc (.cells #[.bool false] 4)).setCells w2.heap.size 0 [.int .u8 kd, .int .u32 lk, .slice A n cap]).setCell ⟨w2.heap.size + 1, 0, none⟩ (.bool b)) w2.heap.size cs) := by
  subst hn
  have b1 := (Blk.new w2 185 #[.int .u8 0, .int .u32 0, .slice none 0 0]).alloc (.cells #[.bool false] 4)
  have b2 := Blk.newAt (w2.alloc (.cells #[.int .u8 0, .int .u32 0, .slice none 0 0] 185)) 4 #[.bool false] (w2.heap.size + 1) (by simp)
  have b3 := b1.whole (body3 kd lk A cs.length cap) rfl
  have b4 := b2.farCells (g' := w2.heap.size) (by omega) [.int .u8 kd, .int .u32 lk, .slice A cs.length cap] 0
  have b5 := b4.set_ 0 (.bool b)
  have b6 := b3.far (p := ⟨w2.heap.size + 1, 0, none⟩) (by show w2.heap.size ≠ w2.heap.size + 1; omega) (.bool b)
  have k := (Kp.setCells (S := NoB) (.inl (Nat.le_refl _)) [.int .u8 kd, .int .u32 lk, .slice A cs.length cap] 0 _ (((Kp.refl NoB w2).alloc (.cells #[.int .u8 0, .int .u32 0, .slice none 0 0] 185)).alloc (.cells #[.bool false] 4))).setCell (p := ⟨w2.heap.size + 1, 0, none⟩) (.inl (by show _ ≤ w2.heap.size + 1; omega)) (.bool b)
  exact ⟨b1.thereAll 3 rfl, b4.cell 0, b4.frozen 0, k, kd, lk, A, cap, b, b6, b5, hb, hs.keep k⟩

/-- what a round is handed: the index, the cell -/
def encC (cs : List ByteArray) (k : Nat) : Array Value := #[.int .i64 (k : Int), .string (cs.getD k ByteArray.empty)]

end Go.Proofs.YtoeldmkbmnkhkaaGreat
/- The space in plain Lean: the first page, pages taken and given back; no condition. -/
namespace Go.Proofs.YtoeldmkbmnkhkaaGreat
open Go

def nmB : ByteArray := ⟨#[98, 117, 114, 101, 97, 117, 32, 49]⟩
def be4 (n : Int) : List Int := [n / 16777216 % 256, n / 65536 % 256, n / 256 % 256, n % 256]
def txt (n : Int) : ByteArray := strOf (be4 n)
/-- what the first page says -/
structure Sf where
  free : Int
  ns : List Int
def spCells (f : Sf) : List ByteArray := nmB :: f.ns.map txt
def spg (f : Sf) : List Int := layI 0 f.free (spCells f)
def fpg (link : Int) : List Int := layI 0 link []
def numB (c : ByteArray) : Int := (strI c).foldl (fun a b => (a * 256 + b) % 4294967296) 0
def numAt (cs : List ByteArray) (j : Nat) : Int := match cs[j + 1]? with | some c => numB c | none => 0
def parse (p : List Int) : Sf := ⟨linkF (readF p), (List.range 8).map (numAt (cellsF (readF p)))⟩
def readS : List (List Int) → Option Sf
  | [] => none
  | p :: _ => if spg (parse p) = p then some (parse p) else none
/-- the page of a number -/
def pgD (D : List (List Int)) (n : Int) : List Int := if 1 ≤ n ∧ n ≤ D.length then D.getD (n.toNat - 1) [] else zeros 256
def linkD (D : List (List Int)) (n : Int) : Int := linkF (readF (pgD D n))
def nextS (D : List (List Int)) (n : Int) : Int × Int := if 2 ≤ n ∧ n ≤ D.length ∧ fpg (linkD D n) = pgD D n then (linkD D n, 0) else (0, 8)
def layS (D : List (List Int)) : List (List Int) × Int := if 0 < D.length then (D, 6) else ([spg ⟨0, List.replicate 8 0⟩], 0)
def takeS (D : List (List Int)) : List (List Int) × Int × Int :=
  match readS D with
  | none => (D, 0, 8)
  | some f => if f.free = 0 then (if 4096 ≤ D.length then (D, 0, 5) else (D ++ [zeros 256], D.length + 1, 0))
    else if (nextS D f.free).2 ≠ 0 then (D, 0, 8) else (D.set 0 (spg ⟨(nextS D f.free).1, f.ns⟩), f.free, 0)
def giveS (D : List (List Int)) (n : Int) : List (List Int) × Int :=
  match readS D with
  | none => (D, 8)
  | some f => if n < 2 ∨ D.length < n then (D, 2) else ((D.set (n.toNat - 1) (fpg f.free)).set 0 (spg ⟨n, f.ns⟩), 0)
def getS (D : List (List Int)) (i : Int) : Int × Int :=
  match readS D with
  | none => (0, 8)
  | some f => if i < 0 ∨ 8 ≤ i then (0, 2) else (f.ns.getD i.toNat 0, 0)
/-- numbers that may be -/
structure SfOk (f : Sf) : Prop where
  fr : 0 ≤ f.free ∧ f.free < 4294967296
  len : f.ns.length = 8
  ns : ∀ n ∈ f.ns, 0 ≤ n ∧ n < 4294967296
theorem be4_rng (n : Int) : ∀ x ∈ be4 n, 0 ≤ x ∧ x < 256 := by
  intro x hx
  simp only [be4, List.mem_cons, List.not_mem_nil, or_false] at hx
  omega
theorem txt_size (n : Int) : (txt n).size = 4 := rfl
theorem numB_txt {n : Int} (h0 : 0 ≤ n) (h1 : n < 4294967296) : numB (txt n) = n := by
  unfold numB txt
  rw [strI_strOf _ (be4_rng n)]
  simp only [be4, List.foldl]
  omega
theorem spCells_ok (f : Sf) : ∀ c ∈ spCells f, 1 ≤ c.size ∧ c.size ≤ 60 := by
  intro c hc
  rcases List.mem_cons.1 hc with rfl | hc
  · exact ⟨by decide, by decide⟩
  · obtain ⟨n, _, rfl⟩ := List.mem_map.1 hc
    rw [txt_size]
    omega
theorem spCells_len {f : Sf} (h : f.ns.length = 8) : (spCells f).length = 9 := by
  unfold spCells
  rw [List.length_cons, List.length_map, h]
theorem spCells_room {f : Sf} (h : f.ns.length = 8) : roomI (spCells f) = 201 := by
  unfold roomI spCells
  rw [List.map_cons, List.map_map, List.sum_cons]
  have e : ∀ l : List Int, (l.map ((fun c : ByteArray => 1 + (c.size : Int)) ∘ txt)).sum = 5 * l.length := by
    intro l
    induction l with
    | nil => rfl
    | cons a l ih =>
      rw [List.map_cons, List.sum_cons, ih, List.length_cons]
      show 1 + ((txt a).size : Int) + _ = _
      rw [txt_size]
      push_cast
      omega
  rw [e, h]
  rfl
theorem spg_bytes {f : Sf} (h : f.ns.length = 8) : Bytes (spg f) := lay_bytes 0 f.free _ ⟨by decide, by decide⟩ (spCells_ok f) (by rw [spCells_room h]; decide)
theorem fpg_bytes (l : Int) : Bytes (fpg l) := lay_bytes 0 l [] ⟨by decide, by decide⟩ (by simp) (by decide)
theorem read_spg {f : Sf} (h : SfOk f) : readF (spg f) = some (0, f.free, spCells f) := read_lay 0 f.free _ ⟨by decide, by decide⟩ h.fr (spCells_ok f) (by rw [spCells_room h.len]; decide)
theorem read_fpg {l : Int} (h : 0 ≤ l ∧ l < 4294967296) : readF (fpg l) = some (0, l, []) := read_lay 0 l [] ⟨by decide, by decide⟩ h (by simp) (by decide)
theorem parse_spg {f : Sf} (h : SfOk f) : parse (spg f) = f := by
  unfold parse
  rw [read_spg h]
  have e : (List.range 8).map (numAt (cellsF (some (0, f.free, spCells f)))) = f.ns := by
    apply List.ext_getElem
    · rw [List.length_map, List.length_range, h.len]
    · intro j h1 h2
      have h3 := h.ns _ (List.getElem_mem h2)
      rw [List.getElem_map, List.getElem_range]
      unfold numAt cellsF spCells
      rw [List.getElem?_cons_succ, List.getElem?_map, List.getElem?_eq_getElem h2]
      exact numB_txt h3.1 h3.2
  rw [e]
  rfl
theorem readS_spg {f : Sf} (h : SfOk f) (D : List (List Int)) : readS (spg f :: D) = some f := by
  show (if spg (parse (spg f)) = spg f then some (parse (spg f)) else none) = _
  rw [parse_spg h, if_pos rfl]
theorem numB_rng (c : ByteArray) : 0 ≤ numB c ∧ numB c < 4294967296 := by
  unfold numB
  have : ∀ (l : List Int) (a : Int), 0 ≤ a ∧ a < 4294967296 → 0 ≤ l.foldl (fun a b => (a * 256 + b) % 4294967296) a ∧ l.foldl (fun a b => (a * 256 + b) % 4294967296) a < 4294967296 := by
    intro l
    induction l with
    | nil => exact fun a h => h
    | cons b l ih => exact fun a h => ih _ ⟨Int.emod_nonneg _ (by decide), Int.emod_lt_of_pos _ (by decide)⟩
  exact this _ 0 ⟨by decide, by decide⟩
theorem link_rng {p : List Int} (hp : Bytes p) : 0 ≤ linkF (readF p) ∧ linkF (readF p) < 4294967296 := by
  have h := beL_bd p hp.rng 4
  unfold readF
  split
  · exact ⟨by decide, by decide⟩
  · split
    · exact ⟨by decide, by decide⟩
    · split
      · exact ⟨h.1, by have := h.2; show beL p 4 < _; omega⟩
      · exact ⟨by decide, by decide⟩
theorem parse_ok (p : List Int) (hp : Bytes p) : SfOk (parse p) := by
  refine ⟨?_, by unfold parse; simp, fun n hn => ?_⟩
  · exact link_rng hp
  · unfold parse at hn
    obtain ⟨j, _, rfl⟩ := List.mem_map.1 hn
    unfold numAt
    split
    · exact numB_rng _
    · exact ⟨by decide, by decide⟩
/-! ### the free pages as a list -/
def chain (D : List (List Int)) : List Int → Prop
  | [] => True
  | n :: l => 2 ≤ n ∧ n ≤ D.length ∧ pgD D n = fpg (l.headD 0) ∧ chain D l
/-- a database whose free pages are these, the first one first -/
structure Rep (D : List (List Int)) (fr ns : List Int) : Prop where
  len : D.length ≤ 4096
  pos : 0 < D.length
  first : pgD D 1 = spg ⟨fr.headD 0, ns⟩
  nl : ns.length = 8
  nr : ∀ n ∈ ns, 0 ≤ n ∧ n < 4294967296
  ch : chain D fr
  nd : fr.Nodup
theorem chain_mem {D : List (List Int)} : ∀ {l : List Int}, chain D l → ∀ n ∈ l, 2 ≤ n ∧ n ≤ D.length
  | [], _, _, h => by cases h
  | m :: l, h, n, hn => by
    rcases List.mem_cons.1 hn with rfl | hn
    · exact ⟨h.1, h.2.1⟩
    · exact chain_mem h.2.2.2 n hn
theorem Rep.head {D : List (List Int)} {fr ns : List Int} (h : Rep D fr ns) : SfOk ⟨fr.headD 0, ns⟩ := by
  refine ⟨?_, h.nl, h.nr⟩
  have hl := h.len
  cases fr with
  | nil =>
    show (0 : Int) ≤ 0 ∧ (0 : Int) < 4294967296
    decide
  | cons n l =>
    have := chain_mem h.ch n (List.mem_cons_self ..)
    show 0 ≤ n ∧ n < _
    omega
theorem pgD_one {p : List Int} {D : List (List Int)} : pgD (p :: D) 1 = p := by
  unfold pgD
  rw [if_pos ⟨by decide, by rw [List.length_cons]; omega⟩]
  rfl
theorem Rep.read {D : List (List Int)} {fr ns : List Int} (h : Rep D fr ns) : readS D = some ⟨fr.headD 0, ns⟩ := by
  have hp := h.pos
  have hf := h.first
  cases D with
  | nil => simp at hp
  | cons p D =>
    rw [pgD_one] at hf
    subst hf
    exact readS_spg h.head D
theorem pgD_set {D : List (List Int)} {n m : Int} {p : List Int} (hn : 1 ≤ n ∧ n ≤ D.length) : pgD (D.set (n.toNat - 1) p) m = if m = n then p else pgD D m := by
  unfold pgD
  rw [List.length_set]
  by_cases hm : 1 ≤ m ∧ m ≤ D.length
  · rw [if_pos hm, if_pos hm, List.getD_eq_getElem?_getD, List.getD_eq_getElem?_getD, List.getElem?_set]
    by_cases e : m = n
    · subst e
      rw [if_pos rfl, if_pos rfl, if_pos (by omega)]
      rfl
    · rw [if_neg (by omega), if_neg e]
  · rw [if_neg hm, if_neg hm]
    by_cases e : m = n
    · subst e
      exact absurd hn hm
    · rw [if_neg e]
theorem pgD_app {D : List (List Int)} {m : Int} {p : List Int} (hm : m ≤ D.length) : pgD (D ++ [p]) m = pgD D m := by
  unfold pgD
  rw [List.length_append]
  by_cases h : 1 ≤ m
  · rw [if_pos ⟨h, by push_cast; omega⟩, if_pos ⟨h, hm⟩, List.getD_eq_getElem?_getD, List.getD_eq_getElem?_getD, List.getElem?_append_left (by omega)]
  · rw [if_neg (fun q => h q.1), if_neg (fun q => h q.1)]
theorem chain_ext {D E : List (List Int)} (hl : D.length ≤ E.length) : ∀ {l : List Int}, chain D l → (∀ n ∈ l, pgD E n = pgD D n) → chain E l
  | [], _, _ => trivial
  | n :: l, h, he => ⟨h.1, by have := h.2.1; omega, (he n (List.mem_cons_self ..)).trans h.2.2.1, chain_ext hl h.2.2.2 fun m hm => he m (List.mem_cons_of_mem _ hm)⟩
theorem Rep.next {D : List (List Int)} {n : Int} {l ns : List Int} (h : Rep D (n :: l) ns) : nextS D n = (l.headD 0, 0) := by
  obtain ⟨h1, h2, h3, h4⟩ := h.ch
  have hb : 0 ≤ l.headD 0 ∧ l.headD 0 < 4294967296 := by
    cases l with
    | nil => exact ⟨by decide, by decide⟩
    | cons m l =>
      have := chain_mem h4 m (List.mem_cons_self ..)
      have := h.len
      show 0 ≤ m ∧ m < _
      omega
  have e : linkD D n = l.headD 0 := by
    unfold linkD
    rw [h3, read_fpg hb]
    rfl
  unfold nextS
  rw [e, if_pos ⟨h1, h2, h3.symm⟩]
theorem Rep.take_cons {D : List (List Int)} {n : Int} {l ns : List Int} (h : Rep D (n :: l) ns) : takeS D = (D.set 0 (spg ⟨l.headD 0, ns⟩), n, 0) ∧ Rep (D.set 0 (spg ⟨l.headD 0, ns⟩)) l ns := by
  have hp := h.pos
  have hn := chain_mem h.ch n (List.mem_cons_self ..)
  constructor
  · unfold takeS
    rw [h.read]
    show (if n = 0 then (if 4096 ≤ D.length then (D, (0 : Int), (5 : Int)) else (D ++ [zeros 256], (D.length : Int) + 1, 0)) else if (nextS D n).2 ≠ 0 then (D, 0, 8) else (D.set 0 (spg ⟨(nextS D n).1, ns⟩), n, 0)) = _
    rw [if_neg (by omega), h.next, if_neg (by simp)]
  · have hs : ∀ m, pgD (D.set 0 (spg ⟨l.headD 0, ns⟩)) m = if m = 1 then spg ⟨l.headD 0, ns⟩ else pgD D m := fun m => pgD_set (n := 1) (by omega)
    refine ⟨by rw [List.length_set]; exact h.len, by rw [List.length_set]; exact hp, by rw [hs, if_pos rfl], h.nl, h.nr, chain_ext (by rw [List.length_set]; exact Nat.le_refl _) h.ch.2.2.2 fun m hm => ?_, (List.nodup_cons.1 h.nd).2⟩
    have := chain_mem h.ch m (List.mem_cons_of_mem _ hm)
    rw [hs, if_neg (by omega)]
theorem Rep.take_nil {D : List (List Int)} {ns : List Int} (h : Rep D [] ns) (hl : D.length < 4096) : takeS D = (D ++ [zeros 256], (D.length : Int) + 1, 0) ∧ Rep (D ++ [zeros 256]) [] ns := by
  have hp := h.pos
  constructor
  · unfold takeS
    rw [h.read]
    show (if (0 : Int) = 0 then _ else _) = _
    rw [if_pos rfl, if_neg (by omega)]
  · exact ⟨by rw [List.length_append]; simp; omega, by rw [List.length_append]; simp, by rw [pgD_app (by omega)]; exact h.first, h.nl, h.nr, trivial, List.nodup_nil⟩
theorem Rep.full {D : List (List Int)} {ns : List Int} (h : Rep D [] ns) (hl : ¬ D.length < 4096) : takeS D = (D, 0, 5) := by
  unfold takeS
  rw [h.read]
  show (if (0 : Int) = 0 then _ else _) = _
  rw [if_pos rfl, if_pos (by omega)]
theorem Rep.give {D : List (List Int)} {fr ns : List Int} (h : Rep D fr ns) {n : Int} (h2 : 2 ≤ n) (hn : n ≤ D.length) (hf : n ∉ fr) :
    giveS D n = ((D.set (n.toNat - 1) (fpg (fr.headD 0))).set 0 (spg ⟨n, ns⟩), 0) ∧ Rep ((D.set (n.toNat - 1) (fpg (fr.headD 0))).set 0 (spg ⟨n, ns⟩)) (n :: fr) ns := by
  have hp := h.pos
  constructor
  · unfold giveS
    rw [h.read]
    show (if n < 2 ∨ (D.length : Int) < n then _ else _) = _
    rw [if_neg (by omega)]
  · have hs : ∀ m, pgD ((D.set (n.toNat - 1) (fpg (fr.headD 0))).set 0 (spg ⟨n, ns⟩)) m = if m = 1 then spg ⟨n, ns⟩ else if m = n then fpg (fr.headD 0) else pgD D m := fun m => by
      rw [show (0 : Nat) = (1 : Int).toNat - 1 from rfl, pgD_set (n := 1) (by rw [List.length_set]; omega), pgD_set (n := n) (by omega)]
    refine ⟨by rw [List.length_set, List.length_set]; exact h.len, by rw [List.length_set, List.length_set]; exact hp, by rw [hs, if_pos rfl]; rfl, h.nl, h.nr, ⟨h2, by rw [List.length_set, List.length_set]; exact hn, by rw [hs, if_neg (by omega), if_pos rfl], ?_⟩, List.nodup_cons.2 ⟨hf, h.nd⟩⟩
    refine chain_ext (by rw [List.length_set, List.length_set]; exact Nat.le_refl _) h.ch fun m hm => ?_
    have := chain_mem h.ch m hm
    rw [hs, if_neg (by omega), if_neg (fun e => hf (by rw [← e]; exact hm))]
theorem rep_new : Rep [spg ⟨0, List.replicate 8 0⟩] [] (List.replicate 8 0) :=
  ⟨by decide, by decide, pgD_one, rfl, fun n hn => by rw [List.eq_of_mem_replicate hn]; decide, trivial, List.nodup_nil⟩
end Go.Proofs.YtoeldmkbmnkhkaaGreat
/- A slice of the call's own, its block; no condition. -/
namespace Go.Proofs.YtoeldmkbmnkhkaaGreat
open Go.RowKit

section
variable {w w' : World} {base base' n n' cap size size' : Nat} {e e' : TypeId} {A : Option Addr} {v v' : Value} {xs xs' : List Value} {S : Nat → Prop}
theorem own_keepB (h : w.ownsRow base e size v n xs) (k : Kp S w w') (hS : ∀ g, v.ownBlock = some g → ¬ S g) : w'.ownsRow base e size v n xs := by
  refine ⟨h.1, ?_⟩
  rcases h.2 with hn | ⟨g, cap, cur, rfl, hb, hg, rest⟩
  · exact .inl hn
  · exact .inr ⟨g, cap, cur, rfl, hb, k.lift hg (hS g rfl), rest⟩
theorem own_blk1 (h : w.ownsRow base e 1 (.slice A n cap) n xs) (hn : 0 < n) : ∃ g ds, A = some ⟨g, 0, none⟩ ∧ base ≤ g ∧ Blk w g e (xs ++ ds).toArray := by
  rcases h.2 with ⟨h0, _⟩ | ⟨g, cap', cur, hv, hb, hh, h1, h2, h3, h4⟩
  · cases h0; omega
  · simp only [Value.slice.injEq] at hv
    refine ⟨g, cur.toList.drop n, hv.1, hb, ?_⟩
    unfold Blk
    rw [hh]
    congr 2
    rw [Nat.mul_one] at h4
    rw [← h4, List.take_append_drop]
theorem own_blkN (h : w.ownsRow base e size (.slice A n cap) n xs) (hn : 0 < n) : ∃ g ds, A = some ⟨g, 0, none⟩ ∧ base ≤ g ∧ Blk w g e (xs ++ ds).toArray := by
  rcases h.2 with ⟨h0, _⟩ | ⟨g, cap', cur, hv, hb, hh, h1, h2, h3, h4⟩
  · cases h0; omega
  · simp only [Value.slice.injEq] at hv
    refine ⟨g, cur.toList.drop (n * size), hv.1, hb, ?_⟩
    unfold Blk
    rw [hh]
    congr 2
    rw [← h4, List.take_append_drop]
theorem own_form (h : w.ownsRow base e size (.slice A n cap) n xs) : (A = none ∧ n = 0 ∧ cap = 0) ∨ ∃ g, A = some ⟨g, 0, none⟩ := by
  rcases h.2 with ⟨h0, hn⟩ | ⟨g, cap', cur, hv, _⟩
  · injection h0 with h1 h2 h3
    exact .inl ⟨h1, hn, h3⟩
  · injection hv with h1
    exact .inr ⟨g, h1⟩
theorem own_cap (h : w.ownsRow base e size (.slice A n cap) n xs) : n ≤ cap := by
  rcases h.2 with ⟨h0, hn⟩ | ⟨g, cap', cur, hv, _, _, h1, _⟩
  · omega
  · simp only [Value.slice.injEq] at hv
    omega
end
end Go.Proofs.YtoeldmkbmnkhkaaGreat
/- Appending to a slice of the call's own: its block behind it is the old one or a new one; no condition. -/
namespace Go.Proofs.YtoeldmkbmnkhkaaGreat
open Go.RowKit

section
variable {P : Program}
theorem append_block (w : World) (base : Nat) (t ty e : TypeId) (i : TypeInfo) (z : Value) (size bytes : Nat) (ht : P.underlying t = some (.slice e)) (hi : P.info? e = some i) (hz : i.zero = some z)
    (hsize : i.size = size) (hby : i.bytes = bytes) (hsz : 0 < size) (v : Value) (n : Nat) (xs : List Value) (hown : w.ownsRow base e size v n xs)
    (a : Addr) (m c : Nat) (news : List Value) (hl : news.length = m * size) (hnews : ∀ j u, news[j]? = some u → w.cell? (a.add j) = some u) (h1 : ∀ u ∈ news, u.oneCell' = true)
    (h63 : n + m ≤ maxLen) (hbytes : (n + m) * bytes ≤ 140737488355328) {v' : Value} {w' : World} (hr : (Builtin.append_ #[t, t] ty #[v, .slice (some a) m c]).run P w = .ok v' w') :
    ∀ b, v'.ownBlock = some b → v.ownBlock = some b ∨ w.heap.size ≤ b := by
  intro b hb
  subst hsize hby
  unfold maxLen at h63
  rcases hown.2 with ⟨rfl, rfl⟩ | ⟨g, cap, cur, rfl, hbg, hg, hnc, hcm, hcs, htake⟩
  · have hx : xs = [] := List.eq_nil_of_length_eq_zero (by simpa using hown.1)
    subst hx
    by_cases hm : m = 0
    · subst hm
      have hn : news = [] := List.eq_nil_of_length_eq_zero (by simpa using hl)
      subst hn
      simp [Builtin.append_, run_underlying ht, sizeOf, typeInfo, hi, Builtin.lenOf, Builtin.firstCells, loadCells, loadCellsFrom] at hr
      rw [← hr.1] at hb
      cases hb
    · have hq := run_append_nil (P := P) w t ty e i z ht hi hz a m c news hl hnews (by omega) (by omega) (by have hb := hbytes; simp only [Nat.zero_add] at hb; omega)
      rw [hq] at hr
      injection hr with hv _
      rw [← hv] at hb
      simp only [Value.ownBlock, Option.some.injEq] at hb
      exact .inr (by omega)
  · by_cases hroom : n + m ≤ cap
    · have hfit : n * i.size + news.length ≤ cur.size := by rw [hl, hcs, ← Nat.add_mul]; exact Nat.mul_le_mul_right _ hroom
      have hq := run_append_room (P := P) w t ty e i ht hi g n cap cur hg a m c news hl hnews h1 hroom hfit
      rw [hq] at hr
      injection hr with hv _
      rw [← hv] at hb
      exact .inl hb
    · have hq := run_append_grow (P := P) w t ty e i z ht hi hz ⟨g, 0, none⟩ n cap xs hown.1 (hown.cells (g := g) rfl) a m c news hl hnews (by omega) (by omega) (growslice_fits (by omega) hbytes)
      rw [hq] at hr
      injection hr with hv _
      rw [← hv] at hb
      simp only [Value.ownBlock, Option.some.injEq] at hb
      exact .inr (by omega)
theorem wp_append_ownB {w : World} {o : Oper} {a : Act} {K : Act → World → Prop} {Q : Exit → Act → World → Prop} (s x : Operand) (t : TypeId)
    (ho : o.op = .call { callee := .builtin .append, args := #[s, x], argTypes := #[t, t] })
    (base : Nat) (e : TypeId) (i : TypeInfo) (z : Value) (size bytes : Nat) (ht : P.underlying t = some (.slice e)) (hi : P.info? e = some i) (hz : i.zero = some z)
    (hsize : i.size = size) (hby : i.bytes = bytes) (hzs : z.cells.size = size) (hsz : 0 < size)
    (v : Value) (n : Nat) (xs : List Value) (hs : a.eval s = v) (hown : w.ownsRow base e size v n xs)
    (ad : Addr) (m c : Nat) (news : List Value) (hx : a.eval x = .slice (some ad) m c) (hl : news.length = m * size) (hnews : ∀ j u, news[j]? = some u → w.cell? (ad.add j) = some u) (h1 : ∀ u ∈ news, u.oneCell' = true)
    (h63 : n + m ≤ maxLen) (hbytes : (n + m) * bytes ≤ 140737488355328) (hbase : base ≤ w.heap.size)
    (h : ∀ v' w', w'.ownsRow base e size v' (n + m) (xs ++ news) → w.grownBy w' v.ownBlock → (∀ b, v'.ownBlock = some b → v.ownBlock = some b ∨ w.heap.size ≤ b) → K (a.put o.dst v') w') : o.wp P a w K Q := by
  obtain ⟨v', w', hr, h2, h3, h4⟩ := run_append_own (P := P) w base t o.type e i z size bytes ht hi hz hsize hby hzs hsz v n xs hown ad m c news hl hnews h1 h63 hbytes hbase
  have hb := append_block w base t o.type e i z size bytes ht hi hz hsize hby hsz v n xs hown ad m c news hl hnews h1 h63 hbytes hr
  unfold Oper.wp execOp
  simp only [ho, resolve, invoke, builtin, Sem.run_bind, Sem.run_pure, Result.andThen_ok, List.map_toArray, List.map_cons, List.map_nil, hs, hx, hr]
  exact h v' w' h2 h3 hb
theorem wpList_append_ownB {w : World} {ops : Array Oper} {rest : List Oper} {o : Oper} {a : Act} {Q : Exit → Act → World → Prop} (hgd : o.guard = none) (s x : Operand) (t : TypeId)
    (ho : o.op = .call { callee := .builtin .append, args := #[s, x], argTypes := #[t, t] })
    (base : Nat) (e : TypeId) (i : TypeInfo) (z : Value) (size bytes : Nat) (ht : P.underlying t = some (.slice e)) (hi : P.info? e = some i) (hz : i.zero = some z)
    (hsize : i.size = size) (hby : i.bytes = bytes) (hzs : z.cells.size = size) (hsz : 0 < size)
    (v : Value) (n : Nat) (xs : List Value) (hs : a.eval s = v) (hown : w.ownsRow base e size v n xs)
    (ad : Addr) (m c : Nat) (news : List Value) (hx : a.eval x = .slice (some ad) m c) (hl : news.length = m * size) (hnews : ∀ j u, news[j]? = some u → w.cell? (ad.add j) = some u) (h1 : ∀ u ∈ news, u.oneCell' = true)
    (h63 : n + m ≤ maxLen) (hbytes : (n + m) * bytes ≤ 140737488355328) (hbase : base ≤ w.heap.size)
    (h : ∀ v' w', w'.ownsRow base e size v' (n + m) (xs ++ news) → w.grownBy w' v.ownBlock → (∀ b, v'.ownBlock = some b → v.ownBlock = some b ∨ w.heap.size ≤ b) → wpList P ops Q rest (a.put o.dst v') w') : wpList P ops Q (o :: rest) a w :=
  wpList_plain hgd fun _ hK => wp_append_ownB s x t ho base e i z size bytes ht hi hz hsize hby hzs hsz v n xs hs hown ad m c news hx hl hnews h1 h63 hbytes hbase fun v' w' h2 h3 h4 => hK _ _ (h v' w' h2 h3 h4)
end
end Go.Proofs.YtoeldmkbmnkhkaaGreat
/- What the first page says, in memory; a number's text; no condition. -/
namespace Go.Proofs.YtoeldmkbmnkhkaaGreat
open Go.RowKit

def sfC (f : Sf) : Array Value := (.int .i64 f.free :: f.ns.map (Value.int .u32)).toArray
theorem sfC_size {f : Sf} (h : f.ns.length = 8) : (sfC f).size = 9 := by simp [sfC, h]
theorem sfC_one (f : Sf) : ones (sfC f) := by simp [ones, sfC, Value.oneCell', List.all_map]
def ns0 : List Int := List.replicate 8 0
def sf0 : Sf := ⟨0, ns0⟩
theorem infoSf : (Tryz.prog.info? 114).map (·.size) = some 9 := by kernel_rfl
theorem zeroSf (w : World) : (zeroValue 114).run Tryz.prog w = .ok (.agg (sfC sf0)) w := by kernel_rfl
theorem loadSf (w : World) (ev : Operand → Value) (ds : Option Tmp) (x : Operand) (ty : TypeId) (ps : String) (af : Array Edge) (g : Option (Nat × Bool)) (h : thereP w (ev x) 9) :
    (execOp ev ⟨ds, .load 114 x, ty, ps, af, g⟩).run Tryz.prog w = .ok (.value (.agg (readP w (ev x) 9))) w := execLoad_P Tryz.underlying114 rfl infoSf w ev ds x ty ps af g h
theorem storeSf (w : World) (ev : Operand → Value) (ds : Option Tmp) (x y : Operand) (ty : TypeId) (ps : String) (af : Array Edge) (g : Option (Nat × Bool)) (hv : aggOK (ev y) 9) (h : thereP w (ev x) 9) :
    (execOp ev ⟨ds, .store 114 x y, ty, ps, af, g⟩).run Tryz.prog w = .ok .skip (setP w (ev x) (ev y)) := execStore_P infoSf w ev ds x y ty ps af g hv h
theorem allocSf (w : World) (ev : Operand → Value) (ds : Option Tmp) (ty : TypeId) (ps : String) (af : Array Edge) (g : Option (Nat × Bool)) :
    (execOp ev ⟨ds, .alloc 114, ty, ps, af, g⟩).run Tryz.prog w = .ok (.value (.pointer (some ⟨w.heap.size, 0, none⟩))) (w.alloc (.cells (sfC sf0) 114)) := by
  simp only [execOp, Instr.alloc, Sem.run_bind, zeroSf, Result.andThen_ok]
  rfl
theorem buildSf0 (w : World) (ev : Operand → Value) (ds : Option Tmp) (ty : TypeId) (ps : String) (af : Array Edge) (g : Option (Nat × Bool)) :
    (execOp ev ⟨ds, .build 114 #[], ty, ps, af, g⟩).run Tryz.prog w = .ok (.value (.agg (sfC sf0))) w := by
  kernel_rfl
theorem buildSf1 (w : World) (n : Int) : (Instr.build 114 #[(0, .int .i64 n)]).run Tryz.prog w = .ok (.agg (sfC ⟨n, ns0⟩)) w :=
  run_build w 114 _ _ (show Tryz.prog.built 114 [(0, .int .i64 n)] = some (sfC ⟨n, ns0⟩) from by kernel_rfl)
def isI64 : Value → Prop
  | .int .i64 _ => True
  | _ => False
def sfB : Value → Array Value
  | .int .i64 n => sfC ⟨n, ns0⟩
  | _ => #[]
@[go_sem] theorem isI64_mk (n : Int) : isI64 (.int .i64 n) = True := rfl
@[go_sem] theorem sfB_mk (n : Int) : sfB (.int .i64 n) = sfC ⟨n, ns0⟩ := rfl
theorem buildSfE (w : World) (ev : Operand → Value) (x : Operand) (ds : Option Tmp) (ty : TypeId) (ps : String) (af : Array Edge) (g : Option (Nat × Bool)) (h : isI64 (ev x)) :
    (execOp ev ⟨ds, .build 114 #[(0, x)], ty, ps, af, g⟩).run Tryz.prog w = .ok (.value (.agg (sfB (ev x)))) w := by
  generalize hx : ev x = v at h
  unfold isI64 at h
  split at h
  · simp only [execOp, List.map_toArray, List.map_cons, List.map_nil, hx, Sem.run_bind, buildSf1, Result.andThen_ok, sfB_mk]
    rfl
  · exact h.elim
theorem infoNs : (Tryz.prog.info? 68).map (·.size) = some 8 := by kernel_rfl
theorem loadNs (w : World) (ev : Operand → Value) (ds : Option Tmp) (x : Operand) (ty : TypeId) (ps : String) (af : Array Edge) (g : Option (Nat × Bool)) (h : thereP w (ev x) 8) :
    (execOp ev ⟨ds, .load 68 x, ty, ps, af, g⟩).run Tryz.prog w = .ok (.value (.agg (readP w (ev x) 8))) w := execLoad_P Tryz.underlying68 rfl infoNs w ev ds x ty ps af g h
theorem Blk.ns {w : World} {g : Nat} {t : TypeId} {f : Sf} (h : Blk w g t (sfC f)) (hl : f.ns.length = 8) : w.there g 1 8 ∧ readRow w g 1 8 = (f.ns.map (Value.int .u32)).toArray := by
  refine ⟨Blk.there h (by rw [sfC_size hl]; omega), ?_⟩
  exact Blk.read (xa := [.int .i64 f.free]) (xb := f.ns.map (Value.int .u32)) (xd := []) (by unfold sfC at h; simpa using h) 1 8 rfl (by simp [hl])
theorem index_ns {ns : List Int} (hl : ns.length = 8) (k : Nat) (hk : k < 8) (w : World) : (Instr.index 68 (.agg (ns.map (Value.int .u32)).toArray) (.int .i64 k)).run Tryz.prog w = .ok (.int .u32 (ns.getD k 0)) w := by
  obtain ⟨i, hi, hi1⟩ := Option.map_eq_some_iff.1 (show (Tryz.prog.info? 67).map (·.size) = some 1 from by kernel_rfl)
  exact run_index_arr w 68 67 8 _ i Tryz.underlying68 Tryz.underlying67 rfl hi hi1 _ k hk _ (by simp [hl, hk])
attribute [local go_sem ↓] conv64
set_option maxRecDepth 100000 in
/-- a number's text -/
theorem text_ok (w : World) (n : Int) (h0 : 0 ≤ n) (h1 : n < 4294967296) : Calls Tryz.prog 104 #[.int .u32 n] w fun e w' => e = .returned (.string (txt n)) ∧ Kp NoB w w' := by
  have e0 : n / 16777216 = n / 16777216 % 256 := by omega
  have HE := Lib.hid e0
  clear e0
  have hb : Blk (w.alloc (.cells #[Value.int IntKind.u8 (n / 16777216), Value.int IntKind.u8 (n / 65536 % 256), Value.int IntKind.u8 (n / 256 % 256), Value.int IntKind.u8 (n % 256)] 5)) w.heap.size 5 (bytesV (be4 n)) := by
    have := Blk.new w 5 (bytesV (be4 n))
    unfold be4 bytesV at this ⊢
    rw [← HE.out] at this ⊢
    exact this
  have b1 : byAt (w.alloc (.cells #[Value.int IntKind.u8 (n / 16777216), Value.int IntKind.u8 (n / 65536 % 256), Value.int IntKind.u8 (n / 256 % 256), Value.int IntKind.u8 (n % 256)] 5)) w.heap.size 0 4 := hb.byAt 0 4 (by unfold be4; simp)
  have b2 : Hid (byRd (w.alloc (.cells #[Value.int IntKind.u8 (n / 16777216), Value.int IntKind.u8 (n / 65536 % 256), Value.int IntKind.u8 (n / 256 % 256), Value.int IntKind.u8 (n % 256)] 5)) w.heap.size 0 4 = be4 n) := Lib.hid (by rw [hb.byRd 0 4 (by unfold be4; simp)]; rfl)
  clear hb
  go_enter Tryz.func104, Tryz.ntmps104
  go_wp2_with fail
  go_ret
  exact ⟨by rw [b2.out]; rfl, (Kp.refl _ _).alloc _⟩
end Go.Proofs.YtoeldmkbmnkhkaaGreat
/- The first page out of what it says; condition: numbers that may be. -/
namespace Go.Proofs.YtoeldmkbmnkhkaaGreat
open Go.RowKit

theorem infoStrP : (Tryz.prog.info? 9).map (fun i => (i.zero, i.size, i.bytes)) = some (some (.string ⟨#[]⟩), 1, 16) := by kernel_rfl
theorem newR_fits {k link : Int} {xs : List ByteArray} (hk : k ≤ 5) (h : ∀ c ∈ xs, 1 ≤ c.size ∧ c.size ≤ 60) (hr : 0 ≤ roomI xs) : newR k link xs = (bytesV (layI k link xs), 0) := by
  have h1 : hole xs = false := by
    unfold hole
    rw [List.any_eq_false]
    intro c hc
    have := h c hc
    simp
    intro e
    have h0 : c.size = 0 := by rw [e]; rfl
    omega
  have h2 : worstK xs xs.length = 0 := by
    unfold worstK
    rw [if_neg]
    rw [Bool.not_eq_true, List.any_eq_false]
    intro c hc
    have := h c (List.mem_of_mem_take hc)
    simp
    omega
  unfold newR
  rw [if_neg (by rw [h1]; simp; omega), h2, if_neg (by decide)]
  unfold toldR
  rw [if_neg (by omega)]
theorem new_spg {f : Sf} (h : SfOk f) : newR 0 f.free (spCells f) = (bytesV (spg f), 0) := newR_fits (by decide) (spCells_ok f) (by rw [spCells_room h.len]; decide)
theorem new_fpg (l : Int) : newR 0 l [] = (bytesV (fpg l), 0) := newR_fits (by decide) (by simp) (by decide)
theorem oz256P : ones zero256 := by rw [zero256_eq]; exact bytesV_one _
set_option maxRecDepth 100000 in
theorem sz256P : zero256.size = 256 := by rw [zero256_eq, bytesV_size]; rfl
/-- the cells so far -/
structure SpR (w1 : World) (f : Sf) (v : Value) (k : Nat) (wr : World) : Prop where
  kp : Kp NoB w1 wr
  own : ∃ A cap, v = .slice A (k + 1) cap ∧ wr.ownsRow w1.heap.size 9 1 (.slice A (k + 1) cap) (k + 1) (((spCells f).take (k + 1)).map Value.string)
set_option maxRecDepth 100000 in
set_option maxHeartbeats 1600000 in
attribute [local go_sem ↓] load26 store26 alloc26 build26 loadNs in
theorem page_ok (w : World) (f : Sf) (h : SfOk f) : Calls Tryz.prog 65 #[.agg (sfC f)] w fun e w' => e = .returned (.agg (bytesV (spg f))) ∧ Kp NoB w w' := by
  have HF := Lib.hid h
  have h0 := h.fr.1
  have h1 := h.fr.2
  have hl := h.len
  have HNEW := Lib.hid (new_spg h)
  clear h
  obtain ⟨j0, hj0, hy0, hy1, hy2⟩ := info_parts infoStrP
  have HJ0 := Lib.hid hj0
  have HY0 := Lib.hid hy0
  have HY1 := Lib.hid hy1
  have HY2 := Lib.hid hy2
  clear hj0 hy0 hy1 hy2
  have hb1 : Blk ((w.alloc (.cells (sfC f) 114)).alloc (.cells zero256 86)) w.heap.size 114 (sfC f) := (Blk.new _ _ _).alloc _
  have hb2 : Blk ((w.alloc (.cells (sfC f) 114)).alloc (.cells zero256 86)) (w.heap.size + 1) 86 zero256 := Blk.newAt _ _ _ _ (by simp)
  have hk1 : Kp NoB w ((w.alloc (.cells (sfC f) 114)).alloc (.cells zero256 86)) := ((Kp.refl _ _).alloc _).alloc _
  have hsz1 : ((w.alloc (.cells (sfC f) 114)).alloc (.cells zero256 86)).heap.size = w.heap.size + 2 := by simp
  go_enter Tryz.func65, Tryz.ntmps65
  go_upto_region 1 with fail
  generalize ((w.alloc (.cells (sfC f) 114)).alloc (.cells zero256 86)) = w1 at hb1 hb2 hk1 hsz1 ⊢
  have HK1 := Lib.hid hk1
  have HB1 := Lib.hid hb1
  have HB2 := Lib.hid hb2
  have HS1 := Lib.hid hsz1
  clear hk1 hb2 hsz1
  have HL := Lib.hid hl
  have HOW0 := Lib.hid (World.ownsRow_lit (size := 1) (base := w1.heap.size) (e := 9) w1 #[.string nmB] 1 (Nat.le_refl _) (by unfold maxLen; omega) rfl)
  obtain ⟨t1, r1⟩ := (hb1.alloc (.cells #[.string ⟨#[98, 117, 114, 101, 97, 117, 32, 49]⟩] 9)).ns hl
  have on8 : ones (f.ns.map (Value.int .u32)).toArray := by simp [ones, Value.oneCell', List.all_map]
  clear hb1 hl
  go_wp2_with fail
  clear t1 on8
  go_loopw [3, 11] (fun v3 v11 wr => ∃ k : Nat, k ≤ 8 ∧ v11 = .int .i64 k ∧ SpR w1 f v3 k wr) (fun _ v11 _ => 8 - (intOf v11).toNat)
  case atStart => exact ⟨0, by omega, rfl, (Kp.refl _ _).alloc _, _, _, rfl, HOW0.out⟩
  case round =>
    obtain ⟨k, hk, rfl, hkp, A, cap, rfl, hown⟩ := hrel
    have HKP := Lib.hid hkp
    have HOWN := Lib.hid hown
    clear hkp hown
    by_cases hlt : k < 8
    · have hlt' : (k : Int) < 8 := by omega
      have hix := index_ns HL.out k hlt
      have hn0 : 0 ≤ f.ns.getD k 0 ∧ f.ns.getD k 0 < 4294967296 := by
        have h2 : k < f.ns.length := by rw [HL.out]; exact hlt
        rw [List.getD_eq_getElem?_getD, List.getElem?_eq_getElem h2]
        exact HF.out.ns _ (List.getElem_mem h2)
      have HT : Hid (((spCells f).take (k + 1)) ++ [txt (f.ns.getD k 0)] = (spCells f).take (k + 1 + 1)) := Lib.hid (by
        have h2 : k < f.ns.length := by rw [HL.out]; exact hlt
        unfold spCells
        rw [List.take_succ_cons, List.take_succ_cons, List.cons_append]
        congr 1
        rw [List.take_add_one, List.getElem?_map, List.getElem?_eq_getElem h2, List.getD_eq_getElem?_getD, List.getElem?_eq_getElem h2]
        rfl)
      generalize f.ns.getD k 0 = n at hix hn0 HT
      have HN := Lib.hid hn0
      clear hn0
      go_wp2_with (first
        | (go_at_call 104; refine (text_ok _ n HN.out.1 HN.out.2).mono ?_; rintro e w3 ⟨rfl, hk3⟩; have HK3 := Lib.hid hk3; clear hk3)
        | (at_builtin; refine wpList_append_ownB rfl _ _ 99 rfl w1.heap.size 9 j0 _ 1 16 Tryz.underlying99 HJ0.out HY0.out HY1.out HY2.out rfl (by omega) _ (k + 1) _ rfl ((own_keepB HOWN.out HK3.out (fun _ _ q => q)).alloc _) ⟨w3.heap.size, 0, none⟩ 1 1 [.string (txt n)] rfl rfl (cell_one_new _ _ _) (by simp [Value.oneCell']) (by unfold maxLen; omega) (by omega) (by have := HKP.out.size; have := HK3.out.size; simp; omega) ?_; intro v6 w6 hown6 hgr6 hb6; have HO6 := Lib.hid hown6; have HG6 := Lib.hid hgr6; clear hown6 hgr6 hb6))
      obtain ⟨A6, c6, rfl⟩ := own_slice HO6.out
      refine ⟨⟨k + 1, by omega, by push_cast; rfl, ⟨(((HKP.out.trans HK3.out (fun _ _ q => q)).alloc _).grown HG6.out (fun j hj => .inl (own_ge (own_keepB HOWN.out HK3.out (fun _ _ q => q)) j hj))), A6, c6, rfl, ?_⟩⟩, by simp [intOf]; omega⟩
      rw [← HT.out, List.map_append]
      exact HO6.out
    · obtain rfl : k = 8 := by omega
      have HT : Hid ((spCells f).take (8 + 1) = spCells f) := Lib.hid (List.take_of_length_le (by rw [spCells_len HL.out]; omega))
      have hsl : Sl wr A 9 (spCells f) := own_Sl (by rw [← HT.out]; exact HOWN.out) (spCells_len HL.out)
      have HC := Lib.hid (pgnew_ok wr 0 f.free A 9 cap (spCells f) (by omega) (fun c hc => by have := spCells_ok f c hc; omega) hsl)
      have c0 : wr.cell? ⟨w.heap.size, 0, none⟩ = some (.int .i64 f.free) := (HB1.out.keep HKP.out (fun q => q)).cell 0
      clear hsl hk hlt
      go_wp2_with fail
      refine HC.out.mono ?_
      rintro e w4 ⟨rfl, hk4⟩
      rw [HNEW.out]
      have hk14 := HKP.out.trans hk4 (fun _ _ q => q)
      have HK := Lib.hid (HK1.out.trans hk14 (fun _ _ q => q))
      have hb2 := HB2.out.keep hk14 (fun q => q)
      have hlen := (spg_bytes HL.out).len
      obtain ⟨pg, hpg⟩ : ∃ pg, spg f = pg := ⟨_, rfl⟩
      rw [hpg] at hlen ⊢
      have HPG := Lib.hid hpg
      clear hpg
      have op : ones (bytesV pg) := bytesV_one _
      have sp : (bytesV pg).size = 256 := by rw [bytesV_size]; exact hlen
      have oz := oz256P
      have sz := sz256P
      have HSZ := Lib.hid sz
      have HSP := Lib.hid sp
      have hb3 := Blk.new w4 86 zero256
      have hb4 := hb3.whole (bytesV pg) (by rw [sp, sz])
      have hb5 := (hb2.alloc (.cells zero256 86)).farCells (g' := w4.heap.size) (by have := hb2.lt; omega) (bytesV pg).toList 0
      have t3 : (w4.alloc (.cells zero256 86)).there w4.heap.size 0 256 := hb3.thereAll 256 sz
      have t4 : ((w4.alloc (.cells zero256 86)).setCells w4.heap.size 0 (bytesV pg).toList).there w4.heap.size 0 256 := hb4.thereAll 256 sp
      have r4 : readRow ((w4.alloc (.cells zero256 86)).setCells w4.heap.size 0 (bytesV pg).toList) w4.heap.size 0 256 = bytesV pg := hb4.readAll 256 sp
      have t5 : ((w4.alloc (.cells zero256 86)).setCells w4.heap.size 0 (bytesV pg).toList).there (w.heap.size + 1) 0 256 := hb5.thereAll 256 sz
      have HK3 := Lib.hid (Kp.setCells (S := NoB) (.inl HK.out.size) (bytesV pg).toList 0 _ (HK.out.alloc (.cells zero256 86)))
      have HB5 := Lib.hid hb5
      clear hk4 hk14 hb2 hb3 hb4 hb5 hlen c0
      go_wp2_with fail
      refine bodyPost_ret (ret_cell1 rfl _ _ _ _ _ _ rfl (HB5.out.whole (bytesV pg) (by rw [HSP.out, HSZ.out])) Tryz.underlying86 rfl (by rw [HSP.out]; exact info26)) rfl ⟨by rw [HPG.out], ?_⟩
      exact Kp.setCells (.inl (by omega)) _ _ _ HK3.out
end Go.Proofs.YtoeldmkbmnkhkaaGreat
