/- What 256 bytes say as a page, and that the program's read answers just that; no condition. -/
import Derived.Test.YtnleoeogcinadaaPgRefNew
namespace Go.Proofs.Ytnleoeogcinadaa
open Go.RowKit
attribute [local go_sem ↓] load26 store26 alloc26 build26 slice26lo slice26lohi conv64

theorem info62 : (Try.prog.info? 62).map (·.size) = some 3 := by kernel_rfl
theorem load62 (w : World) (ev : Operand → Value) (ds : Option Tmp) (x : Operand) (ty : TypeId) (ps : String) (af : Array Edge) (g : Option (Nat × Bool)) (h : thereP w (ev x) 3) :
    (execOp ev ⟨ds, .load 62 x, ty, ps, af, g⟩).run Try.prog w = .ok (.value (.agg (readP w (ev x) 3))) w := execLoad_P Try.underlying62 rfl info62 w ev ds x ty ps af g h
theorem store62 (w : World) (ev : Operand → Value) (ds : Option Tmp) (x y : Operand) (ty : TypeId) (ps : String) (af : Array Edge) (g : Option (Nat × Bool)) (hv : aggOK (ev y) 3) (h : thereP w (ev x) 3) :
    (execOp ev ⟨ds, .store 62 x y, ty, ps, af, g⟩).run Try.prog w = .ok .skip (setP w (ev x) (ev y)) := execStore_P info62 w ev ds x y ty ps af g hv h

def subL (l : List Int) (o n : Nat) : List Int := (l.drop o).take n
def at_ (l : List Int) (i : Nat) : Int := l[i]?.getD 0
/-- the cells of the lengths, from a place on, and where they end -/
def rdCells (l : List Int) : Nat → List Int → Option (List ByteArray × Nat)
  | a, [] => some ([], a)
  | a, n :: r => if n < 1 ∨ 60 < n ∨ 256 < a + n then none else (rdCells l (a + n.toNat) r).map fun q => (strOf (subL l a n.toNat) :: q.1, q.2)
def beL (l : List Int) (k : Nat) : Int := (List.range k).foldl (fun a i => a * 256 + at_ l (2 + i)) 0
def readF (l : List Int) : Option (Int × Int × List ByteArray) :=
  if 5 < at_ l 0 ∨ 256 < 6 + at_ l 1 then none else
  match rdCells l (6 + (at_ l 1).toNat) (subL l 6 (at_ l 1).toNat) with
  | none => none
  | some q => if (l.drop q.2).all (fun x => decide (x = 0)) = true then some (at_ l 0, beL l 4, q.1) else none
/-- 256 bytes -/
structure Bytes (l : List Int) : Prop where
  len : l.length = 256
  rng : ∀ i, 0 ≤ at_ l i ∧ at_ l i < 256

theorem beL_succ (l : List Int) (k : Nat) : beL l (k + 1) = beL l k * 256 + at_ l (2 + k) := by
  unfold beL
  rw [List.range_succ, List.foldl_append]
  rfl
theorem beL_bd (l : List Int) (h : ∀ i, 0 ≤ at_ l i ∧ at_ l i < 256) (k : Nat) : 0 ≤ beL l k ∧ beL l k < 256 ^ k := by
  induction k with
  | zero => simp [beL]
  | succ k ih =>
    rw [beL_succ]
    have := h (2 + k)
    rw [Int.pow_succ]
    omega
theorem or_byte (a x : Int) (h0 : 0 ≤ a) (h1 : a < 16777216) (h2 : 0 ≤ x) (h3 : x < 256) : bits BinOp.or IntKind.u32 (a * 256) x = a * 256 + x := by
  obtain ⟨m, rfl⟩ := Int.eq_ofNat_of_zero_le h0
  obtain ⟨n, rfl⟩ := Int.eq_ofNat_of_zero_le h2
  have e : bits BinOp.or IntKind.u32 ((m : Int) * 256) n = IntKind.u32.wrap ((BitVec.ofInt 32 ((m : Int) * 256) ||| BitVec.ofInt 32 n).toNat) := rfl
  have hm : m < 16777216 := by omega
  have hn : n < 256 := by omega
  have e1 : BitVec.ofInt 32 ((m : Int) * 256) = BitVec.ofNat 32 (m * 256) := by
    rw [show ((m : Int) * 256) = ((m * 256 : Nat) : Int) by omega]
    exact BitVec.ofInt_natCast _ _
  have e2 : BitVec.ofInt 32 (n : Int) = BitVec.ofNat 32 n := BitVec.ofInt_natCast _ _
  rw [e, e1, e2, BitVec.toNat_or, BitVec.toNat_ofNat, BitVec.toNat_ofNat, Nat.mod_eq_of_lt (by omega), Nat.mod_eq_of_lt (by omega)]
  have h := Nat.shiftLeft_add_eq_or_of_lt (i := 8) (b := n) (by omega) m
  rw [Nat.shiftLeft_eq] at h
  have h' : m * 256 ||| n = m * 256 + n := h.symm
  rw [h', IntKind.wrap_u32]
  omega
attribute [local go_sem ↓] load62 store62
theorem infoStr : (Try.prog.info? 9).map (fun i => (i.zero, i.size, i.bytes)) = some (some (.string ByteArray.empty), 1, 16) := by kernel_rfl
theorem rdCells_bad (l : List Int) (a n : Nat) (r : List Int) (h : (n : Int) < 1 ∨ 60 < (n : Int) ∨ 256 < (a : Int) + n) : rdCells l a ((n : Int) :: r) = none := by
  unfold rdCells
  rw [if_pos h]
theorem rdCells_good (l : List Int) (a n : Nat) (r : List Int) (h : ¬ ((n : Int) < 1 ∨ 60 < (n : Int) ∨ 256 < (a : Int) + n)) : rdCells l a ((n : Int) :: r) = (rdCells l (a + n) r).map fun q => (strOf (subL l a n) :: q.1, q.2) := by
  conv => lhs; unfold rdCells
  rw [if_neg h, Int.toNat_natCast]
theorem drop_cons {L : List Int} {k : Nat} {v : Int} (h : L[k]? = some v) : L.drop k = v :: L.drop (k + 1) := by
  obtain ⟨hk, rfl⟩ := List.getElem?_eq_some_iff.1 h
  exact List.drop_eq_getElem_cons hk
theorem subL_drop (l : List Int) (hl : l.length = 256) (N k : Nat) (hk : k < N) (hN : 6 + N ≤ 256) : (subL l 6 N).drop k = at_ l (6 + k) :: (subL l 6 N).drop (k + 1) := by
  apply drop_cons
  unfold subL at_
  rw [List.getElem?_take_of_lt hk, List.getElem?_drop, List.getElem?_eq_getElem (by omega)]
  rfl
theorem dropAll_false {l : List Int} {a i : Nat} (ha : a ≤ i) (h : at_ l i ≠ 0) : (l.drop a).all (fun x => decide (x = 0)) = false := by
  have hi : i < l.length := by
    rcases Nat.lt_or_ge i l.length with q | q
    · exact q
    · exact absurd (show at_ l i = 0 by unfold at_; rw [List.getElem?_eq_none q]; rfl) h
  rw [List.all_eq_false]
  refine ⟨at_ l i, ?_, by simpa using h⟩
  rw [List.mem_drop_iff_getElem]
  refine ⟨i - a, by omega, ?_⟩
  unfold at_
  have e : a + (i - a) = i := by omega
  simp [e, List.getElem?_eq_getElem hi]
theorem dropAll_true {l : List Int} {a : Nat} (h : ∀ i, a ≤ i → i < l.length → at_ l i = 0) : (l.drop a).all (fun x => decide (x = 0)) = true := by
  rw [List.all_eq_true]
  intro x hx
  rw [List.mem_drop_iff_getElem] at hx
  obtain ⟨j, hj, rfl⟩ := hx
  have := h (a + j) (by omega) (by omega)
  unfold at_ at this
  rw [List.getElem?_eq_getElem (by omega)] at this
  simpa using this
/-- in the midst of read -/
structure RdS (w : World) (l : List Int) (kind link : Int) (v : Value) (n : Nat) (cs : List ByteArray) (W : World) : Prop where
  kp : Kp NoB w W
  b1 : Blk W w.heap.size 26 (bytesV l)
  b2 : Blk W (w.heap.size + 1) 62 #[.int .u8 0, .int .u32 0, .slice none 0 0]
  b4 : Blk W (w.heap.size + 1 + 1) 62 #[.int .u8 kind, .int .u32 link, v]
  own : W.ownsRow (w.heap.size + 1 + 1 + 1) 9 1 v n (cs.map Value.string)
  ncs : cs.length = n
theorem RdS.cell {w : World} {l : List Int} {kind link : Int} {v : Value} {n : Nat} {cs : List ByteArray} {W : World} (h : RdS w l kind link v n cs W) (hl : l.length = 256) (i : Nat) (hi : i < 256) :
    W.cell? ⟨w.heap.size, i, none⟩ = some (.int .u8 (at_ l i)) := (h.b1.cell i).trans (bytesV_get l i (by rw [hl]; exact hi))

theorem RdS.link {w : World} {l : List Int} {kind link : Int} {v : Value} {n : Nat} {cs : List ByteArray} {W : World} (h : RdS w l kind link v n cs W) (x : Int) :
    RdS w l kind x v n cs (W.setCell ⟨w.heap.size + 1 + 1, 1, none⟩ (.int .u32 x)) :=
  ⟨h.kp.setCell (p := ⟨w.heap.size + 1 + 1, 1, none⟩) (.inl (by show _ ≤ w.heap.size + 1 + 1; omega)) _, h.b1.far (p := ⟨w.heap.size + 1 + 1, 1, none⟩) (by simp; omega) _, h.b2.far (p := ⟨w.heap.size + 1 + 1, 1, none⟩) (by simp) _, h.b4.set_ 1 _,
    own_keep h.own (S := OnB (w.heap.size + 1 + 1)) (Kp.setCell (S := OnB (w.heap.size + 1 + 1)) (p := ⟨w.heap.size + 1 + 1, 1, none⟩) (Kp.refl _ _) (.inr rfl) _) (fun g hg _ q => by unfold OnB at q; omega), h.ncs⟩
theorem RdS.grown {w : World} {l : List Int} {kind link : Int} {v : Value} {n : Nat} {cs : List ByteArray} {W w1 : World} (h : RdS w l kind link v n cs W) {o : Obj} (hg : ((W.alloc o).drew).grownBy w1 v.ownBlock) {v' : Value} {s : ByteArray}
    (ho : w1.ownsRow (w.heap.size + 1 + 1 + 1) 9 1 v' (n + 1) (cs.map Value.string ++ [Value.string s])) :
    RdS w l kind link v' (n + 1) (cs ++ [s]) (w1.setCell ⟨w.heap.size + 1 + 1, 2, none⟩ v') ∧ w1.cell? ⟨w.heap.size + 1 + 1, 2, none⟩ = some v ∧ w1.frozen? ⟨w.heap.size + 1 + 1, 2, none⟩ = false := by
  have hge := own_ge h.own
  have hK : Kp (fun k => v.ownBlock = some k) W w1 := (((Kp.refl _ W).alloc o).drew).grown hg (fun k hk => .inr hk)
  have b4 := h.b4.keep hK (fun q => by have := hge _ q; omega)
  refine ⟨⟨?_, ?_, ?_, ?_, ?_, by simp [h.ncs]⟩, b4.cell 2, b4.frozen 2⟩
  · exact ((h.kp.trans hK (fun i hi q => by have := hge _ q; omega))).setCell (p := ⟨w.heap.size + 1 + 1, 2, none⟩) (.inl (by show _ ≤ w.heap.size + 1 + 1; omega)) _
  · exact (h.b1.keep hK (fun q => by have := hge _ q; omega)).far (p := ⟨w.heap.size + 1 + 1, 2, none⟩) (by simp; omega) _
  · exact (h.b2.keep hK (fun q => by have := hge _ q; omega)).far (p := ⟨w.heap.size + 1 + 1, 2, none⟩) (by simp) _
  · exact b4.set_ 2 _
  · have := own_keep ho (S := OnB (w.heap.size + 1 + 1)) (Kp.setCell (S := OnB (w.heap.size + 1 + 1)) (p := ⟨w.heap.size + 1 + 1, 2, none⟩) (Kp.refl _ _) (.inr rfl) v') (fun g hg _ q => by unfold OnB at q; omega)
    simpa using this
def ReadPost (w : World) (r : Option (Int × Int × List ByteArray)) (e : Ending) (w' : World) : Prop :=
  Kp NoB w w' ∧ ((r = none ∧ e = .returned (.tuple #[.agg #[.int .u8 0, .int .u32 0, .slice none 0 0], .bool false])) ∨
    ∃ kind link cs v, r = some (kind, link, cs) ∧ e = .returned (.tuple #[.agg #[.int .u8 kind, .int .u32 link, v], .bool true]) ∧ w'.ownsRow w.heap.size 9 1 v cs.length (cs.map Value.string))
theorem RdS.fin {w : World} {l : List Int} {kind link : Int} {v : Value} {n : Nat} {cs : List ByteArray} {W : World} (h : RdS w l kind link v n cs W) (xs : List Value) {r : Option (Int × Int × List ByteArray)} (hr : r = some (kind, link, cs)) :
    ReadPost w r (.returned (.tuple #[.agg #[.int .u8 kind, .int .u32 link, v], .bool true])) (W.setCells (w.heap.size + 1) 0 xs) := by
  refine ⟨Kp.setCells (.inl (by omega)) _ _ _ h.kp, .inr ⟨_, _, cs, v, hr, rfl, ?_⟩⟩
  have := own_keep h.own (S := OnB (w.heap.size + 1)) (Kp.setCells (S := OnB (w.heap.size + 1)) (g := w.heap.size + 1) (.inr rfl) xs 0 W (Kp.refl _ _)) (fun g hg _ q => by unfold OnB at q; omega)
  rw [h.ncs]
  exact this.mono (by omega)
theorem RdS.one {w : World} {l : List Int} {kind link : Int} {v : Value} {n : Nat} {cs : List ByteArray} {W : World} (h : RdS w l kind link v n cs W) : ones #[.int .u8 kind, .int .u32 link, v] := by
  obtain ⟨A, cap, rfl⟩ := own_slice h.own
  unfold ones
  simp [Value.oneCell']

set_option maxRecDepth 100000 in
set_option maxHeartbeats 1600000 in
theorem read_ok (w : World) (l : List Int) (hB : Bytes l) : Calls Try.prog 32 #[.agg (bytesV l)] w (ReadPost w (readF l)) := by
  have HL := Lib.hid hB.len
  have HR := Lib.hid hB.rng
  clear hB
  have hst : RdS w l (at_ l 0) 0 (.slice none 0 0) 0 [] (((w.alloc (.cells (bytesV l) 26)).alloc (.cells #[.int .u8 0, .int .u32 0, .slice none 0 0] 62)).alloc (.cells #[.int .u8 (at_ l 0), .int .u32 0, .slice none 0 0] 62)) :=
    ⟨(((Kp.refl _ _).alloc _).alloc _).alloc _, ((Blk.new _ _ _).alloc _).alloc _, (Blk.newAt _ _ _ _ (by simp)).alloc _, Blk.newAt _ _ _ _ (by simp), ⟨rfl, .inl ⟨rfl, rfl⟩⟩, rfl⟩
  have HST := Lib.hid hst
  have c0 : (((w.alloc (.cells (bytesV l) 26)).alloc (.cells #[.int .u8 0, .int .u32 0, .slice none 0 0] 62)).cell? ⟨w.heap.size, 0, none⟩) = some (.int .u8 (at_ l 0)) := by
    have := (Blk.new w 26 (bytesV l)).alloc (.cells #[.int .u8 0, .int .u32 0, .slice none 0 0] 62)
    exact (this.cell 0).trans (bytesV_get l 0 (by rw [HL.out]; omega))
  clear hst
  go_enter Try.func32, Try.ntmps32
  go_wp2
  refine forget (p := fun wx => Code.wp _ _ _ _ wx) (RdS w l (at_ l 0) (beL l 0) (.slice none 0 0) 0 []) HST.out ?_
  intro W hW
  have HW := Lib.hid hW
  clear hW c0 HST
  go_loopw [17] (fun i wr => ∃ k : Nat, k ≤ 4 ∧ i = .int .i64 k ∧ RdS w l (at_ l 0) (beL l k) (.slice none 0 0) 0 [] wr) (fun i _ => 4 - (intOf i).toNat)
  case atStart => exact ⟨0, by omega, rfl, HW.out⟩
  case round =>
    obtain ⟨k, hk, rfl, hL⟩ := hrel
    have HLk := Lib.hid hL
    have f1 : wr.cell? ⟨w.heap.size + 1 + 1, 1, none⟩ = some (.int .u32 (beL l k)) := hL.b4.cell 1
    have z1 := hL.b4.frozen 1
    clear hL
    by_cases hlt : k < 4
    · have c2 := HLk.out.cell HL.out (2 + k) (by omega)
      have r2 := HR.out (2 + k)
      obtain ⟨x, hx⟩ : ∃ x, at_ l (2 + k) = x := ⟨_, rfl⟩
      rw [hx] at c2 r2
      have HX := Lib.hid hx
      clear hx
      have hbe : 0 ≤ beL l k ∧ beL l k < 16777216 := by
        have := beL_bd l HR.out k
        rcases (show k = 0 ∨ k = 1 ∨ k = 2 ∨ k = 3 by omega) with rfl | rfl | rfl | rfl <;> simp at this <;> omega
      obtain ⟨bl, hbl⟩ : ∃ bl, beL l k = bl := ⟨_, rfl⟩
      rw [hbl] at f1 hbe
      have HBL := Lib.hid hbl
      clear hbl
      go_wp2
      exact ⟨⟨k + 1, by omega, by congr 1, by rw [or_byte bl x hbe.1 hbe.2 r2.1 r2.2, ← HX.out, ← HBL.out, ← beL_succ]; exact HLk.out.link _⟩, by simp [intOf]; omega⟩
    · obtain rfl : k = 4 := by omega
      have c1 := HLk.out.cell HL.out 1 (by omega)
      have f0 : wr.cell? ⟨w.heap.size + 1 + 1, 0, none⟩ = some (.int .u8 (at_ l 0)) := HLk.out.b4.cell 0
      have r1 := HR.out 1
      obtain ⟨N, hN⟩ := Int.eq_ofNat_of_zero_le r1.1
      rw [hN] at c1 r1
      have HNN := Lib.hid hN
      clear hN
      have o3 : ones #[.int .u8 0, .int .u32 0, .slice none 0 0] := by unfold ones; simp [Value.oneCell']
      have t2 := HLk.out.b2.thereAll 3 rfl
      by_cases hk5 : 5 < at_ l 0
      · have HF := Lib.hid (show readF l = none by unfold readF; rw [if_pos (.inl hk5)])
        go_wp2
        refine bodyPost_ret (ret_cell_tmp rfl _ _ _ _ _ _ rfl (HLk.out.b2.whole #[.int .u8 0, .int .u32 0, .slice none 0 0] rfl) Try.underlying62 rfl info62 _ rfl) rfl ?_
        exact ⟨Kp.setCells (.inl (by omega)) _ _ _ HLk.out.kp, .inl ⟨HF.out, rfl⟩⟩
      · by_cases hn256 : (256 : Int) < 6 + N
        · have HF := Lib.hid (show readF l = none by unfold readF; rw [if_pos (.inr (by rw [HNN.out]; exact hn256))])
          go_wp2
          refine bodyPost_ret (ret_cell_tmp rfl _ _ _ _ _ _ rfl (HLk.out.b2.whole #[.int .u8 0, .int .u32 0, .slice none 0 0] rfl) Try.underlying62 rfl info62 _ rfl) rfl ?_
          exact ⟨Kp.setCells (.inl (by omega)) _ _ _ HLk.out.kp, .inl ⟨HF.out, rfl⟩⟩
        · have HF := Lib.hid (show readF l = match rdCells l (6 + N) (subL l 6 N) with | none => none | some q => if (l.drop q.2).all (fun x => decide (x = 0)) = true then some (at_ l 0, beL l 4, q.1) else none by
            unfold readF; rw [if_neg (by rw [HNN.out]; omega), HNN.out]; rfl)
          have h6 : (6 : Int) + N ≤ 256 := by omega
          have h66 : (6 : Int) ≤ 6 + N := by omega
          clear hlt
          go_wp2
          have HHN := Lib.hid h6
          go_loopw [7, 47] (fun p i wr => ∃ (k a : Nat) (v : Value) (cs : List ByteArray), k ≤ N ∧ a ≤ 256 ∧ i = .int .i64 k ∧ p = .int .i64 a ∧ RdS w l (at_ l 0) (beL l 4) v k cs wr ∧
            rdCells l (6 + N) (subL l 6 N) = (rdCells l a ((subL l 6 N).drop k)).map (fun q => (cs ++ q.1, q.2))) (fun _ i _ => N - (intOf i).toNat)
          case atStart => exact ⟨0, 6 + N, _, [], by omega, by omega, rfl, by congr 1, HLk.out, by simp⟩
          case round =>
            obtain ⟨k, a, v, cs, hkN, ha, rfl, rfl, hL, hcs⟩ := hrel
            have HLv := Lib.hid hL
            have HCS := Lib.hid hcs
            clear hL hcs
            by_cases hkn : k < N
            · have ck := HLv.out.cell HL.out (6 + k) (by omega)
              have rk := HR.out (6 + k)
              have hdr := subL_drop l HL.out N k hkn (by omega)
              obtain ⟨x, hx⟩ := Int.eq_ofNat_of_zero_le rk.1
              rw [hx] at ck rk hdr
              have HDR := Lib.hid hdr
              have t2 := HLv.out.b2.thereAll 3 rfl
              clear hx hdr
              by_cases hbad : (x : Int) < 1 ∨ 60 < (x : Int) ∨ 256 < (a : Int) + x
              · have HN := Lib.hid (show readF l = none by rw [HF.out, HCS.out, HDR.out, rdCells_bad l a x _ hbad]; rfl)
                rcases (show (x : Int) < 1 ∨ (1 ≤ (x : Int) ∧ 60 < (x : Int)) ∨ (1 ≤ (x : Int) ∧ (x : Int) ≤ 60 ∧ 256 < (a : Int) + x) by omega) with q1 | ⟨q1, q2⟩ | ⟨q1, q2, q3⟩
                all_goals
                  clear hbad
                  go_wp2
                  refine bodyPost_ret (ret_cell_tmp rfl _ _ _ _ _ _ rfl (HLv.out.b2.whole #[.int .u8 0, .int .u32 0, .slice none 0 0] rfl) Try.underlying62 rfl info62 _ rfl) rfl ?_
                  exact ⟨Kp.setCells (.inl (by omega)) _ _ _ HLv.out.kp, .inl ⟨HN.out, rfl⟩⟩
              · have q1 : (1 : Int) ≤ x := by omega
                have q2 : (x : Int) ≤ 60 := by omega
                have q3 : (a : Int) + x ≤ 256 := by omega
                have HRC := Lib.hid (rdCells_good l a x ((subL l 6 N).drop (k + 1)) hbad)
                have f2 : wr.cell? ⟨w.heap.size + 1 + 1, 2, none⟩ = some v := HLv.out.b4.cell 2
                have z2 := HLv.out.b4.frozen 2
                have hby : byAt wr w.heap.size a x := HLv.out.b1.byAt a x (by rw [HL.out]; omega)
                have hbr : byRd wr w.heap.size a x = subL l a x := HLv.out.b1.byRd a x (by rw [HL.out]; omega)
                have hna : ¬ 256 = a := by omega
                have ha2 : (a : Int) ≤ a + x := by omega
                have hnn : ((a : Int) + x).toNat = a + x := by omega
                have hn2 : a + x - a = x := by omega
                have hw1 : IntKind.i64.wrap (x : Int) = x := by rw [IntKind.wrap_i64]; omega
                have hw2 : IntKind.i64.wrap ((a : Int) + x) = a + x := by rw [IntKind.wrap_i64]; omega
                clear hbad
                go_wp2
                obtain ⟨i0, hi0, hz0, hz1, hz2⟩ := info_parts infoStr
                have HI0 := Lib.hid hi0
                have HZ0 := Lib.hid hz0
                have HZ1 := Lib.hid hz1
                have HZ2 := Lib.hid hz2
                have f2a : (wr.alloc (.cells #[.string (strOf (subL l a x))] 9)).cell? ⟨w.heap.size + 1 + 1, 2, none⟩ = some v := (HLv.out.b4.alloc _).cell 2
                clear hi0 hz0 hz1 hz2
                go_region_law (first
                  | (refine step_append_lies _ (by rfl) (.tmp 66) (.tmp 74) 23 (by rfl) (w.heap.size + 1 + 1 + 1) 9 i0 _ 1 16 Try.underlying23 HI0.out HZ0.out HZ1.out HZ2.out rfl (by omega) v k (cs.map Value.string) (by rfl) ((HLv.out.own.alloc _).drew)
                      ⟨wr.heap.size, 0, none⟩ 1 1 [Value.string (strOf (subL l a x))] (by rfl) (by rfl) (cell_one_new _ _ _) (by simp [Value.oneCell']) (by omega) (by unfold maxLen; omega) (by omega) (by simp; have := HLv.out.b4.lt; omega) (wr.heap.size + 1) (by simp) ?_; intro gg cap w1 hown1 hgrow1 hat1 hlt1; obtain ⟨hRR, f21, z21⟩ := HLv.out.grown hgrow1 hown1; have HRR := Lib.hid hRR; clear hRR hown1 hgrow1 hat1 hlt1)
                  | go_simp)
                all_goals
                  go_wp2
                  exact ⟨⟨k + 1, a + x, _, cs ++ [strOf (subL l a x)], by omega, by omega, by congr 1, by congr 1, HRR.out, by rw [HCS.out, HDR.out, HRC.out]; cases rdCells l (a + x) ((subL l 6 N).drop (k + 1)) <;> simp⟩, by simp [intOf]; omega⟩
            · obtain rfl : k = N := by omega
              have HQ := Lib.hid (show readF l = if (l.drop a).all (fun x => decide (x = 0)) = true then some (at_ l 0, beL l 4, cs) else none by
                rw [HF.out, HCS.out, List.drop_of_length_le (by unfold subL; rw [List.length_take]; omega)]; simp [rdCells])
              rcases (show a = 256 ∨ a < 256 by omega) with rfl | ha2
              · have HT := Lib.hid (dropAll_true (l := l) (a := 256) (fun i h1 h2 => by have := HL.out; omega))
                go_wp2
                go_loopw [85] (fun i wx => i = .int .i64 0 ∧ RdS w l (at_ l 0) (beL l 4) v k cs wx) (fun _ _ => 0)
                case atStart => exact ⟨rfl, HLv.out⟩
                case round =>
                  obtain ⟨rfl, hL⟩ := hrel
                  have HX := Lib.hid hL
                  have t2 := hL.b2.thereAll 3 rfl
                  have t4 := hL.b4.thereAll 3 rfl
                  have r4 := hL.b4.readAll 3 rfl
                  clear hL
                  have hon := HX.out.one
                  go_wp2
                  refine bodyPost_ret (ret_cell_tmp rfl _ _ _ _ _ _ rfl (HX.out.b2.whole #[.int .u8 (at_ l 0), .int .u32 (beL l 4), v] rfl) Try.underlying62 rfl info62 _ rfl) rfl ?_
                  exact HX.out.fin _ (by rw [HQ.out, if_pos HT.out])
              · have hna : ¬ 256 = a := by omega
                have hai : (a : Int) ≤ 256 := by omega
                go_wp2
                go_loopw [11, 85] (fun _ i wx => ∃ j : Nat, a + j ≤ 256 ∧ i = .int .i64 j ∧ (∀ i, a ≤ i → i < a + j → at_ l i = 0) ∧ RdS w l (at_ l 0) (beL l 4) v k cs wx) (fun _ i _ => 256 - (intOf i).toNat)
                case atStart => exact ⟨0, by omega, rfl, fun i h1 h2 => by omega, HLv.out⟩
                case round =>
                  obtain ⟨j, haj, rfl, hz, hL⟩ := hrel
                  have HX := Lib.hid hL
                  have HZ := Lib.hid hz
                  have t2 := hL.b2.thereAll 3 rfl
                  have t4 := hL.b4.thereAll 3 rfl
                  have r4 := hL.b4.readAll 3 rfl
                  have hon := HX.out.one
                  clear hL hz
                  by_cases hj : j < 256 - a
                  · have cj := HX.out.cell HL.out (a + j) (by omega)
                    by_cases hz0 : at_ l (a + j) = 0
                    · go_wp2
                      have hz1 : ∀ i, a ≤ i → i < a + (j + 1) → at_ l i = 0 := by
                        intro i h1 h2
                        rcases Nat.lt_or_ge i (a + j) with q | q
                        · exact HZ.out i h1 q
                        · have e : i = a + j := by omega
                          subst e
                          exact hz0
                      exact ⟨⟨j + 1, by omega, by congr 1, hz1, HX.out⟩, by simp [intOf]; omega⟩
                    · have HF2 := Lib.hid (show readF l = none by rw [HQ.out, dropAll_false (show a ≤ a + j by omega) hz0]; rfl)
                      go_wp2
                      refine bodyPost_ret (ret_cell_tmp rfl _ _ _ _ _ _ rfl (HX.out.b2.whole #[.int .u8 0, .int .u32 0, .slice none 0 0] rfl) Try.underlying62 rfl info62 _ rfl) rfl ?_
                      exact ⟨Kp.setCells (.inl (by omega)) _ _ _ HX.out.kp, .inl ⟨HF2.out, rfl⟩⟩
                  · have HT := Lib.hid (dropAll_true (l := l) (a := a) (fun i h1 h2 => HZ.out i h1 (by have := HL.out; omega)))
                    go_wp2
                    refine bodyPost_ret (ret_cell_tmp rfl _ _ _ _ _ _ rfl (HX.out.b2.whole #[.int .u8 (at_ l 0), .int .u32 (beL l 4), v] rfl) Try.underlying62 rfl info62 _ rfl) rfl ?_
                    exact HX.out.fin _ (by rw [HQ.out, if_pos HT.out])
end Go.Proofs.Ytnleoeogcinadaa
