/- The reference's Read answers what 256 bytes say as a page; no condition. -/
import Derived.Test.YtnleoeogcinadaaPgTell
namespace Go.Proofs.Ytnleoeogcinadaa
open Go.RowKit
attribute [local go_sem ↓] load26 store26 alloc26 build26 slice26lo slice26lohi conv64

theorem info34 : (Try.prog.info? 34).map (·.size) = some 4 := by kernel_rfl
theorem load34 (w : World) (ev : Operand → Value) (ds : Option Tmp) (x : Operand) (ty : TypeId) (ps : String) (af : Array Edge) (g : Option (Nat × Bool)) (h : thereP w (ev x) 4) :
    (execOp ev ⟨ds, .load 34 x, ty, ps, af, g⟩).run Try.prog w = .ok (.value (.agg (readP w (ev x) 4))) w := execLoad_P Try.underlying34 rfl info34 w ev ds x ty ps af g h
theorem store34 (w : World) (ev : Operand → Value) (ds : Option Tmp) (x y : Operand) (ty : TypeId) (ps : String) (af : Array Edge) (g : Option (Nat × Bool)) (hv : aggOK (ev y) 4) (h : thereP w (ev x) 4) :
    (execOp ev ⟨ds, .store 34 x y, ty, ps, af, g⟩).run Try.prog w = .ok .skip (setP w (ev x) (ev y)) := execStore_P info34 w ev ds x y ty ps af g hv h
attribute [local go_sem ↓] load34 store34

/-- in the midst of the reference's Read -/
structure RRd (w : World) (l : List Int) (kind link : Int) (v : Value) (n : Nat) (cs : List ByteArray) (W : World) : Prop where
  kp : Kp NoB w W
  b1 : Blk W w.heap.size 26 (bytesV l)
  b2 : Blk W (w.heap.size + 1) 34 #[.bool false, .int .i64 0, .int .u32 0, .slice none 0 0]
  b4 : Blk W (w.heap.size + 1 + 1) 34 #[.bool false, .int .i64 kind, .int .u32 link, v]
  own : W.ownsRow (w.heap.size + 1 + 1 + 1) 9 1 v n (cs.map Value.string)
  ncs : cs.length = n
section
variable {w : World} {l : List Int} {kind link : Int} {v : Value} {n : Nat} {cs : List ByteArray} {W : World}
theorem RRd.cell (h : RRd w l kind link v n cs W) (hl : l.length = 256) (i : Nat) (hi : i < 256) :
    W.cell? ⟨w.heap.size, i, none⟩ = some (.int .u8 (at_ l i)) := (h.b1.cell i).trans (bytesV_get l i (by rw [hl]; exact hi))
theorem RRd.new (h : RRd w l kind link v n cs W) (o : Obj) : RRd w l kind link v n cs (W.alloc o) :=
  ⟨h.kp.alloc o, h.b1.alloc o, h.b2.alloc o, h.b4.alloc o, own_keep h.own ((Kp.refl NoB W).alloc o) (fun _ _ _ q => q), h.ncs⟩
theorem RRd.grown {w1 : World} (h : RRd w l kind link v n cs W) {o : Obj} (hg : (W.alloc o).grownBy w1 v.ownBlock) {v' : Value} {s : ByteArray}
    (ho : w1.ownsRow (w.heap.size + 1 + 1 + 1) 9 1 v' (n + 1) (cs.map Value.string ++ [Value.string s])) :
    RRd w l kind link v' (n + 1) (cs ++ [s]) (w1.setCell ⟨w.heap.size + 1 + 1, 3, none⟩ v') ∧ w1.cell? ⟨w.heap.size + 1 + 1, 3, none⟩ = some v ∧ w1.frozen? ⟨w.heap.size + 1 + 1, 3, none⟩ = false := by
  have hge := own_ge h.own
  have hK : Kp (fun k => v.ownBlock = some k) W w1 := ((Kp.refl _ W).alloc o).grown hg (fun k hk => .inr hk)
  have b4 := h.b4.keep hK (fun q => by have := hge _ q; omega)
  refine ⟨⟨?_, ?_, ?_, ?_, ?_, by simp [h.ncs]⟩, b4.cell 3, b4.frozen 3⟩
  · exact ((h.kp.trans hK (fun i hi q => by have := hge _ q; omega))).setCell (p := ⟨w.heap.size + 1 + 1, 3, none⟩) (.inl (by show _ ≤ w.heap.size + 1 + 1; omega)) _
  · exact (h.b1.keep hK (fun q => by have := hge _ q; omega)).far (p := ⟨w.heap.size + 1 + 1, 3, none⟩) (by simp; omega) _
  · exact (h.b2.keep hK (fun q => by have := hge _ q; omega)).far (p := ⟨w.heap.size + 1 + 1, 3, none⟩) (by simp) _
  · exact b4.set_ 3 _
  · have := own_keep ho (S := OnB (w.heap.size + 1 + 1)) (Kp.setCell (S := OnB (w.heap.size + 1 + 1)) (p := ⟨w.heap.size + 1 + 1, 3, none⟩) (Kp.refl _ _) (.inr rfl) v') (fun g hg _ q => by unfold OnB at q; omega)
    simpa using this
end
def rBody4 (is : Bool) (kind link : Int) (A : Option Addr) (n cap : Nat) : Array Value := #[.bool is, .int .i64 kind, .int .u32 link, .slice A n cap]
def RReadPost (w : World) (r : Option (Int × Int × List ByteArray)) (e : Ending) (w' : World) : Prop :=
  Kp NoB w w' ∧ match r with
    | none => e = .returned (.agg (rBody4 false 0 0 none 0 0))
    | some (kind, link, cs) => ∃ A cap, e = .returned (.agg (rBody4 true kind link A cs.length cap)) ∧ w'.ownsRow w.heap.size 9 1 (.slice A cs.length cap) cs.length (cs.map Value.string) ∧ Sl w' A cs.length cs
theorem RRd.fin {w : World} {l : List Int} {kind link : Int} {A : Option Addr} {n cap : Nat} {cs : List ByteArray} {W : World} (h : RRd w l kind link (.slice A n cap) n cs W) (xs : List Value) {r : Option (Int × Int × List ByteArray)} (hr : r = some (kind, link, cs)) :
    RReadPost w r (.returned (.agg #[.bool true, .int .i64 kind, .int .u32 link, .slice A n cap])) ((W.setCell ⟨w.heap.size + 1 + 1, 0, none⟩ (.bool true)).setCells (w.heap.size + 1) 0 xs) := by
  have K : Kp (fun g => g = w.heap.size + 1 ∨ g = w.heap.size + 1 + 1) W ((W.setCell ⟨w.heap.size + 1 + 1, 0, none⟩ (.bool true)).setCells (w.heap.size + 1) 0 xs) :=
    Kp.setCells (.inr (.inl rfl)) xs 0 _ (Kp.setCell (Kp.refl _ W) (p := ⟨w.heap.size + 1 + 1, 0, none⟩) (.inr (.inr rfl)) _)
  have ho := own_keep h.own K (fun g hg _ q => by omega)
  subst hr
  refine ⟨h.kp.trans K (fun i hi q => by omega), ?_⟩
  have hn := h.ncs
  subst hn
  exact ⟨A, cap, rfl, ho.mono (by omega), own_Sl ho rfl⟩
theorem strOf_snoc (l : List Int) (a k : Nat) (h : a + k < l.length) : strOf (subL l a (k + 1)) = strOf (subL l a k) ++ strOf [at_ l (a + k)] := by
  have e : subL l a (k + 1) = subL l a k ++ [at_ l (a + k)] := by
    unfold subL at_
    rw [List.take_succ_eq_append_getElem (by simp; omega)]
    simp [show a + k < l.length by omega]
  rw [e]
  unfold strOf
  simp [ByteArray.ext_iff]

set_option maxRecDepth 100000 in
set_option maxHeartbeats 1600000 in
theorem rread_ok (w : World) (l : List Int) (hB : Bytes l) : Calls Try.prog 11 #[.agg (bytesV l)] w (RReadPost w (readF l)) := by
  have HL := Lib.hid hB.len
  have HR := Lib.hid hB.rng
  clear hB
  have hb1 := ((Blk.new w 26 (bytesV l)).alloc (.cells #[.bool false, .int .i64 0, .int .u32 0, .slice none 0 0] 34))
  have c0 := (hb1.cell 0).trans (bytesV_get l 0 (by rw [HL.out]; omega))
  have c1 := (hb1.cell 1).trans (bytesV_get l 1 (by rw [HL.out]; omega))
  have c2 := (hb1.cell 2).trans (bytesV_get l 2 (by rw [HL.out]; omega))
  have c3 := (hb1.cell 3).trans (bytesV_get l 3 (by rw [HL.out]; omega))
  have c4 := (hb1.cell 4).trans (bytesV_get l 4 (by rw [HL.out]; omega))
  have c5 := (hb1.cell 5).trans (bytesV_get l 5 (by rw [HL.out]; omega))
  have r0 := HR.out 0
  have r1 := HR.out 1
  have r2 := HR.out 2
  have r3 := HR.out 3
  have r4 := HR.out 4
  have r5 := HR.out 5
  obtain ⟨x0, hx0⟩ : ∃ x, l[0]?.getD 0 = x := ⟨_, rfl⟩
  obtain ⟨x1, hx1⟩ : ∃ x, l[1]?.getD 0 = x := ⟨_, rfl⟩
  obtain ⟨x2, hx2⟩ : ∃ x, l[2]?.getD 0 = x := ⟨_, rfl⟩
  obtain ⟨x3, hx3⟩ : ∃ x, l[3]?.getD 0 = x := ⟨_, rfl⟩
  obtain ⟨x4, hx4⟩ : ∃ x, l[4]?.getD 0 = x := ⟨_, rfl⟩
  obtain ⟨x5, hx5⟩ : ∃ x, l[5]?.getD 0 = x := ⟨_, rfl⟩
  unfold at_ at r0 r1 r2 r3 r4 r5
  rw [hx0] at c0 r0
  rw [hx1] at c1 r1
  rw [hx2] at c2 r2
  rw [hx3] at c3 r3
  rw [hx4] at c4 r4
  rw [hx5] at c5 r5
  have HX := Lib.hid (show _ ∧ _ ∧ _ ∧ _ ∧ _ ∧ _ from ⟨hx0, hx1, hx2, hx3, hx4, hx5⟩)
  clear hx0 hx1 hx2 hx3 hx4 hx5 hb1
  obtain ⟨N, rfl⟩ := Int.eq_ofNat_of_zero_le r1.1
  have o4 : ones #[.bool false, .int .i64 0, .int .u32 0, .slice none 0 0] := by unfold ones; simp [Value.oneCell']
  have HLK : Hid (beL l 4 = x2 * 16777216 + x3 * 65536 + x4 * 256 + x5) := Lib.hid (by
    obtain ⟨_, _, a2, a3, a4, a5⟩ := HX.out
    simp only [beL, at_, List.range_succ_eq_map, List.range_zero, List.map_nil, List.map_cons, List.foldl_cons, List.foldl_nil, a2, a3, a4, a5]
    omega)
  have HST : Hid (∀ (lk : Int), RRd w l x0 lk (.slice none 0 0) 0 [] (((w.alloc (.cells (bytesV l) 26)).alloc (.cells #[.bool false, .int .i64 0, .int .u32 0, .slice none 0 0] 34)).alloc (.cells #[.bool false, .int .i64 x0, .int .u32 lk, .slice none 0 0] 34))) :=
    Lib.hid (fun lk => ⟨(((Kp.refl _ _).alloc _).alloc _).alloc _, ((Blk.new _ _ _).alloc _).alloc _, (Blk.newAt _ _ _ _ (by simp)).alloc _, Blk.newAt _ _ _ _ (by simp), ⟨rfl, .inl ⟨rfl, rfl⟩⟩, rfl⟩)
  by_cases hk5 : 5 < x0
  · have HF := Lib.hid (show readF l = none by unfold readF; rw [if_pos (.inl (by unfold at_; rw [HX.out.1]; exact hk5))])
    have t2 := (HST.out (x2 * 16777216 + x3 * 65536 + x4 * 256 + x5)).b2.thereAll 4 rfl
    go_enter Try.func11, Try.ntmps11
    go_wp2_with fail
    refine bodyPost_ret (ret_cell1 rfl _ _ _ _ _ _ rfl ((HST.out _).b2.whole #[.bool false, .int .i64 0, .int .u32 0, .slice none 0 0] rfl) Try.underlying34 rfl info34) rfl ?_
    exact ⟨Kp.setCells (.inl (by omega)) _ _ _ (HST.out _).kp, by rw [HF.out]; rfl⟩
  · by_cases h256 : (256 : Int) < 6 + N
    · have HF := Lib.hid (show readF l = none by unfold readF; rw [if_pos (.inr (by unfold at_; rw [HX.out.2.1]; exact h256))])
      have t2 := (HST.out (x2 * 16777216 + x3 * 65536 + x4 * 256 + x5)).b2.thereAll 4 rfl
      go_enter Try.func11, Try.ntmps11
      go_wp2_with fail
      refine bodyPost_ret (ret_cell1 rfl _ _ _ _ _ _ rfl ((HST.out _).b2.whole #[.bool false, .int .i64 0, .int .u32 0, .slice none 0 0] rfl) Try.underlying34 rfl info34) rfl ?_
      exact ⟨Kp.setCells (.inl (by omega)) _ _ _ (HST.out _).kp, by rw [HF.out]; rfl⟩
    · have HF := Lib.hid (show readF l = match rdCells l (6 + N) (subL l 6 N) with | none => none | some q => if (l.drop q.2).all (fun x => decide (x = 0)) = true then some (at_ l 0, beL l 4, q.1) else none by
        unfold readF; rw [if_neg (by unfold at_; rw [HX.out.1, HX.out.2.1]; omega)]
        rw [show at_ l 1 = N by unfold at_; exact HX.out.2.1]; rfl)
      go_enter Try.func11, Try.ntmps11
      go_wp2_with fail
      refine forget (p := fun wx => Code.wp _ _ _ _ wx) (RRd w l x0 (beL l 4) (.slice none 0 0) 0 []) (by rw [HLK.out]; exact HST.out _) ?_
      intro W hW
      have HW := Lib.hid hW
      obtain ⟨LK, hLK⟩ : ∃ lk, beL l 4 = lk := ⟨_, rfl⟩
      have HLK2 := Lib.hid hLK
      rw [hLK] at HW
      clear hW c0 c1 c2 c3 c4 c5 HST hLK
      have h6 : (6 : Int) + N ≤ 256 := by omega
      go_loopw [4, 5, 6, 7, 8] (fun p i _ _ _ wr => ∃ (k a : Nat) (v : Value) (cs : List ByteArray), k ≤ N ∧ a ≤ 256 ∧ i = .int .i64 k ∧ p = .int .i64 a ∧ RRd w l x0 LK v k cs wr ∧
            rdCells l (6 + N) (subL l 6 N) = (rdCells l a ((subL l 6 N).drop k)).map (fun q => (cs ++ q.1, q.2))) (fun _ i _ _ _ _ => N - (intOf i).toNat)
      case atStart => exact ⟨0, 6 + N, _, [], by omega, by omega, rfl, by congr 1, HW.out, by simp⟩
      case round =>
        obtain ⟨k, a, v, cs, hkN, ha, rfl, rfl, hL, hcs⟩ := hrel
        have HLv := Lib.hid hL
        have HCS := Lib.hid hcs
        have c1 := (hL.cell HL.out 1 (by omega)).trans (show _ = some (.int .u8 (N : Int)) by unfold at_; rw [HX.out.2.1])
        clear hL hcs
        by_cases hkn : k < N
        · have ck := HLv.out.cell HL.out (6 + k) (by omega)
          have rk := HR.out (6 + k)
          have hdr := subL_drop l HL.out N k hkn (by omega)
          obtain ⟨x, hx⟩ := Int.eq_ofNat_of_zero_le rk.1
          rw [hx] at ck rk hdr
          have HDR := Lib.hid hdr
          have t2 := HLv.out.b2.thereAll 4 rfl
          clear hx hdr
          by_cases hbad : (x : Int) < 1 ∨ 60 < (x : Int) ∨ 256 < (a : Int) + x
          · have HN := Lib.hid (show readF l = none by rw [HF.out, HCS.out, HDR.out, rdCells_bad l a x _ hbad]; rfl)
            rcases (show (x : Int) < 1 ∨ (1 ≤ (x : Int) ∧ 60 < (x : Int)) ∨ (1 ≤ (x : Int) ∧ (x : Int) ≤ 60 ∧ 256 < (a : Int) + x) by omega) with q1 | ⟨q1, q2⟩ | ⟨q1, q2, q3⟩
            all_goals
              clear hbad
              go_wp2
              refine bodyPost_ret (ret_cell1 rfl _ _ _ _ _ _ rfl (HLv.out.b2.whole #[.bool false, .int .i64 0, .int .u32 0, .slice none 0 0] rfl) Try.underlying34 rfl info34) rfl ?_
              exact ⟨Kp.setCells (.inl (by omega)) _ _ _ HLv.out.kp, by rw [HN.out]; rfl⟩
          · have q1 : (1 : Int) ≤ x := by omega
            have q2 : (x : Int) ≤ 60 := by omega
            have q3 : (a : Int) + x ≤ 256 := by omega
            have HRC := Lib.hid (rdCells_good l a x ((subL l 6 N).drop (k + 1)) hbad)
            clear hbad
            go_wp2
            obtain ⟨wo, hwo⟩ : ∃ wo : World, wo = wr := ⟨_, rfl⟩
            rw [← hwo] at HLv c1 ck t2 ⊢
            clear hwo
            go_loopw [7, 8] (fun s i wx => ∃ j : Nat, j ≤ x ∧ i = .int .i64 j ∧ s = .string (strOf (subL l a j)) ∧ RRd w l x0 LK v k cs wx) (fun _ i _ => x - (intOf i).toNat)
            case atStart => exact ⟨0, by omega, rfl, by simp [subL, strOf], HLv.out⟩
            case round =>
              obtain ⟨j, hj, rfl, rfl, hLj⟩ := hrel
              have HLj := Lib.hid hLj
              clear hLj
              by_cases hjx : j < x
              · have cj := HLj.out.cell HL.out (a + j) (by omega)
                have rj := HR.out (a + j)
                have HSN := Lib.hid (strOf_snoc l a j (by rw [HL.out]; omega))
                obtain ⟨y, hy⟩ : ∃ y, at_ l (a + j) = y := ⟨_, rfl⟩
                rw [hy] at cj rj HSN
                have hby := (Blk.new wr 5 (bytesV [y])).byAt 0 1 (by simp)
                have hbr := (Blk.new wr 5 (bytesV [y])).byRd 0 1 (by simp)
                simp [bytesV] at hby hbr
                have hcat : (strOf (subL l a j)).size + (strOf [y]).size ≤ 9223372036854775807 := by
                  rw [strOf_size, strOf_size]
                  unfold subL
                  simp
                  omega
                clear hy
                go_wp2
                exact ⟨⟨j + 1, by omega, by congr 1, by rw [HSN.out], HLj.out.new _⟩, by simp [intOf]; omega⟩
              · obtain rfl : x = j := by omega
                obtain ⟨i0, hi0, hz0, hz1, hz2⟩ := info_parts infoStr
                have HI0 := Lib.hid hi0
                have HZ0 := Lib.hid hz0
                have HZ1 := Lib.hid hz1
                have HZ2 := Lib.hid hz2
                have f3 : wr.cell? ⟨w.heap.size + 1 + 1, 3, none⟩ = some v := HLj.out.b4.cell 3
                have hbl := HLj.out.b4.lt
                clear hi0 hz0 hz1 hz2
                go_wp2_with (at_builtin; refine wpList_append_own _ rfl _ _ 23 rfl (w.heap.size + 1 + 1 + 1) 9 i0 _ 1 16 Try.underlying23 HI0.out HZ0.out HZ1.out HZ2.out rfl (by omega) v k (cs.map Value.string) rfl (HLj.out.new _).own ⟨wr.heap.size, 0, none⟩ 1 1 [Value.string (strOf (subL l a x))] rfl rfl (cell_one_new _ _ _) (by simp [Value.oneCell']) (by unfold maxLen; omega) (by omega) (by simp; omega) ?_; intro v1 w1 hown1 hgrow1 _; obtain ⟨A1, cap1, rfl⟩ := own_slice hown1; obtain ⟨hRR, f31, z31⟩ := HLj.out.grown hgrow1 hown1; have HRR := Lib.hid hRR; clear hRR hown1 hgrow1)
                exact ⟨⟨k + 1, a + x, _, cs ++ [strOf (subL l a x)], by omega, by omega, by congr 1, by congr 1, HRR.out, by rw [HCS.out, HDR.out, HRC.out]; cases rdCells l (a + x) ((subL l 6 N).drop (k + 1)) <;> simp⟩, by simp [intOf]; omega⟩
        · obtain rfl : k = N := by omega
          have HQ := Lib.hid (show readF l = if (l.drop a).all (fun x => decide (x = 0)) = true then some (at_ l 0, beL l 4, cs) else none by
            rw [HF.out, HCS.out, List.drop_of_length_le (by unfold subL; rw [List.length_take]; omega)]; simp [rdCells])
          have f0 : wr.cell? ⟨w.heap.size + 1 + 1, 0, none⟩ = some (.bool false) := HLv.out.b4.cell 0
          have z0 := HLv.out.b4.frozen 0
          have t2 := HLv.out.b2.thereAll 4 rfl
          obtain ⟨A, cap, rfl⟩ := own_slice HLv.out.own
          have B4 := HLv.out.b4.set_ 0 (.bool true)
          have B2 := HLv.out.b2.far (p := ⟨w.heap.size + 1 + 1, 0, none⟩) (by simp) (.bool true)
          have t4 : (wr.setCell ⟨w.heap.size + 1 + 1, 0, none⟩ (.bool true)).there (w.heap.size + 1 + 1) 0 4 := B4.thereAll 4 rfl
          have t42 : (wr.setCell ⟨w.heap.size + 1 + 1, 0, none⟩ (.bool true)).there (w.heap.size + 1) 0 4 := B2.thereAll 4 rfl
          have r4 : readRow (wr.setCell ⟨w.heap.size + 1 + 1, 0, none⟩ (.bool true)) (w.heap.size + 1 + 1) 0 4 = #[.bool true, .int .i64 x0, .int .u32 LK, .slice A k cap] := B4.readAll 4 rfl
          have o5 : ones #[.bool true, .int .i64 x0, .int .u32 LK, .slice A k cap] := by unfold ones; simp [Value.oneCell']
          have HB2 := Lib.hid B2
          clear B4 B2
          go_wp2
          go_loop [9] (fun i => ∃ j : Nat, a ≤ j ∧ j ≤ 256 ∧ i = .int .i64 j ∧ ∀ q, a ≤ q → q < j → at_ l q = 0) (fun i => 256 - (intOf i).toNat)
          case atStart => exact ⟨a, by omega, by omega, rfl, fun q h1 h2 => by omega⟩
          case round =>
            obtain ⟨j, haj, hj, rfl, hz⟩ := hrel
            have HZ := Lib.hid hz
            clear hz
            by_cases hj2 : j < 256
            · have cj := HLv.out.cell HL.out j (by omega)
              by_cases hz0 : at_ l j = 0
              · go_wp2
                have hz1 : ∀ i, a ≤ i → i < j + 1 → at_ l i = 0 := by
                  intro i h1 h2
                  rcases Nat.lt_or_ge i j with q | q
                  · exact HZ.out i h1 q
                  · have e : i = j := by omega
                    subst e
                    exact hz0
                exact ⟨⟨j + 1, by omega, by omega, by congr 1, hz1⟩, by simp [intOf]; omega⟩
              · have HF2 := Lib.hid (show readF l = none by rw [HQ.out, dropAll_false haj hz0]; rfl)
                go_wp2
                refine bodyPost_ret (ret_cell1 rfl _ _ _ _ _ _ rfl (HLv.out.b2.whole #[.bool false, .int .i64 0, .int .u32 0, .slice none 0 0] rfl) Try.underlying34 rfl info34) rfl ?_
                exact ⟨Kp.setCells (.inl (by omega)) _ _ _ HLv.out.kp, by rw [HF2.out]; rfl⟩
            · obtain rfl : j = 256 := by omega
              have HT := Lib.hid (dropAll_true (l := l) (a := a) (fun i h1 h2 => HZ.out i h1 (by have := HL.out; omega)))
              have HF2 := Lib.hid (show readF l = some (x0, LK, cs) by rw [HQ.out, if_pos HT.out, HLK2.out, show at_ l 0 = x0 from HX.out.1])
              go_wp2
              refine bodyPost_ret (ret_cell1 rfl _ _ _ _ _ _ rfl (HB2.out.whole #[.bool true, .int .i64 x0, .int .u32 LK, .slice A k cap] rfl) Try.underlying34 rfl info34) rfl ?_
              exact HLv.out.fin _ HF2.out
end Go.Proofs.Ytnleoeogcinadaa
