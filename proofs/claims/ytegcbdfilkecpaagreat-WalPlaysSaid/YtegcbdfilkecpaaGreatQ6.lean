/- Texts of this proof, one behind the other: lemmas and contracts; each says its own conditions. -/
import Derived.Test.YtegcbdfilkecpaaGreatQ1
import Derived.Test.YtegcbdfilkecpaaGreatQ4
import Derived.Test.YtegcbdfilkecpaaGreatQ5
import Derived.Shelf.Abstract
namespace Go.Proofs.YtegcbdfilkecpaaGreat
section
open Go.RowKit
def accN (l : List Int) (a : Nat) : Nat → Int
 | 0 => 0
 | k + 1 => accN l a k * 256 + l.getD (a + k) 0
theorem getD_rng {l : List Int} (h : ∀ y ∈ l, 0 ≤ y ∧ y < 256) (a : Nat) : 0 ≤ l.getD a 0 ∧ l.getD a 0 < 256 := by
 rcases Nat.lt_or_ge a l.length with q | q
 ·rw [List.getD_eq_getElem?_getD, List.getElem?_eq_getElem q]
  exact h _ (List.getElem_mem q)
 ·rw [List.getD_eq_getElem?_getD, List.getElem?_eq_none q]
  decide
theorem accN_num (l : List Int) (a : Nat) : accN l a 4 = num l a := by
 unfold accN accN accN accN accN num
 simp only [Nat.add_zero]
 omega
theorem accN_rng {l : List Int} (h : ∀ y ∈ l, 0 ≤ y ∧ y < 256) (a : Nat) : ∀ k, 0 ≤ accN l a k ∧ accN l a k < 256 ^ k
 | 0 => by simp [accN]
 | k + 1 => by
  obtain ⟨h1, h2⟩ := accN_rng h a k
  obtain ⟨h3, h4⟩ := getD_rng h (a + k)
  unfold accN
  rw [Int.pow_succ]
  omega
theorem num_rng {l : List Int} (h : ∀ y ∈ l, 0 ≤ y ∧ y < 256) (a : Nat) : 0 ≤ num l a ∧ num l a < 4294967296 := by
 rw [← accN_num]
 have := accN_rng h a 4
 have e : (256 : Int) ^ 4 = 4294967296 := by decide
 omega
theorem sliceSeclohi (w : World) (ev : Operand → Value) (ds : Option Tmp) (x lo hi : Operand) (ty : TypeId) (ps : String) (af : Array Edge) (g : Option (Nat × Bool)) (h : sliceOK (ev x) (ev lo) (ev hi) 64) :
  (execOp ev ⟨ds, .slice 119 x (some lo) (some hi) none, ty, ps, af, g⟩).run Tryz.prog w = .ok (.value (sliceV (ev x) (ev lo) (ev hi) 64)) w := execSlice_lohi Tryz.underlying119 infoU8 w ev ds x lo hi ty ps af g h
theorem or_byteS (a x : Int) (h0 : 0 ≤ a) (h1 : a < 16777216) (h2 : 0 ≤ x) (h3 : x < 256) : bits BinOp.or IntKind.u32 (a * 256) x = a * 256 + x := by
 obtain ⟨m, rfl⟩ := Int.eq_ofNat_of_zero_le h0
 obtain ⟨n, rfl⟩ := Int.eq_ofNat_of_zero_le h2
 have e : bits BinOp.or IntKind.u32 ((m : Int) * 256) n = IntKind.u32.wrap ((BitVec.ofInt 32 ((m : Int) * 256) ||| BitVec.ofInt 32 n).toNat) := rfl
 have hm : m < 16777216 := by omega
 have hn : n < 256 := by omega
 have e1 : BitVec.ofInt 32 ((m : Int) * 256) = BitVec.ofNat 32 (m * 256) := by
  rw [show ((m : Int) * 256) = ((m * 256 : Nat) : Int) by omega]
  exact BitVec.ofInt_natCast _ _
 have e2 : BitVec.ofInt 32 (n : Int) = BitVec.ofNat 32 n := BitVec.ofInt_natCast _ _
 rw [e, e1, e2, BitVec.toNat_or, BitVec.toNat_ofNat, BitVec.toNat_ofNat, Nat.mod_eq_of_lt (by omega), Nat.mod_eq_of_lt (by omega)]
 have h := Nat.shiftLeft_add_eq_or_of_lt (i := 8) (b := n) (by omega) m
 rw [Nat.shiftLeft_eq] at h
 have h' : m * 256 ||| n = m * 256 + n := h.symm
 rw [h', IntKind.wrap_u32]
 omega
def uW (l : List Int) (a i : Nat) (x : Int) : List Int := (List.range 4).map fun j => if j < i then num l (a + 4 * j) else if j = i then x else 0
def uWA (l : List Int) (a i : Nat) (x : Int) : Array Value := ((uW l a i x).map (Value.int .u32)).toArray
theorem uWA_set (l : List Int) (a i : Nat) (x y : Int) (hi : i < 4) : (uWA l a i x).setIfInBounds i (.int .u32 y) = uWA l a i y := by
 rcases (show i = 0 ∨ i = 1 ∨ i = 2 ∨ i = 3 by omega) with rfl | rfl | rfl | rfl <;> rfl
theorem uWA_get (l : List Int) (a i : Nat) (x : Int) (hi : i < 4) : (uWA l a i x)[i]? = some (.int .u32 x) := by
 rcases (show i = 0 ∨ i = 1 ∨ i = 2 ∨ i = 3 by omega) with rfl | rfl | rfl | rfl <;> rfl
theorem uWA_next (l : List Int) (a i : Nat) (hi : i < 4) : uWA l a i (num l (a + 4 * i)) = uWA l a (i + 1) 0 := by
 rcases (show i = 0 ∨ i = 1 ∨ i = 2 ∨ i = 3 by omega) with rfl | rfl | rfl | rfl <;> rfl
theorem uWA_all (l : List Int) (a : Nat) (x : Int) : uWA l a 4 x = w4A (wordsAt l a) := rfl
structure WdS (w : World) (l : List Int) (a i : Nat) (x : Int) (W : World) : Prop where
 kp : Kp NoB w W
 b1 : Blk W w.heap.size 119 (bytesV l)
 b2 : Blk W (w.heap.size + 1) 80 #[.int .u32 0, .int .u32 0, .int .u32 0, .int .u32 0]
 b3 : Blk W (w.heap.size + 2) 80 (uWA l a i x)
theorem WdS.set_ {w : World} {l : List Int} {a i : Nat} {x : Int} {W : World} (h : WdS w l a i x W) (hi : i < 4) (y : Int) : WdS w l a i y (W.setCell ⟨w.heap.size + 2, i, none⟩ (.int .u32 y)) := by
 refine ⟨h.kp.setCell (p := ⟨w.heap.size + 2, i, none⟩) (.inl (by show _ ≤ w.heap.size + 2; omega)) _, h.b1.far (p := ⟨w.heap.size + 2, i, none⟩) (by simp) _, h.b2.far (p := ⟨w.heap.size + 2, i, none⟩) (by simp) _, ?_⟩
 have := h.b3.set_ i (.int .u32 y)
 rwa [uWA_set _ _ _ _ _ hi] at this
attribute [local go_sem ↓] loadSec storeSec allocSec sliceSeclohi loadW4 storeW4
set_option maxRecDepth 100000 in
set_option maxHeartbeats 1600000 in
theorem words_ok (w : World) (l : List Int) (c : Nat) (hc : c ≤ 2) (hl : l.length = 64) (hr : ∀ y ∈ l, 0 ≤ y ∧ y < 256) :
  Calls Tryz.prog 107 #[.agg (bytesV l), .int .i64 c] w fun e w' => e = .returned (.agg (w4A (wordsAt l (16 * c)))) ∧ Kp NoB w w' := by
 have HL := zh hl
 have HR := zh hr
 have hst : WdS w l (16 * c) 0 0 (((w.alloc (.cells (bytesV l) 119)).alloc (.cells #[.int .u32 0, .int .u32 0, .int .u32 0, .int .u32 0] 80)).alloc (.cells #[.int .u32 0, .int .u32 0, .int .u32 0, .int .u32 0] 80)) :=
  ⟨(((Kp.refl _ _).alloc _).alloc _).alloc _, ((Blk.new _ _ _).alloc _).alloc _, (Blk.newAt _ _ _ _ (by simp)).alloc _, Blk.newAt _ _ _ _ (by simp)⟩
 have HST := zh hst
 clear hst hl hr
 go_enter Tryz.func107, Tryz.ntmps107
 go_wp2
 refine forget (p := fun wx => Code.wp _ _ _ _ wx) (WdS w l (16 * c) 0 0) HST.out ?_
 intro W hW
 have HW := zh hW
 clear hW HST
 go_loopw [9] (fun v wr => ∃ i : Nat, i ≤ 4 ∧ v = .int .i64 i ∧ WdS w l (16 * c) i 0 wr) (fun v _ => 4 - (intOf v).toNat)
 case atStart => exact ⟨0, by omega, rfl, HW.out⟩
 case round =>
  obtain ⟨i, hi, rfl, hs⟩ := hrel
  have HS := zh hs
  clear hs
  by_cases hlt : i < 4
  ·obtain ⟨A, hA⟩ : ∃ A, 16 * c + 4 * i = A := ⟨_, rfl⟩
   have HA := zh hA
   have hw1 : IntKind.i64.wrap ((c : Int) * 16) = (c : Int) * 16 := by rw [IntKind.wrap_i64]; omega
   have hw2 : IntKind.i64.wrap ((i : Int) * 4) = (i : Int) * 4 := by rw [IntKind.wrap_i64]; omega
   have hw3 : IntKind.i64.wrap ((c : Int) * 16 + (i : Int) * 4) = (A : Int) := by rw [IntKind.wrap_i64]; omega
   have hw4 : IntKind.i64.wrap ((A : Int) + 4) = (A : Int) + 4 := by rw [IntKind.wrap_i64]; omega
   have hA0 : A + 4 ≤ 64 := by omega
   have hA1 : (A : Int) + 4 ≤ 64 := by omega
   have hA2 : (A : Int) ≤ (A : Int) + 4 := by omega
   have hA3 : ((A : Int) + 4).toNat = A + 4 := by omega
   have hA4 : 0 ≤ (A : Int) + 4 := by omega
   have hne : ¬ 64 = A := by omega
   have hii : (i : Int) < 4 := by omega
   clear hA
   go_wp2_with fail
   go_loopw [25] (fun v wr => ∃ k : Nat, k ≤ 4 ∧ v = .int .i64 k ∧ WdS w l (16 * c) i (accN l A k) wr) (fun v _ => 4 - (intOf v).toNat)
   case atStart => exact ⟨0, by omega, rfl, HS.out⟩
   case round =>
    obtain ⟨k, hk, rfl, hs2⟩ := hrel
    have HS2 := zh hs2
    by_cases hk4 : k < 4
    ·have hkk : (k : Int) < 4 := by omega
     obtain ⟨b, hb⟩ : ∃ b, l.getD (A + k) 0 = b := ⟨_, rfl⟩
     have HB := zh hb
     have c1 : wr.cell? ⟨w.heap.size, A + k, none⟩ = some (.int .u8 b) := by
      rw [hs2.b1.cell, ← hb]
      unfold bytesV
      have := HL.out
      simp [List.getD_eq_getElem?_getD, show A + k < l.length by omega]
     obtain ⟨x, hx⟩ : ∃ x, accN l A k = x := ⟨_, rfl⟩
     have HX := zh hx
     have hbr := getD_rng HR.out (A + k)
     rw [hb] at hbr
     have hxr : 0 ≤ x ∧ x < 16777216 := by
      have := accN_rng HR.out A k
      rw [hx] at this
      rcases (show k = 0 ∨ k = 1 ∨ k = 2 ∨ k = 3 by omega) with rfl | rfl | rfl | rfl <;> simp at this <;> omega
     have c2 : wr.cell? ⟨w.heap.size + 1 + 1, i, none⟩ = some (.int .u32 x) := by rw [show w.heap.size + 1 + 1 = w.heap.size + 2 from rfl, hs2.b3.cell, hx]; exact uWA_get _ _ _ _ hlt
     have z2 : wr.frozen? ⟨w.heap.size + 1 + 1, i, none⟩ = false := hs2.b3.frozen i
     have HBR := zh hbr
     have HXR := zh hxr
     have hsh : IntKind.u32.wrap (x * 256) = x * 256 := by rw [IntKind.wrap_u32]; omega
     clear hs2 hb hx hbr hxr
     go_wp2_with fail
     refine ⟨⟨k + 1, by omega, by congr 1, ?_⟩, by simp [intOf]; omega⟩
     have e : accN l A (k + 1) = x * 256 + b := by
      show accN l A k * 256 + l.getD (A + k) 0 = _
      rw [HX.out, HB.out]
     rw [Int.emod_eq_of_lt HBR.out.1 (by have := HBR.out.2; omega), or_byteS x b HXR.out.1 HXR.out.2 HBR.out.1 HBR.out.2, ← e]
     exact (HS2.out.set_ hlt _).set_ hlt _
    ·have hkk : ¬ (k : Int) < 4 := by omega
     obtain rfl : k = 4 := by omega
     clear hs2
     go_wp2_with fail
     refine ⟨⟨i + 1, by omega, by congr 1, ?_⟩, by simp [intOf]; omega⟩
     have h2 := HS2.out
     rw [accN_num, ← HA.out] at h2
     exact ⟨h2.kp, h2.b1, h2.b2, by have := h2.b3; rwa [uWA_next _ _ _ hlt] at this⟩
  ·have hii : ¬ (i : Int) < 4 := by omega
   obtain rfl : i = 4 := by omega
   have hs := HS.out
   have b3 := hs.b3
   rw [uWA_all] at b3
   have t1 : wr.there (w.heap.size + 1 + 1) 0 4 := b3.thereAll 4 rfl
   have r1 : readRow wr (w.heap.size + 1 + 1) 0 4 = w4A (wordsAt l (16 * c)) := b3.readAll 4 rfl
   have t2 : wr.there (w.heap.size + 1) 0 4 := hs.b2.thereAll 4 rfl
   have o1 := w4A_ones (wordsAt l (16 * c))
   have s1 : (w4A (wordsAt l (16 * c))).size = 4 := rfl
   obtain ⟨RR, hRR⟩ : ∃ RR, w4A (wordsAt l (16 * c)) = RR := ⟨_, rfl⟩
   rw [hRR] at r1 o1 s1
   have HRR := zh hRR
   have S1 := zh s1
   clear hRR
   clear hs b3
   go_wp2_with fail
   refine bodyPost_ret (ret_cell1 rfl _ _ _ _ _ _ rfl (HS.out.b2.whole RR S1.out.symm) Tryz.underlying80 rfl (by rw [S1.out]; exact infoW4)) rfl ⟨by rw [HRR.out], ?_⟩
   exact Kp.setCells (.inl (by omega)) _ _ _ HS.out.kp
end
section
open Go
def Into (F : Nat → Act) (G : World → Nat → Prop) : Exit → Act → World → Prop
 | .normal, a, w => ∃ g, a = F g ∧ G w g
 | _, _, _ => False
theorem wp_into {P : Program} {c : Code} {Q : Exit → Act → World → Prop} {a : Act} {w : World} (F : Nat → Act) (G : World → Nat → Prop) (h : c.wp P (Into F G) a w) (k : ∀ g w', G w' g → Q .normal (F g) w') : c.wp P Q a w :=
 Code.wp_mono (fun e a w q => by cases e <;> first | exact q.elim | (obtain ⟨g, rfl, hg⟩ := q; exact k g _ hg)) h
theorem into_of {F : Nat → Act} {G : World → Nat → Prop} {a : Act} {w : World} (g : Nat) (h : G w g) (e : a = F g) : Into F G .normal a w := ⟨g, e, h⟩
theorem AllReadyH.store {P : Program} {ops : Array Oper} {Q : Exit → Act → World → Prop} {md : Region.Mode} {S : World → Prop} {fuel : Nat} {listed : Array Bool} {a : Act} {w : World} {i : Nat} {o : Oper} {rs : List Nat} (ho : ops[i]? = some o)
  (hw : Region.wanted o (yielded ops a.tmps) = true) (ty : TypeId) (x y : Operand) (hop : o.op = .store ty x y) (b off : Nat) (cells : Array Value)
  (hx : a.eval x = .pointer (some ⟨b, off, none⟩)) (hy : a.eval y = .agg cells) (ht : w.there b off cells.size) (hi : (P.info? ty).map (·.size) = some cells.size) (h1 : cells.all (·.oneCell') = true)
  (hS : S (w.setCells b off cells.toList)) (hn : wpAnyH P md ops Q S fuel (listed.setIfInBounds i true) (a.put o.dst undef) (w.setCells b off cells.toList))
  (hs : AllReadyH P md ops Q S fuel listed a w rs) : AllReadyH P md ops Q S fuel listed a w (i :: rs) :=
 AllReadyH.cons ho (fun K hK => by rw [if_pos hw]; exact wp_store_mid ty x y hop b off cells hx hy ht hi h1 (hK.out _ _ hS (fun _ => hn))) hs
end
section
open Go
def Into4 (F : Nat → Nat → Value → Value → Act) (G : World → Nat → Nat → Value → Value → Prop) : Exit → Act → World → Prop
 | .normal, a, w => ∃ g h u v, a = F g h u v ∧ G w g h u v
 | _, _, _ => False
theorem wp_into4 {P : Program} {c : Code} {Q : Exit → Act → World → Prop} {a : Act} {w : World} (F : Nat → Nat → Value → Value → Act) (G : World → Nat → Nat → Value → Value → Prop) (h : c.wp P (Into4 F G) a w) (k : ∀ g h u v w', G w' g h u v → Q .normal (F g h u v) w') : c.wp P Q a w :=
 Code.wp_mono (fun e a w q => by cases e <;> first | exact q.elim | (obtain ⟨g, h, u, v, rfl, hg⟩ := q; exact k g h u v _ hg)) h
theorem into4_of {F : Nat → Nat → Value → Value → Act} {G : World → Nat → Nat → Value → Value → Prop} {a : Act} {w : World} (g h : Nat) (u v : Value) (q : G w g h u v) (e : a = F g h u v) : Into4 F G .normal a w := ⟨g, h, u, v, e, q⟩
section
variable {P : Program} {ops : Array Oper} {Q : Exit → Act → World → Prop} {md : Region.Mode} {S : World → Prop} {fuel : Nat} {listed : Array Bool} {a : Act} {w : World} {i : Nat} {rs : List Nat}
variable {ds : Option Tmp} {op : Op} {ty : TypeId} {ps : String} {af : Array Edge} {gd : Option (Nat × Bool)}
theorem AllReadyH.callR (R : Value → World → Prop) (ho : ops[i]? = some ⟨ds, op, ty, ps, af, gd⟩) (hw : Region.wanted ⟨ds, op, ty, ps, af, gd⟩ (yielded ops a.tmps) = true) (f : FuncId) (args : Array Value)
  (hr : (execOp a.eval ⟨ds, op, ty, ps, af, gd⟩).run P w = .ok (.enter f args) w) (hS : ∀ v w', R v w' → S w') (hc : Calls P f args w fun e w' => ∃ v, e = .returned v ∧ R v w')
  (hn : ∀ v w', R v w' → wpAnyH P md ops Q S fuel (listed.setIfInBounds i true) (a.put ds v) w')
  (hs : AllReadyH P md ops Q S fuel listed a w rs) : AllReadyH P md ops Q S fuel listed a w (i :: rs) :=
 AllReadyH.cons ho (fun K hK => by
  rw [if_pos hw]
  unfold Oper.wp
  rw [hr, Oper.upon_enter]
  refine hc.mono ?_
  rintro e w' ⟨v, rfl, h⟩
  exact hK.out _ _ (hS v w' h) (fun _ => hn v w' h)) hs
theorem AllReadyH.valR (R : World → Prop) (ho : ops[i]? = some ⟨ds, op, ty, ps, af, gd⟩) (hw : Region.wanted ⟨ds, op, ty, ps, af, gd⟩ (yielded ops a.tmps) = true) (v : Value) (w' : World)
  (hr : (execOp a.eval ⟨ds, op, ty, ps, af, gd⟩).run P w = .ok (.value v) w') (hS : ∀ w', R w' → S w') (h : R w')
  (hn : ∀ w', R w' → wpAnyH P md ops Q S fuel (listed.setIfInBounds i true) (a.put ds v) w')
  (hs : AllReadyH P md ops Q S fuel listed a w rs) : AllReadyH P md ops Q S fuel listed a w (i :: rs) :=
 AllReadyH.cons ho (fun K hK => by
  rw [if_pos hw]
  unfold Oper.wp
  rw [hr, Oper.upon_value]
  exact hK.out _ _ (hS w' h) (fun _ => hn w' h)) hs
theorem AllReadyH.storeL {tx : TypeId} {x y : Operand} (ho : ops[i]? = some ⟨none, .store tx x y, ty, ps, af, gd⟩)
  (hw : Region.wanted ⟨none, .store tx x y, ty, ps, af, gd⟩ (yielded ops a.tmps) = true) (b off : Nat) (cells : Array Value)
  (hx : a.eval x = .pointer (some ⟨b, off, none⟩)) (hy : a.eval y = .agg cells) (ht : w.there b off cells.size) (hi : (P.info? tx).map (·.size) = some cells.size) (h1 : cells.all (·.oneCell') = true)
  (hS : S (w.setCells b off cells.toList)) (hn : wpAnyH P md ops Q S fuel (listed.setIfInBounds i true) a (w.setCells b off cells.toList))
  (hs : AllReadyH P md ops Q S fuel listed a w rs) : AllReadyH P md ops Q S fuel listed a w (i :: rs) :=
 AllReadyH.cons ho (fun K hK => by rw [if_pos hw]; exact wp_store_mid tx x y rfl b off cells hx hy ht hi h1 (hK.out _ _ hS (fun _ => hn))) hs
theorem wpAnyH_takeL {v : Value} (hi : ops[i]? = some ⟨ds, op, ty, ps, af, gd⟩)
  (hs : Region.noSelect ops = true) (hf : Region.free md ops listed i = true) (hr : (Region.ready md ops listed).contains i = true)
  (hQ : ∀ c a w, Q (.panic c) (a.put ds v) w → Q (.panic c) a w) (hy : YieldsIf P ops S ⟨ds, op, ty, ps, af, gd⟩ v a) (hS : S w)
  (h : wpAnyH P md ops Q S fuel (listed.setIfInBounds i true) (a.put ds v) w) : wpAnyH P md ops Q S (fuel + 1) listed a w :=
 wpAnyH_take hi hs hf hr hQ hy hS h
end
end
section
section
variable {P : Go.Program} {ops : Array Go.Oper} {Q : Go.Exit → Go.Act → Go.World → Prop} {md : Go.Region.Mode} {S : Go.World → Prop} {fuel : Nat} {listed : Array Bool} {a : Go.Act} {w : Go.World} {i : Nat}
variable {ds : Option Go.Tmp} {op : Go.Op} {ty : Go.TypeId} {ps : String} {af : Array Go.Edge} {gd : Option (Nat × Bool)}
theorem tkS {v : Go.Value} (hi : ops[i]? = some ⟨ds, op, ty, ps, af, gd⟩) (hy : Go.YieldsIf P ops S ⟨ds, op, ty, ps, af, gd⟩ v a) (hS : S w)
  (h : Go.wpAnyH P md ops Q S fuel (listed.setIfInBounds i true) (a.put ds v) w) (hQ : ∀ c a w, Q (.panic c) (a.put ds v) w → Q (.panic c) a w := by exact fun _ _ _ h => h)
  (hs : Go.Region.noSelect ops = true := by kernel_rfl) (hf : Go.Region.free md ops listed i = true := by kernel_rfl) (hr : (Go.Region.ready md ops listed).contains i = true := by kernel_rfl) : Go.wpAnyH P md ops Q S (fuel + 1) listed a w :=
 wpAnyH_takeL hi hs hf hr hQ hy hS h
end
theorem sA (l : List Go.Value) (i : Nat) (v : Go.Value) : l.toArray.setIfInBounds i v = (l.set i v).toArray := by simp
theorem sB (x : Go.Value) (l : List Go.Value) (v : Go.Value) : (x :: l).set 0 v = v :: l := rfl
theorem sC (x : Go.Value) (l : List Go.Value) (i : Nat) (v : Go.Value) : (x :: l).set (i + 1) v = x :: l.set i v := rfl
end
section
section
variable {P : Go.Program} {ops : Array Go.Oper} {Q : Go.Exit → Go.Act → Go.World → Prop} {md : Go.Region.Mode} {S : Go.World → Prop} {fuel : Nat} {listed : Array Bool} {a : Go.Act} {w : Go.World} {i : Nat}
variable {ds : Option Go.Tmp} {op : Go.Op} {ty : Go.TypeId} {ps : String} {af : Array Go.Edge} {gd : Option (Nat × Bool)}
theorem tkJ {v : Go.Value} (hi : ops[i]? = some ⟨ds, op, ty, ps, af, gd⟩) (hS : S w)
  (h : Go.wpAnyH P md ops Q S fuel (listed.setIfInBounds i true) (a.put ds v) w) (hy : Go.YieldsIf P ops S ⟨ds, op, ty, ps, af, gd⟩ v a := by exact Or.inl ⟨by rfl, fun w' hq => by go_simp⟩) (hQ : ∀ c a w, Q (.panic c) (a.put ds v) w → Q (.panic c) a w := by exact fun _ _ _ h => h)
  (hs : Go.Region.noSelect ops = true := by kernel_rfl) (hf : Go.Region.free md ops listed i = true := by kernel_rfl) (hr : (Go.Region.ready md ops listed).contains i = true := by kernel_rfl) : Go.wpAnyH P md ops Q S (fuel + 1) listed a w :=
 wpAnyH_takeL hi hs hf hr hQ hy hS h
theorem tkU (hi : ops[i]? = some ⟨ds, op, ty, ps, af, gd⟩) (hS : S w)
  (h : Go.wpAnyH P md ops Q S fuel (listed.setIfInBounds i true) (a.put ds Go.undef) w) (hy : Go.YieldsIf P ops S ⟨ds, op, ty, ps, af, gd⟩ Go.undef a := by exact Or.inr ⟨by rfl, rfl⟩) (hQ : ∀ c a w, Q (.panic c) (a.put ds Go.undef) w → Q (.panic c) a w := by exact fun _ _ _ h => h)
  (hs : Go.Region.noSelect ops = true := by kernel_rfl) (hf : Go.Region.free md ops listed i = true := by kernel_rfl) (hr : (Go.Region.ready md ops listed).contains i = true := by kernel_rfl) : Go.wpAnyH P md ops Q S (fuel + 1) listed a w :=
 wpAnyH_takeL hi hs hf hr hQ hy hS h
theorem tkR (rs : List Nat) (h : Go.AllReadyH P md ops Q S fuel listed a w rs) (hr : Go.Region.ready md ops listed = rs := by kernel_rfl) (hne : rs ≠ [] := by simp) : Go.wpAnyH P md ops Q S (fuel + 1) listed a w := Go.wpAnyH_ready hr hne h
end
end
section
open Go.RowKit
def Sl (w : World) (A : Option Addr) (n : Nat) (xs : List ByteArray) : Prop :=
 xs.length = n ∧ (0 < n → ∃ g o, A = some ⟨g, o, none⟩ ∧ g < w.heap.size ∧ ∀ k, k < n → w.cell? ⟨g, o + k, none⟩ = some (.string (xs.getD k ByteArray.empty)))
theorem Sl.keep {w w' : World} {A : Option Addr} {n : Nat} {xs : List ByteArray} (h : Sl w A n xs) (k : Kp NoB w w') : Sl w' A n xs :=
 ⟨h.1, fun hn => by
  obtain ⟨g, o, e, hg, hc⟩ := h.2 hn
  exact ⟨g, o, e, Nat.lt_of_lt_of_le hg k.size, fun j hj => (k.cell hg (fun q => q)).trans (hc j hj)⟩⟩
end
section
open Go.RowKit
attribute [local go_sem ↓] load26 store26 alloc26 build26 slice26lo
def w8 (n : Int) : Int := n % 256
def hd6 (kind link : Int) (n : Nat) : List Int := [kind, w8 n, w8 (link / 16777216), w8 (link / 65536), w8 (link / 256), w8 link]
theorem bytesV_noStr {l : List Int} {i : Nat} {c : ByteArray} (h : (bytesV l)[i]? = some (.string c)) : False := by
 unfold bytesV at h
 simp only [List.getElem?_toArray, List.getElem?_map] at h
 cases hq : l[i]? <;> rw [hq] at h <;> simp at h
theorem Sl.on {W W' : World} {A : Option Addr} {n : Nat} {xs : List ByteArray} {g4 : Nat} {t : TypeId} {l : List Int} (h : Sl W A n xs) (hb : Blk W g4 t (bytesV l)) (k : Kp (OnB g4) W W') : Sl W' A n xs := by
 refine ⟨h.1, fun hn => ?_⟩
 obtain ⟨g, o, e, hg, hc⟩ := h.2 hn
 have hne : ¬ OnB g4 g := fun q => by
  unfold OnB at q
  subst q
  have c0 := hc 0 hn
  rw [hb.cell] at c0
  exact bytesV_noStr c0
 exact ⟨g, o, e, Nat.lt_of_lt_of_le hg k.size, fun j hj => (k.cell hg hne).trans (hc j hj)⟩
end
section
open Go.RowKit
attribute [local go_sem ↓] load26 store26 alloc26 build26 slice26lo
end
section
open Go.RowKit
attribute [local go_sem ↓] load26 store26 alloc26 build26 slice26lo
end
section
open Go.RowKit
attribute [local go_sem ↓] load26 store26 alloc26 build26 slice26lo
end
section
open Go.RowKit
attribute [local go_sem ↓] load26 store26 alloc26 build26 slice26lo
end
section
open Go.RowKit
attribute [local go_sem ↓] load26 store26 alloc26 build26 slice26lo slice26lohi conv64
def at_ (l : List Int) (i : Nat) : Int := l[i]?.getD 0
structure Bytes (l : List Int) : Prop where
 len : l.length = 256
 rng : ∀ i, 0 ≤ at_ l i ∧ at_ l i < 256
def ReadPost (w : World) (r : Option (Int × Int × List ByteArray)) (e : Ending) (w' : World) : Prop :=
 Kp NoB w w' ∧ ((r = none ∧ e = .returned (.tuple #[.agg #[.int .u8 0, .int .u32 0, .slice none 0 0], .bool false])) ∨
  ∃ kind link cs v, r = some (kind, link, cs) ∧ e = .returned (.tuple #[.agg #[.int .u8 kind, .int .u32 link, v], .bool true]) ∧ w'.ownsRow w.heap.size 9 1 v cs.length (cs.map Value.string))
end
section
open Go.RowKit
theorem own_Sl {w : World} {base n : Nat} {A : Option Addr} {cap : Nat} {cs : List ByteArray} (h : w.ownsRow base 9 1 (.slice A n cap) n (cs.map Value.string)) (hl : cs.length = n) : Sl w A n cs := by
 refine ⟨hl, fun hn => ?_⟩
 obtain ⟨g, rfl, hb, hlt⟩ := own_at h hn
 refine ⟨g, 0, rfl, hlt, fun k hk => ?_⟩
 rcases h.2 with ⟨h0, _⟩ | ⟨g', cap', cur, hv, hb', hh, h1, h2, h3, h4⟩
 ·cases h0
 ·simp only [Value.slice.injEq, Option.some.injEq, Addr.mk.injEq] at hv
  obtain ⟨⟨rfl, _⟩, _, rfl⟩ := hv
  rw [cell_of_row w g (0 + k) cur 9 (0, 0) hh]
  have hkc : k < cur.size := by omega
  have e : (cur.toList.take (n * 1))[k]? = (cs.map Value.string)[k]? := by rw [h4]
  rw [List.getElem?_take_of_lt (by omega)] at e
  simp only [Nat.zero_add]
  rw [← Array.getElem?_toList, e, List.getElem?_map]
  simp [show k < cs.length by omega]
theorem ReadPost.none {w w' : World} {e : Ending} (h : ReadPost w none e w') : Kp NoB w w' ∧ e = .returned (.tuple #[.agg #[.int .u8 0, .int .u32 0, .slice none 0 0], .bool false]) := by
 refine ⟨h.1, ?_⟩
 rcases h.2 with q | ⟨_, _, _, _, q, _⟩
 ·exact q.2
 ·cases q
theorem ReadPost.some {w w' : World} {e : Ending} {kind link : Int} {cs : List ByteArray} (h : ReadPost w (some (kind, link, cs)) e w') :
  Kp NoB w w' ∧ ∃ A cap, e = .returned (.tuple #[.agg #[.int .u8 kind, .int .u32 link, .slice A cs.length cap], .bool true]) ∧ w'.ownsRow w.heap.size 9 1 (.slice A cs.length cap) cs.length (cs.map Value.string) ∧ Sl w' A cs.length cs := by
 refine ⟨h.1, ?_⟩
 rcases h.2 with q | ⟨_, _, _, v, q, rfl, ho⟩
 ·cases q.1
 ·simp only [Option.some.injEq, Prod.mk.injEq] at q
  obtain ⟨rfl, rfl, rfl⟩ := q
  obtain ⟨A, cap, rfl⟩ := own_slice ho
  exact ⟨A, cap, rfl, ho, own_Sl ho rfl⟩
end
section
open Go.RowKit
end
section
open Go.RowKit
def rowOK (k : IntKind) (n : Nat) (v : Value) : Prop := ∃ l : List Int, l.length = n ∧ v = .agg (l.map (Value.int k)).toArray
noncomputable def valEq (u v : Value) : Bool := @decide (u = v) (Classical.propDecidable _)
@[go_sem] theorem valEq_self (u : Value) : valEq u u = true := by unfold valEq; simp
theorem valEq_iff (u v : Value) : valEq u v = true ↔ u = v := by unfold valEq; simp
theorem all_range_eqI : ∀ (xs ys : List Int), xs.length = ys.length → ((List.range xs.length).all fun i => xs.getD i 0 == ys.getD i 0) = (xs == ys)
 | [], [], _ => rfl
 | x :: xs, y :: ys, h => by
  have ih := all_range_eqI xs ys (by simpa using h)
  rw [List.length_cons, List.range_succ_eq_map, List.all_cons, List.all_map]
  simp only [List.getD_cons_zero, Function.comp_def, List.getD_cons_succ, ih]
  simp [List.cons_beq_cons]
 | [], _ :: _, h => by simp at h
 | _ :: _, [], h => by simp at h
section
variable {P : Program} (w : World)
theorem run_equalIn_ints (d : Nat) (t e : TypeId) (n : Nat) (k : IntKind) (ht : P.underlying t = some (.array n e)) (he : P.underlying e = some (.int k)) (hsz : ∀ w, (sizeOf e).run P w = .ok 1 w)
  (xs ys : List Int) (hx : xs.length = n) (hy : ys.length = n) :
  (Op.equalIn (d + 2) t (.agg (xs.map (Value.int k)).toArray) (.agg (ys.map (Value.int k)).toArray)).run P w = .ok (xs == ys) w := by
 rw [← all_range_eqI xs ys (hx.trans hy.symm), hx, List.range_eq_range', Op.equalIn]
 simp only [Sem.run_bind, run_underlying ht, Result.andThen_ok, hsz, Std.Legacy.Range.forIn_eq_forIn_range', Std.Legacy.Range.size, Nat.sub_zero, Nat.add_sub_cancel, Nat.div_one]
 have hl : ∀ i ∈ List.range' 0 n 1, i < n := fun i hi => by simpa using (List.mem_range'_1.1 hi).2
 generalize List.range' 0 n 1 = l at hl ⊢
 induction l with
 | nil => simp
 | cons i l ih =>
  have hi : i < n := hl i (by simp)
  have px : (part e (xs.map (Value.int k)).toArray (i * 1)).run P w = .ok (.int k (xs.getD i 0)) w := by
   simp [part, isAgg, run_underlying he, List.getD, List.getElem?_eq_getElem (show i < xs.length by omega)]
  have py : (part e (ys.map (Value.int k)).toArray (i * 1)).run P w = .ok (.int k (ys.getD i 0)) w := by
   simp [part, isAgg, run_underlying he, List.getD, List.getElem?_eq_getElem (show i < ys.length by omega)]
  have pe : (Op.equalIn (d + 1) e (.int k (xs.getD i 0)) (.int k (ys.getD i 0))).run P w = .ok (xs.getD i 0 == ys.getD i 0) w := by
   rw [run_equalIn_int w d e k k _ _ he]
  simp only [List.forIn_cons, Sem.run_bind, px, py, pe, Result.andThen_ok, List.all_cons]
  cases hb : (xs.getD i 0 == ys.getD i 0)
  ·simp
  ·simp only [Bool.not_true, Bool.false_eq_true, if_false, Sem.run_pure, Result.andThen_ok, Bool.true_and]
   exact ih fun j hj => hl j (by simp [hj])
theorem run_eql_ints (t e : TypeId) (n : Nat) (k : IntKind) (ht : P.underlying t = some (.array n e)) (he : P.underlying e = some (.int k)) (hsz : ∀ w, (sizeOf e).run P w = .ok 1 w)
  (u v : Value) (hu : rowOK k n u) (hv : rowOK k n v) :
  (binOp .eql t u v).run P w = .ok (.bool (valEq u v)) w ∧ (binOp .neq t u v).run P w = .ok (.bool (!valEq u v)) w := by
 obtain ⟨xs, hx, rfl⟩ := hu
 obtain ⟨ys, hy, rfl⟩ := hv
 have he' := run_equalIn_ints w 9998 t e n k ht he hsz xs ys hx hy
 have e2 : (xs == ys) = valEq (.agg (xs.map (Value.int k)).toArray) (.agg (ys.map (Value.int k)).toArray) := by
  rw [Bool.eq_iff_iff, valEq_iff, beq_iff_eq]
  constructor
  ·rintro rfl; rfl
  ·intro h
   injection h with h
   have h1 := congrArg Array.toList h
   exact map_int_inj (by simpa using h1)
 rw [e2] at he'
 constructor
 ·rw [run_eql_struct, he']
  rfl
 ·rw [run_neq_struct, he']
  rfl
theorem execEql_row {T e n : Nat} {k : IntKind} (op : BinOp) (hop : op = .eql ∨ op = .neq) (ht : P.underlying T = some (.array n e)) (he : P.underlying e = some (.int k)) (hsz : ∀ w, (sizeOf e).run P w = .ok 1 w) (hm : P.eqGuardType P.depth T = false)
  (ev : Operand → Value) (ds : Option Tmp) (x y : Operand) (yt ty : TypeId) (ps : String) (af : Array Edge) (g : Option (Nat × Bool)) (hx : rowOK k n (ev x)) (hy : rowOK k n (ev y)) :
  (execOp ev ⟨ds, .binOp op T x y yt, ty, ps, af, g⟩).run P w = .ok (.value (.bool (if op = .eql then valEq (ev x) (ev y) else !valEq (ev x) (ev y)))) w := by
 have hr := run_eql_ints w T e n k ht he hsz (ev x) (ev y) hx hy
 have hg : (eqGuard op T x y (ev x) (ev y)).run P w = .ok () w := by
  obtain ⟨xs, _, hx⟩ := hx
  obtain ⟨ys, _, hy⟩ := hy
  rw [hx, hy]
  exact run_eqGuard_agg w op T x y _ _ hm
 rcases hop with rfl | rfl
 ·simp only [execOp, Sem.run_bind, hg, Result.andThen_ok, hr.1, Sem.run_pure, if_true]
 ·simp only [execOp, Sem.run_bind, hg, Result.andThen_ok, hr.2, Sem.run_pure, reduceCtorEq, if_false]
end
def pgOK (v : Value) : Prop := rowOK .u8 256 v
theorem pgOK_bytes (l : List Int) (h : l.length = 256) : pgOK (.agg (bytesV l)) := ⟨l, h, rfl⟩
theorem pgOK_zero : pgOK (.agg zero256) := pgOK_bytes (zeros 256) (List.length_replicate ..)
theorem guard26 : Tryz.prog.eqGuardType Tryz.prog.depth 46 = false := by kernel_rfl
theorem eql26 (w : World) (ev : Operand → Value) (ds : Option Tmp) (x y : Operand) (yt ty : TypeId) (ps : String) (af : Array Edge) (g : Option (Nat × Bool)) (hx : pgOK (ev x)) (hy : pgOK (ev y)) :
  (execOp ev ⟨ds, .binOp .eql 46 x y yt, ty, ps, af, g⟩).run Tryz.prog w = .ok (.value (.bool (valEq (ev x) (ev y)))) w :=
 execEql_row w .eql (.inl rfl) Tryz.underlying46 Tryz.underlying5 sizeU8 guard26 ev ds x y yt ty ps af g hx hy
end
section
open Go.RowKit
attribute [local go_sem ↓] loadSec storeSec allocSec loadW4 storeW4
theorem four_inj {a b : Int} : ∀ {l m : List Int}, l.length = 4 → m.length = 4 → (∀ y ∈ l, 0 ≤ y ∧ y < 256) → (∀ y ∈ m, 0 ≤ y ∧ y < 256) → (num l 0 = num m 0 ↔ l = m)
 | [a, b, c, d], [e, f, g, h], _, _, h1, h2 => by
  simp only [List.mem_cons, List.not_mem_nil, or_false, forall_eq_or_imp, forall_eq] at h1 h2
  unfold num
  simp only [List.getD_cons_zero, List.getD_cons_succ, List.cons.injEq, and_true, Nat.zero_add]
  omega
theorem num_drop (l : List Int) (a : Nat) : num l a = num ((l.drop a).take 4) 0 := by
 unfold num
 simp only [List.getD_eq_getElem?_getD, List.getElem?_take, List.getElem?_drop]
 simp
theorem words_eq {l : List Int} (hl : l.length = 64) (hr : ∀ y ∈ l, 0 ≤ y ∧ y < 256) : (wordsAt l 0 = wordsAt l 16) ↔ l.take 16 = (l.drop 16).take 16 := by
 have hd : ∀ a, ∀ y ∈ (l.drop a).take 4, 0 ≤ y ∧ y < 256 := fun a y hy => hr y (List.mem_of_mem_drop (List.mem_of_mem_take hy))
 have key : ∀ a b, a + 4 ≤ 64 → b + 4 ≤ 64 → (num l a = num l b ↔ (l.drop a).take 4 = (l.drop b).take 4) := fun a b ha hb => by
  rw [num_drop l a, num_drop l b]
  exact four_inj (a := 0) (b := 0) (by simp; omega) (by simp; omega) (hd a) (hd b)
 have split16 : ∀ a, a + 16 ≤ 64 → (l.drop a).take 16 = (l.drop a).take 4 ++ ((l.drop (a + 4)).take 4 ++ ((l.drop (a + 8)).take 4 ++ (l.drop (a + 12)).take 4)) := fun a ha => by
  have e : ∀ b k, (l.drop b).take (4 + k) = (l.drop b).take 4 ++ (l.drop (b + 4)).take k := fun b k => by
   rw [List.take_add, List.drop_drop]
  rw [show 16 = 4 + (4 + (4 + 4)) from rfl, e, e, e]
 have h0 := split16 0 (by omega)
 have h1 := split16 16 (by omega)
 rw [List.drop_zero] at h0
 constructor
 ·intro h
  simp only [wordsAt, W4.mk.injEq] at h
  obtain ⟨a, b, c, d⟩ := h
  rw [h0, h1, (key _ _ (by omega) (by omega)).1 b, (key _ _ (by omega) (by omega)).1 c, (key _ _ (by omega) (by omega)).1 d]
  have := (key 0 16 (by omega) (by omega)).1 a
  rw [List.drop_zero] at this
  rw [this]
 ·intro h
  have hh := h
  rw [h0, h1] at h
  have ln : ∀ a, a + 4 ≤ 64 → ((l.drop a).take 4).length = 4 := fun a ha => by simp; omega
  have q0 := ln 0 (by omega)
  rw [List.drop_zero] at q0
  obtain ⟨a, h⟩ := List.append_inj h (by rw [q0, ln 16 (by omega)])
  obtain ⟨b, h⟩ := List.append_inj h (by rw [ln _ (by omega), ln _ (by omega)])
  obtain ⟨c, d⟩ := List.append_inj h (by rw [ln _ (by omega), ln _ (by omega)])
  simp only [wordsAt, W4.mk.injEq]
  refine ⟨(key 0 16 (by omega) (by omega)).2 ?_, (key _ _ (by omega) (by omega)).2 b, (key _ _ (by omega) (by omega)).2 c, (key _ _ (by omega) (by omega)).2 d⟩
  rw [List.drop_zero]
  exact a
theorem W4.eta_of {u v : W4} (h : u.a = v.a ∧ u.b = v.b ∧ u.c = v.c ∧ u.d = v.d) : u = v := by
 cases u
 cases v
 simp_all
def W4.l (w : W4) : List Int := [w.a, w.b, w.c, w.d]
theorem eqW4 (w : World) (u v : W4) : (Op.equalIn 10000 80 (.agg (w4A u)) (.agg (w4A v))).run Tryz.prog w = .ok (u.l == v.l) w :=
 run_equalIn_ints w 9998 80 78 4 .u32 Tryz.underlying80 Tryz.underlying78 (fun _ => by kernel_rfl) u.l v.l rfl rfl
structure OpS (w : World) (l : List Int) (W : World) : Prop where
 kp : Kp NoB w W
 b1 : Blk W w.heap.size 119 (bytesV l)
 b2 : Blk W (w.heap.size + 1) 80 #[.int .u32 0, .int .u32 0, .int .u32 0, .int .u32 0]
theorem OpS.keep {w : World} {l : List Int} {W W' : World} (h : OpS w l W) (k : Kp NoB W W') : OpS w l W' := ⟨h.kp.trans k (fun _ _ q => q), h.b1.keep k (fun q => q), h.b2.keep k (fun q => q)⟩
theorem OpS.sp {w : World} {l : List Int} {W : World} (h : OpS w l W) : W.rangeAt w.heap.size 0 (l.map (Value.int .u8)) := by
 have := Blk.range (xa := []) (xb := l.map (Value.int .u8)) (xd := []) (by have := h.b1; unfold bytesV at this; simpa using this) 0 rfl
 exact this
theorem OpS.at_ {w : World} {l : List Int} {W : World} (h : OpS w l W) (hl : l.length = 64) : W.there w.heap.size 0 64 ∧ readRow W w.heap.size 0 64 = bytesV l :=
 ⟨h.b1.thereAll 64 (by simp [bytesV, hl]), h.b1.readAll 64 (by simp [bytesV, hl])⟩
set_option maxRecDepth 100000 in
set_option maxHeartbeats 1600000 in
theorem open_ok (w : World) (l : List Int) (hl : l.length = 64) (hr : ∀ y ∈ l, 0 ≤ y ∧ y < 256) :
  Calls Tryz.prog 76 #[.agg (bytesV l)] w fun e w' => e = .returned (.agg (w4A (openB l))) ∧ Kp NoB w w' := by
 have HL := zh hl
 have HR := zh hr
 have HW := zh (words_eq hl hr)
 clear hl hr
 have hve : ((wordsAt l 0).l == (wordsAt l 16).l) = decide (l.take 16 = (l.drop 16).take 16) := by
  rw [Bool.eq_iff_iff, beq_iff_eq, decide_eq_true_iff, ← HW.out]
  constructor
  ·intro h
   simp only [W4.l, List.cons.injEq, and_true] at h
   exact W4.eta_of h
  ·intro h
   rw [h]
 have heq := fun w' => eqW4 w' (wordsAt l 0) (wordsAt l 16)
 rw [hve] at heq
 obtain ⟨D, hD⟩ : ∃ D, decide (l.take 16 = (l.drop 16).take 16) = D := ⟨_, rfl⟩
 rw [hD] at heq
 have HD := zh hD
 clear hve hD
 have hu := Tryz.underlying119
 have hi1 : (Tryz.prog.info? 119).map (·.size) = some (l.map (Value.int .u8)).length := by rw [List.length_map, HL.out]; exact infoSec
 have HST : Hid (OpS w l ((w.alloc (.cells (bytesV l) 119)).alloc (.cells #[.int .u32 0, .int .u32 0, .int .u32 0, .int .u32 0] 80))) :=
  zh ⟨((Kp.refl _ _).alloc _).alloc _, (Blk.new _ _ _).alloc _, Blk.newAt _ _ _ _ (by simp)⟩
 go_enter Tryz.func76, Tryz.ntmps76
 go_wp2_with fail
 refine forget (p := fun wx => Code.wp _ _ _ _ wx) (OpS w l) HST.out ?_
 intro W hW
 clear HST
 refine wp_region_held_drew (S := fun W' => W'.rangeAt w.heap.size 0 (l.map (Value.int .u8))) (by kernel_rfl) hW.sp (fun hHeld => ?_)
 have h0 := hW.keep (Kp.refl NoB W).drew
 generalize W.drew = W0 at h0 hHeld ⊢
 refine tkS (i := 0) (v := .agg ((l.map (Value.int .u8))).toArray) rfl (yieldsIf_load_mid (by rfl) _ _ rfl _ _ rfl (l.map (Value.int .u8)) _ (fun _ q => q) hu rfl hi1) h0.sp ?_
 simp only [Act.put, sA, sB, sC]
 refine tkS (i := 2) (v := .agg ((l.map (Value.int .u8))).toArray) rfl (yieldsIf_load_mid (by rfl) _ _ rfl _ _ rfl (l.map (Value.int .u8)) _ (fun _ q => q) hu rfl hi1) h0.sp ?_
 simp only [Act.put, sA, sB, sC]
 refine tkR [1] ?_
 refine AllReadyH.callR (fun x W' => x = .agg (w4A (wordsAt l 0)) ∧ OpS w l W') rfl (by rfl) 107 #[.agg (bytesV l), .int .i64 0] (by first | (go_simp; done) | (go_simp; rfl)) (fun _ _ q => q.2.sp) ((words_ok W0 l 0 (by omega) HL.out HR.out).mono (by rintro e w19 ⟨rfl, hk⟩; exact ⟨_, rfl, rfl, h0.keep hk⟩)) ?_ AllReadyH.nil
 rintro _ W1 ⟨rfl, h1⟩
 simp only [Act.put, sA, sB, sC]
 refine tkR [3] ?_
 refine AllReadyH.callR (fun x W' => x = .agg (w4A (wordsAt l 16)) ∧ OpS w l W') rfl (by rfl) 107 #[.agg (bytesV l), .int .i64 1] (by first | (go_simp; done) | (go_simp; rfl)) (fun _ _ q => q.2.sp) ((words_ok W1 l 1 (by omega) HL.out HR.out).mono (by rintro e w19 ⟨rfl, hk⟩; exact ⟨_, rfl, rfl, h1.keep hk⟩)) ?_ AllReadyH.nil
 rintro _ W2 ⟨rfl, h2⟩
 simp only [Act.put, sA, sB, sC]
 refine tkJ (i := 4) (v := (.bool D)) rfl h2.sp ?_
 simp only [Act.put, sA, sB, sC]
 refine wpAnyH_done (by kernel_rfl) ?_ _
 clear hHeld h0 h1 hW
 have H2 := zh h2
 obtain ⟨t1, r1⟩ := h2.at_ HL.out
 have t2 : W2.there (w.heap.size + 1) 0 4 := h2.b2.thereAll 4 rfl
 have e1 : openB l = if l.take 16 = (l.drop 16).take 16 then wordsAt l 0 else wordsAt l 32 := rfl
 have HE := zh e1
 clear h2 hi1 hu e1 heq
 have hll : ∀ k, (w4A (wordsAt l k)).size = 4 := fun _ => rfl
 rcases D with _ | _
 ·have e2 : openB l = wordsAt l 32 := by rw [HE.out, if_neg (of_decide_eq_false HD.out)]
  go_wp2_with fail
  refine (words_ok W2 l 2 (by omega) HL.out HR.out).mono ?_
  rintro e w3 ⟨rfl, hk⟩
  have H3 := zh (H2.out.keep hk)
  have t3 : w3.there (w.heap.size + 1) 0 4 := H3.out.b2.thereAll 4 rfl
  obtain ⟨RR, hRR⟩ : ∃ RR, w4A (wordsAt l (16 * 2)) = RR := ⟨_, rfl⟩
  have o1 := w4A_ones (wordsAt l (16 * 2))
  have s1 : (w4A (wordsAt l (16 * 2))).size = 4 := rfl
  rw [hRR] at o1 s1
  rw [hRR]
  have HRR := zh hRR
  have S1 := zh s1
  clear hk hRR hll
  go_wp2_with fail
  refine bodyPost_ret (ret_cell1 rfl _ _ _ _ _ _ rfl (H3.out.b2.whole RR S1.out.symm) Tryz.underlying80 rfl (by rw [S1.out]; exact infoW4)) rfl ⟨by rw [e2, ← HRR.out], ?_⟩
  exact Kp.setCells (.inl (by omega)) _ _ _ H3.out.kp
 ·have e2 : openB l = wordsAt l 0 := by rw [HE.out, if_pos (of_decide_eq_true HD.out)]
  go_wp2_with fail
  refine (words_ok W2 l 0 (by omega) HL.out HR.out).mono ?_
  rintro e w3 ⟨rfl, hk⟩
  have H3 := zh (H2.out.keep hk)
  have t3 : w3.there (w.heap.size + 1) 0 4 := H3.out.b2.thereAll 4 rfl
  obtain ⟨RR, hRR⟩ : ∃ RR, w4A (wordsAt l (16 * 0)) = RR := ⟨_, rfl⟩
  have o1 := w4A_ones (wordsAt l (16 * 0))
  have s1 : (w4A (wordsAt l (16 * 0))).size = 4 := rfl
  rw [hRR] at o1 s1
  rw [hRR]
  have HRR := zh hRR
  have S1 := zh s1
  clear hk hRR hll
  go_wp2_with fail
  refine bodyPost_ret (ret_cell1 rfl _ _ _ _ _ _ rfl (H3.out.b2.whole RR S1.out.symm) Tryz.underlying80 rfl (by rw [S1.out]; exact infoW4)) rfl ⟨by rw [e2, ← HRR.out], ?_⟩
  exact Kp.setCells (.inl (by omega)) _ _ _ H3.out.kp
end
section
open Go.RowKit
attribute [local go_sem ↓] loadSec storeSec allocSec loadW4 storeW4
def W4.at_ (w : W4) (i : Nat) : Int := if i = 0 then w.a else if i = 1 then w.b else if i = 2 then w.c else w.d
def byteK (n : Int) (k : Nat) : Int := if k = 0 then n / 16777216 % 256 else if k = 1 then n / 65536 % 256 else if k = 2 then n / 256 % 256 else n % 256
def W4.b3 (w : W4) : List Int := w.bytes ++ w.bytes ++ w.bytes
theorem b3_len (w : W4) : w.b3.length = 48 := rfl
theorem b3_at (w : W4) (c i k : Nat) (hc : c < 3) (hi : i < 4) (hk : k < 4) : w.b3[16 * c + 4 * i + k]? = some (byteK (w.at_ i) k) := by
 rcases (show c = 0 ∨ c = 1 ∨ c = 2 by omega) with rfl | rfl | rfl <;> rcases (show i = 0 ∨ i = 1 ∨ i = 2 ∨ i = 3 by omega) with rfl | rfl | rfl | rfl <;> rcases (show k = 0 ∨ k = 1 ∨ k = 2 ∨ k = 3 by omega) with rfl | rfl | rfl | rfl <;> rfl
def upS (w : W4) (n : Nat) : List Int := w.b3.take n ++ zeros (64 - n)
theorem upS_all (w : W4) : upS w 48 = sealB w := rfl
theorem upS_set (w : W4) (n : Nat) (x : Int) (hn : n < 48) (hx : w.b3[n]? = some x) : (upS w n).set n x = upS w (n + 1) := by
 unfold upS
 have e1 : (w.b3.take n).length = n := by rw [List.length_take, b3_len]; omega
 rw [List.set_append_right _ _ (by omega), e1, Nat.sub_self, show 64 - n = (64 - (n + 1)) + 1 by omega]
 unfold zeros
 rw [List.replicate_succ, List.set_cons_zero, List.take_add_one, hx]
 simp
theorem bytesV_setJ (l : List Int) (n : Nat) (x : Int) : (bytesV l).setIfInBounds n (.int .u8 x) = bytesV (l.set n x) := by
 unfold bytesV
 rw [List.setIfInBounds_toArray, List.map_set]
structure SeS (w : World) (v : W4) (n : Nat) (W : World) : Prop where
 kp : Kp NoB w W
 b0 : Blk W w.heap.size 80 (w4A v)
 b1 : Blk W (w.heap.size + 1) 119 (bytesV (zeros 64))
 b2 : Blk W (w.heap.size + 2) 119 (bytesV (upS v n))
theorem SeS.set_ {w : World} {v : W4} {n : Nat} {W : World} (h : SeS w v n W) (hn : n < 48) (x : Int) (hx : v.b3[n]? = some x) : SeS w v (n + 1) (W.setCell ⟨w.heap.size + 2, n, none⟩ (.int .u8 x)) := by
 refine ⟨h.kp.setCell (p := ⟨w.heap.size + 2, n, none⟩) (.inl (by show _ ≤ w.heap.size + 2; omega)) _, h.b0.far (p := ⟨w.heap.size + 2, n, none⟩) (by simp) _, h.b1.far (p := ⟨w.heap.size + 2, n, none⟩) (by simp) _, ?_⟩
 have := h.b2.set_ n (.int .u8 x)
 rwa [bytesV_setJ, upS_set _ _ _ hn hx] at this
theorem indexW4 (v : W4) (i : Nat) (hi : i < 4) (w : World) : (Instr.index 80 (.agg (w4A v)) (.int .i64 i)).run Tryz.prog w = .ok (.int .u32 (v.at_ i)) w := by
 obtain ⟨inf, h1, h2⟩ : ∃ inf, Tryz.prog.info? 78 = some inf ∧ inf.size = 1 := by
  have h : (Tryz.prog.info? 78).map (·.size) = some 1 := by kernel_rfl
  cases hq : Tryz.prog.info? 78 with
  | none => rw [hq] at h; cases h
  | some i => rw [hq] at h; exact ⟨i, rfl, by simpa using h⟩
 exact run_index_arr w 80 78 4 (.int .u32) inf Tryz.underlying80 Tryz.underlying78 rfl h1 h2 (w4A v).toList i hi _ (by
  rcases (show i = 0 ∨ i = 1 ∨ i = 2 ∨ i = 3 by omega) with rfl | rfl | rfl | rfl <;> rfl)
set_option maxRecDepth 100000 in
set_option maxHeartbeats 1600000 in
theorem seal_ok (w : World) (v : W4) : Calls Tryz.prog 82 #[.agg (w4A v)] w fun e w' => e = .returned (.agg (bytesV (sealB v))) ∧ Kp NoB w w' := by
 have hst : SeS w v 0 (((w.alloc (.cells (w4A v) 80)).alloc (.cells (bytesV (zeros 64)) 119)).alloc (.cells (bytesV (zeros 64)) 119)) :=
  ⟨(((Kp.refl _ _).alloc _).alloc _).alloc _, ((Blk.new _ _ _).alloc _).alloc _, (Blk.newAt _ _ _ _ (by simp)).alloc _, Blk.newAt _ _ _ _ (by simp)⟩
 have HST := zh hst
 clear hst
 go_enter Tryz.func82, Tryz.ntmps82
 go_wp2
 refine forget (p := fun wx => Code.wp _ _ _ _ wx) (SeS w v 0) HST.out ?_
 intro W hW
 have HW := zh hW
 clear hW HST
 go_loopw [8] (fun x wr => ∃ c : Nat, c ≤ 3 ∧ x = .int .i64 c ∧ SeS w v (16 * c) wr) (fun x _ => 3 - (intOf x).toNat)
 case atStart => exact ⟨0, by omega, rfl, HW.out⟩
 case round =>
  obtain ⟨c, hc, rfl, hs⟩ := hrel
  have HS := zh hs
  by_cases hc3 : c < 3
  ·have hcc : (c : Int) < 3 := by omega
   have t0 : wr.there w.heap.size 0 4 := hs.b0.thereAll 4 rfl
   have r0 : readRow wr w.heap.size 0 4 = w4A v := hs.b0.readAll 4 rfl
   clear hs
   go_wp2_with fail
   go_loopw [12] (fun x wr => ∃ i : Nat, i ≤ 4 ∧ x = .int .i64 i ∧ SeS w v (16 * c + 4 * i) wr) (fun x _ => 4 - (intOf x).toNat)
   case atStart => exact ⟨0, by omega, rfl, HS.out⟩
   case round =>
    obtain ⟨i, hi, rfl, hs⟩ := hrel
    have HS2 := zh hs
    by_cases hi4 : i < 4
    ·have hii : (i : Int) < 4 := by omega
     have hix := indexW4 v i hi4
     obtain ⟨N, hN⟩ : ∃ N, v.at_ i = N := ⟨_, rfl⟩
     rw [hN] at hix
     have HN := zh hN
     clear hs hN
     go_wp2_with fail
     go_loopw [16] (fun x wr => ∃ k : Nat, k ≤ 4 ∧ x = .int .i64 k ∧ SeS w v (16 * c + 4 * i + k) wr) (fun x _ => 4 - (intOf x).toNat)
     case atStart => exact ⟨0, by omega, rfl, HS2.out⟩
     case round =>
      obtain ⟨k, hk, rfl, hs⟩ := hrel
      have HS3 := zh hs
      by_cases hk4 : k < 4
      ·have hkk : (k : Int) < 4 := by omega
       have hat := b3_at v c i k hc3 hi4 hk4
       rw [HN.out] at hat
       have hp48 : 16 * c + 4 * i + k < 48 := by omega
       obtain ⟨Ps, hPs⟩ : ∃ Ps, 16 * c + 4 * i + k = Ps := ⟨_, rfl⟩
       have HPs := zh hPs
       rw [hPs] at hat hp48
       have hP2 : c * 16 + i * 4 + k = Ps := by omega
       have hb48 : c * 16 + i * 4 + k < 64 := by omega
       have c2 : wr.cell? ⟨w.heap.size + 1 + 1, Ps, none⟩ = some (.int .u8 0) := by
        rw [show w.heap.size + 1 + 1 = w.heap.size + 2 from rfl, hs.b2.cell, hPs]
        unfold bytesV upS
        have e1 : (v.b3.take Ps).length = Ps := by rw [List.length_take, b3_len]; omega
        simp only [List.getElem?_toArray, List.getElem?_map]
        rw [List.getElem?_append_right (by omega), e1, Nat.sub_self]
        unfold zeros
        rw [show 64 - Ps = (64 - (Ps + 1)) + 1 by omega, List.replicate_succ]
        rfl
       have z2 : wr.frozen? ⟨w.heap.size + 1 + 1, Ps, none⟩ = false := hs.b2.frozen Ps
       rw [← hP2] at c2 z2
       have HAT := zh hat
       have HP48 := zh hp48
       clear hs hPs hat hp48 hP2
       have FIN : Hid (∀ W' (y : Int) (m : Nat), W' = wr.setCell ⟨w.heap.size + 2, c * 16 + i * 4 + k, none⟩ (.int .u8 y) → y = byteK N k → m = k + 1 → SeS w v (16 * c + 4 * i + m) W') := zh (by
        rintro W' y m rfl rfl rfl
        have h1 := HS3.out
        have h2 := HPs.out
        rw [h2] at h1
        have := h1.set_ HP48.out _ HAT.out
        rw [show c * 16 + i * 4 + k = Ps by omega, show 16 * c + 4 * i + (k + 1) = Ps + 1 by omega]
        exact this)
       rcases (show k = 0 ∨ k = 1 ∨ k = 2 ∨ k = 3 by omega) with rfl | rfl | rfl | rfl
       ·simp only [Nat.add_zero] at c2 z2
        go_wp2_with fail
        exact ⟨⟨1, by omega, by congr 1, FIN.out _ _ _ rfl rfl rfl⟩, by simp [intOf]⟩
       ·go_wp2_with fail
        exact ⟨⟨2, by omega, by congr 1, FIN.out _ _ _ rfl rfl rfl⟩, by simp [intOf]⟩
       ·go_wp2_with fail
        exact ⟨⟨3, by omega, by congr 1, FIN.out _ _ _ rfl rfl rfl⟩, by simp [intOf]⟩
       ·go_wp2_with fail
        exact ⟨⟨4, by omega, by congr 1, FIN.out _ _ _ rfl rfl rfl⟩, by simp [intOf]⟩
      ·have hkk : ¬ (k : Int) < 4 := by omega
       obtain rfl : k = 4 := by omega
       clear hs
       go_wp2_with fail
       exact ⟨⟨i + 1, by omega, by congr 1, by have := HS3.out; rwa [show 16 * c + 4 * i + 4 = 16 * c + 4 * (i + 1) by omega] at this⟩, by simp [intOf]; omega⟩
    ·have hii : ¬ (i : Int) < 4 := by omega
     obtain rfl : i = 4 := by omega
     clear hs
     go_wp2_with fail
     exact ⟨⟨c + 1, by omega, by congr 1, by have := HS2.out; rwa [show 16 * c + 4 * 4 = 16 * (c + 1) by omega] at this⟩, by simp [intOf]; omega⟩
  ·have hcc : ¬ (c : Int) < 3 := by omega
   obtain rfl : c = 3 := by omega
   have b2 := hs.b2
   rw [show 16 * 3 = 48 from rfl, upS_all] at b2
   have sl : (sealB v).length = 64 := rfl
   have t1 : wr.there (w.heap.size + 1 + 1) 0 64 := b2.thereAll 64 (by rw [bytesV_size, sl])
   have r1 : readRow wr (w.heap.size + 1 + 1) 0 64 = bytesV (sealB v) := b2.readAll 64 (by rw [bytesV_size, sl])
   have t2 : wr.there (w.heap.size + 1) 0 64 := hs.b1.thereAll 64 (by rw [bytesV_size]; rfl)
   have o1 := bytesV_one (sealB v)
   have s1 : (bytesV (sealB v)).size = 64 := by rw [bytesV_size, sl]
   obtain ⟨RR, hRR⟩ : ∃ RR, bytesV (sealB v) = RR := ⟨_, rfl⟩
   rw [hRR] at r1 o1 s1
   have HRR := zh hRR
   have S1 := zh s1
   clear hs b2 sl hRR
   go_wp2_with fail
   refine bodyPost_ret (ret_cell1 rfl _ _ _ _ _ _ rfl (HS.out.b1.whole RR (by rw [S1.out, bytesV_size]; rfl)) Tryz.underlying119 rfl (by rw [S1.out]; exact infoSec)) rfl ⟨by rw [HRR.out], ?_⟩
   exact Kp.setCells (.inl (by omega)) _ _ _ HS.out.kp
end
section
open Go.RowKit
def Chain (g o : Nat) : Nat → List (Nat × Array Value × Array Value) → (Int → World → Prop) → World → Prop
 | _, [], Q, w => Q 0 w
 | i, (f, a, c) :: r, Q, w => w.cell? ⟨g, o + i, none⟩ = some (.func (.func f) a c) ∧ (∀ args w, (callFunc f args).run Tryz.prog w = .ok (.enter f args) w) ∧
   Calls Tryz.prog f (a ++ c) w fun e w' => ∃ x : Int, e = .returned (.int .i64 x) ∧ (x ≠ 0 → Q x w') ∧ (x = 0 → Chain g o (i + 1) r Q w')
end
section
open Go.RowKit
theorem nmDb_le : nmDb.size ≤ maxLen := by decide
section
variable {S : Nat → Prop} {W0 w : World} {db : Nat} {p : Pl}
set_option maxRecDepth 100000 in
theorem ready_q (h : Dq S W0 w db p) : Calls Tryz.prog 111 #[ptrV db] w fun e w' => e = .returned (.int .i64 p.wrong) ∧ Kp NoB w w' := by
 have H := zh h
 have e1 : p.readE 0 0 = p.wrong := by unfold Pl.readE Pl.wrong; simp
 have HE := zh e1
 have h63 : (-9223372036854775808 : Int) ≤ 0 ∧ (0 : Int) ≤ 9223372036854775807 := by omega
 have HZ := zh h63
 clear h e1 h63
 unfold ptrV
 go_enter Tryz.func111, Tryz.ntmps111
 go_wp2_with fail
 refine (show Calls _ _ #[ptrV db, .string nmDb, .int .i64 0, .int .i64 0] _ _ from read_q H.out nmDb 0 0 nmDb_le HZ.out HZ.out).mono ?_
 rintro e w' ⟨rfl, hk⟩
 rw [HE.out]
 have HK := zh hk
 clear hk
 go_wp2_with fail
 go_ret
 exact ⟨rfl, HK.out⟩
set_option maxRecDepth 100000 in
theorem count_q (h : Dq S W0 w db p) : Calls Tryz.prog 79 #[ptrV db] w fun e w' => e = .returned (.int .i64 p.jcount) ∧ w = w' := by
 have H := zh h
 have hl : p.len nmDb ≤ 1048576 := by
  unfold Pl.len
  split
  ·omega
  ·exact h.seen_le nmDb
 have HC := zh (show p.jcount = p.len nmDb / 256 from rfl)
 clear h
 unfold ptrV
 go_enter Tryz.func79, Tryz.ntmps79
 go_wp2_with fail
 refine (show Calls _ _ #[ptrV db, .string nmDb] _ _ from len_q H.out nmDb nmDb_le).mono ?_
 rintro e w' ⟨rfl, rfl⟩
 generalize p.len nmDb = L at hl HC ⊢
 go_wp2_with fail
 go_ret
 exact ⟨by rw [HC.out]; simp, rfl⟩
attribute [local go_sem ↓] loadSec storeSec allocSec loadW4 storeW4
end
end
section
open Go.RowKit
section
variable {S : Nat → Prop} {W0 w : World} {db : Nat} {p : Pl}
attribute [local go_sem ↓] load26 store26 alloc26 build26
set_option maxRecDepth 100000 in
set_option maxHeartbeats 800000 in
theorem wpage_q (h : Dq S W0 w db p) (n : Nat) (h1 : 1 ≤ n) (h2 : n ≤ p.jcount) : Calls Tryz.prog 112 #[.agg #[ptrV db], .int .i64 n] w fun e w' => e = .returned (.agg (bytesV (pageOf (p.seen nmDb) n))) ∧ Kp NoB w w' := by
 have H := zh h
 have hle := h.seen_le nmDb
 have hdn : p.down = false := by
  rcases hd : p.down with _ | _
  ·rfl
  ·have : p.jcount = 0 := by unfold Pl.jcount Pl.len; rw [hd]; simp
   omega
 have hc : n * 256 ≤ (p.seen nmDb).length := by
  unfold Pl.jcount Pl.len at h2
  rw [hdn] at h2
  simp only [Bool.false_eq_true, if_false] at h2
  omega
 obtain ⟨N, hN⟩ : ∃ N : Nat, n = N + 1 := ⟨n - 1, by omega⟩
 subst hN
 have eE : p.readE ((N : Int) * 256) 256 = 0 := by
  unfold Pl.readE
  rw [hdn, if_neg (by simp), if_neg (by omega)]
 have eR : p.read nmDb ((N : Int) * 256) 256 = ((p.seen nmDb).drop (N * 256)).take 256 := by
  unfold Pl.read
  rw [eE]
  simp only [if_true]
  congr 2
 have eP : pageOf (p.seen nmDb) (N + 1) = ((p.seen nmDb).drop (N * 256)).take 256 := by
  unfold pageOf sizedF
  rw [Nat.add_sub_cancel, if_pos (by rw [List.length_drop]; omega)]
 have hr1 : (-9223372036854775808 : Int) ≤ (N : Int) * 256 ∧ (N : Int) * 256 ≤ 9223372036854775807 := by omega
 have hr2 : (-9223372036854775808 : Int) ≤ 256 ∧ (256 : Int) ≤ 9223372036854775807 := by omega
 have hrg : ∀ y ∈ ((p.seen nmDb).drop (N * 256)).take 256, 0 ≤ y ∧ y < 256 := fun y hy => h.seen_rng nmDb y (List.mem_of_mem_drop (List.mem_of_mem_take hy))
 have hll : (((p.seen nmDb).drop (N * 256)).take 256).length = 256 := by simp; omega
 have hN1 : (N : Int) ≤ 5000 := by omega
 rw [eP]
 have HE := zh eE
 have HER := zh eR
 have HR1 := zh hr1
 have HR2 := zh hr2
 generalize ((p.seen nmDb).drop (N * 256)).take 256 = l at hrg hll eR HER ⊢
 have hsz := strOf_size l
 have hsi := strI_strOf l hrg
 have HRG := zh hrg
 have HLL := zh hll
 have HSZ := zh hsz
 have HSI := zh hsi
 clear h hle hdn hc eE eR eP hr1 hr2 h1 h2 hrg hll hsz hsi
 have hw1 : IntKind.i64.wrap (((N + 1 : Nat) : Int) - 1) = (N : Int) := by rw [IntKind.wrap_i64]; omega
 have hw2 : IntKind.i64.wrap ((N : Int) * 256) = (N : Int) * 256 := by rw [IntKind.wrap_i64]; omega
 have HK0 : Hid (Kp NoB w (((w.alloc (.cells #[ptrV db] 174)).alloc (.cells zero256 46)).alloc (.cells zero256 46))) := zh ((((Kp.refl _ _).alloc _).alloc _).alloc _)
 have HB1 : Hid (Blk (((w.alloc (.cells #[ptrV db] 174)).alloc (.cells zero256 46)).alloc (.cells zero256 46)) (w.heap.size + 1) 46 zero256) := zh ((Blk.newAt _ _ _ _ (by simp)).alloc _)
 have HB2 : Hid (Blk (((w.alloc (.cells #[ptrV db] 174)).alloc (.cells zero256 46)).alloc (.cells zero256 46)) (w.heap.size + 1 + 1) 46 zero256) := zh (Blk.newAt _ _ _ _ (by simp))
 obtain ⟨m, hm⟩ : ∃ m : Int, ((N + 1 : Nat) : Int) = m := ⟨_, rfl⟩
 rw [hm] at hw1 ⊢
 clear hm
 unfold ptrV
 go_enter Tryz.func112, Tryz.ntmps112
 go_wp2_with fail
 refine (show Calls _ _ #[ptrV db, .string nmDb, .int .i64 ((N : Int) * 256), .int .i64 256] _ _ from read_q (H.out.keep HK0.out) nmDb ((N : Int) * 256) 256 nmDb_le HR1.out HR2.out).mono ?_
 rintro e w2 ⟨rfl, hk⟩
 have hB1 := HB1.out.keep hk (fun q => q)
 have hB2 := HB2.out.keep hk (fun q => q)
 have HK := zh (HK0.out.trans hk (fun _ _ q => q))
 rw [HE.out, HER.out]
 generalize strOf l = s at HSZ HSI ⊢
 have hs : s.size = 256 := by rw [HSZ.out, HLL.out]
 have hcp := copyS w2 (w.heap.size + 1 + 1) 0 256 256 s (by omega) (hB2.thereAll s.size (by rw [zero256_eq, bytesV_size, hs]; rfl))
 rw [HSI.out] at hcp
 rw [zero256_eq] at hB2
 have hB3 := hB2.bytes (la := []) (lb := zeros 256) (ld := []) (lx := l) 0 rfl (by rw [HLL.out]; rfl)
 rw [List.nil_append, List.append_nil] at hB3
 have t3 : (w2.setCells (w.heap.size + 1 + 1) 0 (l.map (Value.int .u8))).there (w.heap.size + 1 + 1) 0 256 := hB3.thereAll 256 (by rw [bytesV_size, HLL.out])
 have r3 : readRow (w2.setCells (w.heap.size + 1 + 1) 0 (l.map (Value.int .u8))) (w.heap.size + 1 + 1) 0 256 = bytesV l := hB3.readAll 256 (by rw [bytesV_size, HLL.out])
 have HK2 : Hid (Kp NoB w (w2.setCells (w.heap.size + 1 + 1) 0 (l.map (Value.int .u8)))) := zh (Kp.setCells (.inl (by omega)) _ _ _ HK.out)
 have hB4 : Blk (w2.setCells (w.heap.size + 1 + 1) 0 (l.map (Value.int .u8))) (w.heap.size + 1) 46 zero256 := hB1.farCells (by omega) _ _ _
 have t4 : (w2.setCells (w.heap.size + 1 + 1) 0 (l.map (Value.int .u8))).there (w.heap.size + 1) 0 256 := hB4.thereAll 256 (by rw [zero256_eq, bytesV_size]; rfl)
 have HB4 := zh hB4
 obtain ⟨RR, hRR⟩ : ∃ RR, bytesV l = RR := ⟨_, rfl⟩
 have o1 := bytesV_one l
 have s1 : (bytesV l).size = 256 := by rw [bytesV_size, HLL.out]
 rw [hRR] at o1 s1 r3
 have HRR := zh hRR
 have S1 := zh s1
 clear hk hB1 hB2 hB3 hB4 hRR HB1 HB2 HK0
 go_wp2_with fail
 refine bodyPost_ret (ret_cell1 rfl _ _ _ _ _ _ rfl (HB4.out.whole RR (by rw [S1.out, zero256_eq, bytesV_size]; rfl)) Tryz.underlying46 rfl (by rw [S1.out]; exact info26)) rfl ⟨by rw [HRR.out], ?_⟩
 exact Kp.setCells (.inl (by omega)) _ _ _ HK2.out
end
end
section
open Go.RowKit
theorem strI_seal (v : W4) (hr : ∀ y ∈ sealB v, 0 ≤ y ∧ y < 256) : strI (strOf (sealB v)) = sealB v := strI_strOf _ hr
theorem seal_len (v : W4) : (sealB v).length = 64 := rfl
theorem seal_rng (v : W4) : ∀ y ∈ sealB v, 0 ≤ y ∧ y < 256 := by
 intro y hy
 unfold sealB W4.bytes four at hy
 simp only [List.mem_append, List.mem_cons, List.not_mem_nil, or_false] at hy
 rcases hy with h | h
 ·rcases h with ((((h | h) | h) | h) | (((h | h) | h) | h)) | (((h | h) | h) | h) <;> omega
 ·exact zeros_rng _ y h
theorem byRd_congr {w w' : World} {g : Nat} (h : w'.heap[g]? = w.heap[g]?) (o n : Nat) : byRd w' g o n = byRd w g o n := by
 unfold byRd
 congr 1
 funext j
 rw [World.cell?_of_block (w := w) (w' := w') (a := ⟨g, o + j, none⟩) h]
theorem byAt_congr {w w' : World} {g : Nat} (h : w'.heap[g]? = w.heap[g]?) {o n : Nat} (ha : byAt w g o n) : byAt w' g o n := fun j hj => by
 rw [World.cell?_of_block (w := w) (w' := w') (a := ⟨g, o + j, none⟩) h]
 exact ha j hj
theorem by_keep {S : Nat → Prop} {w w' : World} {g o n : Nat} {l : List Int} (k : Kp S w.drew w') (hg : g < w.heap.size) (hn : ¬ S g) (ha : byAt w g o n) (hr : byRd w g o n = l) : byAt w' g o n ∧ byRd w' g o n = l :=
 ⟨byAt_congr (w := w) (k.block g hg hn) ha, (byRd_congr (w := w) (k.block g hg hn) o n).trans hr⟩
section
variable {S : Nat → Prop} {W0 w : World} {db : Nat} {p : Pl}
attribute [local go_sem ↓] loadSec storeSec allocSec loadW4 storeW4 conv64
theorem stE0 (p : Pl) (nm : ByteArray) (a : Int) (d : List Int) : p.stE ⟨0, nm, a, d⟩ = p.writeE nm a d := rfl
theorem stP0 (p : Pl) (nm : ByteArray) (a : Int) (d : List Int) : p.stP ⟨0, nm, a, d⟩ = p.write nm a d := rfl
theorem stE1 (p : Pl) (nm : ByteArray) (a : Int) (d : List Int) : p.stE ⟨1, nm, a, d⟩ = p.truncE nm a := rfl
theorem stP1 (p : Pl) (nm : ByteArray) (a : Int) (d : List Int) : p.stP ⟨1, nm, a, d⟩ = p.trunc nm a := rfl
theorem stE2 (p : Pl) (nm : ByteArray) (a : Int) (d : List Int) : p.stE ⟨2, nm, a, d⟩ = p.syncE := rfl
theorem stP2 (p : Pl) (nm : ByteArray) (a : Int) (d : List Int) : p.stP ⟨2, nm, a, d⟩ = p.sync nm := rfl
end
end
section
open Go.RowKit
def seqR : List (Pl → Pl × Int) → Pl → Pl × Int
 | [], p => (p, 0)
 | r :: rs, p => if (r p).2 = 0 then seqR rs (r p).1 else r p
def Kept (K : (Nat → Prop) → World → Prop) : Prop := ∀ (S S' : Nat → Prop) (w w' : World), K S w → Kp S w w' → (∀ b, S' b → S b ∨ w.heap.size ≤ b) → K S' w'
theorem kept_blk (g : Nat) (t : TypeId) (cs : Array Value) : Kept fun S w => Blk w g t cs ∧ ¬ S g := fun S S' w w' h k hS => ⟨h.1.keep k h.2, fun q => by
 rcases hS g q with q | q
 ·exact h.2 q
 ·have := h.1.lt
  omega⟩
theorem Kept.and {K L : (Nat → Prop) → World → Prop} (h : Kept K) (k : Kept L) : Kept fun S w => K S w ∧ L S w := fun S S' w w' q kp hS => ⟨h S S' w w' q.1 kp hS, k S S' w w' q.2 kp hS⟩
structure StepC (db : Nat) (K : (Nat → Prop) → World → Prop) (f : Nat) (a c : Array Value) (R : Pl → Pl × Int) (cost : Nat) : Prop where
 ent : ∀ args w, (callFunc f args).run Tryz.prog w = .ok (.enter f args) w
 run : ∀ (S : Nat → Prop) (w : World) (p : Pl), Dq S w w db p → K S w → p.sm cost → Calls Tryz.prog f (a ++ c) w fun e w' => e = .returned (.int .i64 (R p).2) ∧ Dq S w w' db (R p).1
 sm : ∀ (p : Pl) (k : Nat), p.sm (k + cost) → (R p).1.sm k
theorem Chain.mono {g o : Nat} {Q Q' : Int → World → Prop} (hQ : ∀ x w, Q x w → Q' x w) : ∀ (l : List (Nat × Array Value × Array Value)) (i : Nat) (w : World), Chain g o i l Q w → Chain g o i l Q' w
 | [], _, _, h => hQ _ _ h
 | (f, a, c) :: r, i, w, h => ⟨h.1, h.2.1, h.2.2.mono fun e w' ⟨x, he, h0, h1⟩ => ⟨x, he, fun q => hQ _ _ (h0 q), fun q => Chain.mono hQ r (i + 1) w' (h1 q)⟩⟩
structure Stpr where
 f : Nat
 a : Array Value
 c : Array Value
 R : Pl → Pl × Int
 cost : Nat
def Stpr.v (s : Stpr) : Value := .func (.func s.f) s.a s.c
def costs (l : List Stpr) : Nat := (l.map (·.cost)).sum
theorem chain_steps {db g o : Nat} {t : TypeId} {cs : Array Value} {K : (Nat → Prop) → World → Prop} (hK : Kept K) :
  ∀ (l : List Stpr) (i : Nat) (S : Nat → Prop) (w : World) (p : Pl), (∀ s ∈ l, StepC db K s.f s.a s.c s.R s.cost) → (∀ j (h : j < l.length), cs[o + i + j]? = some l[j].v) → Blk w g t cs → ¬ S g → Dq S w w db p → K S w → p.sm (costs l) →
   Chain g o i (l.map fun s => (s.f, s.a, s.c)) (fun x w' => x = (seqR (l.map (·.R)) p).2 ∧ Dq S w w' db (seqR (l.map (·.R)) p).1) w
 | [], i, S, w, p, _, _, _, _, h, _, _ => ⟨rfl, h⟩
 | s :: r, i, S, w, p, hs, hc, hb, hn, h, hk, hm => by
  have h1 := hs s (List.mem_cons_self ..)
  refine ⟨?_, h1.ent, ?_⟩
  ·rw [hb.cell]
   exact hc 0 (by simp)
  ·refine (h1.run S w p h hk (sm_mono hm (by simp [costs]))).mono ?_
   rintro e w' ⟨rfl, h2⟩
   refine ⟨_, rfl, fun hx => ?_, fun hx => ?_⟩
   ·show _ = (seqR (s.R :: r.map (·.R)) p).2 ∧ Dq S w w' db (seqR (s.R :: r.map (·.R)) p).1
    unfold seqR
    rw [if_neg hx]
    exact ⟨rfl, h2⟩
   ·obtain ⟨S2, h3, hS2⟩ := h2.base
    have hn2 := (kept_blk g t cs) S S2 w w' ⟨hb, hn⟩ h2.kp hS2
    have hm2 : (s.R p).1.sm (costs r) := h1.sm p _ (sm_mono hm (by simp [costs]; omega))
    have ih := chain_steps hK r (i + 1) S2 w' (s.R p).1 (fun s' hs' => hs s' (List.mem_cons_of_mem _ hs')) (fun j hj => by
     have := hc (j + 1) (by simpa using hj)
     rw [show o + (i + 1) + j = o + i + (j + 1) by omega]
     exact this) hn2.1 hn2.2 h3 (hK S S2 w w' hk h2.kp hS2) hm2
    refine Chain.mono (fun x w3 ⟨e, h4⟩ => ?_) _ _ _ ih
    show x = (seqR (s.R :: r.map (·.R)) p).2 ∧ Dq S w w3 db (seqR (s.R :: r.map (·.R)) p).1
    unfold seqR
    rw [if_pos hx]
    exact ⟨e, Dq.tr (w0 := w) h4 h2.kp hS2 h2.lt⟩
end
section
open Go.RowKit
def Apart (S : Nat → Prop) (A : Option Addr) (n : Nat) : Prop := ∀ g o, A = some ⟨g, o, none⟩ → 0 < n → ¬ S g
theorem PgsAt.lt {w : World} {A : Option Addr} {n : Nat} {l : List Pg} (h : PgsAt w A n l) {g o : Nat} (e : A = some ⟨g, o, none⟩) (hn : 0 < n) : g < w.heap.size := by
 obtain ⟨g', o', e', hg, hc⟩ := h.2.2 hn
 rw [e] at e'
 injection e' with e'
 injection e' with e1 e2
 subst e1
 exact hg
structure PgsOk (l : List Pg) : Prop where
 ok : ∀ x ∈ l, PgOk x
 n : ∀ x ∈ l, 1 ≤ x.n ∧ x.n ≤ 4096
theorem pg_by {w : World} {g : Nat} {t : TypeId} {x : Pg} (h : Blk w g t (pgA x)) (hx : PgOk x) : byAt w g 1 256 ∧ byRd w g 1 256 = x.b := by
 have hc : ∀ j, j < 256 → w.cell? ⟨g, 1 + j, none⟩ = some (.int .u8 (x.b[j]?.getD 0)) := by
  intro j hj
  rw [h.cell]
  unfold pgA pgL
  rw [List.getElem?_toArray, Nat.add_comm 1 j, List.getElem?_cons_succ, List.getElem?_map, List.getElem?_eq_getElem (by rw [hx.len]; exact hj)]
  rfl
 refine ⟨fun j hj => ⟨_, hc j hj⟩, ?_⟩
 unfold byRd
 apply List.ext_getElem
 ·simp [hx.len]
 ·intro j h1 h2
  have hj : j < 256 := by simpa using h1
  simp only [List.getElem_map, List.getElem_range]
  rw [hc j hj, List.getElem?_eq_getElem h2]
  rfl
section
variable {S : Nat → Prop} {W0 w : World} {db : Nat} {p : Pl}
attribute [local go_sem ↓] loadPg storePg allocPg load26 store26 conv64
end
end
section
open Go.RowKit
def upR (n : Int) (i : Nat) : List Int := (four n).take i ++ zeros (320 - i)
theorem upR_set (n : Int) (i : Nat) (hi : i < 4) : (upR n i).set i (byteK n i) = upR n (i + 1) := by
 rcases (show i = 0 ∨ i = 1 ∨ i = 2 ∨ i = 3 by omega) with rfl | rfl | rfl | rfl <;> rfl
theorem upR_all (n : Int) : upR n 4 = (four n ++ zeros 60) ++ zeros 256 := by
 unfold upR zeros
 rw [List.append_assoc, List.replicate_append_replicate]
 rfl
structure LyS (wr : World) (x : Pg) (i : Nat) (W : World) : Prop where
 kp : Kp NoB wr W
 b1 : Blk W wr.heap.size 49 (pgA x)
 b2 : Blk W (wr.heap.size + 1) 5 (bytesV (upR x.n i))
theorem LyS.set_ {wr : World} {x : Pg} {i : Nat} {W : World} (h : LyS wr x i W) (hi : i < 4) : LyS wr x (i + 1) (W.setCell ⟨wr.heap.size + 1, i, none⟩ (.int .u8 (byteK x.n i))) := by
 refine ⟨h.kp.setCell (p := ⟨wr.heap.size + 1, i, none⟩) (.inl (by show _ ≤ wr.heap.size + 1; omega)) _, h.b1.far (p := ⟨wr.heap.size + 1, i, none⟩) (by simp) _, ?_⟩
 have := h.b2.set_ i (.int .u8 (byteK x.n i))
 rwa [bytesV_setJ, upR_set _ _ hi] at this
set_option maxRecDepth 100000 in
theorem LyS.copy {wr : World} {x : Pg} {W : World} (h : LyS wr x 4 W) (hx : PgOk x) : Kp NoB wr (W.setCells (wr.heap.size + 1) 64 (x.b.map (Value.int .u8))) ∧ Blk (W.setCells (wr.heap.size + 1) 64 (x.b.map (Value.int .u8))) (wr.heap.size + 1) 5 (bytesV (recB x)) := by
 refine ⟨Kp.setCells (.inl (by omega)) _ _ _ h.kp, ?_⟩
 have b := h.b2
 rw [upR_all] at b
 have := Blk.bytes (la := four x.n ++ zeros 60) (lb := zeros 256) (ld := []) (lx := x.b) (by rw [List.append_nil]; exact b) 64 (by simp [four, zeros]) (by rw [hx.len]; simp [zeros])
 rw [List.append_nil] at this
 exact this
theorem make320 (W : World) : (Instr.makeSlice 68 (.int .i64 320) (.int .i64 320)).run Tryz.prog W = .ok (.slice (some ⟨W.heap.size, 0, none⟩) 320 320) (W.alloc (.cells (bytesV (zeros 320)) 5)) := by
 have h := run_make_row' (P := Tryz.prog) 68 5 (.int .u8 0) 1 Tryz.underlying68 infoU8z rfl .i64 .i64 320 (by omega) (by omega) W
 rw [made_zeros] at h
 exact h
theorem copy_exec {w w' : World} {v : Value} {u1 u2 : Value} (h : (Builtin.copy_ #[68, 68] 3 #[u1, u2]).run Tryz.prog w = .ok v w') (ev : Operand → Value) {x y : Operand} {ds : Option Tmp} {ps : String} {af : Array Edge} {g : Option (Nat × Bool)} (hx : ev x = u1) (hy : ev y = u2) :
  (execOp ev ⟨ds, .call { callee := .builtin .copy, args := #[x, y], argTypes := #[68, 68] }, 3, ps, af, g⟩).run Tryz.prog w = .ok (.value v) w' := by
 simp only [execOp, resolve, invoke, builtin, Sem.run_bind, Sem.run_pure, Result.andThen_ok, List.map_toArray, List.map_cons, List.map_nil, hx, hy, h]
theorem LyS.drew {wr : World} {x : Pg} {i : Nat} {W : World} (h : LyS wr x i W) : LyS wr x i W.drew := ⟨h.kp.drew, h.b1, h.b2⟩
theorem four_rng (n : Int) : ∀ y ∈ four n, 0 ≤ y ∧ y < 256 := by
 intro y hy
 unfold four at hy
 simp only [List.mem_cons, List.not_mem_nil, or_false] at hy
 rcases hy with h | h | h | h <;> omega
section
variable {S : Nat → Prop} {W0 w : World} {db : Nat} {p : Pl}
attribute [local go_sem ↓] loadPg storePg allocPg load26 store26 conv64
attribute [local go_sem] size_setCells
end
end
section
open Go.RowKit
def pgsCells (l : List Pg) : List Value := l.flatMap pgL
def OwnPgs (w : World) (n0 : Nat) (v : Value) (l : List Pg) : Prop := w.ownsRow n0 49 257 v l.length (pgsCells l) ∧ ∀ x ∈ l, PgOk x
structure W4Ok (v : W4) : Prop where
 a : 0 ≤ v.a ∧ v.a < 4294967296
 b : 0 ≤ v.b ∧ v.b < 4294967296
 c : 0 ≤ v.c ∧ v.c < 4294967296
 d : 0 ≤ v.d ∧ v.d < 4294967296
theorem copyS_exec {w w' : World} {v : Value} {u1 u2 : Value} (h : (Builtin.copy_ #[68, 9] 3 #[u1, u2]).run Tryz.prog w = .ok v w') (ev : Operand → Value) {x y : Operand} {ds : Option Tmp} {ps : String} {af : Array Edge} {g : Option (Nat × Bool)} (hx : ev x = u1) (hy : ev y = u2) :
  (execOp ev ⟨ds, .call { callee := .builtin .copy, args := #[x, y], argTypes := #[68, 9] }, 3, ps, af, g⟩).run Tryz.prog w = .ok (.value v) w' := by
 simp only [execOp, resolve, invoke, builtin, Sem.run_bind, Sem.run_pure, Result.andThen_ok, List.map_toArray, List.map_cons, List.map_nil, hx, hy, h]
theorem pg_new (w : World) (x : Pg) : ∀ j u, (pgL x)[j]? = some u → (w.alloc (.cells (pgA x) 49)).cell? ((⟨w.heap.size, 0, none⟩ : Addr).add j) = some u := by
 intro j u hj
 rw [add_mk, Nat.zero_add, (Blk.new w 49 (pgA x)).cell]
 unfold pgA
 rw [List.getElem?_toArray]
 exact hj
theorem idxStr {s : ByteArray} {b : List Int} (hs : strOf b = s) (hr : ∀ y ∈ b, 0 ≤ y ∧ y < 256) {j : Nat} (hj : j < b.length) (W : World) : (Instr.index 9 (.string s) (.int .i64 (j : Int))).run Tryz.prog W = .ok (.int .u8 (b.getD j 0)) W := by
 have hsz := strOf_size b
 rw [hs] at hsz
 rw [run_index_string W 9 s .i64 j Tryz.underlying9, dif_pos ⟨by omega, by omega⟩]
 congr 2
 have hsi := strI_strOf b hr
 rw [hs] at hsi
 have h1 : b.getD j 0 = (strI s).getD j 0 := by rw [hsi]
 rw [h1]
 unfold strI
 have h2 : j < s.data.toList.length := by
  have : s.data.toList.length = s.size := by rw [Array.length_toList]; rfl
  omega
 rw [List.getD_eq_getElem?_getD, List.getElem?_map, List.getElem?_eq_getElem h2]
 simp
 rfl
theorem or_sum (k : Nat) (hk : k ≤ 24) (a x : Int) (h0 : 0 ≤ a) (h1 : a < 4294967296) (h2 : 0 ≤ x) (h3 : x < (2 : Int) ^ k) : bits BinOp.or IntKind.i64 (a * (2 : Int) ^ k) x = a * (2 : Int) ^ k + x := by
 obtain ⟨m, rfl⟩ := Int.eq_ofNat_of_zero_le h0
 obtain ⟨n, rfl⟩ := Int.eq_ofNat_of_zero_le h2
 have hp : (2 : Int) ^ k = ((2 ^ k : Nat) : Int) := by rw [Int.natCast_pow]; rfl
 have hp24 : 2 ^ k ≤ 2 ^ 24 := Nat.pow_le_pow_right (by omega) hk
 have hpp : 0 < 2 ^ k := Nat.two_pow_pos k
 rw [hp] at h3 ⊢
 have hm : m < 4294967296 := by omega
 have hn : n < 2 ^ k := by omega
 have hb : m * 2 ^ k ≤ 4294967295 * 2 ^ 24 := Nat.mul_le_mul (by omega) hp24
 have e : bits BinOp.or IntKind.i64 ((m : Int) * ((2 ^ k : Nat) : Int)) n = IntKind.i64.wrap ((BitVec.ofInt 64 ((m : Int) * ((2 ^ k : Nat) : Int)) ||| BitVec.ofInt 64 n).toNat) := rfl
 have e1 : BitVec.ofInt 64 ((m : Int) * ((2 ^ k : Nat) : Int)) = BitVec.ofNat 64 (m * 2 ^ k) := by
  rw [← Int.natCast_mul]
  exact BitVec.ofInt_natCast _ _
 have e2 : BitVec.ofInt 64 (n : Int) = BitVec.ofNat 64 n := BitVec.ofInt_natCast _ _
 rw [e, e1, e2, BitVec.toNat_or, BitVec.toNat_ofNat, BitVec.toNat_ofNat, Nat.mod_eq_of_lt (by omega), Nat.mod_eq_of_lt (by omega)]
 have h := Nat.shiftLeft_add_eq_or_of_lt (i := k) (b := n) hn m
 rw [Nat.shiftLeft_eq] at h
 rw [h.symm, IntKind.wrap_i64, ← Int.natCast_mul]
 omega
section
variable {S : Nat → Prop} {W0 w : World} {db : Nat} {p : Pl}
attribute [local go_sem ↓] loadPg storePg allocPg exSlicePg
end
end
section
open Go.RowKit
theorem chainPg_cons (count last : Int) (x : Pg) (r : List Pg) : chainPg count last (x :: r) = (decide (last < x.n ∧ x.n ≤ count) && chainPg count x.n r) := rfl
theorem above_cons (old : Int) (x : Pg) (r : List Pg) : above old (x :: r) = above old r + if old < x.n then 1 else 0 := by
 unfold above
 rw [List.countP_cons]
 simp
theorem above_le (old : Int) (l : List Pg) : above old l ≤ l.length := List.countP_le_length
section
attribute [local go_sem ↓] loadPg storePg allocPg
end
end
section
open Go.RowKit
section
attribute [local go_sem ↓] loadPg storePg allocPg
def Rises (l : List Pg) : Prop := ∀ (i j : Nat) (x y : Pg), i < j → l[i]? = some x → l[j]? = some y → x.n < y.n
theorem hasPg_iff (l : List Pg) (n : Int) : hasPg l n = true ↔ ∃ x ∈ l, x.n = n := by
 unfold hasPg
 rw [List.any_eq_true]
 simp
end
end
section
open Go.RowKit
section
variable {S : Nat → Prop} {w : World} {db : Nat} {p : Pl}
attribute [local go_sem ↓] loadW4 storeW4
end
end
section
open Go.RowKit
theorem seqR_one (r : Pl → Pl × Int) (p : Pl) : seqR [r] p = r p := by
 unfold seqR
 split
 ·rename_i h
  unfold seqR
  rw [← h]
 ·rfl
theorem seqR_cons (r : Pl → Pl × Int) (rs : List (Pl → Pl × Int)) (p : Pl) : seqR (r :: rs) p = if (r p).2 = 0 then seqR rs (r p).1 else r p := rfl
theorem seqR2 (a b : List Stp) (p : Pl) : seqR [fun p => p.runS a, fun p => p.runS b] p = p.runS (a ++ b) := by
 rw [runS_append, seqR_cons]
 split
 ·rw [seqR_one]
 ·rfl
theorem wordsAt_ok {l : List Int} (h : ∀ y ∈ l, 0 ≤ y ∧ y < 256) (a : Nat) : W4Ok (wordsAt l a) := ⟨num_rng h _, num_rng h _, num_rng h _, num_rng h _⟩
theorem says_ok {l : List Int} (h : ∀ y ∈ l, 0 ≤ y ∧ y < 256) : W4Ok (says l) := by
 have h64 : ∀ y ∈ l.take 64, 0 ≤ y ∧ y < 256 := fun y hy => h y (List.mem_of_mem_take hy)
 unfold says
 split
 ·constructor <;> constructor <;> decide
 ·unfold openB
  split
  ·exact wordsAt_ok h64 _
  ·exact wordsAt_ok h64 _
section
variable {S : Nat → Prop} {w : World} {db : Nat} {p : Pl}
attribute [local go_sem ↓] loadW4 storeW4
end
end
section
open Go
theorem chain_len (count : Int) : ∀ (l : List Pg) (last : Int), chainPg count last l = true → last ≤ count → last + l.length ≤ count ∧ ∀ x ∈ l, last < x.n ∧ x.n ≤ count
 | [], last, _, h => by simp; exact h
 | x :: r, last, h, _ => by
  rw [chainPg_cons, Bool.and_eq_true, decide_eq_true_iff] at h
  obtain ⟨h1, h2⟩ := chain_len count r x.n h.2 h.1.2
  refine ⟨by simp only [List.length_cons]; omega, fun y hy => ?_⟩
  rcases List.mem_cons.1 hy with rfl | hy
  ·exact h.1
  ·have := h2 y hy
   omega
theorem chain_rises (count : Int) : ∀ (l : List Pg) (last : Int), chainPg count last l = true → last ≤ count → Rises l
 | [], _, _, _ => fun i j x y _ h => by simp at h
 | z :: r, last, h, hlc => by
  rw [chainPg_cons, Bool.and_eq_true, decide_eq_true_iff] at h
  have ih := chain_rises count r z.n h.2 h.1.2
  have hl := (chain_len count r z.n h.2 h.1.2).2
  intro i j x y hij hx hy
  cases j with
  | zero => omega
  | succ j =>
   rw [List.getElem?_cons_succ] at hy
   cases i with
   | zero =>
    rw [List.getElem?_cons_zero] at hx
    injection hx with hx
    subst hx
    exact (hl y (List.mem_of_getElem? hy)).1
   | succ i =>
    rw [List.getElem?_cons_succ] at hx
    exact ih i j x y (by omega) hx hy
theorem fit_facts {old count : Int} {l : List Pg} (h : fitPg old count l = true) (hok : ∀ x ∈ l, PgOk x) : (0 ≤ count ∧ count ≤ 4096) ∧ l.length ≤ 4096 ∧ PgsOk l ∧ Rises l := by
 unfold fitPg at h
 rw [Bool.and_eq_true, Bool.and_eq_true, decide_eq_true_iff] at h
 obtain ⟨h1, h2⟩ := chain_len count l 0 h.2.1 h.1.1
 refine ⟨h.1, by omega, ⟨hok, fun x hx => ?_⟩, chain_rises count l 0 h.2.1 h.1.1⟩
 have := h2 x hx
 omega
def Pl.le (p : Pl) : Prop := ∀ s, (p.seen s).length ≤ 1048576
theorem le_step {p : Pl} (h : p.le) : p.step.le := h
theorem fits_0 {p : Pl} {s : ByteArray} {n : Int} (h : ¬ p.fits s n ≠ 0) : n ≤ 1048576 := by
 have h2 : p.fits s n = 0 := by omega
 unfold Pl.fits at h2
 split at h2
 ·omega
 ·omega
theorem fits_3 {p : Pl} {s : ByteArray} {n : Int} (h : n ≤ 1048576) : p.fits s n = 0 ∨ p.fits s n = 5 := by
 unfold Pl.fits
 rw [if_neg (by omega)]
 split
 ·exact .inr rfl
 ·exact .inl rfl
theorem le_upd {p : Pl} (h : p.le) (s : ByteArray) (l : List Int) (hl : l.length ≤ 1048576) : ∀ t, (upd p.seen s l t).length ≤ 1048576 := fun t => by
 unfold upd
 split
 ·exact hl
 ·exact h t
theorem put_le {l d : List Int} {a M : Nat} (hl : l.length ≤ M) (hd : a + d.length ≤ M) (ha : a ≤ l.length) : (Pl.put l a d).length ≤ M := by
 unfold Pl.put
 simp
 omega
theorem le_length {p : Pl} (h : p.le) (s : ByteArray) (n : Nat) (hn : n ≤ 1048576) : (p.length s n).le := by
 unfold Pl.length
 split
 ·exact h
 ·intro t
  exact le_upd (p := p.at_) h s _ (by rw [sizedF_len]; exact hn) t
theorem len_seen (p : Pl) (s : ByteArray) (n : Nat) : ((p.length s n).seen s).length = n := by
 unfold Pl.length
 split
 ·rename_i e
  show (p.seen s).length = n
  exact e.symm
 ·show (upd p.seen s (sizedF (p.seen s) n) s).length = n
  rw [upd_same, sizedF_len]
theorem le_write {p : Pl} (h : p.le) (s : ByteArray) (a : Int) (d : List Int) : (p.write s a d).le := by
 unfold Pl.write
 split
 ·exact h
 ·rename_i h1
  split
  ·exact h
  ·split
   ·exact h
   ·rename_i h3
    have hm := fits_0 h3
    unfold Pl.write1
    intro t
    show (upd _ s _ t).length ≤ 1048576
    have hal : (a.toNat : Int) = a := by omega
    split
    ·refine le_upd (p := p.length s (a.toNat + d.length)) (le_length h s _ (by omega)) s _ ?_ t
     refine put_le (M := 1048576) ?_ (by omega) ?_
     ·rw [len_seen]; omega
     ·rw [len_seen]; omega
    ·refine le_upd (p := p) h s _ ?_ t
     refine put_le (h s) (by omega) (by omega)
theorem le_trunc {p : Pl} (h : p.le) (s : ByteArray) (n : Int) : (p.trunc s n).le := by
 unfold Pl.trunc
 split
 ·exact h
 ·rename_i h1
  have hm := fits_0 (p := p) (s := s) (n := n) (by omega)
  exact le_step (le_length h s _ (by omega))
theorem le_sync {p : Pl} (h : p.le) (s : ByteArray) : (p.sync s).le := by
 unfold Pl.sync
 split
 ·exact h
 ·split
  ·exact h
  ·exact h
theorem le_st {p : Pl} (h : p.le) (s : Stp) : (p.stP s).le := by
 unfold Pl.stP
 split
 ·exact le_write h _ _ _
 ·split
  ·exact le_trunc h _ _
  ·exact le_sync h _
theorem le_run : ∀ (l : List Stp) {p : Pl}, p.le → (p.runS l).1.le
 | [], _, h => h
 | s :: r, p, h => by
  rw [runS_cons]
  split
  ·exact le_run r (le_st h s)
  ·exact le_st h s
theorem stepE_cases (p : Pl) : p.stepE = 0 ∨ p.stepE = 7 := by
 unfold Pl.stepE
 split
 ·exact .inr rfl
 ·exact .inl rfl
theorem up_st {p : Pl} (hd : p.down = false) (s : Stp) (h : p.stE s = 0) : (p.stP s).down = false := by
 have hs : ∀ q : Pl, q.down = false → p.crash = q.crash → p.stepE = 0 → q.step.down = false := fun q hq hc h0 => by
  unfold Pl.stepE at h0
  unfold Pl.step
  simp only [← hc]
  split at h0
  ·omega
  ·rename_i hne
   rw [if_neg hne]
   exact hq
 have hlen : ∀ s n, (p.length s n).down = false ∧ p.crash = (p.length s n).crash := fun s n => by
  unfold Pl.length
  split <;> exact ⟨hd, rfl⟩
 unfold Pl.stE at h
 unfold Pl.stP
 split
 ·rename_i hk
  rw [if_pos hk] at h
  unfold Pl.writeE at h
  unfold Pl.write
  rw [hd] at h
  simp only [Bool.false_eq_true, if_false] at h
  split
  ·exact hd
  ·rename_i h1
   rw [if_neg (by omega), if_neg (by omega)] at h
   split
   ·rename_i h2
    rw [if_pos h2] at h
    exact hs p hd rfl h
   ·rename_i h2
    rw [if_neg h2] at h
    split
    ·exact hd
    ·rename_i h3
     rw [if_neg h3] at h
     unfold Pl.write1
     refine hs _ ?_ ?_ h
     ·show Pl.down _ = false
      simp only [Pl.pend, Pl.setSeen, Pl.at_]
      split
      ·exact (hlen _ _).1
      ·exact hd
     ·simp only [Pl.pend, Pl.setSeen, Pl.at_]
      split
      ·exact (hlen _ _).2
      ·rfl
 ·rename_i hk
  rw [if_neg hk] at h
  split
  ·rename_i hk1
   rw [if_pos hk1] at h
   unfold Pl.truncE at h
   unfold Pl.trunc
   rw [hd] at h
   simp only [Bool.false_eq_true, if_false] at h
   split
   ·exact hd
   ·rename_i h1
    rw [if_neg (by omega), if_neg (by omega)] at h
    exact hs _ (hlen _ _).1 (hlen _ _).2 h
  ·rename_i hk1
   rw [if_neg hk1] at h
   unfold Pl.syncE at h
   rw [hd] at h
   simp only [Bool.false_eq_true, if_false] at h
   unfold Pl.sync
   rw [if_neg (by rw [hd]; simp), if_neg (by omega)]
   show p.step.down = false
   exact hs p hd rfl h
theorem up_run : ∀ (l : List Stp) {p : Pl}, p.down = false → (p.runS l).2 = 0 → (p.runS l).1.down = false
 | [], _, h, _ => h
 | s :: r, p, h, h2 => by
  rw [runS_cons] at h2 ⊢
  by_cases q : p.stE s = 0
  ·rw [if_pos q] at h2 ⊢
   exact up_run r (up_st h s q) h2
  ·rw [if_neg q] at h2
   exact absurd h2 q
theorem write_ne3 {p : Pl} (h : p.le) (s : ByteArray) (a : Int) (d : List Int) (h0 : 0 ≤ a) (h1 : a + d.length ≤ 1048576) : p.writeE s a d ≠ 3 := by
 unfold Pl.writeE
 split
 ·decide
 ·rw [if_neg (by omega), if_neg (by omega)]
  split
  ·rcases stepE_cases p with e | e <;> rw [e] <;> decide
  ·have hm : (max (a + d.length) (p.seen s).length : Int) ≤ 1048576 := by have := h s; omega
   split
   ·rcases fits_3 (p := p) (s := s) hm with e | e <;> rw [e] <;> decide
   ·rcases stepE_cases p with e | e <;> rw [e] <;> decide
theorem sync_ne3 (p : Pl) : p.syncE ≠ 3 := by
 unfold Pl.syncE
 split
 ·decide
 ·rcases stepE_cases p with e | e <;> rw [e] <;> decide
theorem head_ne3 {p : Pl} (h : p.le) (nm : ByteArray) (w : W4) : (p.runS (headS nm w)).2 ≠ 3 := by
 unfold headS
 rw [runS_cons]
 split
 ·rw [runS_cons]
  split
  ·rw [runS_nil]; show (0 : Int) ≠ 3; decide
  ·exact sync_ne3 _
 ·exact write_ne3 h nm 0 (sealB w) (by omega) (by rw [seal_len]; omega)
theorem fullE_id {e : Int} (h : e ≠ 3) : fullE e = e := by unfold fullE; rw [if_neg h]
theorem fullE_0 {e : Int} : fullE e = 0 ↔ e = 0 := by
 unfold fullE
 split <;> omega
end
end Go.Proofs.YtegcbdfilkecpaaGreat
