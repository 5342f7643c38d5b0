/- Texts of this proof, one behind the other: lemmas and contracts; each says its own conditions. -/
import Derived.Test.YtoeldmkbmnkhkaaGreatP9
import Derived.Test.YtoeldmkbmnkhkaaGreatP10
import Derived.Maps.OwnIn
import Derived.Maps.OwnRows
import Derived.Maps.Views
/- The log: the pages of a mark brought together; condition: a log in memory. -/
namespace Go.Proofs.YtoeldmkbmnkhkaaGreat
open Go.RowKit Go.Shelf

theorem homeV_take (L M : List Fr) (c : Int) : ∀ k, k ≤ L.length → homeV (L ++ M) c k = homeV L c k
  | 0, _ => rfl
  | k + 1, hk => by
    have ih := homeV_take L M c k (by omega)
    have e1 : (L ++ M).take k = L.take k := List.take_append_of_le_length (by omega)
    have e2 : (L ++ M).getD k ⟨0, 0, []⟩ = L.getD k ⟨0, 0, []⟩ := by
      rw [List.getD_eq_getElem?_getD, List.getD_eq_getElem?_getD, List.getElem?_append_left (by omega)]
    unfold homeV
    rw [e1, e2, ih]
theorem homeV_snoc (L : List Fr) (f : Fr) (c : Int) : homeV (L ++ [f]) c (L.length + 1) = if cntN L f.n = 0 ∧ 0 < f.n ∧ f.n ≤ c then homeV L c L.length ++ [⟨f.n, f.b⟩] else homeV L c L.length := by
  have e1 : (L ++ [f]).take L.length = L := by rw [List.take_append_of_le_length (Nat.le_refl _), List.take_length]
  have e2 : (L ++ [f]).getD L.length ⟨0, 0, []⟩ = f := by
    rw [List.getD_eq_getElem?_getD, List.getElem?_append_right (Nat.le_refl _), Nat.sub_self]
    rfl
  conv => lhs; unfold homeV
  rw [e1, e2, homeV_take L [f] c L.length (Nat.le_refl _)]
/-- the frames gone over, by their places -/
def gone (fs : List Fr) (m : Nat) (pre : List Nat) : List Fr := pre.map (frK fs m)
theorem gone_len (fs : List Fr) (m : Nat) (pre : List Nat) : (gone fs m pre).length = pre.length := List.length_map _
theorem gone_snoc (fs : List Fr) (m : Nat) (pre : List Nat) (x : Nat) : gone fs m (pre ++ [x]) = gone fs m pre ++ [frK fs m x] := by unfold gone; rw [List.map_append]; rfl
theorem gone_all (fs : List Fr) (m : Nat) (hm : m ≤ fs.length) : gone fs m (List.range m) = (fs.take m).reverse := by
  have hl : (fs.take m).length = m := by rw [List.length_take]; omega
  apply List.ext_getElem?
  intro k
  unfold gone
  rw [List.getElem?_map]
  by_cases hk : k < m
  · rw [List.getElem?_range hk]
    have h1 := rev_getD fs m k hm hk
    rw [List.getD_eq_getElem?_getD, List.getElem?_eq_getElem (by rw [List.length_reverse, hl]; exact hk)] at h1
    rw [List.getElem?_eq_getElem (by rw [List.length_reverse, hl]; exact hk)]
    exact congrArg some h1.symm
  · rw [List.getElem?_eq_none (by simp; omega), List.getElem?_eq_none (by rw [List.length_reverse, hl]; omega)]
    rfl
theorem wfI {z : Int} (h : -9223372036854775808 ≤ z ∧ z ≤ 9223372036854775807) : (Lit.int .i64 z).wf = true := by
  have e1 : IntKind.i64.min = -9223372036854775808 := by decide
  have e2 : IntKind.i64.max = 9223372036854775807 := by decide
  have e : (Lit.int .i64 z).wf = (decide (IntKind.i64.min ≤ z) && decide (z ≤ IntKind.i64.max)) := rfl
  rw [e, e1, e2, decide_eq_true h.1, decide_eq_true h.2]
  rfl
/-- a map of counts -/
def CtM (W : World) (b n : Nat) (L : List Fr) : Prop := ∃ D : DataW Unit, W.ownsMap Tryz.prog 3 (plainElem Tryz.prog 3) b n D ∧ ∀ z : Int, (Lit.int .i64 z).wf = true → D.atKey (.int .i64 z) (.lit (.int .i64 0)) = .lit (.int .i64 ((cntN L z : Nat) : Int))
theorem keyedInt : Maps.Keyed Tryz.prog 3 := Maps.int_keyed Tryz.underlying3
set_option maxRecDepth 100000 in
theorem ctM_made (w : World) : CtM (w.alloc (.map #[] 0)) w.heap.size 0 [] := ⟨.map [], World.ownsMap_made w _ _ _, fun z _ => rfl⟩
theorem ctM_kp {W W' : World} {b n : Nat} {L : List Fr} (h : CtM W b n L) (k : W'.heap[b]? = W.heap[b]?) : CtM W' b n L := by
  obtain ⟨D, ⟨es, clock, hb, r⟩, hat⟩ := h
  exact ⟨D, ⟨es, clock, k.trans hb, r⟩, hat⟩
set_option maxRecDepth 100000 in
theorem ctM_look {W : World} {b n : Nat} {L : List Fr} (h : CtM W b n L) {z : Int} (hz : (Lit.int .i64 z).wf = true) : (Instr.lookup 127 (.map (some b)) (.int .i64 z) false).run Tryz.prog W = .ok (.int .i64 ((cntN L z : Nat) : Int)) W := by
  obtain ⟨D, ho, hat⟩ := h
  obtain ⟨c, hrun, hc, _⟩ := ho.lookup_int keyedInt Tryz.underlying127 Tryz.underlying3 (zeroIntW W) (Maps.keyOf_int_mk Tryz.underlying3 hz)
  rw [hat z hz] at hc
  injection hc with hc
  injection hc with _ hc
  rw [hrun, ← hc]
set_option maxRecDepth 100000 in
theorem ctM_put {W : World} {b n : Nat} {L : List Fr} (h : CtM W b n L) (hn : n < maxLen) (hl : L.length < 9223372036854775807) {f : Fr} (hz : (Lit.int .i64 f.n).wf = true) :
    ∃ W', (Instr.mapUpdate 127 (.map (some b)) (.int .i64 f.n) (.int .i64 (((cntN L f.n : Nat) : Int) + 1))).run Tryz.prog W = .ok () W' ∧ CtM W' b (n + 1) (L ++ [f]) ∧ W.grownBy W' (some b) := by
  obtain ⟨D, ho, hat⟩ := h
  have hcl := cntN_le L f.n
  have hw : (Lit.int .i64 (((cntN L f.n : Nat) : Int) + 1)).wf = true := wfI (by omega)
  obtain ⟨W', hrun, ho', hg⟩ := ho.update keyedInt Tryz.underlying127 hn (Maps.keyOf_int_mk Tryz.underlying3 hz) (plainElem_int Tryz.underlying3 hw)
  refine ⟨W', hrun, ⟨_, ho', fun z hwz => ?_⟩, hg⟩
  rw [cntN_snoc]
  by_cases e : f.n = z
  · subst e
    rw [if_pos rfl, Maps.atKey_put_same ho.isMap (show WideAt.IsKeyLit (.int .i64 f.n) from trivial)]
    push_cast
    rfl
  · have hne : Lit.int .i64 z ≠ Lit.int .i64 f.n := fun q => e (by
      have := congrArg (fun l : Lit => match l with | .int _ a => a | _ => 0) q
      exact this.symm)
    rw [if_neg e, Nat.add_zero, Maps.atKey_put_other hne, hat z hwz]
theorem ownOwn {W W' : World} {row : Option Nat} {base size n : Nat} {e : TypeId} {v : Value} {xs : List Value} (h : W.ownsRow base e size v n xs) (hg : W.grownBy W' row) (hr : ∀ r, row = some r → ∃ o : Obj, W.heap[r]? = some o ∧ o.isCells = false) : W'.ownsRow base e size v n xs :=
  ⟨h.1, h.2.elim .inl (fun ⟨g, cap, cur, e1, hb, hh, r⟩ => .inr ⟨g, cap, cur, e1, hb, blkOwn (t := e) (cs := cur) hh hg hr, r⟩)⟩
def HmI (w3 : World) (bm b6 : Nat) (C : Int) (fs : List Fr) (m : Nat) (pre : List Nat) (W : World) : Prop :=
  CtM W bm pre.length (gone fs m pre) ∧ (∃ v, Blk W b6 149 #[v] ∧ W.ownsRow w3.heap.size 208 257 v (homeV (gone fs m pre) C pre.length).length (pgsCells (homeV (gone fs m pre) C pre.length))) ∧ Kp (fun b => b = bm ∨ b = b6) w3 W
theorem ctM_lt {W : World} {b n : Nat} {L : List Fr} (h : CtM W b n L) : b < W.heap.size := by
  obtain ⟨D, ho, _⟩ := h
  exact ho.lt
theorem hm_next {w3 W1 W2 : World} {bm b6 : Nat} {C : Int} {fs : List Fr} {m : Nat} {pre : List Nat} {x : Nat} {f : Fr} {v : Value} (h1 : CtM W1 bm (pre.length + 1) (gone fs m pre ++ [f])) (h2 : Blk W1 b6 149 #[v]) (h3 : W1.ownsRow w3.heap.size 208 257 v (homeV (gone fs m pre) C pre.length).length (pgsCells (homeV (gone fs m pre) C pre.length)))
    (h4 : Kp (fun b => b = bm ∨ b = b6) w3 W1) (k : Kp NoB W1 W2) (hf : gone fs m (pre ++ [x]) = gone fs m pre ++ [f]) (hn : ¬ (cntN (gone fs m pre) f.n = 0 ∧ 0 < f.n ∧ f.n ≤ C)) : HmI w3 bm b6 C fs m (pre ++ [x]) W2 := by
  have e := homeV_snoc (gone fs m pre) f C
  rw [if_neg hn, gone_len] at e
  unfold HmI
  rw [hf, List.length_append, show [x].length = 1 from rfl, e]
  exact ⟨ctM_kp h1 (k.block _ (ctM_lt h1) (fun q => q)), ⟨v, h2.keep k (fun q => q), own_keepB h3 k (fun _ _ q => q)⟩, h4.trans (k.mono (fun _ _ q => q.elim)) (fun _ _ q => q)⟩
def IntoV (F : Nat → Nat → Value → Act) (G : World → Nat → Prop) : Exit → Act → World → Prop
  | .normal, a, w => ∃ g h v, a = F g h v ∧ G w g
  | _, _, _ => False
theorem wpIn_intoV {F : Fence} {n : Nat} {P : Program} {c : Code} {Q : Exit → Act → World → Prop} {a : Act} {w : World} (Fr : Nat → Nat → Value → Act) (G : World → Nat → Prop) (h : c.wpIn F n P (IntoV Fr G) a w) (k : ∀ g h v w', G w' g → Q .normal (Fr g h v) w') : c.wpIn F n P Q a w :=
  wpIn_mono h (fun e a w q => by cases e <;> first | exact q.elim | (obtain ⟨g, h, v, rfl, hg⟩ := q; exact k g h v _ hg))
theorem intoV_of {F : Nat → Nat → Value → Act} {G : World → Nat → Prop} {a : Act} {w : World} (g h : Nat) (v : Value) (q : G w g) (e : a = F g h v) : IntoV F G .normal a w := ⟨g, h, v, e, q⟩
def HmG (w3 W1 : World) (bm b6 N : Nat) (xs : List Value) (ob : Option Nat) (V : World) : Prop := (∃ v, Blk V b6 149 #[v] ∧ V.ownsRow w3.heap.size 208 257 v N xs) ∧ Kp (fun b => b = b6 ∨ ob = some b) W1 V
theorem own_cells {W : World} {base size n k : Nat} {e : TypeId} {v : Value} {xs : List Value} {o : Obj} (h : W.ownsRow base e size v n xs) (hk : v.ownBlock = some k) (ho : W.heap[k]? = some o) : o.isCells = true := by
  rcases h.2 with ⟨rfl, _⟩ | ⟨g, cap, cur, rfl, hb, hh, _⟩
  · cases hk
  · have e1 : g = k := by injection hk
    subst e1
    rw [hh] at ho
    injection ho with ho
    rw [← ho]
    rfl
theorem ldSlP {w : World} {g : Nat} {A : Option Addr} {n c : Nat} (hc : w.cell? ⟨g, 0, none⟩ = some (.slice A n c)) (ev : Operand → Value) {x : Operand} {ds : Option Tmp} {ty : TypeId} {ps : String} {af : Array Edge} {gd : Option (Nat × Bool)} (hx : ev x = .pointer (some ⟨g, 0, none⟩)) :
    (execOp ev ⟨ds, .load 149 x, ty, ps, af, gd⟩).run Tryz.prog w = .ok (.value (.slice A n c)) w := by
  simp only [execOp, hx]
  go_simp
theorem pgA_size_list {n : Int} {b : List Int} (h : b.length = 256) : (pgL ⟨n, b⟩).length = 1 * 257 := by
  unfold pgL
  rw [List.length_cons, List.length_map, h]
theorem hm_more {w3 W W1 W2 V : World} {bm b6 : Nat} {C : Int} {fs : List Fr} {m : Nat} {pre : List Nat} {x : Nat} {f : Fr} {v : Value} (hbb : bm ≠ b6) (hb6 : b6 < w3.heap.size) (hbm : bm < w3.heap.size) (hWS : w3.heap.size ≤ W.heap.size) (h1 : CtM W1 bm (pre.length + 1) (gone fs m pre ++ [f])) (h3 : W2.ownsRow w3.heap.size 208 257 v (homeV (gone fs m pre) C pre.length).length (pgsCells (homeV (gone fs m pre) C pre.length)))
    (h4 : Kp (fun b => b = bm ∨ b = b6) w3 W1) (hW1 : Kp (fun b => b = bm) W W1) (k : Kp NoB W1 W2) (hf : gone fs m (pre ++ [x]) = gone fs m pre ++ [f]) (hn : cntN (gone fs m pre) f.n = 0 ∧ 0 < f.n ∧ f.n ≤ C)
    (hG : HmG w3 W2 bm b6 ((homeV (gone fs m pre) C pre.length).length + 1) (pgsCells (homeV (gone fs m pre) C pre.length) ++ pgL ⟨f.n, f.b⟩) v.ownBlock V) : KeepsFrom w3.heap.size W V ∧ KX (fun b => b = bm ∨ b = b6) w3.heap.size W V ∧ HmI w3 bm b6 C fs m (pre ++ [x]) V := by
  obtain ⟨⟨v', h5, h6⟩, hk⟩ := hG
  have e := homeV_snoc (gone fs m pre) f C
  rw [if_pos hn, gone_len] at e
  have hge := own_ge h3
  have hkW : Kp (fun b => b = bm ∨ b = b6) W W2 := (hW1.mono (fun _ _ q => .inl q)).trans (k.mono (fun _ _ q => q.elim)) (fun _ _ q => q)
  refine ⟨⟨Nat.le_trans hkW.size hk.size, fun i o hB hi ho => ?_⟩, ⟨Nat.le_trans hkW.size hk.size, fun i hi hx => ?_⟩, ?_⟩
  · have hi2 : W2.heap[i]? = some o := (hkW.block i (Array.getElem?_eq_some_iff.1 hi).1 (fun q => by omega)).trans hi
    refine (hk.block i (Array.getElem?_eq_some_iff.1 hi2).1 (fun q => ?_)).trans hi2
    rcases q with q | q
    · omega
    · rw [own_cells h3 q hi2] at ho
      cases ho
  · refine (hk.block i (by have := hkW.size; omega) (fun q => ?_)).trans (hkW.block i (by omega) hx)
    rcases q with q | q
    · exact hx (.inr q)
    · have := hge _ q
      omega
  · unfold HmI
    rw [hf, List.length_append, show [x].length = 1 from rfl, e, List.length_append, show [(⟨f.n, f.b⟩ : Pg)].length = 1 from rfl]
    have hp : pgsCells (homeV (gone fs m pre) C pre.length ++ [⟨f.n, f.b⟩]) = pgsCells (homeV (gone fs m pre) C pre.length) ++ pgL ⟨f.n, f.b⟩ := by
      unfold pgsCells
      rw [List.flatMap_append]
      simp
    rw [hp]
    have hc2 := ctM_kp h1 (k.block _ (ctM_lt h1) (fun q => q))
    refine ⟨ctM_kp hc2 (hk.block _ (ctM_lt hc2) (fun q => ?_)), ⟨v', h5, h6⟩, (h4.trans (k.mono (fun _ _ q => q.elim)) (fun _ _ q => q)).trans hk (fun b hb q => ?_)⟩
    · rcases q with q | q
      · exact hbb q
      · have := hge _ q
        omega
    · rcases q with q | q
      · exact .inr q
      · have := hge _ q
        omega
theorem wpIn_into {F : Fence} {n : Nat} {P : Program} {c : Code} {Q : Exit → Act → World → Prop} {a : Act} {w : World} (Fr : Nat → Act) (G : World → Nat → Prop) (h : c.wpIn F n P (Into Fr G) a w) (k : ∀ g w', G w' g → Q .normal (Fr g) w') : c.wpIn F n P Q a w :=
  wpIn_mono h (fun e a w q => by cases e <;> first | exact q.elim | (obtain ⟨g, rfl, hg⟩ := q; exact k g _ hg))
theorem LgS.fblk {w : World} {db lb : Nat} {H : W4} {A : Option Addr} {c : Nat} {fs : List Fr} (h : LgS w db lb H A c fs) {g : Nat} (e : A = some ⟨g, 0, none⟩) : g < w.heap.size := by
  rcases h.o.2 with ⟨q, _⟩ | ⟨g', cap, cur, q, _, hh, _⟩
  · injection q with q1
    rw [e] at q1
    cases q1
  · injection q with q1
    rw [e] at q1
    injection q1 with q1
    injection q1 with q1
    rw [q1]
    exact lt_of_heap hh
attribute [local go_sem ↓] load26 store26 alloc26 build26 loadFrI loadFr storeFr allocFr storeFrI store26I allocFrI load26I loadPg storePg allocPg
attribute [local go_sem] Oper.semAt_some run_makeMap
set_option maxRecDepth 100000 in
set_option maxHeartbeats 3200000 in
theorem whome_q {S : Nat → Prop} {W0 w : World} {db lb : Nat} {p : Pl} {H : W4} {A : Option Addr} {c : Nat} {fs : List Fr} (hq : Dq S W0 w db p) (h : LgS w db lb H A c fs) (m : Nat) (hm : m ≤ fs.length) (hmk : isMark fs (m : Int) = true) (hfl : fs.length ≤ 1048576) :
    Calls Tryz.prog 121 #[.pointer (some ⟨lb, 0, none⟩), .int .i64 (m : Int)] w fun e w' => ∃ v, e = .returned v ∧ OwnPgs w' w.heap.size v (p.whome fs m) ∧ Kp NoB w w' := by
  have HQ := Lib.hid hq
  have HL := Lib.hid h
  have HM := Lib.hid hm
  have HMK := Lib.hid hmk
  have HFL := Lib.hid hfl
  clear hq h hm hmk hfl
  obtain ⟨C, hC⟩ : ∃ C, wcount p fs (m : Int) = C := ⟨_, rfl⟩
  have HCC := Lib.hid hC
  clear hC
  refine (callsIn_wide (n := 5)).1 ?_
  refine callsIn_of_wp_marks Tryz.func121 rfl trivial ?_ rfl
  simp only [Tryz.ntmps121, List.size_toArray, List.length_cons, List.length_nil, Nat.reduceAdd, Nat.reduceSub, Array.replicate_succ, Array.replicate_zero, List.push_toArray, List.append_toArray, List.nil_append, List.cons_append]
  gi_wp2_with (refine ⟨trivial, ?_⟩; gi_at_call 156; refine (callsIn_wide.2 (upto_q _ lb m)).mono ?_; rintro e w3 ⟨rfl, hw3⟩; have HW3 := Lib.hid hw3; clear hw3)
  have hL3 : LgS w3 db lb H A c fs := HL.out.keep (by rw [HW3.out]; exact (((((((Kp.refl NoB w).alloc _).alloc _).alloc _).alloc _).alloc _).alloc _).alloc _)
  have hsz : w3.heap.size = w.heap.size + 7 := by rw [HW3.out]; simp
  have hB : Blk w3 (w.heap.size + 1 + 1 + 1 + 1 + 1 + 1) 3 #[.int .i64 (m : Int)] := by rw [HW3.out]; exact Blk.newAt _ _ _ _ (by simp)
  have hC : Blk w3 (w.heap.size + 1 + 1 + 1 + 1 + 1) 199 #[.pointer (some ⟨lb, 0, none⟩)] := by rw [HW3.out]; exact (Blk.newAt _ _ _ _ (by simp)).alloc _
  have hO : Blk w3 (w.heap.size + 1 + 1 + 1 + 1) 149 #[.slice none 0 0] := by rw [HW3.out]; exact ((Blk.newAt _ _ _ _ (by simp)).alloc _).alloc _
  have hMB : Blk w3 (w.heap.size + 1 + 1 + 1) 127 #[.map (some (w.heap.size + 1 + 1))] := by rw [HW3.out]; exact (((Blk.newAt _ _ _ _ (by simp)).alloc _).alloc _).alloc _
  have hMP : CtM w3 (w.heap.size + 1 + 1) 0 [] := by
    have h0 := ctM_made ((w.alloc (.cells #[.pointer (some ⟨lb, 0, none⟩)] 199)).alloc (.cells #[.int .i64 (m : Int)] 3))
    rw [show ((w.alloc (.cells #[.pointer (some ⟨lb, 0, none⟩)] 199)).alloc (.cells #[.int .i64 (m : Int)] 3)).heap.size = w.heap.size + 1 + 1 by simp] at h0
    refine ctM_kp h0 ?_
    rw [HW3.out]
    exact ((((Kp.refl NoB _).alloc _).alloc _).alloc _ |>.alloc _).block _ (by simp) (fun q => q)
  have hBL : Blk w3 w.heap.size 199 #[.pointer (some ⟨lb, 0, none⟩)] := by rw [HW3.out]; exact ((((((Blk.new _ _ _).alloc _).alloc _).alloc _).alloc _).alloc _).alloc _
  have hBM : Blk w3 (w.heap.size + 1) 3 #[.int .i64 (m : Int)] := by rw [HW3.out]; exact (((((Blk.newAt _ _ _ _ (by simp)).alloc _).alloc _).alloc _).alloc _).alloc _
  have hk3 : Kp NoB w w3 := by rw [HW3.out]; exact (((((((Kp.refl NoB w).alloc _).alloc _).alloc _).alloc _).alloc _).alloc _).alloc _
  have HL3 := Lib.hid hL3
  have HB := Lib.hid hB
  have HC := Lib.hid hC
  have HO := Lib.hid hO
  have HMB := Lib.hid hMB
  have HMP := Lib.hid hMP
  have HBL := Lib.hid hBL
  have HBM := Lib.hid hBM
  have HK3 := Lib.hid hk3
  have HSZ := Lib.hid hsz
  have HLB : Hid (lb < w.heap.size) := Lib.hid HL.out.b.lt
  clear hL3 hB hC hO hMB hMP hBL hBM hk3 hsz HW3
  obtain ⟨s0, hs0⟩ : ∃ s0, w.heap.size = s0 := ⟨_, rfl⟩
  rw [hs0] at HB HC HO HMB HMP HBL HBM HSZ HLB ⊢
  have HS0 := Lib.hid hs0
  clear hs0
  have HOK : Hid (0 < m → ∀ x, FrOk (frK fs m x)) := Lib.hid (fun h0 x => by
    unfold frK
    rw [List.getD_eq_getElem?_getD, List.getElem?_eq_getElem (by have := HM.out; omega)]
    exact HL3.out.ok _ (List.getElem_mem _))
  refine wpIn_rangeFunc_ownH (w0 := w3) rfl (by omega) (gf := 180) (lb := #[.pointer (some ⟨s0 + 1 + 1 + 1 + 1 + 1 + 1, 0, none⟩), .pointer (some ⟨s0 + 1 + 1 + 1 + 1 + 1, 0, none⟩)]) rfl trivial (enters_of Tryz.func180 (by kernel_rfl) rfl)
    (up_stopsX (fun b => b = s0 + 1 + 1 ∨ b = s0 + 1 + 1 + 1 + 1) Fence.wide (5 - 1) trivial rfl (by omega) (s0 + 1 + 1 + 1 + 1 + 1 + 1) (s0 + 1 + 1 + 1 + 1 + 1) db lb H A c fs m HM.out (by have := HLB.out; omega) (by omega) (by omega) (fun g e => by have := HL.out.fblk e; have := HS0.out; omega) w3 HL3.out HB.out HC.out) KX.trans (kX_b (Nat.le_refl _)) (Below.refl _ w3) (fun _ => rfl)
    (HmI w3 (s0 + 1 + 1) (s0 + 1 + 1 + 1 + 1) C fs m) (fun _ _ _ => False)
    (fun pre W W' row hs hg hr => by
      obtain ⟨h1, ⟨v, h2, h3⟩, h4⟩ := hs
      refine ⟨ctM_kp h1 (hg.block _ (ctM_lt h1) (fun e => by have := (hr _ e.symm).1; have := HSZ.out; omega)), ⟨v, blkOwn h2 hg (fun r e => (hr r e).2), ownOwn h3 hg (fun r e => (hr r e).2)⟩, h4.grownBy hg (fun r e => (hr r e).1)⟩)
    (fun c pre W W' row hs hg hr => hs)
    ⟨HMP.out, ⟨_, HO.out, World.ownsRow_nil _ _ _ _⟩, Kp.refl _ _⟩
    (fun x a' W => ∃ g, w3.heap.size ≤ g ∧ a' = { tmps := #[.pointer (some ⟨lb, 0, none⟩), .int .i64 (m : Int), .pointer (some ⟨s0, 0, none⟩), .pointer (some ⟨s0 + 1, 0, none⟩), .slice none 0 0, .pointer (some ⟨s0 + 1 + 1 + 1, 0, none⟩), .pointer (some ⟨s0 + 1 + 1 + 1 + 1, 0, none⟩), .pointer (some ⟨g, 0, none⟩), .map (some (s0 + 1 + 1)), .pointer (some ⟨lb, 0, none⟩), .int .i64 (m : Int), .func (.func 180) #[] #[.pointer (some ⟨s0 + 1 + 1 + 1 + 1 + 1 + 1, 0, none⟩), .pointer (some ⟨s0 + 1 + 1 + 1 + 1 + 1, 0, none⟩)], .agg (frL (frK fs m x)).toArray, undef, undef, undef, undef, undef, undef, undef, undef, undef, undef, undef, undef, undef, undef, undef, undef, undef, undef, undef, undef, undef, undef, undef, undef, undef, undef, undef, undef, undef, undef, undef, undef, undef, undef, undef, undef, undef, undef, undef], defers := [] } ∧ Blk W g 236 (frL (frK fs m x)).toArray)
    (fun x a' _ W W' row hs hg hr => by
      obtain ⟨g, h1, h2, h3⟩ := hs
      exact ⟨g, h1, h2, blkOwn h3 hg (fun r e => (hr r e).2)⟩) ?assign ?body ?done ?stop
  case assign =>
    intro l pre x W K hI hK
    have HKK := Lib.hid hI.2.2.size
    have hfr : (encF fs m x) = #[.agg (frL (frK fs m x)).toArray] := rfl
    rw [hfr]
    have hlen : (frL (frK fs m x)).toArray.size = 259 := by rw [List.size_toArray, frL_len]
    have hon : ones (frL (frK fs m x)).toArray := ones_of (frL_one _)
    obtain ⟨FV, hFV⟩ : ∃ FV, (frL (frK fs m x)).toArray = FV := ⟨_, rfl⟩
    have hK1 := fun g W' h1 h2 h3 h4 h5 => hK _ W' h1 h2 h3 ⟨g, h4, rfl, h5⟩
    rw [hFV] at hlen hon hK1 ⊢
    have hb := Blk.new W 236 fr0
    have t1 := hb.thereAll 259 (by kernel_rfl)
    have hb2 := hb.whole FV (by rw [hlen]; kernel_rfl)
    have HB2 := Lib.hid hb2
    have HK1 := Lib.hid hK1
    have HI := Lib.hid hI
    clear hb hb2 hK hK1 hI
    gi_wp2
    have hkn : Kp NoB W ((W.alloc (.cells fr0 236)).setCells W.heap.size 0 FV.toList) := Kp.setCells (.inl (Nat.le_refl _)) _ _ _ ((Kp.refl _ _).alloc _)
    refine HK1.out W.heap.size _ ?_ ?_ ?_ HKK.out HB2.out
    · exact Kp.from (S := NoB) hkn (fun b q => q.elim)
    · exact hkn.toX HKK.out (fun i q _ => q.elim)
    · obtain ⟨h1, ⟨v, h2, h3⟩, h4⟩ := HI.out
      exact ⟨ctM_kp h1 (hkn.block _ (ctM_lt h1) (fun q => q)), ⟨v, h2.keep hkn (fun q => q), own_keepB h3 hkn (fun _ _ q => q)⟩, h4.trans (hkn.mono (fun _ _ q => q.elim)) (fun _ _ q => q)⟩
  case stop =>
    rintro D c pre W hD ⟨k, hk, rfl⟩ h1 hK
    exact h1.elim
  case body =>
    rintro l pre x a' W hl hr hI ⟨g, hg, rfl, hgb⟩ hlt
    obtain ⟨hct, ⟨v, hb6, how⟩, hkp⟩ := hI
    have HWS : Hid (w3.heap.size ≤ W.heap.size) := Lib.hid hkp.size
    have hok := HOK.out (by omega) x
    obtain ⟨f, hf⟩ : ∃ f, frK fs m x = f := ⟨_, rfl⟩
    rw [hf] at hok hgb ⊢
    have HF := Lib.hid hf
    have hz : (Lit.int .i64 f.n).wf = true := wfI (by have := hok.n0; omega)
    have hlook := ctM_look hct hz
    have hgl := gone_len fs m pre
    have hcl := cntN_le (gone fs m pre) f.n
    obtain ⟨W1, hput, hct1, hg1⟩ := ctM_put hct (by have := HM.out; have := HFL.out; unfold maxLen; omega) (by have := HM.out; have := HFL.out; omega) hz
    have hct2 := fun V (k : Kp NoB W1 V) => ctM_look (ctM_kp hct1 (k.block _ (ctM_lt hct1) (fun q => q))) hz
    rw [cntN_snoc, if_pos rfl] at hct2
    obtain ⟨cn, hcn⟩ : ∃ cn : Nat, cntN (gone fs m pre) f.n = cn := ⟨_, rfl⟩
    rw [hcn] at hlook hput hcl hct2
    have HCN0 := Lib.hid hcn
    obtain ⟨fn, hfn⟩ : ∃ fn, f.n = fn := ⟨_, rfl⟩
    have c0 : W.cell? ⟨g, 0, none⟩ = some (.int .i64 fn) := by rw [hgb.cell, ← hfn]; rfl
    rw [hfn] at hlook hput hct2
    have HFN := Lib.hid hfn
    have HOKF := Lib.hid hok
    have hX : ∀ b, (b = s0 + 1 + 1 ∨ b = s0 + 1 + 1 + 1 + 1) → b < w3.heap.size := fun b q => by have := HSZ.out; omega
    have cm : W.cell? ⟨s0 + 1 + 1 + 1, 0, none⟩ = some (.map (some (s0 + 1 + 1))) := (HMB.out.keep hkp (fun q => by omega)).cell 0
    have hw : IntKind.i64.wrap ((cn : Int) + 1) = (cn : Int) + 1 := by have := HM.out; have := HFL.out; rw [IntKind.wrap_i64]; omega
    have hkW1 : Kp (fun b => b = s0 + 1 + 1) W W1 := (Kp.refl _ _).grown hg1 (fun k e => .inr (by injection e with e; exact e.symm))
    have HK13 : Hid (Kp (fun b => b = s0 + 1 + 1 ∨ b = s0 + 1 + 1 + 1 + 1) w3 W1) := Lib.hid (hkp.trans (hkW1.mono (fun _ _ q => .inl q)) (fun _ _ q => q))
    have HKW1 := Lib.hid hkW1
    have HCT1 := Lib.hid hct1
    have HGB1 : Hid (Blk W1 g 236 (frL f).toArray) := Lib.hid (hgb.keep hkW1 (fun q => by have := HSZ.out; omega))
    have HB61 : Hid (Blk W1 (s0 + 1 + 1 + 1 + 1) 149 #[v]) := Lib.hid (hb6.keep hkW1 (fun q => by omega))
    have HOW1 : Hid (W1.ownsRow w3.heap.size 208 257 v (homeV (gone fs m pre) C pre.length).length (pgsCells (homeV (gone fs m pre) C pre.length))) := Lib.hid (own_keepB how hkW1 (fun b hb q => by have := own_ge how b hb; have := HSZ.out; omega))
    have HCN : Hid (W1.cell? ⟨g, 0, none⟩ = some (.int .i64 fn)) := Lib.hid (by rw [HGB1.out.cell, ← hfn]; rfl)
    have HCM : Hid (W1.cell? ⟨s0 + 1 + 1 + 1, 0, none⟩ = some (.map (some (s0 + 1 + 1)))) := Lib.hid ((HMB.out.keep HK13.out (fun q => by omega)).cell 0)
    have HLT3 : Hid (s0 + 1 + 1 + 1 < W1.heap.size) := Lib.hid (by have := HK13.out.size; have := HSZ.out; omega)
    have HLTG : Hid (g < W1.heap.size) := Lib.hid HGB1.out.lt
    have HLK : Hid (∀ w', Kp NoB W1 w' → (Instr.lookup 127 (.map (some (s0 + 1 + 1))) (.int .i64 fn) false).run Tryz.prog w' = .ok (.int .i64 ((cn : Int) + 1)) w') := Lib.hid (fun w' k => by have := hct2 w' k; push_cast at this; exact this)
    have HFS : Hid (gone fs m (pre ++ [x]) = gone fs m pre ++ [f]) := Lib.hid (by rw [gone_snoc, hf])
    clear hct hb6 how hkp hok hf hgb hz hgl hct1 hg1 hct2 hcn hfn hkW1 hr
    gi_wp2
    by_cases hcn : cn = 0
    · by_cases hfp : 0 < fn
      · have HQ1 : Hid (Dq S W0 W1 db p) := Lib.hid (HQ.out.keep (HK3.out.trans HK13.out (fun b hb q => by have := HS0.out; omega)))
        have HL1 : Hid (LgS W1 db lb H A c fs) := Lib.hid (HL3.out.keepX (HK13.out.toX (Nat.le_refl _) (fun i q _ => q)) (by have := HLB.out; omega) (fun g e => by have := HL.out.fblk e; have := HS0.out; omega))
        have HBL1 := Lib.hid (HBL.out.keep HK13.out (fun q => by omega))
        have HBM1 := Lib.hid (HBM.out.keep HK13.out (fun q => by omega))
        by_cases hfc : fn ≤ C
        · have HNE : Hid (cntN (gone fs m pre) f.n = 0 ∧ 0 < f.n ∧ f.n ≤ C) := Lib.hid (by rw [HCN0.out, HFN.out]; exact ⟨hcn, hfp, hfc⟩)
          apply wpIn_into (G := fun V (q : Nat) => q = g ∧ Kp NoB W1 V)
          · refine wpIn_region_held_drew (S := fun V => Kp NoB W1 V) (by kernel_rfl) (by kernel_rfl) (fun _ _ q => q) (Kp.refl NoB W1).drew (fun hHeld => ?_)
            have k0' : Kp NoB W1 W1.drew := (Kp.refl NoB W1).drew
            generalize W1.drew = V0 at k0' hHeld ⊢
            refine tkS (i := 0) (v := (.map (some (s0 + 1 + 1)))) rfl (Or.inl ⟨by rfl, fun w' hq => by have cc := (hq.cell HLT3.out (fun q => q)).trans HCM.out; go_simp⟩) k0' ?_
            simp only [Act.put, skA, skB, skC]
            refine tkS (i := 1) (v := (.pointer (some ⟨g, 0, none⟩))) rfl (Or.inl ⟨by rfl, fun w' hq => by go_simp⟩) k0' ?_
            simp only [Act.put, skA, skB, skC]
            refine tkS (i := 2) (v := (.pointer (some ⟨g, 0, none⟩))) rfl (Or.inl ⟨by rfl, fun w' hq => by go_simp⟩) k0' ?_
            simp only [Act.put, skA, skB, skC]
            refine tkS (i := 3) (v := (.int .i64 fn)) rfl (Or.inl ⟨by rfl, fun w' hq => by have cc := (hq.cell HLTG.out (fun q => q)).trans HCN.out; go_simp⟩) k0' ?_
            simp only [Act.put, skA, skB, skC]
            refine tkS (i := 4) (v := (.int .i64 ((cn : Int) + 1))) rfl (Or.inl ⟨by rfl, fun w' hq => by have cc := HLK.out w' hq; go_simp⟩) k0' ?_
            simp only [Act.put, skA, skB, skC]
            refine tkS (i := 5) (v := (.bool true)) rfl (Or.inl ⟨by rfl, fun w' hq => by subst hcn; go_simp⟩) k0' ?_
            simp only [Act.put, skA, skB, skC]
            refine tkS (i := 6) (v := (.bool true)) rfl (Or.inl ⟨by rfl, fun w' hq => by go_simp⟩) k0' ?_
            simp only [Act.put, skA, skB, skC]
            refine tkS (i := 7) (v := (.pointer (some ⟨g, 0, none⟩))) rfl (Or.inl ⟨by rfl, fun w' hq => by go_simp⟩) k0' ?_
            simp only [Act.put, skA, skB, skC]
            refine tkS (i := 8) (v := (.pointer (some ⟨g, 0, none⟩))) rfl (Or.inl ⟨by rfl, fun w' hq => by go_simp⟩) k0' ?_
            simp only [Act.put, skA, skB, skC]
            refine tkS (i := 9) (v := (.int .i64 fn)) rfl (Or.inl ⟨by rfl, fun w' hq => by have cc := (hq.cell HLTG.out (fun q => q)).trans HCN.out; go_simp⟩) k0' ?_
            simp only [Act.put, skA, skB, skC]
            refine tkS (i := 10) (v := (.bool true)) rfl (Or.inl ⟨by rfl, fun w' hq => by have cc := hfp; go_simp⟩) k0' ?_
            simp only [Act.put, skA, skB, skC]
            refine tkS (i := 11) (v := (.bool true)) rfl (Or.inl ⟨by rfl, fun w' hq => by go_simp⟩) k0' ?_
            simp only [Act.put, skA, skB, skC]
            refine tkS (i := 12) (v := (.bool true)) rfl (Or.inl ⟨by rfl, fun w' hq => by go_simp⟩) k0' ?_
            simp only [Act.put, skA, skB, skC]
            refine tkS (i := 13) (v := (.pointer (some ⟨g, 0, none⟩))) rfl (Or.inl ⟨by rfl, fun w' hq => by go_simp⟩) k0' ?_
            simp only [Act.put, skA, skB, skC]
            refine tkS (i := 14) (v := (.pointer (some ⟨g, 0, none⟩))) rfl (Or.inl ⟨by rfl, fun w' hq => by go_simp⟩) k0' ?_
            simp only [Act.put, skA, skB, skC]
            refine tkS (i := 15) (v := (.int .i64 fn)) rfl (Or.inl ⟨by rfl, fun w' hq => by have cc := (hq.cell HLTG.out (fun q => q)).trans HCN.out; go_simp⟩) k0' ?_
            simp only [Act.put, skA, skB, skC]
            refine tkS (i := 16) (v := (.pointer (some ⟨lb, 0, none⟩))) rfl (Or.inl ⟨by rfl, fun w' hq => by have cc : w'.cell? ⟨s0, 0, none⟩ = some (.pointer (some ⟨lb, 0, none⟩)) := (hq.cell HBL1.out.lt (fun q => q)).trans (HBL1.out.cell 0); go_simp⟩) k0' ?_
            simp only [Act.put, skA, skB, skC]
            refine tkS (i := 17) (v := (.int .i64 (m : Int))) rfl (Or.inl ⟨by rfl, fun w' hq => by have cc : w'.cell? ⟨s0 + 1, 0, none⟩ = some (.int .i64 (m : Int)) := (hq.cell HBM1.out.lt (fun q => q)).trans (HBM1.out.cell 0); go_simp⟩) k0' ?_
            simp only [Act.put, skA, skB, skC]
            refine wpAnyH_ready (rs := [18]) (by kernel_rfl) (by simp) ?_
            refine AllReadyH.callR (fun y W' => y = .int .i64 C ∧ W' = V0) rfl (by rfl) 120 #[.pointer (some ⟨lb, 0, none⟩), .int .i64 (m : Int)] (by first | (go_simp; done) | (go_simp; rfl)) (fun _ _ z => by rw [z.2]; exact k0') ((wcount_q (HQ1.out.keep k0') (HL1.out.keep k0') _ HMK.out).mono (by rintro e w19 ⟨rfl, hw⟩; exact ⟨_, rfl, by rw [HCC.out], hw.symm⟩)) ?_ AllReadyH.nil
            rintro y V1 ⟨rfl, rfl⟩
            have k2' := k0'
            simp only [Act.put, skA, skB, skC]
            refine tkS (i := 19) (v := (.bool true)) rfl (Or.inl ⟨by rfl, fun w' hq => by have cc := hfc; go_simp⟩) k2' ?_
            simp only [Act.put, skA, skB, skC]
            refine tkS (i := 20) (v := (.bool true)) rfl (Or.inl ⟨by rfl, fun w' hq => by go_simp⟩) k2' ?_
            simp only [Act.put, skA, skB, skC]
            refine wpAnyH_done (by kernel_rfl) ?_ _
            generalize g = z
            exact into_of z ⟨rfl, k2'⟩ rfl
          intro gz W2 hz6
          obtain ⟨hz, hk2⟩ := hz6
          subst hz
          have HK2 := Lib.hid hk2
          have HK23 : Hid (Kp (fun b => b = s0 + 1 + 1 ∨ b = s0 + 1 + 1 + 1 + 1) w3 W2) := Lib.hid (HK13.out.trans (hk2.mono (fun _ _ q => q.elim)) (fun _ _ q => q))
          have HGB2 := Lib.hid (HGB1.out.keep hk2 (fun q => q))
          have hb62 := HB61.out.keep hk2 (fun q => q)
          have how2 := own_keepB HOW1.out hk2 (fun _ _ q => q)
          obtain ⟨NO, hNO⟩ : ∃ NO, (homeV (gone fs m pre) C pre.length).length = NO := ⟨_, rfl⟩
          have HNO : Hid (NO ≤ 1048576) := Lib.hid (by have h1 := homeV_len (gone fs m pre) C pre.length; have h2 := HM.out; have h3 := HFL.out; omega)
          have HNO2 := Lib.hid hNO
          rw [hNO] at how2
          obtain ⟨AO, cO, rfl⟩ := own_slice how2
          have HB62 := Lib.hid hb62
          have HOW2 := Lib.hid how2
          have HPGC := Lib.hid (fun V => frpage_q V f HOKF.out)
          have HPL := Lib.hid HOKF.out.len
          have HFS9 : Hid ((frL f).toArray.size = 259) := Lib.hid (by rw [List.size_toArray, frL_len])
          obtain ⟨FV, hFV⟩ : ∃ FV, (frL f).toArray = FV := ⟨_, rfl⟩
          rw [hFV] at HGB2 HPGC HFS9 ⊢
          obtain ⟨j0, hj0, hy0, hy1, hy2⟩ := info_parts infoPgA
          have HJ0 := Lib.hid hj0
          have HY0 := Lib.hid hy0
          have HY1 := Lib.hid hy1
          have HY2 := Lib.hid hy2
          have HPS : Hid ((pgA ⟨fn, f.b⟩).size = 257) := Lib.hid (by unfold pgA; rw [List.size_toArray, pgA_size_list HPL.out])
          have HGNE : Hid (∀ b, (Value.slice AO NO cO).ownBlock = some b → b ≠ gz) := Lib.hid (fun b hb e => by
            subst e
            have h1 := HGB2.out
            rcases how2.2 with ⟨q, _⟩ | ⟨g', cap, cur, q, _, hh, _⟩
            · injection q with q1 q2 q3
              rw [q1] at hb
              cases hb
            · have e1 : g' = b := by
                have h5 := hb
                rw [q] at h5
                injection h5
              subst e1
              exact blk_ne h1 hh (by decide) rfl)
          clear hk2 hb62 how2 hNO hFV hj0 hy0 hy1 hy2
          gi_wp2
          have HSG : Hid (∀ b, (b = s0 + 1 + 1 + 1 + 1 ∨ (Value.slice AO NO cO).ownBlock = some b) → b ≠ gz) := Lib.hid (fun b q => by
            rcases q with q | q
            · have := HSZ.out; omega
            · exact HGNE.out b q)
          have HCN2 : Hid (W2.cell? ⟨gz, 0, none⟩ = some (.int .i64 fn)) := Lib.hid ((HK2.out.cell HLTG.out (fun q => q)).trans HCN.out)
          apply wpIn_intoV (G := fun V (q : Nat) => q = gz ∧ HmG w3 W2 (s0 + 1 + 1) (s0 + 1 + 1 + 1 + 1) (NO + 1) (pgsCells (homeV (gone fs m pre) C pre.length) ++ pgL ⟨fn, f.b⟩) (Value.slice AO NO cO).ownBlock V)
          · refine wpIn_region_held_drew (S := fun V => Kp (fun b => b = s0 + 1 + 1 + 1 + 1 ∨ (Value.slice AO NO cO).ownBlock = some b) W2 V) (by kernel_rfl) (by kernel_rfl) (fun _ _ q => q) (Kp.refl _ W2).drew (fun hHeld => ?_)
            have k0' : Kp NoB W2 W2.drew := (Kp.refl NoB W2).drew
            generalize W2.drew = V0 at k0' hHeld ⊢
            have kS0 : Kp (fun b => b = s0 + 1 + 1 + 1 + 1 ∨ (Value.slice AO NO cO).ownBlock = some b) W2 V0 := k0'.mono (fun _ _ q => q.elim)
            refine tkS (i := 1) (v := (.pointer (some ⟨gz, 0, none⟩))) rfl (Or.inl ⟨by rfl, fun w' hq => by go_simp⟩) kS0 ?_
            simp only [Act.put, skA, skB, skC]
            refine tkS (i := 2) (v := (.pointer (some ⟨gz, 0, none⟩))) rfl (Or.inl ⟨by rfl, fun w' hq => by go_simp⟩) kS0 ?_
            simp only [Act.put, skA, skB, skC]
            refine tkS (i := 3) (v := (.int .i64 fn)) rfl (Or.inl ⟨by rfl, fun w' hq => by have cc := (hq.cell HGB2.out.lt (fun q => HSG.out _ q rfl)).trans HCN2.out; go_simp⟩) kS0 ?_
            simp only [Act.put, skA, skB, skC]
            refine tkS (i := 4) (v := .agg FV) rfl (Or.inl ⟨by rfl, fun w' hq => exLoadFr (HGB2.out.keep hq (fun q => HSG.out _ q rfl)) HFS9.out _ rfl⟩) kS0 ?_
            simp only [Act.put, skA, skB, skC]
            refine wpAnyH_ready (rs := [0, 5]) (by kernel_rfl) (by simp) ?_
            refine AllReadyH.valR (fun W' => W' = V0) rfl (by rfl) _ _ (ldSlP ((HB62.out.keep k0' (fun q => q)).cell 0) _ rfl) (fun W' e => by rw [e]; exact kS0) rfl ?_ ?_
            · rintro V0 rfl
              simp only [Act.put, skA, skB, skC]
              refine wpAnyH_ready (rs := [5]) (by kernel_rfl) (by simp) ?_
              refine AllReadyH.callR (fun y W' => y = .agg (bytesV f.b) ∧ Kp NoB V0 W') rfl (by rfl) 157 #[.agg FV] (by first | (go_simp; done) | (go_simp; rfl)) (fun _ _ z => (kS0).trans (z.2.mono (fun _ _ y => y.elim)) (fun _ _ y => y)) ((HPGC.out V0).mono (by rintro e w19 ⟨rfl, hk⟩; exact ⟨_, rfl, rfl, hk⟩)) ?_ AllReadyH.nil
              rintro y V1 ⟨rfl, kk1⟩
              have k1 := k0'.trans kk1 (fun _ _ q => q)
              have kS1 : Kp (fun b => b = s0 + 1 + 1 + 1 + 1 ∨ (Value.slice AO NO cO).ownBlock = some b) W2 V1 := k1.mono (fun _ _ q => q.elim)
              simp only [Act.put, skA, skB, skC]
              refine tkS (i := 6) (v := .agg (pgA ⟨fn, f.b⟩)) rfl (Or.inl ⟨by rfl, fun w' hq => exBuildPg2 w' _ _ _ fn f.b HPL.out _ _ _ _ _ rfl rfl⟩) kS1 ?_
              simp only [Act.put, skA, skB, skC]
              refine wpAnyH_ready (rs := [7]) (by kernel_rfl) (by simp) ?_
              refine AllReadyH.valR (fun W' => W' = V1.alloc (.cells (pgA ⟨fn, f.b⟩) 208)) rfl (by rfl) _ _ (exSlicePg V1 _ _ _ _ _ _ _ _ rfl HPS.out) (fun W' e => by rw [e]; exact (kS1).alloc _) rfl ?_ AllReadyH.nil
              rintro _ rfl
              simp only [Act.put, skA, skB, skC]
              refine wpAnyH_ready (rs := [8]) (by kernel_rfl) (by simp) ?_
              have hownV := own_keepB HOW2.out (k1.alloc (.cells (pgA ⟨fn, f.b⟩) 208)) (fun _ _ q => q)
              refine AllReadyH.appendB rfl (by rfl) w3.heap.size 208 j0 _ 257 264 Tryz.underlying149 HJ0.out HY0.out HY1.out HY2.out rfl (by omega) (.slice AO NO cO) NO (pgsCells (homeV (gone fs m pre) C pre.length)) rfl hownV ⟨V1.heap.size, 0, none⟩ 1 1 (pgL ⟨fn, f.b⟩) rfl (pgA_size_list HPL.out) (pg_new V1 ⟨fn, f.b⟩) (pgL_one ⟨fn, f.b⟩) (by have := HNO.out; unfold maxLen; omega) (by have := HNO.out; omega) (by have h1 := ((k1.alloc (.cells (pgA ⟨fn, f.b⟩) 208))).size; have h2 := HK23.out.size; omega) (fun v' w' h1 h2 h3 => (Kp.mono (k1.alloc (.cells (pgA ⟨fn, f.b⟩) 208)) (fun _ _ q => q.elim)).grown h2 (fun k hk => .inr (.inr hk))) ?_ AllReadyH.nil
              intro v7 w7 hown7 hgrow7 hb7
              have hk7 : Kp (fun b => b = s0 + 1 + 1 + 1 + 1 ∨ (Value.slice AO NO cO).ownBlock = some b) W2 w7 := (Kp.mono (k1.alloc (.cells (pgA ⟨fn, f.b⟩) 208)) (fun _ _ q => q.elim)).grown hgrow7 (fun k hk => .inr (.inr hk))
              have hb67 : Blk w7 (s0 + 1 + 1 + 1 + 1) 149 #[.slice AO NO cO] := (HB62.out.keep (k1.alloc (.cells (pgA ⟨fn, f.b⟩) 208)) (fun q => q)).keep ((Kp.refl (fun b => (Value.slice AO NO cO).ownBlock = some b) _).grown hgrow7 (fun k hk => .inr hk)) (fun q => by have := own_ge HOW2.out _ q; have := HSZ.out; omega)
              obtain ⟨A7, c7, rfl⟩ := own_slice hown7
              simp only [Act.put, skA, skB, skC]
              refine wpAnyH_ready (rs := [9]) (by kernel_rfl) (by simp) ?_
              have hks : Kp (fun b => b = s0 + 1 + 1 + 1 + 1 ∨ (Value.slice AO NO cO).ownBlock = some b) W2 (w7.setCell ⟨s0 + 1 + 1 + 1 + 1, 0, none⟩ (.slice A7 (NO + 1) c7)) := hk7.setCell (p := ⟨s0 + 1 + 1 + 1 + 1, 0, none⟩) (.inr (.inl rfl)) _
              refine AllReadyH.skipR rfl (by rfl) _ (stSl hb67 _ rfl rfl) hks ?_ AllReadyH.nil
              have hkn : Kp (OnB (s0 + 1 + 1 + 1 + 1)) w7 (w7.setCell ⟨s0 + 1 + 1 + 1 + 1, 0, none⟩ (.slice A7 (NO + 1) c7)) := (Kp.refl (OnB (s0 + 1 + 1 + 1 + 1)) w7).setCell (p := ⟨s0 + 1 + 1 + 1 + 1, 0, none⟩) (.inr rfl) _
              have hown8 := own_keepB hown7 hkn (fun b hb q => by have := own_ge hown7 b hb; have := HSZ.out; unfold OnB at q; omega)
              refine wpAnyH_done (by kernel_rfl) ?_ _
              have hfin : HmG w3 W2 (s0 + 1 + 1) (s0 + 1 + 1 + 1 + 1) (NO + 1) (pgsCells (homeV (gone fs m pre) C pre.length) ++ pgL ⟨fn, f.b⟩) (Value.slice AO NO cO).ownBlock (w7.setCell ⟨s0 + 1 + 1 + 1 + 1, 0, none⟩ (.slice A7 (NO + 1) c7)) := ⟨⟨_, hb67.set_ 0 _, hown8⟩, hks⟩
              generalize hsl : Value.slice A7 (NO + 1) c7 = vz at hfin ⊢
              generalize V1.heap.size = hz0
              generalize gz = z
              exact intoV_of z hz0 vz ⟨rfl, hfin⟩ rfl
            · refine AllReadyH.callR (fun y W' => y = .agg (bytesV f.b) ∧ Kp NoB V0 W') rfl (by rfl) 157 #[.agg FV] (by first | (go_simp; done) | (go_simp; rfl)) (fun _ _ z => (kS0).trans (z.2.mono (fun _ _ y => y.elim)) (fun _ _ y => y)) ((HPGC.out V0).mono (by rintro e w19 ⟨rfl, hk⟩; exact ⟨_, rfl, rfl, hk⟩)) ?_ AllReadyH.nil
              rintro y V1 ⟨rfl, kk1⟩
              have k1 := k0'.trans kk1 (fun _ _ q => q)
              have kS1 : Kp (fun b => b = s0 + 1 + 1 + 1 + 1 ∨ (Value.slice AO NO cO).ownBlock = some b) W2 V1 := k1.mono (fun _ _ q => q.elim)
              simp only [Act.put, skA, skB, skC]
              refine tkS (i := 6) (v := .agg (pgA ⟨fn, f.b⟩)) rfl (Or.inl ⟨by rfl, fun w' hq => exBuildPg2 w' _ _ _ fn f.b HPL.out _ _ _ _ _ rfl rfl⟩) kS1 ?_
              simp only [Act.put, skA, skB, skC]
              refine wpAnyH_ready (rs := [0, 7]) (by kernel_rfl) (by simp) ?_
              refine AllReadyH.valR (fun W' => W' = V1) rfl (by rfl) _ _ (ldSlP ((HB62.out.keep k1 (fun q => q)).cell 0) _ rfl) (fun W' e => by rw [e]; exact kS1) rfl ?_ ?_
              · rintro V1 rfl
                simp only [Act.put, skA, skB, skC]
                refine wpAnyH_ready (rs := [7]) (by kernel_rfl) (by simp) ?_
                refine AllReadyH.valR (fun W' => W' = V1.alloc (.cells (pgA ⟨fn, f.b⟩) 208)) rfl (by rfl) _ _ (exSlicePg V1 _ _ _ _ _ _ _ _ rfl HPS.out) (fun W' e => by rw [e]; exact (kS1).alloc _) rfl ?_ AllReadyH.nil
                rintro _ rfl
                simp only [Act.put, skA, skB, skC]
                refine wpAnyH_ready (rs := [8]) (by kernel_rfl) (by simp) ?_
                have hownV := own_keepB HOW2.out (k1.alloc (.cells (pgA ⟨fn, f.b⟩) 208)) (fun _ _ q => q)
                refine AllReadyH.appendB rfl (by rfl) w3.heap.size 208 j0 _ 257 264 Tryz.underlying149 HJ0.out HY0.out HY1.out HY2.out rfl (by omega) (.slice AO NO cO) NO (pgsCells (homeV (gone fs m pre) C pre.length)) rfl hownV ⟨V1.heap.size, 0, none⟩ 1 1 (pgL ⟨fn, f.b⟩) rfl (pgA_size_list HPL.out) (pg_new V1 ⟨fn, f.b⟩) (pgL_one ⟨fn, f.b⟩) (by have := HNO.out; unfold maxLen; omega) (by have := HNO.out; omega) (by have h1 := ((k1.alloc (.cells (pgA ⟨fn, f.b⟩) 208))).size; have h2 := HK23.out.size; omega) (fun v' w' h1 h2 h3 => (Kp.mono (k1.alloc (.cells (pgA ⟨fn, f.b⟩) 208)) (fun _ _ q => q.elim)).grown h2 (fun k hk => .inr (.inr hk))) ?_ AllReadyH.nil
                intro v7 w7 hown7 hgrow7 hb7
                have hk7 : Kp (fun b => b = s0 + 1 + 1 + 1 + 1 ∨ (Value.slice AO NO cO).ownBlock = some b) W2 w7 := (Kp.mono (k1.alloc (.cells (pgA ⟨fn, f.b⟩) 208)) (fun _ _ q => q.elim)).grown hgrow7 (fun k hk => .inr (.inr hk))
                have hb67 : Blk w7 (s0 + 1 + 1 + 1 + 1) 149 #[.slice AO NO cO] := (HB62.out.keep (k1.alloc (.cells (pgA ⟨fn, f.b⟩) 208)) (fun q => q)).keep ((Kp.refl (fun b => (Value.slice AO NO cO).ownBlock = some b) _).grown hgrow7 (fun k hk => .inr hk)) (fun q => by have := own_ge HOW2.out _ q; have := HSZ.out; omega)
                obtain ⟨A7, c7, rfl⟩ := own_slice hown7
                simp only [Act.put, skA, skB, skC]
                refine wpAnyH_ready (rs := [9]) (by kernel_rfl) (by simp) ?_
                have hks : Kp (fun b => b = s0 + 1 + 1 + 1 + 1 ∨ (Value.slice AO NO cO).ownBlock = some b) W2 (w7.setCell ⟨s0 + 1 + 1 + 1 + 1, 0, none⟩ (.slice A7 (NO + 1) c7)) := hk7.setCell (p := ⟨s0 + 1 + 1 + 1 + 1, 0, none⟩) (.inr (.inl rfl)) _
                refine AllReadyH.skipR rfl (by rfl) _ (stSl hb67 _ rfl rfl) hks ?_ AllReadyH.nil
                have hkn : Kp (OnB (s0 + 1 + 1 + 1 + 1)) w7 (w7.setCell ⟨s0 + 1 + 1 + 1 + 1, 0, none⟩ (.slice A7 (NO + 1) c7)) := (Kp.refl (OnB (s0 + 1 + 1 + 1 + 1)) w7).setCell (p := ⟨s0 + 1 + 1 + 1 + 1, 0, none⟩) (.inr rfl) _
                have hown8 := own_keepB hown7 hkn (fun b hb q => by have := own_ge hown7 b hb; have := HSZ.out; unfold OnB at q; omega)
                refine wpAnyH_done (by kernel_rfl) ?_ _
                have hfin : HmG w3 W2 (s0 + 1 + 1) (s0 + 1 + 1 + 1 + 1) (NO + 1) (pgsCells (homeV (gone fs m pre) C pre.length) ++ pgL ⟨fn, f.b⟩) (Value.slice AO NO cO).ownBlock (w7.setCell ⟨s0 + 1 + 1 + 1 + 1, 0, none⟩ (.slice A7 (NO + 1) c7)) := ⟨⟨_, hb67.set_ 0 _, hown8⟩, hks⟩
                generalize hsl : Value.slice A7 (NO + 1) c7 = vz at hfin ⊢
                generalize V1.heap.size = hz0
                generalize gz = z
                exact intoV_of z hz0 vz ⟨rfl, hfin⟩ rfl
              · refine AllReadyH.valR (fun W' => W' = V1.alloc (.cells (pgA ⟨fn, f.b⟩) 208)) rfl (by rfl) _ _ (exSlicePg V1 _ _ _ _ _ _ _ _ rfl HPS.out) (fun W' e => by rw [e]; exact (kS1).alloc _) rfl ?_ AllReadyH.nil
                rintro _ rfl
                simp only [Act.put, skA, skB, skC]
                refine wpAnyH_ready (rs := [0]) (by kernel_rfl) (by simp) ?_
                refine AllReadyH.valR (fun W' => W' = (V1.alloc (.cells (pgA ⟨fn, f.b⟩) 208))) rfl (by rfl) _ _ (ldSlP ((HB62.out.keep (k1.alloc _) (fun q => q)).cell 0) _ rfl) (fun W' e => by rw [e]; exact (kS1.alloc _)) rfl ?_ AllReadyH.nil
                rintro _ rfl
                simp only [Act.put, skA, skB, skC]
                refine wpAnyH_ready (rs := [8]) (by kernel_rfl) (by simp) ?_
                have hownV := own_keepB HOW2.out (k1.alloc (.cells (pgA ⟨fn, f.b⟩) 208)) (fun _ _ q => q)
                refine AllReadyH.appendB rfl (by rfl) w3.heap.size 208 j0 _ 257 264 Tryz.underlying149 HJ0.out HY0.out HY1.out HY2.out rfl (by omega) (.slice AO NO cO) NO (pgsCells (homeV (gone fs m pre) C pre.length)) rfl hownV ⟨V1.heap.size, 0, none⟩ 1 1 (pgL ⟨fn, f.b⟩) rfl (pgA_size_list HPL.out) (pg_new V1 ⟨fn, f.b⟩) (pgL_one ⟨fn, f.b⟩) (by have := HNO.out; unfold maxLen; omega) (by have := HNO.out; omega) (by have h1 := ((k1.alloc (.cells (pgA ⟨fn, f.b⟩) 208))).size; have h2 := HK23.out.size; omega) (fun v' w' h1 h2 h3 => (Kp.mono (k1.alloc (.cells (pgA ⟨fn, f.b⟩) 208)) (fun _ _ q => q.elim)).grown h2 (fun k hk => .inr (.inr hk))) ?_ AllReadyH.nil
                intro v7 w7 hown7 hgrow7 hb7
                have hk7 : Kp (fun b => b = s0 + 1 + 1 + 1 + 1 ∨ (Value.slice AO NO cO).ownBlock = some b) W2 w7 := (Kp.mono (k1.alloc (.cells (pgA ⟨fn, f.b⟩) 208)) (fun _ _ q => q.elim)).grown hgrow7 (fun k hk => .inr (.inr hk))
                have hb67 : Blk w7 (s0 + 1 + 1 + 1 + 1) 149 #[.slice AO NO cO] := (HB62.out.keep (k1.alloc (.cells (pgA ⟨fn, f.b⟩) 208)) (fun q => q)).keep ((Kp.refl (fun b => (Value.slice AO NO cO).ownBlock = some b) _).grown hgrow7 (fun k hk => .inr hk)) (fun q => by have := own_ge HOW2.out _ q; have := HSZ.out; omega)
                obtain ⟨A7, c7, rfl⟩ := own_slice hown7
                simp only [Act.put, skA, skB, skC]
                refine wpAnyH_ready (rs := [9]) (by kernel_rfl) (by simp) ?_
                have hks : Kp (fun b => b = s0 + 1 + 1 + 1 + 1 ∨ (Value.slice AO NO cO).ownBlock = some b) W2 (w7.setCell ⟨s0 + 1 + 1 + 1 + 1, 0, none⟩ (.slice A7 (NO + 1) c7)) := hk7.setCell (p := ⟨s0 + 1 + 1 + 1 + 1, 0, none⟩) (.inr (.inl rfl)) _
                refine AllReadyH.skipR rfl (by rfl) _ (stSl hb67 _ rfl rfl) hks ?_ AllReadyH.nil
                have hkn : Kp (OnB (s0 + 1 + 1 + 1 + 1)) w7 (w7.setCell ⟨s0 + 1 + 1 + 1 + 1, 0, none⟩ (.slice A7 (NO + 1) c7)) := (Kp.refl (OnB (s0 + 1 + 1 + 1 + 1)) w7).setCell (p := ⟨s0 + 1 + 1 + 1 + 1, 0, none⟩) (.inr rfl) _
                have hown8 := own_keepB hown7 hkn (fun b hb q => by have := own_ge hown7 b hb; have := HSZ.out; unfold OnB at q; omega)
                refine wpAnyH_done (by kernel_rfl) ?_ _
                have hfin : HmG w3 W2 (s0 + 1 + 1) (s0 + 1 + 1 + 1 + 1) (NO + 1) (pgsCells (homeV (gone fs m pre) C pre.length) ++ pgL ⟨fn, f.b⟩) (Value.slice AO NO cO).ownBlock (w7.setCell ⟨s0 + 1 + 1 + 1 + 1, 0, none⟩ (.slice A7 (NO + 1) c7)) := ⟨⟨_, hb67.set_ 0 _, hown8⟩, hks⟩
                generalize hsl : Value.slice A7 (NO + 1) c7 = vz at hfin ⊢
                generalize V1.heap.size = hz0
                generalize gz = z
                exact intoV_of z hz0 vz ⟨rfl, hfin⟩ rfl
          intro gy gq vq V9 hz9
          obtain ⟨hzz, hG9⟩ := hz9
          have HG9 := Lib.hid hG9
          clear hG9
          gi_wp2
          refine hm_more (by omega) (by have := HSZ.out; omega) (by have := HSZ.out; omega) HWS.out HCT1.out (by rw [HNO2.out]; exact HOW2.out) HK13.out HKW1.out HK2.out HFS.out HNE.out (by rw [HNO2.out, HFN.out]; exact HG9.out)
        · have HNE : Hid (¬ (cntN (gone fs m pre) f.n = 0 ∧ 0 < f.n ∧ f.n ≤ C)) := Lib.hid (by rw [HCN0.out, HFN.out]; omega)
          apply wpIn_into (G := fun V (q : Nat) => q = g ∧ Kp NoB W1 V)
          · refine wpIn_region_held_drew (S := fun V => Kp NoB W1 V) (by kernel_rfl) (by kernel_rfl) (fun _ _ q => q) (Kp.refl NoB W1).drew (fun hHeld => ?_)
            have k0' : Kp NoB W1 W1.drew := (Kp.refl NoB W1).drew
            generalize W1.drew = V0 at k0' hHeld ⊢
            refine tkS (i := 0) (v := (.map (some (s0 + 1 + 1)))) rfl (Or.inl ⟨by rfl, fun w' hq => by have cc := (hq.cell HLT3.out (fun q => q)).trans HCM.out; go_simp⟩) k0' ?_
            simp only [Act.put, skA, skB, skC]
            refine tkS (i := 1) (v := (.pointer (some ⟨g, 0, none⟩))) rfl (Or.inl ⟨by rfl, fun w' hq => by go_simp⟩) k0' ?_
            simp only [Act.put, skA, skB, skC]
            refine tkS (i := 2) (v := (.pointer (some ⟨g, 0, none⟩))) rfl (Or.inl ⟨by rfl, fun w' hq => by go_simp⟩) k0' ?_
            simp only [Act.put, skA, skB, skC]
            refine tkS (i := 3) (v := (.int .i64 fn)) rfl (Or.inl ⟨by rfl, fun w' hq => by have cc := (hq.cell HLTG.out (fun q => q)).trans HCN.out; go_simp⟩) k0' ?_
            simp only [Act.put, skA, skB, skC]
            refine tkS (i := 4) (v := (.int .i64 ((cn : Int) + 1))) rfl (Or.inl ⟨by rfl, fun w' hq => by have cc := HLK.out w' hq; go_simp⟩) k0' ?_
            simp only [Act.put, skA, skB, skC]
            refine tkS (i := 5) (v := (.bool true)) rfl (Or.inl ⟨by rfl, fun w' hq => by subst hcn; go_simp⟩) k0' ?_
            simp only [Act.put, skA, skB, skC]
            refine tkS (i := 6) (v := (.bool true)) rfl (Or.inl ⟨by rfl, fun w' hq => by go_simp⟩) k0' ?_
            simp only [Act.put, skA, skB, skC]
            refine tkS (i := 7) (v := (.pointer (some ⟨g, 0, none⟩))) rfl (Or.inl ⟨by rfl, fun w' hq => by go_simp⟩) k0' ?_
            simp only [Act.put, skA, skB, skC]
            refine tkS (i := 8) (v := (.pointer (some ⟨g, 0, none⟩))) rfl (Or.inl ⟨by rfl, fun w' hq => by go_simp⟩) k0' ?_
            simp only [Act.put, skA, skB, skC]
            refine tkS (i := 9) (v := (.int .i64 fn)) rfl (Or.inl ⟨by rfl, fun w' hq => by have cc := (hq.cell HLTG.out (fun q => q)).trans HCN.out; go_simp⟩) k0' ?_
            simp only [Act.put, skA, skB, skC]
            refine tkS (i := 10) (v := (.bool true)) rfl (Or.inl ⟨by rfl, fun w' hq => by have cc := hfp; go_simp⟩) k0' ?_
            simp only [Act.put, skA, skB, skC]
            refine tkS (i := 11) (v := (.bool true)) rfl (Or.inl ⟨by rfl, fun w' hq => by go_simp⟩) k0' ?_
            simp only [Act.put, skA, skB, skC]
            refine tkS (i := 12) (v := (.bool true)) rfl (Or.inl ⟨by rfl, fun w' hq => by go_simp⟩) k0' ?_
            simp only [Act.put, skA, skB, skC]
            refine tkS (i := 13) (v := (.pointer (some ⟨g, 0, none⟩))) rfl (Or.inl ⟨by rfl, fun w' hq => by go_simp⟩) k0' ?_
            simp only [Act.put, skA, skB, skC]
            refine tkS (i := 14) (v := (.pointer (some ⟨g, 0, none⟩))) rfl (Or.inl ⟨by rfl, fun w' hq => by go_simp⟩) k0' ?_
            simp only [Act.put, skA, skB, skC]
            refine tkS (i := 15) (v := (.int .i64 fn)) rfl (Or.inl ⟨by rfl, fun w' hq => by have cc := (hq.cell HLTG.out (fun q => q)).trans HCN.out; go_simp⟩) k0' ?_
            simp only [Act.put, skA, skB, skC]
            refine tkS (i := 16) (v := (.pointer (some ⟨lb, 0, none⟩))) rfl (Or.inl ⟨by rfl, fun w' hq => by have cc : w'.cell? ⟨s0, 0, none⟩ = some (.pointer (some ⟨lb, 0, none⟩)) := (hq.cell HBL1.out.lt (fun q => q)).trans (HBL1.out.cell 0); go_simp⟩) k0' ?_
            simp only [Act.put, skA, skB, skC]
            refine tkS (i := 17) (v := (.int .i64 (m : Int))) rfl (Or.inl ⟨by rfl, fun w' hq => by have cc : w'.cell? ⟨s0 + 1, 0, none⟩ = some (.int .i64 (m : Int)) := (hq.cell HBM1.out.lt (fun q => q)).trans (HBM1.out.cell 0); go_simp⟩) k0' ?_
            simp only [Act.put, skA, skB, skC]
            refine wpAnyH_ready (rs := [18]) (by kernel_rfl) (by simp) ?_
            refine AllReadyH.callR (fun y W' => y = .int .i64 C ∧ W' = V0) rfl (by rfl) 120 #[.pointer (some ⟨lb, 0, none⟩), .int .i64 (m : Int)] (by first | (go_simp; done) | (go_simp; rfl)) (fun _ _ z => by rw [z.2]; exact k0') ((wcount_q (HQ1.out.keep k0') (HL1.out.keep k0') _ HMK.out).mono (by rintro e w19 ⟨rfl, hw⟩; exact ⟨_, rfl, by rw [HCC.out], hw.symm⟩)) ?_ AllReadyH.nil
            rintro y V1 ⟨rfl, rfl⟩
            have k2' := k0'
            simp only [Act.put, skA, skB, skC]
            refine tkS (i := 19) (v := (.bool false)) rfl (Or.inl ⟨by rfl, fun w' hq => by have cc := hfc; go_simp⟩) k2' ?_
            simp only [Act.put, skA, skB, skC]
            refine tkS (i := 20) (v := (.bool false)) rfl (Or.inl ⟨by rfl, fun w' hq => by go_simp⟩) k2' ?_
            simp only [Act.put, skA, skB, skC]
            refine wpAnyH_done (by kernel_rfl) ?_ _
            generalize g = z
            exact into_of z ⟨rfl, k2'⟩ rfl
          intro gz W2 hz6
          obtain ⟨hz, hk2⟩ := hz6
          subst hz
          have HK2 := Lib.hid hk2
          clear hk2
          gi_wp2
          have hkW : Kp (fun b => b = s0 + 1 + 1 ∨ b = s0 + 1 + 1 + 1 + 1) W W2 := (HKW1.out.mono (fun _ _ q => .inl q)).trans (HK2.out.mono (fun _ _ q => q.elim)) (fun _ _ q => q)
          exact ⟨hkW.from hX, hkW.toX HWS.out (fun i q _ => q), hm_next HCT1.out HB61.out HOW1.out HK13.out HK2.out HFS.out HNE.out⟩
      · have HNE : Hid (¬ (cntN (gone fs m pre) f.n = 0 ∧ 0 < f.n ∧ f.n ≤ C)) := Lib.hid (by rw [HFN.out]; omega)
        apply wpIn_into (G := fun V (q : Nat) => q = g ∧ Kp NoB W1 V)
        · refine wpIn_region_held_drew (S := fun V => Kp NoB W1 V) (by kernel_rfl) (by kernel_rfl) (fun _ _ q => q) (Kp.refl NoB W1).drew (fun hHeld => ?_)
          have k0' : Kp NoB W1 W1.drew := (Kp.refl NoB W1).drew
          generalize W1.drew = V0 at k0' hHeld ⊢
          refine tkS (i := 0) (v := (.map (some (s0 + 1 + 1)))) rfl (Or.inl ⟨by rfl, fun w' hq => by have cc := (hq.cell HLT3.out (fun q => q)).trans HCM.out; go_simp⟩) k0' ?_
          simp only [Act.put, skA, skB, skC]
          refine tkS (i := 1) (v := (.pointer (some ⟨g, 0, none⟩))) rfl (Or.inl ⟨by rfl, fun w' hq => by go_simp⟩) k0' ?_
          simp only [Act.put, skA, skB, skC]
          refine tkS (i := 2) (v := (.pointer (some ⟨g, 0, none⟩))) rfl (Or.inl ⟨by rfl, fun w' hq => by go_simp⟩) k0' ?_
          simp only [Act.put, skA, skB, skC]
          refine tkS (i := 3) (v := (.int .i64 fn)) rfl (Or.inl ⟨by rfl, fun w' hq => by have cc := (hq.cell HLTG.out (fun q => q)).trans HCN.out; go_simp⟩) k0' ?_
          simp only [Act.put, skA, skB, skC]
          refine tkS (i := 4) (v := (.int .i64 ((cn : Int) + 1))) rfl (Or.inl ⟨by rfl, fun w' hq => by have cc := HLK.out w' hq; go_simp⟩) k0' ?_
          simp only [Act.put, skA, skB, skC]
          refine tkS (i := 5) (v := (.bool true)) rfl (Or.inl ⟨by rfl, fun w' hq => by subst hcn; go_simp⟩) k0' ?_
          simp only [Act.put, skA, skB, skC]
          refine tkS (i := 6) (v := (.bool true)) rfl (Or.inl ⟨by rfl, fun w' hq => by go_simp⟩) k0' ?_
          simp only [Act.put, skA, skB, skC]
          refine tkS (i := 7) (v := (.pointer (some ⟨g, 0, none⟩))) rfl (Or.inl ⟨by rfl, fun w' hq => by go_simp⟩) k0' ?_
          simp only [Act.put, skA, skB, skC]
          refine tkS (i := 8) (v := (.pointer (some ⟨g, 0, none⟩))) rfl (Or.inl ⟨by rfl, fun w' hq => by go_simp⟩) k0' ?_
          simp only [Act.put, skA, skB, skC]
          refine tkS (i := 9) (v := (.int .i64 fn)) rfl (Or.inl ⟨by rfl, fun w' hq => by have cc := (hq.cell HLTG.out (fun q => q)).trans HCN.out; go_simp⟩) k0' ?_
          simp only [Act.put, skA, skB, skC]
          refine tkS (i := 10) (v := (.bool false)) rfl (Or.inl ⟨by rfl, fun w' hq => by have cc := hfp; go_simp⟩) k0' ?_
          simp only [Act.put, skA, skB, skC]
          refine tkS (i := 11) (v := (.bool false)) rfl (Or.inl ⟨by rfl, fun w' hq => by go_simp⟩) k0' ?_
          simp only [Act.put, skA, skB, skC]
          refine tkS (i := 12) (v := (.bool false)) rfl (Or.inl ⟨by rfl, fun w' hq => by go_simp⟩) k0' ?_
          simp only [Act.put, skA, skB, skC]
          refine tkS (i := 13) (v := undef) rfl (Or.inr ⟨by rfl, rfl⟩) k0' ?_
          simp only [Act.put, skA, skB, skC]
          refine tkS (i := 14) (v := undef) rfl (Or.inr ⟨by rfl, rfl⟩) k0' ?_
          simp only [Act.put, skA, skB, skC]
          refine tkS (i := 15) (v := undef) rfl (Or.inr ⟨by rfl, rfl⟩) k0' ?_
          simp only [Act.put, skA, skB, skC]
          refine tkS (i := 16) (v := undef) rfl (Or.inr ⟨by rfl, rfl⟩) k0' ?_
          simp only [Act.put, skA, skB, skC]
          refine tkS (i := 17) (v := undef) rfl (Or.inr ⟨by rfl, rfl⟩) k0' ?_
          simp only [Act.put, skA, skB, skC]
          refine tkS (i := 18) (v := undef) rfl (Or.inr ⟨by rfl, rfl⟩) k0' ?_
          simp only [Act.put, skA, skB, skC]
          refine tkS (i := 19) (v := undef) rfl (Or.inr ⟨by rfl, rfl⟩) k0' ?_
          simp only [Act.put, skA, skB, skC]
          refine tkS (i := 20) (v := (.bool false)) rfl (Or.inl ⟨by rfl, fun w' hq => by go_simp⟩) k0' ?_
          simp only [Act.put, skA, skB, skC]
          refine wpAnyH_done (by kernel_rfl) ?_ _
          generalize g = z
          exact into_of z ⟨rfl, k0'⟩ rfl
        intro gz W2 hz6
        obtain ⟨hz, hk2⟩ := hz6
        subst hz
        have HK2 := Lib.hid hk2
        clear hk2
        gi_wp2
        have hkW : Kp (fun b => b = s0 + 1 + 1 ∨ b = s0 + 1 + 1 + 1 + 1) W W2 := (HKW1.out.mono (fun _ _ q => .inl q)).trans (HK2.out.mono (fun _ _ q => q.elim)) (fun _ _ q => q)
        exact ⟨hkW.from hX, hkW.toX HWS.out (fun i q _ => q), hm_next HCT1.out HB61.out HOW1.out HK13.out HK2.out HFS.out HNE.out⟩
    · have HNE : Hid (¬ (cntN (gone fs m pre) f.n = 0 ∧ 0 < f.n ∧ f.n ≤ C)) := Lib.hid (by rw [HCN0.out, HFN.out]; omega)
      have hcn1 : ((cn : Int) + 1 == 1) = false := by
        rw [beq_eq_false_iff_ne]
        omega
      apply wpIn_into (G := fun V (q : Nat) => q = g ∧ Kp NoB W1 V)
      · refine wpIn_region_held_drew (S := fun V => Kp NoB W1 V) (by kernel_rfl) (by kernel_rfl) (fun _ _ q => q) (Kp.refl NoB W1).drew (fun hHeld => ?_)
        have k0' : Kp NoB W1 W1.drew := (Kp.refl NoB W1).drew
        generalize W1.drew = V0 at k0' hHeld ⊢
        refine tkS (i := 0) (v := (.map (some (s0 + 1 + 1)))) rfl (Or.inl ⟨by rfl, fun w' hq => by have cc := (hq.cell HLT3.out (fun q => q)).trans HCM.out; go_simp⟩) k0' ?_
        simp only [Act.put, skA, skB, skC]
        refine tkS (i := 1) (v := (.pointer (some ⟨g, 0, none⟩))) rfl (Or.inl ⟨by rfl, fun w' hq => by go_simp⟩) k0' ?_
        simp only [Act.put, skA, skB, skC]
        refine tkS (i := 2) (v := (.pointer (some ⟨g, 0, none⟩))) rfl (Or.inl ⟨by rfl, fun w' hq => by go_simp⟩) k0' ?_
        simp only [Act.put, skA, skB, skC]
        refine tkS (i := 3) (v := (.int .i64 fn)) rfl (Or.inl ⟨by rfl, fun w' hq => by have cc := (hq.cell HLTG.out (fun q => q)).trans HCN.out; go_simp⟩) k0' ?_
        simp only [Act.put, skA, skB, skC]
        refine tkS (i := 4) (v := (.int .i64 ((cn : Int) + 1))) rfl (Or.inl ⟨by rfl, fun w' hq => by have cc := HLK.out w' hq; go_simp⟩) k0' ?_
        simp only [Act.put, skA, skB, skC]
        refine tkS (i := 5) (v := (.bool false)) rfl (Or.inl ⟨by rfl, fun w' hq => by have cc := hcn1; go_simp⟩) k0' ?_
        simp only [Act.put, skA, skB, skC]
        refine tkS (i := 6) (v := (.bool false)) rfl (Or.inl ⟨by rfl, fun w' hq => by go_simp⟩) k0' ?_
        simp only [Act.put, skA, skB, skC]
        refine tkS (i := 7) (v := undef) rfl (Or.inr ⟨by rfl, rfl⟩) k0' ?_
        simp only [Act.put, skA, skB, skC]
        refine tkS (i := 8) (v := undef) rfl (Or.inr ⟨by rfl, rfl⟩) k0' ?_
        simp only [Act.put, skA, skB, skC]
        refine tkS (i := 9) (v := undef) rfl (Or.inr ⟨by rfl, rfl⟩) k0' ?_
        simp only [Act.put, skA, skB, skC]
        refine tkS (i := 10) (v := undef) rfl (Or.inr ⟨by rfl, rfl⟩) k0' ?_
        simp only [Act.put, skA, skB, skC]
        refine tkS (i := 11) (v := (.bool false)) rfl (Or.inl ⟨by rfl, fun w' hq => by go_simp⟩) k0' ?_
        simp only [Act.put, skA, skB, skC]
        refine tkS (i := 12) (v := (.bool false)) rfl (Or.inl ⟨by rfl, fun w' hq => by go_simp⟩) k0' ?_
        simp only [Act.put, skA, skB, skC]
        refine tkS (i := 13) (v := undef) rfl (Or.inr ⟨by rfl, rfl⟩) k0' ?_
        simp only [Act.put, skA, skB, skC]
        refine tkS (i := 14) (v := undef) rfl (Or.inr ⟨by rfl, rfl⟩) k0' ?_
        simp only [Act.put, skA, skB, skC]
        refine tkS (i := 15) (v := undef) rfl (Or.inr ⟨by rfl, rfl⟩) k0' ?_
        simp only [Act.put, skA, skB, skC]
        refine tkS (i := 16) (v := undef) rfl (Or.inr ⟨by rfl, rfl⟩) k0' ?_
        simp only [Act.put, skA, skB, skC]
        refine tkS (i := 17) (v := undef) rfl (Or.inr ⟨by rfl, rfl⟩) k0' ?_
        simp only [Act.put, skA, skB, skC]
        refine tkS (i := 18) (v := undef) rfl (Or.inr ⟨by rfl, rfl⟩) k0' ?_
        simp only [Act.put, skA, skB, skC]
        refine tkS (i := 19) (v := undef) rfl (Or.inr ⟨by rfl, rfl⟩) k0' ?_
        simp only [Act.put, skA, skB, skC]
        refine tkS (i := 20) (v := (.bool false)) rfl (Or.inl ⟨by rfl, fun w' hq => by go_simp⟩) k0' ?_
        simp only [Act.put, skA, skB, skC]
        refine wpAnyH_done (by kernel_rfl) ?_ _
        generalize g = z
        exact into_of z ⟨rfl, k0'⟩ rfl
      intro gz W2 hz6
      obtain ⟨hz, hk2⟩ := hz6
      subst hz
      have HK2 := Lib.hid hk2
      clear hk2
      gi_wp2
      have hkW : Kp (fun b => b = s0 + 1 + 1 ∨ b = s0 + 1 + 1 + 1 + 1) W W2 := (HKW1.out.mono (fun _ _ q => .inl q)).trans (HK2.out.mono (fun _ _ q => q.elim)) (fun _ _ q => q)
      exact ⟨hkW.from hX, hkW.toX HWS.out (fun i q _ => q), hm_next HCT1.out HB61.out HOW1.out HK13.out HK2.out HFS.out HNE.out⟩
  case done =>
    rintro D xs W hD rfl hI hK
    obtain ⟨-, ⟨v, hb6, how⟩, hkp⟩ := hI
    rw [gone_all fs m HM.out, List.length_range] at how
    obtain ⟨NL, hNL⟩ : ∃ NL, (homeV (fs.take m).reverse C m).length = NL := ⟨_, rfl⟩
    have hNm : NL ≤ 1048576 := by have h1 := homeV_len (fs.take m).reverse C m; have h2 := HM.out; have h3 := HFL.out; omega
    have hlr : (fs.take m).reverse.length = m := by rw [List.length_reverse, List.length_take]; have := HM.out; omega
    have hall : ∀ x ∈ homeV (fs.take m).reverse C m, PgOk x ∧ (x.b.length = 256 ∧ 0 ≤ x.n ∧ x.n ≤ 4096) := fun x hx => by
      obtain ⟨h1, h2, f, h3, h4⟩ := (homeV_mem _ C x m (by omega)).1 hx
      have hfm : f ∈ fs := List.mem_of_mem_take (List.mem_reverse.1 (List.mem_of_mem_take (List.mem_of_find?_eq_some h3)))
      have hfn : f.n = x.n := by simpa using List.find?_some h3
      have hfo := HL.out.ok f hfm
      rw [h4]
      have := hfo.n0
      exact ⟨⟨by rw [h4]; exact hfo.len, by rw [h4]; exact hfo.rng, by omega⟩, hfo.len, by omega, by omega⟩
    rw [hNL] at how
    obtain ⟨AO, cO, rfl⟩ := own_slice how
    have HNL := Lib.hid hNL
    have HALL := Lib.hid hall
    have HOW := Lib.hid how
    have HB6 := Lib.hid hb6
    have HK := Lib.hid hK
    have HD := Lib.hid hD
    have HKP := Lib.hid hkp
    have cv : W.cell? ⟨s0 + 1 + 1 + 1 + 1, 0, none⟩ = some (.slice AO NL cO) := hb6.cell 0
    have HN4 : Hid (NL < 4611686018427387904) := Lib.hid (by omega)
    clear how hb6 hkp hK hD hNL hall hlr hNm
    gi_wp2_with (refine ⟨trivial, ?_⟩; gi_at_call 132; refine (callsIn_wide.2 (sort_pgs W w3.heap.size AO NL cO (homeV (fs.take m).reverse C m) HNL.out HOW.out HN4.out (fun x hx => (HALL.out x hx).2))).mono ?_; rintro e W5 ⟨rfl, l', hp, hs, how5, hk5⟩; have HP := Lib.hid hp; have HS := Lib.hid hs; have HOW5 := Lib.hid how5; have HK5 := Lib.hid hk5; have cv5 : W5.cell? ⟨s0 + 1 + 1 + 1 + 1, 0, none⟩ = some (.slice AO NL cO) := ((HB6.out.keep hk5 (fun q => by have := own_ge HOW.out _ q; have := HSZ.out; omega)).cell 0); clear hp hs how5 hk5)
    have hD5 : W5.heap[D]? = some (.deferred (some [])) := (HK5.out.block D (lt_of_heap HK.out) (fun q => by
      have h1 := own_cells HOW.out q HK.out
      cases h1)).trans HK.out
    have how6 := ownOwn HOW5.out (grownBy_putObj' _ D (.deferred none)) (fun r e => by cases e; exact ⟨_, hD5, rfl⟩)
    have hle : l' = p.whome fs m := home_is p fs m HM.out l' (by rw [HCC.out]; exact HP.out) (List.Pairwise.imp (fun h => by omega) HS.out)
    have hl'n : l'.length = NL := by rw [HP.out.length_eq]; exact HNL.out
    refine leaveM hD5 (results_tmp rfl _ _ _) ⟨_, rfl, ⟨?_, fun x hx => ?_⟩, ?_⟩
    · rw [← hle, hl'n]
      exact how6.mono HK3.out.size
    · rw [← hle] at hx
      exact (HALL.out x (HP.out.mem_iff.1 hx)).1
    · have hkw : Kp NoB w W := HK3.out.trans HKP.out (fun b hb q => by have := HS0.out; omega)
      have hk5 : Kp NoB w W5 := hkw.trans HK5.out (fun b hb q => by have := own_ge HOW.out _ q; have := HSZ.out; have := HS0.out; omega)
      exact hk5.grownBy (grownBy_putObj' _ D _) (fun r e => by cases e; have := HS0.out; have := HSZ.out; have := HD.out; omega)
end Go.Proofs.YtoeldmkbmnkhkaaGreat
/- The log: the last steps of a checkpoint; condition: a log in memory on a disk. -/
namespace Go.Proofs.YtoeldmkbmnkhkaaGreat
open Go.RowKit

section
variable {S : Nat → Prop} {w : World} {db lb : Nat} {p : Pl}
set_option maxRecDepth 100000 in
theorem wck1_q (h : Dq S w w db p) (n : Int) (hn : 0 ≤ n ∧ n ≤ 4096) (B5 B7 : Nat) (h5 : w.cell? ⟨B5, 0, none⟩ = some (.pointer (some ⟨lb, 0, none⟩))) (hd : w.cell? ⟨lb, 0, none⟩ = some (.pointer (some ⟨db, 0, none⟩))) (h7 : w.cell? ⟨B7, 0, none⟩ = some (.int .i64 n)) (hn5 : ¬ S B5) (hnl : ¬ S lb) (hn7 : ¬ S B7) (hm : p.sm 20000) :
    Calls Tryz.prog 125 #[.pointer (some ⟨B5, 0, none⟩), .pointer (some ⟨B7, 0, none⟩)] w fun e w' => e = .returned (.int .i64 (p.truncE nmDb (n * 256))) ∧ Dq S w w' db (p.trunc nmDb (n * 256)) := by
  have H := Lib.hid h
  have HM := Lib.hid hm
  have hw : IntKind.i64.wrap (n * 256) = n * 256 := by rw [IntKind.wrap_i64]; omega
  have HN := Lib.hid (show -9223372036854775808 ≤ n * 256 ∧ n * 256 ≤ 9223372036854775807 by omega)
  have HD := Lib.hid hd
  have HB5 := Lib.hid h5
  have HB7 := Lib.hid h7
  have HN5 := Lib.hid hn5
  have HNL := Lib.hid hnl
  have HN7 := Lib.hid hn7
  have HL5 := Lib.hid (block_lt_of_cell h5)
  have HLL := Lib.hid (block_lt_of_cell hd)
  have HL7 := Lib.hid (block_lt_of_cell h7)
  clear h hm hn h5 hd h7 hn5 hnl hn7
  go_enter Tryz.func125, Tryz.ntmps125
  go_upto_region 1 with fail
  have hl0 := HB5.out
  have hd0 := HD.out
  have h70 := HB7.out
  go_region_held3 (fun w' => w'.cell? ⟨B5, 0, none⟩ = some (.pointer (some ⟨lb, 0, none⟩)) ∧ w'.cell? ⟨lb, 0, none⟩ = some (.pointer (some ⟨db, 0, none⟩)) ∧ w'.cell? ⟨B7, 0, none⟩ = some (.int .i64 n))
    (first | exact ⟨hl0, hd0, h70⟩ | exact ⟨he0, he1, he2⟩ | go_keep)
    (first
      | (go_at_call 126; go_must (refine (show Calls _ _ #[ptrV db, .string nmDb, .int .i64 (n * 256)] _ _ from trunc_q (H.out.base1 ((Kp.refl NoB w).drew)) nmDb (n * 256) HN.out nmDb_le HM.out).mono ?_); rintro e w4 ⟨rfl, h4⟩; have H4 := Lib.hid h4; have he0 := (h4.kp.cell HL5.out HN5.out).trans HB5.out; have he1 := (h4.kp.cell HLL.out HNL.out).trans HD.out; have he2 := (h4.kp.cell HL7.out HN7.out).trans HB7.out; clear h4))
  go_wp2_with fail
  go_ret
  exact ⟨rfl, Dq.up (H.out.base1 (Kp.refl NoB w).drew) (Kp.refl NoB w).drew H.out.lt H4.out⟩
set_option maxRecDepth 100000 in
theorem wck2_q (h : Dq S w w db p) (B5 : Nat) (h5 : w.cell? ⟨B5, 0, none⟩ = some (.pointer (some ⟨lb, 0, none⟩))) (hd : w.cell? ⟨lb, 0, none⟩ = some (.pointer (some ⟨db, 0, none⟩))) (hm : p.sm 20000) :
    Calls Tryz.prog 127 #[.pointer (some ⟨B5, 0, none⟩)] w fun e w' => e = .returned (.int .i64 p.syncE) ∧ Dq S w w' db (p.sync nmDb) := by
  have H := Lib.hid h
  have HM := Lib.hid hm
  clear h hm
  go_enter Tryz.func127, Tryz.ntmps127
  go_wp2_with fail
  refine (show Calls _ _ #[ptrV db, .string nmDb] _ _ from sync_q H.out nmDb nmDb_le HM.out).mono ?_
  rintro e w4 ⟨rfl, h4⟩
  have H4 := Lib.hid h4
  clear h4
  go_wp2_with fail
  go_ret
  exact ⟨rfl, H4.out⟩
/-- what the last steps want -/
def CkK (db lb : Nat) (Hd : W4) (A : Option Addr) (c k0 B5 B7 : Nat) (n : Int) (S : Nat → Prop) (w : World) : Prop :=
  (Blk w lb 204 (lgC db Hd A k0 c) ∧ ¬ S lb) ∧ ((Blk w B5 199 #[.pointer (some ⟨lb, 0, none⟩)] ∧ ¬ S B5) ∧ (Blk w B7 3 #[.int .i64 n] ∧ ¬ S B7))
theorem ckK_kept {Hd : W4} {A : Option Addr} {c : Nat} (k0 B5 B7 : Nat) (n : Int) : Kept (CkK db lb Hd A c k0 B5 B7 n) :=
  (kept_blk lb 204 (lgC db Hd A k0 c)).and ((kept_blk B5 199 #[.pointer (some ⟨lb, 0, none⟩)]).and (kept_blk B7 3 #[.int .i64 n]))
set_option maxRecDepth 100000 in
theorem wck_all {Hd : W4} {A : Option Addr} {c : Nat} (h : Dq S w w db p) (k0 B5 B7 : Nat) (n : Int) (hn : 0 ≤ n ∧ n ≤ 4096) (hk : CkK db lb Hd A c k0 B5 B7 n S w) (hm : p.sm 40000) :
    Calls Tryz.prog 124 #[.slice (some ⟨w.heap.size, 0, none⟩) 2 2] (w.alloc (.cells #[.func (.func 125) #[] #[.pointer (some ⟨B5, 0, none⟩), .pointer (some ⟨B7, 0, none⟩)], .func (.func 127) #[] #[.pointer (some ⟨B5, 0, none⟩)]] 53))
      fun e w' => e = .returned (.int .i64 (p.runS [⟨1, nmDb, n * 256, []⟩, ⟨2, nmDb, 0, []⟩]).2) ∧ Dq S w w' db (p.runS [⟨1, nmDb, n * 256, []⟩, ⟨2, nmDb, 0, []⟩]).1 := by
  have hka := (Kp.refl NoB w).alloc (.cells #[.func (.func 125) #[] #[.pointer (some ⟨B5, 0, none⟩), .pointer (some ⟨B7, 0, none⟩)], .func (.func 127) #[] #[.pointer (some ⟨B5, 0, none⟩)]] 53)
  have hb := Blk.new w 53 #[.func (.func 125) #[] #[.pointer (some ⟨B5, 0, none⟩), .pointer (some ⟨B7, 0, none⟩)], .func (.func 127) #[] #[.pointer (some ⟨B5, 0, none⟩)]]
  generalize w.alloc (.cells #[.func (.func 125) #[] #[.pointer (some ⟨B5, 0, none⟩), .pointer (some ⟨B7, 0, none⟩)], .func (.func 127) #[] #[.pointer (some ⟨B5, 0, none⟩)]] 53) = w9 at hka hb ⊢
  have hlt := h.lt
  have hKK : CkK db lb Hd A c k0 B5 B7 n S w9 := ⟨⟨hk.1.1.keep hka (fun q => q), hk.1.2⟩, ⟨hk.2.1.1.keep hka (fun q => q), hk.2.1.2⟩, ⟨hk.2.2.1.keep hka (fun q => q), hk.2.2.2⟩⟩
  have hcost : p.sm (20000 + (20000 + 0)) := sm_mono hm (by omega)
  refine (wall_steps (n := 2) (cap := 2) (ckK_kept (db := db) (lb := lb) (Hd := Hd) (A := A) (c := c) k0 B5 B7 n)
    [⟨125, #[], #[.pointer (some ⟨B5, 0, none⟩), .pointer (some ⟨B7, 0, none⟩)], fun p' => p'.runS [⟨1, nmDb, n * 256, []⟩], 20000⟩,
     ⟨127, #[], #[.pointer (some ⟨B5, 0, none⟩)], fun p' => p'.runS [⟨2, nmDb, 0, []⟩], 20000⟩]
    S w9 p ?_ rfl (by omega) hb (fun q => by have := hlt _ q; omega) (h.base1 hka) hKK hcost).mono ?_
  · intro s hs
    simp only [List.mem_cons, List.not_mem_nil, or_false] at hs
    rcases hs with rfl | rfl
    · refine ⟨enters_of Tryz.func125 (by kernel_rfl) rfl, fun S w p' h hk hm => ?_, fun p' k hm => sm_run _ (by exact hm)⟩
      refine (wck1_q h n hn B5 B7 (hk.2.1.1.cell 0) (hk.1.1.cell 0) (hk.2.2.1.cell 0) hk.2.1.2 hk.1.2 hk.2.2.2 hm).mono ?_
      rintro e w' ⟨rfl, hd⟩
      have hz : p'.runS [⟨1, nmDb, n * 256, []⟩] = (p'.trunc nmDb (n * 256), p'.truncE nmDb (n * 256)) := by
        rw [runS_cons, stE1, stP1]
        split
        · rename_i h0
          rw [runS_nil, h0]
        · rfl
      dsimp only
      rw [hz]
      exact ⟨rfl, hd⟩
    · refine ⟨enters_of Tryz.func127 (by kernel_rfl) rfl, fun S w p' h hk hm => ?_, fun p' k hm => sm_run _ (by exact hm)⟩
      refine (wck2_q h B5 (hk.2.1.1.cell 0) (hk.1.1.cell 0) hm).mono ?_
      rintro e w' ⟨rfl, hd⟩
      have hz : p'.runS [⟨2, nmDb, 0, []⟩] = (p'.sync nmDb, p'.syncE) := by
        rw [runS_cons, stE2, stP2]
        split
        · rename_i h0
          rw [runS_nil, h0]
        · rfl
      dsimp only
      rw [hz]
      exact ⟨rfl, hd⟩
  · rintro e w10 ⟨he, h10⟩
    have hz : seqR [fun p' => p'.runS [⟨1, nmDb, n * 256, []⟩], fun p' => p'.runS [⟨2, nmDb, 0, []⟩]] p = p.runS [⟨1, nmDb, n * 256, []⟩, ⟨2, nmDb, 0, []⟩] := seqR2 _ _ p
    change Dq S w9 w10 db (seqR [fun p' => p'.runS [⟨1, nmDb, n * 256, []⟩], fun p' => p'.runS [⟨2, nmDb, 0, []⟩]] p).1 at h10
    rw [hz] at h10
    refine ⟨he.trans ?_, Dq.up (h.base1 hka) hka hlt h10⟩
    show Ending.returned (.int .i64 (seqR [fun p' => p'.runS [⟨1, nmDb, n * 256, []⟩], fun p' => p'.runS [⟨2, nmDb, 0, []⟩]] p).2) = _
    rw [hz]
end
end Go.Proofs.YtoeldmkbmnkhkaaGreat
