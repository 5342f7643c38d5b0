/- Texts of this proof, one behind the other: lemmas and contracts; each says its own conditions. -/
import Derived.Test.YtegcbdfilkecpaaM1
import Derived.Test.YtegcbdfilkecpaaM4
import Derived.Test.YtegcbdfilkecpaaM5
import Derived.Test.YtegcbdfilkecpaaM6
import Derived.RangeFuncCalls
import Derived.RangeFuncWrites
import Derived.CallsIn
import Derived.OrdersIn
import Derived.Deep.RegionHeld
import Derived.RangeFuncNested
/- The log: pages changed together; condition: a disk, pages in memory. -/
namespace Go.Proofs.Ytegcbdfilkecpaa
open Go.RowKit

theorem isMark_len {p : Pl} (he : p.wopen.1 = 0) (hok : ∀ f ∈ p.wopen.2, FrOk f) : isMark p.wopen.2 (p.wopen.2.length : Int) = true := by
  have hl : lastEn p.wopen.2 ≠ 0 := by
    revert he
    unfold Pl.wopen
    split
    · intro he; cases he
    · split
      · intro he; cases he
      · cases hf : frsAt (p.seen nmWal) p.whead.a.toNat with
        | none => intro he; cases he
        | some g =>
          dsimp only
          split
          · intro he; cases he
          · rename_i h
            intro _
            exact h
  generalize p.wopen.2 = fs at hl hok ⊢
  cases hn : fs.length with
  | zero => rfl
  | succ k =>
    rw [isMark_at fs k (by omega)]
    have h1 : fs.getLast? = some (fs[k]'(by omega)) := List.getLast?_eq_getElem?.trans (by rw [show fs.length - 1 = k by omega]; exact List.getElem?_eq_getElem (by omega))
    unfold lastEn at hl
    rw [h1] at hl
    dsimp only at hl
    have := (hok _ (List.getElem_mem (by omega : k < fs.length))).e0
    rw [decide_eq_true]
    omega
theorem wcount_rng {p : Pl} {fs : List Fr} (hok : ∀ f ∈ fs, FrOk f) (hj : p.jcount ≤ 4096) {m : Int} (hm : isMark fs m = true) : 0 ≤ wcount p fs m ∧ wcount p fs m ≤ 4096 := by
  rcases mark_cases fs m with rfl | q | q | ⟨i, hi, rfl⟩
  · unfold wcount; rw [if_pos rfl]; omega
  · unfold isMark at hm
    rw [decide_eq_false (by omega), decide_eq_false (by omega)] at hm
    cases hm
  · unfold isMark at hm
    rw [decide_eq_false (by omega), decide_eq_false (by omega)] at hm
    cases hm
  · rw [isMark_at fs i hi] at hm
    have h0 := of_decide_eq_true hm
    have h1 := (hok _ (List.getElem_mem hi)).e0
    unfold wcount
    rw [if_neg (by omega), show (((i + 1 : Nat) : Int)).toNat - 1 = i by omega, List.getElem?_eq_getElem hi]
    dsimp only
    omega
theorem jcount_le {S : Nat → Prop} {W0 w : World} {db : Nat} {p : Pl} (h : Dq S W0 w db p) : p.jcount ≤ 4096 := by
  have h1 : p.len nmDb ≤ 1048576 := by
    unfold Pl.len
    split
    · omega
    · exact h.seen_le nmDb
  unfold Pl.jcount
  omega
/-- frames as they are made of pages -/
def rawFr (l : List Pg) : List Fr := l.map fun x => ⟨x.n, 0, x.b⟩
def fnCells (l : List Fr) : List Value := l.flatMap fnL
theorem fnCells_len {l : List Fr} (h : ∀ f ∈ l, f.b.length = 256) : (fnCells l).length = l.length * 259 := by
  induction l with
  | nil => rfl
  | cons f r ih =>
    have h1 := fnL_len (h f (List.mem_cons_self ..))
    have h2 := ih (fun x hx => h x (List.mem_cons_of_mem _ hx))
    unfold fnCells at *
    rw [List.flatMap_cons, List.length_append, h1, h2, List.length_cons]
    omega
theorem fn_new (w : World) (f : Fr) : ∀ j u, (fnL f)[j]? = some u → (w.alloc (.cells (fnL f).toArray 171)).cell? ((⟨w.heap.size, 0, none⟩ : Addr).add j) = some u := by
  intro j u hj
  rw [add_mk, Nat.zero_add, (Blk.new w 171 (fnL f).toArray).cell, List.getElem?_toArray]
  exact hj
theorem wpList_valW {P : Program} {ops : Array Oper} {rest : List Oper} {ds : Option Tmp} {op : Op} {ty : TypeId} {ps : String} {af : Array Edge} {a : Act} {w w' : World} {Q : Exit → Act → World → Prop} (v : Value) (hr : (execOp a.eval ⟨ds, op, ty, ps, af, none⟩).run P w = .ok (.value v) w')
    (h : wpList P ops Q rest (a.put ds v) w') : wpList P ops Q (⟨ds, op, ty, ps, af, none⟩ :: rest) a w := wpList_plain rfl fun K hK => by
  unfold Oper.wp
  rw [hr, Oper.upon_value]
  exact hK _ _ h
theorem newFr_ok {count : Int} (hc : 0 ≤ count ∧ count ≤ 4096) {l : List Pg} (h : PgsOk l) : ∀ y ∈ newFr count l, FrOk y := by
  have h1 : ∀ y ∈ (if l = [] then [⟨0, 0, zeros 256⟩] else l.map fun x => (⟨x.n, 0, x.b⟩ : Fr)), FrOk y := by
    intro y hy
    split at hy
    · rw [List.mem_singleton.1 hy]
      exact ⟨⟨by decide, by decide⟩, ⟨by decide, by decide⟩, zeros256, zeros_rng 256⟩
    · obtain ⟨x, hx, rfl⟩ := List.mem_map.1 hy
      have h2 := h.n x hx
      exact ⟨⟨by dsimp only; omega, by dsimp only; omega⟩, ⟨by dsimp only; omega, by dsimp only; omega⟩, (h.ok x hx).len, (h.ok x hx).rng⟩
  unfold newFr
  dsimp only
  generalize (if l = [] then [⟨0, 0, zeros 256⟩] else l.map fun x => (⟨x.n, 0, x.b⟩ : Fr)) = fs at h1 ⊢
  cases hl : fs.getLast? with
  | none => exact h1
  | some f =>
    intro y hy
    rcases List.mem_append.1 hy with q | q
    · exact h1 y (List.dropLast_subset _ q)
    · rw [List.mem_singleton.1 q]
      have h2 := h1 f (List.mem_of_getLast? hl)
      exact ⟨h2.n0, ⟨by dsimp only; omega, by dsimp only; omega⟩, h2.len, h2.rng⟩
theorem fnCells_app (a b : List Fr) : fnCells (a ++ b) = fnCells a ++ fnCells b := by unfold fnCells; rw [List.flatMap_append]
theorem fn_last {init : List Fr} {f : Fr} {ds : List Value} {M : Nat} (hM : init.length = M) (h : ∀ y ∈ init, y.b.length = 256) (hf : f.b.length = 256) : (fnCells init ++ fnL f ++ ds)[M * 259 + 257]? = some (.int .i64 f.en) := by
  have h1 := fnCells_len h
  rw [hM] at h1
  have h2 := fnL_len hf
  rw [List.getElem?_append_left (by rw [List.length_append, h1, h2]; omega), List.getElem?_append_right (by rw [h1]; omega), h1, show M * 259 + 257 - M * 259 = 257 by omega]
  unfold fnL
  rw [List.getElem?_cons_succ, List.getElem?_append_right (by rw [List.length_map, hf]; omega), List.length_map, hf]
  rfl
theorem fn_set {init : List Fr} {f : Fr} {ds : List Value} {M : Nat} {v : Int} (hM : init.length = M) (h : ∀ y ∈ init, y.b.length = 256) (hf : f.b.length = 256) : (fnCells init ++ fnL f ++ ds).toArray.setIfInBounds (M * 259 + 257) (.int .i64 v) = (fnCells (init ++ [{ f with en := v }]) ++ ds).toArray := by
  have h1 := fnCells_len h
  rw [hM] at h1
  have h2 := fnL_len hf
  rw [List.setIfInBounds_toArray]
  refine congrArg List.toArray ?_
  rw [List.append_assoc, List.set_append_right _ _ (by rw [h1]; omega), h1, show M * 259 + 257 - M * 259 = 257 by omega, List.set_append_left _ _ (by rw [h2]; omega), fnCells_app]
  have e : (fnL f).set 257 (.int .i64 v) = fnCells [{ f with en := v }] := by
    unfold fnCells fnL
    rw [List.flatMap_cons, List.flatMap_nil, List.append_nil, List.set_cons_succ, List.set_append_right _ _ (by rw [List.length_map, hf]; omega), List.length_map, hf]
    rfl
  rw [e, List.append_assoc]
theorem fns_blk {w : World} {g : Nat} {t : TypeId} {l : List Fr} {ds : List Value} {n : Nat} (h : Blk w g t (fnCells l ++ ds).toArray) (hn : l.length = n) (hl : ∀ y ∈ l, y.b.length = 256) : FnsAt w (some ⟨g, 0, none⟩) n l := by
  refine ⟨by rw [List.length_map, hn], fun x hx => ?_, fun _ => ⟨g, 0, rfl, h.lt, fun k hk j hj => ⟨?_, h.frozen _⟩⟩⟩
  · obtain ⟨y, hy, rfl⟩ := List.mem_map.1 hx
    exact fnL_len (hl y hy)
  · have hk' : k < l.length := by simpa using hk
    have h1 := fnCells_len (l := l.take k) (fun y hy => hl y (List.mem_of_mem_take hy))
    rw [List.length_take, Nat.min_eq_left (by omega)] at h1
    have e : l = l.take k ++ l[k] :: l.drop (k + 1) := by rw [List.getElem_cons_drop, List.take_append_drop]
    have h2 := fnL_len (hl _ (List.getElem_mem hk'))
    have e2 : fnCells l = fnCells (l.take k) ++ (fnL l[k] ++ fnCells (l.drop (k + 1))) := by
      conv => lhs; rw [e]
      rw [fnCells_app]
      unfold fnCells
      rw [List.flatMap_cons]
    rw [h.cell, List.getElem?_toArray, e2, List.append_assoc, List.getElem?_append_right (by rw [h1]; omega), h1, show 0 + k * 259 + j - k * 259 = j by omega, List.append_assoc, List.getElem?_append_left (by rw [h2]; exact hj), List.getElem_map]
theorem zeroIntW (w : World) : (zeroValue 3).run Try.prog w = .ok (.int .i64 0) w := by kernel_rfl
theorem allocIntW (w : World) (ev : Operand → Value) (ds : Option Tmp) (ty : TypeId) (ps : String) (af : Array Edge) (g : Option (Nat × Bool)) :
    (execOp ev ⟨ds, .alloc 3, ty, ps, af, g⟩).run Try.prog w = .ok (.value (.pointer (some ⟨w.heap.size, 0, none⟩))) (w.alloc (.cells #[.int .i64 0] 3)) := by
  simp only [execOp, Instr.alloc, Sem.run_bind, zeroIntW, Result.andThen_ok]
  rfl
theorem stIntW {w : World} {g : Nat} {v0 : Value} (h : Blk w g 3 #[v0]) (ev : Operand → Value) {x y : Operand} {z : Int} {ty : TypeId} {ps : String} {af : Array Edge} {gd : Option (Nat × Bool)} (hx : ev x = .pointer (some ⟨g, 0, none⟩)) (hy : ev y = .int .i64 z) :
    (execOp ev ⟨none, .store 3 x y, ty, ps, af, gd⟩).run Try.prog w = .ok .skip (w.setCell ⟨g, 0, none⟩ (.int .i64 z)) := by
  have hc : w.cell? ⟨g, 0, none⟩ = some v0 := h.cell 0
  have hf : w.frozen? ⟨g, 0, none⟩ = false := h.frozen 0
  simp only [execOp, hx, hy]
  go_simp
theorem wpList_skipW {P : Program} {ops : Array Oper} {rest : List Oper} {op : Op} {ty : TypeId} {ps : String} {af : Array Edge} {a : Act} {w w' : World} {Q : Exit → Act → World → Prop} (hr : (execOp a.eval ⟨none, op, ty, ps, af, none⟩).run P w = .ok .skip w')
    (h : wpList P ops Q rest a w') : wpList P ops Q (⟨none, op, ty, ps, af, none⟩ :: rest) a w := wpList_plain rfl fun K hK => by
  unfold Oper.wp
  rw [hr, Oper.upon_skip]
  exact hK _ _ h
theorem ldSlF {w : World} {g : Nat} {A : Option Addr} {n c : Nat} (hc : w.cell? ⟨g, 0, none⟩ = some (.slice A n c)) (ev : Operand → Value) {x : Operand} {ds : Option Tmp} {ty : TypeId} {ps : String} {af : Array Edge} {gd : Option (Nat × Bool)} (hx : ev x = .pointer (some ⟨g, 0, none⟩)) :
    (execOp ev ⟨ds, .load 161 x, ty, ps, af, gd⟩).run Try.prog w = .ok (.value (.slice A n c)) w := by
  simp only [execOp, hx]
  go_simp
theorem stSlF {w : World} {g : Nat} {v0 : Value} (h : Blk w g 161 #[v0]) (ev : Operand → Value) {x y : Operand} {A : Option Addr} {n c : Nat} {ty : TypeId} {ps : String} {af : Array Edge} {gd : Option (Nat × Bool)} (hx : ev x = .pointer (some ⟨g, 0, none⟩)) (hy : ev y = .slice A n c) :
    (execOp ev ⟨none, .store 161 x y, ty, ps, af, gd⟩).run Try.prog w = .ok .skip (w.setCell ⟨g, 0, none⟩ (.slice A n c)) := by
  have hc : w.cell? ⟨g, 0, none⟩ = some v0 := h.cell 0
  have hf : w.frozen? ⟨g, 0, none⟩ = false := h.frozen 0
  simp only [execOp, hx, hy]
  go_simp
theorem exLoadPgA {w : World} {g : Nat} {t : TypeId} {FV : Array Value} (hb : Blk w g t FV) (hs : FV.size = 257) (ev : Operand → Value) {x : Operand} {ds : Option Tmp} {ty : TypeId} {ps : String} {af : Array Edge} {gd : Option (Nat × Bool)} (hx : ev x = .pointer (some ⟨g, 0, none⟩)) :
    (execOp ev ⟨ds, .load 113 x, ty, ps, af, gd⟩).run Try.prog w = .ok (.value (.agg FV)) w := by
  rw [loadPg w ev ds x ty ps af gd (by rw [hx]; exact hb.thereAll 257 hs), hx]
  show Result.ok (Next.value (.agg (readRow w g 0 257))) w = _
  rw [hb.readAll 257 hs]
def GaRel (wL : World) (B10 n : Nat) (l : List Pg) (v : Value) (wr : World) : Prop :=
  ∃ (k : Nat) (v10 : Value), v = .int .i64 (k : Int) ∧ k ≤ n ∧ Blk wr B10 161 #[v10] ∧ wr.ownsRow wL.heap.size 171 259 v10 k (fnCells (rawFr (l.take k))) ∧ Kp (OnB B10) wL wr
def WcPost (S : Nat → Prop) (w : World) (db : Nat) (p : Pl) (count : Int) (l : List Pg) (e : Ending) (w' : World) : Prop := e = .returned (.tuple #[.int .i64 (p.wcommit count l).2.1, .int .i64 (p.wcommit count l).2.2]) ∧ Dq S w w' db (p.wcommit count l).1
section
variable {S : Nat → Prop} {w : World} {db : Nat} {p : Pl}
attribute [local go_sem ↓] loadPg storePg allocPg loadFr storeFr allocFr
attribute [local go_sem] size_setCells
set_option maxRecDepth 100000 in
set_option maxHeartbeats 1600000 in
theorem wcommit_q (h : Dq S w w db p) (count : Int) (hc : -9223372036854775808 ≤ count ∧ count ≤ 9223372036854775807) (A : Option Addr) (n cap : Nat) (l : List Pg) (hl : PgsAt w A n l) (hA : Apart S A n) (hok : ∀ x ∈ l, PgOk x) (hnn : n < 1099511627776) (hm : p.sm 100000000) :
    Calls Try.prog 45 #[ptrV db, .int .i64 count, .slice A n cap] w (WcPost S w db p count l) := by
  have H := Lib.hid h
  have HL := Lib.hid hl
  have HA := Lib.hid hA
  have HOK := Lib.hid hok
  have HC := Lib.hid hc
  have HM := Lib.hid hm
  have HLN := Lib.hid hl.len
  have HPST : Hid (∀ x y q w', p.wcommit count l = (q, x, y) → Dq S w w' db q → WcPost S w db p count l (.returned (.tuple #[.int .i64 x, .int .i64 y])) w') := Lib.hid (fun x y q w' e hd => by unfold WcPost; rw [e]; exact ⟨rfl, hd⟩)
  clear h hl hA hok hc hm
  obtain ⟨PP, hPP⟩ : ∃ PP, WcPost S w db p count l = PP := ⟨_, rfl⟩
  rw [hPP] at HPST ⊢
  clear hPP
  unfold ptrV
  go_enter Try.func45, Try.ntmps45
  go_wp2_with fail
  refine (show Calls _ _ #[ptrV db] _ _ from wopen_q H.out).mono ?_
  rintro e w1 (⟨he, rfl, hk⟩ | ⟨he, lb, Af, c, rfl, hb, ho, hg, hk⟩)
  · have HK := Lib.hid hk
    have he1 : (p.wopen.1 == 0) = false := by simpa using he
    have he2 : (p.wopen.1 != 0) = true := by simpa using he
    have HR : Hid (p.wcommit count l = (p, 0, p.wopen.1)) := Lib.hid (by unfold Pl.wcommit; rw [if_pos he])
    obtain ⟨e0, q0⟩ : ∃ e0, p.wopen.1 = e0 := ⟨_, rfl⟩
    rw [q0] at he1 he2 HR ⊢
    clear hk he q0
    dsimp only
    go_upto_region 2 with fail
    go_quiet (fail)
    go_wp2_with fail
    exact HPST.out 0 e0 p _ HR.out (H.out.keep (HK.out.trans (((Kp.refl NoB w1).alloc _).drewN _) (fun _ _ q => q)))
  · have hls := lg_of (H.out.seen_rng nmWal) he hb ho
    have hfl := wopen_len he
    have hmk := isMark_len he (hls.ok)
    have hrg := wcount_rng hls.ok (jcount_le H.out) hmk
    have hdn : p.down = false := by
      cases hd : p.down with
      | false => rfl
      | true => unfold Pl.wopen at he; rw [hd] at he; cases he
    have HLBS : Hid (¬ S lb) := Lib.hid (fun q => by have := H.out.lt _ q; omega)
    have HLS := Lib.hid hls
    have HFL := Lib.hid hfl
    have HMK := Lib.hid hmk
    have HRG := Lib.hid hrg
    have HDN := Lib.hid hdn
    have HE := Lib.hid he
    have HK := Lib.hid hk
    obtain ⟨old, hold⟩ : ∃ old, wcount p p.wopen.2 (p.wopen.2.length : Int) = old := ⟨_, rfl⟩
    have HOLD := Lib.hid hold
    have HWC : Hid (p.wcommit count l = if fitPg old count l = false then (p, 0, 2) else if (p.runS (p.wcommitS p.wopen.2 (newFr count l))).2 ≠ 0 then ((p.runS (p.wcommitS p.wopen.2 (newFr count l))).1, 0, fullE (p.runS (p.wcommitS p.wopen.2 (newFr count l))).2) else ((p.runS (p.wcommitS p.wopen.2 (newFr count l))).1, (p.wopen.2.length : Int) + ((newFr count l).length : Int), 0)) := Lib.hid (by
      unfold Pl.wcommit
      rw [if_neg (by rw [he]; simp), ← hold])
    clear hk he hb ho hg hls hfl hmk hrg hdn hold
    dsimp only
    go_upto_region 2 with fail
    have hkL : Kp NoB w1 (w1.alloc (.cells #[.pointer (some ⟨lb, 0, none⟩)] 158)) := (Kp.refl NoB w1).alloc _
    have hbL : Blk (w1.alloc (.cells #[.pointer (some ⟨lb, 0, none⟩)] 158)) w1.heap.size 158 #[.pointer (some ⟨lb, 0, none⟩)] := Blk.new w1 158 #[.pointer (some ⟨lb, 0, none⟩)]
    generalize w1.alloc (.cells #[.pointer (some ⟨lb, 0, none⟩)] 158) = w2 at hkL hbL ⊢
    have hB8 : w1.heap.size < w2.heap.size := hbL.lt
    have HKW : Hid (Kp NoB w w2) := Lib.hid (HK.out.trans hkL (fun _ _ q => q))
    have HL2 : Hid (LgS w2 db lb p.whead Af c p.wopen.2) := Lib.hid (HLS.out.keep hkL)
    obtain ⟨B8, hb8⟩ : ∃ B8, w1.heap.size = B8 := ⟨_, rfl⟩
    rw [hb8] at hbL hB8 ⊢
    have HB8W : Hid (w.heap.size ≤ B8) := Lib.hid (by have := HK.out.size; omega)
    have HBL := Lib.hid hbL
    clear hkL hbL hb8
    obtain ⟨k0, hk0⟩ : ∃ k0, p.wopen.2.length = k0 := ⟨_, rfl⟩
    have HK0 := Lib.hid hk0
    have HCL : Hid (w2.cell? ⟨lb, 5, none⟩ = some (.slice Af k0 c)) := Lib.hid (by rw [← hk0]; exact HL2.out.cl.2)
    have HLT : Hid (lb < w2.heap.size) := Lib.hid HL2.out.b.lt
    clear hk0
    obtain ⟨FB, hFB⟩ : ∃ FB, fitPg old count l = FB := ⟨_, rfl⟩
    have HFB := Lib.hid hFB
    clear hFB
    apply wp_into (G := fun V (g : Nat) => g = B8 ∧ Kp NoB w2 V)
    · refine wp_region_held_drew (S := fun V => Kp NoB w2 V) (by kernel_rfl) (Kp.refl NoB w2).drew (fun hHeld => ?_)
      have k0' : Kp NoB w2 w2.drew := (Kp.refl NoB w2).drew
      generalize w2.drew = V0 at k0' hHeld ⊢
      refine tkS (i := 0) (v := (.int .i64 0)) rfl (Or.inl ⟨by rfl, fun w' hq => by go_simp⟩) k0' ?_
      simp only [Act.put, skA, skB, skC]
      refine tkS (i := 1) (v := (.bool true)) rfl (Or.inl ⟨by rfl, fun w' hq => by go_simp⟩) k0' ?_
      simp only [Act.put, skA, skB, skC]
      refine tkS (i := 2) (v := (.bool true)) rfl (Or.inl ⟨by rfl, fun w' hq => by go_simp⟩) k0' ?_
      simp only [Act.put, skA, skB, skC]
      refine tkS (i := 3) (v := (.pointer (some ⟨lb, 0, none⟩))) rfl (Or.inl ⟨by rfl, fun w' hq => by have cc := (hq.cell HBL.out.lt (fun q => q)).trans (HBL.out.cell 0); go_simp⟩) k0' ?_
      simp only [Act.put, skA, skB, skC]
      refine tkS (i := 4) (v := (.pointer (some ⟨lb, 0, none⟩))) rfl (Or.inl ⟨by rfl, fun w' hq => by have cc := (hq.cell HBL.out.lt (fun q => q)).trans (HBL.out.cell 0); go_simp⟩) k0' ?_
      simp only [Act.put, skA, skB, skC]
      refine tkS (i := 5) (v := (.pointer (some ⟨lb, 0, none⟩))) rfl (Or.inl ⟨by rfl, fun w' hq => by go_simp⟩) k0' ?_
      simp only [Act.put, skA, skB, skC]
      refine tkS (i := 6) (v := (.pointer (some ⟨lb, 5, none⟩))) rfl (Or.inl ⟨by rfl, fun w' hq => by go_simp⟩) k0' ?_
      simp only [Act.put, skA, skB, skC]
      refine tkS (i := 7) (v := (.slice Af k0 c)) rfl (Or.inl ⟨by rfl, fun w' hq => by have cc := (hq.cell HLT.out (fun q => q)).trans HCL.out; go_simp⟩) k0' ?_
      simp only [Act.put, skA, skB, skC]
      refine tkS (i := 8) (v := (.int .i64 (k0 : Int))) rfl (Or.inl ⟨by rfl, fun w' hq => by go_simp⟩) k0' ?_
      simp only [Act.put, skA, skB, skC]
      refine tkS (i := 10) (v := (.int .i64 count)) rfl (Or.inl ⟨by rfl, fun w' hq => by go_simp⟩) k0' ?_
      simp only [Act.put, skA, skB, skC]
      refine tkS (i := 11) (v := (.slice A n cap)) rfl (Or.inl ⟨by rfl, fun w' hq => by go_simp⟩) k0' ?_
      simp only [Act.put, skA, skB, skC]
      refine wpAnyH_ready (rs := [9]) (by kernel_rfl) (by simp) ?_
      refine AllReadyH.callR (fun y W' => y = .int .i64 old ∧ W' = V0) rfl (by rfl) 99 #[.pointer (some ⟨lb, 0, none⟩), .int .i64 (k0 : Int)] (by first | (go_simp; done) | (go_simp; rfl)) (fun _ _ z => by rw [z.2]; exact k0') ((show Calls _ _ #[_, .int .i64 (k0 : Int)] _ _ by rw [← HK0.out]; exact wcount_q (H.out.keep (HKW.out.trans k0' (fun _ _ q => q))) (HL2.out.keep k0') _ HMK.out).mono (by rintro e w19 ⟨rfl, hw⟩; exact ⟨_, rfl, by rw [HOLD.out], hw.symm⟩)) ?_ AllReadyH.nil
      rintro y V1 ⟨rfl, rfl⟩
      simp only [Act.put, skA, skB, skC]
      refine wpAnyH_ready (rs := [12]) (by kernel_rfl) (by simp) ?_
      refine AllReadyH.callR (fun y W' => y = .bool FB ∧ Kp NoB V1 W') rfl (by rfl) 107 #[.int .i64 old, .int .i64 count, .slice A n cap] (by first | (go_simp; done) | (go_simp; rfl)) (fun _ _ z => k0'.trans z.2 (fun _ _ q => q)) ((wfit_q V1 old count (by have := HRG.out; rw [HOLD.out] at this; exact this) HC.out A n cap l (HL.out.keep (HKW.out.trans k0' (fun _ _ q => q))) HOK.out hnn).mono (by rintro e w19 ⟨rfl, hw⟩; exact ⟨_, rfl, by rw [HFB.out], hw⟩)) ?_ AllReadyH.nil
      rintro y V2 ⟨rfl, kk2⟩
      have k2 := k0'.trans kk2 (fun _ _ q => q)
      simp only [Act.put, skA, skB, skC]
      refine tkS (i := 13) (v := (.bool (!FB))) rfl (Or.inl ⟨by rfl, fun w' hq => by go_simp⟩) k2 ?_
      simp only [Act.put, skA, skB, skC]
      refine tkS (i := 14) (v := (.bool (!FB))) rfl (Or.inl ⟨by rfl, fun w' hq => by go_simp⟩) k2 ?_
      simp only [Act.put, skA, skB, skC]
      refine wpAnyH_done (by kernel_rfl) ?_ _
      generalize B8 = z
      exact into_of z ⟨rfl, k2⟩ rfl
    intro gz w3 hz6
    obtain ⟨hz, hk3⟩ := hz6
    subst hz
    have HK3 := Lib.hid hk3
    clear hk3
    cases FB with
    | false =>
      have HR : Hid (p.wcommit count l = (p, 0, 2)) := Lib.hid (by rw [HWC.out, HFB.out]; rfl)
      go_wp2_with fail
      exact HPST.out 0 2 p _ HR.out (H.out.keep (HKW.out.trans HK3.out (fun _ _ q => q)))
    | true =>
      obtain ⟨hc4, hln, hpo, hri⟩ := fit_facts HFB.out HOK.out
      have HC4 := Lib.hid hc4
      have HLE : Hid (n ≤ 4096) := Lib.hid (by rw [← HLN.out]; exact hln)
      have HPO := Lib.hid hpo
      have HWD : Hid (p.wcommit count l = if (p.runS (p.wcommitS p.wopen.2 (newFr count l))).2 ≠ 0 then ((p.runS (p.wcommitS p.wopen.2 (newFr count l))).1, 0, fullE (p.runS (p.wcommitS p.wopen.2 (newFr count l))).2) else ((p.runS (p.wcommitS p.wopen.2 (newFr count l))).1, (p.wopen.2.length : Int) + ((newFr count l).length : Int), 0)) := Lib.hid (by rw [HWC.out, HFB.out]; rfl)
      clear hc4 hln hpo hri
      go_wp2_with fail
      have hkL : Kp NoB w3 (w3.alloc (.cells #[.slice none 0 0] 161)) := (Kp.refl NoB w3).alloc _
      have hbL : Blk (w3.alloc (.cells #[.slice none 0 0] 161)) w3.heap.size 161 #[.slice none 0 0] := Blk.new _ _ _
      generalize w3.alloc (.cells #[.slice none 0 0] 161) = wL at hkL hbL ⊢
      obtain ⟨B10, hb10⟩ : ∃ B10, w3.heap.size = B10 := ⟨_, rfl⟩
      rw [hb10] at hbL ⊢
      have HB10 : Hid (gz < B10 ∧ lb < B10 ∧ w.heap.size ≤ B10 ∧ B10 < wL.heap.size) := Lib.hid (by have h1 := HK3.out.size; have h2 := HLT.out; have h3 := HB8W.out; have h4 := hbL.lt; omega)
      have HKL : Hid (Kp NoB w wL) := Lib.hid ((HKW.out.trans HK3.out (fun _ _ q => q)).trans hkL (fun _ _ q => q))
      have HLL : Hid (LgS wL db lb p.whead Af c p.wopen.2) := Lib.hid (HL2.out.keep (HK3.out.trans hkL (fun _ _ q => q)))
      have HBLL : Hid (Blk wL gz 158 #[.pointer (some ⟨lb, 0, none⟩)]) := Lib.hid (HBL.out.keep (HK3.out.trans hkL (fun _ _ q => q)) (fun q => q))
      have HST := Lib.hid hbL
      obtain ⟨j0, hj0, hy0, hy1, hy2⟩ := info_parts infoFr
      have HJ0 := Lib.hid hj0
      have HY0 := Lib.hid hy0
      have HY1 := Lib.hid hy1
      have HY2 := Lib.hid hy2
      clear hkL hbL hb10 hj0 hy0 hy1 hy2 hB8
      go_loopw [39] (fun v wr => GaRel wL B10 n l v wr) (fun v _ => n - (intOf v).toNat)
      case atStart => exact ⟨0, .slice none 0 0, rfl, Nat.zero_le _, HST.out, World.ownsRow_nil _ _ _ _, Kp.refl _ _⟩
      case round =>
        obtain ⟨wq, rfl⟩ : ∃ wq, wq = wr := ⟨_, rfl⟩
        obtain ⟨k, v10, rfl, hk, hbq, how, hkq⟩ := hrel
        have HKQ := Lib.hid hkq
        have HOW := Lib.hid how
        have HBQ := Lib.hid hbq
        obtain ⟨A10, c10, rfl⟩ := own_slice how
        have hlq : PgsAt wq A n l := RowsC.keepS (HL.out.keep HKL.out) hkq (fun g o e hn => by
          have := HL.out.lt e hn
          have := HB10.out
          unfold OnB
          omega)
        by_cases hlt : k < n
        · have hkk : (k : Int) < (n : Int) := by omega
          obtain ⟨g, o, rfl, hg, t1, r1⟩ := hlq.at_ k hlt
          obtain ⟨x, hx⟩ : ∃ x, l[k]? = some x := ⟨_, List.getElem?_eq_getElem (by rw [HLN.out]; exact hlt)⟩
          have hxe : l[k]'(by rw [HLN.out]; exact hlt) = x := (List.getElem?_eq_some_iff.1 hx).2
          rw [hxe] at r1
          have hxo := HOK.out x (List.mem_of_getElem? hx)
          have o1 := pgA_ones x
          have s1 := pgA_size hxo
          have hl256 := hxo.len
          have HTK : Hid (fnCells (rawFr (l.take (k + 1))) = fnCells (rawFr (l.take k)) ++ fnL ⟨x.n, 0, x.b⟩) := Lib.hid (by
            have e1 : l.take (k + 1) = l.take k ++ [x] := by rw [List.take_succ_eq_append_getElem (by rw [HLN.out]; exact hlt), hxe]
            rw [e1]
            unfold rawFr fnCells
            rw [List.map_append, List.flatMap_append]
            simp)
          have hb := Blk.new wq 113 (pgA ⟨0, zeros 256⟩)
          have hb2 := hb.whole (pgA x) (by rw [pgA_size hxo]; rfl)
          have t2 := hb.thereAll 257 rfl
          have hk3 : Kp NoB wq ((wq.alloc (.cells (pgA ⟨0, zeros 256⟩) 113)).setCells wq.heap.size 0 (pgA x).toList) := Kp.setCells (.inl (Nat.le_refl _)) _ _ _ ((Kp.refl _ _).alloc _)
          have cs10 := hbq.keep hk3 (fun q => q)
          have HK3b := Lib.hid hk3
          obtain ⟨xn, hxn⟩ : ∃ xn, x.n = xn := ⟨_, rfl⟩
          obtain ⟨xb, hxb⟩ : ∃ xb, x.b = xb := ⟨_, rfl⟩
          have hpx : pgA x = pgA ⟨xn, xb⟩ := by rw [← hxn, ← hxb]
          rw [hxb] at hl256
          rw [hxn, hxb] at HTK
          rw [hpx] at hb2 r1 o1 s1 cs10 HK3b
          have HB2 := Lib.hid hb2
          have HS1 := Lib.hid s1
          have HC10 := Lib.hid cs10
          have HL256 := Lib.hid hl256
          have hfl : (fnL ⟨xn, 0, xb⟩).toArray.size = 259 := by rw [List.size_toArray, fnL_len hl256]
          clear hlq hx hxe hxo hb hb2 hk3 hxn hxb hpx how hbq hkq cs10
          have HFL := Lib.hid hfl
          clear hfl
          go_upto_region 10 with fail
          refine wp_region_lit ?_
          refine wpList_valW _ (ldSlF (HC10.out.cell 0) _ rfl) ?_
          refine wpList_valW _ (exLoadPgA HB2.out HS1.out _ rfl) ?_
          refine wpList_valW _ (exBuildFr1 _ _ _ xn xb HL256.out _ _ _ _ _ rfl) ?_
          refine wpList_valW _ (exSliceFr _ _ _ (fnL ⟨xn, 0, xb⟩).toArray _ _ _ _ _ rfl HFL.out) ?_
          refine wpList_append_ownB rfl _ _ 161 rfl wL.heap.size 171 j0 _ 259 288 Try.underlying161 HJ0.out HY0.out HY1.out HY2.out rfl (by omega) (.slice A10 k c10) k (fnCells (rawFr (l.take k))) rfl (own_keepB HOW.out (HK3b.out.alloc _) (fun _ _ q => q)) ⟨((wq.alloc (.cells (pgA ⟨0, zeros 256⟩) 113)).setCells wq.heap.size 0 (pgA ⟨xn, xb⟩).toList).heap.size, 0, none⟩ 1 1 (fnL ⟨xn, 0, xb⟩) rfl (fnL_len HL256.out) (fn_new _ ⟨xn, 0, xb⟩) (fnL_one ⟨xn, 0, xb⟩) (by have := HLE.out; unfold maxLen; omega) (by have := HLE.out; omega) (by have h1 := HKQ.out.size; have h2 := (HK3b.out.alloc (.cells (fnL ⟨xn, 0, xb⟩).toArray 171)).size; omega) ?_
          intro v7 w7 hown7 hgrow7 hb7
          have hka := HK3b.out.alloc (.cells (fnL ⟨xn, 0, xb⟩).toArray 171)
          have hk7 : Kp (fun b => (Value.slice A10 k c10).ownBlock = some b) _ w7 := (Kp.refl _ _).grown hgrow7 (fun b hb => .inr hb)
          have hge := own_ge HOW.out
          have hb17 : Blk w7 B10 161 #[.slice A10 k c10] := (HBQ.out.keep hka (fun q => q)).keep hk7 (fun q => by have := hge _ q; have := HB10.out; omega)
          obtain ⟨A7, c7, rfl⟩ := own_slice hown7
          have cc7 := hb17.cell 0
          have cf7 := hb17.frozen 0
          have HREL : Hid (GaRel wL B10 n l (.int .i64 ((k : Int) + 1)) (w7.setCell ⟨B10, 0, none⟩ (.slice A7 (k + 1) c7))) := Lib.hid (by
            have hks : Kp (OnB B10) w7 (w7.setCell ⟨B10, 0, none⟩ (.slice A7 (k + 1) c7)) := (Kp.refl (OnB B10) w7).setCell (p := ⟨B10, 0, none⟩) (.inr rfl) _
            refine ⟨k + 1, (.slice A7 (k + 1) c7), rfl, by omega, hb17.set_ 0 (.slice A7 (k + 1) c7), ?_, ?_⟩
            · rw [HTK.out]
              exact own_keepB hown7 hks (fun g hg q => by have := own_ge hown7 _ hg; have := HB10.out; unfold OnB at q; omega)
            · exact (((HKQ.out.trans (hka.mono (fun _ _ q => q.elim)) (fun _ _ q => q)).own hgrow7 rfl HOW.out)).trans hks (fun _ _ q => q))
          clear hown7 hgrow7 hb7 hka hk7 hge hb17
          go_wp2_with fail
          refine ⟨⟨_, _, _, _, _, _, _, _, _, _, _, HREL.out, rfl⟩, ?_⟩
          simp [intOf]
          omega
        · have hkk : ¬ (k : Int) < (n : Int) := by omega
          obtain rfl : k = n := by omega
          have hlt4 : l.take k = l := List.take_of_length_le (by have := HLN.out; omega)
          rw [hlt4] at HOW
          have HBK : Hid (Blk wq lb 163 (lgC db p.whead Af k0 c) ∧ Blk wq gz 158 #[.pointer (some ⟨lb, 0, none⟩)] ∧ Kp NoB w wq) := Lib.hid ⟨by
            have := HLL.out.b.keep hkq (fun q => by have := HB10.out; unfold OnB at q; omega)
            rw [HK0.out] at this
            exact this, HBLL.out.keep hkq (fun q => by have := HB10.out; unfold OnB at q; omega), HKL.out.trans hkq (fun b hb q => by have := HB10.out; unfold OnB at q; omega)⟩
          have HWLS : Hid (wL.heap.size ≤ wq.heap.size) := Lib.hid hkq.size
          have HBQ2 := Lib.hid hbq
          have cs10 := hbq.cell 0
          clear hlq hlt4 hlt how hbq hkq
          by_cases hz : k = 0
          · subst hz
            have hl0 : l = [] := List.length_eq_zero_iff.1 HLN.out
            go_upto_region 13 with fail
            refine wp_region_lit ?_
            refine wpList_valW _ (buildFr0 _ _ _ _ _ _ _) ?_
            refine wpList_valW _ (exSliceFr _ _ _ fr0 _ _ _ _ _ rfl (by kernel_rfl)) ?_
            have hbA := HBQ2.out.alloc (.cells fr0 171)
            refine wpList_skipW (stSlF hbA _ rfl rfl) ?_
            have hk8 : Kp (OnB B10) wq ((wq.alloc (.cells fr0 171)).setCell ⟨B10, 0, none⟩ (.slice (some ⟨wq.heap.size, 0, none⟩) 1 1)) := ((Kp.refl (OnB B10) wq).alloc _).setCell (p := ⟨B10, 0, none⟩) (.inr rfl) _
            have HGG : Hid (B10 ≠ wq.heap.size ∧ lb ≠ wq.heap.size ∧ gz ≠ wq.heap.size ∧ w.heap.size ≤ wq.heap.size) := Lib.hid (by have h1 := HB10.out; have h2 := HWLS.out; omega)
            have HBW : Hid (Blk ((wq.alloc (.cells fr0 171)).setCell ⟨B10, 0, none⟩ (.slice (some ⟨wq.heap.size, 0, none⟩) 1 1)) B10 161 #[.slice (some ⟨wq.heap.size, 0, none⟩) (0 + 1) 1]) := Lib.hid (hbA.set_ 0 _)
            have HGW : Hid (Blk ((wq.alloc (.cells fr0 171)).setCell ⟨B10, 0, none⟩ (.slice (some ⟨wq.heap.size, 0, none⟩) 1 1)) wq.heap.size 171 (fnCells [] ++ fnL ⟨0, 0, zeros 256⟩ ++ []).toArray) := Lib.hid (by
              rw [List.append_nil]
              exact (Blk.new wq 171 fr0).far (p := ⟨B10, 0, none⟩) (fun e => HGG.out.1 e.symm) _)
            have HLW : Hid (Blk ((wq.alloc (.cells fr0 171)).setCell ⟨B10, 0, none⟩ (.slice (some ⟨wq.heap.size, 0, none⟩) 1 1)) lb 163 (lgC db p.whead Af k0 c)) := Lib.hid (HBK.out.1.keep hk8 (fun q => by have := HB10.out; unfold OnB at q; omega))
            have HZW : Hid (Blk ((wq.alloc (.cells fr0 171)).setCell ⟨B10, 0, none⟩ (.slice (some ⟨wq.heap.size, 0, none⟩) 1 1)) gz 158 #[.pointer (some ⟨lb, 0, none⟩)]) := Lib.hid (HBK.out.2.1.keep hk8 (fun q => by have := HB10.out; unfold OnB at q; omega))
            have HKW2 : Hid (Kp NoB w ((wq.alloc (.cells fr0 171)).setCell ⟨B10, 0, none⟩ (.slice (some ⟨wq.heap.size, 0, none⟩) 1 1))) := Lib.hid (HBK.out.2.2.trans hk8 (fun b hb q => by have := HB10.out; unfold OnB at q; omega))
            have HINI : Hid (([] : List Fr).length = 0 ∧ (∀ y ∈ ([] : List Fr), y.b.length = 256) ∧ (⟨0, 0, zeros 256⟩ : Fr).b.length = 256) := Lib.hid ⟨rfl, (fun y q => by cases q), zeros256⟩
            have HM4 : Hid (0 + 1 ≤ 4097) := Lib.hid (by omega)
            obtain ⟨g, hgg⟩ : ∃ g, wq.heap.size = g := ⟨_, rfl⟩
            rw [hgg] at hk8 HGG HBW HGW HLW HZW HKW2
            simp only [Act.put, skA, skB, skC]
            rw [hgg]
            clear hgg hbA cs10 hk8
            generalize (wq.alloc (.cells fr0 171)).setCell ⟨B10, 0, none⟩ (.slice (some ⟨g, 0, none⟩) 1 1) = W at HBW HGW HLW HZW HKW2 ⊢
            have HNEW : Hid (newFr count l = [] ++ [{ (⟨0, 0, zeros 256⟩ : Fr) with en := count + 1 }]) := Lib.hid (by rw [hl0]; rfl)
            obtain ⟨M, c2, init, f, ds, HBW, HGW, HINI, HM4, HNEW⟩ : ∃ (M c2 : Nat) (init : List Fr) (f : Fr) (ds : List Value), Hid (Blk W B10 161 #[.slice (some ⟨g, 0, none⟩) (M + 1) c2]) ∧ Hid (Blk W g 171 (fnCells init ++ fnL f ++ ds).toArray) ∧ Hid (init.length = M ∧ (∀ y ∈ init, y.b.length = 256) ∧ f.b.length = 256) ∧ Hid (M + 1 ≤ 4097) ∧ Hid (newFr count l = init ++ [{ f with en := count + 1 }]) := ⟨0, 1, [], ⟨0, 0, zeros 256⟩, [], HBW, HGW, HINI, HM4, HNEW⟩
            have cW := HBW.out.cell 0
            have ce : W.cell? ⟨g, M * 259 + 257, none⟩ = some (.int .i64 f.en) := by
              rw [HGW.out.cell, List.getElem?_toArray]
              exact fn_last HINI.out.1 HINI.out.2.1 HINI.out.2.2
            have fe : W.frozen? ⟨g, M * 259 + 257, none⟩ = false := HGW.out.frozen _
            have hw1 : IntKind.i64.wrap (M : Int) = (M : Int) := by have := HM4.out; rw [IntKind.wrap_i64]; omega
            have hw3 : M ≤ 4097 := by have := HM4.out; omega
            have hw2 : IntKind.i64.wrap (count + 1) = count + 1 := by have := HC4.out; rw [IntKind.wrap_i64]; omega
            rw [show (#[Value.slice (some ⟨g, 0, none⟩) (M + 1) c2] : Array Value)[0]? = some (.slice (some ⟨g, 0, none⟩) (M + 1) c2) from rfl] at cW
            go_upto_region 15 with fail
            have hgs := HGW.out.set_ (M * 259 + 257) (.int .i64 (count + 1))
            rw [fn_set HINI.out.1 HINI.out.2.1 HINI.out.2.2] at hgs
            have hbs := HBW.out.far (p := ⟨g, M * 259 + 257, none⟩) (show B10 ≠ g from HGG.out.1) (.int .i64 (count + 1))
            have hls := HLW.out.far (p := ⟨g, M * 259 + 257, none⟩) (show lb ≠ g from HGG.out.2.1) (.int .i64 (count + 1))
            have hzs := HZW.out.far (p := ⟨g, M * 259 + 257, none⟩) (show gz ≠ g from HGG.out.2.2.1) (.int .i64 (count + 1))
            have hks : Kp NoB w (W.setCell ⟨g, M * 259 + 257, none⟩ (.int .i64 (count + 1))) := HKW2.out.setCell (p := ⟨g, M * 259 + 257, none⟩) (.inl HGG.out.2.2.2) _
            have hss : (W.setCell ⟨g, M * 259 + 257, none⟩ (.int .i64 (count + 1))).heap.size = W.heap.size := by simp
            generalize W.setCell ⟨g, M * 259 + 257, none⟩ (.int .i64 (count + 1)) = W5 at hgs hbs hls hzs hks hss ⊢
            have HGS := Lib.hid hgs
            have HBS := Lib.hid hbs
            have HLS5 := Lib.hid hls
            have HZS := Lib.hid hzs
            have HKS := Lib.hid hks
            have HSUM : Hid (IntKind.i64.wrap ((k0 : Int) + ((M : Int) + 1)) = (k0 : Int) + ((M : Int) + 1)) := Lib.hid (by have := HM4.out; have := HFL.out; have := HK0.out; rw [IntKind.wrap_i64]; omega)
            clear cW ce fe hw1 hw2 hw3 hgs hbs hls hzs hks
            apply wp_intoG (G := fun V q => Blk V q 3 #[.int .i64 ((k0 + (M + 1) : Nat) : Int)] ∧ W5.heap.size ≤ q ∧ Kp NoB W5 V)
            · refine wp_region_held_drew (S := fun V => Kp NoB W5 V) (by kernel_rfl) (Kp.refl NoB W5).drew (fun hHeld => ?_)
              have k0' : Kp NoB W5 W5.drew := (Kp.refl NoB W5).drew
              generalize W5.drew = V0 at k0' hHeld ⊢
              refine tkS (i := 0) (v := (.pointer (some ⟨lb, 0, none⟩))) rfl (Or.inl ⟨by rfl, fun w' hq => by have cc : w'.cell? ⟨gz, 0, none⟩ = some (.pointer (some ⟨lb, 0, none⟩)) := (hq.cell HZS.out.lt (fun q => q)).trans (HZS.out.cell 0); go_simp⟩) k0' ?_
              simp only [Act.put, skA, skB, skC]
              refine tkS (i := 1) (v := (.pointer (some ⟨lb, 0, none⟩))) rfl (Or.inl ⟨by rfl, fun w' hq => by go_simp⟩) k0' ?_
              simp only [Act.put, skA, skB, skC]
              refine tkS (i := 2) (v := (.pointer (some ⟨lb, 5, none⟩))) rfl (Or.inl ⟨by rfl, fun w' hq => by go_simp⟩) k0' ?_
              simp only [Act.put, skA, skB, skC]
              refine tkS (i := 3) (v := (.slice Af k0 c)) rfl (Or.inl ⟨by rfl, fun w' hq => by have cc : w'.cell? ⟨lb, 5, none⟩ = some (.slice Af k0 c) := (hq.cell HLS5.out.lt (fun q => q)).trans (HLS5.out.cell 5); go_simp⟩) k0' ?_
              simp only [Act.put, skA, skB, skC]
              refine tkS (i := 4) (v := (.int .i64 (k0 : Int))) rfl (Or.inl ⟨by rfl, fun w' hq => by go_simp⟩) k0' ?_
              simp only [Act.put, skA, skB, skC]
              refine tkS (i := 5) (v := (.slice (some ⟨g, 0, none⟩) (M + 1) c2)) rfl (Or.inl ⟨by rfl, fun w' hq => by have cc : w'.cell? ⟨B10, 0, none⟩ = some (.slice (some ⟨g, 0, none⟩) (M + 1) c2) := (hq.cell HBS.out.lt (fun q => q)).trans (HBS.out.cell 0); go_simp⟩) k0' ?_
              simp only [Act.put, skA, skB, skC]
              refine tkS (i := 6) (v := (.int .i64 ((M + 1 : Nat) : Int))) rfl (Or.inl ⟨by rfl, fun w' hq => by go_simp⟩) k0' ?_
              simp only [Act.put, skA, skB, skC]
              refine tkS (i := 7) (v := (.int .i64 ((k0 + (M + 1) : Nat) : Int))) rfl (Or.inl ⟨by rfl, fun w' hq => by have cc := HSUM.out; go_simp⟩) k0' ?_
              simp only [Act.put, skA, skB, skC]
              refine wpAnyH_ready (rs := [8]) (by kernel_rfl) (by simp) ?_
              refine AllReadyH.valR (fun W' => W' = V0.alloc (.cells #[.int .i64 0] 3)) rfl (by rfl) _ _ (allocIntW V0 _ _ _ _ _ _) (fun W' e => by rw [e]; exact k0'.alloc _) rfl ?_ AllReadyH.nil
              rintro _ rfl
              have hb4 : Blk (V0.alloc (.cells #[.int .i64 0] 3)) V0.heap.size 3 #[.int .i64 0] := Blk.new _ _ _
              have k1 : Kp NoB W5 (V0.alloc (.cells #[.int .i64 0] 3)) := k0'.alloc _
              have hg4 : W5.heap.size ≤ V0.heap.size := k0'.size
              generalize V0.alloc (.cells #[.int .i64 0] 3) = V1 at hb4 k1 ⊢
              generalize V0.heap.size = g4 at hb4 hg4 ⊢
              simp only [Act.put, skA, skB, skC]
              refine wpAnyH_ready (rs := [9]) (by kernel_rfl) (by simp) ?_
              have k2 : Kp NoB W5 (V1.setCell ⟨g4, 0, none⟩ (.int .i64 ((k0 + (M + 1) : Nat) : Int))) := k1.setCell (p := ⟨g4, 0, none⟩) (.inl hg4) _
              refine AllReadyH.skipR rfl (by rfl) _ (stIntW hb4 _ rfl rfl) k2 ?_ AllReadyH.nil
              refine wpAnyH_done (by kernel_rfl) ?_ _
              exact intoG_of g4 ⟨hb4.set_ 0 _, hg4, k2⟩ rfl
            rintro B13 W6 ⟨hb13, hg13, hk6⟩
            have HB13 := Lib.hid hb13
            have HK6 := Lib.hid hk6
            have HG13 : Hid (w.heap.size ≤ B13 ∧ w.heap.size ≤ W6.heap.size) := Lib.hid (by have h1 := HKS.out.size; have h2 := hk6.size; omega)
            have hK : CmK db lb p.whead Af c k0 gz B10 B13 (some ⟨g, 0, none⟩) (M + 1) c2 (init ++ [{ f with en := count + 1 }]) S W6 := by
              have hlt := H.out.lt
              have hw := HB10.out
              have hz8 := HB8W.out
              have hgg := HGG.out
              have h13 := HG13.out
              exact ⟨⟨HLS5.out.keep hk6 (fun q => q), fun q => HLBS.out q⟩, ⟨HZS.out.keep hk6 (fun q => q), fun q => by have := hlt _ q; omega⟩, ⟨HBS.out.keep hk6 (fun q => q), fun q => by have := hlt _ q; omega⟩, ⟨hb13, fun q => by have := hlt _ q; omega⟩, RowsC.keep (fns_blk HGS.out (by rw [List.length_append, HINI.out.1]; rfl) (fun y hy => by
                rcases List.mem_append.1 hy with z | z
                · exact HINI.out.2.1 y z
                · rw [List.mem_singleton.1 z]; exact HINI.out.2.2)) hk6, fun g' o' e hn q => by
                  injection e with e
                  injection e with e1
                  have := hlt _ q
                  omega⟩
            have HCK := Lib.hid hK
            have HD6 : Hid (Dq S w W6 db p) := Lib.hid (H.out.keep (HKS.out.trans hk6 (fun _ _ q => q)))
            have c8 := (HZS.out.keep hk6 (fun q => q)).cell 0
            have HOKN : Hid (∀ y ∈ init ++ [{ f with en := count + 1 }], FrOk y) := Lib.hid (by rw [← HNEW.out]; exact newFr_ok HC4.out HPO.out)
            clear hb13 hg13 hk6 hK
            go_wp2_with fail
            refine (wcommit_all (H.out.base1 (HKS.out.trans HK6.out (fun _ _ q => q))) HDN.out p.wopen.2 k0 HK0.out (by have := HFL.out; rw [HK0.out] at this; exact this) gz B10 B13 (some ⟨g, 0, none⟩) (M + 1) c2 (init ++ [{ f with en := count + 1 }]) HCK.out HOKN.out (by have := HM4.out; omega) HM.out).mono ?_
            rintro e W7 ⟨rfl, h7⟩
            have H7 : Hid (Dq S w W7 db (p.runS (p.wcommitS p.wopen.2 (init ++ [{ f with en := count + 1 }]))).1) := Lib.hid (Dq.up (H.out.base1 (HKS.out.trans HK6.out (fun _ _ q => q))) (HKS.out.trans HK6.out (fun _ _ q => q)) H.out.lt h7)
            have c13 : W7.cell? ⟨B13, 0, none⟩ = some (.int .i64 ((k0 + (M + 1) : Nat) : Int)) := (HB13.out.keep h7.kp HCK.out.2.2.2.1.2).cell 0
            have HLNN : Hid (((p.wopen.2.length : Int) + ((newFr count l).length : Int)) = ((k0 + (M + 1) : Nat) : Int)) := Lib.hid (by rw [HNEW.out, HK0.out, List.length_append, HINI.out.1]; rfl)
            have HWE := HWD.out
            rw [HNEW.out] at HWE
            rw [HNEW.out] at HLNN
            rw [HLNN.out] at HWE
            obtain ⟨RR, hRR⟩ : ∃ RR, p.runS (p.wcommitS p.wopen.2 (init ++ [{ f with en := count + 1 }])) = RR := ⟨_, rfl⟩
            rw [hRR] at H7 HWE ⊢
            have HWF := Lib.hid HWE
            clear h7 HWE hRR HLNN
            obtain ⟨RP, RE⟩ := RR
            by_cases hre : RE = 0
            · have hfe : fullE RE = 0 := by rw [hre]; rfl
              have HR : Hid (p.wcommit count l = (RP, ((k0 + (M + 1) : Nat) : Int), 0)) := Lib.hid (by rw [HWF.out, if_neg (by simpa using hre)])
              rw [hfe]
              clear hfe hre
              go_wp2_with fail
              exact HPST.out _ _ _ _ HR.out H7.out
            · have HR : Hid (p.wcommit count l = (RP, 0, fullE RE)) := Lib.hid (by rw [HWF.out, if_pos (by simpa using hre)])
              have hfe : fullE RE ≠ 0 := fun z => hre (fullE_0.1 z)
              dsimp only
              obtain ⟨ZE, hZE⟩ : ∃ ZE, fullE RE = ZE := ⟨_, rfl⟩
              rw [hZE] at HR hfe ⊢
              have hz1 : (ZE == 0) = false := by simpa using hfe
              have hz2 : (ZE != 0) = true := by simpa using hfe
              clear hfe hre hZE c13
              go_wp2_with fail
              exact HPST.out _ _ _ _ HR.out H7.out
          · have hz1 : ((k : Int) == 0) = false := by simpa using hz
            obtain ⟨g, ds, rfl, hgL, hgb⟩ := own_blkN HOW.out (by omega)
            have hne : l ≠ [] := fun e => by have := HLN.out; rw [e] at this; exact hz this.symm
            obtain ⟨M, hM⟩ : ∃ M, k = M + 1 := ⟨k - 1, by omega⟩
            have hlast : l = l.dropLast ++ [l.getLast hne] := (List.dropLast_concat_getLast hne).symm
            have hrw : rawFr l = rawFr l.dropLast ++ [⟨(l.getLast hne).n, 0, (l.getLast hne).b⟩] := by
              conv => lhs; rw [hlast]
              unfold rawFr
              rw [List.map_append]
              rfl
            have HNEW : Hid (newFr count l = rawFr l.dropLast ++ [{ (⟨(l.getLast hne).n, 0, (l.getLast hne).b⟩ : Fr) with en := count + 1 }]) := Lib.hid (by
              unfold newFr
              rw [if_neg hne]
              have e : (l.map fun x => (⟨x.n, 0, x.b⟩ : Fr)) = rawFr l.dropLast ++ [⟨(l.getLast hne).n, 0, (l.getLast hne).b⟩] := hrw
              rw [e]
              simp)
            have HGW : Hid (Blk wq g 171 (fnCells (rawFr l.dropLast) ++ fnL ⟨(l.getLast hne).n, 0, (l.getLast hne).b⟩ ++ ds).toArray) := Lib.hid (by
              rw [hrw, fnCells_app] at hgb
              have e : fnCells [(⟨(l.getLast hne).n, 0, (l.getLast hne).b⟩ : Fr)] = fnL ⟨(l.getLast hne).n, 0, (l.getLast hne).b⟩ := by unfold fnCells; simp
              rw [e] at hgb
              exact hgb)
            have HINI : Hid ((rawFr l.dropLast).length = M ∧ (∀ y ∈ rawFr l.dropLast, y.b.length = 256) ∧ (⟨(l.getLast hne).n, 0, (l.getLast hne).b⟩ : Fr).b.length = 256) := Lib.hid ⟨by unfold rawFr; rw [List.length_map, List.length_dropLast, HLN.out, hM]; omega, fun y hy => by
              unfold rawFr at hy
              obtain ⟨x, hx, rfl⟩ := List.mem_map.1 hy
              exact (HOK.out x (List.dropLast_subset _ hx)).len, (HOK.out _ (List.getLast_mem hne)).len⟩
            have HM4 : Hid (M + 1 ≤ 4097) := Lib.hid (by have := HLE.out; omega)
            have HBW : Hid (Blk wq B10 161 #[.slice (some ⟨g, 0, none⟩) (M + 1) c10]) := Lib.hid (by rw [← hM]; exact HBQ2.out)
            have HGG : Hid (B10 ≠ g ∧ lb ≠ g ∧ gz ≠ g ∧ w.heap.size ≤ g) := Lib.hid (by have h1 := HB10.out; omega)
            have HLW := Lib.hid HBK.out.1
            have HZW := Lib.hid HBK.out.2.1
            have HKW2 := Lib.hid HBK.out.2.2
            clear hgb hlast hrw hgL
            go_upto_region 14 with fail
            obtain ⟨W, hW⟩ : ∃ W, wq = W := ⟨_, rfl⟩
            rw [hW] at HBW HGW HLW HZW HKW2 ⊢
            clear cs10 hW
            obtain ⟨M, c2, init, f, ds, HBW, HGW, HINI, HM4, HNEW⟩ : ∃ (M c2 : Nat) (init : List Fr) (f : Fr) (ds : List Value), Hid (Blk W B10 161 #[.slice (some ⟨g, 0, none⟩) (M + 1) c2]) ∧ Hid (Blk W g 171 (fnCells init ++ fnL f ++ ds).toArray) ∧ Hid (init.length = M ∧ (∀ y ∈ init, y.b.length = 256) ∧ f.b.length = 256) ∧ Hid (M + 1 ≤ 4097) ∧ Hid (newFr count l = init ++ [{ f with en := count + 1 }]) := ⟨M, c10, _, _, _, HBW, HGW, HINI, HM4, HNEW⟩
            have cW := HBW.out.cell 0
            have ce : W.cell? ⟨g, M * 259 + 257, none⟩ = some (.int .i64 f.en) := by
              rw [HGW.out.cell, List.getElem?_toArray]
              exact fn_last HINI.out.1 HINI.out.2.1 HINI.out.2.2
            have fe : W.frozen? ⟨g, M * 259 + 257, none⟩ = false := HGW.out.frozen _
            have hw1 : IntKind.i64.wrap (M : Int) = (M : Int) := by have := HM4.out; rw [IntKind.wrap_i64]; omega
            have hw3 : M ≤ 4097 := by have := HM4.out; omega
            have hw2 : IntKind.i64.wrap (count + 1) = count + 1 := by have := HC4.out; rw [IntKind.wrap_i64]; omega
            rw [show (#[Value.slice (some ⟨g, 0, none⟩) (M + 1) c2] : Array Value)[0]? = some (.slice (some ⟨g, 0, none⟩) (M + 1) c2) from rfl] at cW
            go_upto_region 15 with fail
            have hgs := HGW.out.set_ (M * 259 + 257) (.int .i64 (count + 1))
            rw [fn_set HINI.out.1 HINI.out.2.1 HINI.out.2.2] at hgs
            have hbs := HBW.out.far (p := ⟨g, M * 259 + 257, none⟩) (show B10 ≠ g from HGG.out.1) (.int .i64 (count + 1))
            have hls := HLW.out.far (p := ⟨g, M * 259 + 257, none⟩) (show lb ≠ g from HGG.out.2.1) (.int .i64 (count + 1))
            have hzs := HZW.out.far (p := ⟨g, M * 259 + 257, none⟩) (show gz ≠ g from HGG.out.2.2.1) (.int .i64 (count + 1))
            have hks : Kp NoB w (W.setCell ⟨g, M * 259 + 257, none⟩ (.int .i64 (count + 1))) := HKW2.out.setCell (p := ⟨g, M * 259 + 257, none⟩) (.inl HGG.out.2.2.2) _
            have hss : (W.setCell ⟨g, M * 259 + 257, none⟩ (.int .i64 (count + 1))).heap.size = W.heap.size := by simp
            generalize W.setCell ⟨g, M * 259 + 257, none⟩ (.int .i64 (count + 1)) = W5 at hgs hbs hls hzs hks hss ⊢
            have HGS := Lib.hid hgs
            have HBS := Lib.hid hbs
            have HLS5 := Lib.hid hls
            have HZS := Lib.hid hzs
            have HKS := Lib.hid hks
            have HSUM : Hid (IntKind.i64.wrap ((k0 : Int) + ((M : Int) + 1)) = (k0 : Int) + ((M : Int) + 1)) := Lib.hid (by have := HM4.out; have := HFL.out; have := HK0.out; rw [IntKind.wrap_i64]; omega)
            clear cW ce fe hw1 hw2 hw3 hgs hbs hls hzs hks
            apply wp_intoG (G := fun V q => Blk V q 3 #[.int .i64 ((k0 + (M + 1) : Nat) : Int)] ∧ W5.heap.size ≤ q ∧ Kp NoB W5 V)
            · refine wp_region_held_drew (S := fun V => Kp NoB W5 V) (by kernel_rfl) (Kp.refl NoB W5).drew (fun hHeld => ?_)
              have k0' : Kp NoB W5 W5.drew := (Kp.refl NoB W5).drew
              generalize W5.drew = V0 at k0' hHeld ⊢
              refine tkS (i := 0) (v := (.pointer (some ⟨lb, 0, none⟩))) rfl (Or.inl ⟨by rfl, fun w' hq => by have cc : w'.cell? ⟨gz, 0, none⟩ = some (.pointer (some ⟨lb, 0, none⟩)) := (hq.cell HZS.out.lt (fun q => q)).trans (HZS.out.cell 0); go_simp⟩) k0' ?_
              simp only [Act.put, skA, skB, skC]
              refine tkS (i := 1) (v := (.pointer (some ⟨lb, 0, none⟩))) rfl (Or.inl ⟨by rfl, fun w' hq => by go_simp⟩) k0' ?_
              simp only [Act.put, skA, skB, skC]
              refine tkS (i := 2) (v := (.pointer (some ⟨lb, 5, none⟩))) rfl (Or.inl ⟨by rfl, fun w' hq => by go_simp⟩) k0' ?_
              simp only [Act.put, skA, skB, skC]
              refine tkS (i := 3) (v := (.slice Af k0 c)) rfl (Or.inl ⟨by rfl, fun w' hq => by have cc : w'.cell? ⟨lb, 5, none⟩ = some (.slice Af k0 c) := (hq.cell HLS5.out.lt (fun q => q)).trans (HLS5.out.cell 5); go_simp⟩) k0' ?_
              simp only [Act.put, skA, skB, skC]
              refine tkS (i := 4) (v := (.int .i64 (k0 : Int))) rfl (Or.inl ⟨by rfl, fun w' hq => by go_simp⟩) k0' ?_
              simp only [Act.put, skA, skB, skC]
              refine tkS (i := 5) (v := (.slice (some ⟨g, 0, none⟩) (M + 1) c2)) rfl (Or.inl ⟨by rfl, fun w' hq => by have cc : w'.cell? ⟨B10, 0, none⟩ = some (.slice (some ⟨g, 0, none⟩) (M + 1) c2) := (hq.cell HBS.out.lt (fun q => q)).trans (HBS.out.cell 0); go_simp⟩) k0' ?_
              simp only [Act.put, skA, skB, skC]
              refine tkS (i := 6) (v := (.int .i64 ((M + 1 : Nat) : Int))) rfl (Or.inl ⟨by rfl, fun w' hq => by go_simp⟩) k0' ?_
              simp only [Act.put, skA, skB, skC]
              refine tkS (i := 7) (v := (.int .i64 ((k0 + (M + 1) : Nat) : Int))) rfl (Or.inl ⟨by rfl, fun w' hq => by have cc := HSUM.out; go_simp⟩) k0' ?_
              simp only [Act.put, skA, skB, skC]
              refine wpAnyH_ready (rs := [8]) (by kernel_rfl) (by simp) ?_
              refine AllReadyH.valR (fun W' => W' = V0.alloc (.cells #[.int .i64 0] 3)) rfl (by rfl) _ _ (allocIntW V0 _ _ _ _ _ _) (fun W' e => by rw [e]; exact k0'.alloc _) rfl ?_ AllReadyH.nil
              rintro _ rfl
              have hb4 : Blk (V0.alloc (.cells #[.int .i64 0] 3)) V0.heap.size 3 #[.int .i64 0] := Blk.new _ _ _
              have k1 : Kp NoB W5 (V0.alloc (.cells #[.int .i64 0] 3)) := k0'.alloc _
              have hg4 : W5.heap.size ≤ V0.heap.size := k0'.size
              generalize V0.alloc (.cells #[.int .i64 0] 3) = V1 at hb4 k1 ⊢
              generalize V0.heap.size = g4 at hb4 hg4 ⊢
              simp only [Act.put, skA, skB, skC]
              refine wpAnyH_ready (rs := [9]) (by kernel_rfl) (by simp) ?_
              have k2 : Kp NoB W5 (V1.setCell ⟨g4, 0, none⟩ (.int .i64 ((k0 + (M + 1) : Nat) : Int))) := k1.setCell (p := ⟨g4, 0, none⟩) (.inl hg4) _
              refine AllReadyH.skipR rfl (by rfl) _ (stIntW hb4 _ rfl rfl) k2 ?_ AllReadyH.nil
              refine wpAnyH_done (by kernel_rfl) ?_ _
              exact intoG_of g4 ⟨hb4.set_ 0 _, hg4, k2⟩ rfl
            rintro B13 W6 ⟨hb13, hg13, hk6⟩
            have HB13 := Lib.hid hb13
            have HK6 := Lib.hid hk6
            have HG13 : Hid (w.heap.size ≤ B13 ∧ w.heap.size ≤ W6.heap.size) := Lib.hid (by have h1 := HKS.out.size; have h2 := hk6.size; omega)
            have hK : CmK db lb p.whead Af c k0 gz B10 B13 (some ⟨g, 0, none⟩) (M + 1) c2 (init ++ [{ f with en := count + 1 }]) S W6 := by
              have hlt := H.out.lt
              have hw := HB10.out
              have hz8 := HB8W.out
              have hgg := HGG.out
              have h13 := HG13.out
              exact ⟨⟨HLS5.out.keep hk6 (fun q => q), fun q => HLBS.out q⟩, ⟨HZS.out.keep hk6 (fun q => q), fun q => by have := hlt _ q; omega⟩, ⟨HBS.out.keep hk6 (fun q => q), fun q => by have := hlt _ q; omega⟩, ⟨hb13, fun q => by have := hlt _ q; omega⟩, RowsC.keep (fns_blk HGS.out (by rw [List.length_append, HINI.out.1]; rfl) (fun y hy => by
                rcases List.mem_append.1 hy with z | z
                · exact HINI.out.2.1 y z
                · rw [List.mem_singleton.1 z]; exact HINI.out.2.2)) hk6, fun g' o' e hn q => by
                  injection e with e
                  injection e with e1
                  have := hlt _ q
                  omega⟩
            have HCK := Lib.hid hK
            have HD6 : Hid (Dq S w W6 db p) := Lib.hid (H.out.keep (HKS.out.trans hk6 (fun _ _ q => q)))
            have c8 := (HZS.out.keep hk6 (fun q => q)).cell 0
            have HOKN : Hid (∀ y ∈ init ++ [{ f with en := count + 1 }], FrOk y) := Lib.hid (by rw [← HNEW.out]; exact newFr_ok HC4.out HPO.out)
            clear hb13 hg13 hk6 hK
            go_wp2_with fail
            refine (wcommit_all (H.out.base1 (HKS.out.trans HK6.out (fun _ _ q => q))) HDN.out p.wopen.2 k0 HK0.out (by have := HFL.out; rw [HK0.out] at this; exact this) gz B10 B13 (some ⟨g, 0, none⟩) (M + 1) c2 (init ++ [{ f with en := count + 1 }]) HCK.out HOKN.out (by have := HM4.out; omega) HM.out).mono ?_
            rintro e W7 ⟨rfl, h7⟩
            have H7 : Hid (Dq S w W7 db (p.runS (p.wcommitS p.wopen.2 (init ++ [{ f with en := count + 1 }]))).1) := Lib.hid (Dq.up (H.out.base1 (HKS.out.trans HK6.out (fun _ _ q => q))) (HKS.out.trans HK6.out (fun _ _ q => q)) H.out.lt h7)
            have c13 : W7.cell? ⟨B13, 0, none⟩ = some (.int .i64 ((k0 + (M + 1) : Nat) : Int)) := (HB13.out.keep h7.kp HCK.out.2.2.2.1.2).cell 0
            have HLNN : Hid (((p.wopen.2.length : Int) + ((newFr count l).length : Int)) = ((k0 + (M + 1) : Nat) : Int)) := Lib.hid (by rw [HNEW.out, HK0.out, List.length_append, HINI.out.1]; rfl)
            have HWE := HWD.out
            rw [HNEW.out] at HWE
            rw [HNEW.out] at HLNN
            rw [HLNN.out] at HWE
            obtain ⟨RR, hRR⟩ : ∃ RR, p.runS (p.wcommitS p.wopen.2 (init ++ [{ f with en := count + 1 }])) = RR := ⟨_, rfl⟩
            rw [hRR] at H7 HWE ⊢
            have HWF := Lib.hid HWE
            clear h7 HWE hRR HLNN
            obtain ⟨RP, RE⟩ := RR
            by_cases hre : RE = 0
            · have hfe : fullE RE = 0 := by rw [hre]; rfl
              have HR : Hid (p.wcommit count l = (RP, ((k0 + (M + 1) : Nat) : Int), 0)) := Lib.hid (by rw [HWF.out, if_neg (by simpa using hre)])
              rw [hfe]
              clear hfe hre
              go_wp2_with fail
              exact HPST.out _ _ _ _ HR.out H7.out
            · have HR : Hid (p.wcommit count l = (RP, 0, fullE RE)) := Lib.hid (by rw [HWF.out, if_pos (by simpa using hre)])
              have hfe : fullE RE ≠ 0 := fun z => hre (fullE_0.1 z)
              dsimp only
              obtain ⟨ZE, hZE⟩ : ∃ ZE, fullE RE = ZE := ⟨_, rfl⟩
              rw [hZE] at HR hfe ⊢
              have hz1 : (ZE == 0) = false := by simpa using hfe
              have hz2 : (ZE != 0) = true := by simpa using hfe
              clear hfe hre hZE c13
              go_wp2_with fail
              exact HPST.out _ _ _ _ HR.out H7.out
end
end Go.Proofs.Ytegcbdfilkecpaa
/- The log: the pages brought home, in plain Lean; no condition. -/
namespace Go.Proofs.Ytegcbdfilkecpaa
open Go

theorem lastFr_rev (fs : List Fr) (m : Nat) (n : Int) : lastFr (fs.take m) n = (fs.take m).reverse.find? fun f => decide (f.n = n) := rfl
theorem rev_getD (fs : List Fr) (m k : Nat) (hm : m ≤ fs.length) (hk : k < m) : (fs.take m).reverse.getD k ⟨0, 0, []⟩ = fs.getD (m - 1 - k) ⟨0, 0, []⟩ := by
  have hl : (fs.take m).length = m := by rw [List.length_take]; omega
  rw [List.getD_eq_getElem?_getD, List.getD_eq_getElem?_getD, List.getElem?_reverse (by omega), hl, List.getElem?_take, if_pos (by omega)]
/-- the last frame of a page by going back over the frames -/
theorem lastFr_at (fs : List Fr) (m k : Nat) (n : Int) (hm : m ≤ fs.length) (hk : k < m) (h1 : ∀ j, j < k → (fs.getD (m - 1 - j) ⟨0, 0, []⟩).n ≠ n) (h2 : (fs.getD (m - 1 - k) ⟨0, 0, []⟩).n = n) : lastFr (fs.take m) n = some (fs.getD (m - 1 - k) ⟨0, 0, []⟩) := by
  have hl : (fs.take m).reverse.length = m := by rw [List.length_reverse, List.length_take]; omega
  have hz : ∀ j, j < k → ((fs.take m).reverse.getD j ⟨0, 0, []⟩).n ≠ n := fun j hj => by rw [rev_getD fs m j hm (by omega)]; exact h1 j hj
  rw [← rev_getD fs m k hm hk] at h2 ⊢
  rw [lastFr_rev]
  generalize (fs.take m).reverse = V at *
  have e : V = V.take k ++ V.drop k := (List.take_append_drop ..).symm
  have hd : V.drop k = V.getD k ⟨0, 0, []⟩ :: V.drop (k + 1) := by
    rw [List.drop_eq_getElem_cons (by omega), List.getD_eq_getElem?_getD, List.getElem?_eq_getElem (by omega)]
    rfl
  have hnone : (V.take k).find? (fun f => decide (f.n = n)) = none := by
    rw [List.find?_eq_none]
    intro f hf
    obtain ⟨j, hj, rfl⟩ := List.mem_iff_getElem.1 hf
    rw [List.length_take] at hj
    have := hz j (by omega)
    rw [List.getD_eq_getElem?_getD, List.getElem?_eq_getElem (by omega)] at this
    rw [List.getElem_take]
    simpa using this
  conv => lhs; rw [e]
  rw [List.find?_append, hnone, hd, List.find?_cons, decide_eq_true h2]
  rfl
theorem lastFr_none (fs : List Fr) (m : Nat) (n : Int) (hm : m ≤ fs.length) (h1 : ∀ j, j < m → (fs.getD (m - 1 - j) ⟨0, 0, []⟩).n ≠ n) : lastFr (fs.take m) n = none := by
  have hl : (fs.take m).length = m := by rw [List.length_take]; omega
  unfold lastFr
  rw [List.find?_eq_none]
  intro f hf
  obtain ⟨j, hj, rfl⟩ := List.mem_iff_getElem.1 (List.mem_reverse.1 hf)
  rw [hl] at hj
  have := h1 (m - 1 - j) (by omega)
  rw [show m - 1 - (m - 1 - j) = j by omega, List.getD_eq_getElem?_getD, List.getElem?_eq_getElem (by omega)] at this
  rw [List.getElem_take]
  simpa using this
end Go.Proofs.Ytegcbdfilkecpaa
/- Regions that draw their order within a round of a range over a function; no condition. -/
namespace Go.Proofs.Ytegcbdfilkecpaa
open Go

section
variable {P : Program} {ops : Array Oper} {Q : Exit → Act → World → Prop} {l n : Nat}
end
/-- a step that writes only what lay ahead of the loop -/
theorem Kp.from {S : Nat → Prop} {B : Nat} {W W' : World} (k : Kp S W W') (hS : ∀ b, S b → b < B) : KeepsFrom B W W' :=
  ⟨k.size, fun i o hB hi _ => (k.block i (Array.getElem?_eq_some_iff.1 hi).1 (fun q => by have := hS _ q; omega)).trans hi⟩
theorem Kp.grownBy {S : Nat → Prop} {a w w' : World} {row : Option Nat} (k : Kp S a w) (hg : w.grownBy w' row) (hr : ∀ r, row = some r → a.heap.size ≤ r) : Kp S a w' :=
  ⟨hg.os.trans k.os, hg.tape.trans k.tape, hg.output.trans k.output, Nat.le_trans k.size hg.size, fun i hi hn => (hg.block i (Nat.lt_of_lt_of_le hi k.size) (fun e => by have := hr i e.symm; omega)).trans (k.block i hi hn)⟩
end Go.Proofs.Ytegcbdfilkecpaa
/- The journal: a page told; no condition but on the texts' lengths. -/
namespace Go.Proofs.Ytegcbdfilkecpaa
open Go.RowKit

section
variable {S : Nat → Prop} {W0 w : World} {db : Nat} {p : Pl}
attribute [local go_sem ↓] load26 store26 alloc26 build26
set_option maxRecDepth 100000 in
set_option maxHeartbeats 800000 in
theorem page_q (h : Dq S W0 w db p) (n : Int) (hn : -9223372036854775808 ≤ n ∧ n ≤ 9223372036854775807) :
    Calls Try.prog 11 #[ptrV db, .int .i64 n] w fun e w' => e = .returned (.tuple #[.agg (bytesV (p.jpage n)), .int .i64 (p.jpageE n)]) ∧ Kp NoB w w' := by
  have H := Lib.hid h
  have hb0 : Blk (w.alloc (.cells zero256 24)) w.heap.size 24 zero256 := Blk.new _ _ _
  have hk0 : Kp NoB w (w.alloc (.cells zero256 24)) := (Kp.refl _ _).alloc _
  have HB0 := Lib.hid hb0
  have HK0 := Lib.hid hk0
  clear h hb0 hk0
  unfold ptrV
  rcases hdn : p.down with _ | _
  · have HW0 : Hid (p.wrong = 0) := Lib.hid (by unfold Pl.wrong; rw [hdn]; rfl)
    have HE0 : Hid (p.jpageE n = if n < 1 ∨ (p.jcount : Int) < n then 4 else 0) := Lib.hid (by unfold Pl.jpageE; rw [hdn]; rfl)
    clear hdn
    by_cases h1 : n < 1
    · have HE1 : Hid (p.jpageE n = 4) := Lib.hid (by rw [HE0.out, if_pos (.inl h1)])
      have HP1 : Hid (bytesV (p.jpage n) = zero256) := Lib.hid (by unfold Pl.jpage; rw [HE1.out]; rfl)
      go_enter Try.func11, Try.ntmps11
      go_wp2_with fail
      refine (show Calls _ _ #[ptrV db] _ _ from ready_q (H.out.keep HK0.out)).mono ?_
      rintro e w2 ⟨rfl, hk⟩
      rw [HW0.out]
      have HK := Lib.hid hk
      have hb2 := HB0.out.keep hk (fun q => q)
      have HB2 := Lib.hid hb2
      have t2 : w2.there w.heap.size 0 256 := hb2.thereAll 256 (by rw [zero256_eq, bytesV_size]; rfl)
      have oz : ones zero256 := by rw [zero256_eq]; exact bytesV_one _
      have sz : zero256.size = 256 := by rw [zero256_eq, bytesV_size]; rfl
      have HSZ := Lib.hid sz
      clear hk hb2
      go_wp2_with fail
      refine bodyPost_ret (ret_cell_tmp rfl _ _ _ _ _ _ rfl (HB2.out.whole zero256 rfl) Try.underlying24 rfl (by rw [HSZ.out]; exact info26) _ rfl) rfl ⟨by rw [HE1.out, HP1.out]; rfl, ?_⟩
      exact Kp.setCells (.inl (Nat.le_refl _)) _ _ _ (HK0.out.trans HK.out (fun _ _ q => q))
    · by_cases h2 : (p.jcount : Int) < n
      · have HE1 : Hid (p.jpageE n = 4) := Lib.hid (by rw [HE0.out, if_pos (.inr h2)])
        have HP1 : Hid (bytesV (p.jpage n) = zero256) := Lib.hid (by unfold Pl.jpage; rw [HE1.out]; rfl)
        go_enter Try.func11, Try.ntmps11
        go_wp2_with fail
        refine (show Calls _ _ #[ptrV db] _ _ from ready_q (H.out.keep HK0.out)).mono ?_
        rintro e w2 ⟨rfl, hk⟩
        rw [HW0.out]
        have HK := Lib.hid hk
        have hb2 := HB0.out.keep hk (fun q => q)
        have HB2 := Lib.hid hb2
        have t2 : w2.there w.heap.size 0 256 := hb2.thereAll 256 (by rw [zero256_eq, bytesV_size]; rfl)
        have oz : ones zero256 := by rw [zero256_eq]; exact bytesV_one _
        have sz : zero256.size = 256 := by rw [zero256_eq, bytesV_size]; rfl
        have HSZ := Lib.hid sz
        clear hk hb2
        go_wp2_with fail
        refine (show Calls _ _ #[ptrV db] _ _ from count_q ((H.out.keep HK0.out).keep HK.out)).mono ?_
        rintro e w3 ⟨rfl, rfl⟩
        generalize (p.jcount : Int) = J at h2 ⊢
        go_wp2_with fail
        refine bodyPost_ret (ret_cell_tmp rfl _ _ _ _ _ _ rfl (HB2.out.whole zero256 rfl) Try.underlying24 rfl (by rw [HSZ.out]; exact info26) _ rfl) rfl ⟨by rw [HE1.out, HP1.out]; rfl, ?_⟩
        exact Kp.setCells (.inl (Nat.le_refl _)) _ _ _ (HK0.out.trans HK.out (fun _ _ q => q))
      · have HE1 : Hid (p.jpageE n = 0) := Lib.hid (by rw [HE0.out, if_neg (by omega)])
        obtain ⟨m, hm⟩ : ∃ m : Nat, n = m := ⟨n.toNat, by omega⟩
        have HP1 : Hid (p.jpage n = pageOf (p.seen nmDb) m) := Lib.hid (by unfold Pl.jpage; rw [HE1.out, hm]; rfl)
        have hm1 : 1 ≤ m := by omega
        have hm2 : m ≤ p.jcount := by omega
        have HM1 := Lib.hid hm1
        have HM2 := Lib.hid hm2
        have HMM := Lib.hid hm
        have HPL : Hid ((pageOf (p.seen nmDb) m).length = 256) := Lib.hid (sizedF_len _ _)
        clear hm hm1 hm2
        go_enter Try.func11, Try.ntmps11
        go_wp2_with fail
        refine (show Calls _ _ #[ptrV db] _ _ from ready_q (H.out.keep HK0.out)).mono ?_
        rintro e w2 ⟨rfl, hk⟩
        rw [HW0.out]
        have HK := Lib.hid hk
        clear hk
        go_wp2_with fail
        refine (show Calls _ _ #[ptrV db] _ _ from count_q ((H.out.keep HK0.out).keep HK.out)).mono ?_
        rintro e w3 ⟨rfl, rfl⟩
        obtain ⟨J, hJ⟩ : ∃ J : Int, (p.jcount : Int) = J := ⟨_, rfl⟩
        rw [hJ] at h2 ⊢
        clear hJ
        go_wp2_with fail
        have HPQ := wpage_q ((H.out.keep HK0.out).keep HK.out) m HM1.out HM2.out
        rw [← HMM.out] at HPQ
        refine (show Calls _ _ #[.agg #[ptrV db], .int .i64 n] _ _ from HPQ).mono ?_
        clear HPQ
        rintro e w4 ⟨rfl, hk4⟩
        have hk5 := HK.out.trans hk4 (fun _ _ q => q)
        have HK5 := Lib.hid hk5
        have hb2 := HB0.out.keep hk5 (fun q => q)
        have HB2 := Lib.hid hb2
        have t2 : w4.there w.heap.size 0 256 := hb2.thereAll 256 (by rw [zero256_eq, bytesV_size]; rfl)
        obtain ⟨RR, hRR⟩ : ∃ RR, bytesV (pageOf (p.seen nmDb) m) = RR := ⟨_, rfl⟩
        have o1 := bytesV_one (pageOf (p.seen nmDb) m)
        have s1 : (bytesV (pageOf (p.seen nmDb) m)).size = 256 := by rw [bytesV_size, HPL.out]
        rw [hRR] at o1 s1 ⊢
        have HRR := Lib.hid hRR
        have HS1 := Lib.hid s1
        clear hk4 hk5 hb2 hRR
        go_wp2_with fail
        refine bodyPost_ret (ret_cell_tmp rfl _ _ _ _ _ _ rfl (HB2.out.whole RR (by rw [HS1.out, zero256_eq, bytesV_size]; rfl)) Try.underlying24 rfl (by rw [HS1.out]; exact info26) _ rfl) rfl ⟨by rw [HE1.out, HP1.out, HRR.out]; rfl, ?_⟩
        exact Kp.setCells (.inl (Nat.le_refl _)) _ _ _ (HK0.out.trans HK5.out (fun _ _ q => q))
  · have HW0 : Hid (p.wrong = 7) := Lib.hid (by unfold Pl.wrong; rw [hdn]; rfl)
    have HE1 : Hid (p.jpageE n = 7) := Lib.hid (by unfold Pl.jpageE; rw [hdn]; rfl)
    have HP1 : Hid (bytesV (p.jpage n) = zero256) := Lib.hid (by unfold Pl.jpage; rw [HE1.out]; rfl)
    clear hdn
    go_enter Try.func11, Try.ntmps11
    go_wp2_with fail
    refine (show Calls _ _ #[ptrV db] _ _ from ready_q (H.out.keep HK0.out)).mono ?_
    rintro e w2 ⟨rfl, hk⟩
    rw [HW0.out]
    have HK := Lib.hid hk
    have hb2 := HB0.out.keep hk (fun q => q)
    have HB2 := Lib.hid hb2
    have t2 : w2.there w.heap.size 0 256 := hb2.thereAll 256 (by rw [zero256_eq, bytesV_size]; rfl)
    have oz : ones zero256 := by rw [zero256_eq]; exact bytesV_one _
    have sz : zero256.size = 256 := by rw [zero256_eq, bytesV_size]; rfl
    have HSZ := Lib.hid sz
    clear hk hb2
    go_wp2_with fail
    refine bodyPost_ret (ret_cell_tmp rfl _ _ _ _ _ _ rfl (HB2.out.whole zero256 rfl) Try.underlying24 rfl (by rw [HSZ.out]; exact info26) _ rfl) rfl ⟨by rw [HE1.out, HP1.out]; rfl, ?_⟩
    exact Kp.setCells (.inl (Nat.le_refl _)) _ _ _ (HK0.out.trans HK.out (fun _ _ q => q))
end
end Go.Proofs.Ytegcbdfilkecpaa
/- The log: a page at a mark; condition: a log in memory on a disk. -/
namespace Go.Proofs.Ytegcbdfilkecpaa
open Go.RowKit Go.Shelf
theorem blkOwn {W W' : World} {row : Option Nat} {g : Nat} {t : TypeId} {cs : Array Value} (h : Blk W g t cs) (hg : W.grownBy W' row) (hr : ∀ r, row = some r → ∃ o : Obj, W.heap[r]? = some o ∧ o.isCells = false) : Blk W' g t cs :=
  (hg.block g h.lt (fun e => by
    obtain ⟨o, ho, hc⟩ := hr g e.symm
    rw [show W.heap[g]? = _ from h] at ho
    injection ho with ho
    rw [← ho] at hc
    cases hc)).trans h
theorem storeFrI (r : Option Nat) (w : World) (ev : Operand → Value) (ds : Option Tmp) (x y : Operand) (ty : TypeId) (ps : String) (af : Array Edge) (g : Option (Nat × Bool)) (hv : aggOK (ev y) 259) (h : thereP w (ev x) 259) :
    (Oper.semAt r ev ⟨ds, .store 171 x y, ty, ps, af, g⟩).run Try.prog w = .ok .skip (setP w (ev x) (ev y)) := by
  rw [Oper.semAt_eq _ _ _ (by intro c h; cases h)]
  exact storeFr w ev ds x y ty ps af g hv h
theorem store26I (r : Option Nat) (w : World) (ev : Operand → Value) (ds : Option Tmp) (x y : Operand) (ty : TypeId) (ps : String) (af : Array Edge) (g : Option (Nat × Bool)) (hv : aggOK (ev y) 256) (h : thereP w (ev x) 256) :
    (Oper.semAt r ev ⟨ds, .store 24 x y, ty, ps, af, g⟩).run Try.prog w = .ok .skip (setP w (ev x) (ev y)) := by
  rw [Oper.semAt_eq _ _ _ (by intro c h; cases h)]
  exact store26 w ev ds x y ty ps af g hv h
theorem allocFrI (r : Option Nat) (w : World) (ev : Operand → Value) (ds : Option Tmp) (ty : TypeId) (ps : String) (af : Array Edge) (g : Option (Nat × Bool)) :
    (Oper.semAt r ev ⟨ds, .alloc 171, ty, ps, af, g⟩).run Try.prog w = .ok (.value (.pointer (some ⟨w.heap.size, 0, none⟩))) (w.alloc (.cells fr0 171)) := by
  rw [Oper.semAt_eq _ _ _ (by intro c h; cases h)]
  exact allocFr w ev ds ty ps af g
theorem load26I (r : Option Nat) (w : World) (ev : Operand → Value) (ds : Option Tmp) (x : Operand) (ty : TypeId) (ps : String) (af : Array Edge) (g : Option (Nat × Bool)) (h : thereP w (ev x) 256) :
    (Oper.semAt r ev ⟨ds, .load 24 x, ty, ps, af, g⟩).run Try.prog w = .ok (.value (.agg (readP w (ev x) 256))) w := by
  rw [Oper.semAt_eq _ _ _ (by intro c h; cases h)]
  exact load26 w ev ds x ty ps af g h
theorem leaveM {F : Fence} {n : Nat} {P : Program} {fn : Func} {tmps : Array Value} {R : Ending → World → Prop} {w : World} {D : Nat} {v : Value} (hD : w.heap[D]? = some (.deferred (some [])))
    (hr : (results fn tmps).run P (w.putObj D (.deferred none)) = .ok v (w.putObj D (.deferred none))) (h : R (.returned v) (w.putObj D (.deferred none))) : bodyPostM F n P fn R .ret { tmps := tmps, defers := [{ target := .collected D, args := #[] }] } w :=
  ⟨by simp, .inl ⟨_, _, rfl, run_takeDeferred hD, by
    exact ⟨v, hr, h⟩⟩⟩
/-- one frame of the log -/
def frK (fs : List Fr) (m x : Nat) : Fr := fs.getD (m - 1 - x) ⟨0, 0, []⟩
def LpI (fs : List Fr) (m : Nat) (n : Int) (w2 : World) (pre : List Nat) (W : World) : Prop := (∀ j ∈ pre, (frK fs m j).n ≠ n) ∧ Kp NoB w2 W
def LpX (fs : List Fr) (m : Nat) (n : Int) (w2 : World) (pb : Nat) (c : Code) (pre : List Nat) (W : World) : Prop :=
  c = .ret ∧ (∃ pre' x, pre = pre' ++ [x] ∧ (∀ j ∈ pre', (frK fs m j).n ≠ n) ∧ (frK fs m x).n = n ∧ Blk W pb 24 (bytesV (frK fs m x).b)) ∧ Kp (OnB pb) w2 W
attribute [local go_sem ↓] load26 store26 alloc26 build26 loadFrI loadFr storeFr allocFr storeFrI store26I allocFrI load26I
attribute [local go_sem] Oper.semAt_some
set_option maxRecDepth 100000 in
set_option maxHeartbeats 3200000 in
theorem wlpage_q {S : Nat → Prop} {W0 w : World} {db lb : Nat} {p : Pl} {H : W4} {A : Option Addr} {c : Nat} {fs : List Fr} (hq : Dq S W0 w db p) (h : LgS w db lb H A c fs) (m : Nat) (hm : m ≤ fs.length) (n : Int) (hn : -9223372036854775808 ≤ n ∧ n ≤ 9223372036854775807) :
    Calls Try.prog 106 #[.pointer (some ⟨lb, 0, none⟩), .int .i64 (m : Int), .int .i64 n] w fun e w' => e = .returned (.agg (bytesV (wpage p fs m n))) ∧ Kp NoB w w' := by
  have HQ := Lib.hid hq
  have HL := Lib.hid h
  have HN := Lib.hid hn
  have HM := Lib.hid hm
  obtain ⟨RP, hRP⟩ : ∃ RP, bytesV (wpage p fs (m : Int) n) = RP := ⟨_, rfl⟩
  rw [hRP]
  have HRP := Lib.hid hRP
  clear hq h hn hm hRP
  refine (callsIn_wide (n := 5)).1 ?_
  refine callsIn_of_wp_marks Try.func106 rfl trivial ?_ rfl
  simp only [Try.ntmps106, List.size_toArray, List.length_cons, List.length_nil, Nat.reduceAdd, Nat.reduceSub, Array.replicate_succ, Array.replicate_zero, List.push_toArray, List.append_toArray, List.nil_append, List.cons_append]
  gi_wp2_with (refine ⟨trivial, ?_⟩; gi_at_call 147; refine (callsIn_wide.2 (upto_q _ lb m)).mono ?_; rintro e w2 ⟨rfl, hw2⟩; have HW2 := Lib.hid hw2; clear hw2)
  have hL2 : LgS w2 db lb H A c fs := HL.out.keep (by rw [HW2.out]; exact ((((Kp.refl NoB w).alloc _).alloc _).alloc _).alloc _)
  have hsz : w2.heap.size = w.heap.size + 4 := by rw [HW2.out]; simp
  have hB : Blk w2 (w.heap.size + 1 + 1 + 1) 3 #[.int .i64 (m : Int)] := by rw [HW2.out]; exact Blk.newAt _ _ _ _ (by simp)
  have hC : Blk w2 (w.heap.size + 1 + 1) 158 #[.pointer (some ⟨lb, 0, none⟩)] := by rw [HW2.out]; exact (Blk.newAt _ _ _ _ (by simp)).alloc _
  have hP : Blk w2 (w.heap.size + 1) 24 zero256 := by rw [HW2.out]; exact ((Blk.newAt _ _ _ _ (by simp)).alloc _).alloc _
  have hNB : Blk w2 w.heap.size 3 #[.int .i64 n] := by rw [HW2.out]; exact (((Blk.new _ _ _).alloc _).alloc _).alloc _
  have hk2 : Kp NoB w w2 := by rw [HW2.out]; exact ((((Kp.refl NoB w).alloc _).alloc _).alloc _).alloc _
  have HL2 := Lib.hid hL2
  have HB := Lib.hid hB
  have HC := Lib.hid hC
  have HP := Lib.hid hP
  have HNB := Lib.hid hNB
  have HK2 := Lib.hid hk2
  have HSZ := Lib.hid hsz
  clear hL2 hB hC hP hNB hk2 hsz HW2
  obtain ⟨s0, hs0⟩ : ∃ s0, w.heap.size = s0 := ⟨_, rfl⟩
  rw [hs0] at HB HC HP HNB HSZ ⊢
  have HS0 := Lib.hid hs0
  clear hs0
  have HOK : Hid (0 < m → ∀ x, FrOk (frK fs m x)) := Lib.hid (fun h0 x => by
    unfold frK
    rw [List.getD_eq_getElem?_getD, List.getElem?_eq_getElem (by have := HM.out; omega)]
    exact HL2.out.ok _ (List.getElem_mem _))
  refine wpIn_rangeFunc_ownH (w0 := w2) rfl (by omega) (gf := 167) (lb := #[.pointer (some ⟨s0 + 1 + 1 + 1, 0, none⟩), .pointer (some ⟨s0 + 1 + 1, 0, none⟩)]) rfl trivial (enters_of Try.func167 (by kernel_rfl) rfl)
    (up_stops Fence.wide (5 - 1) trivial rfl (by omega) (s0 + 1 + 1 + 1) (s0 + 1 + 1) db lb H A c fs m HM.out w2 HL2.out HB.out HC.out) belowK_t (belowK_b (Nat.le_refl _)) (Below.refl _ w2) (fun _ => rfl)
    (LpI fs m n w2) (LpX fs m n w2 (s0 + 1))
    (fun pre W W' row hs hg hr => ⟨hs.1, hs.2.grownBy hg (fun r e => (hr r e).1)⟩)
    (fun c pre W W' row hs hg hr => ⟨hs.1, by
      obtain ⟨pre', x, h1, h2, h3, h4⟩ := hs.2.1
      exact ⟨pre', x, h1, h2, h3, blkOwn h4 hg (fun r e => (hr r e).2)⟩, hs.2.2.grownBy hg (fun r e => (hr r e).1)⟩)
    ⟨fun j q => (by cases q), Kp.refl _ _⟩
    (fun x a' W => ∃ g, w2.heap.size ≤ g ∧ a' = { tmps := #[.pointer (some ⟨lb, 0, none⟩), .int .i64 (m : Int), .int .i64 n, undef, undef, .pointer (some ⟨s0, 0, none⟩), .pointer (some ⟨s0 + 1, 0, none⟩), .pointer (some ⟨g, 0, none⟩), undef, undef, .pointer (some ⟨lb, 0, none⟩), .int .i64 (m : Int), .func (.func 167) #[] #[.pointer (some ⟨s0 + 1 + 1 + 1, 0, none⟩), .pointer (some ⟨s0 + 1 + 1, 0, none⟩)], .agg (frL (frK fs m x)).toArray, undef, undef, undef, undef, undef, undef, undef, undef, undef, undef, undef, undef, undef, undef, undef, undef, undef], defers := [] } ∧ Blk W g 171 (frL (frK fs m x)).toArray)
    (fun x a' _ W W' row hs hg hr => by
      obtain ⟨g, h1, h2, h3⟩ := hs
      exact ⟨g, h1, h2, blkOwn h3 hg (fun r e => (hr r e).2)⟩) ?assign ?body ?done ?stop
  case assign =>
    intro l pre x W K hI hK
    have hkk := hI.2.size
    have HKK := Lib.hid hkk
    have hfr : (encF fs m x) = #[.agg (frL (frK fs m x)).toArray] := rfl
    rw [hfr]
    have hlen : (frL (frK fs m x)).toArray.size = 259 := by rw [List.size_toArray, frL_len]
    have hon : ones (frL (frK fs m x)).toArray := ones_of (frL_one _)
    obtain ⟨FV, hFV⟩ : ∃ FV, (frL (frK fs m x)).toArray = FV := ⟨_, rfl⟩
    have hK1 := fun g W' h1 h2 h3 h4 h5 => hK _ W' h1 h2 h3 ⟨g, h4, rfl, h5⟩
    rw [hFV] at hlen hon hK1 ⊢
    have hb := Blk.new W 171 fr0
    have t1 := hb.thereAll 259 (by kernel_rfl)
    have hb2 := hb.whole FV (by rw [hlen]; kernel_rfl)
    have HB2 := Lib.hid hb2
    have HK1 := Lib.hid hK1
    have HI := Lib.hid hI
    clear hb hb2 hK hK1 hI hkk
    gi_wp2
    refine HK1.out W.heap.size _ ?_ ?_ ?_ HKK.out HB2.out
    · exact Kp.from (S := NoB) (Kp.setCells (.inl (Nat.le_refl _)) _ _ _ ((Kp.refl _ _).alloc _)) (fun b q => q.elim)
    · exact Kp.below (Kp.setCells (.inl (Nat.le_refl _)) _ _ _ ((Kp.refl NoB W).alloc _)) HKK.out (fun _ _ q => q)
    · exact ⟨HI.out.1, Kp.setCells (.inl HKK.out) _ _ _ (HI.out.2.alloc _)⟩
  case body =>
    rintro l pre x a' W hl hr hI ⟨g, hg, rfl, hgb⟩ hlt
    have hok := HOK.out (by omega) x
    have c0 : W.cell? ⟨g, 0, none⟩ = some (.int .i64 (frK fs m x).n) := by rw [hgb.cell]; rfl
    have cN : W.cell? ⟨s0, 0, none⟩ = some (.int .i64 n) := (HNB.out.keep hI.2 (fun q => q)).cell 0
    have hth := hgb.thereAll 259 (by rw [List.size_toArray, frL_len])
    have hrd := hgb.readAll 259 (by rw [List.size_toArray, frL_len])
    have HI := Lib.hid hI
    clear hI hgb hr hl
    by_cases hx : (frK fs m x).n = n
    · have HX := Lib.hid hx
      have hcall := frpage_q W (frK fs m x) hok
      have HLEN := Lib.hid hok.len
      have HCALL := Lib.hid hcall
      rw [hx] at c0
      clear hok hx hcall
      obtain ⟨FV, hFV⟩ : ∃ FV, (frL (frK fs m x)).toArray = FV := ⟨_, rfl⟩
      rw [hFV] at hrd HCALL ⊢
      gi_wp2_with (refine ⟨trivial, ?_⟩; gi_at_call 148; refine (CallsIn.inRound l (callsIn_wide.2 HCALL.out)).mono ?_; rintro e W3 ⟨rfl, hk3⟩; have HB3 := Lib.hid ((HP.out.keep HI.out.2 (fun q => q)).keep hk3 (fun q => q)); have t3 := HB3.out.thereAll 256 (by rw [zero256_eq, bytesV_size]; rfl); have HK3 := Lib.hid hk3; clear hk3; obtain ⟨RR, hRR⟩ : ∃ RR, bytesV (frK fs m x).b = RR := ⟨_, rfl⟩; have o1 : ones RR := (by rw [← hRR]; exact bytesV_one _); have s1 : RR.size = 256 := (by rw [← hRR, bytesV_size, HLEN.out]); have HRR := Lib.hid hRR; have S1 := Lib.hid s1; rw [hRR]; clear hRR)
      refine ⟨?_, rfl, ⟨pre, x, rfl, HI.out.1, HX.out, ?_⟩, ?_⟩
      · exact Kp.from (S := OnB (s0 + 1)) (Kp.setCells (S := OnB (s0 + 1)) (g := s0 + 1) (.inr rfl) _ _ _ (HK3.out.mono (fun _ _ q => q.elim))) (fun b q => by have := HSZ.out; unfold OnB at q; omega)
      · rw [HRR.out]
        exact HB3.out.whole RR (by rw [S1.out, zero256_eq, bytesV_size]; rfl)
      · exact Kp.setCells (S := OnB (s0 + 1)) (g := s0 + 1) (.inr rfl) _ _ _ ((HI.out.2.mono (fun _ _ q => q.elim)).trans (HK3.out.mono (fun _ _ q => q.elim)) (fun _ _ q => q))
    · have he : ((frK fs m x).n == n) = false := by simpa using hx
      have HX := Lib.hid hx
      generalize (frK fs m x).n = nx at c0 he ⊢
      clear hok hx
      gi_wp2
      refine ⟨KeepsFrom.refl _ _, Below.refl _ _, fun j hj => ?_, HI.out.2⟩
      rcases List.mem_append.1 hj with q | q
      · exact HI.out.1 j q
      · rw [List.mem_singleton.1 q]; exact HX.out
  case done =>
    rintro D xs W hD rfl hI hK
    have hnone : lastFr (fs.take m) n = none := lastFr_none fs m n HM.out (fun j hj => hI.1 j (List.mem_range.2 hj))
    have hpg : RP = bytesV (p.jpage n) := by
      rw [← HRP.out]
      unfold wpage
      rw [Int.toNat_natCast, hnone]
    have HPG := Lib.hid hpg
    have HI := Lib.hid hI
    have HK := Lib.hid hK
    have HD := Lib.hid hD
    clear hI hK hD hnone hpg
    gi_wp2
    refine wpIn_wide.2 ?_
    have HKW : Hid (Kp NoB w W) := Lib.hid (HK2.out.trans HI.out.2 (fun _ _ q => q))
    have hlC := (HL.out.keep HKW.out).cl.1
    have hnC : W.cell? ⟨s0, 0, none⟩ = some (.int .i64 n) := (HNB.out.keep HI.out.2 (fun q => q)).cell 0
    have hl1 := block_lt_of_cell hlC
    have hl2 := block_lt_of_cell hnC
    obtain ⟨JP, hJP⟩ : ∃ JP, bytesV (p.jpage n) = JP := ⟨_, rfl⟩
    obtain ⟨JE, hJE⟩ : ∃ JE, p.jpageE n = JE := ⟨_, rfl⟩
    have HJP := Lib.hid hJP
    have HJE := Lib.hid hJE
    have HRJ : Hid (RP = JP) := Lib.hid (HPG.out.trans hJP)
    have JPS : Hid (JP.size = 256) := Lib.hid (by
      rw [← hJP, bytesV_size]
      unfold Pl.jpage
      split
      · exact sizedF_len _ _
      · exact zeros256)
    have JPO : Hid (ones JP) := Lib.hid (by rw [← hJP]; exact bytesV_one _)
    clear hJP hJE
    apply wp_intoG (G := fun V g => Blk V g 24 JP ∧ Kp NoB W V)
    · refine wp_region_held_drew (S := fun V => Kp NoB W V) (by kernel_rfl) (Kp.refl NoB W).drew (fun hHeld => ?_)
      have k0 : Kp NoB W W.drew := (Kp.refl NoB W).drew
      generalize W.drew = V0 at k0 hHeld ⊢
      refine tkS (i := 0) (v := (.pointer (some ⟨lb, 0, none⟩))) rfl (Or.inl ⟨by rfl, fun w' hq => by go_simp⟩) k0 ?_
      simp only [Act.put, skA, skB, skC]
      refine tkS (i := 1) (v := (.pointer (some ⟨lb, 0, none⟩))) rfl (Or.inl ⟨by rfl, fun w' hq => by go_simp⟩) k0 ?_
      simp only [Act.put, skA, skB, skC]
      refine tkS (i := 2) (v := (.pointer (some ⟨lb, 0, none⟩))) rfl (Or.inl ⟨by rfl, fun w' hq => by go_simp⟩) k0 ?_
      simp only [Act.put, skA, skB, skC]
      refine tkS (i := 3) (v := (.pointer (some ⟨db, 0, none⟩))) rfl (Or.inl ⟨by rfl, fun w' hq => by have cc := (hq.cell hl1 (fun q => q)).trans hlC; go_simp⟩) k0 ?_
      simp only [Act.put, skA, skB, skC]
      refine tkS (i := 4) (v := (.int .i64 n)) rfl (Or.inl ⟨by rfl, fun w' hq => by have cc := (hq.cell hl2 (fun q => q)).trans hnC; go_simp⟩) k0 ?_
      simp only [Act.put, skA, skB, skC]
      refine wpAnyH_ready (rs := [5, 9]) (by kernel_rfl) (by simp) ?_
      refine AllReadyH.callR (fun y W' => y = .tuple #[.agg JP, .int .i64 JE] ∧ Kp NoB V0 W') rfl (by rfl) 11 #[ptrV db, .int .i64 n] (by first | (go_simp; done) | (go_simp; rfl)) (fun _ _ q => k0.trans q.2 (fun _ _ z => z)) ((page_q ((HQ.out.keep (HKW.out)).keep k0) n HN.out).mono (by rintro e w19 ⟨rfl, hk⟩; exact ⟨_, rfl, by rw [HJP.out, HJE.out], hk⟩)) ?_ ?_
      · rintro y V1 ⟨rfl, kk1⟩
        have k1 := k0.trans kk1 (fun _ _ z => z)
        simp only [Act.put, skA, skB, skC]
        refine tkS (i := 6) (v := .tuple #[.agg JP, .int .i64 JE]) rfl (Or.inl ⟨by rfl, fun w' hq => by go_simp⟩) k1 ?_
        simp only [Act.put, skA, skB, skC]
        refine tkS (i := 7) (v := (.agg JP)) rfl (Or.inl ⟨by rfl, fun w' hq => by go_simp⟩) k1 ?_
        simp only [Act.put, skA, skB, skC]
        refine tkS (i := 8) (v := (.int .i64 JE)) rfl (Or.inl ⟨by rfl, fun w' hq => by go_simp⟩) k1 ?_
        simp only [Act.put, skA, skB, skC]
        refine wpAnyH_ready (rs := [9]) (by kernel_rfl) (by simp) ?_
        refine AllReadyH.valR (fun W' => W' = V1.alloc (.cells zero256 24)) rfl (by rfl) _ _ (alloc26 V1 _ _ _ _ _ _) (fun W' e => by rw [e]; exact k1.alloc _) rfl ?_ AllReadyH.nil
        rintro _ rfl
        have hb4 : Blk (V1.alloc (.cells zero256 24)) V1.heap.size 24 zero256 := Blk.new _ _ _
        have k2 : Kp NoB W (V1.alloc (.cells zero256 24)) := k1.alloc _
        have hg4 : W.heap.size ≤ V1.heap.size := k1.size
        generalize V1.alloc (.cells zero256 24) = V2 at hb4 k2 ⊢
        generalize V1.heap.size = g4 at hb4 hg4 ⊢
        simp only [Act.put, skA, skB, skC]
        refine wpAnyH_ready (rs := [10]) (by kernel_rfl) (by simp) ?_
        have hbe := hb4.whole JP (by rw [JPS.out, zero256_eq, bytesV_size]; rfl)
        have hkc : Kp NoB W (V2.setCells g4 0 JP.toList) := Kp.setCells (S := NoB) (.inl hg4) _ _ _ k2
        refine AllReadyH.storeL rfl (by rfl) g4 0 JP rfl rfl (hb4.thereAll _ (by rw [JPS.out, zero256_eq, bytesV_size]; rfl)) (by rw [JPS.out]; exact info26) JPO.out hkc ?_ AllReadyH.nil
        generalize V2.setCells g4 0 JP.toList = W9 at hbe hkc ⊢
        refine tkS (i := 11) (v := (.int .i64 JE)) rfl (Or.inl ⟨by rfl, fun w' hq => by go_simp⟩) hkc ?_
        simp only [Act.put, skA, skB, skC]
        refine wpAnyH_done (by kernel_rfl) ?_ _
        exact intoG_of g4 ⟨hbe, hkc⟩ rfl
      · refine AllReadyH.valR (fun W' => W' = V0.alloc (.cells zero256 24)) rfl (by rfl) _ _ (alloc26 V0 _ _ _ _ _ _) (fun W' e => by rw [e]; exact k0.alloc _) rfl ?_ AllReadyH.nil
        rintro _ rfl
        have hb4 : Blk (V0.alloc (.cells zero256 24)) V0.heap.size 24 zero256 := Blk.new _ _ _
        have k1 : Kp NoB W (V0.alloc (.cells zero256 24)) := k0.alloc _
        have hg4 : W.heap.size ≤ V0.heap.size := k0.size
        generalize V0.alloc (.cells zero256 24) = V1 at hb4 k1 ⊢
        generalize V0.heap.size = g4 at hb4 hg4 ⊢
        simp only [Act.put, skA, skB, skC]
        refine wpAnyH_ready (rs := [5]) (by kernel_rfl) (by simp) ?_
        refine AllReadyH.callR (fun y W' => y = .tuple #[.agg JP, .int .i64 JE] ∧ Kp NoB V1 W') rfl (by rfl) 11 #[ptrV db, .int .i64 n] (by first | (go_simp; done) | (go_simp; rfl)) (fun _ _ q => k1.trans q.2 (fun _ _ z => z)) ((page_q ((HQ.out.keep (HKW.out)).keep k1) n HN.out).mono (by rintro e w19 ⟨rfl, hk⟩; exact ⟨_, rfl, by rw [HJP.out, HJE.out], hk⟩)) ?_ AllReadyH.nil
        rintro y V2 ⟨rfl, kk2⟩
        have k2 := k1.trans kk2 (fun _ _ z => z)
        have hb4 := hb4.keep kk2 (fun q => q)
        simp only [Act.put, skA, skB, skC]
        refine tkS (i := 6) (v := .tuple #[.agg JP, .int .i64 JE]) rfl (Or.inl ⟨by rfl, fun w' hq => by go_simp⟩) k2 ?_
        simp only [Act.put, skA, skB, skC]
        refine tkS (i := 7) (v := (.agg JP)) rfl (Or.inl ⟨by rfl, fun w' hq => by go_simp⟩) k2 ?_
        simp only [Act.put, skA, skB, skC]
        refine tkS (i := 8) (v := (.int .i64 JE)) rfl (Or.inl ⟨by rfl, fun w' hq => by go_simp⟩) k2 ?_
        simp only [Act.put, skA, skB, skC]
        refine wpAnyH_ready (rs := [10]) (by kernel_rfl) (by simp) ?_
        have hbe := hb4.whole JP (by rw [JPS.out, zero256_eq, bytesV_size]; rfl)
        have hkc : Kp NoB W (V2.setCells g4 0 JP.toList) := Kp.setCells (S := NoB) (.inl hg4) _ _ _ k2
        refine AllReadyH.storeL rfl (by rfl) g4 0 JP rfl rfl (hb4.thereAll _ (by rw [JPS.out, zero256_eq, bytesV_size]; rfl)) (by rw [JPS.out]; exact info26) JPO.out hkc ?_ AllReadyH.nil
        generalize V2.setCells g4 0 JP.toList = W9 at hbe hkc ⊢
        refine tkS (i := 11) (v := (.int .i64 JE)) rfl (Or.inl ⟨by rfl, fun w' hq => by go_simp⟩) hkc ?_
        simp only [Act.put, skA, skB, skC]
        refine wpAnyH_done (by kernel_rfl) ?_ _
        exact intoG_of g4 ⟨hbe, hkc⟩ rfl
    rintro g9 W9 ⟨hb9, hk9⟩
    have t9 := hb9.thereAll 256 JPS.out
    have r9 := hb9.readAll 256 JPS.out
    have o9 := JPO.out
    have s9 := JPS.out
    have hP9 := (HP.out.keep HI.out.2 (fun q => q)).keep hk9 (fun q => q)
    have tp := hP9.thereAll 256 (by rw [zero256_eq, bytesV_size]; rfl)
    have HP9 := Lib.hid hP9
    have HK9 := Lib.hid (HKW.out.trans hk9 (fun _ _ q => q))
    have HD9 : Hid (W9.heap[D]? = some (.deferred (some []))) := Lib.hid ((hk9.block D (lt_of_heap HK.out) (fun q => q)).trans HK.out)
    clear hb9 hk9 hP9
    gi_wp2
    have hD9 : (W9.setCells (s0 + 1) 0 JP.toList).heap[D]? = some (.deferred (some [])) := by
      have kk : Kp (OnB (s0 + 1)) W9 (W9.setCells (s0 + 1) 0 JP.toList) := Kp.setCells (S := OnB (s0 + 1)) (g := s0 + 1) (.inr rfl) _ _ _ (Kp.refl _ _)
      exact (kk.block D (lt_of_heap HD9.out) (by have := HSZ.out; have := HD.out; unfold OnB; omega)).trans HD9.out
    have hbp := HP9.out.whole JP (by rw [JPS.out, zero256_eq, bytesV_size]; rfl)
    have hbp2 := blkOwn hbp (grownBy_putObj' _ D (.deferred none)) (fun r e => by cases e; exact ⟨_, hD9, rfl⟩)
    refine leaveM hD9 (ret_cell1 rfl _ _ _ _ _ _ rfl hbp2 Try.underlying24 rfl (by rw [JPS.out]; exact info26)) ⟨by rw [HRJ.out], ?_⟩
    exact (Kp.setCells (.inl (by have := HS0.out; omega)) _ _ _ HK9.out).grownBy (grownBy_putObj' _ D _) (fun r e => by cases e; have := HS0.out; have := HSZ.out; have := HD.out; omega)
  case stop =>
    rintro D c pre W hD ⟨k, hk, rfl⟩ ⟨rfl, h1, h2⟩ hK
    obtain ⟨pre', x, he, h3, h4, hb⟩ := h1
    obtain ⟨hx, hj⟩ : x < m ∧ ∀ j, j < x → (frK fs m j).n ≠ n := by
      cases k with
      | zero => exact absurd (congrArg List.length he) (by simp)
      | succ k =>
        rw [List.range_succ] at he
        obtain ⟨e1, e2⟩ := List.append_inj' he rfl
        injection e2 with e2
        subst e2 e1
        exact ⟨by omega, fun j hj => h3 j (List.mem_range.2 hj)⟩
    have hpg : RP = bytesV (frK fs m x).b := by
      rw [← HRP.out]
      unfold wpage
      rw [Int.toNat_natCast, lastFr_at fs m x n HM.out hx hj h4]
      rfl
    rw [← hpg] at hb
    have HPL : Hid (RP.size = 256) := Lib.hid (by rw [hpg, bytesV_size, (HOK.out (by omega) x).len])
    have HB := Lib.hid hb
    have HK := Lib.hid hK
    have HD := Lib.hid hD
    have H2 := Lib.hid h2
    clear hb hK hD h2 hpg
    gi_wp2
    have hbp2 := blkOwn HB.out (grownBy_putObj' _ D (.deferred none)) (fun r e => by cases e; exact ⟨_, HK.out, rfl⟩)
    refine leaveM HK.out (ret_cell1 rfl _ _ _ _ _ _ rfl hbp2 Try.underlying24 rfl (by rw [HPL.out]; exact info26)) ⟨rfl, ?_⟩
    have hkw : Kp (OnB (s0 + 1)) w2 (W.putObj D (.deferred none)) := H2.out.grownBy (grownBy_putObj' _ D _) (fun r e => by cases e; exact HD.out)
    exact HK2.out.trans hkw (fun b hb q => by have := HS0.out; unfold OnB at q; omega)
end Go.Proofs.Ytegcbdfilkecpaa
/- The log asked for a page; condition: a disk. -/
namespace Go.Proofs.Ytegcbdfilkecpaa
open Go.RowKit

namespace Pl
def wpg (p : Pl) (m n : Int) : List Int × Int := if p.wopen.1 ≠ 0 then (zeros 256, p.wopen.1) else if isMark p.wopen.2 m = false then (zeros 256, 4) else if n < 1 ∨ wcount p p.wopen.2 m < n then (zeros 256, 4) else (wpage p p.wopen.2 m n, 0)
end Pl
theorem mark_nat {fs : List Fr} {m : Int} (h : isMark fs m = true) : ∃ k : Nat, m = k ∧ k ≤ fs.length := by
  rcases mark_cases fs m with rfl | hm | hm | ⟨i, hi, rfl⟩
  · exact ⟨0, rfl, Nat.zero_le _⟩
  · unfold isMark at h
    rw [decide_eq_false (by omega), decide_eq_false (by omega)] at h
    cases h
  · unfold isMark at h
    rw [decide_eq_false (by omega), decide_eq_false (by omega)] at h
    cases h
  · exact ⟨i + 1, rfl, hi⟩
theorem frs_ok {l : List Int} (hl : ∀ y ∈ l, 0 ≤ y ∧ y < 256) {p : Pl} (he : p.wopen.1 = 0) (hs : p.seen nmWal = l) : ∀ f ∈ p.wopen.2, FrOk f := by
  revert he
  unfold Pl.wopen
  split
  · intro he; cases he
  · split
    · intro he; cases he
    · cases hf : frsAt (p.seen nmWal) p.whead.a.toNat with
      | none => intro he; cases he
      | some g =>
        dsimp only
        split
        · intro he; cases he
        · intro _
          exact frsAt_ok (by rw [hs]; exact hl) hf
theorem wpage_len {fs : List Fr} (hok : ∀ f ∈ fs, FrOk f) (p : Pl) (m n : Int) : (wpage p fs m n).length = 256 := by
  unfold wpage
  split
  · rename_i f hf
    exact (hok f (List.mem_of_mem_take (List.mem_reverse.1 (List.mem_of_find?_eq_some hf)))).len
  · unfold Pl.jpage
    split
    · exact sizedF_len _ _
    · exact zeros256
section
variable {S : Nat → Prop} {W0 w : World} {db : Nat} {p : Pl}
attribute [local go_sem ↓] load26 store26 alloc26 build26
set_option maxRecDepth 100000 in
set_option maxHeartbeats 1600000 in
theorem wpg_q (h : Dq S W0 w db p) (m n : Int) (hn : -9223372036854775808 ≤ n ∧ n ≤ 9223372036854775807) :
    Calls Try.prog 44 #[ptrV db, .int .i64 m, .int .i64 n] w fun e w' => e = .returned (.tuple #[.agg (bytesV (p.wpg m n).1), .int .i64 (p.wpg m n).2]) ∧ Kp NoB w w' := by
  have H := Lib.hid h
  have HN := Lib.hid hn
  have HB0 := Lib.hid (Blk.new w 24 zero256)
  have HK0 := Lib.hid ((Kp.refl NoB w).alloc (.cells zero256 24))
  have oz : ones zero256 := by rw [zero256_eq]; exact bytesV_one _
  have sz : zero256.size = 256 := by rw [zero256_eq, bytesV_size]; rfl
  have HSZ := Lib.hid sz
  have HZ : Hid (bytesV (zeros 256) = zero256) := Lib.hid zero256_eq.symm
  obtain ⟨RP, hRP⟩ : ∃ RP, bytesV (p.wpg m n).1 = RP := ⟨_, rfl⟩
  obtain ⟨RE, hRE⟩ : ∃ RE, (p.wpg m n).2 = RE := ⟨_, rfl⟩
  rw [hRP, hRE]
  have HRP := Lib.hid hRP
  have HRE := Lib.hid hRE
  clear h hn hRP hRE
  unfold ptrV
  go_enter Try.func44, Try.ntmps44
  go_wp2_with fail
  refine (show Calls _ _ #[ptrV db, .int .i64 m] _ _ from asked_q (H.out.keep HK0.out) m).mono ?_
  rintro e w1 (⟨he, rfl, hk⟩ | ⟨he, lb, A, c, rfl, hl, hg, hk⟩)
  · have HK := Lib.hid hk
    have HE : Hid (RP = zero256 ∧ RE = p.wopen.1) := Lib.hid (by
      have e1 : p.wpg m n = (zeros 256, p.wopen.1) := by unfold Pl.wpg; rw [if_pos he]
      rw [← HRP.out, ← HRE.out, e1]
      exact ⟨HZ.out, rfl⟩)
    have he1 : (p.wopen.1 == 0) = false := by simpa using he
    have he2 : (p.wopen.1 != 0) = true := by simpa using he
    obtain ⟨e0, q0⟩ : ∃ e0, p.wopen.1 = e0 := ⟨_, rfl⟩
    rw [q0] at he1 he2 HE ⊢
    have hb2 := HB0.out.keep hk (fun q => q)
    have HB2 := Lib.hid hb2
    have t2 : w1.there w.heap.size 0 256 := hb2.thereAll 256 HSZ.out
    clear hk he q0 hb2
    go_wp2_with fail
    refine bodyPost_ret (ret_cell_tmp rfl _ _ _ _ _ _ rfl (HB2.out.whole zero256 rfl) Try.underlying24 rfl (by rw [HSZ.out]; exact info26) _ rfl) rfl ⟨by rw [HE.out.1, HE.out.2]; rfl, ?_⟩
    exact Kp.setCells (.inl (Nat.le_refl _)) _ _ _ (HK0.out.trans HK.out (fun _ _ q => q))
  · have HK := Lib.hid hk
    have HL := Lib.hid hl
    have HE0 := Lib.hid he
    have hb2 := HB0.out.keep hk (fun q => q)
    have HB2 := Lib.hid hb2
    have t2 : w1.there w.heap.size 0 256 := hb2.thereAll 256 HSZ.out
    cases hmk : isMark p.wopen.2 m with
    | false =>
      have HE : Hid (RP = zero256 ∧ RE = 4) := Lib.hid (by
        have e1 : p.wpg m n = (zeros 256, 4) := by unfold Pl.wpg; rw [if_neg (by rw [he]; simp), if_pos hmk]
        rw [← HRP.out, ← HRE.out, e1]
        exact ⟨HZ.out, rfl⟩)
      rw [if_neg (by simp)]
      clear hk hl he hg hmk hb2
      go_wp2_with fail
      refine bodyPost_ret (ret_cell_tmp rfl _ _ _ _ _ _ rfl (HB2.out.whole zero256 rfl) Try.underlying24 rfl (by rw [HSZ.out]; exact info26) _ rfl) rfl ⟨by rw [HE.out.1, HE.out.2]; rfl, ?_⟩
      exact Kp.setCells (.inl (Nat.le_refl _)) _ _ _ (HK0.out.trans HK.out (fun _ _ q => q))
    | true =>
      rw [if_pos rfl]
      by_cases h1 : n < 1
      · have HE : Hid (RP = zero256 ∧ RE = 4) := Lib.hid (by
          have e1 : p.wpg m n = (zeros 256, 4) := by unfold Pl.wpg; rw [if_neg (by rw [he]; simp), if_neg (by rw [hmk]; simp), if_pos (.inl h1)]
          rw [← HRP.out, ← HRE.out, e1]
          exact ⟨HZ.out, rfl⟩)
        clear hk hl he hg hmk hb2
        go_wp2_with fail
        refine bodyPost_ret (ret_cell_tmp rfl _ _ _ _ _ _ rfl (HB2.out.whole zero256 rfl) Try.underlying24 rfl (by rw [HSZ.out]; exact info26) _ rfl) rfl ⟨by rw [HE.out.1, HE.out.2]; rfl, ?_⟩
        exact Kp.setCells (.inl (Nat.le_refl _)) _ _ _ (HK0.out.trans HK.out (fun _ _ q => q))
      · have HM := Lib.hid hmk
        by_cases h2 : wcount p p.wopen.2 m < n
        · have HE : Hid (RP = zero256 ∧ RE = 4) := Lib.hid (by
            have e1 : p.wpg m n = (zeros 256, 4) := by unfold Pl.wpg; rw [if_neg (by rw [he]; simp), if_neg (by rw [hmk]; simp), if_pos (.inr h2)]
            rw [← HRP.out, ← HRE.out, e1]
            exact ⟨HZ.out, rfl⟩)
          clear hk hl he hg hmk hb2
          go_wp2_with fail
          refine (wcount_q ((H.out.keep HK0.out).keep HK.out) HL.out m HM.out).mono ?_
          rintro e w3 ⟨rfl, rfl⟩
          generalize wcount p p.wopen.2 m = J at h2 ⊢
          go_wp2_with fail
          refine bodyPost_ret (ret_cell_tmp rfl _ _ _ _ _ _ rfl (HB2.out.whole zero256 rfl) Try.underlying24 rfl (by rw [HSZ.out]; exact info26) _ rfl) rfl ⟨by rw [HE.out.1, HE.out.2]; rfl, ?_⟩
          exact Kp.setCells (.inl (Nat.le_refl _)) _ _ _ (HK0.out.trans HK.out (fun _ _ q => q))
        · have e1 : p.wpg m n = (wpage p p.wopen.2 m n, 0) := by unfold Pl.wpg; rw [if_neg (by rw [he]; simp), if_neg (by rw [hmk]; simp), if_neg (by omega)]
          have HE : Hid (RP = bytesV (wpage p p.wopen.2 m n) ∧ RE = 0) := Lib.hid (by
            rw [← HRP.out, ← HRE.out, e1]
            exact ⟨rfl, rfl⟩)
          have HPS : Hid (RP.size = 256) := Lib.hid (by rw [HE.out.1, bytesV_size, wpage_len (frs_ok (H.out.seen_rng nmWal) he rfl)])
          have HPO : Hid (ones RP) := Lib.hid (by rw [HE.out.1]; exact bytesV_one _)
          clear hk hl he hg hmk hb2 e1
          go_wp2_with fail
          refine (wcount_q ((H.out.keep HK0.out).keep HK.out) HL.out m HM.out).mono ?_
          rintro e w3 ⟨rfl, rfl⟩
          obtain ⟨J, hJ⟩ : ∃ J, wcount p p.wopen.2 m = J := ⟨_, rfl⟩
          rw [hJ] at h2 ⊢
          clear hJ
          go_wp2_with fail
          obtain ⟨k, hk, hkl⟩ := mark_nat HM.out
          have hcall := wlpage_q ((H.out.keep HK0.out).keep HK.out) HL.out k hkl n HN.out
          rw [← hk, ← HE.out.1] at hcall
          refine hcall.mono ?_
          clear hcall hk hkl
          rintro e w4 ⟨rfl, hk4⟩
          have hb4 := HB2.out.keep hk4 (fun q => q)
          have HB4 := Lib.hid hb4
          have t4 : w4.there w.heap.size 0 256 := hb4.thereAll 256 HSZ.out
          have HK4 := Lib.hid hk4
          have o4 := HPO.out
          have s4 := HPS.out
          clear hk4 hb4
          go_wp2_with fail
          refine bodyPost_ret (ret_cell_tmp rfl _ _ _ _ _ _ rfl (HB4.out.whole RP (by rw [HPS.out, HSZ.out])) Try.underlying24 rfl (by rw [HPS.out]; exact info26) _ rfl) rfl ⟨by rw [HE.out.2]; rfl, ?_⟩
          exact Kp.setCells (.inl (Nat.le_refl _)) _ _ _ ((HK0.out.trans HK.out (fun _ _ q => q)).trans HK4.out (fun _ _ q => q))
end
end Go.Proofs.Ytegcbdfilkecpaa
