/- The stand-in disk: changes cloned, and those of one file struck; no condition but on the counts. -/
import Derived.Test.YtdgjglocgdccbaaDkTrunc
import Derived.Lib.SliceRun
namespace Go.Proofs.Ytdgjglocgdccbaa
open Go.RowKit

theorem cgCells_split (pd : List Cg) (i : Nat) (hi : i < pd.length) : cgCells pd = cgCells (pd.take i) ++ cgL pd[i].nm pd[i].sec pd[i].n (pad64 pd[i].s) ++ cgCells (pd.drop (i + 1)) := by
  have e : pd = pd.take i ++ pd[i] :: pd.drop (i + 1) := by simp
  conv => lhs; rw [e]
  unfold cgCells cgL
  rw [List.flatMap_append, List.flatMap_cons]
  simp only [List.append_assoc, List.cons_append]
theorem cgL_len (c : Cg) (h : CgOk c) : (cgL c.nm c.sec c.n (pad64 c.s)).length = 67 := by unfold cgL; simp [h.pad]
theorem cg_at {w : World} {g : Nat} {pd : List Cg} {ds : List Value} (h : Blk w g 79 (cgCells pd ++ ds).toArray) (hok : ∀ c ∈ pd, CgOk c) (i : Nat) (hi : i < pd.length) :
    w.there g (i * 67) 67 ∧ readRow w g (i * 67) 67 = cgA pd[i].nm pd[i].sec pd[i].n (pad64 pd[i].s) := by
  have hl : (cgCells (pd.take i)).length = i * 67 := by
    rw [cgCells_len _ (fun c hc => hok c (List.mem_of_mem_take hc)), List.length_take, Nat.min_eq_left (by omega)]
  have hc := cgL_len pd[i] (hok _ (List.getElem_mem hi))
  rw [cgCells_split pd i hi, List.append_assoc] at h
  refine ⟨h.there (by simp [hl, hc]), ?_⟩
  rw [h.read (i * 67) 67 hl hc]
  rfl
theorem cgA_toList (s : ByteArray) (sec n : Int) (l : List Int) : (cgA s sec n l).toList = cgL s sec n l := rfl
theorem cg_put {w : World} {g : Nat} {pd : List Cg} {ds : List Value} (h : Blk w g 79 (cgCells pd ++ ds).toArray) (hok : ∀ c ∈ pd, CgOk c) (i : Nat) (hi : i < pd.length) (c : Cg) (hc : CgOk c) :
    Blk (w.setCells g (i * 67) (cgA c.nm c.sec c.n (pad64 c.s)).toList) g 79 (cgCells (pd.set i c) ++ ds).toArray := by
  have hl : (cgCells (pd.take i)).length = i * 67 := by
    rw [cgCells_len _ (fun c hc => hok c (List.mem_of_mem_take hc)), List.length_take, Nat.min_eq_left (by omega)]
  have hc1 := cgL_len pd[i] (hok _ (List.getElem_mem hi))
  rw [cgCells_split pd i hi, List.append_assoc] at h
  have h2 := h.cellsL (xs := (cgA c.nm c.sec c.n (pad64 c.s)).toList) (i * 67) hl (by rw [cgA_toList, cgL_len c hc, hc1])
  have e : cgCells (pd.set i c) = cgCells (pd.take i) ++ cgL c.nm c.sec c.n (pad64 c.s) ++ cgCells (pd.drop (i + 1)) := by
    rw [cgCells_split (pd.set i c) i (by simpa using hi)]
    simp [List.take_set_of_le, List.drop_set]
  rw [e, List.append_assoc]
  exact h2
def CClPost (w : World) (pd : List Cg) (e : Ending) (w' : World) : Prop := ∃ A cap, e = .returned (.slice A pd.length cap) ∧ w'.ownsRow w.heap.size 79 67 (.slice A pd.length cap) pd.length (cgCells pd) ∧ Kp NoB w w'
theorem cgEqN (w : World) : (binOp .eql 62 (.slice none 0 0) (.slice none 0 0)).run Try.prog w = .ok (.bool true) w := by kernel_rfl
theorem cgEqS (a : Addr) (m c : Nat) (w : World) : (binOp .eql 62 (.slice (some a) m c) (.slice none 0 0)).run Try.prog w = .ok (.bool false) w := by kernel_rfl
theorem cg_one (pd : List Cg) : ∀ u ∈ cgCells pd, u.oneCell' = true := by
  intro u hu
  unfold cgCells at hu
  obtain ⟨c, _, hc⟩ := List.mem_flatMap.1 hu
  exact cgA_one c.nm c.sec c.n (pad64 c.s) u hc
set_option maxRecDepth 100000 in
set_option maxHeartbeats 800000 in
theorem cloneCg_ok (w : World) (n0 : Nat) (A : Option Addr) (m cap : Nat) (pd : List Cg) (hm : pd.length = m) (hl : m < 1099511627776) (hok : ∀ c ∈ pd, CgOk c) (h : w.ownsRow n0 79 67 (.slice A m cap) m (cgCells pd)) :
    Calls Try.prog 38 #[.slice A m cap] w (CClPost w pd) := by
  obtain ⟨j0, hj0, hy0, hy1, hy2⟩ := info_parts infoCg
  have HJ0 := Lib.hid hj0
  have HY0 := Lib.hid hy0
  have HY1 := Lib.hid hy1
  have HY2 := Lib.hid hy2
  have H := Lib.hid h
  have HL := Lib.hid hl
  have HM := Lib.hid hm
  have HOK := Lib.hid hok
  have qn := cgEqN
  have qs := cgEqS
  rcases own_form h with ⟨rfl, rfl, rfl⟩ | ⟨g, rfl⟩
  · obtain rfl : pd = [] := List.eq_nil_of_length_eq_zero hm
    clear h hl hj0 hy0 hy1 hy2 hm hok
    go_enter Try.func38, Try.ntmps38
    go_wp2_with fail
    go_ret
    exact ⟨none, 0, rfl, World.ownsRow_nil _ _ _ _, Kp.refl _ _⟩
  · have HOWN : Hid ((w.alloc (.cells #[] 79)).ownsRow w.heap.size 79 67 (.slice (some ⟨w.heap.size, 0, none⟩) 0 0) 0 []) := Lib.hid ⟨rfl, .inr ⟨w.heap.size, 0, #[], rfl, Nat.le_refl _, heap_alloc_new _ _, Nat.le_refl _, by simp, rfl, rfl⟩⟩
    have HLEN : Hid ((cgCells pd).length = m * 67) := Lib.hid (by rw [cgCells_len pd hok, hm])
    have HSRC : Hid (∀ j u, (cgCells pd)[j]? = some u → (w.alloc (.cells #[] 79)).cell? ⟨g, 0 + j, none⟩ = some u) := Lib.hid (by
      intro j u hj
      have hc := h.cells (g := g) rfl j u hj
      rw [add_mk] at hc
      have hlt : g < w.heap.size := (h.lt g rfl).2
      rw [← hc]
      exact ((Kp.refl NoB w).alloc _).cell hlt (fun q => q))
    clear h hl hj0 hy0 hy1 hy2 hm hok
    go_enter Try.func38, Try.ntmps38
    go_wp2_with (at_builtin; refine wpList_append_srcN rfl _ _ 62 rfl w.heap.size 79 j0 _ 67 96 Try.underlying62 HJ0.out HY0.out HY1.out HY2.out rfl (by omega) _ 0 [] rfl HOWN.out (some ⟨g, 0, none⟩) m cap (cgCells pd) rfl (by simp) HLEN.out (fun _ => ⟨g, 0, rfl, HSRC.out⟩) (cg_one pd) (by have := HL.out; unfold maxLen; omega) (by have := HL.out; omega) (by simp) ?_; intro v1 w1 hown1 hgrow1; rw [Nat.zero_add, List.nil_append] at hown1; obtain ⟨B, c, rfl⟩ := own_slice hown1; have HO1 := Lib.hid hown1; have HK1 := Lib.hid (((Kp.refl NoB w).alloc _).own (v := .slice (some ⟨w.heap.size, 0, none⟩) 0 0) hgrow1 rfl HOWN.out); clear hown1 hgrow1)
    go_ret
    exact ⟨B, c, by rw [HM.out]; rfl, by rw [HM.out]; exact HO1.out, HK1.out⟩
/-- the name is another one -/
def notB (s : ByteArray) (c : Cg) : Bool := !decide (c.nm = s)
theorem str_eqB (a b : ByteArray) : (a.toList == b.toList) = decide (a = b) := by
  by_cases h : a = b
  · subst h; simp
  · rw [decide_eq_false h]
    have h2 : a.toList ≠ b.toList := by
      rw [ByteArray.toList_eq, ByteArray.toList_eq]
      intro q
      apply h
      cases a; cases b
      simp at q
      rw [q]
    simpa using h2
attribute [local go_sem ↓] exBuildCg2 exSliceCg loadCg storeCg allocCg
set_option maxRecDepth 100000 in
set_option maxHeartbeats 800000 in
theorem sync1_ok (w : World) (B : Nat) (s nm : ByteArray) (sec n : Int) (l : List Int) (hl : l.length = 64) (hB : w.cell? ⟨B, 0, none⟩ = some (.string s)) :
    Calls Try.prog 39 #[.agg (cgA nm sec n l), .pointer (some ⟨B, 0, none⟩)] w fun e w' => e = .returned (.bool (decide (nm = s))) ∧ Kp NoB w w' := by
  have hb := Blk.new w 79 (cgA nm sec n l)
  have c0 : (w.alloc (.cells (cgA nm sec n l) 79)).cell? ⟨w.heap.size, 0, none⟩ = some (.string nm) := by rw [hb.cell]; rfl
  have c1 : (w.alloc (.cells (cgA nm sec n l) 79)).cell? ⟨B, 0, none⟩ = some (.string s) := by
    rw [((Kp.refl NoB w).alloc _).cell (block_lt_of_cell hB) (fun q => q)]; exact hB
  have sb := str_eqB nm s
  clear hb hB hl
  go_enter Try.func39, Try.ntmps39
  go_wp2_with fail
  go_ret
  exact ⟨rfl, (Kp.refl NoB w).alloc _⟩
end Go.Proofs.Ytdgjglocgdccbaa
