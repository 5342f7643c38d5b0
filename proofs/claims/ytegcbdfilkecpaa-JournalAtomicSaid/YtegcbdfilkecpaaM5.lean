/- Texts of this proof, one behind the other: lemmas and contracts; each says its own conditions. -/
import Derived.Test.YtegcbdfilkecpaaM4
import Derived.Lib.SliceRun
/- The stand-in disk: Truncate; no condition but on the texts' lengths and the counts. -/
namespace Go.Proofs.Ytegcbdfilkecpaa
open Go.RowKit

def TrPost (n0 : Nat) (w : World) (x : Dd) (p : Pl) (s : ByteArray) (n : Int) (e : Ending) (w' : World) : Prop := e = .returned (.int .i64 (p.truncE s n)) ∧ To n0 w x (p.trunc s n) w'
theorem To.step {n0 : Nat} {w w1 w2 : World} {x x1 : Dd} {p2 : Pl} (h1 : To n0 w1 x1 p2 w2) (d1 : x1.db = x.db) (k : Kp x.O w w1) (o : ∀ b, x1.O b → x.O b ∨ w.heap.size ≤ b) : To n0 w x p2 w2 := h1.trans d1 k o
set_option maxRecDepth 100000 in
set_option maxHeartbeats 800000 in
theorem trunc_ok (w : World) (n0 : Nat) (x : Dd) (p : Pl) (s : ByteArray) (n : Int) (hnn : -9223372036854775808 ≤ n ∧ n ≤ 9223372036854775807) (h : Dk n0 w x) (hp : Of x p) (hs : s.size ≤ maxLen) (hn0 : n0 ≤ w.heap.size)
    (hm : p.nf < 1099511627776 - 10) (hpd : p.pd.length < 1099511627776 - 20000) :
    Calls Try.prog 86 #[ptrV x.db, .string s, .int .i64 n] w (TrPost n0 w x p s n) := by
  have H := Lib.hid h
  have HP := Lib.hid hp
  have HS := Lib.hid hs
  have HN0 := Lib.hid hn0
  have HM := Lib.hid hm
  have HPD := Lib.hid hpd
  obtain ⟨db, hdb⟩ : ∃ db, x.db = db := ⟨_, rfl⟩
  have HX := Lib.hid hdb
  rw [hdb]
  rcases hdn : p.down with _ | _
  · have HDN := Lib.hid hdn
    clear h hp hs hn0 hm hpd hdb hdn
    unfold ptrV
    by_cases hneg : n < 0
    · have fin : Hid (TrPost n0 w x p s n (.returned (.int .i64 2)) w) := Lib.hid (by
        refine ⟨?_, ?_⟩
        · unfold Pl.truncE; rw [HDN.out, if_neg (by simp), if_pos hneg]
        · unfold Pl.trunc; rw [if_pos (.inr (.inl hneg))]; exact To.refl H.out HP.out)
      go_enter Try.func86, Try.ntmps86
      go_wp2_with (go_at_call 80; go_must (refine (show Calls _ _ #[ptrV db] _ _ by rw [← HX.out]; exact wrong_p _ n0 x p H.out HP.out false HDN.out).mono ?_); rintro e w2 ⟨rfl, rfl⟩)
      go_ret
      exact fin.out
    · have h0 : 0 ≤ n := by omega
      obtain ⟨f, hf⟩ : ∃ f, p.fits s n = f := ⟨_, rfl⟩
      have HF := Lib.hid hf
      by_cases hfz : f = 0
      · subst hfz
        have hle : n ≤ 1048576 := by
          have := HF.out
          unfold Pl.fits at this
          split at this
          · omega
          · omega
        obtain ⟨m, hm⟩ : ∃ m : Nat, n = m := ⟨n.toNat, by omega⟩
        have HMM := Lib.hid hm
        have h1 : Hid (m ≤ 1048576) := Lib.hid (by omega)
        clear hf hm
        go_enter Try.func86, Try.ntmps86
        go_wp2_with (first
          | (go_at_call 80; go_must (refine (show Calls _ _ #[ptrV db] _ _ by rw [← HX.out]; exact wrong_p _ n0 x p H.out HP.out false HDN.out).mono ?_); rintro e w2 ⟨rfl, rfl⟩)
          | (go_at_call 131; go_must (refine (show Calls _ _ #[ptrV db, .string s, .int .i64 _] _ _ by rw [← HX.out]; exact fits_ok _ n0 x p s n HS.out (by omega) H.out HP.out).mono ?_); rintro e w4 ⟨rfl, hk4⟩; rw [HF.out]; have HK4 := Lib.hid hk4; have HD4 := Lib.hid (H.out.keep hk4 (fun _ _ q => q) (fun _ _ _ q => q)); clear hk4)
          | (go_at_call 132; go_must (refine (show Calls _ _ #[ptrV db, .string s, .int .i64 n] _ _ by rw [← HX.out, HMM.out]; exact length_ok _ n0 x p s m HS.out (by have := HM.out; omega) (by have := HPD.out; omega) h1.out (Nat.le_trans HN0.out HK4.out.size) HD4.out HP.out).mono ?_); rintro e w5 ⟨rfl, x5, hd5, hp5, hx5, hk5, ho5⟩; have HD5 := Lib.hid hd5; have HP5 := Lib.hid hp5; have HX5 := Lib.hid hx5; have HK5 := Lib.hid hk5; have HO5 := Lib.hid ho5; clear hd5 hp5 hx5 hk5 ho5)
          | (go_at_call 130; go_must (refine (show Calls _ _ #[ptrV db] _ _ by rw [← HX.out, ← HX5.out]; exact step_p _ n0 x5 _ HD5.out HP5.out).mono ?_); rintro e w6 ⟨rfl, ht6⟩; have HT6 := Lib.hid ht6; clear ht6))
        go_ret
        have ecr : (p.length s m).crash = p.crash := by unfold Pl.length; split <;> rfl
        have hT := (HT6.out.trans HX5.out HK5.out HO5.out).quiet HK4.out H.out
        refine ⟨?_, ?_⟩
        · unfold Pl.truncE
          rw [HDN.out, if_neg (by simp), if_neg (by omega), HF.out, if_neg (by simp)]
          simp only [Pl.stepE, ecr]
          rfl
        · unfold Pl.trunc
          rw [HDN.out, HF.out, if_neg (by simp; omega), show n.toNat = m by have := HMM.out; omega]
          exact hT
      · have HFZ := Lib.hid hfz
        have hfb : (f != 0) = true := by simpa using hfz
        have hfb2 : (f == 0) = false := by simpa using hfz
        clear hf hfz
        go_enter Try.func86, Try.ntmps86
        go_wp2_with (first
          | (go_at_call 80; go_must (refine (show Calls _ _ #[ptrV db] _ _ by rw [← HX.out]; exact wrong_p _ n0 x p H.out HP.out false HDN.out).mono ?_); rintro e w2 ⟨rfl, rfl⟩)
          | (go_at_call 131; go_must (refine (show Calls _ _ #[ptrV db, .string s, .int .i64 _] _ _ by rw [← HX.out]; exact fits_ok _ n0 x p s n HS.out (by omega) H.out HP.out).mono ?_); rintro e w4 ⟨rfl, hk4⟩; rw [HF.out]; have HK4 := Lib.hid hk4; have HD4 := Lib.hid (H.out.keep hk4 (fun _ _ q => q) (fun _ _ _ q => q)); clear hk4))
        go_ret
        refine ⟨?_, ?_⟩
        · unfold Pl.truncE
          rw [HDN.out, if_neg (by simp), if_neg (by omega), HF.out, if_pos HFZ.out]
          rfl
        · unfold Pl.trunc
          rw [HF.out, if_pos (.inr (.inr HFZ.out))]
          exact (To.refl HD4.out HP.out).quiet HK4.out H.out
  · have HDN := Lib.hid hdn
    have fin : Hid (TrPost n0 w x p s n (.returned (.int .i64 7)) w) := Lib.hid (by
      refine ⟨?_, ?_⟩
      · unfold Pl.truncE; rw [HDN.out]; rfl
      · unfold Pl.trunc; rw [HDN.out, if_pos (.inl rfl)]; exact To.refl H.out HP.out)
    clear h hp hs hn0 hm hpd hdb hdn
    unfold ptrV
    go_enter Try.func86, Try.ntmps86
    go_wp2_with (go_at_call 80; go_must (refine (show Calls _ _ #[ptrV db] _ _ by rw [← HX.out]; exact wrong_p _ n0 x p H.out HP.out true HDN.out).mono ?_); rintro e w2 ⟨rfl, rfl⟩)
    go_ret
    exact fin.out
end Go.Proofs.Ytegcbdfilkecpaa
/- The stand-in disk: changes cloned, and those of one file struck; no condition but on the counts. -/
namespace Go.Proofs.Ytegcbdfilkecpaa
open Go.RowKit

theorem cgCells_split (pd : List Cg) (i : Nat) (hi : i < pd.length) : cgCells pd = cgCells (pd.take i) ++ cgL pd[i].nm pd[i].sec pd[i].n (pad64 pd[i].s) ++ cgCells (pd.drop (i + 1)) := by
  have e : pd = pd.take i ++ pd[i] :: pd.drop (i + 1) := by simp
  conv => lhs; rw [e]
  unfold cgCells cgL
  rw [List.flatMap_append, List.flatMap_cons]
  simp only [List.append_assoc, List.cons_append]
theorem cgL_len (c : Cg) (h : CgOk c) : (cgL c.nm c.sec c.n (pad64 c.s)).length = 67 := by unfold cgL; simp [h.pad]
theorem cg_at {w : World} {g : Nat} {pd : List Cg} {ds : List Value} (h : Blk w g 148 (cgCells pd ++ ds).toArray) (hok : ∀ c ∈ pd, CgOk c) (i : Nat) (hi : i < pd.length) :
    w.there g (i * 67) 67 ∧ readRow w g (i * 67) 67 = cgA pd[i].nm pd[i].sec pd[i].n (pad64 pd[i].s) := by
  have hl : (cgCells (pd.take i)).length = i * 67 := by
    rw [cgCells_len _ (fun c hc => hok c (List.mem_of_mem_take hc)), List.length_take, Nat.min_eq_left (by omega)]
  have hc := cgL_len pd[i] (hok _ (List.getElem_mem hi))
  rw [cgCells_split pd i hi, List.append_assoc] at h
  refine ⟨h.there (by simp [hl, hc]), ?_⟩
  rw [h.read (i * 67) 67 hl hc]
  rfl
theorem cgA_toList (s : ByteArray) (sec n : Int) (l : List Int) : (cgA s sec n l).toList = cgL s sec n l := rfl
theorem cg_put {w : World} {g : Nat} {pd : List Cg} {ds : List Value} (h : Blk w g 148 (cgCells pd ++ ds).toArray) (hok : ∀ c ∈ pd, CgOk c) (i : Nat) (hi : i < pd.length) (c : Cg) (hc : CgOk c) :
    Blk (w.setCells g (i * 67) (cgA c.nm c.sec c.n (pad64 c.s)).toList) g 148 (cgCells (pd.set i c) ++ ds).toArray := by
  have hl : (cgCells (pd.take i)).length = i * 67 := by
    rw [cgCells_len _ (fun c hc => hok c (List.mem_of_mem_take hc)), List.length_take, Nat.min_eq_left (by omega)]
  have hc1 := cgL_len pd[i] (hok _ (List.getElem_mem hi))
  rw [cgCells_split pd i hi, List.append_assoc] at h
  have h2 := h.cellsL (xs := (cgA c.nm c.sec c.n (pad64 c.s)).toList) (i * 67) hl (by rw [cgA_toList, cgL_len c hc, hc1])
  have e : cgCells (pd.set i c) = cgCells (pd.take i) ++ cgL c.nm c.sec c.n (pad64 c.s) ++ cgCells (pd.drop (i + 1)) := by
    rw [cgCells_split (pd.set i c) i (by simpa using hi)]
    simp [List.take_set_of_le, List.drop_set]
  rw [e, List.append_assoc]
  exact h2
def CClPost (w : World) (pd : List Cg) (e : Ending) (w' : World) : Prop := ∃ A cap, e = .returned (.slice A pd.length cap) ∧ w'.ownsRow w.heap.size 148 67 (.slice A pd.length cap) pd.length (cgCells pd) ∧ Kp NoB w w'
theorem cgEqN (w : World) : (binOp .eql 119 (.slice none 0 0) (.slice none 0 0)).run Try.prog w = .ok (.bool true) w := by kernel_rfl
theorem cgEqS (a : Addr) (m c : Nat) (w : World) : (binOp .eql 119 (.slice (some a) m c) (.slice none 0 0)).run Try.prog w = .ok (.bool false) w := by kernel_rfl
theorem cg_one (pd : List Cg) : ∀ u ∈ cgCells pd, u.oneCell' = true := by
  intro u hu
  unfold cgCells at hu
  obtain ⟨c, _, hc⟩ := List.mem_flatMap.1 hu
  exact cgA_one c.nm c.sec c.n (pad64 c.s) u hc
set_option maxRecDepth 100000 in
set_option maxHeartbeats 800000 in
theorem cloneCg_ok (w : World) (n0 : Nat) (A : Option Addr) (m cap : Nat) (pd : List Cg) (hm : pd.length = m) (hl : m < 1099511627776) (hok : ∀ c ∈ pd, CgOk c) (h : w.ownsRow n0 148 67 (.slice A m cap) m (cgCells pd)) :
    Calls Try.prog 84 #[.slice A m cap] w (CClPost w pd) := by
  obtain ⟨j0, hj0, hy0, hy1, hy2⟩ := info_parts infoCg
  have HJ0 := Lib.hid hj0
  have HY0 := Lib.hid hy0
  have HY1 := Lib.hid hy1
  have HY2 := Lib.hid hy2
  have H := Lib.hid h
  have HL := Lib.hid hl
  have HM := Lib.hid hm
  have HOK := Lib.hid hok
  have qn := cgEqN
  have qs := cgEqS
  rcases own_form h with ⟨rfl, rfl, rfl⟩ | ⟨g, rfl⟩
  · obtain rfl : pd = [] := List.eq_nil_of_length_eq_zero hm
    clear h hl hj0 hy0 hy1 hy2 hm hok
    go_enter Try.func84, Try.ntmps84
    go_wp2_with fail
    go_ret
    exact ⟨none, 0, rfl, World.ownsRow_nil _ _ _ _, Kp.refl _ _⟩
  · have HOWN : Hid ((w.alloc (.cells #[] 148)).ownsRow w.heap.size 148 67 (.slice (some ⟨w.heap.size, 0, none⟩) 0 0) 0 []) := Lib.hid ⟨rfl, .inr ⟨w.heap.size, 0, #[], rfl, Nat.le_refl _, heap_alloc_new _ _, Nat.le_refl _, by simp, rfl, rfl⟩⟩
    have HLEN : Hid ((cgCells pd).length = m * 67) := Lib.hid (by rw [cgCells_len pd hok, hm])
    have HSRC : Hid (∀ j u, (cgCells pd)[j]? = some u → (w.alloc (.cells #[] 148)).cell? ⟨g, 0 + j, none⟩ = some u) := Lib.hid (by
      intro j u hj
      have hc := h.cells (g := g) rfl j u hj
      rw [add_mk] at hc
      have hlt : g < w.heap.size := (h.lt g rfl).2
      rw [← hc]
      exact ((Kp.refl NoB w).alloc _).cell hlt (fun q => q))
    clear h hl hj0 hy0 hy1 hy2 hm hok
    go_enter Try.func84, Try.ntmps84
    go_wp2_with (at_builtin; refine wpList_append_srcN rfl _ _ 119 rfl w.heap.size 148 j0 _ 67 96 Try.underlying119 HJ0.out HY0.out HY1.out HY2.out rfl (by omega) _ 0 [] rfl HOWN.out (some ⟨g, 0, none⟩) m cap (cgCells pd) rfl (by simp) HLEN.out (fun _ => ⟨g, 0, rfl, HSRC.out⟩) (cg_one pd) (by have := HL.out; unfold maxLen; omega) (by have := HL.out; omega) (by simp) ?_; intro v1 w1 hown1 hgrow1; rw [Nat.zero_add, List.nil_append] at hown1; obtain ⟨B, c, rfl⟩ := own_slice hown1; have HO1 := Lib.hid hown1; have HK1 := Lib.hid (((Kp.refl NoB w).alloc _).own (v := .slice (some ⟨w.heap.size, 0, none⟩) 0 0) hgrow1 rfl HOWN.out); clear hown1 hgrow1)
    go_ret
    exact ⟨B, c, by rw [HM.out]; rfl, by rw [HM.out]; exact HO1.out, HK1.out⟩
/-- the name is another one -/
def notB (s : ByteArray) (c : Cg) : Bool := !decide (c.nm = s)
theorem str_eqB (a b : ByteArray) : (a.toList == b.toList) = decide (a = b) := by
  by_cases h : a = b
  · subst h; simp
  · rw [decide_eq_false h]
    have h2 : a.toList ≠ b.toList := by
      rw [ByteArray.toList_eq, ByteArray.toList_eq]
      intro q
      apply h
      cases a; cases b
      simp at q
      rw [q]
    simpa using h2
attribute [local go_sem ↓] exBuildCg2 exSliceCg loadCg storeCg allocCg
set_option maxRecDepth 100000 in
set_option maxHeartbeats 800000 in
theorem sync1_ok (w : World) (B : Nat) (s nm : ByteArray) (sec n : Int) (l : List Int) (hl : l.length = 64) (hB : w.cell? ⟨B, 0, none⟩ = some (.string s)) :
    Calls Try.prog 142 #[.agg (cgA nm sec n l), .pointer (some ⟨B, 0, none⟩)] w fun e w' => e = .returned (.bool (decide (nm = s))) ∧ Kp NoB w w' := by
  have hb := Blk.new w 148 (cgA nm sec n l)
  have c0 : (w.alloc (.cells (cgA nm sec n l) 148)).cell? ⟨w.heap.size, 0, none⟩ = some (.string nm) := by rw [hb.cell]; rfl
  have c1 : (w.alloc (.cells (cgA nm sec n l) 148)).cell? ⟨B, 0, none⟩ = some (.string s) := by
    rw [((Kp.refl NoB w).alloc _).cell (block_lt_of_cell hB) (fun q => q)]; exact hB
  have sb := str_eqB nm s
  clear hb hB hl
  go_enter Try.func142, Try.ntmps142
  go_wp2_with fail
  go_ret
  exact ⟨rfl, (Kp.refl NoB w).alloc _⟩
end Go.Proofs.Ytegcbdfilkecpaa
/- The stand-in disk: the changes of one file struck; no condition but on the counts. -/
namespace Go.Proofs.Ytegcbdfilkecpaa
open Go.RowKit

attribute [local go_sem ↓] loadCg storeCg allocCg
def IdxR (pd : List Cg) (s : ByteArray) (r : Int) : Prop := (r = -1 ∧ ∀ c ∈ pd, c.nm ≠ s) ∨ ∃ i : Nat, r = i ∧ ∃ h : i < pd.length, (∀ c ∈ pd.take i, c.nm ≠ s) ∧ pd[i].nm = s
def IdxPost (w : World) (pd : List Cg) (s : ByteArray) (e : Ending) (w' : World) : Prop := ∃ r : Int, e = .returned (.int .i64 r) ∧ IdxR pd s r ∧ Kp NoB w w'
def IdxRel (w : World) (pd : List Cg) (s : ByteArray) (v : Value) (wr : World) : Prop := ∃ i : Nat, v = .int .i64 (i : Int) ∧ i ≤ pd.length ∧ (∀ c ∈ pd.take i, c.nm ≠ s) ∧ Kp NoB w wr
theorem cg_eta (pd : List Cg) (i : Nat) (hi : i < pd.length) : ∃ c, pd[i] = c ∧ c ∈ pd := ⟨_, rfl, List.getElem_mem hi⟩
set_option maxRecDepth 100000 in
set_option maxHeartbeats 800000 in
theorem idx_ok (w : World) (n0 B : Nat) (s : ByteArray) (A : Option Addr) (m cap : Nat) (pd : List Cg) (hm : pd.length = m) (hl : m < 1099511627776) (hok : ∀ c ∈ pd, CgOk c) (h : w.ownsRow n0 148 67 (.slice A m cap) m (cgCells pd)) (hB : w.cell? ⟨B, 0, none⟩ = some (.string s)) :
    Calls Try.prog 162 #[.slice A m cap, .func (.func 142) #[] #[.pointer (some ⟨B, 0, none⟩)]] w (IdxPost w pd s) := by
  have H := Lib.hid h
  have HM := Lib.hid hm
  have HL := Lib.hid hl
  have HOK := Lib.hid hok
  have HB := Lib.hid hB
  have hbl := block_lt_of_cell hB
  have HBL := Lib.hid hbl
  clear h hm hok hB hbl
  go_enter Try.func162, Try.ntmps162
  go_wp2_with fail
  go_loopw [8] (fun v wr => IdxRel w pd s v wr) (fun v _ => m - (intOf v).toNat)
  case atStart => exact ⟨0, rfl, Nat.zero_le _, by simp, Kp.refl _ _⟩
  case round =>
    obtain ⟨i, rfl, hi, hno, hk⟩ := hrel
    have HK := Lib.hid hk
    have HNO := Lib.hid hno
    have HI := Lib.hid hi
    clear hk hno hi
    by_cases hlt : i < m
    · obtain ⟨g, ds, rfl, hg, hb⟩ := own_blkN H.out (by omega)
      have hbr := hb.keep HK.out (fun q => q)
      obtain ⟨t0, r0⟩ := cg_at hbr HOK.out i (by have := HM.out; omega)
      obtain ⟨c, hc, hcm⟩ := cg_eta pd i (by have := HM.out; omega)
      rw [hc] at r0
      have HC := Lib.hid hc
      have cB : wr.cell? ⟨B, 0, none⟩ = some (.string s) := by rw [HK.out.cell HBL.out (fun q => q)]; exact HB.out
      have HCB := Lib.hid cB
      have hp64 := (HOK.out c hcm).pad
      have HP64 := Lib.hid hp64
      have hii : (i : Int) < (m : Int) := by omega
      clear hb hbr hc hcm cB hp64
      by_cases he : c.nm = s
      · have hd : decide (c.nm = s) = true := decide_eq_true he
        have HE := Lib.hid he
        clear he
        go_wp2_with (go_at_call 142; refine (sync1_ok wr B s c.nm c.sec c.n (pad64 c.s) HP64.out HCB.out).mono ?_; rintro e w3 ⟨rfl, hk3⟩; rw [hd]; have HK3 := Lib.hid hk3; clear hk3)
        go_ret
        exact ⟨i, rfl, .inr ⟨i, rfl, by have := HM.out; omega, HNO.out, by rw [HC.out]; exact HE.out⟩, HK.out.trans HK3.out (fun _ _ q => q)⟩
      · have hd : decide (c.nm = s) = false := decide_eq_false he
        have HE := Lib.hid he
        clear he
        go_wp2_with (go_at_call 142; refine (sync1_ok wr B s c.nm c.sec c.n (pad64 c.s) HP64.out HCB.out).mono ?_; rintro e w3 ⟨rfl, hk3⟩; rw [hd]; have HK3 := Lib.hid hk3; clear hk3)
        go_roundw
        case rel =>
          refine ⟨i + 1, by go_num, by have := HM.out; omega, ?_, HK.out.trans HK3.out (fun _ _ q => q)⟩
          intro c' hc'
          rw [List.take_succ_eq_append_getElem (by have := HM.out; omega)] at hc'
          rcases List.mem_append.1 hc' with q | q
          · exact HNO.out c' q
          · rw [List.mem_singleton.1 q, HC.out]; exact HE.out
        case measure => simp [intOf]; omega
    · have hii : ¬ (i : Int) < (m : Int) := by omega
      go_wp2_with fail
      go_ret
      exact ⟨-1, rfl, .inl ⟨rfl, fun c hc => HNO.out c (by rw [List.take_of_length_le (by have := HM.out; omega)]; exact hc)⟩, HK.out⟩
theorem run_clear_sliceN {P : Program} (w : World) (t e ty : TypeId) (z : Value) (ht : P.underlying t = some (.slice e)) (hv : ∀ w, (zeroValue e).run P w = .ok z w) (b o n c : Nat) (hn : 0 < n)
    (hc : w.there b o (Builtin.zeroCells z.cells n).toList.length) (h1 : ∀ v ∈ (Builtin.zeroCells z.cells n).toList, v.oneCell' = true) :
    (Builtin.clear_ #[t] ty #[.slice (some ⟨b, o, none⟩) n c]).run P w = .ok (.tuple #[]) (w.setCells b o (Builtin.zeroCells z.cells n).toList) := by
  have hst := run_storeCells_cells (P := P) b o (Builtin.zeroCells z.cells n).toList 0 w (fun j hj => (hc j (by simpa using hj)).1) (fun j hj => (hc j (by simpa using hj)).2) h1
  simp only [Nat.add_zero] at hst
  obtain ⟨m, rfl⟩ : ∃ m, n = m + 1 := ⟨n - 1, by omega⟩
  simp [Builtin.clear_, run_underlying ht, hv, hst]
def DelPost (n0 : Nat) (w : World) (A : Option Addr) (m cap : Nat) (pd : List Cg) (s : ByteArray) (e : Ending) (w' : World) : Prop :=
  ∃ C k cap', e = .returned (.slice C k cap') ∧ w'.ownsRow n0 148 67 (.slice C k cap') k (cgCells (pd.filter (notB s))) ∧ (pd.filter (notB s)).length = k ∧ Kp (fun b => (Value.slice A m cap).ownBlock = some b) w w' ∧ ∀ b, (Value.slice C k cap').ownBlock = some b → (Value.slice A m cap).ownBlock = some b
def DelRel (w : World) (g : Nat) (pd : List Cg) (ds : List Value) (s : ByteArray) (v5 v6 : Value) (wr : World) : Prop :=
  ∃ (i j : Nat) (q : List Cg), v5 = .int .i64 (i : Int) ∧ v6 = .int .i64 (j : Int) ∧ i < j ∧ j ≤ pd.length ∧ q.length = pd.length ∧ q.take i = (pd.take j).filter (notB s) ∧ q.drop j = pd.drop j ∧ (∀ c ∈ q, CgOk c) ∧ Blk wr g 148 (cgCells q ++ ds).toArray ∧ Kp (OnB g) w wr
theorem notB_all {pd : List Cg} {s : ByteArray} (h : ∀ c ∈ pd, c.nm ≠ s) : pd.filter (notB s) = pd := by
  rw [List.filter_eq_self]
  intro c hc
  unfold notB
  simp [h c hc]
theorem own_full {w : World} {base n cap size : Nat} {e : TypeId} {A : Option Addr} {xs : List Value} (h : w.ownsRow base e size (.slice A n cap) n xs) (hn : 0 < n) : ∃ g ds, A = some ⟨g, 0, none⟩ ∧ base ≤ g ∧ Blk w g e (xs ++ ds).toArray ∧ (xs ++ ds).length = cap * size ∧ cap ≤ maxLen := by
  rcases h.2 with ⟨h0, _⟩ | ⟨g, cap', cur, hv, hb, hh, h1, h2, h3, h4⟩
  · cases h0; omega
  · simp only [Value.slice.injEq] at hv
    obtain ⟨hA, _, rfl⟩ := hv
    have e1 : xs ++ cur.toList.drop (n * size) = cur.toList := by rw [← h4, List.take_append_drop]
    refine ⟨g, cur.toList.drop (n * size), hA, hb, ?_, by rw [e1]; simpa using h3, h2⟩
    rw [e1]
    exact hh
theorem own_of {w : World} {base g n cap size : Nat} {e : TypeId} {xs ds : List Value} (hb : base ≤ g) (h : Blk w g e (xs ++ ds).toArray) (hx : xs.length = n * size) (hl : (xs ++ ds).length = cap * size) (hn : n ≤ cap) (hc : cap ≤ maxLen) : w.ownsRow base e size (.slice (some ⟨g, 0, none⟩) n cap) n xs :=
  ⟨hx, .inr ⟨g, cap, _, rfl, hb, h, hn, hc, by simpa using hl, by rw [← hx]; simp⟩⟩
theorem del_step {q pd : List Cg} {j : Nat} {c : Cg} (hqd : q.drop j = pd.drop j) (hc : q[j]? = some c) : pd.take (j + 1) = pd.take j ++ [c] ∧ q.drop (j + 1) = pd.drop (j + 1) := by
  have h1 : pd[j]? = some c := by
    have := congrArg (fun l => l[0]?) hqd
    simp only [List.getElem?_drop, Nat.add_zero] at this
    rw [← this, hc]
  refine ⟨?_, ?_⟩
  · rw [List.take_add_one, h1]; rfl
  · have := congrArg (List.drop 1) hqd
    simpa [List.drop_drop] using this
theorem zeroCg_one (n : Nat) : ∀ v ∈ (Builtin.zeroCells (Value.agg (cgA ⟨#[]⟩ 0 0 (zeros 64))).cells n).toList, v.oneCell' = true := by
  intro v hv
  have e : (Value.agg (cgA ⟨#[]⟩ 0 0 (zeros 64))).cells = cgA ⟨#[]⟩ 0 0 (zeros 64) := rfl
  rw [e] at hv
  unfold Builtin.zeroCells at hv
  simp only [Array.toList_map, List.mem_map, Array.toList_range] at hv
  obtain ⟨k, _, rfl⟩ := hv
  have hsz : (cgA ⟨#[]⟩ 0 0 (zeros 64)).size = 67 := by rw [cgA_size]; rfl
  have hlt : k % (cgA ⟨#[]⟩ 0 0 (zeros 64)).size < (cgA ⟨#[]⟩ 0 0 (zeros 64)).size := Nat.mod_lt _ (by rw [hsz]; omega)
  rw [getElem!_pos (cgA ⟨#[]⟩ 0 0 (zeros 64)) (k % (cgA ⟨#[]⟩ 0 0 (zeros 64)).size) hlt]
  exact cgA_one ⟨#[]⟩ 0 0 (zeros 64) _ (by rw [← cgA_toList]; exact Array.getElem_mem_toList hlt)
theorem zeroCg_len (n : Nat) : (Builtin.zeroCells (Value.agg (cgA ⟨#[]⟩ 0 0 (zeros 64))).cells n).toList.length = n * 67 := by
  have e : (Value.agg (cgA ⟨#[]⟩ 0 0 (zeros 64))).cells = cgA ⟨#[]⟩ 0 0 (zeros 64) := rfl
  have hsz : (cgA ⟨#[]⟩ 0 0 (zeros 64)).size = 67 := by rw [cgA_size]; rfl
  rw [e]
  unfold Builtin.zeroCells
  simp [hsz]
set_option maxRecDepth 100000 in
set_option maxHeartbeats 800000 in
theorem del_ok (w : World) (n0 B : Nat) (s : ByteArray) (A : Option Addr) (m cap : Nat) (pd : List Cg) (hm : pd.length = m) (hl : m < 1099511627776) (hok : ∀ c ∈ pd, CgOk c) (h : w.ownsRow n0 148 67 (.slice A m cap) m (cgCells pd)) (hB : Blk w B 9 #[.string s]) :
    Calls Try.prog 141 #[.slice A m cap, .func (.func 142) #[] #[.pointer (some ⟨B, 0, none⟩)]] w (DelPost n0 w A m cap pd s) := by
  have H := Lib.hid h
  have HM := Lib.hid hm
  have HL := Lib.hid hl
  have HOK := Lib.hid hok
  have HB := Lib.hid hB
  clear h hm hok hB
  go_enter Try.func141, Try.ntmps141
  go_wp2_with fail
  refine (idx_ok w n0 B s A m cap pd HM.out HL.out HOK.out H.out (by rw [HB.out.cell]; rfl)).mono ?_
  rintro e w2 ⟨r, rfl, hr, hk2⟩
  have HK2 := Lib.hid hk2
  clear hk2
  rcases hr with ⟨rfl, hno⟩ | ⟨i0, rfl, hi0, hno, hE⟩
  · have HNO := Lib.hid hno
    clear hno
    go_wp2_with fail
    go_ret
    refine ⟨A, m, cap, rfl, ?_, ?_, HK2.out.mono (fun _ _ q => q.elim), fun b q => q⟩
    · rw [notB_all HNO.out]
      exact own_keepB H.out HK2.out (fun _ _ q => q)
    · rw [notB_all HNO.out]; exact HM.out
  · obtain ⟨g, ds, rfl, hg, hb, hfl, hcm⟩ := own_full H.out (by have := HM.out; omega)
    have HFL := Lib.hid hfl
    have HCX := Lib.hid hcm
    clear hfl hcm
    have HNO := Lib.hid hno
    have HE := Lib.hid hE
    have HB2 := Lib.hid (hb.keep HK2.out (fun q => q))
    have HBL := Lib.hid hb.lt
    have him : i0 < m := by have := HM.out; omega
    have hib : ((i0 : Int) == -1) = false := by simp
    have hw1 : IntKind.i64.wrap ((i0 : Int) + 1) = ((i0 + 1 : Nat) : Int) := by rw [IntKind.wrap_i64]; omega
    clear hno hE hb
    go_wp2_with fail
    go_loopw [5, 6] (fun v5 v6 wr => DelRel w g pd ds s v5 v6 wr) (fun _ v6 _ => m - (intOf v6).toNat)
    case atStart =>
      refine ⟨i0, i0 + 1, pd, rfl, rfl, by omega, by omega, rfl, ?_, rfl, HOK.out, HB2.out, HK2.out.mono (fun _ _ q => q.elim)⟩
      rw [List.take_succ_eq_append_getElem hi0, List.filter_append, notB_all HNO.out]
      simp [notB, HE.out]
    case round =>
      obtain ⟨i, j, q, rfl, rfl, hij, hj, hql, hqt, hqd, hqo, hbq, hkq⟩ := hrel
      have HQT := Lib.hid hqt
      have HQD := Lib.hid hqd
      have HQO := Lib.hid hqo
      have HBQ := Lib.hid hbq
      have HKQ := Lib.hid hkq
      have HQL := Lib.hid hql
      have HJ := Lib.hid hj
      clear hqt hqd hqo hbq hkq hj
      by_cases hlt : j < m
      · obtain ⟨t0, r0⟩ := cg_at HBQ.out HQO.out j (by have := HM.out; omega)
        obtain ⟨c, hc, hcm⟩ := cg_eta q j (by have := HM.out; omega)
        rw [hc] at r0
        have HC : Hid (q[j]? = some c) := Lib.hid (by rw [List.getElem?_eq_getElem (by have := HM.out; omega), hc])
        have HCM := Lib.hid hcm
        have hp64 := (HQO.out c hcm).pad
        have HP64 := Lib.hid hp64
        have hjj : (j : Int) < (m : Int) := by omega
        have hzb : Blk (wr.alloc (.cells (cgA ⟨#[]⟩ 0 0 (zeros 64)) 148)) wr.heap.size 148 (cgA ⟨#[]⟩ 0 0 (zeros 64)) := Blk.new _ _ _
        have t1 := hzb.thereAll 67 (by rw [cgA_size]; rfl)
        have on1 : ones (cgA c.nm c.sec c.n (pad64 c.s)) := cgA_ones _ _ _ _
        have sz1 : (cgA c.nm c.sec c.n (pad64 c.s)).size = 67 := by rw [cgA_size, hp64]
        clear hc hcm hp64 hql hzb
        go_upto_region 8 with fail
        obtain ⟨g8, hg8⟩ : ∃ g8, wr.heap.size = g8 := ⟨_, rfl⟩
        have HG8 := Lib.hid hg8
        have hb8 : Blk ((wr.alloc (.cells (cgA ⟨#[]⟩ 0 0 (zeros 64)) 148)).setCells wr.heap.size 0 (cgA c.nm c.sec c.n (pad64 c.s)).toList) wr.heap.size 148 (cgA c.nm c.sec c.n (pad64 c.s)) := (Blk.new wr 148 _).whole _ (by rw [cgA_size, cgA_size, HP64.out]; rfl)
        have hk8 : Kp NoB wr ((wr.alloc (.cells (cgA ⟨#[]⟩ 0 0 (zeros 64)) 148)).setCells wr.heap.size 0 (cgA c.nm c.sec c.n (pad64 c.s)).toList) := Kp.setCells (.inl (Nat.le_refl _)) _ _ _ ((Kp.refl NoB wr).alloc _)
        rw [hg8] at hb8 hk8 ⊢
        generalize (wr.alloc (.cells (cgA ⟨#[]⟩ 0 0 (zeros 64)) 148)).setCells g8 0 (cgA c.nm c.sec c.n (pad64 c.s)).toList = w8 at hb8 hk8 ⊢
        have HB8 := Lib.hid hb8
        have HK8 := Lib.hid hk8
        have t8 := hb8.thereAll 67 (by rw [cgA_size, HP64.out])
        have r8 := hb8.readAll 67 (by rw [cgA_size, HP64.out])
        have hBn : ¬ OnB g B := fun e => by
          have h1 := (HBQ.out)
          have h2 := HB.out.keep HK2.out (fun q => q)
          have h3 := HB2.out
          rw [← show B = g from e] at h3
          exact blk_ne h3 h2 (by decide) rfl
        have HB9 := Lib.hid ((HB.out.keep HKQ.out hBn).keep hk8 (fun q => q))
        have hm8 : i < m := by omega
        clear hg8 hb8 hk8 t0 r0 t1 on1 sz1 hBn
        by_cases he : c.nm = s
        · have hd : decide (c.nm = s) = true := decide_eq_true he
          have HE2 := Lib.hid he
          clear he
          go_wp2_with (go_at_call 142; refine (sync1_ok w8 B s c.nm c.sec c.n (pad64 c.s) HP64.out (by rw [HB9.out.cell]; rfl)).mono ?_; rintro e w3 ⟨rfl, hk3⟩; rw [hd]; have HK3 := Lib.hid hk3; clear hk3)
          go_roundw
          case rel =>
            have k3 : Kp NoB wr w3 := HK8.out.trans HK3.out (fun _ _ q => q)
            refine ⟨i, j + 1, q, rfl, by go_num, by omega, by have := HM.out; omega, HQL.out, ?_, ?_, HQO.out, HBQ.out.keep k3 (fun q => q), HKQ.out.trans k3 (fun _ _ q => q.elim)⟩
            · rw [(del_step HQD.out HC.out).1, List.filter_append, HQT.out]
              simp [notB, HE2.out]
            · exact (del_step HQD.out HC.out).2
          case measure => simp [intOf]; omega
        · have hd : decide (c.nm = s) = false := decide_eq_false he
          have HE2 := Lib.hid he
          clear he
          go_wp2_with (go_at_call 142; refine (sync1_ok w8 B s c.nm c.sec c.n (pad64 c.s) HP64.out (by rw [HB9.out.cell]; rfl)).mono ?_; rintro e w3 ⟨rfl, hk3⟩; rw [hd]; have HK3 := Lib.hid hk3; have hb4 := HB8.out.keep hk3 (fun q => q); have t4 := hb4.thereAll 67 (by rw [cgA_size, HP64.out]); have r4 := hb4.readAll 67 (by rw [cgA_size, HP64.out]); have hbg := (HBQ.out.keep HK8.out (fun q => q)).keep hk3 (fun q => q); have t5 := (cg_at hbg HQO.out i (by have := HM.out; have := HQL.out; omega)).1; have HBG := Lib.hid hbg; have on4 : ones (cgA c.nm c.sec c.n (pad64 c.s)) := cgA_ones _ _ _ _; have sz4 : (cgA c.nm c.sec c.n (pad64 c.s)).size = 67 := (by rw [cgA_size, HP64.out]); clear hk3 hb4 hbg t8 r8)
          have hql := HQL.out
          have hiq : i < q.length := by have := HM.out; omega
          have k3 : Kp NoB wr w3 := HK8.out.trans HK3.out (fun _ _ q => q)
          refine ⟨⟨i + 1, j + 1, q.set i c, rfl, rfl, by omega, by have := HM.out; omega, by rw [List.length_set]; exact hql, ?_, ?_, ?_, cg_put HBG.out HQO.out i hiq c (HQO.out c HCM.out), ?_⟩, by simp [intOf]; omega⟩
          · rw [(del_step HQD.out HC.out).1, List.filter_append, ← HQT.out, List.take_succ_eq_append_getElem (by simpa using hiq)]
            simp [notB, HE2.out, List.take_set_of_le]
          · rw [List.drop_set, if_pos (by omega), (del_step HQD.out HC.out).2]
          · intro c' hc'
            rcases List.mem_or_eq_of_mem_set hc' with q' | q'
            · exact HQO.out c' q'
            · rw [q']; exact HQO.out c HCM.out
          · exact Kp.setCells (.inr (show OnB g g from rfl)) _ _ _ (HKQ.out.trans k3 (fun _ _ q => q.elim))
      · have hjj : ¬ (j : Int) < (m : Int) := by omega
        have ejm : j = pd.length := by have := HM.out; have := HJ.out; omega
        have him2 : i < m := by have := HM.out; have := HJ.out; omega
        have hcap : m ≤ cap := own_cap H.out
        have hic : ¬ cap = i := by omega
        have hic2 : i ≤ cap := by omega
        have hiN : (i : Int) ≤ (m : Int) := by omega
        have hiC : (i : Int) ≤ (cap : Int) := by omega
        obtain ⟨zs, hzs⟩ : ∃ zs, (Builtin.zeroCells (Value.agg (cgA ⟨#[]⟩ 0 0 (zeros 64))).cells (m - i)).toList = zs := ⟨_, rfl⟩
        have hzl : zs.length = (m - i) * 67 := by rw [← hzs]; exact zeroCg_len _
        have hcl0 : (cgCells q).length = m * 67 := by rw [cgCells_len q HQO.out, HQL.out, HM.out]
        have hth : wr.there g (i * 67) zs.length := HBQ.out.there (by simp [hcl0, hzl]; omega)
        have hcl : ∀ ty, (Builtin.clear_ #[119] ty #[.slice (some ⟨g, i * 67, none⟩) (m - i) (cap - i)]).run Try.prog wr = .ok (.tuple #[]) (wr.setCells g (i * 67) zs) := fun ty => by
          rw [← hzs]
          exact run_clear_sliceN wr _ _ ty _ Try.underlying119 zeroCg g (i * 67) _ _ (by omega) (by rw [hzs]; exact hth) (zeroCg_one _)
        have HZL := Lib.hid hzl
        have HCL0 := Lib.hid hcl0
        clear hzs hzl hcl0 hth hql ejm
        go_wp2_with fail
        go_ret
        have ejm : j = pd.length := by have := HM.out; have := HJ.out; omega
        have eq1 : q.take i = pd.filter (notB s) := by rw [HQT.out, ejm, List.take_length]
        have hiq : i ≤ q.length := by have := HM.out; have := HQL.out; omega
        have hlen : (pd.filter (notB s)).length = i := by rw [← eq1, List.length_take, Nat.min_eq_left hiq]
        have hsp : cgCells q = cgCells (q.take i) ++ cgCells (q.drop i) := by
          unfold cgCells
          rw [← List.flatMap_append, List.take_append_drop]
        have hl1 : (cgCells (q.take i)).length = i * 67 := by rw [cgCells_len _ (fun c hc => HQO.out c (List.mem_of_mem_take hc)), List.length_take, Nat.min_eq_left hiq]
        have hl2 : (cgCells (q.drop i)).length = (m - i) * 67 := by rw [cgCells_len _ (fun c hc => HQO.out c (List.mem_of_mem_drop hc)), List.length_drop, HQL.out, HM.out]
        have hbk := HBQ.out
        rw [hsp] at hbk
        have hb2 := hbk.cellsL (xs := zs) (i * 67) hl1 (by rw [hl2, HZL.out])
        have hpl : (cgCells pd).length = m * 67 := by rw [cgCells_len pd HOK.out, HM.out]
        have hfl := HFL.out
        rw [List.length_append, hpl] at hfl
        refine ⟨some ⟨g, 0, none⟩, i, cap, rfl, ?_, hlen, ?_, fun b q => q⟩
        · rw [← eq1]
          rw [List.append_assoc] at hb2
          refine own_of hg hb2 hl1 ?_ hic2 HCX.out
          rw [List.length_append, List.length_append, hl1, HZL.out, Nat.sub_mul]
          have : i * 67 ≤ m * 67 := Nat.mul_le_mul_right _ (by omega)
          omega
        · have hk : Kp (OnB g) w (wr.setCells g (i * 67) zs) := Kp.setCells (.inr (show OnB g g from rfl)) _ _ _ HKQ.out
          exact hk.mono (fun b _ q => by show some g = some b; rw [show b = g from q])
end Go.Proofs.Ytegcbdfilkecpaa
/- The stand-in disk: Sync; no condition but on the texts' lengths and the counts. -/
namespace Go.Proofs.Ytegcbdfilkecpaa
open Go.RowKit

def SyPost (n0 : Nat) (w : World) (x : Dd) (p : Pl) (s : ByteArray) (e : Ending) (w' : World) : Prop := e = .returned (.int .i64 p.syncE) ∧ To n0 w x (p.sync s) w'
/-- the changes put anew, the disk's cell stored -/
theorem Dk.pendAll {n0 : Nat} {w w1 : World} {x : Dd} (h : Dk n0 w x) (k : Kp NoB w w1) (pv : Value) (pd : List Cg) (ho : w1.ownsRow w.heap.size 148 67 pv pd.length (cgCells pd)) (hn : n0 ≤ w.heap.size) (hs : ∀ c ∈ pd, CgOk c) :
    Dk n0 (w1.setCell ⟨x.db, 1, none⟩ pv) { x with pv := pv, pd := pd } ∧ Kp x.O w (w1.setCell ⟨x.db, 1, none⟩ pv) ∧ ∀ b, ({ x with pv := pv, pd := pd } : Dd).O b → x.O b ∨ w.heap.size ≤ b := by
  have hB : Blk w1 x.db 121 (diskCells x) := h.blk.keep k (fun q => q)
  have k2 : Kp (fun b => b = x.db ∨ x.pv.ownBlock = some b) w (w1.setCell ⟨x.db, 1, none⟩ pv) := (k.mono (S' := fun b => b = x.db ∨ x.pv.ownBlock = some b) (fun _ _ q => q.elim)).setAt (.inl rfl) _ _
  refine ⟨h.pended k2 pv pd (by
    have := hB.set_ 1 pv
    simpa [diskCells] using this) (by
    refine own_keepB (ho.mono hn) ((Kp.refl (OnB x.db) w1).setAt rfl 1 pv) (fun g hg' q => ?_)
    have := (ho.lt g hg').1
    have h2 := h.blk.lt
    rw [show g = x.db from q] at this
    omega) hs, k2.pendO, O_pend (w := w) (fun b hb => .inr (ho.lt b hb).1)⟩
set_option maxRecDepth 100000 in
set_option maxHeartbeats 800000 in
theorem sync_ok (w : World) (n0 : Nat) (x : Dd) (p : Pl) (s : ByteArray) (h : Dk n0 w x) (hp : Of x p) (hs : s.size ≤ maxLen) (hn0 : n0 ≤ w.heap.size)
    (hm : p.nf < 1099511627776 - 10) (hpd : p.pd.length < 1099511627776 - 20000) :
    Calls Try.prog 88 #[ptrV x.db, .string s] w (SyPost n0 w x p s) := by
  have kb : Kp NoB w (w.alloc (.cells #[.string s] 9)) := (Kp.refl NoB w).alloc _
  have hb0 : Blk (w.alloc (.cells #[.string s] 9)) w.heap.size 9 #[.string s] := Blk.new _ _ _
  have h1 := h.keep kb (fun _ _ q => q) (fun _ _ _ q => q)
  have H := Lib.hid h1
  have H0 := Lib.hid h
  have HP := Lib.hid hp
  have HS := Lib.hid hs
  have HN0 := Lib.hid (show n0 ≤ (w.alloc (.cells #[.string s] 9)).heap.size from Nat.le_trans hn0 kb.size)
  have HM := Lib.hid hm
  have HPD := Lib.hid hpd
  have HKB := Lib.hid kb
  have HB0 := Lib.hid hb0
  obtain ⟨db, hdb⟩ : ∃ db, x.db = db := ⟨_, rfl⟩
  have HX := Lib.hid hdb
  rw [hdb]
  obtain ⟨B, hBB⟩ : ∃ B, w.heap.size = B := ⟨_, rfl⟩
  have HBB := Lib.hid hBB
  unfold ptrV
  rcases hdn : p.down with _ | _
  · have HDN := Lib.hid hdn
    rcases (show p.stepE = 0 ∨ p.stepE = 7 by unfold Pl.stepE; split <;> omega) with hst | hst
    · have HST := Lib.hid hst
      clear h hp hs hn0 hm hpd hdb hdn kb hb0 h1 hst hBB
      go_enter Try.func88, Try.ntmps88
      go_wp2_with (go_at_call 80; go_must (refine (show Calls _ _ #[ptrV db] _ _ by rw [← HX.out]; exact wrong_p _ n0 x p H.out HP.out false HDN.out).mono ?_); rintro e w2 ⟨rfl, rfl⟩)
      refine (show Calls _ _ #[ptrV db] _ _ by rw [← HX.out]; exact step_p _ n0 x p H.out HP.out).mono ?_
      rintro e w1 ⟨rfl, x1, hd1, hp1, hx1, hk1, ho1⟩
      rw [HST.out]
      have HD1 := Lib.hid hd1
      have HP1 := Lib.hid hp1
      have HX1 : Hid (x1.db = db) := Lib.hid (hx1.trans HX.out)
      have HX1' := Lib.hid hx1
      have HK1 := Lib.hid hk1
      have HO1 := Lib.hid ho1
      have hB1 : Blk w1 w.heap.size 9 #[.string s] := HB0.out.keep hk1 (fun q => by have := H0.out.lt _ q; omega)
      have HB1 := Lib.hid hB1
      have cB1 : w1.cell? ⟨w.heap.size, 0, none⟩ = some (.string s) := by rw [hB1.cell]; rfl
      clear hd1 hp1 hx1 hk1 ho1 hB1
      go_wp2_with fail
      refine (show Calls _ _ #[ptrV db, .string s] _ _ by rw [← HX1.out]; exact at_ok _ n0 x1 s HS.out (by have h1 : x1.mn ≤ p.nf := HP1.out.nf; have := HM.out; omega) (Nat.le_trans HN0.out HK1.out.size) HD1.out).mono ?_
      rintro e w5 ⟨e0, m2, rfl, hd5, hm5, hnm5, hsn5, hkp5, hk5, hfb5⟩
      have HD5 := Lib.hid hd5
      have HE5 := Lib.hid (show e0.nm = s ∧ e0.seen = p.seen s ∧ e0.kept = p.kept s from ⟨hnm5, by rw [hsn5, HP1.out.seen_eq]; rfl, by rw [hkp5, HP1.out.kept_eq]; rfl⟩)
      have HK5 := Lib.hid hk5
      have HF0 := Lib.hid (findF_some (show findF (putF x1.fs e0) (kOf e0.nm) = some e0 by rw [putF_find, if_pos rfl])).1
      have HO5 := Lib.hid (O_at (m := m2) HD1.out hk5 hfb5)
      have HQ5 := Lib.hid (HP1.out.at_ e0 m2 hm5 (by rw [hsn5, hnm5]) (by rw [hkp5, hnm5]))
      obtain ⟨u, v, hb, hu, hv⟩ := (hd5.fls e0 HF0.out).blk
      obtain ⟨A5, cap5, rfl⟩ := hu.form
      obtain ⟨Av, capv, rfl⟩ := hv.form
      have HB5 := Lib.hid hb
      have HU5 := Lib.hid hu
      obtain ⟨L, hL⟩ : ∃ L, e0.seen.length = L := ⟨_, rfl⟩
      obtain ⟨L2, hL2⟩ : ∃ L, e0.kept.length = L := ⟨_, rfl⟩
      have HLL := Lib.hid hL
      obtain ⟨fb, hfb⟩ : ∃ fb, e0.fb = fb := ⟨_, rfl⟩
      have HFB := Lib.hid hfb
      have c5 : w5.cell? ⟨fb, 0, none⟩ = some (.slice A5 L cap5) := by rw [← hfb, hb.cell, ← hL]; rfl
      have c6 : w5.cell? ⟨fb, 1, none⟩ = some (.slice Av L2 capv) := by rw [← hfb, hb.cell, ← hL2]; rfl
      have z6 : w5.frozen? ⟨fb, 1, none⟩ = false := by rw [← hfb]; exact hb.frozen 1
      rw [show ptrV e0.fb = .pointer (some ⟨fb, 0, none⟩) by rw [hfb]; rfl]
      clear hb hu hv hd5 hm5 hnm5 hsn5 hkp5 hk5 hfb5 hfb hL hL2
      go_upto_region 8 with fail
      have hk56 : Kp (OnB fb) w5 (w5.setCell ⟨fb, 1, none⟩ (.slice A5 L cap5)) := (Kp.refl (OnB fb) w5).setAt rfl _ _
      have hb6 : Blk (w5.setCell ⟨fb, 1, none⟩ (.slice A5 L cap5)) fb 143 #[.slice A5 L cap5, .slice A5 L cap5] := by
        have := HB5.out.set_ 1 (.slice A5 L cap5)
        rw [HFB.out, HLL.out] at this
        exact this
      have hd6 := HD5.out.refile HF0.out (by rw [HFB.out]; exact hk56) { e0 with kept := e0.seen } rfl rfl ⟨⟨.slice A5 L cap5, .slice A5 L cap5, by rw [← HFB.out] at hb6 ⊢; exact hb6, by have := HU5.out.keep hk56 (fun g cs' hc q => onb_cells HB5.out hc (by decide) (by rw [HFB.out]; exact q)); rw [HLL.out] at this; exact this, by have := HU5.out.keep hk56 (fun g cs' hc q => onb_cells HB5.out hc (by decide) (by rw [HFB.out]; exact q)); rw [HLL.out] at this; exact this⟩, (HD5.out.fls e0 HF0.out).ls, (HD5.out.fls e0 HF0.out).ls⟩
      generalize w5.setCell ⟨fb, 1, none⟩ (.slice A5 L cap5) = w6 at hk56 hd6 ⊢
      obtain ⟨x3, hx3⟩ : ∃ x3 : Dd, ({ x1 with fs := putF (putF x1.fs e0) { e0 with kept := e0.seen }, mn := m2 } : Dd) = x3 := ⟨_, rfl⟩
      have HX3 : Hid (x3.db = db ∧ x3.pv = x1.pv ∧ x3.pd = p.pd) := Lib.hid (by rw [← hx3]; exact ⟨HX1.out, rfl, HP1.out.pd.symm⟩)
      have HQ3 : Hid (Of x3 (p.step.at_.setKept s (p.seen s))) := Lib.hid (by
        have := HQ5.out.setKept { e0 with kept := e0.seen } (by simp only [seenOf_put, upd_same])
        rw [hx3] at this
        have e2 := HE5.out.1
        have e3 := HE5.out.2.1
        simp only [e2, e3] at this
        exact this)
      have HD3 : Hid (Dk n0 w6 x3) := Lib.hid (by rw [← hx3]; exact hd6)
      have HO3 : Hid (Kp x.O (w.alloc (.cells #[.string s] 9)) w6 ∧ ∀ b, x3.O b → x.O b ∨ (w.alloc (.cells #[.string s] 9)).heap.size ≤ b) := Lib.hid (by
        have o3 : ∀ b, x3.O b → x1.O b ∨ w1.heap.size ≤ b := fun b hb => HO5.out.2 b (O_put (x := { x1 with fs := putF x1.fs e0, mn := m2 }) (e := { e0 with kept := e0.seen }) ⟨e0, HF0.out, rfl⟩ b (by rw [hx3]; exact hb))
        have k5 : Kp x1.O w1 w6 := HO5.out.1.trans hk56 (fun i hi q => by
          rcases HO5.out.2 i (.inr (.inr (.inr ⟨e0, HF0.out, by rw [HFB.out]; exact q⟩))) with q | q
          · exact q
          · omega)
        refine ⟨HK1.out.trans k5 (fun i hi q => ?_), fun b hb => ?_⟩
        · rcases HO1.out i q with q | q
          · exact q
          · omega
        · rcases o3 b hb with q | q
          · exact HO1.out b q
          · exact .inr (Nat.le_trans HK1.out.size q))
      have hB6 : Blk w6 w.heap.size 9 #[.string s] := HB0.out.keep HO3.out.1 (fun q => by have := H0.out.lt _ q; omega)
      have HB6 := Lib.hid hB6
      have HN6 := Lib.hid (Nat.le_trans HN0.out HO3.out.1.size)
      obtain ⟨pl, hpl⟩ : ∃ pl, p.pd.length = pl := ⟨_, rfl⟩
      have HPL := Lib.hid hpl
      have hpf := own_slice HD3.out.pend
      simp only [HX3.out.2.2, hpl] at hpf
      obtain ⟨Ap, kp, hpv⟩ := hpf
      have HPV := Lib.hid hpv
      have c1 : w6.cell? ⟨db, 1, none⟩ = some (.slice Ap pl kp) := by rw [← HX3.out.1, HD3.out.blk.cell, ← hpv]; rfl
      clear hk56 hb6 hd6 hx3 hB6 hpl hpv c5 c6 z6
      go_wp2_with fail
      refine (cloneCg_ok w6 n0 Ap pl kp p.pd HPL.out (by have := HPD.out; rw [HPL.out] at this; omega) (by rw [← HX3.out.2.2]; exact HD3.out.s64) (by have := HD3.out.pend; rw [HX3.out.2.2, HPL.out, HPV.out] at this; exact this)).mono ?_
      rintro e w7 ⟨A7, c7, rfl, ho7, hk7⟩
      rw [HPL.out] at ho7 ⊢
      have HO7 := Lib.hid ho7
      have HK7 := Lib.hid hk7
      clear ho7 hk7
      go_wp2_with fail
      refine (del_ok w7 w6.heap.size w.heap.size s A7 pl c7 p.pd HPL.out (by have := HPD.out; rw [HPL.out] at this; omega) (by rw [← HX3.out.2.2]; exact HD3.out.s64) HO7.out (HB6.out.keep HK7.out (fun q => q))).mono ?_
      rintro e w8 ⟨A8, k8, c8, rfl, ho8, hl8, hk8, hown8⟩
      have k68 : Kp NoB w6 w8 := HK7.out.trans hk8 (fun i hi q => by have := (HO7.out.lt i q).1; omega)
      have HK68 := Lib.hid k68
      have HALL := Lib.hid (HD3.out.pendAll k68 (.slice A8 k8 c8) (p.pd.filter (notB s)) (by rw [hl8]; exact ho8) HN6.out (fun c hc => HD3.out.s64 c (by rw [HX3.out.2.2]; exact (List.mem_filter.1 hc).1)))
      have c8' : w8.cell? ⟨db, 1, none⟩ = some (.slice Ap pl kp) := by rw [k68.cell (by rw [← HX3.out.1]; exact HD3.out.blk.lt) (fun q => q)]; exact c1
      have z8 : w8.frozen? ⟨db, 1, none⟩ = false := by rw [← HX3.out.1]; exact (HD3.out.blk.keep k68 (fun q => q)).frozen 1
      clear ho8 hl8 hk8 hown8 k68 c1
      go_wp2_with fail
      go_ret
      have hall := HALL.out
      have hT : To n0 (w.alloc (.cells #[.string s] 9)) x { p.step.at_.setKept s (p.seen s) with pd := p.pd.filter (notB s) } (w8.setCell ⟨x3.db, 1, none⟩ (.slice A8 k8 c8)) := by
        refine ⟨_, hall.1, { HQ3.out with pd := rfl }, HX3.out.1.trans HX.out.symm, HO3.out.1.trans hall.2.1 (fun i hi q => ?_), fun b hb => ?_⟩
        · rcases HO3.out.2 i q with q | q
          · exact q
          · omega
        · rcases hall.2.2 b hb with q | q
          · exact HO3.out.2 b q
          · exact .inr (Nat.le_trans HO3.out.1.size q)
      refine ⟨?_, ?_⟩
      · unfold Pl.syncE; rw [HDN.out, HST.out]; rfl
      · unfold Pl.sync; rw [HDN.out, HST.out]; simp only [Bool.false_eq_true, if_false]; rw [if_neg (by omega), ← HX3.out.1]; exact hT.quiet HKB.out H0.out
    · have HST := Lib.hid hst
      clear h hp hs hn0 hm hpd hdb hdn kb hb0 h1 hst hBB
      go_enter Try.func88, Try.ntmps88
      go_wp2_with (first
        | (go_at_call 80; go_must (refine (show Calls _ _ #[ptrV db] _ _ by rw [← HX.out]; exact wrong_p _ n0 x p H.out HP.out false HDN.out).mono ?_); rintro e w2 ⟨rfl, rfl⟩)
        | (go_at_call 130; go_must (refine (show Calls _ _ #[ptrV db] _ _ by rw [← HX.out]; exact step_p _ n0 x p H.out HP.out).mono ?_); rintro e w1 ⟨rfl, ht1⟩; rw [HST.out]; have HT1 := Lib.hid ht1; clear ht1))
      go_ret
      refine ⟨?_, ?_⟩
      · unfold Pl.syncE; rw [HDN.out, HST.out]; rfl
      · unfold Pl.sync; rw [HDN.out, HST.out]; simp only [Bool.false_eq_true, if_false]; rw [if_pos (by omega)]; exact HT1.out.quiet HKB.out H0.out
  · have HDN := Lib.hid hdn
    clear h hp hs hn0 hm hpd hdb hdn kb hb0 h1 hBB
    go_enter Try.func88, Try.ntmps88
    go_wp2_with (go_at_call 80; go_must (refine (show Calls _ _ #[ptrV db] _ _ by rw [← HX.out]; exact wrong_p _ n0 x p H.out HP.out true HDN.out).mono ?_); rintro e w2 ⟨rfl, rfl⟩)
    go_ret
    refine ⟨?_, ?_⟩
    · unfold Pl.syncE; rw [HDN.out]; rfl
    · unfold Pl.sync; rw [HDN.out]; exact (To.refl H.out HP.out).quiet HKB.out H0.out
end Go.Proofs.Ytegcbdfilkecpaa
