/- Texts of this proof, one behind the other: lemmas and contracts; each says its own conditions. -/
import Derived.Test.YtoeldmkbmnkhkaaGreatP1
import Derived.Test.YtoeldmkbmnkhkaaGreatP2
import Derived.Test.YtoeldmkbmnkhkaaGreatP3
import Derived.Test.YtoeldmkbmnkhkaaGreatP4
/- The stand-in disk: the changes of one file struck; no condition but on the counts. -/
namespace Go.Proofs.YtoeldmkbmnkhkaaGreat
open Go.RowKit

attribute [local go_sem ↓] loadCg storeCg allocCg
def IdxR (pd : List Cg) (s : ByteArray) (r : Int) : Prop := (r = -1 ∧ ∀ c ∈ pd, c.nm ≠ s) ∨ ∃ i : Nat, r = i ∧ ∃ h : i < pd.length, (∀ c ∈ pd.take i, c.nm ≠ s) ∧ pd[i].nm = s
def IdxPost (w : World) (pd : List Cg) (s : ByteArray) (e : Ending) (w' : World) : Prop := ∃ r : Int, e = .returned (.int .i64 r) ∧ IdxR pd s r ∧ Kp NoB w w'
def IdxRel (w : World) (pd : List Cg) (s : ByteArray) (v : Value) (wr : World) : Prop := ∃ i : Nat, v = .int .i64 (i : Int) ∧ i ≤ pd.length ∧ (∀ c ∈ pd.take i, c.nm ≠ s) ∧ Kp NoB w wr
theorem cg_eta (pd : List Cg) (i : Nat) (hi : i < pd.length) : ∃ c, pd[i] = c ∧ c ∈ pd := ⟨_, rfl, List.getElem_mem hi⟩
set_option maxRecDepth 100000 in
set_option maxHeartbeats 800000 in
theorem idx_ok (w : World) (n0 B : Nat) (s : ByteArray) (A : Option Addr) (m cap : Nat) (pd : List Cg) (hm : pd.length = m) (hl : m < 1099511627776) (hok : ∀ c ∈ pd, CgOk c) (h : w.ownsRow n0 158 67 (.slice A m cap) m (cgCells pd)) (hB : w.cell? ⟨B, 0, none⟩ = some (.string s)) :
    Calls Tryz.prog 181 #[.slice A m cap, .func (.func 166) #[] #[.pointer (some ⟨B, 0, none⟩)]] w (IdxPost w pd s) := by
  have H := Lib.hid h
  have HM := Lib.hid hm
  have HL := Lib.hid hl
  have HOK := Lib.hid hok
  have HB := Lib.hid hB
  have hbl := block_lt_of_cell hB
  have HBL := Lib.hid hbl
  clear h hm hok hB hbl
  go_enter Tryz.func181, Tryz.ntmps181
  go_wp2_with fail
  go_loopw [8] (fun v wr => IdxRel w pd s v wr) (fun v _ => m - (intOf v).toNat)
  case atStart => exact ⟨0, rfl, Nat.zero_le _, by simp, Kp.refl _ _⟩
  case round =>
    obtain ⟨i, rfl, hi, hno, hk⟩ := hrel
    have HK := Lib.hid hk
    have HNO := Lib.hid hno
    have HI := Lib.hid hi
    clear hk hno hi
    by_cases hlt : i < m
    · obtain ⟨g, ds, rfl, hg, hb⟩ := own_blkN H.out (by omega)
      have hbr := hb.keep HK.out (fun q => q)
      obtain ⟨t0, r0⟩ := cg_at hbr HOK.out i (by have := HM.out; omega)
      obtain ⟨c, hc, hcm⟩ := cg_eta pd i (by have := HM.out; omega)
      rw [hc] at r0
      have HC := Lib.hid hc
      have cB : wr.cell? ⟨B, 0, none⟩ = some (.string s) := by rw [HK.out.cell HBL.out (fun q => q)]; exact HB.out
      have HCB := Lib.hid cB
      have hp64 := (HOK.out c hcm).pad
      have HP64 := Lib.hid hp64
      have hii : (i : Int) < (m : Int) := by omega
      clear hb hbr hc hcm cB hp64
      by_cases he : c.nm = s
      · have hd : decide (c.nm = s) = true := decide_eq_true he
        have HE := Lib.hid he
        clear he
        go_wp2_with (go_at_call 166; refine (sync1_ok wr B s c.nm c.sec c.n (pad64 c.s) HP64.out HCB.out).mono ?_; rintro e w3 ⟨rfl, hk3⟩; rw [hd]; have HK3 := Lib.hid hk3; clear hk3)
        go_ret
        exact ⟨i, rfl, .inr ⟨i, rfl, by have := HM.out; omega, HNO.out, by rw [HC.out]; exact HE.out⟩, HK.out.trans HK3.out (fun _ _ q => q)⟩
      · have hd : decide (c.nm = s) = false := decide_eq_false he
        have HE := Lib.hid he
        clear he
        go_wp2_with (go_at_call 166; refine (sync1_ok wr B s c.nm c.sec c.n (pad64 c.s) HP64.out HCB.out).mono ?_; rintro e w3 ⟨rfl, hk3⟩; rw [hd]; have HK3 := Lib.hid hk3; clear hk3)
        go_roundw
        case rel =>
          refine ⟨i + 1, by go_num, by have := HM.out; omega, ?_, HK.out.trans HK3.out (fun _ _ q => q)⟩
          intro c' hc'
          rw [List.take_succ_eq_append_getElem (by have := HM.out; omega)] at hc'
          rcases List.mem_append.1 hc' with q | q
          · exact HNO.out c' q
          · rw [List.mem_singleton.1 q, HC.out]; exact HE.out
        case measure => simp [intOf]; omega
    · have hii : ¬ (i : Int) < (m : Int) := by omega
      go_wp2_with fail
      go_ret
      exact ⟨-1, rfl, .inl ⟨rfl, fun c hc => HNO.out c (by rw [List.take_of_length_le (by have := HM.out; omega)]; exact hc)⟩, HK.out⟩
theorem run_clear_sliceN {P : Program} (w : World) (t e ty : TypeId) (z : Value) (ht : P.underlying t = some (.slice e)) (hv : ∀ w, (zeroValue e).run P w = .ok z w) (b o n c : Nat) (hn : 0 < n)
    (hc : w.there b o (Builtin.zeroCells z.cells n).toList.length) (h1 : ∀ v ∈ (Builtin.zeroCells z.cells n).toList, v.oneCell' = true) :
    (Builtin.clear_ #[t] ty #[.slice (some ⟨b, o, none⟩) n c]).run P w = .ok (.tuple #[]) (w.setCells b o (Builtin.zeroCells z.cells n).toList) := by
  have hst := run_storeCells_cells (P := P) b o (Builtin.zeroCells z.cells n).toList 0 w (fun j hj => (hc j (by simpa using hj)).1) (fun j hj => (hc j (by simpa using hj)).2) h1
  simp only [Nat.add_zero] at hst
  obtain ⟨m, rfl⟩ : ∃ m, n = m + 1 := ⟨n - 1, by omega⟩
  simp [Builtin.clear_, run_underlying ht, hv, hst]
def DelPost (n0 : Nat) (w : World) (A : Option Addr) (m cap : Nat) (pd : List Cg) (s : ByteArray) (e : Ending) (w' : World) : Prop :=
  ∃ C k cap', e = .returned (.slice C k cap') ∧ w'.ownsRow n0 158 67 (.slice C k cap') k (cgCells (pd.filter (notB s))) ∧ (pd.filter (notB s)).length = k ∧ Kp (fun b => (Value.slice A m cap).ownBlock = some b) w w' ∧ ∀ b, (Value.slice C k cap').ownBlock = some b → (Value.slice A m cap).ownBlock = some b
def DelRel (w : World) (g : Nat) (pd : List Cg) (ds : List Value) (s : ByteArray) (v5 v6 : Value) (wr : World) : Prop :=
  ∃ (i j : Nat) (q : List Cg), v5 = .int .i64 (i : Int) ∧ v6 = .int .i64 (j : Int) ∧ i < j ∧ j ≤ pd.length ∧ q.length = pd.length ∧ q.take i = (pd.take j).filter (notB s) ∧ q.drop j = pd.drop j ∧ (∀ c ∈ q, CgOk c) ∧ Blk wr g 158 (cgCells q ++ ds).toArray ∧ Kp (OnB g) w wr
theorem notB_all {pd : List Cg} {s : ByteArray} (h : ∀ c ∈ pd, c.nm ≠ s) : pd.filter (notB s) = pd := by
  rw [List.filter_eq_self]
  intro c hc
  unfold notB
  simp [h c hc]
theorem own_full {w : World} {base n cap size : Nat} {e : TypeId} {A : Option Addr} {xs : List Value} (h : w.ownsRow base e size (.slice A n cap) n xs) (hn : 0 < n) : ∃ g ds, A = some ⟨g, 0, none⟩ ∧ base ≤ g ∧ Blk w g e (xs ++ ds).toArray ∧ (xs ++ ds).length = cap * size ∧ cap ≤ maxLen := by
  rcases h.2 with ⟨h0, _⟩ | ⟨g, cap', cur, hv, hb, hh, h1, h2, h3, h4⟩
  · cases h0; omega
  · simp only [Value.slice.injEq] at hv
    obtain ⟨hA, _, rfl⟩ := hv
    have e1 : xs ++ cur.toList.drop (n * size) = cur.toList := by rw [← h4, List.take_append_drop]
    refine ⟨g, cur.toList.drop (n * size), hA, hb, ?_, by rw [e1]; simpa using h3, h2⟩
    rw [e1]
    exact hh
theorem own_of {w : World} {base g n cap size : Nat} {e : TypeId} {xs ds : List Value} (hb : base ≤ g) (h : Blk w g e (xs ++ ds).toArray) (hx : xs.length = n * size) (hl : (xs ++ ds).length = cap * size) (hn : n ≤ cap) (hc : cap ≤ maxLen) : w.ownsRow base e size (.slice (some ⟨g, 0, none⟩) n cap) n xs :=
  ⟨hx, .inr ⟨g, cap, _, rfl, hb, h, hn, hc, by simpa using hl, by rw [← hx]; simp⟩⟩
theorem del_step {q pd : List Cg} {j : Nat} {c : Cg} (hqd : q.drop j = pd.drop j) (hc : q[j]? = some c) : pd.take (j + 1) = pd.take j ++ [c] ∧ q.drop (j + 1) = pd.drop (j + 1) := by
  have h1 : pd[j]? = some c := by
    have := congrArg (fun l => l[0]?) hqd
    simp only [List.getElem?_drop, Nat.add_zero] at this
    rw [← this, hc]
  refine ⟨?_, ?_⟩
  · rw [List.take_add_one, h1]; rfl
  · have := congrArg (List.drop 1) hqd
    simpa [List.drop_drop] using this
theorem zeroCg_one (n : Nat) : ∀ v ∈ (Builtin.zeroCells (Value.agg (cgA ⟨#[]⟩ 0 0 (zeros 64))).cells n).toList, v.oneCell' = true := by
  intro v hv
  have e : (Value.agg (cgA ⟨#[]⟩ 0 0 (zeros 64))).cells = cgA ⟨#[]⟩ 0 0 (zeros 64) := rfl
  rw [e] at hv
  unfold Builtin.zeroCells at hv
  simp only [Array.toList_map, List.mem_map, Array.toList_range] at hv
  obtain ⟨k, _, rfl⟩ := hv
  have hsz : (cgA ⟨#[]⟩ 0 0 (zeros 64)).size = 67 := by rw [cgA_size]; rfl
  have hlt : k % (cgA ⟨#[]⟩ 0 0 (zeros 64)).size < (cgA ⟨#[]⟩ 0 0 (zeros 64)).size := Nat.mod_lt _ (by rw [hsz]; omega)
  rw [getElem!_pos (cgA ⟨#[]⟩ 0 0 (zeros 64)) (k % (cgA ⟨#[]⟩ 0 0 (zeros 64)).size) hlt]
  exact cgA_one ⟨#[]⟩ 0 0 (zeros 64) _ (by rw [← cgA_toList]; exact Array.getElem_mem_toList hlt)
theorem zeroCg_len (n : Nat) : (Builtin.zeroCells (Value.agg (cgA ⟨#[]⟩ 0 0 (zeros 64))).cells n).toList.length = n * 67 := by
  have e : (Value.agg (cgA ⟨#[]⟩ 0 0 (zeros 64))).cells = cgA ⟨#[]⟩ 0 0 (zeros 64) := rfl
  have hsz : (cgA ⟨#[]⟩ 0 0 (zeros 64)).size = 67 := by rw [cgA_size]; rfl
  rw [e]
  unfold Builtin.zeroCells
  simp [hsz]
set_option maxRecDepth 100000 in
set_option maxHeartbeats 800000 in
theorem del_ok (w : World) (n0 B : Nat) (s : ByteArray) (A : Option Addr) (m cap : Nat) (pd : List Cg) (hm : pd.length = m) (hl : m < 1099511627776) (hok : ∀ c ∈ pd, CgOk c) (h : w.ownsRow n0 158 67 (.slice A m cap) m (cgCells pd)) (hB : Blk w B 9 #[.string s]) :
    Calls Tryz.prog 164 #[.slice A m cap, .func (.func 166) #[] #[.pointer (some ⟨B, 0, none⟩)]] w (DelPost n0 w A m cap pd s) := by
  have H := Lib.hid h
  have HM := Lib.hid hm
  have HL := Lib.hid hl
  have HOK := Lib.hid hok
  have HB := Lib.hid hB
  clear h hm hok hB
  go_enter Tryz.func164, Tryz.ntmps164
  go_wp2_with fail
  refine (idx_ok w n0 B s A m cap pd HM.out HL.out HOK.out H.out (by rw [HB.out.cell]; rfl)).mono ?_
  rintro e w2 ⟨r, rfl, hr, hk2⟩
  have HK2 := Lib.hid hk2
  clear hk2
  rcases hr with ⟨rfl, hno⟩ | ⟨i0, rfl, hi0, hno, hE⟩
  · have HNO := Lib.hid hno
    clear hno
    go_wp2_with fail
    go_ret
    refine ⟨A, m, cap, rfl, ?_, ?_, HK2.out.mono (fun _ _ q => q.elim), fun b q => q⟩
    · rw [notB_all HNO.out]
      exact own_keepB H.out HK2.out (fun _ _ q => q)
    · rw [notB_all HNO.out]; exact HM.out
  · obtain ⟨g, ds, rfl, hg, hb, hfl, hcm⟩ := own_full H.out (by have := HM.out; omega)
    have HFL := Lib.hid hfl
    have HCX := Lib.hid hcm
    clear hfl hcm
    have HNO := Lib.hid hno
    have HE := Lib.hid hE
    have HB2 := Lib.hid (hb.keep HK2.out (fun q => q))
    have HBL := Lib.hid hb.lt
    have him : i0 < m := by have := HM.out; omega
    have hib : ((i0 : Int) == -1) = false := by simp
    have hw1 : IntKind.i64.wrap ((i0 : Int) + 1) = ((i0 + 1 : Nat) : Int) := by rw [IntKind.wrap_i64]; omega
    clear hno hE hb
    go_wp2_with fail
    go_loopw [5, 6] (fun v5 v6 wr => DelRel w g pd ds s v5 v6 wr) (fun _ v6 _ => m - (intOf v6).toNat)
    case atStart =>
      refine ⟨i0, i0 + 1, pd, rfl, rfl, by omega, by omega, rfl, ?_, rfl, HOK.out, HB2.out, HK2.out.mono (fun _ _ q => q.elim)⟩
      rw [List.take_succ_eq_append_getElem hi0, List.filter_append, notB_all HNO.out]
      simp [notB, HE.out]
    case round =>
      obtain ⟨i, j, q, rfl, rfl, hij, hj, hql, hqt, hqd, hqo, hbq, hkq⟩ := hrel
      have HQT := Lib.hid hqt
      have HQD := Lib.hid hqd
      have HQO := Lib.hid hqo
      have HBQ := Lib.hid hbq
      have HKQ := Lib.hid hkq
      have HQL := Lib.hid hql
      have HJ := Lib.hid hj
      clear hqt hqd hqo hbq hkq hj
      by_cases hlt : j < m
      · obtain ⟨t0, r0⟩ := cg_at HBQ.out HQO.out j (by have := HM.out; omega)
        obtain ⟨c, hc, hcm⟩ := cg_eta q j (by have := HM.out; omega)
        rw [hc] at r0
        have HC : Hid (q[j]? = some c) := Lib.hid (by rw [List.getElem?_eq_getElem (by have := HM.out; omega), hc])
        have HCM := Lib.hid hcm
        have hp64 := (HQO.out c hcm).pad
        have HP64 := Lib.hid hp64
        have hjj : (j : Int) < (m : Int) := by omega
        have hzb : Blk (wr.alloc (.cells (cgA ⟨#[]⟩ 0 0 (zeros 64)) 158)) wr.heap.size 158 (cgA ⟨#[]⟩ 0 0 (zeros 64)) := Blk.new _ _ _
        have t1 := hzb.thereAll 67 (by rw [cgA_size]; rfl)
        have on1 : ones (cgA c.nm c.sec c.n (pad64 c.s)) := cgA_ones _ _ _ _
        have sz1 : (cgA c.nm c.sec c.n (pad64 c.s)).size = 67 := by rw [cgA_size, hp64]
        clear hc hcm hp64 hql hzb
        go_upto_region 8 with fail
        obtain ⟨g8, hg8⟩ : ∃ g8, wr.heap.size = g8 := ⟨_, rfl⟩
        have HG8 := Lib.hid hg8
        have hb8 : Blk ((wr.alloc (.cells (cgA ⟨#[]⟩ 0 0 (zeros 64)) 158)).setCells wr.heap.size 0 (cgA c.nm c.sec c.n (pad64 c.s)).toList) wr.heap.size 158 (cgA c.nm c.sec c.n (pad64 c.s)) := (Blk.new wr 158 _).whole _ (by rw [cgA_size, cgA_size, HP64.out]; rfl)
        have hk8 : Kp NoB wr ((wr.alloc (.cells (cgA ⟨#[]⟩ 0 0 (zeros 64)) 158)).setCells wr.heap.size 0 (cgA c.nm c.sec c.n (pad64 c.s)).toList) := Kp.setCells (.inl (Nat.le_refl _)) _ _ _ ((Kp.refl NoB wr).alloc _)
        rw [hg8] at hb8 hk8 ⊢
        generalize (wr.alloc (.cells (cgA ⟨#[]⟩ 0 0 (zeros 64)) 158)).setCells g8 0 (cgA c.nm c.sec c.n (pad64 c.s)).toList = w8 at hb8 hk8 ⊢
        have HB8 := Lib.hid hb8
        have HK8 := Lib.hid hk8
        have t8 := hb8.thereAll 67 (by rw [cgA_size, HP64.out])
        have r8 := hb8.readAll 67 (by rw [cgA_size, HP64.out])
        have hBn : ¬ OnB g B := fun e => by
          have h1 := (HBQ.out)
          have h2 := HB.out.keep HK2.out (fun q => q)
          have h3 := HB2.out
          rw [← show B = g from e] at h3
          exact blk_ne h3 h2 (by decide) rfl
        have HB9 := Lib.hid ((HB.out.keep HKQ.out hBn).keep hk8 (fun q => q))
        have hm8 : i < m := by omega
        clear hg8 hb8 hk8 t0 r0 t1 on1 sz1 hBn
        by_cases he : c.nm = s
        · have hd : decide (c.nm = s) = true := decide_eq_true he
          have HE2 := Lib.hid he
          clear he
          go_wp2_with (go_at_call 166; refine (sync1_ok w8 B s c.nm c.sec c.n (pad64 c.s) HP64.out (by rw [HB9.out.cell]; rfl)).mono ?_; rintro e w3 ⟨rfl, hk3⟩; rw [hd]; have HK3 := Lib.hid hk3; clear hk3)
          go_roundw
          case rel =>
            have k3 : Kp NoB wr w3 := HK8.out.trans HK3.out (fun _ _ q => q)
            refine ⟨i, j + 1, q, rfl, by go_num, by omega, by have := HM.out; omega, HQL.out, ?_, ?_, HQO.out, HBQ.out.keep k3 (fun q => q), HKQ.out.trans k3 (fun _ _ q => q.elim)⟩
            · rw [(del_step HQD.out HC.out).1, List.filter_append, HQT.out]
              simp [notB, HE2.out]
            · exact (del_step HQD.out HC.out).2
          case measure => simp [intOf]; omega
        · have hd : decide (c.nm = s) = false := decide_eq_false he
          have HE2 := Lib.hid he
          clear he
          go_wp2_with (go_at_call 166; refine (sync1_ok w8 B s c.nm c.sec c.n (pad64 c.s) HP64.out (by rw [HB9.out.cell]; rfl)).mono ?_; rintro e w3 ⟨rfl, hk3⟩; rw [hd]; have HK3 := Lib.hid hk3; have hb4 := HB8.out.keep hk3 (fun q => q); have t4 := hb4.thereAll 67 (by rw [cgA_size, HP64.out]); have r4 := hb4.readAll 67 (by rw [cgA_size, HP64.out]); have hbg := (HBQ.out.keep HK8.out (fun q => q)).keep hk3 (fun q => q); have t5 := (cg_at hbg HQO.out i (by have := HM.out; have := HQL.out; omega)).1; have HBG := Lib.hid hbg; have on4 : ones (cgA c.nm c.sec c.n (pad64 c.s)) := cgA_ones _ _ _ _; have sz4 : (cgA c.nm c.sec c.n (pad64 c.s)).size = 67 := (by rw [cgA_size, HP64.out]); clear hk3 hb4 hbg t8 r8)
          have hql := HQL.out
          have hiq : i < q.length := by have := HM.out; omega
          have k3 : Kp NoB wr w3 := HK8.out.trans HK3.out (fun _ _ q => q)
          refine ⟨⟨i + 1, j + 1, q.set i c, rfl, rfl, by omega, by have := HM.out; omega, by rw [List.length_set]; exact hql, ?_, ?_, ?_, cg_put HBG.out HQO.out i hiq c (HQO.out c HCM.out), ?_⟩, by simp [intOf]; omega⟩
          · rw [(del_step HQD.out HC.out).1, List.filter_append, ← HQT.out, List.take_succ_eq_append_getElem (by simpa using hiq)]
            simp [notB, HE2.out, List.take_set_of_le]
          · rw [List.drop_set, if_pos (by omega), (del_step HQD.out HC.out).2]
          · intro c' hc'
            rcases List.mem_or_eq_of_mem_set hc' with q' | q'
            · exact HQO.out c' q'
            · rw [q']; exact HQO.out c HCM.out
          · exact Kp.setCells (.inr (show OnB g g from rfl)) _ _ _ (HKQ.out.trans k3 (fun _ _ q => q.elim))
      · have hjj : ¬ (j : Int) < (m : Int) := by omega
        have ejm : j = pd.length := by have := HM.out; have := HJ.out; omega
        have him2 : i < m := by have := HM.out; have := HJ.out; omega
        have hcap : m ≤ cap := own_cap H.out
        have hic : ¬ cap = i := by omega
        have hic2 : i ≤ cap := by omega
        have hiN : (i : Int) ≤ (m : Int) := by omega
        have hiC : (i : Int) ≤ (cap : Int) := by omega
        obtain ⟨zs, hzs⟩ : ∃ zs, (Builtin.zeroCells (Value.agg (cgA ⟨#[]⟩ 0 0 (zeros 64))).cells (m - i)).toList = zs := ⟨_, rfl⟩
        have hzl : zs.length = (m - i) * 67 := by rw [← hzs]; exact zeroCg_len _
        have hcl0 : (cgCells q).length = m * 67 := by rw [cgCells_len q HQO.out, HQL.out, HM.out]
        have hth : wr.there g (i * 67) zs.length := HBQ.out.there (by simp [hcl0, hzl]; omega)
        have hcl : ∀ ty, (Builtin.clear_ #[143] ty #[.slice (some ⟨g, i * 67, none⟩) (m - i) (cap - i)]).run Tryz.prog wr = .ok (.tuple #[]) (wr.setCells g (i * 67) zs) := fun ty => by
          rw [← hzs]
          exact run_clear_sliceN wr _ _ ty _ Tryz.underlying143 zeroCg g (i * 67) _ _ (by omega) (by rw [hzs]; exact hth) (zeroCg_one _)
        have HZL := Lib.hid hzl
        have HCL0 := Lib.hid hcl0
        clear hzs hzl hcl0 hth hql ejm
        go_wp2_with fail
        go_ret
        have ejm : j = pd.length := by have := HM.out; have := HJ.out; omega
        have eq1 : q.take i = pd.filter (notB s) := by rw [HQT.out, ejm, List.take_length]
        have hiq : i ≤ q.length := by have := HM.out; have := HQL.out; omega
        have hlen : (pd.filter (notB s)).length = i := by rw [← eq1, List.length_take, Nat.min_eq_left hiq]
        have hsp : cgCells q = cgCells (q.take i) ++ cgCells (q.drop i) := by
          unfold cgCells
          rw [← List.flatMap_append, List.take_append_drop]
        have hl1 : (cgCells (q.take i)).length = i * 67 := by rw [cgCells_len _ (fun c hc => HQO.out c (List.mem_of_mem_take hc)), List.length_take, Nat.min_eq_left hiq]
        have hl2 : (cgCells (q.drop i)).length = (m - i) * 67 := by rw [cgCells_len _ (fun c hc => HQO.out c (List.mem_of_mem_drop hc)), List.length_drop, HQL.out, HM.out]
        have hbk := HBQ.out
        rw [hsp] at hbk
        have hb2 := hbk.cellsL (xs := zs) (i * 67) hl1 (by rw [hl2, HZL.out])
        have hpl : (cgCells pd).length = m * 67 := by rw [cgCells_len pd HOK.out, HM.out]
        have hfl := HFL.out
        rw [List.length_append, hpl] at hfl
        refine ⟨some ⟨g, 0, none⟩, i, cap, rfl, ?_, hlen, ?_, fun b q => q⟩
        · rw [← eq1]
          rw [List.append_assoc] at hb2
          refine own_of hg hb2 hl1 ?_ hic2 HCX.out
          rw [List.length_append, List.length_append, hl1, HZL.out, Nat.sub_mul]
          have : i * 67 ≤ m * 67 := Nat.mul_le_mul_right _ (by omega)
          omega
        · have hk : Kp (OnB g) w (wr.setCells g (i * 67) zs) := Kp.setCells (.inr (show OnB g g from rfl)) _ _ _ HKQ.out
          exact hk.mono (fun b _ q => by show some g = some b; rw [show b = g from q])
end Go.Proofs.YtoeldmkbmnkhkaaGreat
/- The stand-in disk: Sync; no condition but on the texts' lengths and the counts. -/
namespace Go.Proofs.YtoeldmkbmnkhkaaGreat
open Go.RowKit

def SyPost (n0 : Nat) (w : World) (x : Dd) (p : Pl) (s : ByteArray) (e : Ending) (w' : World) : Prop := e = .returned (.int .i64 p.syncE) ∧ To n0 w x (p.sync s) w'
/-- the changes put anew, the disk's cell stored -/
theorem Dk.pendAll {n0 : Nat} {w w1 : World} {x : Dd} (h : Dk n0 w x) (k : Kp NoB w w1) (pv : Value) (pd : List Cg) (ho : w1.ownsRow w.heap.size 158 67 pv pd.length (cgCells pd)) (hn : n0 ≤ w.heap.size) (hs : ∀ c ∈ pd, CgOk c) :
    Dk n0 (w1.setCell ⟨x.db, 1, none⟩ pv) { x with pv := pv, pd := pd } ∧ Kp x.O w (w1.setCell ⟨x.db, 1, none⟩ pv) ∧ ∀ b, ({ x with pv := pv, pd := pd } : Dd).O b → x.O b ∨ w.heap.size ≤ b := by
  have hB : Blk w1 x.db 145 (diskCells x) := h.blk.keep k (fun q => q)
  have k2 : Kp (fun b => b = x.db ∨ x.pv.ownBlock = some b) w (w1.setCell ⟨x.db, 1, none⟩ pv) := (k.mono (S' := fun b => b = x.db ∨ x.pv.ownBlock = some b) (fun _ _ q => q.elim)).setAt (.inl rfl) _ _
  refine ⟨h.pended k2 pv pd (by
    have := hB.set_ 1 pv
    simpa [diskCells] using this) (by
    refine own_keepB (ho.mono hn) ((Kp.refl (OnB x.db) w1).setAt rfl 1 pv) (fun g hg' q => ?_)
    have := (ho.lt g hg').1
    have h2 := h.blk.lt
    rw [show g = x.db from q] at this
    omega) hs, k2.pendO, O_pend (w := w) (fun b hb => .inr (ho.lt b hb).1)⟩
set_option maxRecDepth 100000 in
set_option maxHeartbeats 800000 in
theorem sync_ok (w : World) (n0 : Nat) (x : Dd) (p : Pl) (s : ByteArray) (h : Dk n0 w x) (hp : Of x p) (hs : s.size ≤ maxLen) (hn0 : n0 ≤ w.heap.size)
    (hm : p.nf < 1099511627776 - 10) (hpd : p.pd.length < 1099511627776 - 20000) :
    Calls Tryz.prog 128 #[ptrV x.db, .string s] w (SyPost n0 w x p s) := by
  have kb : Kp NoB w (w.alloc (.cells #[.string s] 9)) := (Kp.refl NoB w).alloc _
  have hb0 : Blk (w.alloc (.cells #[.string s] 9)) w.heap.size 9 #[.string s] := Blk.new _ _ _
  have h1 := h.keep kb (fun _ _ q => q) (fun _ _ _ q => q)
  have H := Lib.hid h1
  have H0 := Lib.hid h
  have HP := Lib.hid hp
  have HS := Lib.hid hs
  have HN0 := Lib.hid (show n0 ≤ (w.alloc (.cells #[.string s] 9)).heap.size from Nat.le_trans hn0 kb.size)
  have HM := Lib.hid hm
  have HPD := Lib.hid hpd
  have HKB := Lib.hid kb
  have HB0 := Lib.hid hb0
  obtain ⟨db, hdb⟩ : ∃ db, x.db = db := ⟨_, rfl⟩
  have HX := Lib.hid hdb
  rw [hdb]
  obtain ⟨B, hBB⟩ : ∃ B, w.heap.size = B := ⟨_, rfl⟩
  have HBB := Lib.hid hBB
  unfold ptrV
  rcases hdn : p.down with _ | _
  · have HDN := Lib.hid hdn
    rcases (show p.stepE = 0 ∨ p.stepE = 7 by unfold Pl.stepE; split <;> omega) with hst | hst
    · have HST := Lib.hid hst
      clear h hp hs hn0 hm hpd hdb hdn kb hb0 h1 hst hBB
      go_enter Tryz.func128, Tryz.ntmps128
      go_wp2_with (go_at_call 159; go_must (refine (show Calls _ _ #[ptrV db] _ _ by rw [← HX.out]; exact wrong_p _ n0 x p H.out HP.out false HDN.out).mono ?_); rintro e w2 ⟨rfl, rfl⟩)
      refine (show Calls _ _ #[ptrV db] _ _ by rw [← HX.out]; exact step_p _ n0 x p H.out HP.out).mono ?_
      rintro e w1 ⟨rfl, x1, hd1, hp1, hx1, hk1, ho1⟩
      rw [HST.out]
      have HD1 := Lib.hid hd1
      have HP1 := Lib.hid hp1
      have HX1 : Hid (x1.db = db) := Lib.hid (hx1.trans HX.out)
      have HX1' := Lib.hid hx1
      have HK1 := Lib.hid hk1
      have HO1 := Lib.hid ho1
      have hB1 : Blk w1 w.heap.size 9 #[.string s] := HB0.out.keep hk1 (fun q => by have := H0.out.lt _ q; omega)
      have HB1 := Lib.hid hB1
      have cB1 : w1.cell? ⟨w.heap.size, 0, none⟩ = some (.string s) := by rw [hB1.cell]; rfl
      clear hd1 hp1 hx1 hk1 ho1 hB1
      go_wp2_with fail
      refine (show Calls _ _ #[ptrV db, .string s] _ _ by rw [← HX1.out]; exact at_ok _ n0 x1 s HS.out (by have h1 : x1.mn ≤ p.nf := HP1.out.nf; have := HM.out; omega) (Nat.le_trans HN0.out HK1.out.size) HD1.out).mono ?_
      rintro e w5 ⟨e0, m2, rfl, hd5, hm5, hnm5, hsn5, hkp5, hk5, hfb5⟩
      have HD5 := Lib.hid hd5
      have HE5 := Lib.hid (show e0.nm = s ∧ e0.seen = p.seen s ∧ e0.kept = p.kept s from ⟨hnm5, by rw [hsn5, HP1.out.seen_eq]; rfl, by rw [hkp5, HP1.out.kept_eq]; rfl⟩)
      have HK5 := Lib.hid hk5
      have HF0 := Lib.hid (findF_some (show findF (putF x1.fs e0) (kOf e0.nm) = some e0 by rw [putF_find, if_pos rfl])).1
      have HO5 := Lib.hid (O_at (m := m2) HD1.out hk5 hfb5)
      have HQ5 := Lib.hid (HP1.out.at_ e0 m2 hm5 (by rw [hsn5, hnm5]) (by rw [hkp5, hnm5]))
      obtain ⟨u, v, hb, hu, hv⟩ := (hd5.fls e0 HF0.out).blk
      obtain ⟨A5, cap5, rfl⟩ := hu.form
      obtain ⟨Av, capv, rfl⟩ := hv.form
      have HB5 := Lib.hid hb
      have HU5 := Lib.hid hu
      obtain ⟨L, hL⟩ : ∃ L, e0.seen.length = L := ⟨_, rfl⟩
      obtain ⟨L2, hL2⟩ : ∃ L, e0.kept.length = L := ⟨_, rfl⟩
      have HLL := Lib.hid hL
      obtain ⟨fb, hfb⟩ : ∃ fb, e0.fb = fb := ⟨_, rfl⟩
      have HFB := Lib.hid hfb
      have c5 : w5.cell? ⟨fb, 0, none⟩ = some (.slice A5 L cap5) := by rw [← hfb, hb.cell, ← hL]; rfl
      have c6 : w5.cell? ⟨fb, 1, none⟩ = some (.slice Av L2 capv) := by rw [← hfb, hb.cell, ← hL2]; rfl
      have z6 : w5.frozen? ⟨fb, 1, none⟩ = false := by rw [← hfb]; exact hb.frozen 1
      rw [show ptrV e0.fb = .pointer (some ⟨fb, 0, none⟩) by rw [hfb]; rfl]
      clear hb hu hv hd5 hm5 hnm5 hsn5 hkp5 hk5 hfb5 hfb hL hL2
      go_upto_region 8 with fail
      have hk56 : Kp (OnB fb) w5 (w5.setCell ⟨fb, 1, none⟩ (.slice A5 L cap5)) := (Kp.refl (OnB fb) w5).setAt rfl _ _
      have hb6 : Blk (w5.setCell ⟨fb, 1, none⟩ (.slice A5 L cap5)) fb 165 #[.slice A5 L cap5, .slice A5 L cap5] := by
        have := HB5.out.set_ 1 (.slice A5 L cap5)
        rw [HFB.out, HLL.out] at this
        exact this
      have hd6 := HD5.out.refile HF0.out (by rw [HFB.out]; exact hk56) { e0 with kept := e0.seen } rfl rfl ⟨⟨.slice A5 L cap5, .slice A5 L cap5, by rw [← HFB.out] at hb6 ⊢; exact hb6, by have := HU5.out.keep hk56 (fun g cs' hc q => onb_cells HB5.out hc (by decide) (by rw [HFB.out]; exact q)); rw [HLL.out] at this; exact this, by have := HU5.out.keep hk56 (fun g cs' hc q => onb_cells HB5.out hc (by decide) (by rw [HFB.out]; exact q)); rw [HLL.out] at this; exact this⟩, (HD5.out.fls e0 HF0.out).ls, (HD5.out.fls e0 HF0.out).ls⟩
      generalize w5.setCell ⟨fb, 1, none⟩ (.slice A5 L cap5) = w6 at hk56 hd6 ⊢
      obtain ⟨x3, hx3⟩ : ∃ x3 : Dd, ({ x1 with fs := putF (putF x1.fs e0) { e0 with kept := e0.seen }, mn := m2 } : Dd) = x3 := ⟨_, rfl⟩
      have HX3 : Hid (x3.db = db ∧ x3.pv = x1.pv ∧ x3.pd = p.pd) := Lib.hid (by rw [← hx3]; exact ⟨HX1.out, rfl, HP1.out.pd.symm⟩)
      have HQ3 : Hid (Of x3 (p.step.at_.setKept s (p.seen s))) := Lib.hid (by
        have := HQ5.out.setKept { e0 with kept := e0.seen } (by simp only [seenOf_put, upd_same])
        rw [hx3] at this
        have e2 := HE5.out.1
        have e3 := HE5.out.2.1
        simp only [e2, e3] at this
        exact this)
      have HD3 : Hid (Dk n0 w6 x3) := Lib.hid (by rw [← hx3]; exact hd6)
      have HO3 : Hid (Kp x.O (w.alloc (.cells #[.string s] 9)) w6 ∧ ∀ b, x3.O b → x.O b ∨ (w.alloc (.cells #[.string s] 9)).heap.size ≤ b) := Lib.hid (by
        have o3 : ∀ b, x3.O b → x1.O b ∨ w1.heap.size ≤ b := fun b hb => HO5.out.2 b (O_put (x := { x1 with fs := putF x1.fs e0, mn := m2 }) (e := { e0 with kept := e0.seen }) ⟨e0, HF0.out, rfl⟩ b (by rw [hx3]; exact hb))
        have k5 : Kp x1.O w1 w6 := HO5.out.1.trans hk56 (fun i hi q => by
          rcases HO5.out.2 i (.inr (.inr (.inr ⟨e0, HF0.out, by rw [HFB.out]; exact q⟩))) with q | q
          · exact q
          · omega)
        refine ⟨HK1.out.trans k5 (fun i hi q => ?_), fun b hb => ?_⟩
        · rcases HO1.out i q with q | q
          · exact q
          · omega
        · rcases o3 b hb with q | q
          · exact HO1.out b q
          · exact .inr (Nat.le_trans HK1.out.size q))
      have hB6 : Blk w6 w.heap.size 9 #[.string s] := HB0.out.keep HO3.out.1 (fun q => by have := H0.out.lt _ q; omega)
      have HB6 := Lib.hid hB6
      have HN6 := Lib.hid (Nat.le_trans HN0.out HO3.out.1.size)
      obtain ⟨pl, hpl⟩ : ∃ pl, p.pd.length = pl := ⟨_, rfl⟩
      have HPL := Lib.hid hpl
      have hpf := own_slice HD3.out.pend
      simp only [HX3.out.2.2, hpl] at hpf
      obtain ⟨Ap, kp, hpv⟩ := hpf
      have HPV := Lib.hid hpv
      have c1 : w6.cell? ⟨db, 1, none⟩ = some (.slice Ap pl kp) := by rw [← HX3.out.1, HD3.out.blk.cell, ← hpv]; rfl
      clear hk56 hb6 hd6 hx3 hB6 hpl hpv c5 c6 z6
      go_wp2_with fail
      refine (cloneCg_ok w6 n0 Ap pl kp p.pd HPL.out (by have := HPD.out; rw [HPL.out] at this; omega) (by rw [← HX3.out.2.2]; exact HD3.out.s64) (by have := HD3.out.pend; rw [HX3.out.2.2, HPL.out, HPV.out] at this; exact this)).mono ?_
      rintro e w7 ⟨A7, c7, rfl, ho7, hk7⟩
      rw [HPL.out] at ho7 ⊢
      have HO7 := Lib.hid ho7
      have HK7 := Lib.hid hk7
      clear ho7 hk7
      go_wp2_with fail
      refine (del_ok w7 w6.heap.size w.heap.size s A7 pl c7 p.pd HPL.out (by have := HPD.out; rw [HPL.out] at this; omega) (by rw [← HX3.out.2.2]; exact HD3.out.s64) HO7.out (HB6.out.keep HK7.out (fun q => q))).mono ?_
      rintro e w8 ⟨A8, k8, c8, rfl, ho8, hl8, hk8, hown8⟩
      have k68 : Kp NoB w6 w8 := HK7.out.trans hk8 (fun i hi q => by have := (HO7.out.lt i q).1; omega)
      have HK68 := Lib.hid k68
      have HALL := Lib.hid (HD3.out.pendAll k68 (.slice A8 k8 c8) (p.pd.filter (notB s)) (by rw [hl8]; exact ho8) HN6.out (fun c hc => HD3.out.s64 c (by rw [HX3.out.2.2]; exact (List.mem_filter.1 hc).1)))
      have c8' : w8.cell? ⟨db, 1, none⟩ = some (.slice Ap pl kp) := by rw [k68.cell (by rw [← HX3.out.1]; exact HD3.out.blk.lt) (fun q => q)]; exact c1
      have z8 : w8.frozen? ⟨db, 1, none⟩ = false := by rw [← HX3.out.1]; exact (HD3.out.blk.keep k68 (fun q => q)).frozen 1
      clear ho8 hl8 hk8 hown8 k68 c1
      go_wp2_with fail
      go_ret
      have hall := HALL.out
      have hT : To n0 (w.alloc (.cells #[.string s] 9)) x { p.step.at_.setKept s (p.seen s) with pd := p.pd.filter (notB s) } (w8.setCell ⟨x3.db, 1, none⟩ (.slice A8 k8 c8)) := by
        refine ⟨_, hall.1, { HQ3.out with pd := rfl }, HX3.out.1.trans HX.out.symm, HO3.out.1.trans hall.2.1 (fun i hi q => ?_), fun b hb => ?_⟩
        · rcases HO3.out.2 i q with q | q
          · exact q
          · omega
        · rcases hall.2.2 b hb with q | q
          · exact HO3.out.2 b q
          · exact .inr (Nat.le_trans HO3.out.1.size q)
      refine ⟨?_, ?_⟩
      · unfold Pl.syncE; rw [HDN.out, HST.out]; rfl
      · unfold Pl.sync; rw [HDN.out, HST.out]; simp only [Bool.false_eq_true, if_false]; rw [if_neg (by omega), ← HX3.out.1]; exact hT.quiet HKB.out H0.out
    · have HST := Lib.hid hst
      clear h hp hs hn0 hm hpd hdb hdn kb hb0 h1 hst hBB
      go_enter Tryz.func128, Tryz.ntmps128
      go_wp2_with (first
        | (go_at_call 159; go_must (refine (show Calls _ _ #[ptrV db] _ _ by rw [← HX.out]; exact wrong_p _ n0 x p H.out HP.out false HDN.out).mono ?_); rintro e w2 ⟨rfl, rfl⟩)
        | (go_at_call 160; go_must (refine (show Calls _ _ #[ptrV db] _ _ by rw [← HX.out]; exact step_p _ n0 x p H.out HP.out).mono ?_); rintro e w1 ⟨rfl, ht1⟩; rw [HST.out]; have HT1 := Lib.hid ht1; clear ht1))
      go_ret
      refine ⟨?_, ?_⟩
      · unfold Pl.syncE; rw [HDN.out, HST.out]; rfl
      · unfold Pl.sync; rw [HDN.out, HST.out]; simp only [Bool.false_eq_true, if_false]; rw [if_pos (by omega)]; exact HT1.out.quiet HKB.out H0.out
  · have HDN := Lib.hid hdn
    clear h hp hs hn0 hm hpd hdb hdn kb hb0 h1 hBB
    go_enter Tryz.func128, Tryz.ntmps128
    go_wp2_with (go_at_call 159; go_must (refine (show Calls _ _ #[ptrV db] _ _ by rw [← HX.out]; exact wrong_p _ n0 x p H.out HP.out true HDN.out).mono ?_); rintro e w2 ⟨rfl, rfl⟩)
    go_ret
    refine ⟨?_, ?_⟩
    · unfold Pl.syncE; rw [HDN.out]; rfl
    · unfold Pl.sync; rw [HDN.out]; exact (To.refl H.out HP.out).quiet HKB.out H0.out
end Go.Proofs.YtoeldmkbmnkhkaaGreat
/- The stand-in disk: survive; no condition. -/
namespace Go.Proofs.YtoeldmkbmnkhkaaGreat
open Go.RowKit

end Go.Proofs.YtoeldmkbmnkhkaaGreat
/- The stand-in disk: Restart, its plain parts; no condition. -/
namespace Go.Proofs.YtoeldmkbmnkhkaaGreat
open Go.RowKit

/-- a slice of numbers in memory -/
def Nums (w : World) (A : Option Addr) (n : Nat) (xs : List Int) : Prop :=
  xs.length = n ∧ (0 < n → ∃ g o, A = some ⟨g, o, none⟩ ∧ g < w.heap.size ∧ ∀ k, k < n → w.cell? ⟨g, o + k, none⟩ = some (.int .i64 (xs.getD k 0)))
theorem Nums.keep {S : Nat → Prop} {w w' : World} {A : Option Addr} {n : Nat} {xs : List Int} (h : Nums w A n xs) (k : Kp S w w') (hS : ∀ g o, A = some ⟨g, o, none⟩ → ¬ S g) : Nums w' A n xs :=
  ⟨h.1, fun hn => by
    obtain ⟨g, o, e, hg, hc⟩ := h.2 hn
    exact ⟨g, o, e, Nat.lt_of_lt_of_le hg k.size, fun j hj => (k.cell hg (hS g o e)).trans (hc j hj)⟩⟩
theorem seenOf_kept (fs : List Fe) : seenOf (fs.map fun e => { e with seen := e.kept }) = keptOf fs ∧ keptOf (fs.map fun e => { e with seen := e.kept }) = keptOf fs ∧ allSum (fs.map fun e => { e with seen := e.kept }) = allKept fs ∧ allKept (fs.map fun e => { e with seen := e.kept }) = allKept fs := by
  refine ⟨?_, ?_, ?_, ?_⟩
  · funext s
    induction fs with
    | nil => rfl
    | cons y r ih =>
      rw [List.map_cons, seenOf_cons, keptOf_cons, ih]
  · funext s
    induction fs with
    | nil => rfl
    | cons y r ih =>
      rw [List.map_cons, keptOf_cons, keptOf_cons, ih]
  · unfold allSum allKept
    rw [List.map_map]
    rfl
  · unfold allKept
    rw [List.map_map]
    rfl
end Go.Proofs.YtoeldmkbmnkhkaaGreat
/- The stand-in disk: Restart; no condition but on the counts. -/
namespace Go.Proofs.YtoeldmkbmnkhkaaGreat
open Go.RowKit

attribute [local go_sem ↓] loadCg storeCg allocCg
theorem Of.turn {x : Dd} {q : Pl} (h : Of x q) (s : Int) : Of { x with fs := x.fs.map fun e => { e with seen := e.kept }, pv := .slice none 0 0, pd := [], steps := 0, crash := 0, down := false, starts := s } { q with seen := q.kept, sum := q.ksum, pd := [], steps := 0, crash := 0, down := false, starts := s } :=
  { seen := by rw [(seenOf_kept x.fs).1]; exact h.kept
    kept := by rw [(seenOf_kept x.fs).2.1]; exact h.kept
    sum := by rw [(seenOf_kept x.fs).2.2.1]; exact h.ksum
    ksum := by rw [(seenOf_kept x.fs).2.2.2]; exact h.ksum
    nf := h.nf
    pd := rfl
    room := h.room
    steps := rfl
    crash := rfl
    down := rfl
    starts := rfl }
end Go.Proofs.YtoeldmkbmnkhkaaGreat
/- The stand-in disk's calls where the disk is the caller's own; no condition but on the texts' lengths and the counts. -/
namespace Go.Proofs.YtoeldmkbmnkhkaaGreat
open Go.RowKit

/-- a disk of the caller's own: made behind W0 -/
def Da (W0 w : World) (db : Nat) (p : Pl) : Prop := ∃ x, x.db = db ∧ Dk W0.heap.size w x ∧ Of x p ∧ Kp NoB W0 w ∧ ∀ b, x.O b → W0.heap.size ≤ b
theorem Da.keep {W0 w w' : World} {db : Nat} {p : Pl} (h : Da W0 w db p) (k : Kp NoB w w') : Da W0 w' db p := by
  obtain ⟨x, e, hd, hp, hk, ho⟩ := h
  exact ⟨x, e, hd.keep k (fun _ _ q => q) (fun _ _ _ q => q), hp, hk.trans k (fun _ _ q => q), ho⟩
theorem Da.kp {W0 w : World} {db : Nat} {p : Pl} (h : Da W0 w db p) : Kp NoB W0 w := by
  obtain ⟨x, e, hd, hp, hk, ho⟩ := h
  exact hk
section
variable {W0 w : World} {db : Nat} {p : Pl}
end
theorem Nums.nil (w : World) : Nums w none 0 [] := ⟨rfl, fun h => absurd h (by omega)⟩
/-! ### the answers that every law asks at its end -/
def nmF : ByteArray := ⟨#[102]⟩
def awX : ByteArray := ⟨#[120, 120, 120, 120, 120, 120, 120, 120, 120, 120]⟩
def awY : ByteArray := ⟨#[121, 121]⟩
end Go.Proofs.YtoeldmkbmnkhkaaGreat
/- The rollback journal in plain Lean: its steps on the plain disk; no condition. -/
namespace Go.Proofs.YtoeldmkbmnkhkaaGreat
open Go

def nmDb : ByteArray := ⟨#[100, 98]⟩
def nmJn : ByteArray := ⟨#[106, 111, 117, 114, 110, 97, 108]⟩
/-- a step: 0 a write, 1 a truncation, else a sync -/
structure Stp where
  k : Nat
  nm : ByteArray
  at_ : Int
  d : List Int
namespace Pl
def stE (p : Pl) (s : Stp) : Int := if s.k = 0 then p.writeE s.nm s.at_ s.d else if s.k = 1 then p.truncE s.nm s.at_ else p.syncE
def stP (p : Pl) (s : Stp) : Pl := if s.k = 0 then p.write s.nm s.at_ s.d else if s.k = 1 then p.trunc s.nm s.at_ else p.sync s.nm
/-- steps, till one is refused -/
def runS : Pl → List Stp → Pl × Int
  | p, [] => (p, 0)
  | p, s :: r => if p.stE s = 0 then runS (p.stP s) r else (p.stP s, p.stE s)
end Pl
def four (n : Int) : List Int := [n / 16777216 % 256, n / 65536 % 256, n / 256 % 256, n % 256]
def num (l : List Int) (a : Nat) : Int := l.getD a 0 * 16777216 + l.getD (a + 1) 0 * 65536 + l.getD (a + 2) 0 * 256 + l.getD (a + 3) 0
/-- four words -/
structure W4 where
  a : Int
  b : Int
  c : Int
  d : Int
def W4.bytes (w : W4) : List Int := four w.a ++ four w.b ++ four w.c ++ four w.d
def sealB (w : W4) : List Int := w.bytes ++ w.bytes ++ w.bytes ++ zeros 16
def wordsAt (l : List Int) (a : Nat) : W4 := ⟨num l a, num l (a + 4), num l (a + 8), num l (a + 12)⟩
/-- what a sealed sector says -/
def openB (l : List Int) : W4 := if l.take 16 = (l.drop 16).take 16 then wordsAt l 0 else wordsAt l 32
def says (l : List Int) : W4 := if l.length < 64 then ⟨0, 0, 0, 0⟩ else openB (l.take 64)
/-- a page with its number -/
structure Pg where
  n : Int
  b : List Int
def pageOf (l : List Int) (n : Nat) : List Int := sizedF (l.drop ((n - 1) * 256)) 256
namespace Pl
def jcount (p : Pl) : Nat := p.len nmDb / 256
def jhead (p : Pl) : W4 := says (p.seen nmJn)
def jheadD (p : Pl) : W4 := if p.down then ⟨0, 0, 0, 0⟩ else p.jhead
def jhot (p : Pl) : Bool := !p.down && decide ((p.jhead).a ≠ 0)
end Pl
def hasPg (l : List Pg) (n : Int) : Bool := l.any fun x => decide (x.n = n)
def chainPg (count : Int) : Int → List Pg → Bool
  | _, [] => true
  | last, x :: r => decide (last < x.n ∧ x.n ≤ count) && chainPg count x.n r
def above (old : Int) (l : List Pg) : Nat := l.countP fun x => decide (old < x.n)
def fitPg (old count : Int) (l : List Pg) : Bool := decide (0 ≤ count ∧ count ≤ 4096) && (chainPg count 0 l && decide ((above old l : Int) = max 0 (count - old)))
def headS (nm : ByteArray) (w : W4) : List Stp := [⟨0, nm, 0, sealB w⟩, ⟨2, nm, 0, []⟩]
def homeW (l : List Pg) : List Stp := l.map fun x => ⟨0, nmDb, (x.n - 1) * 256, x.b⟩
def homeS (count : Int) (l : List Pg) : List Stp := homeW l ++ [⟨1, nmDb, count * 256, []⟩, ⟨2, nmDb, 0, []⟩]
/-- a record of the journal -/
def recB (x : Pg) : List Int := four x.n ++ zeros 60 ++ x.b
def asideW : Nat → List Pg → List Stp
  | _, [] => []
  | k, x :: r => ⟨0, nmJn, 64 + 320 * (k : Int), recB x⟩ :: asideW (k + 1) r
def asideS (l : List Pg) : List Stp := asideW 0 l ++ [⟨2, nmJn, 0, []⟩]
def asidePg (db : List Int) (old count : Nat) (l : List Pg) : List Pg :=
  ((List.range' 1 old).filter fun n => decide (count < n) || hasPg l n).map fun (n : Nat) => ⟨(n : Int), pageOf db n⟩
def firstS (w : W4) (old : Nat) (aside : List Pg) : List Stp := headS nmJn w ++ (asideS aside ++ headS nmJn ⟨aside.length + 1, old, 0, 0⟩)
def secondS (count : Int) (l : List Pg) : List Stp := homeS count l ++ headS nmJn ⟨0, 0, 0, 0⟩
/-- too long is too full -/
def fullE (e : Int) : Int := if e = 3 then 5 else e
/-- the records of a journal from the k-th on, i of them -/
def recsPg (l : List Int) (top : Int) : Nat → Nat → Int → Option (List Pg)
  | 0, _, _ => some []
  | i + 1, k, last =>
    let b := (l.drop (64 + 320 * k)).take 320
    if b.length < 320 then none else if (b.drop 4).take 60 = zeros 60 ∧ last < num b 0 ∧ num b 0 ≤ top then
      (recsPg l top i (k + 1) (num b 0)).map fun r => ⟨num b 0, b.drop 64⟩ :: r
    else none
def recordsPg (l : List Int) (w : W4) : Option (List Pg) := if 4096 < w.a - 1 ∨ 4096 < w.b ∨ w.c ≠ 0 ∨ w.d ≠ 0 then none else recsPg l w.b (w.a - 1).toNat 0 0
namespace Pl
def recS (w : W4) (l : List Pg) : List Stp := headS nmJn w ++ (homeS w.b l ++ headS nmJn ⟨0, 0, 0, 0⟩)
/-- taken back: the disk, is it taken back, the error -/
def jrecover (p : Pl) : Pl × Bool × Int :=
  if p.down then (p, false, 7) else if p.jhot = false then (p, false, 0) else
    match recordsPg (p.seen nmJn) p.jhead with
    | none => (p, false, 8)
    | some l => let q := p.runS (recS p.jhead l); (q.1, decide (q.2 = 0), q.2)
def jfirst (p : Pl) (count : Int) (l : List Pg) : List Stp := firstS p.jhead p.jcount (asidePg (p.seen nmDb) p.jcount count.toNat l)
def jcommit (p : Pl) (count : Int) (l : List Pg) : Pl × Int :=
  if p.down then (p, 7) else if fitPg p.jcount count l = false then (p, 2) else if p.jhot then (p, 6) else
    let q := p.runS (p.jfirst count l)
    if q.2 ≠ 0 then (q.1, fullE q.2) else
      let r := q.1.runS (secondS count l)
      if r.2 = 5 then (let s := r.1.jrecover; if s.2.2 ≠ 0 then (s.1, s.2.2) else (s.1, 5)) else r
def jpageE (p : Pl) (n : Int) : Int := if p.down then 7 else if n < 1 ∨ (p.jcount : Int) < n then 4 else 0
def jpage (p : Pl) (n : Int) : List Int := if p.jpageE n = 0 then pageOf (p.seen nmDb) n.toNat else zeros 256
end Pl
theorem runS_nil (p : Pl) : p.runS [] = (p, 0) := rfl
theorem runS_cons (p : Pl) (s : Stp) (r : List Stp) : p.runS (s :: r) = if p.stE s = 0 then (p.stP s).runS r else (p.stP s, p.stE s) := rfl
theorem runS_append : ∀ (a b : List Stp) (p : Pl), p.runS (a ++ b) = if (p.runS a).2 = 0 then (p.runS a).1.runS b else p.runS a
  | [], b, p => by simp [runS_nil]
  | s :: r, b, p => by
    have ih := runS_append r b (p.stP s)
    rw [List.cons_append, runS_cons, runS_cons]
    by_cases h : p.stE s = 0
    · rw [if_pos h, if_pos h, ih]
    · rw [if_neg h, if_neg h, if_neg h]
/-- how far the counts are from their bound -/
def Pl.sm (p : Pl) (k : Nat) : Prop := p.nf + p.pd.length + k < 1099511627776
theorem sm_mono {p : Pl} {a b : Nat} (h : p.sm a) (hb : b ≤ a) : p.sm b := by unfold Pl.sm at h ⊢; omega
theorem sectors_len (s : ByteArray) (l : List Int) (a e : Nat) : (Pl.sectors s l a e).length = (e + 63) / 64 - a / 64 := by simp [Pl.sectors]
theorem sm_write {p : Pl} {k : Nat} (s : ByteArray) (a : Int) (d : List Int) (h : p.sm (k + 20000)) : (p.write s a d).sm k := by
  unfold Pl.sm at h ⊢
  unfold Pl.write
  split
  · omega
  · rename_i h1
    split
    · simp only [Pl.step]; omega
    · split
      · omega
      · have e1 : (a.toNat + d.length + 63) / 64 - a.toNat / 64 ≤ 16386 := by omega
        unfold Pl.write1
        simp only [Pl.step, Pl.pend, Pl.setSeen, Pl.at_, List.length_append, sectors_len]
        split
        · unfold Pl.length
          split
          · simp only [Pl.at_]; omega
          · simp only [Pl.pend, Pl.setSeen, Pl.at_, List.length_append, List.length_cons, List.length_nil]; omega
        · omega
theorem sm_trunc {p : Pl} {k : Nat} (s : ByteArray) (n : Int) (h : p.sm (k + 20000)) : (p.trunc s n).sm k := by
  unfold Pl.sm at h ⊢
  unfold Pl.trunc
  split
  · omega
  · simp only [Pl.step]
    unfold Pl.length
    split
    · simp only [Pl.at_]; omega
    · simp only [Pl.pend, Pl.setSeen, Pl.at_, List.length_append, List.length_cons, List.length_nil]; omega
theorem sm_sync {p : Pl} {k : Nat} (s : ByteArray) (h : p.sm (k + 20000)) : (p.sync s).sm k := by
  unfold Pl.sm at h ⊢
  unfold Pl.sync
  split
  · omega
  · split
    · simp only [Pl.step]; omega
    · simp only [Pl.step, Pl.setKept, Pl.at_]
      have := List.length_filter_le (fun c : Cg => !decide (c.nm = s)) p.pd
      omega
theorem sm_st {p : Pl} {k : Nat} (s : Stp) (h : p.sm (k + 20000)) : (p.stP s).sm k := by
  unfold Pl.stP
  split
  · exact sm_write _ _ _ h
  · split
    · exact sm_trunc _ _ h
    · exact sm_sync _ h
theorem sm_run : ∀ (l : List Stp) {p : Pl} {k : Nat}, p.sm (k + 20000 * l.length) → (p.runS l).1.sm k
  | [], p, k, h => by rw [runS_nil]; exact sm_mono h (by omega)
  | s :: r, p, k, h => by
    have h1 : (p.stP s).sm (k + 20000 * r.length) := sm_st s (sm_mono h (by simp only [List.length_cons]; omega))
    rw [runS_cons]
    split
    · exact sm_run r h1
    · exact sm_mono h1 (by omega)
end Go.Proofs.YtoeldmkbmnkhkaaGreat
/- The stand-in disk among a caller's own blocks; no condition but on the texts' lengths and the counts. -/
namespace Go.Proofs.YtoeldmkbmnkhkaaGreat
open Go.RowKit

/-- a disk at db: since W0 only blocks of S are changed, and all its blocks are of S or newer than W0 -/
def Dq (S : Nat → Prop) (W0 w : World) (db : Nat) (p : Pl) : Prop := ∃ x, x.db = db ∧ Dk 0 w x ∧ Of x p ∧ Kp S W0 w ∧ (∀ b, x.O b → S b ∨ W0.heap.size ≤ b) ∧ ∀ b, S b → b < W0.heap.size
section
variable {S : Nat → Prop} {W0 w w' : World} {db : Nat} {p p' : Pl}
theorem Dq.kp (h : Dq S W0 w db p) : Kp S W0 w := by
  obtain ⟨x, e, hd, hp, hk, ho, hs⟩ := h
  exact hk
theorem Dq.lt (h : Dq S W0 w db p) : ∀ b, S b → b < W0.heap.size := by
  obtain ⟨x, e, hd, hp, hk, ho, hs⟩ := h
  exact hs
theorem Dq.keep (h : Dq S W0 w db p) (k : Kp NoB w w') : Dq S W0 w' db p := by
  obtain ⟨x, e, hd, hp, hk, ho, hs⟩ := h
  exact ⟨x, e, hd.keep k (fun _ _ q => q) (fun _ _ _ q => q), hp, hk.trans k (fun _ _ q => q.elim), ho, hs⟩
/-- the base moved up to now -/
theorem Dq.base (h : Dq S W0 w db p) : ∃ S', Dq S' w w db p ∧ (∀ b, S' b → S b ∨ W0.heap.size ≤ b) := by
  obtain ⟨x, e, hd, hp, hk, ho, hs⟩ := h
  exact ⟨x.O, ⟨x, e, hd, hp, Kp.refl _ _, fun b q => .inl q, hd.lt⟩, ho⟩
theorem Dq.base1 (h : Dq S w w db p) (k : Kp NoB w w') : Dq S w' w' db p := by
  obtain ⟨x, e, hd, hp, hk, ho, hs⟩ := h
  refine ⟨x, e, hd.keep k (fun _ _ q => q) (fun _ _ _ q => q), hp, Kp.refl _ _, fun b hb => ?_, fun b hb => Nat.lt_of_lt_of_le (hs b hb) k.size⟩
  rcases ho b hb with q | q
  · exact .inl q
  · have := hd.lt b hb
    omega
theorem Dq.tr {S' : Nat → Prop} {w0 : World} (h : Dq S' w w' db p') (k : Kp S W0 w) (hS : ∀ b, S' b → S b ∨ W0.heap.size ≤ b) (hs : ∀ b, S b → b < W0.heap.size) : Dq S W0 w' db p' := by
  obtain ⟨x, e, hd, hp, hk, ho, _⟩ := h
  refine ⟨x, e, hd, hp, k.trans hk (fun b hb q => ?_), fun b hb => ?_, hs⟩
  · rcases hS b q with q | q
    · exact q
    · omega
  · rcases ho b hb with q | q
    · exact hS b q
    · exact .inr (Nat.le_trans k.size q)
theorem Dq.up (h : Dq S w' w' db p) (k : Kp NoB w w') (hs : ∀ b, S b → b < w.heap.size) {w2 : World} (h2 : Dq S w' w2 db p') : Dq S w w2 db p' :=
  Dq.tr (w0 := w) h2 (k.mono (fun _ _ q => q.elim)) (fun _ q => .inl q) hs
theorem dq_of {x : Dd} {n0 : Nat} (hd : x.db = db) (hk : Kp S W0 w) (ho : ∀ b, x.O b → S b ∨ W0.heap.size ≤ b) (hs : ∀ b, S b → b < W0.heap.size) (h : To 0 w x p' w') : Dq S W0 w' db p' := by
  obtain ⟨x', hd', hp, e, k, o⟩ := h
  refine ⟨x', e.trans hd, hd', hp, hk.trans k (fun i hi q => ?_), fun b hb => ?_, hs⟩
  · rcases ho i q with q | q
    · exact q
    · omega
  · rcases o b hb with q | q
    · exact ho b q
    · exact .inr (Nat.le_trans hk.size q)
theorem new_q (w : World) (r : Int) (hr : -9223372036854775808 ≤ r ∧ r ≤ 9223372036854775807) :
    Calls Tryz.prog 21 #[.int .i64 r] w fun e w' => ∃ db, e = .returned (ptrV db) ∧ Dq (fun _ => False) w w' db (Pl.new r) :=
  (new_ok w r hr 0 (Nat.zero_le _)).mono fun e w' ⟨db, mb, he, hd, k, h1, h2⟩ => ⟨db, he, _, rfl, hd, ⟨rfl, rfl, rfl, rfl, Nat.le_refl _, rfl, rfl, rfl, rfl, rfl, rfl⟩, k, by
    refine ⟨?_, fun b q => q.elim⟩
    rintro b (rfl | rfl | q | ⟨e, he, rfl⟩)
    · exact .inr h1
    · exact .inr h2
    · cases q
    · cases he⟩
theorem write_q (h : Dq S W0 w db p) (s : ByteArray) (a : Int) (d : ByteArray) (hs : s.size ≤ maxLen) (hds : d.size ≤ maxLen) (hm : p.sm 20000) :
    Calls Tryz.prog 123 #[ptrV db, .string s, .int .i64 a, .string d] w fun e w' => e = .returned (.int .i64 (p.writeE s a (strI d))) ∧ Dq S W0 w' db (p.write s a (strI d)) := by
  obtain ⟨x, rfl, hd, hp, hk, ho, hz⟩ := h
  unfold Pl.sm at hm
  exact (write_ok w _ x p s a d hd hp hs hds (Nat.zero_le _) (by omega) (by omega)).mono fun e w' ⟨he, ht⟩ => ⟨he, dq_of (n0 := 0) rfl hk ho hz ht⟩
theorem trunc_q (h : Dq S W0 w db p) (s : ByteArray) (n : Int) (hn : -9223372036854775808 ≤ n ∧ n ≤ 9223372036854775807) (hs : s.size ≤ maxLen) (hm : p.sm 20000) :
    Calls Tryz.prog 126 #[ptrV db, .string s, .int .i64 n] w fun e w' => e = .returned (.int .i64 (p.truncE s n)) ∧ Dq S W0 w' db (p.trunc s n) := by
  obtain ⟨x, rfl, hd, hp, hk, ho, hz⟩ := h
  unfold Pl.sm at hm
  exact (trunc_ok w _ x p s n hn hd hp hs (Nat.zero_le _) (by omega) (by omega)).mono fun e w' ⟨he, ht⟩ => ⟨he, dq_of (n0 := 0) rfl hk ho hz ht⟩
theorem sync_q (h : Dq S W0 w db p) (s : ByteArray) (hs : s.size ≤ maxLen) (hm : p.sm 20000) :
    Calls Tryz.prog 128 #[ptrV db, .string s] w fun e w' => e = .returned (.int .i64 p.syncE) ∧ Dq S W0 w' db (p.sync s) := by
  obtain ⟨x, rfl, hd, hp, hk, ho, hz⟩ := h
  unfold Pl.sm at hm
  exact (sync_ok w _ x p s hd hp hs (Nat.zero_le _) (by omega) (by omega)).mono fun e w' ⟨he, ht⟩ => ⟨he, dq_of (n0 := 0) rfl hk ho hz ht⟩
theorem read_q (h : Dq S W0 w db p) (s : ByteArray) (a n : Int) (hs : s.size ≤ maxLen) (ha : -9223372036854775808 ≤ a ∧ a ≤ 9223372036854775807) (hn : -9223372036854775808 ≤ n ∧ n ≤ 9223372036854775807) :
    Calls Tryz.prog 145 #[ptrV db, .string s, .int .i64 a, .int .i64 n] w fun e w' => e = .returned (.tuple #[.string (strOf (p.read s a n)), .int .i64 (p.readE a n)]) ∧ Kp NoB w w' := by
  obtain ⟨x, rfl, hd, hp, hk, ho, hz⟩ := h
  exact read_ok w _ x p s a n ha hn hd hp hs
theorem len_q (h : Dq S W0 w db p) (s : ByteArray) (hs : s.size ≤ maxLen) : Calls Tryz.prog 179 #[ptrV db, .string s] w fun e w' => e = .returned (.int .i64 (p.len s)) ∧ w = w' := by
  obtain ⟨x, rfl, hd, hp, hk, ho, hz⟩ := h
  exact len_ok w _ x p s hd hp hs
/-- what is known of the plain state behind a disk -/
theorem Dq.seen_le (h : Dq S W0 w db p) (s : ByteArray) : (p.seen s).length ≤ 1048576 := by
  obtain ⟨x, rfl, hd, hp, hk, ho, hz⟩ := h
  rw [hp.seen]
  exact Go.Proofs.YtoeldmkbmnkhkaaGreat.seen_le hd s
theorem Dq.seen_rng (h : Dq S W0 w db p) (s : ByteArray) : ∀ y ∈ p.seen s, 0 ≤ y ∧ y < 256 := by
  obtain ⟨x, rfl, hd, hp, hk, ho, hz⟩ := h
  rw [hp.seen]
  unfold seenOf
  split
  · rename_i e hf
    obtain ⟨u, v, _, hu, _⟩ := (hd.fls e (findF_some hf).1).blk
    exact hu.rng
  · simp
end
end Go.Proofs.YtoeldmkbmnkhkaaGreat
/- The reference's disk, its values in memory; no condition. -/
namespace Go.Proofs.YtoeldmkbmnkhkaaGreat
open Go.RowKit

theorem Blk.top {W : World} {g : Nat} {t : TypeId} {cs : Array Value} (e : W.heap.size = g) : Blk (W.alloc (.cells cs t)) g t cs := e ▸ Blk.new W t cs
/-- a file of the reference: its name, what is seen, what is kept -/
structure Rfile where
  nm : ByteArray
  seen : List Int
  kept : List Int
def rfCells (f : Rfile) : List Value := [.string f.nm, .string (strOf f.seen), .string (strOf f.kept)]
def rcCells (c : Cg) : List Value := [.string c.nm, .int .i64 c.sec, .int .i64 c.n, .string (strOf c.s)]
/-- no type of the stand-in disk's own blocks -/
def NotDk (t : TypeId) : Prop := t ≠ 145 ∧ t ≠ 165 ∧ t ≠ 158
instance (t : TypeId) : Decidable (NotDk t) := by unfold NotDk; infer_instance
/-- a list of structs in memory that nobody writes, in a block of another type than the stand-in disk's -/
def Rows (w : World) (A : Option Addr) (n : Nat) (sz : Nat) (xs : List (List Value)) : Prop :=
  xs.length = n ∧ (∀ x ∈ xs, x.length = sz) ∧ (0 < n → ∃ g o, ∃ t : { t : TypeId // NotDk t }, ∃ cs, A = some ⟨g, o, none⟩ ∧ Blk w g t.1 cs ∧ o + n * sz ≤ cs.size ∧ ∀ k (h : k < xs.length) j (hj : j < sz), cs[o + k * sz + j]? = xs[k][j]?)
theorem Rows.keep {w w' : World} {A : Option Addr} {n sz : Nat} {xs : List (List Value)} (h : Rows w A n sz xs) (k : Kp NoB w w') : Rows w' A n sz xs :=
  ⟨h.1, h.2.1, fun hn => by
    obtain ⟨g, o, t, cs, e, hb, hs, hc⟩ := h.2.2 hn
    exact ⟨g, o, t, cs, e, hb.keep k (fun q => q), hs, hc⟩⟩
theorem Rows.cell {w : World} {A : Option Addr} {n sz : Nat} {xs : List (List Value)} (h : Rows w A n sz xs) {k : Nat} {x : List Value} (hk : xs[k]? = some x) : ∃ g o, A = some ⟨g, o, none⟩ ∧ g < w.heap.size ∧ ∀ j v, x[j]? = some v → w.cell? ⟨g, o + k * sz + j, none⟩ = some v := by
  obtain ⟨hk', rfl⟩ := List.getElem?_eq_some_iff.1 hk
  obtain ⟨g, o, t, cs, e, hb, hs, hc⟩ := h.2.2 (by have := h.1; omega)
  refine ⟨g, o, e, hb.lt, fun j v hj => ?_⟩
  have hjl : j < sz := by
    rw [← h.2.1 _ (List.getElem_mem hk')]
    exact (List.getElem?_eq_some_iff.1 hj).1
  rw [hb.cell, hc k hk' j hjl]
  exact hj
structure Rd where
  fA : Option Addr
  fn : Nat
  fc : Nat
  fs : List Rfile
  pA : Option Addr
  pn : Nat
  pc : Nat
def findR (fs : List Rfile) (s : ByteArray) : Option Rfile := fs.find? fun f => decide (f.nm = s)
def seenR (fs : List Rfile) (s : ByteArray) : List Int := match findR fs s with | some f => f.seen | none => []
def keptR (fs : List Rfile) (s : ByteArray) : List Int := match findR fs s with | some f => f.kept | none => []
def sumR (fs : List Rfile) : Int := (fs.map fun f => (f.seen.length : Int)).sum
def ksumR (fs : List Rfile) : Int := (fs.map fun f => (f.kept.length : Int)).sum
structure RfOk (f : Rfile) : Prop where
  nl : f.nm.size ≤ maxLen
  srng : ∀ y ∈ f.seen, 0 ≤ y ∧ y < 256
  krng : ∀ y ∈ f.kept, 0 ≤ y ∧ y < 256
  sl : f.seen.length ≤ 1048576
  kl : f.kept.length ≤ 1048576
/-- the reference's disk is the plain state -/
structure Rf (w : World) (d : Rd) (p : Pl) : Prop where
  files : Rows w d.fA d.fn 3 (d.fs.map rfCells)
  pend : Rows w d.pA d.pn 4 (p.pd.map rcCells)
  fnil : d.fA = none → d.fn = 0 ∧ d.fc = 0
  pnil : d.pA = none → d.pn = 0 ∧ d.pc = 0
  fok : ∀ f ∈ d.fs, RfOk f
  cok : ∀ c ∈ p.pd, CgOk c
  names : d.fs.Pairwise fun x y => x.nm ≠ y.nm
  seen : p.seen = seenR d.fs
  kept : p.kept = keptR d.fs
  sum : p.sum = sumR d.fs
  ksum : p.ksum = ksumR d.fs
  nf : d.fn ≤ p.nf
  room : 0 ≤ p.room ∧ p.room ≤ 9223372036854775807
  steps : -9223372036854775808 ≤ p.steps ∧ p.steps ≤ 9223372036854775807
  crash : 0 ≤ p.crash ∧ p.crash ≤ 9223372036854775807
  starts : -9223372036854775808 ≤ p.starts ∧ p.starts ≤ 9223372036854775807
theorem Rf.keep {w w' : World} {d : Rd} {p : Pl} (h : Rf w d p) (k : Kp NoB w w') : Rf w' d p := { h with files := h.files.keep k, pend := h.pend.keep k }
theorem Rf.pl {w : World} {d : Rd} {p : Pl} (h : Rf w d p) : p.pd.length = d.pn := by have := h.pend.1; simpa using this
end Go.Proofs.YtoeldmkbmnkhkaaGreat
/- The reference's disk: Find, Seen, step; no condition. -/
namespace Go.Proofs.YtoeldmkbmnkhkaaGreat
open Go.RowKit

end Go.Proofs.YtoeldmkbmnkhkaaGreat
/- The reference's disk: Seen, file; no condition. -/
namespace Go.Proofs.YtoeldmkbmnkhkaaGreat
open Go.RowKit

end Go.Proofs.YtoeldmkbmnkhkaaGreat
/- The reference's lists of structs: rows in memory, appended and set; no condition. -/
namespace Go.Proofs.YtoeldmkbmnkhkaaGreat
open Go.RowKit

theorem flat_at (sz : Nat) : ∀ (xs : List (List Value)), (∀ x ∈ xs, x.length = sz) → ∀ (k j : Nat) (hj : j < sz) (hk : k < xs.length), xs.flatten[k * sz + j]? = xs[k][j]? := by
  intro xs
  induction xs with
  | nil => intro _ k j _ hk; simp at hk
  | cons x r ih =>
    intro h k j hj hk
    have hx := h x (by simp)
    rw [List.flatten_cons]
    cases k with
    | zero =>
      rw [List.getElem?_append_left (by rw [hx]; omega)]
      simp
    | succ k =>
      rw [List.getElem?_append_right (by rw [hx, Nat.add_mul]; omega), hx, show (k + 1) * sz + j - sz = k * sz + j by rw [Nat.add_mul]; omega, ih (fun y hy => h y (by simp [hy])) k j hj (by simpa using hk)]
      simp
theorem flat_len (sz : Nat) : ∀ (xs : List (List Value)), (∀ x ∈ xs, x.length = sz) → xs.flatten.length = xs.length * sz := by
  intro xs
  induction xs with
  | nil => intro _; simp
  | cons x r ih =>
    intro h
    rw [List.flatten_cons, List.length_append, h x (by simp), ih (fun y hy => h y (by simp [hy])), List.length_cons, Nat.add_mul]
    omega
theorem Rows.own {w : World} {base n cap sz : Nat} {e : TypeId} {A : Option Addr} {xs : List (List Value)} (h : w.ownsRow base e sz (.slice A n cap) n xs.flatten) (hl : xs.length = n) (hx : ∀ x ∈ xs, x.length = sz) (he : NotDk e := by decide) : Rows w A n sz xs :=
  ⟨hl, hx, fun hn => by
    obtain ⟨g, ds, rfl, hg, hb⟩ := own_blkN h hn
    refine ⟨g, 0, ⟨e, he⟩, _, rfl, hb, ?_, fun k hk j hj => ?_⟩
    · simp only [Nat.zero_add, List.size_toArray, List.length_append, flat_len sz xs hx, hl]
      omega
    · have hlt : k * sz + j < xs.flatten.length := by
        rw [flat_len sz xs hx]
        have : (k + 1) * sz ≤ xs.length * sz := Nat.mul_le_mul_right _ hk
        rw [Nat.add_mul] at this
        omega
      simp only [Nat.zero_add, List.getElem?_toArray]
      rw [List.getElem?_append_left hlt, flat_at sz xs hx k j hj hk]⟩
end Go.Proofs.YtoeldmkbmnkhkaaGreat
/- Lists of structs that lie in memory, whoever they belong to: rows that are read; no condition. -/
namespace Go.Proofs.YtoeldmkbmnkhkaaGreat
open Go.RowKit

/-- a list of structs in memory that may be read -/
def RowsC (w : World) (A : Option Addr) (n : Nat) (sz : Nat) (xs : List (List Value)) : Prop :=
  xs.length = n ∧ (∀ x ∈ xs, x.length = sz) ∧ (0 < n → ∃ g o, A = some ⟨g, o, none⟩ ∧ g < w.heap.size ∧ ∀ k (h : k < xs.length) j (hj : j < sz), w.cell? ⟨g, o + k * sz + j, none⟩ = xs[k][j]? ∧ w.frozen? ⟨g, o + k * sz + j, none⟩ = false)
theorem RowsC.keepS {S : Nat → Prop} {w w' : World} {A : Option Addr} {n sz : Nat} {xs : List (List Value)} (h : RowsC w A n sz xs) (k : Kp S w w') (hA : ∀ g o, A = some ⟨g, o, none⟩ → 0 < n → ¬ S g) : RowsC w' A n sz xs :=
  ⟨h.1, h.2.1, fun hn => by
    obtain ⟨g, o, e, hg, hc⟩ := h.2.2 hn
    have hb := k.block g hg (hA g o e hn)
    exact ⟨g, o, e, Nat.lt_of_lt_of_le hg k.size, fun i hi j hj => ⟨(World.cell?_of_block (w := w) hb).trans (hc i hi j hj).1, (World.frozen?_of_block (w := w) hb).trans (hc i hi j hj).2⟩⟩⟩
theorem RowsC.keep {w w' : World} {A : Option Addr} {n sz : Nat} {xs : List (List Value)} (h : RowsC w A n sz xs) (k : Kp NoB w w') : RowsC w' A n sz xs := h.keepS k (fun _ _ _ _ q => q)
theorem RowsC.cell {w : World} {A : Option Addr} {n sz : Nat} {xs : List (List Value)} (h : RowsC w A n sz xs) {k : Nat} {x : List Value} (hk : xs[k]? = some x) : ∃ g o, A = some ⟨g, o, none⟩ ∧ g < w.heap.size ∧ ∀ j v, x[j]? = some v → w.cell? ⟨g, o + k * sz + j, none⟩ = some v := by
  obtain ⟨hk', rfl⟩ := List.getElem?_eq_some_iff.1 hk
  obtain ⟨g, o, e, hg, hc⟩ := h.2.2 (by have := h.1; omega)
  refine ⟨g, o, e, hg, fun j v hj => ?_⟩
  have hjl : j < sz := by
    rw [← h.2.1 _ (List.getElem_mem hk')]
    exact (List.getElem?_eq_some_iff.1 hj).1
  rw [(hc k hk' j hjl).1]
  exact hj
theorem RowsC.own {w : World} {base n cap sz : Nat} {e : TypeId} {A : Option Addr} {xs : List (List Value)} (h : w.ownsRow base e sz (.slice A n cap) n xs.flatten) (hl : xs.length = n) (hx : ∀ x ∈ xs, x.length = sz) : RowsC w A n sz xs :=
  ⟨hl, hx, fun hn => by
    obtain ⟨g, ds, rfl, hg, hb⟩ := own_blkN h hn
    refine ⟨g, 0, rfl, hb.lt, fun k hk j hj => ⟨?_, hb.frozen _⟩⟩
    have hlt : k * sz + j < xs.flatten.length := by
      rw [flat_len sz xs hx]
      have : (k + 1) * sz ≤ xs.length * sz := Nat.mul_le_mul_right _ hk
      rw [Nat.add_mul] at this
      omega
    rw [hb.cell]
    simp only [Nat.zero_add, List.getElem?_toArray]
    rw [List.getElem?_append_left hlt, flat_at sz xs hx k j hj hk]⟩
end Go.Proofs.YtoeldmkbmnkhkaaGreat
/- The journal's types in memory: sectors, words, numbered pages; no condition. -/
namespace Go.Proofs.YtoeldmkbmnkhkaaGreat
open Go.RowKit

theorem infoSec : (Tryz.prog.info? 156).map (·.size) = some 64 := by kernel_rfl
theorem zeroSec (w : World) : (zeroValue 156).run Tryz.prog w = .ok (.agg (bytesV (zeros 64))) w := by kernel_rfl
theorem loadSec (w : World) (ev : Operand → Value) (ds : Option Tmp) (x : Operand) (ty : TypeId) (ps : String) (af : Array Edge) (g : Option (Nat × Bool)) (h : thereP w (ev x) 64) :
    (execOp ev ⟨ds, .load 156 x, ty, ps, af, g⟩).run Tryz.prog w = .ok (.value (.agg (readP w (ev x) 64))) w := execLoad_P Tryz.underlying156 rfl infoSec w ev ds x ty ps af g h
theorem storeSec (w : World) (ev : Operand → Value) (ds : Option Tmp) (x y : Operand) (ty : TypeId) (ps : String) (af : Array Edge) (g : Option (Nat × Bool)) (hv : aggOK (ev y) 64) (h : thereP w (ev x) 64) :
    (execOp ev ⟨ds, .store 156 x y, ty, ps, af, g⟩).run Tryz.prog w = .ok .skip (setP w (ev x) (ev y)) := execStore_P infoSec w ev ds x y ty ps af g hv h
theorem allocSec (w : World) (ev : Operand → Value) (ds : Option Tmp) (ty : TypeId) (ps : String) (af : Array Edge) (g : Option (Nat × Bool)) :
    (execOp ev ⟨ds, .alloc 156, ty, ps, af, g⟩).run Tryz.prog w = .ok (.value (.pointer (some ⟨w.heap.size, 0, none⟩))) (w.alloc (.cells (bytesV (zeros 64)) 156)) := by
  simp only [execOp, Instr.alloc, Sem.run_bind, zeroSec, Result.andThen_ok]
  rfl
theorem infoW4 : (Tryz.prog.info? 193).map (·.size) = some 4 := by kernel_rfl
theorem loadW4 (w : World) (ev : Operand → Value) (ds : Option Tmp) (x : Operand) (ty : TypeId) (ps : String) (af : Array Edge) (g : Option (Nat × Bool)) (h : thereP w (ev x) 4) :
    (execOp ev ⟨ds, .load 193 x, ty, ps, af, g⟩).run Tryz.prog w = .ok (.value (.agg (readP w (ev x) 4))) w := execLoad_P Tryz.underlying193 rfl infoW4 w ev ds x ty ps af g h
theorem storeW4 (w : World) (ev : Operand → Value) (ds : Option Tmp) (x y : Operand) (ty : TypeId) (ps : String) (af : Array Edge) (g : Option (Nat × Bool)) (hv : aggOK (ev y) 4) (h : thereP w (ev x) 4) :
    (execOp ev ⟨ds, .store 193 x y, ty, ps, af, g⟩).run Tryz.prog w = .ok .skip (setP w (ev x) (ev y)) := execStore_P infoW4 w ev ds x y ty ps af g hv h
def w4A (w : W4) : Array Value := #[.int .u32 w.a, .int .u32 w.b, .int .u32 w.c, .int .u32 w.d]
theorem w4A_ones (w : W4) : ones (w4A w) := by unfold ones w4A; simp [Value.oneCell']
/-- a page with its number, as a value -/
def pgL (x : Pg) : List Value := .int .i64 x.n :: x.b.map (Value.int .u8)
def pgA (x : Pg) : Array Value := (pgL x).toArray
structure PgOk (x : Pg) : Prop where
  len : x.b.length = 256
  rng : ∀ y ∈ x.b, 0 ≤ y ∧ y < 256
  n0 : -9223372036854775808 ≤ x.n ∧ x.n ≤ 9223372036854775807
theorem pgL_len {x : Pg} (h : PgOk x) : (pgL x).length = 257 := by simp [pgL, h.len]
theorem pgA_size {x : Pg} (h : PgOk x) : (pgA x).size = 257 := by simp [pgA, pgL_len h]
theorem pgL_one (x : Pg) : ∀ u ∈ pgL x, u.oneCell' = true := by
  intro u hu
  unfold pgL at hu
  rcases List.mem_cons.1 hu with rfl | hu
  · rfl
  · exact u8_one _ u hu
theorem pgA_ones (x : Pg) : ones (pgA x) := by
  unfold ones pgA
  simp only [List.all_toArray', List.all_eq_true]
  exact pgL_one x
theorem infoPgA : (Tryz.prog.info? 208).map (fun i => (i.zero, i.size, i.bytes)) = some (some (.agg ((#[.int .i64 0] : Array Value) ++ Array.replicate 256 (.int .u8 0))), 257, 264) := by kernel_rfl
theorem infoPgS : (Tryz.prog.info? 208).map (·.size) = some 257 := by kernel_rfl
theorem zeroPg (w : World) : (zeroValue 208).run Tryz.prog w = .ok (.agg (pgA ⟨0, zeros 256⟩)) w := by kernel_rfl
theorem loadPg (w : World) (ev : Operand → Value) (ds : Option Tmp) (x : Operand) (ty : TypeId) (ps : String) (af : Array Edge) (g : Option (Nat × Bool)) (h : thereP w (ev x) 257) :
    (execOp ev ⟨ds, .load 208 x, ty, ps, af, g⟩).run Tryz.prog w = .ok (.value (.agg (readP w (ev x) 257))) w := execLoad_P Tryz.underlying208 rfl infoPgS w ev ds x ty ps af g h
theorem storePg (w : World) (ev : Operand → Value) (ds : Option Tmp) (x y : Operand) (ty : TypeId) (ps : String) (af : Array Edge) (g : Option (Nat × Bool)) (hv : aggOK (ev y) 257) (h : thereP w (ev x) 257) :
    (execOp ev ⟨ds, .store 208 x y, ty, ps, af, g⟩).run Tryz.prog w = .ok .skip (setP w (ev x) (ev y)) := execStore_P infoPgS w ev ds x y ty ps af g hv h
theorem allocPg (w : World) (ev : Operand → Value) (ds : Option Tmp) (ty : TypeId) (ps : String) (af : Array Edge) (g : Option (Nat × Bool)) :
    (execOp ev ⟨ds, .alloc 208, ty, ps, af, g⟩).run Tryz.prog w = .ok (.value (.pointer (some ⟨w.heap.size, 0, none⟩))) (w.alloc (.cells (pgA ⟨0, zeros 256⟩) 208)) := by
  simp only [execOp, Instr.alloc, Sem.run_bind, zeroPg, Result.andThen_ok]
  rfl
theorem buildPg1 (w : World) (n : Int) : (Instr.build 208 #[(0, .int .i64 n)]).run Tryz.prog w = .ok (.agg (pgA ⟨n, zeros 256⟩)) w := by kernel_rfl
theorem exBuildPg1 (w : World) (ev : Operand → Value) (x : Operand) (n : Int) (ds : Option Tmp) (ty : TypeId) (ps : String) (af : Array Edge) (g : Option (Nat × Bool)) (hx : ev x = .int .i64 n) :
    (execOp ev ⟨ds, .build 208 #[(0, x)], ty, ps, af, g⟩).run Tryz.prog w = .ok (.value (.agg (pgA ⟨n, zeros 256⟩))) w := by
  simp only [execOp, List.map_toArray, List.map_cons, List.map_nil, hx, Sem.run_bind, buildPg1, Result.andThen_ok]
  rfl
theorem slicePg (w : World) (cs : Array Value) (hs : cs.size = 257) : (Instr.buildSlice 149 1 #[(0, .agg cs)]).run Tryz.prog w = .ok (.slice (some ⟨w.heap.size, 0, none⟩) 1 1) (w.alloc (.cells cs 208)) := by
  obtain ⟨i, hi, h0, h1, h2⟩ := info_parts infoPgA
  have hu := Tryz.underlying149
  have hc : (Value.agg cs).cells = cs := rfl
  have hf : ∀ Z : Array Value, Z.size = 257 → Instr.fill (fun i => some (i * 257, 257)) Z [(0, .agg cs)] = some cs := fun Z hZ => by
    have := Go.Great.fill_whole (s := 257) (by omega) [.agg cs] Z (by simp [hc, hs]) (by simp [hZ])
    simpa [hc] using this
  simp [Instr.buildSlice, run_underlying hu, sizeOf, typeInfo, hi, h1, zeroPg, newRow, newObj]
  rw [hf _ (by simp)]
  rfl
theorem exSlicePg (w : World) (ev : Operand → Value) (x : Operand) (cs : Array Value) (ds : Option Tmp) (ty : TypeId) (ps : String) (af : Array Edge) (g : Option (Nat × Bool)) (hx : ev x = .agg cs) (hs : cs.size = 257) :
    (execOp ev ⟨ds, .buildSlice 149 1 #[(0, x)], ty, ps, af, g⟩).run Tryz.prog w = .ok (.value (.slice (some ⟨w.heap.size, 0, none⟩) 1 1)) (w.alloc (.cells cs 208)) := by
  simp only [execOp, List.map_toArray, List.map_cons, List.map_nil, hx, Sem.run_bind, slicePg w cs hs, Result.andThen_ok]
  rfl
/-- a list of pages in memory -/
def PgsAt (w : World) (A : Option Addr) (n : Nat) (l : List Pg) : Prop := RowsC w A n 257 (l.map pgL)
theorem PgsAt.len {w : World} {A : Option Addr} {n : Nat} {l : List Pg} (h : PgsAt w A n l) : l.length = n := by have := h.1; simpa using this
theorem PgsAt.keep {w w' : World} {A : Option Addr} {n : Nat} {l : List Pg} (h : PgsAt w A n l) (k : Kp NoB w w') : PgsAt w' A n l := RowsC.keep h k
/-- one of its pages -/
theorem PgsAt.at_ {w : World} {A : Option Addr} {n : Nat} {l : List Pg} (h : PgsAt w A n l) (k : Nat) (hk : k < n) : ∃ g o, A = some ⟨g, o, none⟩ ∧ g < w.heap.size ∧ w.there g (o + k * 257) 257 ∧ readRow w g (o + k * 257) 257 = pgA (l[k]'(by rw [h.len]; exact hk)) := by
  have hkl : k < (l.map pgL).length := by have := h.1; omega
  obtain ⟨g, o, e, hg, hc⟩ := h.2.2 (by omega)
  have hl : ((l.map pgL)[k]).length = 257 := h.2.1 _ (List.getElem_mem hkl)
  have h2 : k * 257 + 257 ≤ n * 257 := by omega
  have ht : w.there g (o + k * 257) 257 := fun j hj => by
    obtain ⟨h5, h6⟩ := hc k hkl j hj
    refine ⟨?_, h6⟩
    rw [h5, List.getElem?_eq_getElem (by omega)]
    rfl
  refine ⟨g, o, e, hg, ht, ?_⟩
  unfold readRow pgA
  congr 1
  apply List.ext_getElem
  · simp only [List.getElem_map] at hl
    simp [hl]
  · intro j h1 h3
    have hj : j < 257 := by simpa using h1
    simp only [List.getElem_map, List.getElem_range]
    rw [(hc k hkl j hj).1]
    simp only [List.getElem_map]
    rw [List.getElem?_eq_getElem h3]
    rfl
/-- copy of a string into bytes that lie there -/
theorem copyS (w : World) (g o n cap : Nat) (s : ByteArray) (hle : s.size ≤ n) (ht : w.there g o s.size) :
    (Builtin.copy_ #[50, 9] 3 #[.slice (some ⟨g, o, none⟩) n cap, .string s]).run Tryz.prog w = .ok (.int .i64 s.size) (w.setCells g o ((strI s).map (Value.int .u8))) := by
  have hrun := Go.run_copy_string (P := Tryz.prog) w 50 9 3 5 g o n cap s Tryz.underlying50 sizeU8 hle (fun j hj => (ht j hj).1) (fun j hj => (ht j hj).2)
  have e : (strI s).map (Value.int .u8) = s.data.toList.map fun x => Value.int .u8 (x.toNat : Int) := by
    unfold strI
    rw [List.map_map]
    rfl
  rw [e]
  exact hrun
end Go.Proofs.YtoeldmkbmnkhkaaGreat
/- The sealed sector: one of its copies read; no condition. -/
namespace Go.Proofs.YtoeldmkbmnkhkaaGreat
open Go.RowKit

/-- the first k bytes from place a on as a number -/
def accN (l : List Int) (a : Nat) : Nat → Int
  | 0 => 0
  | k + 1 => accN l a k * 256 + l.getD (a + k) 0
theorem getD_rng {l : List Int} (h : ∀ y ∈ l, 0 ≤ y ∧ y < 256) (a : Nat) : 0 ≤ l.getD a 0 ∧ l.getD a 0 < 256 := by
  rcases Nat.lt_or_ge a l.length with q | q
  · rw [List.getD_eq_getElem?_getD, List.getElem?_eq_getElem q]
    exact h _ (List.getElem_mem q)
  · rw [List.getD_eq_getElem?_getD, List.getElem?_eq_none q]
    decide
theorem accN_num (l : List Int) (a : Nat) : accN l a 4 = num l a := by
  unfold accN accN accN accN accN num
  simp only [Nat.add_zero]
  omega
theorem accN_rng {l : List Int} (h : ∀ y ∈ l, 0 ≤ y ∧ y < 256) (a : Nat) : ∀ k, 0 ≤ accN l a k ∧ accN l a k < 256 ^ k
  | 0 => by simp [accN]
  | k + 1 => by
    obtain ⟨h1, h2⟩ := accN_rng h a k
    obtain ⟨h3, h4⟩ := getD_rng h (a + k)
    unfold accN
    rw [Int.pow_succ]
    omega
theorem num_rng {l : List Int} (h : ∀ y ∈ l, 0 ≤ y ∧ y < 256) (a : Nat) : 0 ≤ num l a ∧ num l a < 4294967296 := by
  rw [← accN_num]
  have := accN_rng h a 4
  have e : (256 : Int) ^ 4 = 4294967296 := by decide
  omega
theorem sliceSeclohi (w : World) (ev : Operand → Value) (ds : Option Tmp) (x lo hi : Operand) (ty : TypeId) (ps : String) (af : Array Edge) (g : Option (Nat × Bool)) (h : sliceOK (ev x) (ev lo) (ev hi) 64) :
    (execOp ev ⟨ds, .slice 156 x (some lo) (some hi) none, ty, ps, af, g⟩).run Tryz.prog w = .ok (.value (sliceV (ev x) (ev lo) (ev hi) 64)) w := execSlice_lohi Tryz.underlying156 infoU8 w ev ds x lo hi ty ps af g h
theorem or_byteS (a x : Int) (h0 : 0 ≤ a) (h1 : a < 16777216) (h2 : 0 ≤ x) (h3 : x < 256) : bits BinOp.or IntKind.u32 (a * 256) x = a * 256 + x := by
  obtain ⟨m, rfl⟩ := Int.eq_ofNat_of_zero_le h0
  obtain ⟨n, rfl⟩ := Int.eq_ofNat_of_zero_le h2
  have e : bits BinOp.or IntKind.u32 ((m : Int) * 256) n = IntKind.u32.wrap ((BitVec.ofInt 32 ((m : Int) * 256) ||| BitVec.ofInt 32 n).toNat) := rfl
  have hm : m < 16777216 := by omega
  have hn : n < 256 := by omega
  have e1 : BitVec.ofInt 32 ((m : Int) * 256) = BitVec.ofNat 32 (m * 256) := by
    rw [show ((m : Int) * 256) = ((m * 256 : Nat) : Int) by omega]
    exact BitVec.ofInt_natCast _ _
  have e2 : BitVec.ofInt 32 (n : Int) = BitVec.ofNat 32 n := BitVec.ofInt_natCast _ _
  rw [e, e1, e2, BitVec.toNat_or, BitVec.toNat_ofNat, BitVec.toNat_ofNat, Nat.mod_eq_of_lt (by omega), Nat.mod_eq_of_lt (by omega)]
  have h := Nat.shiftLeft_add_eq_or_of_lt (i := 8) (b := n) (by omega) m
  rw [Nat.shiftLeft_eq] at h
  have h' : m * 256 ||| n = m * 256 + n := h.symm
  rw [h', IntKind.wrap_u32]
  omega
/-- four words, the first i read, the i-th under way -/
def uW (l : List Int) (a i : Nat) (x : Int) : List Int := (List.range 4).map fun j => if j < i then num l (a + 4 * j) else if j = i then x else 0
def uWA (l : List Int) (a i : Nat) (x : Int) : Array Value := ((uW l a i x).map (Value.int .u32)).toArray
theorem uWA_set (l : List Int) (a i : Nat) (x y : Int) (hi : i < 4) : (uWA l a i x).setIfInBounds i (.int .u32 y) = uWA l a i y := by
  rcases (show i = 0 ∨ i = 1 ∨ i = 2 ∨ i = 3 by omega) with rfl | rfl | rfl | rfl <;> rfl
theorem uWA_get (l : List Int) (a i : Nat) (x : Int) (hi : i < 4) : (uWA l a i x)[i]? = some (.int .u32 x) := by
  rcases (show i = 0 ∨ i = 1 ∨ i = 2 ∨ i = 3 by omega) with rfl | rfl | rfl | rfl <;> rfl
theorem uWA_next (l : List Int) (a i : Nat) (hi : i < 4) : uWA l a i (num l (a + 4 * i)) = uWA l a (i + 1) 0 := by
  rcases (show i = 0 ∨ i = 1 ∨ i = 2 ∨ i = 3 by omega) with rfl | rfl | rfl | rfl <;> rfl
theorem uWA_all (l : List Int) (a : Nat) (x : Int) : uWA l a 4 x = w4A (wordsAt l a) := rfl
/-- in the midst of words -/
structure WdS (w : World) (l : List Int) (a i : Nat) (x : Int) (W : World) : Prop where
  kp : Kp NoB w W
  b1 : Blk W w.heap.size 156 (bytesV l)
  b2 : Blk W (w.heap.size + 1) 193 #[.int .u32 0, .int .u32 0, .int .u32 0, .int .u32 0]
  b3 : Blk W (w.heap.size + 2) 193 (uWA l a i x)
theorem WdS.set_ {w : World} {l : List Int} {a i : Nat} {x : Int} {W : World} (h : WdS w l a i x W) (hi : i < 4) (y : Int) : WdS w l a i y (W.setCell ⟨w.heap.size + 2, i, none⟩ (.int .u32 y)) := by
  refine ⟨h.kp.setCell (p := ⟨w.heap.size + 2, i, none⟩) (.inl (by show _ ≤ w.heap.size + 2; omega)) _, h.b1.far (p := ⟨w.heap.size + 2, i, none⟩) (by simp) _, h.b2.far (p := ⟨w.heap.size + 2, i, none⟩) (by simp) _, ?_⟩
  have := h.b3.set_ i (.int .u32 y)
  rwa [uWA_set _ _ _ _ _ hi] at this
attribute [local go_sem ↓] loadSec storeSec allocSec sliceSeclohi loadW4 storeW4
set_option maxRecDepth 100000 in
set_option maxHeartbeats 1600000 in
theorem words_ok (w : World) (l : List Int) (c : Nat) (hc : c ≤ 2) (hl : l.length = 64) (hr : ∀ y ∈ l, 0 ≤ y ∧ y < 256) :
    Calls Tryz.prog 177 #[.agg (bytesV l), .int .i64 c] w fun e w' => e = .returned (.agg (w4A (wordsAt l (16 * c)))) ∧ Kp NoB w w' := by
  have HL := Lib.hid hl
  have HR := Lib.hid hr
  have hst : WdS w l (16 * c) 0 0 (((w.alloc (.cells (bytesV l) 156)).alloc (.cells #[.int .u32 0, .int .u32 0, .int .u32 0, .int .u32 0] 193)).alloc (.cells #[.int .u32 0, .int .u32 0, .int .u32 0, .int .u32 0] 193)) :=
    ⟨(((Kp.refl _ _).alloc _).alloc _).alloc _, ((Blk.new _ _ _).alloc _).alloc _, (Blk.newAt _ _ _ _ (by simp)).alloc _, Blk.newAt _ _ _ _ (by simp)⟩
  have HST := Lib.hid hst
  clear hst hl hr
  go_enter Tryz.func177, Tryz.ntmps177
  go_wp2
  refine forget (p := fun wx => Code.wp _ _ _ _ wx) (WdS w l (16 * c) 0 0) HST.out ?_
  intro W hW
  have HW := Lib.hid hW
  clear hW HST
  go_loopw [9] (fun v wr => ∃ i : Nat, i ≤ 4 ∧ v = .int .i64 i ∧ WdS w l (16 * c) i 0 wr) (fun v _ => 4 - (intOf v).toNat)
  case atStart => exact ⟨0, by omega, rfl, HW.out⟩
  case round =>
    obtain ⟨i, hi, rfl, hs⟩ := hrel
    have HS := Lib.hid hs
    clear hs
    by_cases hlt : i < 4
    · obtain ⟨A, hA⟩ : ∃ A, 16 * c + 4 * i = A := ⟨_, rfl⟩
      have HA := Lib.hid hA
      have hw1 : IntKind.i64.wrap ((c : Int) * 16) = (c : Int) * 16 := by rw [IntKind.wrap_i64]; omega
      have hw2 : IntKind.i64.wrap ((i : Int) * 4) = (i : Int) * 4 := by rw [IntKind.wrap_i64]; omega
      have hw3 : IntKind.i64.wrap ((c : Int) * 16 + (i : Int) * 4) = (A : Int) := by rw [IntKind.wrap_i64]; omega
      have hw4 : IntKind.i64.wrap ((A : Int) + 4) = (A : Int) + 4 := by rw [IntKind.wrap_i64]; omega
      have hA0 : A + 4 ≤ 64 := by omega
      have hA1 : (A : Int) + 4 ≤ 64 := by omega
      have hA2 : (A : Int) ≤ (A : Int) + 4 := by omega
      have hA3 : ((A : Int) + 4).toNat = A + 4 := by omega
      have hA4 : 0 ≤ (A : Int) + 4 := by omega
      have hne : ¬ 64 = A := by omega
      have hii : (i : Int) < 4 := by omega
      clear hA
      go_wp2_with fail
      go_loopw [25] (fun v wr => ∃ k : Nat, k ≤ 4 ∧ v = .int .i64 k ∧ WdS w l (16 * c) i (accN l A k) wr) (fun v _ => 4 - (intOf v).toNat)
      case atStart => exact ⟨0, by omega, rfl, HS.out⟩
      case round =>
        obtain ⟨k, hk, rfl, hs2⟩ := hrel
        have HS2 := Lib.hid hs2
        by_cases hk4 : k < 4
        · have hkk : (k : Int) < 4 := by omega
          obtain ⟨b, hb⟩ : ∃ b, l.getD (A + k) 0 = b := ⟨_, rfl⟩
          have HB := Lib.hid hb
          have c1 : wr.cell? ⟨w.heap.size, A + k, none⟩ = some (.int .u8 b) := by
            rw [hs2.b1.cell, ← hb]
            unfold bytesV
            have := HL.out
            simp [List.getD_eq_getElem?_getD, show A + k < l.length by omega]
          obtain ⟨x, hx⟩ : ∃ x, accN l A k = x := ⟨_, rfl⟩
          have HX := Lib.hid hx
          have hbr := getD_rng HR.out (A + k)
          rw [hb] at hbr
          have hxr : 0 ≤ x ∧ x < 16777216 := by
            have := accN_rng HR.out A k
            rw [hx] at this
            rcases (show k = 0 ∨ k = 1 ∨ k = 2 ∨ k = 3 by omega) with rfl | rfl | rfl | rfl <;> simp at this <;> omega
          have c2 : wr.cell? ⟨w.heap.size + 1 + 1, i, none⟩ = some (.int .u32 x) := by rw [show w.heap.size + 1 + 1 = w.heap.size + 2 from rfl, hs2.b3.cell, hx]; exact uWA_get _ _ _ _ hlt
          have z2 : wr.frozen? ⟨w.heap.size + 1 + 1, i, none⟩ = false := hs2.b3.frozen i
          have HBR := Lib.hid hbr
          have HXR := Lib.hid hxr
          have hsh : IntKind.u32.wrap (x * 256) = x * 256 := by rw [IntKind.wrap_u32]; omega
          clear hs2 hb hx hbr hxr
          go_wp2_with fail
          refine ⟨⟨k + 1, by omega, by congr 1, ?_⟩, by simp [intOf]; omega⟩
          have e : accN l A (k + 1) = x * 256 + b := by
            show accN l A k * 256 + l.getD (A + k) 0 = _
            rw [HX.out, HB.out]
          rw [Int.emod_eq_of_lt HBR.out.1 (by have := HBR.out.2; omega), or_byteS x b HXR.out.1 HXR.out.2 HBR.out.1 HBR.out.2, ← e]
          exact (HS2.out.set_ hlt _).set_ hlt _
        · have hkk : ¬ (k : Int) < 4 := by omega
          obtain rfl : k = 4 := by omega
          clear hs2
          go_wp2_with fail
          refine ⟨⟨i + 1, by omega, by congr 1, ?_⟩, by simp [intOf]; omega⟩
          have h2 := HS2.out
          rw [accN_num, ← HA.out] at h2
          exact ⟨h2.kp, h2.b1, h2.b2, by have := h2.b3; rwa [uWA_next _ _ _ hlt] at this⟩
    · have hii : ¬ (i : Int) < 4 := by omega
      obtain rfl : i = 4 := by omega
      have hs := HS.out
      have b3 := hs.b3
      rw [uWA_all] at b3
      have t1 : wr.there (w.heap.size + 1 + 1) 0 4 := b3.thereAll 4 rfl
      have r1 : readRow wr (w.heap.size + 1 + 1) 0 4 = w4A (wordsAt l (16 * c)) := b3.readAll 4 rfl
      have t2 : wr.there (w.heap.size + 1) 0 4 := hs.b2.thereAll 4 rfl
      have o1 := w4A_ones (wordsAt l (16 * c))
      have s1 : (w4A (wordsAt l (16 * c))).size = 4 := rfl
      obtain ⟨RR, hRR⟩ : ∃ RR, w4A (wordsAt l (16 * c)) = RR := ⟨_, rfl⟩
      rw [hRR] at r1 o1 s1
      have HRR := Lib.hid hRR
      have S1 := Lib.hid s1
      clear hRR
      clear hs b3
      go_wp2_with fail
      refine bodyPost_ret (ret_cell1 rfl _ _ _ _ _ _ rfl (HS.out.b2.whole RR S1.out.symm) Tryz.underlying193 rfl (by rw [S1.out]; exact infoW4)) rfl ⟨by rw [HRR.out], ?_⟩
      exact Kp.setCells (.inl (by omega)) _ _ _ HS.out.kp
end Go.Proofs.YtoeldmkbmnkhkaaGreat
/- A region with several ways that end alike: they are brought to one form; a long store among the ready operations; no condition. -/
namespace Go.Proofs.YtoeldmkbmnkhkaaGreat
open Go

def Into (F : Nat → Act) (G : World → Nat → Prop) : Exit → Act → World → Prop
  | .normal, a, w => ∃ g, a = F g ∧ G w g
  | _, _, _ => False
theorem into_of {F : Nat → Act} {G : World → Nat → Prop} {a : Act} {w : World} (g : Nat) (h : G w g) (e : a = F g) : Into F G .normal a w := ⟨g, e, h⟩

theorem AllReadyH.store {P : Program} {ops : Array Oper} {Q : Exit → Act → World → Prop} {md : Region.Mode} {S : World → Prop} {fuel : Nat} {listed : Array Bool} {a : Act} {w : World} {i : Nat} {o : Oper} {rs : List Nat} (ho : ops[i]? = some o)
    (hw : Region.wanted o (yielded ops a.tmps) = true) (ty : TypeId) (x y : Operand) (hop : o.op = .store ty x y) (b off : Nat) (cells : Array Value)
    (hx : a.eval x = .pointer (some ⟨b, off, none⟩)) (hy : a.eval y = .agg cells) (ht : w.there b off cells.size) (hi : (P.info? ty).map (·.size) = some cells.size) (h1 : cells.all (·.oneCell') = true)
    (hS : S (w.setCells b off cells.toList)) (hn : wpAnyH P md ops Q S fuel (listed.setIfInBounds i true) (a.put o.dst undef) (w.setCells b off cells.toList))
    (hs : AllReadyH P md ops Q S fuel listed a w rs) : AllReadyH P md ops Q S fuel listed a w (i :: rs) :=
  AllReadyH.cons ho (fun K hK => by rw [if_pos hw]; exact wp_store_mid ty x y hop b off cells hx hy ht hi h1 (hK.out _ _ hS (fun _ => hn))) hs
end Go.Proofs.YtoeldmkbmnkhkaaGreat
/- A region with several ways that end alike in two blocks and two values; a call, a value among the ready operations; no condition. -/
namespace Go.Proofs.YtoeldmkbmnkhkaaGreat
open Go

section
variable {P : Program} {ops : Array Oper} {Q : Exit → Act → World → Prop} {md : Region.Mode} {S : World → Prop} {fuel : Nat} {listed : Array Bool} {a : Act} {w : World} {i : Nat} {rs : List Nat}
variable {ds : Option Tmp} {op : Op} {ty : TypeId} {ps : String} {af : Array Edge} {gd : Option (Nat × Bool)}
/-- a call among the ready operations: what is known behind it is R -/
theorem AllReadyH.callR (R : Value → World → Prop) (ho : ops[i]? = some ⟨ds, op, ty, ps, af, gd⟩) (hw : Region.wanted ⟨ds, op, ty, ps, af, gd⟩ (yielded ops a.tmps) = true) (f : FuncId) (args : Array Value)
    (hr : (execOp a.eval ⟨ds, op, ty, ps, af, gd⟩).run P w = .ok (.enter f args) w) (hS : ∀ v w', R v w' → S w') (hc : Calls P f args w fun e w' => ∃ v, e = .returned v ∧ R v w')
    (hn : ∀ v w', R v w' → wpAnyH P md ops Q S fuel (listed.setIfInBounds i true) (a.put ds v) w')
    (hs : AllReadyH P md ops Q S fuel listed a w rs) : AllReadyH P md ops Q S fuel listed a w (i :: rs) :=
  AllReadyH.cons ho (fun K hK => by
    rw [if_pos hw]
    unfold Oper.wp
    rw [hr, Oper.upon_enter]
    refine hc.mono ?_
    rintro e w' ⟨v, rfl, h⟩
    exact hK.out _ _ (hS v w' h) (fun _ => hn v w' h)) hs
/-- an operation that yields a value and turns the world: what is known behind it is R -/
theorem AllReadyH.valR (R : World → Prop) (ho : ops[i]? = some ⟨ds, op, ty, ps, af, gd⟩) (hw : Region.wanted ⟨ds, op, ty, ps, af, gd⟩ (yielded ops a.tmps) = true) (v : Value) (w' : World)
    (hr : (execOp a.eval ⟨ds, op, ty, ps, af, gd⟩).run P w = .ok (.value v) w') (hS : ∀ w', R w' → S w') (h : R w')
    (hn : ∀ w', R w' → wpAnyH P md ops Q S fuel (listed.setIfInBounds i true) (a.put ds v) w')
    (hs : AllReadyH P md ops Q S fuel listed a w rs) : AllReadyH P md ops Q S fuel listed a w (i :: rs) :=
  AllReadyH.cons ho (fun K hK => by
    rw [if_pos hw]
    unfold Oper.wp
    rw [hr, Oper.upon_value]
    exact hK.out _ _ (hS w' h) (fun _ => hn w' h)) hs
theorem AllReadyH.storeL {tx : TypeId} {x y : Operand} (ho : ops[i]? = some ⟨none, .store tx x y, ty, ps, af, gd⟩)
    (hw : Region.wanted ⟨none, .store tx x y, ty, ps, af, gd⟩ (yielded ops a.tmps) = true) (b off : Nat) (cells : Array Value)
    (hx : a.eval x = .pointer (some ⟨b, off, none⟩)) (hy : a.eval y = .agg cells) (ht : w.there b off cells.size) (hi : (P.info? tx).map (·.size) = some cells.size) (h1 : cells.all (·.oneCell') = true)
    (hS : S (w.setCells b off cells.toList)) (hn : wpAnyH P md ops Q S fuel (listed.setIfInBounds i true) a (w.setCells b off cells.toList))
    (hs : AllReadyH P md ops Q S fuel listed a w rs) : AllReadyH P md ops Q S fuel listed a w (i :: rs) :=
  AllReadyH.cons ho (fun K hK => by rw [if_pos hw]; exact wp_store_mid tx x y rfl b off cells hx hy ht hi h1 (hK.out _ _ hS (fun _ => hn))) hs
theorem wpAnyH_takeL {v : Value} (hi : ops[i]? = some ⟨ds, op, ty, ps, af, gd⟩)
    (hs : Region.noSelect ops = true) (hf : Region.free md ops listed i = true) (hr : (Region.ready md ops listed).contains i = true)
    (hQ : ∀ c a w, Q (.panic c) (a.put ds v) w → Q (.panic c) a w) (hy : YieldsIf P ops S ⟨ds, op, ty, ps, af, gd⟩ v a) (hS : S w)
    (h : wpAnyH P md ops Q S fuel (listed.setIfInBounds i true) (a.put ds v) w) : wpAnyH P md ops Q S (fuel + 1) listed a w :=
  wpAnyH_take hi hs hf hr hQ hy hS h
end
end Go.Proofs.YtoeldmkbmnkhkaaGreat
namespace Go.Proofs.YtoeldmkbmnkhkaaGreat
section
variable {P : Go.Program} {ops : Array Go.Oper} {Q : Go.Exit → Go.Act → Go.World → Prop} {md : Go.Region.Mode} {S : Go.World → Prop} {fuel : Nat} {listed : Array Bool} {a : Go.Act} {w : Go.World} {i : Nat}
variable {ds : Option Go.Tmp} {op : Go.Op} {ty : Go.TypeId} {ps : String} {af : Array Go.Edge} {gd : Option (Nat × Bool)}
theorem tkS {v : Go.Value} (hi : ops[i]? = some ⟨ds, op, ty, ps, af, gd⟩) (hy : Go.YieldsIf P ops S ⟨ds, op, ty, ps, af, gd⟩ v a) (hS : S w)
    (h : Go.wpAnyH P md ops Q S fuel (listed.setIfInBounds i true) (a.put ds v) w) (hQ : ∀ c a w, Q (.panic c) (a.put ds v) w → Q (.panic c) a w := by exact fun _ _ _ h => h)
    (hs : Go.Region.noSelect ops = true := by kernel_rfl) (hf : Go.Region.free md ops listed i = true := by kernel_rfl) (hr : (Go.Region.ready md ops listed).contains i = true := by kernel_rfl) : Go.wpAnyH P md ops Q S (fuel + 1) listed a w :=
  wpAnyH_takeL hi hs hf hr hQ hy hS h
end
theorem skA (l : List Go.Value) (i : Nat) (v : Go.Value) : l.toArray.setIfInBounds i v = (l.set i v).toArray := by simp
theorem skB (x : Go.Value) (l : List Go.Value) (v : Go.Value) : (x :: l).set 0 v = v :: l := rfl
theorem skC (x : Go.Value) (l : List Go.Value) (i : Nat) (v : Go.Value) : (x :: l).set (i + 1) v = x :: l.set i v := rfl
end Go.Proofs.YtoeldmkbmnkhkaaGreat
