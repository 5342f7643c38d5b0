/- The stand-in disk: the changes of one file struck; no condition but on the counts. -/
import Derived.Test.YtdgjglocgdccbaaDkDel
namespace Go.Proofs.Ytdgjglocgdccbaa
open Go.RowKit

attribute [local go_sem ↓] loadCg storeCg allocCg
def IdxR (pd : List Cg) (s : ByteArray) (r : Int) : Prop := (r = -1 ∧ ∀ c ∈ pd, c.nm ≠ s) ∨ ∃ i : Nat, r = i ∧ ∃ h : i < pd.length, (∀ c ∈ pd.take i, c.nm ≠ s) ∧ pd[i].nm = s
def IdxPost (w : World) (pd : List Cg) (s : ByteArray) (e : Ending) (w' : World) : Prop := ∃ r : Int, e = .returned (.int .i64 r) ∧ IdxR pd s r ∧ Kp NoB w w'
def IdxRel (w : World) (pd : List Cg) (s : ByteArray) (v : Value) (wr : World) : Prop := ∃ i : Nat, v = .int .i64 (i : Int) ∧ i ≤ pd.length ∧ (∀ c ∈ pd.take i, c.nm ≠ s) ∧ Kp NoB w wr
theorem cg_eta (pd : List Cg) (i : Nat) (hi : i < pd.length) : ∃ c, pd[i] = c ∧ c ∈ pd := ⟨_, rfl, List.getElem_mem hi⟩
set_option maxRecDepth 100000 in
set_option maxHeartbeats 800000 in
theorem idx_ok (w : World) (n0 B : Nat) (s : ByteArray) (A : Option Addr) (m cap : Nat) (pd : List Cg) (hm : pd.length = m) (hl : m < 1099511627776) (hok : ∀ c ∈ pd, CgOk c) (h : w.ownsRow n0 79 67 (.slice A m cap) m (cgCells pd)) (hB : w.cell? ⟨B, 0, none⟩ = some (.string s)) :
    Calls Try.prog 52 #[.slice A m cap, .func (.func 39) #[] #[.pointer (some ⟨B, 0, none⟩)]] w (IdxPost w pd s) := by
  have H := Lib.hid h
  have HM := Lib.hid hm
  have HL := Lib.hid hl
  have HOK := Lib.hid hok
  have HB := Lib.hid hB
  have hbl := block_lt_of_cell hB
  have HBL := Lib.hid hbl
  clear h hm hok hB hbl
  go_enter Try.func52, Try.ntmps52
  go_wp2_with fail
  go_loopw [8] (fun v wr => IdxRel w pd s v wr) (fun v _ => m - (intOf v).toNat)
  case atStart => exact ⟨0, rfl, Nat.zero_le _, by simp, Kp.refl _ _⟩
  case round =>
    obtain ⟨i, rfl, hi, hno, hk⟩ := hrel
    have HK := Lib.hid hk
    have HNO := Lib.hid hno
    have HI := Lib.hid hi
    clear hk hno hi
    by_cases hlt : i < m
    · obtain ⟨g, ds, rfl, hg, hb⟩ := own_blkN H.out (by omega)
      have hbr := hb.keep HK.out (fun q => q)
      obtain ⟨t0, r0⟩ := cg_at hbr HOK.out i (by have := HM.out; omega)
      obtain ⟨c, hc, hcm⟩ := cg_eta pd i (by have := HM.out; omega)
      rw [hc] at r0
      have HC := Lib.hid hc
      have cB : wr.cell? ⟨B, 0, none⟩ = some (.string s) := by rw [HK.out.cell HBL.out (fun q => q)]; exact HB.out
      have HCB := Lib.hid cB
      have hp64 := (HOK.out c hcm).pad
      have HP64 := Lib.hid hp64
      have hii : (i : Int) < (m : Int) := by omega
      clear hb hbr hc hcm cB hp64
      by_cases he : c.nm = s
      · have hd : decide (c.nm = s) = true := decide_eq_true he
        have HE := Lib.hid he
        clear he
        go_wp2_with (go_at_call 39; refine (sync1_ok wr B s c.nm c.sec c.n (pad64 c.s) HP64.out HCB.out).mono ?_; rintro e w3 ⟨rfl, hk3⟩; rw [hd]; have HK3 := Lib.hid hk3; clear hk3)
        go_ret
        exact ⟨i, rfl, .inr ⟨i, rfl, by have := HM.out; omega, HNO.out, by rw [HC.out]; exact HE.out⟩, HK.out.trans HK3.out (fun _ _ q => q)⟩
      · have hd : decide (c.nm = s) = false := decide_eq_false he
        have HE := Lib.hid he
        clear he
        go_wp2_with (go_at_call 39; refine (sync1_ok wr B s c.nm c.sec c.n (pad64 c.s) HP64.out HCB.out).mono ?_; rintro e w3 ⟨rfl, hk3⟩; rw [hd]; have HK3 := Lib.hid hk3; clear hk3)
        go_roundw
        case rel =>
          refine ⟨i + 1, by go_num, by have := HM.out; omega, ?_, HK.out.trans HK3.out (fun _ _ q => q)⟩
          intro c' hc'
          rw [List.take_succ_eq_append_getElem (by have := HM.out; omega)] at hc'
          rcases List.mem_append.1 hc' with q | q
          · exact HNO.out c' q
          · rw [List.mem_singleton.1 q, HC.out]; exact HE.out
        case measure => simp [intOf]; omega
    · have hii : ¬ (i : Int) < (m : Int) := by omega
      go_wp2_with fail
      go_ret
      exact ⟨-1, rfl, .inl ⟨rfl, fun c hc => HNO.out c (by rw [List.take_of_length_le (by have := HM.out; omega)]; exact hc)⟩, HK.out⟩
theorem run_clear_sliceN {P : Program} (w : World) (t e ty : TypeId) (z : Value) (ht : P.underlying t = some (.slice e)) (hv : ∀ w, (zeroValue e).run P w = .ok z w) (b o n c : Nat) (hn : 0 < n)
    (hc : w.there b o (Builtin.zeroCells z.cells n).toList.length) (h1 : ∀ v ∈ (Builtin.zeroCells z.cells n).toList, v.oneCell' = true) :
    (Builtin.clear_ #[t] ty #[.slice (some ⟨b, o, none⟩) n c]).run P w = .ok (.tuple #[]) (w.setCells b o (Builtin.zeroCells z.cells n).toList) := by
  have hst := run_storeCells_cells (P := P) b o (Builtin.zeroCells z.cells n).toList 0 w (fun j hj => (hc j (by simpa using hj)).1) (fun j hj => (hc j (by simpa using hj)).2) h1
  simp only [Nat.add_zero] at hst
  obtain ⟨m, rfl⟩ : ∃ m, n = m + 1 := ⟨n - 1, by omega⟩
  simp [Builtin.clear_, run_underlying ht, hv, hst]
def DelPost (n0 : Nat) (w : World) (A : Option Addr) (m cap : Nat) (pd : List Cg) (s : ByteArray) (e : Ending) (w' : World) : Prop :=
  ∃ C k cap', e = .returned (.slice C k cap') ∧ w'.ownsRow n0 79 67 (.slice C k cap') k (cgCells (pd.filter (notB s))) ∧ (pd.filter (notB s)).length = k ∧ Kp (fun b => (Value.slice A m cap).ownBlock = some b) w w' ∧ ∀ b, (Value.slice C k cap').ownBlock = some b → (Value.slice A m cap).ownBlock = some b
def DelRel (w : World) (g : Nat) (pd : List Cg) (ds : List Value) (s : ByteArray) (v5 v6 : Value) (wr : World) : Prop :=
  ∃ (i j : Nat) (q : List Cg), v5 = .int .i64 (i : Int) ∧ v6 = .int .i64 (j : Int) ∧ i < j ∧ j ≤ pd.length ∧ q.length = pd.length ∧ q.take i = (pd.take j).filter (notB s) ∧ q.drop j = pd.drop j ∧ (∀ c ∈ q, CgOk c) ∧ Blk wr g 79 (cgCells q ++ ds).toArray ∧ Kp (OnB g) w wr
theorem notB_all {pd : List Cg} {s : ByteArray} (h : ∀ c ∈ pd, c.nm ≠ s) : pd.filter (notB s) = pd := by
  rw [List.filter_eq_self]
  intro c hc
  unfold notB
  simp [h c hc]
theorem own_full {w : World} {base n cap size : Nat} {e : TypeId} {A : Option Addr} {xs : List Value} (h : w.ownsRow base e size (.slice A n cap) n xs) (hn : 0 < n) : ∃ g ds, A = some ⟨g, 0, none⟩ ∧ base ≤ g ∧ Blk w g e (xs ++ ds).toArray ∧ (xs ++ ds).length = cap * size ∧ cap ≤ maxLen := by
  rcases h.2 with ⟨h0, _⟩ | ⟨g, cap', cur, hv, hb, hh, h1, h2, h3, h4⟩
  · cases h0; omega
  · simp only [Value.slice.injEq] at hv
    obtain ⟨hA, _, rfl⟩ := hv
    have e1 : xs ++ cur.toList.drop (n * size) = cur.toList := by rw [← h4, List.take_append_drop]
    refine ⟨g, cur.toList.drop (n * size), hA, hb, ?_, by rw [e1]; simpa using h3, h2⟩
    rw [e1]
    exact hh
theorem own_of {w : World} {base g n cap size : Nat} {e : TypeId} {xs ds : List Value} (hb : base ≤ g) (h : Blk w g e (xs ++ ds).toArray) (hx : xs.length = n * size) (hl : (xs ++ ds).length = cap * size) (hn : n ≤ cap) (hc : cap ≤ maxLen) : w.ownsRow base e size (.slice (some ⟨g, 0, none⟩) n cap) n xs :=
  ⟨hx, .inr ⟨g, cap, _, rfl, hb, h, hn, hc, by simpa using hl, by rw [← hx]; simp⟩⟩
theorem del_step {q pd : List Cg} {j : Nat} {c : Cg} (hqd : q.drop j = pd.drop j) (hc : q[j]? = some c) : pd.take (j + 1) = pd.take j ++ [c] ∧ q.drop (j + 1) = pd.drop (j + 1) := by
  have h1 : pd[j]? = some c := by
    have := congrArg (fun l => l[0]?) hqd
    simp only [List.getElem?_drop, Nat.add_zero] at this
    rw [← this, hc]
  refine ⟨?_, ?_⟩
  · rw [List.take_add_one, h1]; rfl
  · have := congrArg (List.drop 1) hqd
    simpa [List.drop_drop] using this
theorem zeroCg_one (n : Nat) : ∀ v ∈ (Builtin.zeroCells (Value.agg (cgA ⟨#[]⟩ 0 0 (zeros 64))).cells n).toList, v.oneCell' = true := by
  intro v hv
  have e : (Value.agg (cgA ⟨#[]⟩ 0 0 (zeros 64))).cells = cgA ⟨#[]⟩ 0 0 (zeros 64) := rfl
  rw [e] at hv
  unfold Builtin.zeroCells at hv
  simp only [Array.toList_map, List.mem_map, Array.toList_range] at hv
  obtain ⟨k, _, rfl⟩ := hv
  have hsz : (cgA ⟨#[]⟩ 0 0 (zeros 64)).size = 67 := by rw [cgA_size]; rfl
  have hlt : k % (cgA ⟨#[]⟩ 0 0 (zeros 64)).size < (cgA ⟨#[]⟩ 0 0 (zeros 64)).size := Nat.mod_lt _ (by rw [hsz]; omega)
  rw [getElem!_pos (cgA ⟨#[]⟩ 0 0 (zeros 64)) (k % (cgA ⟨#[]⟩ 0 0 (zeros 64)).size) hlt]
  exact cgA_one ⟨#[]⟩ 0 0 (zeros 64) _ (by rw [← cgA_toList]; exact Array.getElem_mem_toList hlt)
theorem zeroCg_len (n : Nat) : (Builtin.zeroCells (Value.agg (cgA ⟨#[]⟩ 0 0 (zeros 64))).cells n).toList.length = n * 67 := by
  have e : (Value.agg (cgA ⟨#[]⟩ 0 0 (zeros 64))).cells = cgA ⟨#[]⟩ 0 0 (zeros 64) := rfl
  have hsz : (cgA ⟨#[]⟩ 0 0 (zeros 64)).size = 67 := by rw [cgA_size]; rfl
  rw [e]
  unfold Builtin.zeroCells
  simp [hsz]
set_option maxRecDepth 100000 in
set_option maxHeartbeats 800000 in
theorem del_ok (w : World) (n0 B : Nat) (s : ByteArray) (A : Option Addr) (m cap : Nat) (pd : List Cg) (hm : pd.length = m) (hl : m < 1099511627776) (hok : ∀ c ∈ pd, CgOk c) (h : w.ownsRow n0 79 67 (.slice A m cap) m (cgCells pd)) (hB : Blk w B 9 #[.string s]) :
    Calls Try.prog 37 #[.slice A m cap, .func (.func 39) #[] #[.pointer (some ⟨B, 0, none⟩)]] w (DelPost n0 w A m cap pd s) := by
  have H := Lib.hid h
  have HM := Lib.hid hm
  have HL := Lib.hid hl
  have HOK := Lib.hid hok
  have HB := Lib.hid hB
  clear h hm hok hB
  go_enter Try.func37, Try.ntmps37
  go_wp2_with fail
  refine (idx_ok w n0 B s A m cap pd HM.out HL.out HOK.out H.out (by rw [HB.out.cell]; rfl)).mono ?_
  rintro e w2 ⟨r, rfl, hr, hk2⟩
  have HK2 := Lib.hid hk2
  clear hk2
  rcases hr with ⟨rfl, hno⟩ | ⟨i0, rfl, hi0, hno, hE⟩
  · have HNO := Lib.hid hno
    clear hno
    go_wp2_with fail
    go_ret
    refine ⟨A, m, cap, rfl, ?_, ?_, HK2.out.mono (fun _ _ q => q.elim), fun b q => q⟩
    · rw [notB_all HNO.out]
      exact own_keepB H.out HK2.out (fun _ _ q => q)
    · rw [notB_all HNO.out]; exact HM.out
  · obtain ⟨g, ds, rfl, hg, hb, hfl, hcm⟩ := own_full H.out (by have := HM.out; omega)
    have HFL := Lib.hid hfl
    have HCX := Lib.hid hcm
    clear hfl hcm
    have HNO := Lib.hid hno
    have HE := Lib.hid hE
    have HB2 := Lib.hid (hb.keep HK2.out (fun q => q))
    have HBL := Lib.hid hb.lt
    have him : i0 < m := by have := HM.out; omega
    have hib : ((i0 : Int) == -1) = false := by simp
    have hw1 : IntKind.i64.wrap ((i0 : Int) + 1) = ((i0 + 1 : Nat) : Int) := by rw [IntKind.wrap_i64]; omega
    clear hno hE hb
    go_wp2_with fail
    go_loopw [5, 6] (fun v5 v6 wr => DelRel w g pd ds s v5 v6 wr) (fun _ v6 _ => m - (intOf v6).toNat)
    case atStart =>
      refine ⟨i0, i0 + 1, pd, rfl, rfl, by omega, by omega, rfl, ?_, rfl, HOK.out, HB2.out, HK2.out.mono (fun _ _ q => q.elim)⟩
      rw [List.take_succ_eq_append_getElem hi0, List.filter_append, notB_all HNO.out]
      simp [notB, HE.out]
    case round =>
      obtain ⟨i, j, q, rfl, rfl, hij, hj, hql, hqt, hqd, hqo, hbq, hkq⟩ := hrel
      have HQT := Lib.hid hqt
      have HQD := Lib.hid hqd
      have HQO := Lib.hid hqo
      have HBQ := Lib.hid hbq
      have HKQ := Lib.hid hkq
      have HQL := Lib.hid hql
      have HJ := Lib.hid hj
      clear hqt hqd hqo hbq hkq hj
      by_cases hlt : j < m
      · obtain ⟨t0, r0⟩ := cg_at HBQ.out HQO.out j (by have := HM.out; omega)
        obtain ⟨c, hc, hcm⟩ := cg_eta q j (by have := HM.out; omega)
        rw [hc] at r0
        have HC : Hid (q[j]? = some c) := Lib.hid (by rw [List.getElem?_eq_getElem (by have := HM.out; omega), hc])
        have HCM := Lib.hid hcm
        have hp64 := (HQO.out c hcm).pad
        have HP64 := Lib.hid hp64
        have hjj : (j : Int) < (m : Int) := by omega
        have hzb : Blk (wr.alloc (.cells (cgA ⟨#[]⟩ 0 0 (zeros 64)) 79)) wr.heap.size 79 (cgA ⟨#[]⟩ 0 0 (zeros 64)) := Blk.new _ _ _
        have t1 := hzb.thereAll 67 (by rw [cgA_size]; rfl)
        have on1 : ones (cgA c.nm c.sec c.n (pad64 c.s)) := cgA_ones _ _ _ _
        have sz1 : (cgA c.nm c.sec c.n (pad64 c.s)).size = 67 := by rw [cgA_size, hp64]
        clear hc hcm hp64 hql hzb
        go_upto_region 8 with fail
        obtain ⟨g8, hg8⟩ : ∃ g8, wr.heap.size = g8 := ⟨_, rfl⟩
        have HG8 := Lib.hid hg8
        have hb8 : Blk ((wr.alloc (.cells (cgA ⟨#[]⟩ 0 0 (zeros 64)) 79)).setCells wr.heap.size 0 (cgA c.nm c.sec c.n (pad64 c.s)).toList) wr.heap.size 79 (cgA c.nm c.sec c.n (pad64 c.s)) := (Blk.new wr 79 _).whole _ (by rw [cgA_size, cgA_size, HP64.out]; rfl)
        have hk8 : Kp NoB wr ((wr.alloc (.cells (cgA ⟨#[]⟩ 0 0 (zeros 64)) 79)).setCells wr.heap.size 0 (cgA c.nm c.sec c.n (pad64 c.s)).toList) := Kp.setCells (.inl (Nat.le_refl _)) _ _ _ ((Kp.refl NoB wr).alloc _)
        rw [hg8] at hb8 hk8 ⊢
        generalize (wr.alloc (.cells (cgA ⟨#[]⟩ 0 0 (zeros 64)) 79)).setCells g8 0 (cgA c.nm c.sec c.n (pad64 c.s)).toList = w8 at hb8 hk8 ⊢
        have HB8 := Lib.hid hb8
        have HK8 := Lib.hid hk8
        have t8 := hb8.thereAll 67 (by rw [cgA_size, HP64.out])
        have r8 := hb8.readAll 67 (by rw [cgA_size, HP64.out])
        have hBn : ¬ OnB g B := fun e => by
          have h1 := (HBQ.out)
          have h2 := HB.out.keep HK2.out (fun q => q)
          have h3 := HB2.out
          rw [← show B = g from e] at h3
          exact blk_ne h3 h2 (by decide) rfl
        have HB9 := Lib.hid ((HB.out.keep HKQ.out hBn).keep hk8 (fun q => q))
        have hm8 : i < m := by omega
        clear hg8 hb8 hk8 t0 r0 t1 on1 sz1 hBn
        by_cases he : c.nm = s
        · have hd : decide (c.nm = s) = true := decide_eq_true he
          have HE2 := Lib.hid he
          clear he
          go_wp2_with (go_at_call 39; refine (sync1_ok w8 B s c.nm c.sec c.n (pad64 c.s) HP64.out (by rw [HB9.out.cell]; rfl)).mono ?_; rintro e w3 ⟨rfl, hk3⟩; rw [hd]; have HK3 := Lib.hid hk3; clear hk3)
          go_roundw
          case rel =>
            have k3 : Kp NoB wr w3 := HK8.out.trans HK3.out (fun _ _ q => q)
            refine ⟨i, j + 1, q, rfl, by go_num, by omega, by have := HM.out; omega, HQL.out, ?_, ?_, HQO.out, HBQ.out.keep k3 (fun q => q), HKQ.out.trans k3 (fun _ _ q => q.elim)⟩
            · rw [(del_step HQD.out HC.out).1, List.filter_append, HQT.out]
              simp [notB, HE2.out]
            · exact (del_step HQD.out HC.out).2
          case measure => simp [intOf]; omega
        · have hd : decide (c.nm = s) = false := decide_eq_false he
          have HE2 := Lib.hid he
          clear he
          go_wp2_with (go_at_call 39; refine (sync1_ok w8 B s c.nm c.sec c.n (pad64 c.s) HP64.out (by rw [HB9.out.cell]; rfl)).mono ?_; rintro e w3 ⟨rfl, hk3⟩; rw [hd]; have HK3 := Lib.hid hk3; have hb4 := HB8.out.keep hk3 (fun q => q); have t4 := hb4.thereAll 67 (by rw [cgA_size, HP64.out]); have r4 := hb4.readAll 67 (by rw [cgA_size, HP64.out]); have hbg := (HBQ.out.keep HK8.out (fun q => q)).keep hk3 (fun q => q); have t5 := (cg_at hbg HQO.out i (by have := HM.out; have := HQL.out; omega)).1; have HBG := Lib.hid hbg; have on4 : ones (cgA c.nm c.sec c.n (pad64 c.s)) := cgA_ones _ _ _ _; have sz4 : (cgA c.nm c.sec c.n (pad64 c.s)).size = 67 := (by rw [cgA_size, HP64.out]); clear hk3 hb4 hbg t8 r8)
          have hql := HQL.out
          have hiq : i < q.length := by have := HM.out; omega
          have k3 : Kp NoB wr w3 := HK8.out.trans HK3.out (fun _ _ q => q)
          refine ⟨⟨i + 1, j + 1, q.set i c, rfl, rfl, by omega, by have := HM.out; omega, by rw [List.length_set]; exact hql, ?_, ?_, ?_, cg_put HBG.out HQO.out i hiq c (HQO.out c HCM.out), ?_⟩, by simp [intOf]; omega⟩
          · rw [(del_step HQD.out HC.out).1, List.filter_append, ← HQT.out, List.take_succ_eq_append_getElem (by simpa using hiq)]
            simp [notB, HE2.out, List.take_set_of_le]
          · rw [List.drop_set, if_pos (by omega), (del_step HQD.out HC.out).2]
          · intro c' hc'
            rcases List.mem_or_eq_of_mem_set hc' with q' | q'
            · exact HQO.out c' q'
            · rw [q']; exact HQO.out c HCM.out
          · exact Kp.setCells (.inr (show OnB g g from rfl)) _ _ _ (HKQ.out.trans k3 (fun _ _ q => q.elim))
      · have hjj : ¬ (j : Int) < (m : Int) := by omega
        have ejm : j = pd.length := by have := HM.out; have := HJ.out; omega
        have him2 : i < m := by have := HM.out; have := HJ.out; omega
        have hcap : m ≤ cap := own_cap H.out
        have hic : ¬ cap = i := by omega
        have hic2 : i ≤ cap := by omega
        have hiN : (i : Int) ≤ (m : Int) := by omega
        have hiC : (i : Int) ≤ (cap : Int) := by omega
        obtain ⟨zs, hzs⟩ : ∃ zs, (Builtin.zeroCells (Value.agg (cgA ⟨#[]⟩ 0 0 (zeros 64))).cells (m - i)).toList = zs := ⟨_, rfl⟩
        have hzl : zs.length = (m - i) * 67 := by rw [← hzs]; exact zeroCg_len _
        have hcl0 : (cgCells q).length = m * 67 := by rw [cgCells_len q HQO.out, HQL.out, HM.out]
        have hth : wr.there g (i * 67) zs.length := HBQ.out.there (by simp [hcl0, hzl]; omega)
        have hcl : ∀ ty, (Builtin.clear_ #[62] ty #[.slice (some ⟨g, i * 67, none⟩) (m - i) (cap - i)]).run Try.prog wr = .ok (.tuple #[]) (wr.setCells g (i * 67) zs) := fun ty => by
          rw [← hzs]
          exact run_clear_sliceN wr _ _ ty _ Try.underlying62 zeroCg g (i * 67) _ _ (by omega) (by rw [hzs]; exact hth) (zeroCg_one _)
        have HZL := Lib.hid hzl
        have HCL0 := Lib.hid hcl0
        clear hzs hzl hcl0 hth hql ejm
        go_wp2_with fail
        go_ret
        have ejm : j = pd.length := by have := HM.out; have := HJ.out; omega
        have eq1 : q.take i = pd.filter (notB s) := by rw [HQT.out, ejm, List.take_length]
        have hiq : i ≤ q.length := by have := HM.out; have := HQL.out; omega
        have hlen : (pd.filter (notB s)).length = i := by rw [← eq1, List.length_take, Nat.min_eq_left hiq]
        have hsp : cgCells q = cgCells (q.take i) ++ cgCells (q.drop i) := by
          unfold cgCells
          rw [← List.flatMap_append, List.take_append_drop]
        have hl1 : (cgCells (q.take i)).length = i * 67 := by rw [cgCells_len _ (fun c hc => HQO.out c (List.mem_of_mem_take hc)), List.length_take, Nat.min_eq_left hiq]
        have hl2 : (cgCells (q.drop i)).length = (m - i) * 67 := by rw [cgCells_len _ (fun c hc => HQO.out c (List.mem_of_mem_drop hc)), List.length_drop, HQL.out, HM.out]
        have hbk := HBQ.out
        rw [hsp] at hbk
        have hb2 := hbk.cellsL (xs := zs) (i * 67) hl1 (by rw [hl2, HZL.out])
        have hpl : (cgCells pd).length = m * 67 := by rw [cgCells_len pd HOK.out, HM.out]
        have hfl := HFL.out
        rw [List.length_append, hpl] at hfl
        refine ⟨some ⟨g, 0, none⟩, i, cap, rfl, ?_, hlen, ?_, fun b q => q⟩
        · rw [← eq1]
          rw [List.append_assoc] at hb2
          refine own_of hg hb2 hl1 ?_ hic2 HCX.out
          rw [List.length_append, List.length_append, hl1, HZL.out, Nat.sub_mul]
          have : i * 67 ≤ m * 67 := Nat.mul_le_mul_right _ (by omega)
          omega
        · have hk : Kp (OnB g) w (wr.setCells g (i * 67) zs) := Kp.setCells (.inr (show OnB g g from rfl)) _ _ _ HKQ.out
          exact hk.mono (fun b _ q => by show some g = some b; rw [show b = g from q])
end Go.Proofs.Ytdgjglocgdccbaa
