/- Texts of this proof, one behind the other: lemmas and contracts; each says its own conditions. -/
import Derived.Test.YtegcbdfilkecpaaS1
import Derived.Test.YtegcbdfilkecpaaS3
import Derived.Test.YtegcbdfilkecpaaS4
import Derived.Test.YtegcbdfilkecpaaS11
import Derived.ProofKit
import Derived.OpenShut
import Derived.ShutString
import Derived.ChangeOld
import Derived.Deep.Slices
import Derived.Deep.Fields
import Derived.ChangeSame
import Derived.Test.YtegcbdfilkecpaaRows
import Derived.SliceStrings
import Derived.DataShut
/- The log in plain Lean: what is told at a mark stays; condition: nothing crashes. -/
namespace Go.Proofs.Ytegcbdfilkecpaa
open Go
set_option maxRecDepth 100000

/-- every page at a mark has a frame -/
def MkOk (fs : List Fr) : Prop := ∀ m : Nat, 0 < m → isMark fs (m : Int) = true → ∀ f, fs[m - 1]? = some f → ∀ n : Nat, 1 ≤ n → (n : Int) ≤ f.en - 1 → ∃ g, lastFr (fs.take m) (n : Int) = some g
/-- what is told at a mark, by the frames alone -/
def tellF (fs : List Fr) (m : Nat) : List (List Int) := (List.range (match fs[m - 1]? with | some f => (f.en - 1).toNat | none => 0)).map fun (i : Nat) => match lastFr (fs.take m) ((i : Int) + 1) with | some g => g.b | none => []
theorem tell_mark {p : Pl} {fs : List Fr} {o : List Int} (h : AtW p fs o) (hk : MkOk fs) {m : Nat} (h0 : 0 < m) (hm : isMark fs (m : Int) = true) : tellP p (m : Int) = tellF fs m := by
  obtain ⟨h1, _⟩ := open_at h
  obtain ⟨f, hf, hpos, hml⟩ := mark_frame h0 hm
  have hc := count_mark (p := p) h0 hf
  have hcn : p.wcnt (m : Int) = (f.en - 1, 0) := by
    unfold Pl.wcnt
    rw [h1, if_neg (by simp), if_pos hm, hc]
  unfold tellP
  rw [hcn]
  unfold tellK tellF
  rw [hf]
  refine List.ext_getElem (by simp) (fun i q1 q2 => ?_)
  have hi : i < (f.en - 1).toNat := by simpa using q2
  rw [List.getElem_map, List.getElem_map, List.getElem_range]
  unfold Pl.wpg
  rw [h1, if_neg (by simp), hm, if_neg (by simp), hc, if_neg (by omega)]
  show wpage p fs (m : Int) ((i : Int) + 1) = _
  unfold wpage
  rw [Int.toNat_natCast]
  obtain ⟨g, hg⟩ := hk m h0 hm f hf (i + 1) (by omega) (by omega)
  rw [show (((i + 1 : Nat)) : Int) = (i : Int) + 1 by omega] at hg
  rw [hg]
theorem isMark_app (fs new : List Fr) {m : Nat} (h : m ≤ fs.length) : isMark (fs ++ new) (m : Int) = isMark fs (m : Int) := by
  unfold isMark
  by_cases h0 : m = 0
  · subst h0; rfl
  · rw [Int.toNat_natCast, List.getElem?_append_left (by omega), decide_eq_true (show 0 < (m : Int) ∧ (m : Int) ≤ ((fs ++ new).length : Int) by rw [List.length_append]; omega), decide_eq_true (show 0 < (m : Int) ∧ (m : Int) ≤ (fs.length : Int) by omega)]
theorem tellF_app (fs new : List Fr) {m : Nat} (h0 : 0 < m) (h : m ≤ fs.length) : tellF (fs ++ new) m = tellF fs m := by
  unfold tellF
  rw [List.getElem?_append_left (by omega), List.take_append_of_le_length h]
theorem newFr_pre (c : Int) (l : List Pg) : ∃ pre g, newFr c l = pre ++ [g] ∧ (∀ y ∈ pre, y.en = 0) ∧ g.en = c + 1 := by
  obtain ⟨pre, f, hb, e⟩ := newFr_eq c l
  refine ⟨pre, _, e, fun y hy => ?_, rfl⟩
  have : y ∈ baseFr l := by rw [hb]; exact List.mem_append_left _ hy
  unfold baseFr at this
  split at this
  · rw [List.mem_singleton.1 this]
  · obtain ⟨x, _, rfl⟩ := List.mem_map.1 this
    rfl
theorem mark_between (fs : List Fr) (c : Int) (l : List Pg) {m : Nat} (h1 : fs.length < m) (h2 : m < fs.length + (newFr c l).length) : isMark (fs ++ newFr c l) (m : Int) = false := by
  obtain ⟨pre, g, e, hp, _⟩ := newFr_pre c l
  have hl : (newFr c l).length = pre.length + 1 := by rw [e]; simp
  have hi : (fs ++ newFr c l)[m - 1]? = pre[m - 1 - fs.length]? := by
    rw [List.getElem?_append_right (by omega), e, List.getElem?_append_left (by omega)]
  unfold isMark
  rw [Int.toNat_natCast, hi, decide_eq_false (show ¬ (m : Int) = 0 by omega), List.getElem?_eq_getElem (by omega)]
  have := hp _ (List.getElem_mem (show m - 1 - fs.length < pre.length by omega))
  dsimp only
  rw [this]
  simp
theorem marksTo_app (fs : List Fr) (c : Nat) (l : List Pg) : ∀ j, j < (newFr (c : Int) l).length → marksTo (fs ++ newFr (c : Int) l) (fs.length + 1 + j) = marksTo fs (fs.length + 1)
  | 0, _ => by
    unfold marksTo
    rw [Nat.add_zero]
    congr 1
    refine List.filter_congr (fun m hm => ?_)
    exact isMark_app _ _ (by have := List.mem_range.1 hm; omega)
  | j + 1, hj => by
    rw [show fs.length + 1 + (j + 1) = (fs.length + 1 + j) + 1 by omega, marksTo_succ, mark_between fs c l (by omega) (by omega)]
    exact marksTo_app fs c l j (by omega)
theorem marks_new {fs : List Fr} {c : Nat} {l : List Pg} (hm : isMark (fs ++ newFr (c : Int) l) (((fs ++ newFr (c : Int) l).length : Nat) : Int) = true) : marksTo (fs ++ newFr (c : Int) l) ((fs ++ newFr (c : Int) l).length + 1) = marksTo fs (fs.length + 1) ++ [((fs ++ newFr (c : Int) l).length : Int)] := by
  rw [marksTo_succ, if_pos hm]
  congr 1
  have hn : 0 < (newFr (c : Int) l).length := List.length_pos_iff.2 (newFr_ne _ _)
  have := marksTo_app fs c l ((newFr (c : Int) l).length - 1) (by omega)
  rw [List.length_append]
  rw [show fs.length + 1 + ((newFr (c : Int) l).length - 1) = fs.length + (newFr (c : Int) l).length by omega] at this
  exact this
theorem mkok_new {fs : List Fr} {c : Nat} {l : List Pg} (h : MkOk fs) (hok : FsOk (fs ++ newFr (c : Int) l) []) : MkOk (fs ++ newFr (c : Int) l) := by
  intro m h0 hm f hf n hn1 hn2
  by_cases hle : m ≤ fs.length
  · rw [isMark_app _ _ hle] at hm
    rw [List.getElem?_append_left (by omega)] at hf
    rw [List.take_append_of_le_length hle]
    exact h m h0 hm f hf n hn1 hn2
  · obtain ⟨_, _, _, hml⟩ := mark_frame h0 hm
    rw [List.length_append] at hml
    have hlast : m = fs.length + (newFr (c : Int) l).length := by
      rcases Nat.lt_or_ge m (fs.length + (newFr (c : Int) l).length) with q | q
      · rw [mark_between fs c l (by omega) q] at hm; cases hm
      · omega
    have htk : (fs ++ newFr (c : Int) l).take m = fs ++ newFr (c : Int) l := by rw [hlast, ← List.length_append, List.take_length]
    rw [htk]
    have hen : f.en = c + 1 := by
      obtain ⟨pre, g, e, _, hg⟩ := newFr_pre (c : Int) l
      have hl : (newFr (c : Int) l).length = pre.length + 1 := by rw [e]; simp
      rw [show m - 1 = fs.length + pre.length by omega, List.getElem?_append_right (by omega), Nat.add_sub_cancel_left, e, List.getElem?_append_right (Nat.le_refl _), Nat.sub_self] at hf
      injection hf with hf
      rw [← hf, hg]
    cases hq : lastFr (fs ++ newFr (c : Int) l) (n : Int) with
    | some g => exact ⟨g, rfl⟩
    | none =>
      exfalso
      have hno := lastFr_no hq
      have hb : Bare (fs ++ newFr (c : Int) l) [] ((n - 1) * 256) := by
        refine ⟨by rw [cL_new]; omega, fun f hf e => hno f hf ?_⟩
        rw [e]
        omega
      have := (hok.bare _ hb).1
      simp at this
/-! ### the database is not touched by a commit -/
theorem stP_other {p : Pl} {x : Stp} {s : ByteArray} (h : s ≠ x.nm) : (p.stP x).seen s = p.seen s := by
  have hl : ∀ (q : Pl) (t : ByteArray) (n : Nat), s ≠ t → (q.length t n).seen s = q.seen s := fun q t n ht => by
    unfold Pl.length
    split
    · rfl
    · exact upd_other _ _ ht
  unfold Pl.stP
  split
  · unfold Pl.write
    split
    · rfl
    · split
      · rfl
      · split
        · rfl
        · unfold Pl.write1
          dsimp only
          split
          · exact (upd_other _ _ h).trans (hl _ _ _ h)
          · exact upd_other _ _ h
  · split
    · unfold Pl.trunc
      split
      · rfl
      · exact hl _ _ _ h
    · unfold Pl.sync
      split
      · rfl
      · split <;> rfl
theorem run_other {s : ByteArray} : ∀ (l : List Stp) {p : Pl}, (∀ x ∈ l, s ≠ x.nm) → (p.runS l).1.seen s = p.seen s
  | [], p, _ => rfl
  | x :: r, p, h => by
    rw [runS_cons]
    have h1 := stP_other (p := p) (h x (List.mem_cons_self ..))
    split
    · exact (run_other r (fun y hy => h y (List.mem_cons_of_mem _ hy))).trans h1
    · exact h1
theorem wcommit_db {p : Pl} (c : Int) (l : List Pg) : (p.wcommit c l).1.seen nmDb = p.seen nmDb := by
  unfold Pl.wcommit
  dsimp only
  have key : ∀ new, (p.runS (p.wcommitS p.wopen.2 new)).1.seen nmDb = p.seen nmDb := fun new => by
    refine run_other _ (fun x hx => ?_)
    have hn : x.nm = nmWal := by
      unfold Pl.wcommitS headS at hx
      simp only [List.mem_append, List.mem_cons, List.not_mem_nil, or_false] at hx
      rcases hx with (rfl | rfl) | (hx | rfl) | rfl | rfl
      · rfl
      · rfl
      · obtain ⟨j, f, _, _, _, rfl⟩ := frW_in hx
        rfl
      · rfl
      · rfl
      · rfl
    rw [hn]
    exact nm_new
  split
  · rfl
  · split
    · rfl
    · split
      · exact key _
      · exact key _
theorem stay_wcommit {p : Pl} (h : p.crash = 0) (c : Int) (l : List Pg) : (p.wcommit c l).1.crash = 0 ∧ (p.wcommit c l).1.down = p.down := by
  unfold Pl.wcommit
  dsimp only
  split
  · exact ⟨h, rfl⟩
  · split
    · exact ⟨h, rfl⟩
    · split
      · exact stay_run _ h
      · exact stay_run _ h
theorem stay_wcheck {p : Pl} (h : p.crash = 0) (m : Int) : (p.wcheck m).1.crash = 0 ∧ (p.wcheck m).1.down = p.down := by
  unfold Pl.wcheck
  split
  · exact ⟨h, rfl⟩
  · split
    · exact ⟨h, rfl⟩
    · split
      · exact ⟨h, rfl⟩
      · exact stay_run _ h
theorem nocrash_wcheck {p : Pl} {fs : List Fr} {o : List Int} (h : AtW p fs o) (h0 : p.crash = 0) (m : Nat) (hm : isMark fs (m : Int) = true) :
    (p.wcheck (m : Int)).2 = 0 ∧ (p.wcheck (m : Int)).1.crash = 0 ∧ ∃ fs' o', AtW (p.wcheck (m : Int)).1 fs' o' ∧ viewW fs' o' = viewW fs o ∧ fs'.length ≤ fs.length ∧ (m ≠ fs.length ∨ m = 0 → fs' = fs ∧ o' = o) ∧ (m = fs.length → fs' = []) := by
  have hs := stay_wcheck h0 (m : Int)
  rcases at_wcheck h m hm with ⟨x0, x1⟩ | ⟨_, fs', o', x1, _⟩
  · exact ⟨x0, hs.1, x1⟩
  · have := x1.1.down
    rw [hs.2, h.pre.lv.up] at this
    cases this
/-! ### the states of WalStays -/
def StS (p : Pl) (k : Nat) : Prop := ∃ fs, AtW p fs [] ∧ fs.length ≤ 15 * k ∧ MkOk fs ∧ (marksTo fs (fs.length + 1)).length = k + 1 ∧ p.crash = 0 ∧ p.seen nmDb = []
/-- the marks of a disk -/
def marksP (p : Pl) : List Int := marksTo p.wopen.2 (p.wopen.2.length + 1)
theorem sts_new : StS (Pl.new 200000) 0 := ⟨[], atw_new, Nat.le_refl _, fun m _ _ f hf => by simp at hf, rfl, rfl, rfl⟩
theorem sts_atv {p : Pl} {k : Nat} (h : StS p k) : ∃ V, AtV p V k := by
  obtain ⟨fs, ha, hl, _⟩ := h
  exact ⟨_, fs, [], ha, hl, rfl⟩
theorem sts_marks {p : Pl} {k : Nat} (h : StS p k) : p.wopen.1 = 0 ∧ (marksP p).length = k + 1 := by
  obtain ⟨fs, ha, _, _, hl, _⟩ := h
  have h1 := (open_at ha).1
  unfold marksP
  rw [h1]
  exact ⟨rfl, hl⟩
/-- behind a commit: the marks of before say the same, and so they do behind a checkpoint up to one of them at it and behind it; a checkpoint up to the last mark leaves the pages alone -/
structure Stays (p q : Pl) : Prop where
  same : ∀ m ∈ marksP p, tellP q m = tellP p m
  chk : ∀ m ∈ marksP p, (q.wcheck m).2 = 0
  up : ∀ m ∈ marksP p, ∀ m' ∈ marksP p, m ≤ m' → tellP (q.wcheck m).1 m' = tellP p m'
  open_ : ∀ m ∈ marksP p, (q.wcheck m).1.wopen.1 = 0 ∧ (q.wcheck m).1.wmark.2 = 0
  last : ∀ m ∈ marksP p, ((q.wcheck m).1.wcheck (q.wcheck m).1.wmark.1).2 = 0
  cold : ∀ m ∈ marksP p, ((q.wcheck m).1.wcheck (q.wcheck m).1.wmark.1).1.wopen = (0, [])
  told : ∀ m ∈ marksP p, tellP ((q.wcheck m).1.wcheck (q.wcheck m).1.wmark.1).1 0 = tellP (q.wcheck m).1 (q.wcheck m).1.wmark.1
  sm : ∀ m ∈ marksP p, ∀ a, q.sm (a + 400000000) → (q.wcheck m).1.sm a
  sm2 : ∀ m ∈ marksP p, ∀ a, (q.wcheck m).1.sm (a + 400000000) → ((q.wcheck m).1.wcheck (q.wcheck m).1.wmark.1).1.sm a
theorem stays_law {p q : Pl} {k : Nat} {bs : List Int} {E : Int} {NOW : List (List Int)} (h : StS p k) (hk : k ≤ 10) (hb : ∀ y ∈ bs, (0 : Int) ≤ y ∧ y < 256) (hr : DoR p false bs q E NOW) :
    E = 0 ∧ StS q (k + 1) ∧ Stays p q ∧ ∀ a, p.sm (a + 400000000) → q.sm a := by
  obtain ⟨V, hV⟩ := sts_atv h
  obtain ⟨_, _, _, htell, hVl⟩ := atv_facts hV
  have hsm : ∀ a, p.sm (a + 400000000) → q.sm a := fun a ha => (do_law hV (by omega) hb ha hr).1
  obtain ⟨fs, ha, hl, hmk, hml, h0, hdb⟩ := h
  have hop := (open_at ha).1
  have hmp : marksP p = marksTo fs (fs.length + 1) := by unfold marksP; rw [hop]
  rcases hr with ⟨_, N, hN, e1, e2, e3⟩ | ⟨hc, _⟩
  · have hcl : (tellP p p.wmark.1).length = cL fs [] := by
      obtain ⟨t1, t2⟩ := tell_last ha
      rw [t1]
      show (tellP p (fs.length : Int)).length = _
      rw [t2, viewW_len]
    rw [hcl] at e1 e2 e3
    have hst := stay_wcommit h0 (N : Int) (chPgs bs (cL fs []) N)
    rcases at_wcommit ha (by omega) N hN bs hb with ⟨x0, x1⟩ | ⟨x0, x1⟩
    · rw [← e1] at x1 hst
      obtain ⟨new, hnew⟩ : ∃ new, newFr (N : Int) (chPgs bs (cL fs []) N) = new := ⟨_, rfl⟩
      have hmk2 := mkok_new hmk x1.gd.ok
      have hmn := marks_new (mark_last x1.gd.ok)
      have hne := newFr_ne (N : Int) (chPgs bs (cL fs []) N)
      have hnl : (newFr (N : Int) (chPgs bs (cL fs []) N)).length ≤ 15 := by
        rw [newFr_len9]
        have := chPgs_len bs (cL fs []) N
        omega
      rw [hnew] at x1 hmk2 hmn hne hnl
      have hnl2 : 0 < new.length := List.length_pos_iff.2 hne
      have hdb2 : q.seen nmDb = [] := by rw [e1, wcommit_db, hdb]
      have hq0 : q.crash = 0 := hst.1
      -- the marks of before
      have hmem : ∀ x ∈ marksP p, ∃ m : Nat, x = (m : Int) ∧ m ≤ fs.length ∧ isMark fs (m : Int) = true := fun x hx => by
        rw [hmp] at hx
        unfold marksTo at hx
        obtain ⟨m, hm, rfl⟩ := List.mem_map.1 hx
        obtain ⟨m1, m2⟩ := List.mem_filter.1 hm
        exact ⟨m, rfl, by have := List.mem_range.1 m1; omega, m2⟩
      have hzero : ∀ z : Pl, z.down = false → z.wopen.1 = 0 → z.seen nmDb = [] → tellP z 0 = [] := fun z z1 z2 z3 => by
        have hj : z.jcount = 0 := by
          unfold Pl.jcount Pl.len
          rw [z1, z3]
          rfl
        have hw : z.wcnt 0 = (0, 0) := by
          unfold Pl.wcnt
          rw [if_neg (by rw [z2]; simp)]
          unfold wcount
          rw [hj]
          rfl
        unfold tellP
        rw [hw]
        rfl
      have hsame : ∀ m : Nat, m ≤ fs.length → isMark fs (m : Int) = true → tellP q (m : Int) = tellP p (m : Int) := fun m hm1 hm2 => by
        by_cases hm0 : m = 0
        · subst hm0
          show tellP q 0 = tellP p 0
          rw [hzero q x1.pre.lv.up (by rw [(open_at x1).1]) hdb2, hzero p ha.pre.lv.up (by rw [hop]) hdb]
        · rw [tell_mark x1 hmk2 (by omega) (by rw [isMark_app _ _ hm1]; exact hm2), tell_mark ha hmk (by omega) hm2, tellF_app _ _ (by omega) hm1]
      have hck : ∀ m : Nat, m ≤ fs.length → isMark fs (m : Int) = true → (q.wcheck (m : Int)).2 = 0 ∧ (q.wcheck (m : Int)).1.crash = 0 ∧ AtW (q.wcheck (m : Int)).1 (fs ++ new) [] := fun m hm1 hm2 => by
        obtain ⟨y0, y1, fs', o', y2, _, _, y3, _⟩ := nocrash_wcheck x1 hq0 m (by rw [isMark_app _ _ hm1]; exact hm2)
        obtain ⟨rfl, rfl⟩ := y3 (.inl (by rw [List.length_append]; omega))
        exact ⟨y0, y1, y2⟩
      have hfin : ∀ r : Pl, AtW r (fs ++ new) [] → r.crash = 0 → (r.wcheck r.wmark.1).2 = 0 ∧ (r.wcheck r.wmark.1).1.wopen = (0, []) ∧ tellP (r.wcheck r.wmark.1).1 0 = tellP r r.wmark.1 := fun r hr1 hr2 => by
        obtain ⟨t1, t2⟩ := tell_last hr1
        rw [t1]
        dsimp only
        obtain ⟨y0, y1, fs', o', y2, y3, _, _, y5⟩ := nocrash_wcheck hr1 hr2 (fs ++ new).length (mark_last hr1.gd.ok)
        have hnil := y5 rfl
        subst hnil
        obtain ⟨t3, t4⟩ := tell_last y2
        exact ⟨y0, (open_at y2).1, by rw [t2, ← y3]; exact t4⟩
      refine ⟨e2.trans x0, ⟨fs ++ new, x1, by rw [List.length_append]; omega, hmk2, by rw [hmn, List.length_append, hml]; rfl, hq0, hdb2⟩, ⟨?_, ?_, ?_, ?_, ?_, ?_, ?_, ?_, ?_⟩, hsm⟩
      · intro x hx
        obtain ⟨m, rfl, m1, m2⟩ := hmem x hx
        exact hsame m m1 m2
      · intro x hx
        obtain ⟨m, rfl, m1, m2⟩ := hmem x hx
        exact (hck m m1 m2).1
      · intro x hx x' hx' hle
        obtain ⟨m, rfl, m1, m2⟩ := hmem x hx
        obtain ⟨m', rfl, m1', m2'⟩ := hmem x' hx'
        by_cases hm0 : m = 0
        · subst hm0
          have e : q.wcheck ((0 : Nat) : Int) = (q, 0) := by
            unfold Pl.wcheck
            rw [(open_at x1).1, if_neg (by simp), if_neg (by simp [isMark])]
            rfl
          rw [e]
          exact hsame m' m1' m2'
        · have hm'0 : 0 < m' := by omega
          rw [tell_mark (hck m m1 m2).2.2 hmk2 hm'0 (by rw [isMark_app _ _ m1']; exact m2'), tell_mark ha hmk hm'0 m2', tellF_app _ _ hm'0 m1']
      · intro x hx
        obtain ⟨m, rfl, m1, m2⟩ := hmem x hx
        have hc := (hck m m1 m2).2.2
        rw [(open_at hc).1, (tell_last hc).1]
        exact ⟨rfl, rfl⟩
      · intro x hx
        obtain ⟨m, rfl, m1, m2⟩ := hmem x hx
        have hc := (hck m m1 m2)
        exact (hfin _ hc.2.2 hc.2.1).1
      · intro x hx
        obtain ⟨m, rfl, m1, m2⟩ := hmem x hx
        have hc := (hck m m1 m2)
        exact (hfin _ hc.2.2 hc.2.1).2.1
      · intro x hx
        obtain ⟨m, rfl, m1, m2⟩ := hmem x hx
        have hc := (hck m m1 m2)
        exact (hfin _ hc.2.2 hc.2.1).2.2
      · intro x hx a hs
        obtain ⟨m, rfl, m1, m2⟩ := hmem x hx
        refine sm_wcheck ?_ hs
        rw [(open_at x1).1]
        have := whome_len9 x1 m (by rw [isMark_app _ _ m1]; exact m2)
        show (q.whome (fs ++ new) (m : Int)).length ≤ 2000
        omega
      · intro x hx a hs
        obtain ⟨m, rfl, m1, m2⟩ := hmem x hx
        have hc := (hck m m1 m2).2.2
        have ht := (tell_last hc).1
        rw [ht]
        dsimp only
        refine sm_wcheck ?_ hs
        rw [(open_at hc).1]
        have := whome_len9 hc (fs ++ new).length (mark_last hc.gd.ok)
        show ((q.wcheck (m : Int)).1.whome (fs ++ new) (((fs ++ new).length : Nat) : Int)).length ≤ 2000
        omega
    · have := x1.1.down
      rw [hst.2, ha.pre.lv.up] at this
      cases this
  · cases hc
/-- the marks rise -/
theorem marksP_rise {p : Pl} {i j : Nat} (hij : i ≤ j) (hj : j < (marksP p).length) : (marksP p).getD i 0 ≤ (marksP p).getD j 0 := by
  have hs : (marksP p).Pairwise fun a b => a < b := by
    unfold marksP marksTo
    rw [List.pairwise_map]
    refine List.Pairwise.imp ?_ (List.pairwise_lt_range.filter _)
    intro a b h
    omega
  rw [List.getD_eq_getElem?_getD, List.getD_eq_getElem?_getD, List.getElem?_eq_getElem (by omega), List.getElem?_eq_getElem hj]
  rcases Nat.lt_or_eq_of_le hij with q | q
  · exact Int.le_of_lt (List.pairwise_iff_getElem.1 hs i j (by omega) hj q)
  · subst q; exact Int.le_refl _
theorem marksP_mem {p : Pl} {i : Nat} (h : i < (marksP p).length) : (marksP p).getD i 0 ∈ marksP p := by
  rw [List.getD_eq_getElem?_getD, List.getElem?_eq_getElem h]
  exact List.getElem_mem h
end Go.Proofs.Ytegcbdfilkecpaa
/- WalAtomic: the function walked; no condition but on the arguments in memory. -/
namespace Go.Proofs.Ytegcbdfilkecpaa
open Go.RowKit

/-- a row of changes of the caller -/
def ChsW (w : World) (A : Option Addr) (n : Nat) : Prop := ∀ k, k < n → ∃ (g o : Nat) (hm : Bool) (C : Int) (Ab : Option Addr) (nb cb : Nat) (bs : List Int), A = some ⟨g, o, none⟩ ∧ g < w.heap.size ∧ w.cell? ⟨g, o + k * 3, none⟩ = some (.bool hm) ∧ w.cell? ⟨g, o + k * 3 + 1, none⟩ = some (.int .i64 C) ∧ w.cell? ⟨g, o + k * 3 + 2, none⟩ = some (.slice Ab nb cb) ∧ Bs w Ab nb bs ∧ nb ≤ 9223372036854775807
theorem ChsW.keep {w w' : World} {A : Option Addr} {n : Nat} (h : ChsW w A n) (k : Kp NoB w w') : ChsW w' A n := fun j hj => by
  obtain ⟨g, o, hm, C, Ab, nb, cb, bs, e, hg, h0, h1, h2, hb, hn⟩ := h j hj
  exact ⟨g, o, hm, C, Ab, nb, cb, bs, e, Nat.lt_of_lt_of_le hg k.size, (k.cell hg (fun q => q)).trans h0, (k.cell hg (fun q => q)).trans h1, (k.cell hg (fun q => q)).trans h2, hb.keep k, hn⟩
/-- a disk among the caller's blocks, its base now -/
structure StW (S : Nat → Prop) (w w1 : World) (db : Nat) (p : Pl) : Prop where
  dq : Dq S w1 w1 db p
  kw : Kp NoB w w1
  sw : ∀ b, S b → w.heap.size ≤ b
theorem StW.next {S : Nat → Prop} {w w1 w2 : World} {db : Nat} {p q : Pl} (h : StW S w w1 db p) (h2 : Dq S w1 w2 db q) : ∃ S', StW S' w w2 db q ∧ Kp S w1 w2 ∧ (∀ b, S' b → S b ∨ w1.heap.size ≤ b) := by
  obtain ⟨S', hq, hS⟩ := h2.base
  refine ⟨S', ⟨hq, (Dq.tr (w0 := w) h2 h.kw (fun b q => .inr (h.sw b q)) (fun b (q : False) => q.elim)).kp, fun b q => ?_⟩, h2.kp, hS⟩
  rcases hS b q with z | z
  · exact h.sw b z
  · have := h.kw.size; omega
theorem StW.keep {S : Nat → Prop} {w w1 w2 : World} {db : Nat} {p : Pl} (h : StW S w w1 db p) (k : Kp NoB w1 w2) : StW S w w2 db p :=
  ⟨h.dq.base1 k, h.kw.trans k (fun _ _ q => q), h.sw⟩
theorem StW.out {S : Nat → Prop} {w w1 : World} {db : Nat} {p : Pl} (h : StW S w w1 db p) : Dq (fun _ => False) w w1 db p :=
  Dq.tr (w0 := w) h.dq h.kw (fun b q => .inr (h.sw b q)) (fun b q => q.elim)
theorem StW.of {w w1 : World} {db : Nat} {p : Pl} (h : Dq (fun _ => False) w w1 db p) : ∃ S, StW S w w1 db p := by
  obtain ⟨S', hq, hS⟩ := h.base
  exact ⟨S', hq, h.kp, fun b q => by rcases hS b q with z | z; exact z.elim; exact z⟩
/-- what is told is a list away from the disk's blocks -/
theorem StW.told {S : Nat → Prop} {w w1 w2 : World} {db : Nat} {p : Pl} {v : Value} {l : List (List Int)} (h : StW S w w1 db p) (k : Kp NoB w1 w2) (ho : OwnRaw w2 w1.heap.size v l) (hl : l.length ≤ 5000) : RwS S w2 v l := by
  obtain ⟨A, c, rfl, hraw, _, hge⟩ := raws_own2 ho rfl
  exact ⟨A, l.length, c, rfl, hraw, ho.2, hl, fun g o e _ q => by
    have h1 := hge g o e
    have h2 := h.dq.lt g q
    omega⟩
theorem RwS.keepN {S : Nat → Prop} {w w' : World} {v : Value} {l : List (List Int)} (h : RwS S w v l) (k : Kp NoB w w') : RwS S w' v l := h.keep (k.mono (fun _ _ q => q.elim)) (fun _ q => .inl q)
theorem RwS.at_ {S : Nat → Prop} {w : World} {A : Option Addr} {m c : Nat} {l : List (List Int)} (h : RwS S w (.slice A m c) l) : RawsAt w A m l ∧ rawOk l ∧ m ≤ 5000 := by
  obtain ⟨A', m', c', e, hr, ok, hm, _⟩ := h
  injection e with e1 e2 e3
  subst e1; subst e2
  exact ⟨hr, ok, hm⟩
attribute [local go_sem ↓] load26 store26 alloc26 build26 eql26
end Go.Proofs.Ytegcbdfilkecpaa
/- WalStays: the function walked; no condition but on the arguments in memory. -/
namespace Go.Proofs.Ytegcbdfilkecpaa
open Go.RowKit

/-- marks in memory, away from the disk's blocks -/
structure MkR (S : Nat → Prop) (w : World) (A : Option Addr) (n : Nat) (Ms : List Int) : Prop where
  nums : Nums w A n Ms
  ap : ∀ g o, A = some ⟨g, o, none⟩ → ¬ S g
  pos : 0 < n
theorem MkR.keep {S S' : Nat → Prop} {w w' : World} {A : Option Addr} {n : Nat} {Ms : List Int} (h : MkR S w A n Ms) (k : Kp S w w') (hS : ∀ b, S' b → S b ∨ w.heap.size ≤ b) : MkR S' w' A n Ms := by
  refine ⟨h.nums.keep k h.ap, fun g o e z => ?_, h.pos⟩
  obtain ⟨g', o', e', hg, _⟩ := h.nums.2 h.pos
  rw [e] at e'
  injection e' with e'
  injection e' with e1 e2
  rcases hS g z with q | q
  · exact h.ap g o e q
  · omega
theorem MkR.keepN {S : Nat → Prop} {w w' : World} {A : Option Addr} {n : Nat} {Ms : List Int} (h : MkR S w A n Ms) (k : Kp NoB w w') : MkR S w' A n Ms := h.keep (k.mono (fun _ _ q => q.elim)) (fun _ q => .inl q)
/-- lists of pages in memory, away from the disk's blocks -/
structure Td (S : Nat → Prop) (w : World) (A : Option Addr) (n : Nat) (vs : List Value) (F : Nat → List (List Int)) : Prop where
  rows : RowsC w A n 1 (vs.map fun v => [v])
  ap : ∀ g o, A = some ⟨g, o, none⟩ → 0 < n → ¬ S g
  each : ∀ j v, vs[j]? = some v → RwS S w v (F j)
theorem Td.keep {S S' : Nat → Prop} {w w' : World} {A : Option Addr} {n : Nat} {vs : List Value} {F : Nat → List (List Int)} (h : Td S w A n vs F) (k : Kp S w w') (hS : ∀ b, S' b → S b ∨ w.heap.size ≤ b) : Td S' w' A n vs F := by
  refine ⟨h.rows.keepS k h.ap, fun g o e hn z => ?_, fun j v hv => (h.each j v hv).keep k hS⟩
  obtain ⟨g', o', e', hg, _⟩ := h.rows.2.2 hn
  rw [e] at e'
  injection e' with e'
  injection e' with e1 e2
  rcases hS g z with q | q
  · exact h.ap g o e hn q
  · omega
theorem Td.keepN {S : Nat → Prop} {w w' : World} {A : Option Addr} {n : Nat} {vs : List Value} {F : Nat → List (List Int)} (h : Td S w A n vs F) (k : Kp NoB w w') : Td S w' A n vs F := h.keep (k.mono (fun _ _ q => q.elim)) (fun _ q => .inl q)
theorem infoRw38 : (Try.prog.info? 38).map (fun i => (i.zero, i.size, i.bytes)) = some (some (.slice none 0 0), 1, 24) := by kernel_rfl
def WsRel (w : World) (n db : Nat) (v6 : Value) (wr : World) : Prop := ∃ (k : Nat) (p : Pl), v6 = .int .i64 (k : Int) ∧ k ≤ n ∧ Dq (fun _ => False) w wr db p ∧ StS p k ∧ p.sm ((20 - k) * 400000000)
/-- the disk's blocks and a row's own -/
def OrOwn (S : Nat → Prop) (v : Value) : Nat → Prop := fun b => S b ∨ v.ownBlock = some b
theorem told_of {T : Nat → Prop} {n0 : Nat} {w : World} {v : Value} {l : List (List Int)} (ho : OwnRaw w n0 v l) (hl : l.length ≤ 5000) (hT : ∀ b, T b → b < n0) : RwS T w v l := by
  obtain ⟨A, c, rfl, hraw, _, hge⟩ := raws_own2 ho rfl
  exact ⟨A, l.length, c, rfl, hraw, ho.2, hl, fun g o e _ q => by
    have h1 := hge g o e
    have h2 := hT g q
    omega⟩
theorem map_one_flat (vs : List Value) : (vs.map fun v => [v]).flatten = vs := by
  induction vs with
  | nil => rfl
  | cons v r ih => simpa using ih
theorem RwS.sub {S T : Nat → Prop} {w : World} {v : Value} {l : List (List Int)} (h : RwS S w v l) (hs : ∀ b, T b → S b) : RwS T w v l := by
  obtain ⟨A, m, c, e, hr, ok, hm, ha⟩ := h
  exact ⟨A, m, c, e, hr, ok, hm, fun g o e hp q => ha g o e hp (hs g q)⟩
theorem Td.cell {S : Nat → Prop} {w : World} {A : Option Addr} {n : Nat} {vs : List Value} {F : Nat → List (List Int)} (h : Td S w A n vs F) {i : Nat} (hi : i < n) : ∃ g o A0 m0 c0, A = some ⟨g, o, none⟩ ∧ g < w.heap.size ∧ w.cell? ⟨g, o + i, none⟩ = some (.slice A0 m0 c0) ∧ RwS S w (.slice A0 m0 c0) (F i) := by
  have hl : vs.length = n := by have := h.rows.1; rwa [List.length_map] at this
  have hv : vs[i]? = some vs[i] := List.getElem?_eq_getElem (by omega)
  have hr := h.each i _ hv
  obtain ⟨g, o, e, hg, hc⟩ := h.rows.cell (k := i) (x := [vs[i]]) (by rw [List.getElem?_map, hv]; rfl)
  have hc0 := hc 0 vs[i] rfl
  generalize vs[i] = v at hr hc0
  obtain ⟨A0, m0, c0, rfl, hx⟩ := hr
  rw [Nat.mul_one, Nat.add_zero] at hc0
  exact ⟨g, o, A0, m0, c0, e, hg, hc0, ⟨A0, m0, c0, rfl, hx⟩⟩
theorem MkR.cell {S : Nat → Prop} {w : World} {A : Option Addr} {n : Nat} {Ms : List Int} (h : MkR S w A n Ms) {i : Nat} (hi : i < n) : ∃ g o, A = some ⟨g, o, none⟩ ∧ g < w.heap.size ∧ w.cell? ⟨g, o + i, none⟩ = some (.int .i64 (Ms.getD i 0)) := by
  obtain ⟨g, o, e, hg, hc⟩ := h.nums.2 h.pos
  exact ⟨g, o, e, hg, hc i hi⟩
theorem bs999 (w : World) : Bs (w.alloc (.cells #[.int .u8 9, .int .u8 9, .int .u8 9] 5)) (some ⟨w.heap.size, 0, none⟩) 3 [9, 9, 9] := by
  have hb := Blk.new w 5 #[.int .u8 9, .int .u8 9, .int .u8 9]
  refine ⟨rfl, by simp, fun k y h => ⟨_, _, rfl, hb.lt, ?_⟩⟩
  rw [hb.cell, Nat.zero_add]
  match k, h with
  | 0, h => injection h with h; rw [← h]; rfl
  | 1, h => injection h with h; rw [← h]; rfl
  | 2, h => injection h with h; rw [← h]; rfl
/-- told so far -/
def WtRel2 (S : Nat → Prop) (w0 : World) (p : Pl) (A9 : Option Addr) (n9 : Nat) (Ms : List Int) (v11 v12 : Value) (wr : World) : Prop := ∃ (i : Nat) (vs : List Value), v12 = .int .i64 (i : Int) ∧ i ≤ n9 ∧ vs.length = i ∧ wr.ownsRow w0.heap.size 38 1 v11 i vs ∧ Kp NoB w0 wr ∧ MkR (OrOwn S v11) wr A9 n9 Ms ∧ (∀ j v, vs[j]? = some v → RwS (OrOwn S v11) wr v (tellP p (Ms.getD j 0)))
attribute [local go_sem ↓] load26 store26 alloc26 build26 eql26
set_option maxRecDepth 100000 in
set_option maxHeartbeats 4000000 in
theorem wstay_ok (w : World) (A : Option Addr) (n cap : Nat) (hL : ChsW w A n) (K : Int) :
    Calls Try.prog 8 #[.slice A n cap, .int .i64 K] w fun e w' => e = .returned (.bool true) ∧ Kp NoB w w' := by
  have HL := Lib.hid hL
  clear hL
  by_cases hbig : 10 < n
  · have hb : (10 : Int) < (n : Int) := by omega
    go_enter Try.func8, Try.ntmps8
    go_wp2_with (go_at_call 36; go_must (refine (wawake_ok _).mono ?_); rintro e w8 ⟨rfl, hk8⟩; have HK8 := Lib.hid hk8; clear hk8)
    go_ret
    exact ⟨rfl, HK8.out⟩
  · have hb : ¬ (10 : Int) < (n : Int) := by omega
    obtain ⟨M, hM, hbits⟩ := and1023 K
    go_enter Try.func8, Try.ntmps8
    go_wp2_with fail
    refine (new_q w 200000 (by omega)).mono ?_
    rintro e w1 ⟨db, rfl, h1⟩
    have H1 := Lib.hid h1
    clear h1
    unfold ptrV
    go_wp2_with fail
    go_loopw [6] (fun v6 wr => WsRel w n db v6 wr) (fun v _ => n - (intOf v).toNat)
    case atStart => exact ⟨0, Pl.new 200000, rfl, by omega, H1.out, sts_new, by unfold Pl.sm; show 0 + 0 + _ < _; omega⟩
    case round =>
      obtain ⟨wq, rfl⟩ : ∃ wq, wq = wr := ⟨_, rfl⟩
      obtain ⟨k, p, rfl, hk, hq, hI, hsm⟩ := hrel
      obtain ⟨S, hst⟩ := StW.of hq
      have HST := Lib.hid hst
      have HI := Lib.hid hI
      have HSM := Lib.hid hsm
      clear hq hst hI hsm
      by_cases hlt : k < n
      · have hkk : (k : Int) < (n : Int) := by omega
        obtain ⟨g, o, hm, C, Ab, nb, cb, bs, e, hg, hc0, hd1, hd2, hbs, hnb⟩ := HL.out k hlt
        subst e
        have hc1 := (HST.out.kw.cell hg (fun q => q)).trans hd1
        have hc2 := (HST.out.kw.cell hg (fun q => q)).trans hd2
        have HBS := Lib.hid (hbs.keep HST.out.kw)
        have HNB := Lib.hid hnb
        have HBR := Lib.hid hbs.2.1
        have HD1 := Lib.hid hd1
        have HD2 := Lib.hid hd2
        have HG := Lib.hid hg
        clear hbs hnb hg hc0 hd1 hd2
        go_upto_region 7 with fail
        go_region_held3 (fun w' => w'.cell? ⟨g, o + k * 3 + 1, none⟩ = some (.int .i64 C) ∧ w'.cell? ⟨g, o + k * 3 + 2, none⟩ = some (.slice Ab nb cb)) (first | exact ⟨hc1, hc2⟩ | exact ⟨he1, he2⟩ | go_keep) (first
          | (go_at_call 37
             go_must (refine (show Calls _ _ #[ptrV db, .agg #[.bool false, .int .i64 C, .slice Ab nb cb]] _ _ from do_q (HST.out.keep ((Kp.refl _ _).drew)).dq false C Ab nb cb bs (HBS.out.keep ((Kp.refl _ _).drew)) HNB.out (sts_marks HI.out).1 (sm_mono HSM.out (by omega))).mono ?_)
             rintro e w5 ⟨q, E, NOW, v5, S5, hr, rfl, hq5, hk5, hS5, hrw5⟩
             obtain ⟨E0, hs5, hstay, hsm5⟩ := stays_law HI.out (by omega) HBR.out hr
             subst E0
             have hst5 : StW S5 w w5 db q := ⟨hq5, ((HST.out.keep ((Kp.refl _ _).drew)).kw).trans hk5 (fun b hb2 q => by have := HST.out.sw b q; omega), fun b q => by
               rcases hS5 b q with z | z
               · exact HST.out.sw b z
               · have := (HST.out.keep ((Kp.refl _ _).drew)).kw.size; omega⟩
             have he1 := (hst5.kw.cell HG.out (fun q => q)).trans HD1.out
             have he2 := (hst5.kw.cell HG.out (fun q => q)).trans HD2.out
             have HST5 := Lib.hid hst5
             have HS5 := Lib.hid hs5
             have HSM5 := Lib.hid (hsm5 ((20 - (k + 1)) * 400000000) (sm_mono HSM.out (by omega)))
             clear hr hq5 hk5 hS5 hrw5 hs5 hstay hsm5 hst5))
        go_wp2_with fail
        exact ⟨⟨k + 1, q, by congr 1, by omega, HST5.out.out, HS5.out, HSM5.out⟩, by simp [intOf]; omega⟩
      · have hkk : ¬ (k : Int) < (n : Int) := by omega
        obtain rfl : k = n := by omega
        go_wp2_with fail
        obtain ⟨f1, f2⟩ := sts_marks HI.out
        refine (show Calls _ _ #[ptrV db] _ _ from wmarks_q HST.out.dq).mono ?_
        rintro e w2 (⟨e1, _, _⟩ | ⟨_, v, rfl, how, hk2⟩)
        · exact absurd f1 e1
        · have how2 : w2.ownsRow wq.heap.size 3 1 v (marksP p).length ((marksP p).map (Value.int .i64)) := how
          rw [f2] at how2
          obtain ⟨A9, c9, rfl⟩ := own_slice how2
          have hnm := nums_own how2 f2
          have hmk : MkR S w2 A9 (k + 1) (marksP p) := ⟨hnm, fun g o e z => by
            rcases own_blkN how2 (by omega) with ⟨g', ds, e', hg', _⟩
            rw [e] at e'
            injection e' with e'
            injection e' with e1 e2
            have := HST.out.dq.lt g z
            omega, by omega⟩
          obtain ⟨n9, hn9⟩ : ∃ n9, k + 1 = n9 := ⟨_, rfl⟩
          have hn9i : (k : Int) + 1 = (n9 : Int) := by omega
          have hwr : IntKind.i64.wrap ((k : Int) + 1) = (n9 : Int) := by rw [IntKind.wrap_i64]; omega
          have hne0 : ((n9 : Int) != (n9 : Int)) = false := by simp
          rw [hn9] at hmk f2
          have HMK := Lib.hid hmk
          have HF2 := Lib.hid f2
          have HN9 := Lib.hid hn9
          have hn91 : n9 ≤ 11 := by omega
          have hn92 : 1 ≤ n9 := by omega
          have HST2 := Lib.hid (HST.out.keep hk2)
          have hkt : ((k + 1 : Nat) : Int) = (n9 : Int) := by omega
          rw [hn9]
          clear how how2 hnm hmk f1 f2 hk2 hn9 hkt
          dsimp only
          go_wp2_with fail
          have HK0 := Lib.hid (Kp.refl NoB w2)
          obtain ⟨j0, hj0, hy0, hy1, hy2⟩ := info_parts infoRw38
          have HJ0 := Lib.hid hj0
          have HY0 := Lib.hid hy0
          have HY1 := Lib.hid hy1
          have HY2 := Lib.hid hy2
          clear hj0 hy0 hy1 hy2
          go_loopw [11, 12] (fun v11 v12 wr => WtRel2 S w2 p A9 n9 (marksP p) v11 v12 wr) (fun _ v _ => n9 - (intOf v).toNat)
          case atStart => exact ⟨0, [], rfl, by omega, rfl, World.ownsRow_nil _ _ _ _, HK0.out, ⟨HMK.out.nums, fun g o e z => z.elim (HMK.out.ap g o e) (fun z => by cases z), HMK.out.pos⟩, fun j v h => by simp at h⟩
          case round =>
            obtain ⟨w3, rfl⟩ : ∃ w3, w3 = wr := ⟨_, rfl⟩
            obtain ⟨i, vs, rfl, hi, hvl, how, hk3, hmk3, hea⟩ := hrel
            have HK3 := Lib.hid hk3
            have HMK3 := Lib.hid hmk3
            have HEA := Lib.hid hea
            have HVL := Lib.hid hvl
            have HOW := Lib.hid how
            have HST3 := Lib.hid (HST2.out.keep hk3)
            obtain ⟨A11, c11, rfl⟩ := own_slice how
            clear hk3 hmk3 hea hvl how
            by_cases hlt : i < n9
            · have hkk : (i : Int) < (n9 : Int) := by omega
              obtain ⟨g, o, e, hg, hc⟩ := HMK3.out.nums.2 HMK3.out.pos
              subst e
              have cm := hc i hlt
              obtain ⟨x, hx⟩ : ∃ x, (marksP p).getD i 0 = x := ⟨_, rfl⟩
              rw [hx] at cm
              have HX := Lib.hid hx
              clear hc hx hg
              go_wp2_with fail
              refine (show Calls _ _ #[ptrV db, .int .i64 x] _ _ from wtell_q HST3.out.dq x).mono ?_
              rintro e w4 ⟨v, rfl, how4, hk4⟩
              have hrg := wcnt_rng HST3.out.dq x
              have hT : ∀ b, OrOwn S (.slice A11 i c11) b → b < w3.heap.size := fun b z => by
                rcases z with z | z
                · exact HST3.out.dq.lt b z
                · exact own_lt HOW.out b z
              have hrw : RwS (OrOwn S (.slice A11 i c11)) w4 v (tellP p x) := told_of how4 (by rw [tellP_len]; omega) hT
              have HRW := Lib.hid hrw
              have HK4 := Lib.hid hk4
              obtain ⟨A0, m0, c0, hv0, _⟩ := hrw
              subst hv0
              have ho1 : (Value.slice A0 m0 c0).oneCell' = true := rfl
              clear how4 hrg hk4 cm hT
              go_wp2_with (at_builtin
                           refine wpList_append_ownB rfl _ _ 84 rfl w2.heap.size 38 j0 _ 1 24 Try.underlying84 HJ0.out HY0.out HY1.out HY2.out rfl (by omega) _ i vs rfl (own_keepB HOW.out (HK4.out.alloc _) (fun _ _ q => q)) ⟨w4.heap.size, 0, none⟩ 1 1 [_] rfl rfl (cell_one_new _ _ _) (by simpa using ho1) (by unfold maxLen; omega) (by omega) (by have h1 := HK3.out.size; have h2 := HK4.out.size; simp; omega) ?_
                           intro v7 w7 hown7 hgrow7 hb7
                           have hk7 := ((HK3.out.trans HK4.out (fun _ _ q => q)).alloc (.cells #[.slice A0 m0 c0] 38)).own hgrow7 rfl HOW.out
                           have hkT : Kp (OrOwn S (.slice A11 i c11)) w3 w7 := ((HK4.out.mono (fun _ _ q => q.elim)).alloc (.cells #[.slice A0 m0 c0] 38)).grown hgrow7 (fun k hk => .inr (.inr hk))
                           have hkT4 : Kp (OrOwn S (.slice A11 i c11)) w4 w7 := ((Kp.refl _ w4).alloc (.cells #[.slice A0 m0 c0] 38)).grown hgrow7 (fun k hk => .inr (.inr hk))
                           have hS4 : ∀ b, OrOwn S v7 b → OrOwn S (.slice A11 i c11) b ∨ w4.heap.size ≤ b := fun b z => by
                             rcases z with z | z
                             · exact .inl (.inl z)
                             · rcases hb7 b z with y | y
                               · exact .inl (.inr y)
                               · exact .inr (by simp at y; omega)
                           have HS4 := Lib.hid hS4
                           have HO7 := Lib.hid hown7
                           have HK7 := Lib.hid hk7
                           have HKT := Lib.hid hkT
                           have HKT4 := Lib.hid hkT4
                           clear hown7 hgrow7 hb7 hk7 hkT hkT4 hS4)
              go_roundw
              case rel =>
                have hS3 : ∀ b, OrOwn S v7 b → OrOwn S (.slice A11 i c11) b ∨ w3.heap.size ≤ b := fun b z => by
                  rcases HS4.out b z with y | y
                  · exact .inl y
                  · have := HK4.out.size; exact .inr (by omega)
                refine ⟨i + 1, vs ++ [.slice A0 m0 c0], by go_num, by omega, by rw [List.length_append, HVL.out]; rfl, HO7.out, HK7.out, HMK3.out.keep HKT.out hS3, fun j u hj => ?_⟩
                rcases Nat.lt_or_ge j vs.length with q | q
                · rw [List.getElem?_append_left q] at hj
                  exact (HEA.out j u hj).keep HKT.out hS3
                · rw [List.getElem?_append_right q] at hj
                  have hj0 : j = i := by
                    have := HVL.out
                    rcases Nat.lt_or_ge (j - vs.length) 1 with z | z
                    · omega
                    · rw [List.getElem?_eq_none (by simpa using z)] at hj; cases hj
                  rw [hj0, HVL.out, Nat.sub_self] at hj
                  injection hj with hj
                  rw [← hj, hj0, HX.out]
                  exact HRW.out.keep HKT4.out HS4.out
              case measure => simp [intOf]; omega
            · have hkk : ¬ (i : Int) < (n9 : Int) := by omega
              obtain rfl : i = n9 := by omega
              have htd : Td S w3 A11 i vs (fun j => tellP p ((marksP p).getD j 0)) := ⟨RowsC.own (base := w2.heap.size) (cap := c11) (e := 38) (by rw [map_one_flat]; exact HOW.out) (by rw [List.length_map]; exact HVL.out) (fun x hx => by obtain ⟨v, _, rfl⟩ := List.mem_map.1 hx; rfl), fun g o e hn z => by
                rcases own_blkN HOW.out hn with ⟨g', ds, e', hg', _⟩
                rw [e] at e'
                injection e' with e'
                injection e' with e1 e2
                have := HST2.out.dq.lt g z
                omega, fun j v hv => (HEA.out j v hv).sub (fun b z => .inl z)⟩
              have HTD := Lib.hid htd
              have HMK4 : Hid (MkR S w3 A9 i (marksP p)) := Lib.hid ⟨HMK3.out.nums, fun g o e z => HMK3.out.ap g o e (.inl z), HMK3.out.pos⟩
              have hw9 : IntKind.u8.wrap 9 = 9 := by decide
              clear htd
              go_wp2_with fail
              have hk39 : Kp NoB w3 (w3.alloc (.cells #[.int .u8 9, .int .u8 9, .int .u8 9] 5)) := (Kp.refl _ _).alloc _
              refine (show Calls _ _ #[ptrV db, .agg #[.bool false, .int .i64 3, .slice (some ⟨w3.heap.size, 0, none⟩) 3 3]] _ _ from do_q (HST3.out.keep hk39).dq false 3 (some ⟨w3.heap.size, 0, none⟩) 3 3 [9, 9, 9] (bs999 w3) (by omega) (sts_marks HI.out).1 (sm_mono HSM.out (by omega))).mono ?_
              rintro e w5 ⟨q, E, NOW, v5, S5, hr, rfl, hq5, hk5, hS5, hrw5⟩
              obtain ⟨E0, hs5, hstay, hsm5⟩ := stays_law HI.out (by omega) (by simp) hr
              subst E0
              have hst5 : StW S5 w w5 db q := ⟨hq5, ((HST3.out.keep hk39).kw).trans hk5 (fun b hb2 q => by have := HST3.out.sw b q; omega), fun b q => by
                rcases hS5 b q with z | z
                · exact HST3.out.sw b z
                · have := (HST3.out.keep hk39).kw.size; omega⟩
              have HST5 := Lib.hid hst5
              have HSTAY := Lib.hid hstay
              have HSM5 := Lib.hid (hsm5 ((20 - (k + 1)) * 400000000) (sm_mono HSM.out (by omega)))
              have HTD5 := Lib.hid ((HTD.out.keepN hk39).keep hk5 hS5)
              have HMK5 := Lib.hid ((HMK4.out.keepN hk39).keep hk5 hS5)
              clear hr hq5 hk5 hS5 hrw5 hs5 hstay hsm5 hst5 hk39
              dsimp only
              go_wp2_with fail
              have HK55 := Lib.hid (Kp.refl NoB w5)
              go_loopw [13] (fun v13 wr => ∃ i' : Nat, v13 = .int .i64 (i' : Int) ∧ i' ≤ i ∧ Kp NoB w5 wr) (fun v _ => i - (intOf v).toNat)
              case atStart => exact ⟨0, rfl, by omega, HK55.out⟩
              case round =>
                obtain ⟨w6, rfl⟩ : ∃ w6, w6 = wr := ⟨_, rfl⟩
                obtain ⟨j, rfl, hj, hk6⟩ := hrel
                have HK6 := Lib.hid hk6
                have HST6 := Lib.hid (HST5.out.keep hk6)
                have HTD6 := Lib.hid (HTD5.out.keepN hk6)
                have HMK6 := Lib.hid (HMK5.out.keepN hk6)
                clear hk6
                by_cases hlt2 : j < i
                · have hkk2 : (j : Int) < (i : Int) := by omega
                  obtain ⟨g1, o1, A0, m0, c0, e, hg1, hc1, hr1⟩ := HTD6.out.cell hlt2
                  subst e
                  obtain ⟨g2, o2, e, hg2, hc2⟩ := HMK6.out.cell hlt2
                  subst e
                  obtain ⟨x, hx⟩ : ∃ x, (marksP p).getD j 0 = x := ⟨_, rfl⟩
                  rw [hx] at hc2 hr1
                  have hxm : x ∈ marksP p := by rw [← hx]; exact marksP_mem (by have := HF2.out; omega)
                  have HXM := Lib.hid hxm
                  have HR1 := Lib.hid hr1
                  have HC1 := Lib.hid hc1
                  have HC2 := Lib.hid hc2
                  have HG1 := Lib.hid hg1
                  have HG2 := Lib.hid hg2
                  clear hx hxm hr1 hg1 hg2
                  go_upto_region 24 with fail
                  go_region_held3 (fun w' => w'.cell? ⟨g1, o1 + j, none⟩ = some (.slice A0 m0 c0) ∧ w'.cell? ⟨g2, o2 + j, none⟩ = some (.int .i64 x)) (first | exact ⟨hc1, hc2⟩ | exact ⟨he1, he2⟩ | exact ⟨hf1, hf2⟩ | go_keep) (first
                    | (go_at_call 39
                       go_must (refine (show Calls _ _ #[ptrV db, .int .i64 x] _ _ from wtell_q (HST6.out.keep ((Kp.refl _ _).drew)).dq x).mono ?_)
                       rintro e w7 ⟨v, rfl, how7, hk7⟩
                       rw [HSTAY.out.same x HXM.out] at how7
                       have hrg := wcnt_rng (HST6.out.keep ((Kp.refl _ _).drew)).dq x
                       have htl : (tellP p x).length ≤ 5000 := by
                         rw [← HSTAY.out.same x HXM.out, tellP_len]; omega
                       obtain ⟨A7, c7, rfl, hraw7, -, -⟩ := raws_own2 how7 rfl
                       have hk67 := ((Kp.refl NoB w6).drew).trans hk7 (fun _ _ q => q)
                       have he1 := (hk67.cell HG1.out (fun q => q)).trans HC1.out
                       have he2 := (hk67.cell HG2.out (fun q => q)).trans HC2.out
                       have HK67 := Lib.hid hk67
                       have HRAW7 := Lib.hid hraw7
                       have HRO7 := Lib.hid how7.2
                       have HTL := Lib.hid htl
                       clear how7 hk7 hk67 hraw7 hrg htl)
                    | (go_at_call 40
                       have hrr := HR1.out.keepN HK67.out
                       go_must (refine (wsame_q w7 A0 A7 m0 _ c0 c7 (tellP p x) (tellP p x) hrr.at_.1 HRAW7.out hrr.at_.2.1 HRO7.out (by have := hrr.at_.2.2; omega) (by have := HTL.out; omega)).mono ?_)
                       rintro e w8 ⟨rfl, hk8⟩
                       rw [decide_eq_true rfl]
                       have hf1 := (hk8.cell (Nat.lt_of_lt_of_le HG1.out HK67.out.size) (fun q => q)).trans he1
                       have hf2 := (hk8.cell (Nat.lt_of_lt_of_le HG2.out HK67.out.size) (fun q => q)).trans he2
                       have HK8 := Lib.hid hk8
                       clear hk8 hrr))
                  go_wp2_with fail
                  exact ⟨⟨j + 1, by congr 1, by omega, HK6.out.trans (HK67.out.trans HK8.out (fun _ _ q => q)) (fun _ _ q => q)⟩, by simp [intOf]; omega⟩
                · have hkk2 : ¬ (j : Int) < (i : Int) := by omega
                  obtain rfl : j = i := by omega
                  have hz0 : ((j : Int) == 0) = false := by simp; omega
                  obtain ⟨t, ht⟩ : ∃ t, M % j = t := ⟨_, rfl⟩
                  have htj : t < j := by rw [← ht]; exact Nat.mod_lt _ (by omega)
                  have hmod : Int.tmod (M : Int) (j : Int) = (t : Int) := by rw [← ht]; rfl
                  have htj2 : (t : Int) < (j : Int) := by omega
                  obtain ⟨g2, o2, e, hg2, hc2⟩ := HMK6.out.cell htj
                  subst e
                  obtain ⟨m, hx⟩ : ∃ m, (marksP p).getD t 0 = m := ⟨_, rfl⟩
                  rw [hx] at hc2
                  have hmm : m ∈ marksP p := by rw [← hx]; exact marksP_mem (by have := HF2.out; omega)
                  have HMM := Lib.hid hmm
                  have HX := Lib.hid hx
                  clear ht hx hmm hg2
                  go_wp2_with fail
                  refine (show Calls _ _ #[ptrV db, .int .i64 m] _ _ from wcheck_q HST6.out.dq m (sm_mono HSM5.out (by omega))).mono ?_
                  rintro e w7 ⟨rfl, h7⟩
                  rw [HSTAY.out.chk m HMM.out]
                  obtain ⟨S7, hst7, hk7, hS7⟩ := HST6.out.next h7
                  have HST7 := Lib.hid hst7
                  have HTD7 := Lib.hid (HTD6.out.keep hk7 hS7)
                  have HMK7 := Lib.hid (HMK6.out.keep hk7 hS7)
                  have HSM7 := Lib.hid (HSTAY.out.sm m HMM.out ((20 - (k + 2)) * 400000000) (sm_mono HSM5.out (by omega)))
                  obtain ⟨ho1, ho2⟩ := HSTAY.out.open_ m HMM.out
                  have hla := HSTAY.out.last m HMM.out
                  have hco := HSTAY.out.cold m HMM.out
                  have hto := HSTAY.out.told m HMM.out
                  have hup : ∀ x ∈ marksP p, m ≤ x → tellP (q.wcheck m).1 x = tellP p x := HSTAY.out.up m HMM.out
                  obtain ⟨q3, hq3⟩ : ∃ q3, (q.wcheck m).1 = q3 := ⟨_, rfl⟩
                  rw [hq3] at HST7 HSM7 ho1 ho2 hla hco hto hup
                  have HO1 := Lib.hid ho1
                  have HO2 := Lib.hid ho2
                  have HLA := Lib.hid hla
                  have HCO := Lib.hid hco
                  have HTO := Lib.hid hto
                  have HUP := Lib.hid hup
                  clear h7 hst7 hk7 hS7 ho1 ho2 hla hco hto hup hq3 hc2
                  go_wp2_with fail
                  have HK77 := Lib.hid (Kp.refl NoB w7)
                  go_loopw [15] (fun v15 wr => ∃ i' : Nat, v15 = .int .i64 (i' : Int) ∧ i' ≤ j ∧ t ≤ i' ∧ Kp NoB w7 wr) (fun v _ => j - (intOf v).toNat)
                  case atStart => exact ⟨t, rfl, by omega, Nat.le_refl _, HK77.out⟩
                  case round =>
                    obtain ⟨w8, rfl⟩ : ∃ w8, w8 = wr := ⟨_, rfl⟩
                    obtain ⟨l, rfl, hl, htl, hk8⟩ := hrel
                    have HK8 := Lib.hid hk8
                    have HST8 := Lib.hid (HST7.out.keep hk8)
                    have HTD8 := Lib.hid (HTD7.out.keepN hk8)
                    have HMK8 := Lib.hid (HMK7.out.keepN hk8)
                    clear hk8
                    by_cases hlt3 : l < j
                    · have hkk3 : (l : Int) < (j : Int) := by omega
                      obtain ⟨g1, o1, A0, m0, c0, e, hg1, hc1, hr1⟩ := HTD8.out.cell hlt3
                      subst e
                      obtain ⟨g2, o2, e, hg2, hc2⟩ := HMK8.out.cell hlt3
                      injection e with e
                      injection e with e1 e2 e3
                      subst e1; subst e2
                      have hle := marksP_rise (p := p) (i := t) (j := l) htl (by have := HF2.out; omega)
                      obtain ⟨x, hx⟩ : ∃ x, (marksP p).getD l 0 = x := ⟨_, rfl⟩
                      rw [hx] at hc2 hr1 hle
                      have hxm : x ∈ marksP p := by rw [← hx]; exact marksP_mem (by have := HF2.out; omega)
                      rw [HX.out] at hle
                      have HTX := Lib.hid (HUP.out x hxm hle)
                      have HR1 := Lib.hid hr1
                      have HC1 := Lib.hid hc1
                      have HC2 := Lib.hid hc2
                      have HG1 := Lib.hid hg1
                      have HG2 := Lib.hid hg2
                      clear hx hxm hr1 hg1 hg2 hle
                      go_upto_region 32 with fail
                      go_region_held3 (fun w' => w'.cell? ⟨g1, o1 + l, none⟩ = some (.slice A0 m0 c0) ∧ w'.cell? ⟨g2, o2 + l, none⟩ = some (.int .i64 x)) (first | exact ⟨hc1, hc2⟩ | exact ⟨he1, he2⟩ | exact ⟨hf1, hf2⟩ | go_keep) (first
                        | (go_at_call 39
                           go_must (refine (show Calls _ _ #[ptrV db, .int .i64 x] _ _ from wtell_q (HST8.out.keep ((Kp.refl _ _).drew)).dq x).mono ?_)
                           rintro e w9 ⟨v, rfl, how9, hk9⟩
                           rw [HTX.out] at how9
                           have hrg := wcnt_rng (HST8.out.keep ((Kp.refl _ _).drew)).dq x
                           have htl9 : (tellP p x).length ≤ 5000 := by
                             rw [← HTX.out, tellP_len]; omega
                           obtain ⟨A7, c7, rfl, hraw7, -, -⟩ := raws_own2 how9 rfl
                           have hk67 := ((Kp.refl NoB w8).drew).trans hk9 (fun _ _ q => q)
                           have he1 := (hk67.cell HG1.out (fun q => q)).trans HC1.out
                           have he2 := (hk67.cell HG2.out (fun q => q)).trans HC2.out
                           have HK67 := Lib.hid hk67
                           have HRAW7 := Lib.hid hraw7
                           have HRO7 := Lib.hid how9.2
                           have HTL := Lib.hid htl9
                           clear how9 hk9 hk67 hraw7 hrg htl9)
                        | (go_at_call 40
                           have hrr := HR1.out.keepN HK67.out
                           go_must (refine (wsame_q w9 A0 A7 m0 _ c0 c7 (tellP p x) (tellP p x) hrr.at_.1 HRAW7.out hrr.at_.2.1 HRO7.out (by have := hrr.at_.2.2; omega) (by have := HTL.out; omega)).mono ?_)
                           rintro e w10 ⟨rfl, hk10⟩
                           rw [decide_eq_true rfl]
                           have hf1 := (hk10.cell (Nat.lt_of_lt_of_le HG1.out HK67.out.size) (fun q => q)).trans he1
                           have hf2 := (hk10.cell (Nat.lt_of_lt_of_le HG2.out HK67.out.size) (fun q => q)).trans he2
                           have HK10 := Lib.hid hk10
                           clear hk10 hrr))
                      go_wp2_with fail
                      exact ⟨⟨l + 1, by congr 1, by omega, by omega, HK8.out.trans (HK67.out.trans HK10.out (fun _ _ q => q)) (fun _ _ q => q)⟩, by simp [intOf]; omega⟩
                    · have hkk3 : ¬ (l : Int) < (j : Int) := by omega
                      go_wp2_with fail
                      refine (show Calls _ _ #[ptrV db] _ _ from wmark_q HST8.out.dq).mono ?_
                      rintro e w9 ⟨rfl, hk9⟩
                      rw [HO2.out]
                      have HST9 := Lib.hid (HST8.out.keep hk9)
                      clear hk9
                      dsimp only
                      go_wp2_with fail
                      refine (show Calls _ _ #[ptrV db, .int .i64 q3.wmark.1] _ _ from wtell_q HST9.out.dq q3.wmark.1).mono ?_
                      rintro e w10 ⟨v, rfl, how10, hk10⟩
                      have hrg := wcnt_rng HST9.out.dq q3.wmark.1
                      have hT10 := HST9.out.told hk10 how10 (by rw [tellP_len]; omega)
                      obtain ⟨W, hW⟩ : ∃ W, tellP q3 q3.wmark.1 = W := ⟨_, rfl⟩
                      rw [hW] at hT10
                      obtain ⟨A8, m8, c8, hv8, hx8⟩ := hT10
                      subst hv8
                      have HT10 := Lib.hid (show RwS S7 w10 (.slice A8 m8 c8) W from ⟨A8, m8, c8, rfl, hx8⟩)
                      have HST10 := Lib.hid (HST9.out.keep hk10)
                      have HW := Lib.hid hW
                      clear how10 hk10 hrg hx8 hW
                      go_wp2_with fail
                      refine (show Calls _ _ #[ptrV db, .int .i64 q3.wmark.1] _ _ from wcheck_q HST10.out.dq q3.wmark.1 (sm_mono HSM7.out (by omega))).mono ?_
                      rintro e w11 ⟨rfl, h11⟩
                      rw [HLA.out]
                      obtain ⟨S11, hst11, hk11, hS11⟩ := HST10.out.next h11
                      have HST11 := Lib.hid hst11
                      have HT11 := Lib.hid (HT10.out.keep hk11 hS11)
                      have hco := HCO.out
                      have hto := HTO.out
                      rw [HW.out] at hto
                      obtain ⟨q4, hq4⟩ : ∃ q4, (q3.wcheck q3.wmark.1).1 = q4 := ⟨_, rfl⟩
                      rw [hq4] at HST11 hco hto
                      have HCO4 := Lib.hid hco
                      have HTO4 := Lib.hid hto
                      clear h11 hst11 hk11 hS11 hco hto hq4
                      go_wp2_with fail
                      refine (show Calls _ _ #[ptrV db] _ _ from wmarks_q HST11.out.dq).mono ?_
                      rintro e w12 (⟨e1, _, _⟩ | ⟨_, v, rfl, how12, hk12⟩)
                      · exact absurd (by rw [HCO4.out]) e1
                      · rw [HCO4.out] at how12
                        have how13 : w12.ownsRow w11.heap.size 3 1 v 1 [.int .i64 0] := how12
                        obtain ⟨A13, c13, rfl⟩ := own_slice how13
                        have HST12 := Lib.hid (HST11.out.keep hk12)
                        have HT12 := Lib.hid (HT11.out.keepN hk12)
                        clear how12 how13 hk12
                        dsimp only
                        go_wp2_with fail
                        refine (show Calls _ _ #[ptrV db, .int .i64 0] _ _ from wtell_q HST12.out.dq 0).mono ?_
                        rintro e w13 ⟨v, rfl, how13, hk13⟩
                        have hrg := wcnt_rng HST12.out.dq 0
                        have hl13 : (tellP q4 0).length ≤ 5000 := by rw [tellP_len]; omega
                        rw [HTO4.out] at how13 hl13
                        obtain ⟨A14, c14, rfl, hraw14, -, -⟩ := raws_own2 how13 rfl
                        have HRAW14 := Lib.hid hraw14
                        have HRO14 := Lib.hid how13.2
                        have HT13 := Lib.hid (HT12.out.keepN hk13)
                        have HST13 := Lib.hid (HST12.out.keep hk13)
                        have HL13 := Lib.hid hl13
                        clear how13 hrg hl13 hraw14 hk13
                        go_wp2_with fail
                        refine (wsame_q w13 A14 A8 _ m8 c14 c8 W W HRAW14.out HT13.out.at_.1 HRO14.out HT13.out.at_.2.1 (by have := HL13.out; omega) (by have := HT13.out.at_.2.2; omega)).mono ?_
                        rintro e w14 ⟨rfl, hk14⟩
                        rw [decide_eq_true rfl]
                        have HST14 := Lib.hid (HST13.out.keep hk14)
                        clear hk14
                        go_wp2_with (go_at_call 36; go_must (refine (wawake_ok _).mono ?_); rintro e w15 ⟨rfl, hk15⟩; have HK15 := Lib.hid hk15; clear hk15)
                        go_ret
                        exact ⟨rfl, HST14.out.kw.trans HK15.out (fun _ _ q => q)⟩
end Go.Proofs.Ytegcbdfilkecpaa
/- How an argument that is a slice of structs is read; no condition. -/
namespace Go.Proofs.Ytegcbdfilkecpaa
open Go.ChangeShapes Go.WideShapes Go.Deep
section
variable {H : Type} {enc : TypeId × Value → H} {P : Program} {w : World} {base : Nat} {spare : Nat → Bool} {held : Bool}
theorem open_slice_fields {t e : TypeId} {fs : Array Field} {fuel : Nat} {cs : List Value} {x : DataW H × List MemPlace} (ht : P.underlying t = some (.slice e)) (he : P.underlying e = some (.struct fs))
    (hone : oneCellFields P fs = true) (hC : P.cellsOf e = fs.size) (h : DataW.trod enc P w base spare held fuel t cs = some x) :
    (cs = [.slice none 0 0] ∧ x = (.nil, [])) ∨
    ∃ (a : Addr) (len cap m : Nat) (D : Nat → DataW H) (Pl : Nat → List MemPlace), cs = [.slice (some a) len cap] ∧ base ≤ a.block ∧ len ≤ cap ∧ cap ≤ maxLen ∧ m = (if spare a.block then cap else len) ∧
      x = (.slice ((List.range len).map D) ((List.range (m - len)).map fun j => D (len + j)), MemPlace.row a (m * fs.size) ++ (List.range m).flatMap Pl) ∧
      ∀ i, i < m → ∃ (ys : List (DataW H × List MemPlace)) (n : Nat), D i = .agg (ys.map (·.1)) ∧ Pl i = ys.flatMap (·.2) ∧ ys.length = fs.size ∧
        ∀ (j : Nat) (f : Field), fs[j]? = some f → ∃ (v : Value) (y : DataW H × List MemPlace), w.cell? (a.add (i * fs.size + j)) = some v ∧ ys[j]? = some y ∧ DataW.trod enc P w base spare held n f.type [v] = some y := by
  rcases open_slice ht h with h0 | ⟨a, len, cap, m, n, D, Pl, hcs, hb, hl, hm, hmm, hx, hi⟩
  · exact .inl h0
  · refine .inr ⟨a, len, cap, m, D, Pl, hcs, hb, hl, hm, hmm, by rw [hC] at hx; exact hx, fun i him => ?_⟩
    obtain ⟨cs', hc, ht'⟩ := hi i him
    rw [hC] at hc
    obtain ⟨ys, n', hn', hy, hlen, hyl, hf⟩ := DataW.trod_struct he ht'
    obtain ⟨_, hcl, hat⟩ := World.cells?_some hc
    simp only [Prod.mk.injEq] at hy
    refine ⟨ys, n', hy.1, hy.2, hyl, fun j f hj => ?_⟩
    obtain ⟨ho, hk⟩ := hone_of hone j f hj
    have hjl : j < fs.size := (Array.getElem?_eq_some_iff.1 hj).1
    have hcell := hat j hjl
    have hv : cs'[j]? = some (cs'[j]'(by omega)) := List.getElem?_eq_getElem (by omega)
    have h1 := hf j f hj
    rw [ho, hk] at h1
    have hone' : (cs'.drop j).take 1 = [cs'[j]'(by omega)] := by
      rw [List.drop_eq_getElem_cons (by omega)]
      rfl
    rw [hone'] at h1
    have hys : ys[j]? = some (ys[j]'(by omega)) := List.getElem?_eq_getElem (by omega)
    refine ⟨_, _, ?_, hys, h1.trans hys⟩
    rw [← Go.Deep.add_add, hcell, hv]
end
end Go.Proofs.Ytegcbdfilkecpaa
/- How arguments that come in are read: numbers, texts, lists of texts, arrays of bytes; no condition. -/
namespace Go.Proofs.Ytegcbdfilkecpaa
open Go.ChangeShapes Go.WideShapes Go.ChangeAt Go.RowKit

section
variable {H : Type} {enc : TypeId × Value → H} {P : Program} {W : World} {spare : Nat → Bool} {held : Bool} {t e : TypeId} {d : DataW H} {p : List MemPlace}
theorem open_wf {k : IntKind} {n : Int} (hu : P.underlying t = some (.int k)) (h : DataW.Trod enc P W 0 spare held t (.int k n) d p) : (Lit.int k n).wf = true := by
  obtain ⟨fuel, hf⟩ := h
  obtain ⟨m, e1, _, wf⟩ := DataW.trod_int hu hf
  simp [Value.cells] at e1
  subst e1
  exact wf
theorem wf_u8 {n : Int} (h : (Lit.int .u8 n).wf = true) : 0 ≤ n ∧ n ≤ 255 := (Lit.wf_int_iff .u8 n).1 h
theorem wf_i64 {n : Int} (h : (Lit.int .i64 n).wf = true) : -9223372036854775808 ≤ n ∧ n ≤ 9223372036854775807 := (Lit.wf_int_iff .i64 n).1 h
theorem trod_lt' {v : Value} (h : DataW.Trod enc P W 0 spare held t v d p) : ∀ x ∈ p, x.block < W.heap.size := by obtain ⟨m, hm⟩ := h; exact DataW.trod_lt m _ _ _ hm
end
end Go.Proofs.Ytegcbdfilkecpaa
/- How a list of changes that comes in is read; no condition. -/
namespace Go.Proofs.Ytegcbdfilkecpaa
open Go.ChangeShapes Go.WideShapes Go.ChangeAt Go.RowKit Go.Deep

theorem u8_cellW : Try.prog.cellsOf 5 = 1 := by kernel_rfl
theorem open_chsW {H : Type} {enc : TypeId × Value → H} {W : World} {spare : Nat → Bool} {held : Bool} {a0 : Option Addr} {len0 cap0 : Nat} {d0 : DataW H} {p0 : List MemPlace}
    (h0 : DataW.Trod enc Try.prog W 0 spare held 77 (.slice a0 len0 cap0) d0 p0) : ChsW W a0 len0 := by
  obtain ⟨fuel, hf⟩ := h0
  rcases open_slice_fields Try.underlying77 Try.underlying81 (by kernel_rfl) (by kernel_rfl) hf with ⟨hcs, _⟩ | ⟨x, l, c, m, D, Pl, hcs, _, hl, hm, hmm, hx, hi⟩
  · simp [Value.cells] at hcs
    obtain ⟨rfl, rfl, rfl⟩ := hcs
    exact fun k hk => absurd hk (by omega)
  · simp [Value.cells] at hcs
    obtain ⟨rfl, rfl, rfl⟩ := hcs
    have hlm : len0 ≤ m := by rw [hmm]; split <;> omega
    intro k hk
    obtain ⟨ys, nn, _, _, _, hf4⟩ := hi k (by omega)
    obtain ⟨v0, y0, c0, _, t0⟩ := hf4 0 _ rfl
    obtain ⟨v1, y1, c1, _, t1⟩ := hf4 1 _ rfl
    obtain ⟨v2, y2, cc2, _, t2⟩ := hf4 2 _ rfl
    obtain ⟨b0, eb0, _⟩ := DataW.trod_bool Try.underlying4 t0
    simp only [List.cons.injEq, and_true] at eb0
    subst eb0
    obtain ⟨n0, e0, _, _⟩ := DataW.trod_int Try.underlying3 t1
    simp only [List.cons.injEq, and_true] at e0
    subst e0
    obtain ⟨sb, so, sp⟩ := x
    have hspot : sp = none := by
      obtain ⟨ys', nn', _, _, _, hf4'⟩ := hi 0 (by omega)
      obtain ⟨v0', y0', c0', _, t0'⟩ := hf4' 0 _ rfl
      simpa [Addr.add] using World.cell?_spot c0'
    subst hspot
    rw [add_mk] at c0 c1 cc2
    rcases open_slice Try.underlying42 t2 with ⟨hcs, _⟩ | ⟨x2, l2, c2, m2, nn2, D2, Pl2, hcs, _, hl2, hm2, hmm2, hx2, hi2⟩
    · simp only [List.cons.injEq, and_true] at hcs
      subst hcs
      exact ⟨sb, so, b0, n0, none, 0, 0, [], rfl, block_lt_of_cell c0, c0, c1, cc2, ⟨rfl, by simp, fun k y h => by cases h⟩, by omega⟩
    · simp only [List.cons.injEq, and_true] at hcs
      subst hcs
      have hlm2 : l2 ≤ m2 := by rw [hmm2]; split <;> omega
      have hcells : ∀ j, j < l2 → ∃ y : Int, W.cell? (x2.add j) = some (.int .u8 y) ∧ 0 ≤ y ∧ y < 256 := by
        intro j hj
        obtain ⟨cs', hc, ht'⟩ := hi2 j (by omega)
        rw [u8_cellW, Nat.mul_one] at hc
        obtain ⟨b9, e0, _, wf⟩ := DataW.trod_int Try.underlying5 ht'
        subst e0
        obtain ⟨_, hcl, hat⟩ := World.cells?_some hc
        have := hat 0 (by omega)
        rw [show (x2.add j).add 0 = x2.add j from rfl] at this
        exact ⟨b9, this, by have := wf_u8 wf; omega⟩
      have hL : ∃ L : List Int, L.length = l2 ∧ ∀ j (h : j < L.length), W.cell? (x2.add j) = some (.int .u8 L[j]) ∧ 0 ≤ L[j] ∧ L[j] < 256 := by
        refine ⟨(List.range l2).pmap (fun j hj => Classical.choose (hcells j hj)) (fun j hj => by simpa using hj), by simp, ?_⟩
        intro j hj
        have hj' : j < l2 := by simpa using hj
        have := Classical.choose_spec (hcells j hj')
        simpa using this
      obtain ⟨L, hLl, hLc⟩ := hL
      refine ⟨sb, so, b0, n0, some x2, l2, c2, L, rfl, block_lt_of_cell c0, c0, c1, cc2, ⟨hLl, fun y hy => ?_, fun j y hy => ?_⟩, by unfold maxLen at hm2; omega⟩
      · obtain ⟨j, hj, rfl⟩ := List.getElem_of_mem hy
        exact (hLc j hj).2
      · obtain ⟨hj, rfl⟩ := List.getElem?_eq_some_iff.1 hy
        have hc := (hLc j hj).1
        have hc0 := (hLc 0 (by omega)).1
        obtain ⟨tb, tn, tp⟩ := x2
        have hspot : tp = none := by
          simpa [Addr.add] using World.cell?_spot hc0
        subst hspot
        rw [add_mk] at hc
        exact ⟨tb, tn, rfl, block_lt_of_cell hc, hc⟩
end Go.Proofs.Ytegcbdfilkecpaa
/- DiskSteps in plain Lean: writes to one file; no condition. -/
namespace Go.Proofs.Ytegcbdfilkecpaa
open Go

/-- the disk's state behind i writes, a crash told at c -/
structure StI (c : Int) (i : Nat) (p : Pl) : Prop where
  down : p.down = decide (1 ≤ c ∧ c ≤ i)
  crash : p.crash = if 1 ≤ c ∧ (i : Int) < c then c - i else 0
  room : p.room = 200000
  len : (p.seen nmF).length ≤ 6095
  sum : p.sum = (p.seen nmF).length
  kept : p.kept nmF = [] ∧ p.ksum = 0
  nf : p.nf ≤ 2 * i
  pd : p.pd.length ≤ 200 * i
theorem put_len2 (l d : List Int) (a : Nat) (h : a + d.length ≤ l.length) : (Pl.put l a d).length = l.length := by unfold Pl.put; simp; omega
theorem length_props (p : Pl) (s : ByteArray) (n : Nat) :
    (p.length s n).seen = upd p.seen s (sizedF (p.seen s) n) ∧ (p.length s n).kept = p.kept ∧ (p.length s n).sum = p.sum - (p.seen s).length + n ∧ (p.length s n).ksum = p.ksum ∧ (p.length s n).nf = p.nf + 1 ∧ (p.length s n).pd.length ≤ p.pd.length + 1 ∧
    (p.length s n).room = p.room ∧ (p.length s n).steps = p.steps ∧ (p.length s n).crash = p.crash ∧ (p.length s n).down = p.down ∧ (p.length s n).starts = p.starts := by
  unfold Pl.length
  split
  · rename_i h
    subst h
    refine ⟨by rw [sizedF_self, upd_self]; rfl, rfl, by simp only [Pl.at_]; omega, rfl, rfl, by simp [Pl.at_], rfl, rfl, rfl, rfl, rfl⟩
  · refine ⟨rfl, rfl, ?_, rfl, rfl, by simp [Pl.pend, Pl.setSeen, Pl.at_], rfl, rfl, rfl, rfl, rfl⟩
    simp only [Pl.pend, Pl.setSeen, Pl.at_, sizedF_len]
theorem sectors_lenD (s : ByteArray) (l : List Int) (a e : Nat) : (Pl.sectors s l a e).length = (e + 63) / 64 - a / 64 := by unfold Pl.sectors; simp
/-- a file behind a write -/
def wrote (l : List Int) (a : Nat) (d : List Int) : List Int := Pl.put (if l.length < a + d.length then sizedF l (a + d.length) else l) a d
theorem wrote_len (l : List Int) (a : Nat) (d : List Int) : (wrote l a d).length = max l.length (a + d.length) := by
  unfold wrote
  split
  · rw [put_len2 _ _ _ (by rw [sizedF_len]; omega), sizedF_len]; omega
  · rw [put_len2 _ _ _ (by omega)]; omega
theorem write1_props (p : Pl) (s : ByteArray) (a : Nat) (d : List Int) :
    (p.write1 s a d).seen = upd p.seen s (wrote (p.seen s) a d) ∧ (p.write1 s a d).kept = p.kept ∧ (p.write1 s a d).sum = p.sum - (p.seen s).length + (max (p.seen s).length (a + d.length) : Nat) ∧ (p.write1 s a d).ksum = p.ksum ∧ (p.write1 s a d).nf ≤ p.nf + 2 ∧
    (p.write1 s a d).pd.length ≤ p.pd.length + 2 + (a + d.length + 63) / 64 ∧ (p.write1 s a d).room = p.room ∧ (p.write1 s a d).steps = p.step.steps ∧ (p.write1 s a d).crash = p.step.crash ∧ (p.write1 s a d).down = p.step.down ∧ (p.write1 s a d).starts = p.starts := by
  by_cases h : (p.seen s).length < a + d.length
  · obtain ⟨h1, h2, h3, h4, h5, h6, h7, h8, h9, h10, h11⟩ := length_props p s (a + d.length)
    have hs : (p.length s (a + d.length)).seen s = sizedF (p.seen s) (a + d.length) := by rw [h1, upd_same]
    have hw : Pl.put (sizedF (p.seen s) (a + d.length)) a d = wrote (p.seen s) a d := by unfold wrote; rw [if_pos h]
    have hl := wrote_len (p.seen s) a d
    refine ⟨?_, ?_, ?_, ?_, ?_, ?_, ?_, ?_, ?_, ?_, ?_⟩ <;> simp only [Pl.write1, if_pos h, Pl.step, Pl.pend, Pl.setSeen, Pl.at_, hs, hw]
    · rw [h1, upd_upd]
    · exact h2
    · rw [h3, sizedF_len, hl]; omega
    · exact h4
    · omega
    · rw [List.length_append, sectors_lenD]; omega
    · exact h7
    · rw [h8]
    · rw [h9]
    · rw [h9, h10]
    · exact h11
  · have hw : Pl.put (p.seen s) a d = wrote (p.seen s) a d := by unfold wrote; rw [if_neg h]
    have hl := wrote_len (p.seen s) a d
    refine ⟨?_, ?_, ?_, ?_, ?_, ?_, ?_, ?_, ?_, ?_, ?_⟩ <;> simp only [Pl.write1, if_neg h, Pl.step, Pl.pend, Pl.setSeen, Pl.at_, hw]
    · rw [hl]
    · omega
    · rw [List.length_append, sectors_lenD]; omega
theorem StI.write {c : Int} {i : Nat} {p : Pl} (h : StI c i p) (a : Int) (d : List Int) (ha : 0 ≤ a ∧ a ≤ 4095) (hd : d.length ≤ 2000) :
    p.writeE nmF a d = (if 1 ≤ c ∧ c ≤ (i : Int) + 1 then 7 else 0) ∧ StI c (i + 1) (p.write nmF a d) := by
  have hl := h.len
  by_cases hdn : 1 ≤ c ∧ c ≤ i
  · have hdown : p.down = true := by rw [h.down]; simpa using hdn
    refine ⟨by unfold Pl.writeE; rw [hdown, if_pos rfl, if_pos (by omega)], ?_⟩
    have e : p.write nmF a d = p := by unfold Pl.write; rw [if_pos (.inl hdown)]
    rw [e]
    exact { h with
      down := by rw [hdown]; symm; simp; omega
      crash := by rw [h.crash, if_neg (by omega), if_neg (by push_cast; omega)]
      nf := by have := h.nf; omega
      pd := by have := h.pd; omega }
  · have hdown : p.down = false := by rw [h.down]; simpa using hdn
    have hse : p.stepE = if 1 ≤ c ∧ c ≤ (i : Int) + 1 then 7 else 0 := by
      unfold Pl.stepE
      rw [h.crash]
      by_cases h1 : 1 ≤ c ∧ (i : Int) < c
      · rw [if_pos h1]
        by_cases h2 : c - i = 1
        · rw [if_pos h2, if_pos (by omega)]
        · rw [if_neg h2, if_neg (by omega)]
      · rw [if_neg h1, if_neg (by omega), if_neg (by omega)]
    have sc : p.step.crash = if 1 ≤ c ∧ ((i + 1 : Nat) : Int) < c then c - ((i + 1 : Nat) : Int) else 0 := by
      simp only [Pl.step, h.crash]
      by_cases h1 : 1 ≤ c ∧ (i : Int) < c
      · rw [if_pos h1, if_pos (by omega)]
        by_cases h2 : ((i + 1 : Nat) : Int) < c
        · rw [if_pos ⟨h1.1, h2⟩]; omega
        · rw [if_neg (by omega)]; omega
      · rw [if_neg h1, if_neg (by omega), if_neg (by omega)]
    have sd : p.step.down = decide (1 ≤ c ∧ c ≤ ((i + 1 : Nat) : Int)) := by
      simp only [Pl.step, h.crash, hdown]
      by_cases h1 : 1 ≤ c ∧ (i : Int) < c
      · rw [if_pos h1]
        by_cases h2 : c - i = 1
        · rw [if_pos h2]; symm; simp; omega
        · rw [if_neg h2]; symm; simp; omega
      · rw [if_neg h1, if_neg (by omega)]; symm; simp; omega
    by_cases hd0 : d = []
    · subst hd0
      refine ⟨?_, ?_⟩
      · unfold Pl.writeE
        rw [hdown, if_neg (by simp), if_neg (by omega), if_neg (by simp; omega), if_pos rfl, hse]
      · have e : p.write nmF a [] = p.step := by
          unfold Pl.write
          rw [if_neg (by simp [hdown]; omega), if_pos rfl]
        rw [e]
        exact
          { down := sd
            crash := sc
            room := h.room
            len := h.len
            sum := h.sum
            kept := h.kept
            nf := by have := h.nf; simp only [Pl.step]; omega
            pd := by have := h.pd; simp only [Pl.step]; omega }
    · have hfit : p.fits nmF (max (a + d.length) (p.seen nmF).length) = 0 := by
        unfold Pl.fits
        rw [if_neg (by omega), if_neg]
        rintro ⟨h1, h2⟩
        rw [h.sum, h.room, wrp_id (by omega)] at h2
        omega
      refine ⟨?_, ?_⟩
      · unfold Pl.writeE
        rw [hdown, if_neg (by simp), if_neg (by omega), if_neg (by omega), if_neg hd0, hfit, if_neg (by simp), hse]
      · have e : p.write nmF a d = p.write1 nmF a.toNat d := by
          unfold Pl.write
          rw [if_neg (by simp [hdown]; omega), if_neg hd0, hfit, if_neg (by simp)]
        rw [e]
        obtain ⟨h1, h2, h3, h4, h5, h6, h7, h8, h9, h10, h11⟩ := write1_props p nmF a.toNat d
        have hlen : ((p.write1 nmF a.toNat d).seen nmF).length = max (p.seen nmF).length (a.toNat + d.length) := by rw [h1, upd_same, wrote_len]
        exact
          { down := by rw [h10]; exact sd
            crash := by rw [h9]; exact sc
            room := by rw [h7]; exact h.room
            len := by rw [hlen]; omega
            sum := by rw [h3, hlen, h.sum]; omega
            kept := by rw [h2, h4]; exact h.kept
            nf := by have := h.nf; omega
            pd := by have := h.pd; omega }
/-- the last answers: a disk that is up and has no crash told -/
structure UpI (p : Pl) : Prop where
  down : p.down = false
  crash : p.crash = 0
  room : p.room = 200000
  len : (p.seen nmF).length ≤ 6095
  sum : p.sum = (p.seen nmF).length
  nf : p.nf ≤ 100000
  pd : p.pd.length ≤ 100000
theorem UpI.last {p : Pl} (h : UpI p) : p.writeE nmF 0 [120] = 0 ∧ (p.write nmF 0 [120]).syncE = 0 ∧ (p.write nmF 0 [120]).nf ≤ 100002 ∧ (p.write nmF 0 [120]).pd.length ≤ 100100 := by
  have hl := h.len
  have hse : p.stepE = 0 := by unfold Pl.stepE; rw [h.crash]; rfl
  have hfit : p.fits nmF (max (0 + (([120] : List Int).length : Int)) (p.seen nmF).length) = 0 := by
    unfold Pl.fits
    simp only [List.length_cons, List.length_nil]
    rw [if_neg (by omega), if_neg]
    rintro ⟨h1, h2⟩
    rw [h.sum, h.room, wrp_id (by omega)] at h2
    omega
  have e : p.write nmF 0 [120] = p.write1 nmF 0 [120] := by
    unfold Pl.write
    rw [if_neg (by simp [h.down]), if_neg (by simp), hfit, if_neg (by simp)]
    rfl
  obtain ⟨h1, h2, h3, h4, h5, h6, h7, h8, h9, h10, h11⟩ := write1_props p nmF 0 [120]
  refine ⟨?_, ?_, ?_, ?_⟩
  · unfold Pl.writeE
    rw [h.down, if_neg (by simp), if_neg (by omega), if_neg (by simp), if_neg (by simp), hfit, if_neg (by simp), hse]
  · rw [e]
    unfold Pl.syncE Pl.stepE
    rw [h10, h9]
    simp [Pl.step, h.crash, h.down]
  · rw [e]; have := h.nf; omega
  · rw [e]; have := h.pd; simp at h6; omega
theorem StI.up {c : Int} {i : Nat} {p : Pl} (h : StI c i p) (hi : i ≤ 20) (hc : ¬ (1 ≤ c ∧ c ≤ i)) : UpI (p.crashIn 0) where
  down := by show p.down = false; rw [h.down]; simpa using hc
  crash := rfl
  room := h.room
  len := h.len
  sum := h.sum
  nf := by have := h.nf; show p.nf ≤ _; omega
  pd := by have := h.pd; show p.pd.length ≤ _; omega
theorem StI.again {c : Int} {i : Nat} {p : Pl} (h : StI c i p) (hi : i ≤ 20) (hc : 1 ≤ c ∧ c ≤ i) : p.restartE = 0 ∧ UpI (p.restart []) := by
  have hd : p.down = true := by rw [h.down]; simpa using hc
  refine ⟨by unfold Pl.restartE; rw [hd]; rfl, ?_⟩
  have e : p.survive p.pd [] = p := by cases p.pd <;> rfl
  unfold Pl.restart
  rw [hd, if_pos rfl, e]
  exact
    { down := rfl
      crash := rfl
      room := h.room
      len := by show (p.kept nmF).length ≤ _; rw [h.kept.1]; simp
      sum := by show p.ksum = ((p.kept nmF).length : Nat); rw [h.kept.1, h.kept.2]; rfl
      nf := by have := h.nf; show p.nf ≤ _; omega
      pd := by simp }
end Go.Proofs.Ytegcbdfilkecpaa
/- The stand-in disk: the answers that every law asks at its end; no condition. -/
namespace Go.Proofs.Ytegcbdfilkecpaa
open Go.RowKit

theorem sz4 : nmF.size ≤ maxLen ∧ awX.size ≤ maxLen ∧ awY.size ≤ maxLen := by unfold maxLen; decide
end Go.Proofs.Ytegcbdfilkecpaa
/- DiskSteps: for every list of changes and every number the call returns true and leaves its arguments as they were; no condition. -/
namespace Go.Proofs.Ytegcbdfilkecpaa
open Go.RowKit

/-- a list of changes in memory: places and texts -/
def Fls (w : World) (A : Option Addr) (n : Nat) (L : List (Int × ByteArray)) : Prop :=
  L.length = n ∧ (∀ x ∈ L, x.2.size ≤ maxLen) ∧ (0 < n → ∃ g o, A = some ⟨g, o, none⟩ ∧ g < w.heap.size ∧ ∀ k (h : k < L.length), w.cell? ⟨g, o + k * 2, none⟩ = some (.int .i64 L[k].1) ∧ w.cell? ⟨g, o + k * 2 + 1, none⟩ = some (.string L[k].2))
theorem Fls.keep {w w' : World} {A : Option Addr} {n : Nat} {L : List (Int × ByteArray)} (h : Fls w A n L) (k : Kp NoB w w') : Fls w' A n L :=
  ⟨h.1, h.2.1, fun hn => by
    obtain ⟨g, o, e, hg, hc⟩ := h.2.2 hn
    exact ⟨g, o, e, Nat.lt_of_lt_of_le hg k.size, fun j hj => ⟨(k.cell hg (fun q => q)).trans (hc j hj).1, (k.cell hg (fun q => q)).trans (hc j hj).2⟩⟩⟩
end Go.Proofs.Ytegcbdfilkecpaa
/- How a list of changes that comes in is read; no condition. -/
namespace Go.Proofs.Ytegcbdfilkecpaa
open Go.ChangeShapes Go.WideShapes Go.ChangeAt Go.RowKit

end Go.Proofs.Ytegcbdfilkecpaa
/- How a list of numbers that comes in is read; no condition. -/
namespace Go.Proofs.Ytegcbdfilkecpaa
open Go.ChangeShapes Go.WideShapes Go.ChangeAt Go.RowKit Go.Deep

end Go.Proofs.Ytegcbdfilkecpaa
