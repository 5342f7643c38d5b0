/- Texts of this proof, one behind the other: lemmas and contracts; each says its own conditions. -/
import Derived.Test.YtegcbdfilkecpaaM9
import Derived.Test.YtegcbdfilkecpaaM12
import Derived.Test.YtegcbdfilkecpaaM14
/- The journal in plain Lean: the segments of a commit on a disk that may fall. -/
namespace Go.Proofs.Ytegcbdfilkecpaa

theorem fi_true {p : Pl} {s : ByteArray} : FI p s (fun _ => True) := ⟨trivial, fun _ _ _ _ _ _ => trivial⟩
theorem run_headA {p : Pl} (h : Pre p) (w : W4) (I : List Int → Prop) (hj : FI p nmJn I) (hI : ∀ c ∈ pendW (p.seen nmJn) nmJn 0 (sealB w), ∀ k ch, I k → I (Pl.made k c ch)) :
    ((p.runS (headS nmJn w)).2 = 7 ∧ Fell (p.runS (headS nmJn w)).1 ∧ FI (p.runS (headS nmJn w)).1 nmJn I ∧ ∀ Id, FI p nmDb Id → FI (p.runS (headS nmJn w)).1 nmDb Id) ∨
    ((p.runS (headS nmJn w)).2 = 0 ∧ Pre (p.runS (headS nmJn w)).1 ∧ (p.runS (headS nmJn w)).1.seen = upd p.seen nmJn (wrL (p.seen nmJn) 0 (sealB w)) ∧ chg (p.runS (headS nmJn w)).1 nmJn = [] ∧ (p.runS (headS nmJn w)).1.kept nmJn = wrL (p.seen nmJn) 0 (sealB w) ∧ ∀ Id, FI p nmDb Id → FI (p.runS (headS nmJn w)).1 nmDb Id) := by
  have key := fun Id hd => run_head h w I Id hj hd hI
  generalize p.runS (headS nmJn w) = r at key ⊢
  rcases key _ fi_true with ⟨a, b, c, _⟩ | ⟨a, b, c, d, e, _⟩
  · refine .inl ⟨a, b, c, fun Id hd => ?_⟩
    rcases key Id hd with z | z
    · exact z.2.2.2
    · rw [a] at z; exact absurd z.1 (by decide)
  · refine .inr ⟨a, b, c, d, e, fun Id hd => ?_⟩
    rcases key Id hd with z | z
    · rw [a] at z; exact absurd z.1 (by decide)
    · exact z.2.2.2.2.2
theorem run_head2A {p : Pl} (h : Pre p) (w v : W4) (hk : HW (p.kept nmJn) w) (h0 : chg p nmJn = []) (hs : p.seen nmJn = p.kept nmJn) {P : Nat → Prop} (hP : ∀ i, P i → 64 ≤ i) :
    ((p.runS (headS nmJn v)).2 = 7 ∧ Fell (p.runS (headS nmJn v)).1 ∧ FO (p.runS (headS nmJn v)).1 nmJn (fun J => (HS J w ∨ HS J v) ∧ Fix P (p.kept nmJn) J ∧ J.length = (p.kept nmJn).length) ∧ ∀ Id, FI p nmDb Id → FI (p.runS (headS nmJn v)).1 nmDb Id) ∨
    ((p.runS (headS nmJn v)).2 = 0 ∧ Pre (p.runS (headS nmJn v)).1 ∧ (p.runS (headS nmJn v)).1.seen = upd p.seen nmJn (wrL (p.seen nmJn) 0 (sealB v)) ∧ chg (p.runS (headS nmJn v)).1 nmJn = [] ∧ (p.runS (headS nmJn v)).1.kept nmJn = wrL (p.seen nmJn) 0 (sealB v) ∧ ∀ Id, FI p nmDb Id → FI (p.runS (headS nmJn v)).1 nmDb Id) := by
  have key := fun Id hd => run_head2 h w v Id hk h0 hs hd hP
  generalize p.runS (headS nmJn v) = r at key ⊢
  rcases key _ fi_true with ⟨a, b, c, _⟩ | ⟨a, b, c, d, e, _⟩
  · refine .inl ⟨a, b, c, fun Id hd => ?_⟩
    rcases key Id hd with z | z
    · exact z.2.2.2
    · rw [a] at z; exact absurd z.1 (by decide)
  · refine .inr ⟨a, b, c, d, e, fun Id hd => ?_⟩
    rcases key Id hd with z | z
    · rw [a] at z; exact absurd z.1 (by decide)
    · exact z.2.2.2.2.2
/-! ### records laid aside -/
theorem aside_in {y : Stp} : ∀ {l : List Pg} {k : Nat}, y ∈ asideW k l → ∃ (j : Nat) (x : Pg), j < k + l.length ∧ x ∈ l ∧ y = ⟨0, nmJn, 64 + 320 * (j : Int), recB x⟩
  | [], k, h => by cases h
  | x :: r, k, h => by
    rcases List.mem_cons.1 h with e | e
    · exact ⟨k, x, by simp, List.mem_cons_self .., e⟩
    · obtain ⟨j, z, h1, h2, h3⟩ := aside_in e
      exact ⟨j, z, by rw [List.length_cons]; omega, List.mem_cons_of_mem _ h2, h3⟩
theorem aside_ok {l : List Pg} (hb : ∀ x ∈ l, x.b.length = 256) (hl : l.length ≤ 15) : ∀ y ∈ asideW 0 l, WrOk nmJn y := by
  intro y hy
  obtain ⟨j, x, h1, h2, rfl⟩ := aside_in hy
  have h3 := rec_len (hb x h2)
  refine ⟨rfl, rfl, ?_, ?_, ?_⟩
  · show 0 ≤ 64 + 320 * (j : Int)
    omega
  · show recB x ≠ []
    intro e
    rw [e] at h3
    cases h3
  · show (64 + 320 * (j : Int)).toNat + (recB x).length ≤ capOf nmJn
    rw [capOf_other nm_ne.symm, h3]
    omega
theorem hw_take {J : List Int} {w : W4} : HW J w ↔ J.take 64 = sealB w := by
  have hs := seal_len w
  constructor
  · rintro ⟨t, rfl⟩
    rw [List.take_left' hs]
  · intro h
    exact ⟨J.drop 64, by rw [← h, List.take_append_drop]⟩
theorem wrL_take {z d : List Int} {a : Nat} (ha : 64 ≤ a) (hz : 64 ≤ z.length) : (wrL z a d).take 64 = z.take 64 := by
  unfold wrL
  split
  · rcases put_take (l := sizedF z (a + d.length)) (d := d) (a := a) (k := 64) ha with e | e
    · rw [e, sizedF_take (by omega) hz]
    · rw [sizedF_len] at e
      omega
  · rcases put_take (l := z) (d := d) (a := a) (k := 64) ha with e | e
    · exact e
    · omega
theorem aside_keep {l : List Pg} (w : W4) : ∀ y ∈ asideW 0 l, ∀ z, HW z w → HW (wrL z y.at_.toNat y.d) w ∧ ∀ c ∈ pendW z nmJn y.at_.toNat y.d, ∀ k ch, HS k w → HS (Pl.made k c ch) w := by
  intro y hy z hz
  obtain ⟨j, x, h1, h2, rfl⟩ := aside_in hy
  have ha : 64 ≤ (64 + 320 * (j : Int)).toNat := by omega
  refine ⟨hw_take.2 ?_, fun c hc k ch hk => hs_made ⟨fun q => ?_, fun q => ?_⟩ ch hk⟩
  · show (wrL z (64 + 320 * (j : Int)).toNat (recB x)).take 64 = sealB w
    rw [wrL_take ha (hs_len (hw_hs hz))]
    exact hw_take.1 hz
  · have hc' : c ∈ pendW z nmJn (64 + 320 * (j : Int)).toNat (recB x) := hc
    rcases (pendW_mem hc').2 with ⟨_, _, e⟩ | ⟨e, _⟩
    · rw [e]; omega
    · omega
  · have hc' : c ∈ pendW z nmJn (64 + 320 * (j : Int)).toNat (recB x) := hc
    rcases (pendW_mem hc').2 with ⟨e, _⟩ | ⟨_, e, _⟩
    · omega
    · omega
theorem seenW_aside (H : List Int) (hH : H.length = 64) : ∀ (l pre : List Pg) (T : List Int), (∀ x ∈ pre, x.b.length = 256) → (∀ x ∈ l, x.b.length = 256) → ∃ T', seenW (H ++ (recsL pre ++ T)) (asideW pre.length l) = H ++ (recsL (pre ++ l) ++ T')
  | [], pre, T, _, _ => ⟨T, by rw [List.append_nil]; rfl⟩
  | x :: r, pre, T, hp, hl => by
    have hx := hl x (List.mem_cons_self ..)
    have hrl := rec_len hx
    have hpl := recsL_len hp
    have ha : (64 + 320 * (pre.length : Int)).toNat = (H ++ recsL pre).length := by rw [List.length_append, hH, hpl]; omega
    have e1 : wrL (H ++ (recsL pre ++ T)) (64 + 320 * (pre.length : Int)).toNat (recB x) = H ++ (recsL (pre ++ [x]) ++ T.drop 320) := by
      rw [ha, ← List.append_assoc, wrL_app, hrl]
      unfold recsL
      rw [List.flatMap_append, List.flatMap_cons, List.flatMap_nil]
      simp only [List.append_assoc, List.append_nil]
    have ih := seenW_aside H hH r (pre ++ [x]) (T.drop 320) (fun y hy => by
      rcases List.mem_append.1 hy with q | q
      · exact hp y q
      · rw [List.mem_singleton.1 q]; exact hx) (fun y hy => hl y (List.mem_cons_of_mem _ hy))
    obtain ⟨T', hT⟩ := ih
    refine ⟨T', ?_⟩
    show seenW (wrL (H ++ (recsL pre ++ T)) (64 + 320 * (pre.length : Int)).toNat (recB x)) (asideW (pre.length + 1) r) = _
    rw [e1]
    rw [List.length_append, show [x].length = 1 from rfl, List.append_assoc] at hT
    exact hT
theorem hasR_of {J H T : List Int} {l : List Pg} (hH : H.length = 64) (h : J = H ++ (recsL l ++ T)) : HasR J l := fun i hi => by
  rw [h, List.getElem?_append_right (by omega), hH, Nat.add_sub_cancel_left, List.getElem?_append_left hi]
/-- what is up behind the first half -/
structure Half (s : Nat) (ao : List Pg) (o : List Int) (q : Pl) : Prop where
  pre : Pre q
  db : q.seen nmDb = o
  hw : HW (q.seen nmJn) (hotW s ao)
  recs : HasR (q.seen nmJn) ao
  kj : q.kept nmJn = q.seen nmJn
  cj : chg q nmJn = []
/-- what is kept between two commits -/
structure AtJ (p : Pl) (s : Nat) : Prop where
  pre : Pre p
  hs : s ≤ 15
  po : Pgd (p.seen nmDb) s
  cold : ColdJ (p.seen nmJn)
  kd : p.kept nmDb = p.seen nmDb
  still : ∀ I : List Int → Prop, I (p.seen nmDb) → FI p nmDb I
  kj : p.kept nmJn = p.seen nmJn
  cj : chg p nmJn = []
/-- the first half of a commit -/
theorem run_first {p : Pl} {s : Nat} (h : AtJ p s) (ao : List Pg) (hb : ∀ x ∈ ao, x.b.length = 256) (hl : ao.length ≤ 15) (n : List Int) :
    ((p.runS (firstS p.jhead s ao)).2 = 7 ∧ CrG s ao (p.seen nmDb) n (p.runS (firstS p.jhead s ao)).1) ∨
    ((p.runS (firstS p.jhead s ao)).2 = 0 ∧ Half s ao (p.seen nmDb) (p.runS (firstS p.jhead s ao)).1 ∧ ∀ Id, FI p nmDb Id → FI (p.runS (firstS p.jhead s ao)).1 nmDb Id) := by
  obtain ⟨w, hw1, hw2, hw3⟩ := h.cold
  have hh : p.jhead = w := says_hd hw3 hw1
  have hold := h.still (fun D => D = p.seen nmDb) rfl
  have cold : ∀ {q : Pl} {RJ : List Int → Prop}, (∀ Id, FI p nmDb Id → FI q nmDb Id) → FO q nmJn RJ → (∀ J, RJ J → Hd J w) → AllGood s ao (p.seen nmDb) n q := fun hd hj hr => good_of (hd _ hold).fo hj fun D J q1 q2 => .inl ⟨⟨w, hw1, hw2, hr J q2⟩, .inl q1⟩
  rw [hh]
  unfold firstS
  rw [runS_append]
  rcases run_headA h.pre w (fun J => Hd J w) (fi_empty h.cj (by rw [h.kj]; exact hw3)) (fun c hc k ch hk => hd_made ⟨fun q => by
      rcases (pendW_mem hc).2 with ⟨_, _, e⟩ | ⟨e, _⟩
      · rw [e, seal_len]; omega
      · omega, fun q => by
      rcases (pendW_mem hc).2 with ⟨e, _⟩ | ⟨_, _, _, e⟩
      · omega
      · rw [e, q, show (0 : Int).toNat * 64 = 0 from rfl, head_sizedF]⟩ ch hk) with ⟨z0, z1, z2, z3⟩ | ⟨z0, z1, z2, z3, z4, z5⟩
  · rw [if_neg (by rw [z0]; decide)]
    exact .inl ⟨z0, z1, cold z3 z2.fo fun J q => q⟩
  · rw [if_pos z0]
    generalize (p.runS (headS nmJn w)).1 = q1 at z1 z2 z3 z4 z5 ⊢
    have sd : q1.seen nmDb = p.seen nmDb := by rw [z2, upd_other _ _ nm_ne]
    have sj : q1.seen nmJn = wrL (p.seen nmJn) 0 (sealB w) := by rw [z2, upd_same]
    have hw1' : HW (q1.seen nmJn) w := by rw [sj]; exact wr_head _ _
    rw [runS_append]
    unfold asideS
    rw [runS_append]
    have hwr := fun Id hd => run_writes nmJn nmDb (.inr rfl) nm_ne (fun J => HS J w) Id (fun z => HW z w) (asideW 0 ao) z1 (aside_ok hb hl) (fi_empty z3 (by rw [z4, ← sj]; exact hw_hs hw1')) hd hw1' (aside_keep w)
    have hwr' : ((q1.runS (asideW 0 ao)).2 = 7 ∧ Fell (q1.runS (asideW 0 ao)).1 ∧ FI (q1.runS (asideW 0 ao)).1 nmJn (fun J => HS J w) ∧ ∀ Id, FI q1 nmDb Id → FI (q1.runS (asideW 0 ao)).1 nmDb Id) ∨
        ((q1.runS (asideW 0 ao)).2 = 0 ∧ Pre (q1.runS (asideW 0 ao)).1 ∧ FI (q1.runS (asideW 0 ao)).1 nmJn (fun J => HS J w) ∧ (∀ Id, FI q1 nmDb Id → FI (q1.runS (asideW 0 ao)).1 nmDb Id) ∧ HW ((q1.runS (asideW 0 ao)).1.seen nmJn) w ∧ (q1.runS (asideW 0 ao)).1.seen = upd q1.seen nmJn (seenW (q1.seen nmJn) (asideW 0 ao))) := by
      generalize q1.runS (asideW 0 ao) = r at hwr ⊢
      rcases hwr _ fi_true with ⟨a, b, c, _⟩ | ⟨a, b, c, _, d, e, _⟩
      · refine .inl ⟨a, b, c, fun Id hd => ?_⟩
        rcases hwr Id hd with y | y
        · exact y.2.2.2
        · rw [a] at y; exact absurd y.1 (by decide)
      · refine .inr ⟨a, b, c, fun Id hd => ?_, d, e⟩
        rcases hwr Id hd with y | y
        · rw [a] at y; exact absurd y.1 (by decide)
        · exact y.2.2.2.1
    clear hwr
    rcases hwr' with ⟨y0, y1, y2, y3⟩ | ⟨y0, y1, y2, y3, y4, y5⟩
    · have hne : ¬ (q1.runS (asideW 0 ao)).2 = 0 := by rw [y0]; decide
      rw [if_neg hne, if_neg hne]
      exact .inl ⟨y0, y1, cold (fun Id hd => y3 Id (z5 Id hd)) y2.fo fun J q => .inr q⟩
    · rw [if_pos y0]
      generalize (q1.runS (asideW 0 ao)).1 = q2 at y1 y2 y3 y4 y5 ⊢
      have sd2 : q2.seen nmDb = p.seen nmDb := by rw [y5, upd_other _ _ nm_ne, sd]
      obtain ⟨T0, hT0⟩ := wr_head (p.seen nmJn) w
      obtain ⟨T1, hT1⟩ := seenW_aside (sealB w) (seal_len w) ao [] T0 (by simp) hb
      have sj2 : q2.seen nmJn = sealB w ++ (recsL ao ++ T1) := by
        rw [y5, upd_same, sj, hT0]
        exact hT1
      have e3 : ∀ q : Pl, q.stE ⟨2, nmJn, 0, []⟩ = q.syncE := fun q => rfl
      have e4 : ∀ q : Pl, q.stP ⟨2, nmJn, 0, []⟩ = q.sync nmJn := fun q => rfl
      rw [runS_cons, e3, e4]
      rcases pre_sync y1 nmJn (.inr rfl) with ⟨es, hf, hs2⟩ | ⟨es, hp2, hs2⟩
      · rw [es, if_neg (show ¬ (7 : Int) = 0 by decide), if_neg (show ¬ ((q2.sync nmJn, (7 : Int))).2 = 0 from (by decide : ¬ (7 : Int) = 0))]
        exact .inl ⟨rfl, hf, cold (fun Id hd => (y3 Id (z5 Id hd)).same hs2) (y2.same hs2).fo fun J q => .inr q⟩
      · rw [es, if_pos rfl, runS_nil, if_pos rfl]
        obtain ⟨c1, c2⟩ := chg_synced hs2
        have sd3 : (q2.sync nmJn).seen nmDb = p.seen nmDb := by rw [hs2.seen, sd2]
        have sj3 : (q2.sync nmJn).seen nmJn = sealB w ++ (recsL ao ++ T1) := by rw [hs2.seen, sj2]
        have kj3 : (q2.sync nmJn).kept nmJn = sealB w ++ (recsL ao ++ T1) := c2.trans sj2
        have fd3 : ∀ Id, FI p nmDb Id → FI (q2.sync nmJn) nmDb Id := fun Id hd => (y3 Id (z5 Id hd)).other hs2 nm_ne
        generalize q2.sync nmJn = q3 at hp2 c1 sd3 sj3 kj3 fd3 ⊢
        have hr3 : HasR (q3.seen nmJn) ao := hasR_of (seal_len w) sj3
        show ((q3.runS (headS nmJn (hotW s ao))).2 = 7 ∧ CrG s ao (p.seen nmDb) n (q3.runS (headS nmJn (hotW s ao))).1) ∨ ((q3.runS (headS nmJn (hotW s ao))).2 = 0 ∧ Half s ao (p.seen nmDb) (q3.runS (headS nmJn (hotW s ao))).1 ∧ ∀ Id, FI p nmDb Id → FI (q3.runS (headS nmJn (hotW s ao))).1 nmDb Id)
        rcases run_head2A hp2 w (hotW s ao) (by rw [kj3]; exact ⟨_, rfl⟩) c1 (by rw [sj3, kj3]) (P := body) (fun i hi => hi) with ⟨x0, x1, x2, x3⟩ | ⟨x0, x1, x2, x3, x4, x5⟩
        · refine .inl ⟨x0, x1, good_of (x3 _ (fd3 _ hold)).fo x2 fun D J q1 q2 => ?_⟩
          rcases q2.1 with q | q
          · exact .inl ⟨⟨w, hw1, hw2, .inr q⟩, .inl q1⟩
          · exact .inr ⟨q, hr3.fix (by have := q2.2.1; rwa [kj3, ← sj3] at this), by rw [q1]; exact Fix.refl _ _⟩
        · refine .inr ⟨x0, ⟨x1, by rw [x2, upd_other _ _ nm_ne, sd3], by rw [x2, upd_same]; exact wr_head _ _, by rw [x2, upd_same]; exact hr3.fix (body_wr _ _), by rw [x4, x2, upd_same], x3⟩, fun Id hd => x5 Id (fd3 Id hd)⟩
end Go.Proofs.Ytegcbdfilkecpaa
/- The journal in plain Lean: a commit on a disk that may fall is whole, or can be taken back. -/
namespace Go.Proofs.Ytegcbdfilkecpaa

/-- pages put home, in plain Lean -/
theorem seenW_pages : ∀ (l : List Pg) (z : List Int) (s : Nat), Pgd z s → SeqPg s l → (∀ x ∈ l, 1 ≤ x.n ∧ x.b.length = 256) →
    Pgd (seenW z (homeW l)) (endPg s l) ∧ ∀ n, 1 ≤ n → n ≤ endPg s l → pageOf (seenW z (homeW l)) n = pgsF (pageOf z) l n := by
  intro l
  induction l with
  | nil =>
    intro z s hp _ _
    exact ⟨hp, fun n _ _ => rfl⟩
  | cons x r ih =>
    intro z s hp hs hx
    obtain ⟨h1, hb⟩ := hx x (List.mem_cons_self ..)
    obtain ⟨hs1, hs2⟩ := hs
    obtain ⟨m, hm⟩ : ∃ m : Nat, x.n = (m : Int) + 1 := ⟨(x.n - 1).toNat, by omega⟩
    have ha : ((x.n - 1) * 256).toNat = m * 256 := by omega
    have he : max s x.n.toNat = max s (m + 1) := by omega
    obtain ⟨hP, hpg⟩ := wr_page hp hb (show m ≤ s by omega)
    rw [he] at hs2
    obtain ⟨hp2, hpg2⟩ := ih (wrL z (m * 256) x.b) (max s (m + 1)) hP hs2 (fun y hy => hx y (List.mem_cons_of_mem _ hy))
    have hS : seenW z (homeW (x :: r)) = seenW (wrL z (m * 256) x.b) (homeW r) := by
      show seenW (wrL z ((x.n - 1) * 256).toNat x.b) (homeW r) = _
      rw [ha]
    rw [hS]
    have hE : endPg s (x :: r) = endPg (max s (m + 1)) r := by
      show endPg (max s x.n.toNat) r = _
      rw [he]
    rw [hE]
    refine ⟨hp2, fun n hn1 hn2 => ?_⟩
    rw [hpg2 n hn1 hn2]
    show pgsF (pageOf (wrL z (m * 256) x.b)) r n = pgsF (fun n => if (n : Int) = x.n then x.b else pageOf z n) r n
    rcases Nat.lt_or_ge (max s (m + 1)) n with hbig | hsm
    · obtain ⟨y, hy, hyn⟩ := end_has r (max s (m + 1)) n hs2 hbig hn2
      exact pgsF_some r _ _ n ⟨y, hy, hyn⟩
    · refine pgsF_congr _ _ _ n ?_
      rw [hpg n hn1 hsm]
      by_cases hnm : n = m + 1
      · rw [if_pos hnm, if_pos (by omega)]
      · rw [if_neg hnm, if_neg (by omega)]
theorem fix_home {P : Nat → Prop} {o : List Int} : ∀ {l : List Pg} {z : List Int}, (∀ y ∈ homeW l, ∀ z, Fix P o z → Fix P o (wrL z y.at_.toNat y.d)) → Fix P o z → Fix P o (seenW z (homeW l))
  | [], z, _, h => h
  | x :: r, z, hk, h => fix_home (l := r) (z := wrL z ((x.n - 1) * 256).toNat x.b) (fun y hy => hk y (List.mem_cons_of_mem _ hy)) (hk ⟨0, nmDb, (x.n - 1) * 256, x.b⟩ (List.mem_cons_self ..) z h)
/-- the database behind a commit -/
def newDb (o : List Int) (N : Nat) (l : List Pg) : List Int := sizedF (seenW o (homeW l)) (N * 256)
theorem at_commit {p : Pl} {s N : Nat} {l : List Pg} (h : AtJ p s) (hN : N ≤ 15) (hfit : fitPg (s : Int) (N : Int) l = true) (hb : ∀ x ∈ l, x.b.length = 256) :
    Cm s (asidePg (p.seen nmDb) s N l) (p.seen nmDb) (newDb (p.seen nmDb) N l) ∧ Pgd (newDb (p.seen nmDb) N l) N ∧ (∀ n, 1 ≤ n → n ≤ N → pageOf (newDb (p.seen nmDb) N l) n = pgsF (pageOf (p.seen nmDb)) l n) ∧
    (((p.jcommit N l).2 = 0 ∧ AtJ (p.jcommit N l).1 N ∧ (p.jcommit N l).1.seen nmDb = newDb (p.seen nmDb) N l) ∨
     ((p.jcommit N l).2 = 7 ∧ CrG s (asidePg (p.seen nmDb) s N l) (p.seen nmDb) (newDb (p.seen nmDb) N l) (p.jcommit N l).1)) := by
  obtain ⟨ao, hao⟩ : ∃ ao, asidePg (p.seen nmDb) s N l = ao := ⟨_, rfl⟩
  have hs := h.hs
  have hpo : (p.seen nmDb).length = s * 256 := h.po
  have haol : ao.length ≤ s := by rw [← hao]; exact aside_le _ _ _ _
  have haob : ∀ x ∈ ao, x.b.length = 256 := fun x hx' => by
    rw [← hao] at hx'
    obtain ⟨n, _, _, rfl⟩ := aside_mem hx'
    exact sizedF_len _ _
  have haoc : chainPg (s : Int) 0 ao = true := by
    rw [← hao]
    exact aside_chain (p.seen nmDb) s (fun n => decide (N < n) || hasPg l n) s 1 0 (by omega) (by omega)
  have haon := (chain_len (s : Int) ao 0 haoc (by omega)).2
  have haow : ∀ x ∈ ao, ∀ j, j < 256 → x.b[j]? = (p.seen nmDb)[((x.n - 1) * 256).toNat + j]? := fun x hx' j hj => by
    rw [← hao] at hx'
    obtain ⟨n, h1, h2, rfl⟩ := aside_mem hx'
    have hn : (((n : Int) - 1) * 256).toNat = (n - 1) * 256 := by omega
    show (pageOf (p.seen nmDb) n)[j]? = (p.seen nmDb)[(((n : Int) - 1) * 256).toNat + j]?
    rw [pageOf_at h.po h1 h2, List.getElem?_take, if_pos hj, List.getElem?_drop, hn]
  have hff := hfit
  unfold fitPg at hff
  rw [Bool.and_eq_true, Bool.and_eq_true, decide_eq_true_iff, decide_eq_true_iff] at hff
  obtain ⟨hc4, hch, hab⟩ := hff
  have hcl := (chain_len N l 0 hch hc4.1).2
  have hseq := seq_fit N l 0 s hch hc4.1 (Int.le_refl _) (by omega) (by omega)
  have hend := end_fit N l 0 s hch hc4.1 (Int.le_refl _) (by omega) (by omega)
  have hlp : ∀ x ∈ l, 1 ≤ x.n ∧ x.n ≤ 15 ∧ x.b.length = 256 := fun x hx' => by have := hcl x hx'; exact ⟨by omega, by omega, hb x hx'⟩
  -- what is not laid aside is not touched
  have hP : ∀ x ∈ l, ∀ i, Prot ao s i → i < (p.seen nmDb).length → x.n ≠ ((i / 256 : Nat) : Int) + 1 := fun x hx' i hp hi e => by
    have hm := aside_has (db := p.seen nmDb) (old := s) (count := N) (n := i / 256 + 1) (l := l) (by omega) (by omega) (by
      rw [Bool.or_eq_true]
      right
      exact (hasPg_iff l _).2 ⟨x, hx', by rw [e]; omega⟩)
    rw [hao] at hm
    exact hp.2 _ hm (by show (((i / 256 + 1 : Nat)) : Int) = _; omega)
  have hcut : ∀ i, Prot ao s i → i < (p.seen nmDb).length → i < N * 256 := fun i hp hi => by
    rcases Nat.lt_or_ge i (N * 256) with q | q
    · exact q
    · exfalso
      have hm := aside_has (db := p.seen nmDb) (old := s) (count := N) (n := i / 256 + 1) (l := l) (by omega) (by omega) (by
        rw [Bool.or_eq_true]
        left
        rw [decide_eq_true_iff]
        omega)
      rw [hao] at hm
      exact hp.2 _ hm (by show (((i / 256 + 1 : Nat)) : Int) = _; omega)
  have hkeep : Fix (Prot ao s) (p.seen nmDb) (newDb (p.seen nmDb) N l) := fix_sized hcut (fix_home (fun y hy z hz => (home_fix hlp hP y hy z hz).1) (Fix.refl _ _))
  obtain ⟨hpe, hpg⟩ := seenW_pages l (p.seen nmDb) s h.po hseq (fun x hx' => ⟨(hlp x hx').1, hb x hx'⟩)
  have hNe : N ≤ endPg s l := by omega
  have hpe' : (seenW (p.seen nmDb) (homeW l)).length = endPg s l * 256 := hpe
  have hcut2 := cut_pages hpe hNe
  have hnew : newDb (p.seen nmDb) N l = (seenW (p.seen nmDb) (homeW l)).take (N * 256) := by
    unfold newDb sizedF
    rw [if_pos (by rw [hpe']; exact Nat.mul_le_mul_right _ hNe)]
  rw [hao]
  refine ⟨⟨hs, hpo, haoc, fun x hx' => ⟨by have := haon x hx'; omega, by have := haon x hx'; omega, haob x hx'⟩, by omega, haow, hkeep⟩, by rw [hnew]; exact hcut2.1, fun n h1 h2 => by rw [hnew, hcut2.2 n h1 h2]; exact hpg n h1 (by omega), ?_⟩
  have hcnt : p.jcount = s := count_of h.pre.lv.up h.po
  have hcold := coldJ_hot h.cold
  have hjf : p.jfirst N l = firstS p.jhead s ao := by
    unfold Pl.jfirst
    rw [hcnt, Int.toNat_natCast, hao]
  have hcm : p.jcommit N l = if (p.runS (firstS p.jhead s ao)).2 ≠ 0 then ((p.runS (firstS p.jhead s ao)).1, fullE (p.runS (firstS p.jhead s ao)).2) else
        if ((p.runS (firstS p.jhead s ao)).1.runS (secondS N l)).2 = 5 then (if (((p.runS (firstS p.jhead s ao)).1.runS (secondS N l)).1.jrecover).2.2 ≠ 0 then ((((p.runS (firstS p.jhead s ao)).1.runS (secondS N l)).1.jrecover).1, (((p.runS (firstS p.jhead s ao)).1.runS (secondS N l)).1.jrecover).2.2) else ((((p.runS (firstS p.jhead s ao)).1.runS (secondS N l)).1.jrecover).1, 5)) else (p.runS (firstS p.jhead s ao)).1.runS (secondS N l) := by
    unfold Pl.jcommit
    rw [h.pre.lv.up, hcnt, hfit, hcold, hjf]
    rfl
  rw [hcm]
  have hst := h.still
  rcases run_first h ao haob (by omega) (newDb (p.seen nmDb) N l) with ⟨f0, f1⟩ | ⟨f0, f1, f2⟩
  · right
    rw [if_pos (by rw [f0]; decide), f0]
    exact ⟨rfl, f1⟩
  · rw [if_neg (by rw [f0]; simp)]
    generalize (p.runS (firstS p.jhead s ao)).1 = q at f1 f2 ⊢
    have fx : FI q nmDb (Fix (Prot ao s) (p.seen nmDb)) := f2 _ (hst _ (Fix.refl _ _))
    have fj : FI q nmJn fun J => HS J (hotW s ao) ∧ Fix body (q.seen nmJn) J := fi_empty f1.cj (by rw [f1.kj]; exact ⟨hw_hs f1.hw, Fix.refl _ _⟩)
    unfold secondS
    rw [runS_append]
    rcases run_put f1.pre N hN l hlp hP hcut _ fx fj (by rw [f1.db]; exact Fix.refl _ _) with ⟨y0, y1, y2, y3⟩ | ⟨y0, y1, y2, y3, y4, y5, y6, y7⟩
    · right
      have hne : ¬ (q.runS (homeS (N : Int) l)).2 = 0 := by rw [y0]; decide
      rw [if_neg hne, if_neg (by rw [y0]; decide)]
      exact ⟨y0, y1, good_of y2.fo y3.fo fun D J q1 q2 => .inr ⟨q2.1, f1.recs.fix q2.2, q1⟩⟩
    · rw [if_pos y0]
      generalize (q.runS (homeS (N : Int) l)).1 = q2 at y1 y2 y3 y4 y5 y6 y7 ⊢
      have sd2 : q2.seen nmDb = newDb (p.seen nmDb) N l := by rw [y2, upd_same, f1.db]; rfl
      have kd2 : q2.kept nmDb = newDb (p.seen nmDb) N l := by rw [y4, f1.db]; rfl
      have sj2 : q2.seen nmJn = q.seen nmJn := by rw [y2, upd_other _ _ nm_ne.symm]
      have kj2 : q2.kept nmJn = q.seen nmJn := y7.trans f1.kj
      have hst2 : ∀ I : List Int → Prop, I (newDb (p.seen nmDb) N l) → FI q2 nmDb I := fun I hI => fi_empty y3 (by rw [kd2]; exact hI)
      rcases run_head2A y1 (hotW s ao) ⟨0, 0, 0, 0⟩ (by rw [kj2]; exact f1.hw) (y6 f1.cj) (by rw [sj2, kj2]) (P := body) (fun i hi => hi) with ⟨x0, x1, x2, x3⟩ | ⟨x0, x1, x2, x3, x4, x5⟩
      · right
        rw [if_neg (by rw [x0]; decide)]
        refine ⟨x0, x1, good_of (x3 _ (hst2 (fun D => D = newDb (p.seen nmDb) N l) rfl)).fo x2 fun D J q1 q2 => ?_⟩
        rcases q2.1 with z | z
        · exact .inr ⟨z, f1.recs.fix (by have := q2.2.1; rwa [kj2] at this), by rw [q1]; exact hkeep⟩
        · exact .inl ⟨coldJ_zero z, .inr q1⟩
      · left
        rw [if_neg (by rw [x0]; decide)]
        have sd3 : (q2.runS (headS nmJn ⟨0, 0, 0, 0⟩)).1.seen nmDb = newDb (p.seen nmDb) N l := by rw [x2, upd_other _ _ nm_ne, sd2]
        have kd3 : ∀ I : List Int → Prop, I (newDb (p.seen nmDb) N l) → FI (q2.runS (headS nmJn ⟨0, 0, 0, 0⟩)).1 nmDb I := fun I hI => x5 I (hst2 I hI)
        have kd4 : (q2.runS (headS nmJn ⟨0, 0, 0, 0⟩)).1.kept nmDb = newDb (p.seen nmDb) N l := (kd3 (fun D => D = newDb (p.seen nmDb) N l) rfl).kept
        have sj3 : (q2.runS (headS nmJn ⟨0, 0, 0, 0⟩)).1.seen nmJn = wrL (q2.seen nmJn) 0 (sealB ⟨0, 0, 0, 0⟩) := by rw [x2, upd_same]
        generalize (q2.runS (headS nmJn ⟨0, 0, 0, 0⟩)).1 = q3 at x1 x3 x4 sd3 kd3 kd4 sj3 ⊢
        exact ⟨x0, ⟨x1, hN, by rw [sd3, hnew]; exact hcut2.1, coldJ_zero (by rw [sj3]; exact hw_hs (wr_head _ _)), by rw [kd4, sd3], by rw [sd3]; exact kd3, by rw [x4, sj3], x3⟩, sd3⟩
end Go.Proofs.Ytegcbdfilkecpaa
/- The journal: a page told; no condition but on the texts' lengths. -/
namespace Go.Proofs.Ytegcbdfilkecpaa
open Go.RowKit

section
variable {S : Nat → Prop} {W0 w : World} {db : Nat} {p : Pl}
attribute [local go_sem ↓] load26 store26 alloc26 build26
set_option maxRecDepth 100000 in
set_option maxHeartbeats 800000 in
theorem page_q (h : Dq S W0 w db p) (n : Int) (hn : -9223372036854775808 ≤ n ∧ n ≤ 9223372036854775807) :
    Calls Try.prog 11 #[ptrV db, .int .i64 n] w fun e w' => e = .returned (.tuple #[.agg (bytesV (p.jpage n)), .int .i64 (p.jpageE n)]) ∧ Kp NoB w w' := by
  have H := Lib.hid h
  have hb0 : Blk (w.alloc (.cells zero256 24)) w.heap.size 24 zero256 := Blk.new _ _ _
  have hk0 : Kp NoB w (w.alloc (.cells zero256 24)) := (Kp.refl _ _).alloc _
  have HB0 := Lib.hid hb0
  have HK0 := Lib.hid hk0
  clear h hb0 hk0
  unfold ptrV
  rcases hdn : p.down with _ | _
  · have HW0 : Hid (p.wrong = 0) := Lib.hid (by unfold Pl.wrong; rw [hdn]; rfl)
    have HE0 : Hid (p.jpageE n = if n < 1 ∨ (p.jcount : Int) < n then 4 else 0) := Lib.hid (by unfold Pl.jpageE; rw [hdn]; rfl)
    clear hdn
    by_cases h1 : n < 1
    · have HE1 : Hid (p.jpageE n = 4) := Lib.hid (by rw [HE0.out, if_pos (.inl h1)])
      have HP1 : Hid (bytesV (p.jpage n) = zero256) := Lib.hid (by unfold Pl.jpage; rw [HE1.out]; rfl)
      go_enter Try.func11, Try.ntmps11
      go_wp2_with fail
      refine (show Calls _ _ #[ptrV db] _ _ from ready_q (H.out.keep HK0.out)).mono ?_
      rintro e w2 ⟨rfl, hk⟩
      rw [HW0.out]
      have HK := Lib.hid hk
      have hb2 := HB0.out.keep hk (fun q => q)
      have HB2 := Lib.hid hb2
      have t2 : w2.there w.heap.size 0 256 := hb2.thereAll 256 (by rw [zero256_eq, bytesV_size]; rfl)
      have oz : ones zero256 := by rw [zero256_eq]; exact bytesV_one _
      have sz : zero256.size = 256 := by rw [zero256_eq, bytesV_size]; rfl
      have HSZ := Lib.hid sz
      clear hk hb2
      go_wp2_with fail
      refine bodyPost_ret (ret_cell_tmp rfl _ _ _ _ _ _ rfl (HB2.out.whole zero256 rfl) Try.underlying24 rfl (by rw [HSZ.out]; exact info26) _ rfl) rfl ⟨by rw [HE1.out, HP1.out]; rfl, ?_⟩
      exact Kp.setCells (.inl (Nat.le_refl _)) _ _ _ (HK0.out.trans HK.out (fun _ _ q => q))
    · by_cases h2 : (p.jcount : Int) < n
      · have HE1 : Hid (p.jpageE n = 4) := Lib.hid (by rw [HE0.out, if_pos (.inr h2)])
        have HP1 : Hid (bytesV (p.jpage n) = zero256) := Lib.hid (by unfold Pl.jpage; rw [HE1.out]; rfl)
        go_enter Try.func11, Try.ntmps11
        go_wp2_with fail
        refine (show Calls _ _ #[ptrV db] _ _ from ready_q (H.out.keep HK0.out)).mono ?_
        rintro e w2 ⟨rfl, hk⟩
        rw [HW0.out]
        have HK := Lib.hid hk
        have hb2 := HB0.out.keep hk (fun q => q)
        have HB2 := Lib.hid hb2
        have t2 : w2.there w.heap.size 0 256 := hb2.thereAll 256 (by rw [zero256_eq, bytesV_size]; rfl)
        have oz : ones zero256 := by rw [zero256_eq]; exact bytesV_one _
        have sz : zero256.size = 256 := by rw [zero256_eq, bytesV_size]; rfl
        have HSZ := Lib.hid sz
        clear hk hb2
        go_wp2_with fail
        refine (show Calls _ _ #[ptrV db] _ _ from count_q ((H.out.keep HK0.out).keep HK.out)).mono ?_
        rintro e w3 ⟨rfl, rfl⟩
        generalize (p.jcount : Int) = J at h2 ⊢
        go_wp2_with fail
        refine bodyPost_ret (ret_cell_tmp rfl _ _ _ _ _ _ rfl (HB2.out.whole zero256 rfl) Try.underlying24 rfl (by rw [HSZ.out]; exact info26) _ rfl) rfl ⟨by rw [HE1.out, HP1.out]; rfl, ?_⟩
        exact Kp.setCells (.inl (Nat.le_refl _)) _ _ _ (HK0.out.trans HK.out (fun _ _ q => q))
      · have HE1 : Hid (p.jpageE n = 0) := Lib.hid (by rw [HE0.out, if_neg (by omega)])
        obtain ⟨m, hm⟩ : ∃ m : Nat, n = m := ⟨n.toNat, by omega⟩
        have HP1 : Hid (p.jpage n = pageOf (p.seen nmDb) m) := Lib.hid (by unfold Pl.jpage; rw [HE1.out, hm]; rfl)
        have hm1 : 1 ≤ m := by omega
        have hm2 : m ≤ p.jcount := by omega
        have HM1 := Lib.hid hm1
        have HM2 := Lib.hid hm2
        have HMM := Lib.hid hm
        have HPL : Hid ((pageOf (p.seen nmDb) m).length = 256) := Lib.hid (sizedF_len _ _)
        clear hm hm1 hm2
        go_enter Try.func11, Try.ntmps11
        go_wp2_with fail
        refine (show Calls _ _ #[ptrV db] _ _ from ready_q (H.out.keep HK0.out)).mono ?_
        rintro e w2 ⟨rfl, hk⟩
        rw [HW0.out]
        have HK := Lib.hid hk
        clear hk
        go_wp2_with fail
        refine (show Calls _ _ #[ptrV db] _ _ from count_q ((H.out.keep HK0.out).keep HK.out)).mono ?_
        rintro e w3 ⟨rfl, rfl⟩
        obtain ⟨J, hJ⟩ : ∃ J : Int, (p.jcount : Int) = J := ⟨_, rfl⟩
        rw [hJ] at h2 ⊢
        clear hJ
        go_wp2_with fail
        have HPQ := wpage_q ((H.out.keep HK0.out).keep HK.out) m HM1.out HM2.out
        rw [← HMM.out] at HPQ
        refine (show Calls _ _ #[.agg #[ptrV db], .int .i64 n] _ _ from HPQ).mono ?_
        clear HPQ
        rintro e w4 ⟨rfl, hk4⟩
        have hk5 := HK.out.trans hk4 (fun _ _ q => q)
        have HK5 := Lib.hid hk5
        have hb2 := HB0.out.keep hk5 (fun q => q)
        have HB2 := Lib.hid hb2
        have t2 : w4.there w.heap.size 0 256 := hb2.thereAll 256 (by rw [zero256_eq, bytesV_size]; rfl)
        obtain ⟨RR, hRR⟩ : ∃ RR, bytesV (pageOf (p.seen nmDb) m) = RR := ⟨_, rfl⟩
        have o1 := bytesV_one (pageOf (p.seen nmDb) m)
        have s1 : (bytesV (pageOf (p.seen nmDb) m)).size = 256 := by rw [bytesV_size, HPL.out]
        rw [hRR] at o1 s1 ⊢
        have HRR := Lib.hid hRR
        have HS1 := Lib.hid s1
        clear hk4 hk5 hb2 hRR
        go_wp2_with fail
        refine bodyPost_ret (ret_cell_tmp rfl _ _ _ _ _ _ rfl (HB2.out.whole RR (by rw [HS1.out, zero256_eq, bytesV_size]; rfl)) Try.underlying24 rfl (by rw [HS1.out]; exact info26) _ rfl) rfl ⟨by rw [HE1.out, HP1.out, HRR.out]; rfl, ?_⟩
        exact Kp.setCells (.inl (Nat.le_refl _)) _ _ _ (HK0.out.trans HK5.out (fun _ _ q => q))
  · have HW0 : Hid (p.wrong = 7) := Lib.hid (by unfold Pl.wrong; rw [hdn]; rfl)
    have HE1 : Hid (p.jpageE n = 7) := Lib.hid (by unfold Pl.jpageE; rw [hdn]; rfl)
    have HP1 : Hid (bytesV (p.jpage n) = zero256) := Lib.hid (by unfold Pl.jpage; rw [HE1.out]; rfl)
    clear hdn
    go_enter Try.func11, Try.ntmps11
    go_wp2_with fail
    refine (show Calls _ _ #[ptrV db] _ _ from ready_q (H.out.keep HK0.out)).mono ?_
    rintro e w2 ⟨rfl, hk⟩
    rw [HW0.out]
    have HK := Lib.hid hk
    have hb2 := HB0.out.keep hk (fun q => q)
    have HB2 := Lib.hid hb2
    have t2 : w2.there w.heap.size 0 256 := hb2.thereAll 256 (by rw [zero256_eq, bytesV_size]; rfl)
    have oz : ones zero256 := by rw [zero256_eq]; exact bytesV_one _
    have sz : zero256.size = 256 := by rw [zero256_eq, bytesV_size]; rfl
    have HSZ := Lib.hid sz
    clear hk hb2
    go_wp2_with fail
    refine bodyPost_ret (ret_cell_tmp rfl _ _ _ _ _ _ rfl (HB2.out.whole zero256 rfl) Try.underlying24 rfl (by rw [HSZ.out]; exact info26) _ rfl) rfl ⟨by rw [HE1.out, HP1.out]; rfl, ?_⟩
    exact Kp.setCells (.inl (Nat.le_refl _)) _ _ _ (HK0.out.trans HK.out (fun _ _ q => q))
end
end Go.Proofs.Ytegcbdfilkecpaa
/- The journal: pages gathered that are to be laid aside: rules of the region that gathers; no condition. -/
namespace Go.Proofs.Ytegcbdfilkecpaa
open Go Go.RowKit

section
variable {P : Program} {ops : Array Oper} {Q : Exit → Act → World → Prop} {md : Region.Mode} {S : World → Prop} {fuel : Nat} {listed : Array Bool} {a : Act} {w : World} {i : Nat} {rs : List Nat}
variable {ds : Option Tmp} {op : Op} {ty : TypeId} {ps : String} {af : Array Edge}
/-- an operation that yields nothing -/
theorem AllReadyH.skipR {gd : Option (Nat × Bool)} (ho : ops[i]? = some ⟨none, op, ty, ps, af, gd⟩) (hw : Region.wanted ⟨none, op, ty, ps, af, gd⟩ (yielded ops a.tmps) = true) (w' : World)
    (hr : (execOp a.eval ⟨none, op, ty, ps, af, gd⟩).run P w = .ok .skip w') (hS : S w')
    (hn : wpAnyH P md ops Q S fuel (listed.setIfInBounds i true) a w')
    (hs : AllReadyH P md ops Q S fuel listed a w rs) : AllReadyH P md ops Q S fuel listed a w (i :: rs) :=
  AllReadyH.cons ho (fun K hK => by
    rw [if_pos hw]
    unfold Oper.wp
    rw [hr, Oper.upon_skip]
    exact hK.out _ _ hS (fun _ => hn)) hs
/-- an append to a row of the caller's own -/
theorem AllReadyH.appendB {s x : Operand} {t : TypeId} (ho : ops[i]? = some ⟨ds, .call { callee := .builtin .append, args := #[s, x], argTypes := #[t, t] }, ty, ps, af, none⟩) (hw : Region.wanted ⟨ds, .call { callee := .builtin .append, args := #[s, x], argTypes := #[t, t] }, ty, ps, af, none⟩ (yielded ops a.tmps) = true)
    (base : Nat) (e : TypeId) (j : TypeInfo) (z : Value) (size bytes : Nat) (ht : P.underlying t = some (.slice e)) (hi : P.info? e = some j) (hz : j.zero = some z)
    (hsize : j.size = size) (hby : j.bytes = bytes) (hzs : z.cells.size = size) (hsz : 0 < size)
    (v : Value) (n : Nat) (xs : List Value) (hsv : a.eval s = v) (hown : w.ownsRow base e size v n xs)
    (ad : Addr) (m c : Nat) (news : List Value) (hx : a.eval x = .slice (some ad) m c) (hl : news.length = m * size) (hnews : ∀ j u, news[j]? = some u → w.cell? (ad.add j) = some u) (h1 : ∀ u ∈ news, u.oneCell' = true)
    (h63 : n + m ≤ maxLen) (hbytes : (n + m) * bytes ≤ 140737488355328) (hbase : base ≤ w.heap.size)
    (hS : ∀ v' w', w'.ownsRow base e size v' (n + m) (xs ++ news) → w.grownBy w' v.ownBlock → (∀ b, v'.ownBlock = some b → v.ownBlock = some b ∨ w.heap.size ≤ b) → S w')
    (hn : ∀ v' w', w'.ownsRow base e size v' (n + m) (xs ++ news) → w.grownBy w' v.ownBlock → (∀ b, v'.ownBlock = some b → v.ownBlock = some b ∨ w.heap.size ≤ b) → wpAnyH P md ops Q S fuel (listed.setIfInBounds i true) (a.put ds v') w')
    (hs : AllReadyH P md ops Q S fuel listed a w rs) : AllReadyH P md ops Q S fuel listed a w (i :: rs) :=
  AllReadyH.cons ho (fun K hK => by
    rw [if_pos hw]
    exact wp_append_ownB s x t rfl base e j z size bytes ht hi hz hsize hby hzs hsz v n xs hsv hown ad m c news hx hl hnews h1 h63 hbytes hbase
      (fun v' w' q1 q2 q3 => hK.out _ _ (hS v' w' q1 q2 q3) (fun _ => hn v' w' q1 q2 q3))) hs
end
theorem stSl {w : World} {g : Nat} {v0 : Value} (h : Blk w g 22 #[v0]) (ev : Operand → Value) {x y : Operand} {A : Option Addr} {n c : Nat} {ty : TypeId} {ps : String} {af : Array Edge} {gd : Option (Nat × Bool)} (hx : ev x = .pointer (some ⟨g, 0, none⟩)) (hy : ev y = .slice A n c) :
    (execOp ev ⟨none, .store 22 x y, ty, ps, af, gd⟩).run Try.prog w = .ok .skip (w.setCell ⟨g, 0, none⟩ (.slice A n c)) := by
  have hc : w.cell? ⟨g, 0, none⟩ = some v0 := h.cell 0
  have hf : w.frozen? ⟨g, 0, none⟩ = false := h.frozen 0
  simp only [execOp, hx, hy]
  go_simp
theorem asideW_len : ∀ (l : List Pg) (k : Nat), (asideW k l).length = l.length
  | [], _ => rfl
  | x :: r, k => by
    unfold asideW
    rw [List.length_cons, List.length_cons, asideW_len r (k + 1)]
theorem ldSl {w : World} {g : Nat} {A : Option Addr} {n c : Nat} (hc : w.cell? ⟨g, 0, none⟩ = some (.slice A n c)) (ev : Operand → Value) {x : Operand} {ds : Option Tmp} {ty : TypeId} {ps : String} {af : Array Edge} {gd : Option (Nat × Bool)} (hx : ev x = .pointer (some ⟨g, 0, none⟩)) :
    (execOp ev ⟨ds, .load 22 x, ty, ps, af, gd⟩).run Try.prog w = .ok (.value (.slice A n c)) w := by
  simp only [execOp, hx]
  go_simp
/-- in the midst of the region -/
structure CoT (wL : World) (Ba Bd db : Nat) (v10 : Value) (W : World) : Prop where
  kl : Kp (OnB Ba) wL W
  ba : Blk W Ba 22 #[v10]
  bd : Blk W Bd 98 #[ptrV db]
structure CoS (wL : World) (Ba Bd db : Nat) (v10 : Value) (W0 W : World) : Prop extends CoT wL Ba Bd db v10 W where
  kp : Kp NoB W0 W
section
variable {wL : World} {Ba Bd db : Nat} {v10 : Value} {W0 W W' : World}
theorem CoT.sp (h : CoT wL Ba Bd db v10 W) : W.rangeAt Bd 0 [ptrV db] := Blk.range (xa := []) (xb := [ptrV db]) (xd := []) h.bd 0 rfl
theorem CoS.sp (h : CoS wL Ba Bd db v10 W0 W) : W.rangeAt Bd 0 [ptrV db] := h.toCoT.sp
theorem CoT.keep (h : CoT wL Ba Bd db v10 W) (k : Kp NoB W W') : CoT wL Ba Bd db v10 W' := ⟨h.kl.trans k (fun _ _ q => q.elim), h.ba.keep k (fun q => q), h.bd.keep k (fun q => q)⟩
theorem CoS.keep (h : CoS wL Ba Bd db v10 W0 W) (k : Kp NoB W W') : CoS wL Ba Bd db v10 W0 W' := ⟨h.toCoT.keep k, h.kp.trans k (fun _ _ q => q)⟩
theorem CoS.alloc (h : CoS wL Ba Bd db v10 W0 W) (o : Obj) : CoS wL Ba Bd db v10 W0 (W.alloc o) := h.keep ((Kp.refl _ _).alloc o)
theorem CoS.grown (h : CoS wL Ba Bd db v10 W0 W) {o : Obj} {w' : World} (hg : (W.alloc o).grownBy w' v10.ownBlock) {e : TypeId} {size n : Nat} {xs : List Value} {wx : World} (ho : wx.ownsRow wL.heap.size e size v10 n xs) (hBa : Ba < wL.heap.size := by omega) (hBd : Bd < wL.heap.size := by omega) : CoT wL Ba Bd db v10 w' := by
  have h2 := (h.alloc o).toCoT
  have hk : Kp (fun k => v10.ownBlock = some k) (W.alloc o) w' := (Kp.refl _ _).grown hg (fun k hk => .inr hk)
  have hge := own_ge ho
  exact ⟨h2.kl.own hg rfl ho, h2.ba.keep hk (fun q => by have := hge _ q; omega), h2.bd.keep hk (fun q => by have := hge _ q; omega)⟩
theorem CoT.put_ (h : CoT wL Ba Bd db v10 W) (hne : Bd ≠ Ba) (v' : Value) : CoT wL Ba Bd db v' (W.setCell ⟨Ba, 0, none⟩ v') :=
  ⟨h.kl.setCell (p := ⟨Ba, 0, none⟩) (.inr rfl) _, h.ba.set_ 0 v', h.bd.far (p := ⟨Ba, 0, none⟩) hne _⟩
end
/-- a disk behind a change of one block that is none of its own -/
theorem Dq.keepOn {S : Nat → Prop} {w w' : World} {db : Nat} {p : Pl} {Ba : Nat} {t : TypeId} {cs : Array Value} (h : Dq S w w db p) (k : Kp (OnB Ba) w w') (hn : ¬ S Ba) (hb : Blk w Ba t cs) (ht : t ≠ 5) : Dq S w' w' db p := by
  obtain ⟨x, e, hd, hp, hk, ho, hs⟩ := h
  have hS : ∀ b, x.O b → S b := fun b hb => by
    rcases ho b hb with q | q
    · exact q
    · have := hd.lt b hb
      omega
  refine ⟨x, e, hd.keep k (fun b hb q => hn (by rw [← show b = Ba from q]; exact hS b hb)) (fun g cs' hg q => ?_), hp, Kp.refl _ _, fun b hb => .inl (hS b hb), fun b hb => Nat.lt_of_lt_of_le (hs b hb) k.size⟩
  rw [show g = Ba from q] at hg
  exact blk_ne hb hg ht rfl
end Go.Proofs.Ytegcbdfilkecpaa
