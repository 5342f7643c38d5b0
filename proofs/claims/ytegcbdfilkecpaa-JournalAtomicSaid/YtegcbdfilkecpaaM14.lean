/- Texts of this proof, one behind the other: lemmas and contracts; each says its own conditions. -/
import Derived.Test.YtegcbdfilkecpaaM12
import Derived.Test.YtegcbdfilkecpaaM13
/- The journal in plain Lean: a database of which some bytes stay, through writes beside them. -/
namespace Go.Proofs.Ytegcbdfilkecpaa

theorem fix_pendW {P : Nat → Prop} {o z d : List Int} {s : ByteArray} {a : Nat} (ha : a % 64 = 0) (hd : d.length % 64 = 0) (hout : ∀ i, P i → i < o.length → i < a ∨ a + d.length ≤ i) (hz : Fix P o z) :
    ∀ c ∈ pendW z s a d, ∀ k ch, Fix P o k → Fix P o (Pl.made k c ch) := by
  intro c hc k ch hk
  rcases (pendW_mem hc).2 with ⟨h1, h2, h3⟩ | ⟨h1, h2, h3, h4⟩
  · refine fix_made ch (fun _ i hp hi => ?_) (fun h => by omega) hk
    have := hz.lt hp hi
    rw [h3]
    omega
  · refine fix_made ch (fun h => by omega) (fun _ i hp hi => ?_) hk
    rcases hout i hp hi with q | q
    · left; omega
    · right; omega
theorem fix_pendT {P : Nat → Prop} {o z : List Int} {s : ByteArray} {n : Nat} (hn : ∀ i, P i → i < o.length → i < n) : ∀ c ∈ pendT z s n, ∀ k ch, Fix P o k → Fix P o (Pl.made k c ch) := by
  intro c hc k ch hk
  obtain ⟨h1, h2, h3⟩ := pendT_mem hc
  refine fix_made ch (fun _ i hp hi => ?_) (fun h => by omega) hk
  have := hn i hp hi
  rw [h3]
  omega
/-- the bytes of pages that are in no list, of the first s -/
def Prot (l : List Pg) (s : Nat) (i : Nat) : Prop := i < 256 * s ∧ ∀ x ∈ l, x.n ≠ ((i / 256 : Nat) : Int) + 1
/-- the writes of pages home are such writes -/
theorem home_ok {l : List Pg} (hl : ∀ x ∈ l, 1 ≤ x.n ∧ x.n ≤ 15 ∧ x.b.length = 256) : ∀ y ∈ homeW l, WrOk nmDb y := by
  intro y hy
  unfold homeW at hy
  obtain ⟨x, hx, rfl⟩ := List.mem_map.1 hy
  obtain ⟨h1, h2, h3⟩ := hl x hx
  refine ⟨rfl, rfl, ?_, ?_, ?_⟩
  · show 0 ≤ (x.n - 1) * 256
    omega
  · show x.b ≠ []
    intro e
    rw [e] at h3
    cases h3
  · show ((x.n - 1) * 256).toNat + x.b.length ≤ capOf nmDb
    unfold capOf
    rw [if_pos rfl, h3]
    omega
theorem home_fix {P : Nat → Prop} {o : List Int} {l : List Pg} (hl : ∀ x ∈ l, 1 ≤ x.n ∧ x.n ≤ 15 ∧ x.b.length = 256) (hP : ∀ x ∈ l, ∀ i, P i → i < o.length → x.n ≠ ((i / 256 : Nat) : Int) + 1) :
    ∀ y ∈ homeW l, ∀ z, Fix P o z → Fix P o (wrL z y.at_.toNat y.d) ∧ ∀ c ∈ pendW z nmDb y.at_.toNat y.d, ∀ k ch, Fix P o k → Fix P o (Pl.made k c ch) := by
  intro y hy z hz
  unfold homeW at hy
  obtain ⟨x, hx, rfl⟩ := List.mem_map.1 hy
  obtain ⟨h1, h2, h3⟩ := hl x hx
  have hout : ∀ i, P i → i < o.length → i < ((x.n - 1) * 256).toNat ∨ ((x.n - 1) * 256).toNat + x.b.length ≤ i := fun i hp hi => by
    have := hP x hx i hp hi
    rw [h3]
    omega
  exact ⟨fix_wrL hout hz, fix_pendW (show ((x.n - 1) * 256).toNat % 64 = 0 by omega) (by show x.b.length % 64 = 0; rw [h3]) hout hz⟩
/-- pages put home, the database cut and synced: fallen with what stays, or done -/
theorem run_put {p : Pl} (h : Pre p) (c : Nat) (hc : c ≤ 15) (l : List Pg) (hl : ∀ x ∈ l, 1 ≤ x.n ∧ x.n ≤ 15 ∧ x.b.length = 256) {P : Nat → Prop} {o : List Int} (hP : ∀ x ∈ l, ∀ i, P i → i < o.length → x.n ≠ ((i / 256 : Nat) : Int) + 1)
    (hcut : ∀ i, P i → i < o.length → i < c * 256) (It : List Int → Prop) (hi : FI p nmDb (Fix P o)) (ht : FI p nmJn It) (hg : Fix P o (p.seen nmDb)) :
    ((p.runS (homeS (c : Int) l)).2 = 7 ∧ Fell (p.runS (homeS (c : Int) l)).1 ∧ FI (p.runS (homeS (c : Int) l)).1 nmDb (Fix P o) ∧ FI (p.runS (homeS (c : Int) l)).1 nmJn It) ∨
    ((p.runS (homeS (c : Int) l)).2 = 0 ∧ Pre (p.runS (homeS (c : Int) l)).1 ∧ (p.runS (homeS (c : Int) l)).1.seen = upd p.seen nmDb (sizedF (seenW (p.seen nmDb) (homeW l)) (c * 256)) ∧ chg (p.runS (homeS (c : Int) l)).1 nmDb = [] ∧
      (p.runS (homeS (c : Int) l)).1.kept nmDb = sizedF (seenW (p.seen nmDb) (homeW l)) (c * 256) ∧ FI (p.runS (homeS (c : Int) l)).1 nmJn It ∧ (chg p nmJn = [] → chg (p.runS (homeS (c : Int) l)).1 nmJn = []) ∧ (p.runS (homeS (c : Int) l)).1.kept nmJn = p.kept nmJn) := by
  have e0 : homeS (c : Int) l = homeW l ++ [⟨1, nmDb, ((c * 256 : Nat) : Int), []⟩, ⟨2, nmDb, 0, []⟩] := by
    unfold homeS
    rw [Int.natCast_mul]
    rfl
  rw [e0, runS_append]
  rcases run_writes nmDb nmJn (.inl rfl) nm_ne.symm (Fix P o) It (Fix P o) (homeW l) h (home_ok hl) hi ht hg (home_fix hl hP) with ⟨z0, z1, z2, z3⟩ | ⟨z0, z1, z2, z3, z4, z5, z6, z7⟩
  · rw [if_neg (by rw [z0]; decide)]
    exact .inl ⟨z0, z1, z2, z3⟩
  · rw [if_pos z0]
    have hse : (p.runS (homeW l)).1.seen nmDb = seenW (p.seen nmDb) (homeW l) := by rw [z5, upd_same]
    rcases run_ts z1 (c * 256) (by unfold capOf; rw [if_pos rfl]; omega) (Fix P o) It z2 z3 (fix_pendT hcut) with q | ⟨q0, q1, q2, q3, q4, q5, q6, q7⟩
    · exact .inl q
    · exact .inr ⟨q0, q1, by rw [q2, hse, z5, upd_upd], q3, by rw [q4, hse], q5, fun e => q6 (z6 e), q7.trans (by rw [z7])⟩
end Go.Proofs.Ytegcbdfilkecpaa
/- The journal in plain Lean: a head sealed again keeps what it says, and the body. -/
namespace Go.Proofs.Ytegcbdfilkecpaa

theorem made_len_ge {k : List Int} {c : Cg} {ch : Int} {B : Nat} (hB : B ≤ k.length) (hc : c.sec < 0 → B ≤ c.n.toNat) : B ≤ (Pl.made k c ch).length := by
  unfold Pl.made
  split
  · exact hB
  · split
    · rename_i h
      rw [sizedF_len]
      exact hc h
    · unfold Pl.put
      simp only [List.length_append, List.length_take, List.length_drop]
      omega
theorem hs_made {J : List Int} {w : W4} {c : Cg} (hc : JnC w c) (ch : Int) (h : HS J w) : HS (Pl.made J c ch) w := by
  rcases hd_made hc ch (.inr h) with ⟨e, _⟩ | q
  · have := made_len_ge (ch := ch) (c := c) (hs_len h) (fun q => by have := hc.1 q; omega)
    rw [e] at this
    exact absurd this (by simp)
  · exact q
theorem head_sizedF (J : List Int) (w : W4) : sizedF ((wrL J 0 (sealB w)).drop 0) 64 = sealB w := by
  obtain ⟨t, ht⟩ := wr_head J w
  have hs := seal_len w
  rw [ht, List.drop_zero]
  unfold sizedF
  rw [if_pos (by rw [List.length_append]; omega), List.take_left' hs]
/-- the changes of a head written over a journal that has one -/
theorem pend_head {J : List Int} {w : W4} (hl : 64 ≤ J.length) {c : Cg} (hc : c ∈ pendW J nmJn 0 (sealB w)) : c.sec = 0 ∧ c.s = sealB w := by
  have hs := seal_len w
  rcases (pendW_mem hc).2 with ⟨h1, h2, h3⟩ | ⟨h1, h2, h3, h4⟩
  · omega
  · have h0 : c.sec.toNat = 0 := by rw [hs] at h3; omega
    rw [h0, Nat.zero_mul, head_sizedF] at h4
    exact ⟨by omega, h4⟩
theorem reseal_keep {J : List Int} {v : W4} (hl : 64 ≤ J.length) {P : Nat → Prop} (hP : ∀ i, P i → 64 ≤ i) : ∀ c ∈ pendW J nmJn 0 (sealB v), ∀ k ch, (HS k v ∧ Fix P J k) → (HS (Pl.made k c ch) v ∧ Fix P J (Pl.made k c ch)) := by
  intro c hc k ch ⟨h1, h2⟩
  obtain ⟨e0, e1⟩ := pend_head hl hc
  refine ⟨hs_made ⟨fun q => by omega, fun _ => e1⟩ ch h1, fix_made ch (fun q => by omega) (fun _ i hp _ => ?_) h2⟩
  have := hP i hp
  rw [e0]
  right
  show 0 * 64 + 64 ≤ i
  omega
end Go.Proofs.Ytegcbdfilkecpaa
/- The journal in plain Lean: recovery as a whole, on a disk that may fall. -/
namespace Go.Proofs.Ytegcbdfilkecpaa

theorem fi_empty {p : Pl} {s : ByteArray} {I : List Int → Prop} (h0 : chg p s = []) (h : I (p.kept s)) : FI p s I := ⟨h, fun c hc hn => by
  have : c ∈ chg p s := List.mem_filter.2 ⟨hc, by simpa using hn⟩
  rw [h0] at this
  cases this⟩
theorem Fix.trans {P : Nat → Prop} {o D E : List Int} (h1 : Fix P o D) (h2 : Fix P D E) : Fix P o E := fun i hp hi => (h2 i hp (h1.lt hp hi)).trans (h1 i hp hi)
theorem Fix.refl (P : Nat → Prop) (o : List Int) : Fix P o o := fun _ _ _ => rfl
def body : Nat → Prop := fun i => 64 ≤ i
theorem body_wr (J : List Int) (w : W4) : Fix body J (wrL J 0 (sealB w)) := fix_wrL (fun i hi _ => .inr (by have := seal_len w; have : 64 ≤ i := hi; omega)) (Fix.refl _ _)
/-- recovery: fallen and still hot, or hot or cold with the database final; or done -/
theorem run_rec {p : Pl} (h : Pre p) (v : W4) (s : Nat) (hs : s ≤ 15) (hvb : v.b = (s : Int)) (l : List Pg) (hl : ∀ x ∈ l, 1 ≤ x.n ∧ x.n ≤ 15 ∧ x.b.length = 256) (o : List Int)
    (hj : HS (p.seen nmJn) v) (hjk : FI p nmJn fun J => HS J v ∧ Fix body (p.seen nmJn) J) (hd : Fix (Prot l s) o (p.seen nmDb)) (hdk : FI p nmDb (Fix (Prot l s) o)) :
    ((p.runS (Pl.recS v l)).2 = 7 ∧ Fell (p.runS (Pl.recS v l)).1 ∧
      ((FO (p.runS (Pl.recS v l)).1 nmJn (fun J => HS J v ∧ Fix body (p.seen nmJn) J) ∧ FO (p.runS (Pl.recS v l)).1 nmDb (Fix (Prot l s) o)) ∨
       (FO (p.runS (Pl.recS v l)).1 nmJn (fun J => (HS J v ∨ HS J ⟨0, 0, 0, 0⟩) ∧ Fix body (p.seen nmJn) J) ∧ FO (p.runS (Pl.recS v l)).1 nmDb (fun D => D = sizedF (seenW (p.seen nmDb) (homeW l)) (s * 256))))) ∨
    ((p.runS (Pl.recS v l)).2 = 0 ∧ Pre (p.runS (Pl.recS v l)).1 ∧ (p.runS (Pl.recS v l)).1.seen nmDb = sizedF (seenW (p.seen nmDb) (homeW l)) (s * 256) ∧ HW ((p.runS (Pl.recS v l)).1.seen nmJn) ⟨0, 0, 0, 0⟩ ∧
      chg (p.runS (Pl.recS v l)).1 nmJn = [] ∧ (p.runS (Pl.recS v l)).1.kept nmJn = (p.runS (Pl.recS v l)).1.seen nmJn ∧ FI (p.runS (Pl.recS v l)).1 nmDb fun D => D = sizedF (seenW (p.seen nmDb) (homeW l)) (s * 256)) := by
  unfold Pl.recS
  rw [hvb, runS_append]
  rcases run_head h v _ _ hjk hdk (reseal_keep (hs_len hj) (fun i hi => hi)) with ⟨z0, z1, z2, z3⟩ | ⟨z0, z1, z2, z3, z4, z5⟩
  · rw [if_neg (by rw [z0]; decide)]
    exact .inl ⟨z0, z1, .inl ⟨z2.fo, z3.fo⟩⟩
  · rw [if_pos z0]
    generalize (p.runS (headS nmJn v)).1 = q1 at z1 z2 z3 z4 z5 ⊢
    have sd : q1.seen nmDb = p.seen nmDb := by rw [z2, upd_other _ _ nm_ne]
    have sj : q1.seen nmJn = wrL (p.seen nmJn) 0 (sealB v) := by rw [z2, upd_same]
    have hw1 := wr_head (p.seen nmJn) v
    have hj1 : FI q1 nmJn fun J => HS J v ∧ Fix body (p.seen nmJn) J := fi_empty z3 (by rw [z4]; exact ⟨hw_hs hw1, body_wr _ _⟩)
    rw [runS_append]
    rcases run_put z1 s hs l hl (P := Prot l s) (o := o) (fun x hx i hp _ e => hp.2 x hx e) (fun i hp _ => by have := hp.1; omega) _ z5 hj1 (by rw [sd]; exact hd) with ⟨y0, y1, y2, y3⟩ | ⟨y0, y1, y2, y3, y4, y5, y6, y7⟩
    · rw [if_neg (by rw [y0]; decide)]
      exact .inl ⟨y0, y1, .inl ⟨y3.fo, y2.fo⟩⟩
    · rw [if_pos y0]
      generalize (q1.runS (homeS (s : Int) l)).1 = q2 at y1 y2 y3 y4 y5 y6 y7 ⊢
      rw [sd] at y2 y4
      have kj : q2.kept nmJn = wrL (p.seen nmJn) 0 (sealB v) := y7.trans z4
      have sj2 : q2.seen nmJn = q2.kept nmJn := by rw [y2, upd_other _ _ nm_ne.symm, sj, kj]
      have sd2 : q2.seen nmDb = sizedF (seenW (p.seen nmDb) (homeW l)) (s * 256) := by rw [y2, upd_same]
      have hd2 : FI q2 nmDb fun D => D = sizedF (seenW (p.seen nmDb) (homeW l)) (s * 256) := fi_empty y3 y4
      rcases run_head2 y1 v ⟨0, 0, 0, 0⟩ _ (by rw [kj]; exact hw1) (y6 z3) sj2 hd2 (P := body) (fun i hi => hi) with ⟨x0, x1, x2, x3⟩ | ⟨x0, x1, x2, x3, x4, x5⟩
      · exact .inl ⟨x0, x1, .inr ⟨x2.mono (fun r hr => ⟨hr.1, ((body_wr (p.seen nmJn) v).trans (by rw [← kj]; exact hr.2.1))⟩), x3.fo⟩⟩
      · refine .inr ⟨x0, x1, by rw [x2, upd_other _ _ nm_ne]; exact sd2, by rw [x2, upd_same]; exact wr_head _ _, x3, by rw [x4, x2, upd_same], x5⟩
end Go.Proofs.Ytegcbdfilkecpaa
/- The journal in plain Lean: old pages put home bring the old database back. -/
namespace Go.Proofs.Ytegcbdfilkecpaa

theorem seenW_fix {o : List Int} : ∀ (l : List Pg) {z : List Int} {P : Nat → Prop}, (∀ x ∈ l, 1 ≤ x.n ∧ x.n ≤ 15 ∧ x.b.length = 256) → (∀ x ∈ l, ∀ j, j < 256 → x.b[j]? = o[((x.n - 1) * 256).toNat + j]?) → Fix P o z →
    Fix (fun i => P i ∨ ∃ x ∈ l, x.n = ((i / 256 : Nat) : Int) + 1) o (seenW z (homeW l))
  | [], z, P, _, _, h => fun i hp hi => by
    rcases hp with q | ⟨x, hx, _⟩
    · exact h i q hi
    · cases hx
  | x :: r, z, P, hl, hb, h => by
    obtain ⟨h1, h2, h3⟩ := hl x (List.mem_cons_self ..)
    have hbx := hb x (List.mem_cons_self ..)
    have hs : Fix (fun i => P i ∨ x.n = ((i / 256 : Nat) : Int) + 1) o (wrL z ((x.n - 1) * 256).toNat x.b) := fun i hp hi => by
      by_cases c : ((x.n - 1) * 256).toNat ≤ i ∧ i < ((x.n - 1) * 256).toNat + x.b.length
      · rw [get_wrL (.inr c), if_pos c, hbx _ (by omega), show ((x.n - 1) * 256).toNat + (i - ((x.n - 1) * 256).toNat) = i by omega]
      · rcases hp with q | q
        · rw [get_wrL (.inl (h.lt q hi)), if_neg c]
          exact h i q hi
        · exact absurd ⟨by omega, by omega⟩ c
    have ih := seenW_fix r (fun y hy => hl y (List.mem_cons_of_mem _ hy)) (fun y hy => hb y (List.mem_cons_of_mem _ hy)) hs
    intro i hp hi
    refine ih i ?_ hi
    rcases hp with q | ⟨y, hy, e⟩
    · exact .inl (.inl q)
    · rcases List.mem_cons.1 hy with z | z
      · exact .inl (.inr (by rw [← z]; exact e))
      · exact .inr ⟨y, z, e⟩
/-- the database behind recovery is the old one -/
theorem final_old {o z : List Int} {l : List Pg} {s : Nat} (ho : o.length = s * 256) (hl : ∀ x ∈ l, 1 ≤ x.n ∧ x.n ≤ 15 ∧ x.b.length = 256) (hb : ∀ x ∈ l, ∀ j, j < 256 → x.b[j]? = o[((x.n - 1) * 256).toNat + j]?) (h : Fix (Prot l s) o z) :
    sizedF (seenW z (homeW l)) (s * 256) = o := by
  have hf := seenW_fix l hl hb h
  have hall : ∀ i, i < o.length → (seenW z (homeW l))[i]? = o[i]? := fun i hi => hf i (by
    by_cases q : ∃ x ∈ l, x.n = ((i / 256 : Nat) : Int) + 1
    · exact .inr q
    · exact .inl ⟨by omega, fun x hx e => q ⟨x, hx, e⟩⟩) hi
  refine List.ext_getElem? (fun i => ?_)
  by_cases hi : i < o.length
  · have h1 := hall i hi
    have h2 : i < (seenW z (homeW l)).length := by
      rw [List.getElem?_eq_getElem hi] at h1
      exact (List.getElem?_eq_some_iff.1 h1).1
    rw [get_sized h2 (by omega)]
    exact h1
  · rw [List.getElem?_eq_none (by rw [sizedF_len]; omega), List.getElem?_eq_none (by omega)]
end Go.Proofs.Ytegcbdfilkecpaa
/- The journal in plain Lean on a disk that does not crash: a commit is done whole or not at all; condition: at most 2000 pages. -/
namespace Go.Proofs.Ytegcbdfilkecpaa
open Go

/-- what pages are behind a list of changed ones -/
def pgsF : (Nat → List Int) → List Pg → Nat → List Int
  | f, [] => f
  | f, x :: r => pgsF (fun n => if (n : Int) = x.n then x.b else f n) r
theorem pgsF_congr : ∀ (l : List Pg) (f g : Nat → List Int) (n : Nat), f n = g n → pgsF f l n = pgsF g l n
  | [], _, _, _, h => h
  | x :: r, f, g, n, h => pgsF_congr r _ _ n (by
    show (if (n : Int) = x.n then x.b else f n) = (if (n : Int) = x.n then x.b else g n)
    rw [h])
theorem pgsF_not : ∀ (l : List Pg) (f : Nat → List Int) (n : Nat), (∀ x ∈ l, x.n ≠ (n : Int)) → pgsF f l n = f n
  | [], _, _, _ => rfl
  | x :: r, f, n, h => by
    have h1 := pgsF_not r (fun n => if (n : Int) = x.n then x.b else f n) n (fun y hy => h y (List.mem_cons_of_mem _ hy))
    have h2 := h x (List.mem_cons_self ..)
    show pgsF _ r n = f n
    rw [h1, if_neg (fun e => h2 e.symm)]
theorem pgsF_const : ∀ (l : List Pg) (f : Nat → List Int) (n : Nat) (v : List Int), (∀ x ∈ l, x.n = (n : Int) → x.b = v) → ((∃ x ∈ l, x.n = (n : Int)) ∨ f n = v) → pgsF f l n = v
  | [], _, _, _, _, h => by
    rcases h with ⟨x, hx, _⟩ | h
    · cases hx
    · exact h
  | x :: r, f, n, v, h, ho => by
    refine pgsF_const r _ n v (fun y hy => h y (List.mem_cons_of_mem _ hy)) ?_
    by_cases hx : x.n = (n : Int)
    · right
      show (if (n : Int) = x.n then x.b else f n) = v
      rw [if_pos hx.symm]
      exact h x (List.mem_cons_self ..) hx
    · rcases ho with ⟨y, hy, hyn⟩ | hf
      · rcases List.mem_cons.1 hy with rfl | hy
        · exact absurd hyn hx
        · exact .inl ⟨y, hy, hyn⟩
      · right
        show (if (n : Int) = x.n then x.b else f n) = v
        rw [if_neg (fun e => hx e.symm)]
        exact hf
theorem endPg_ge : ∀ (l : List Pg) (s : Nat), s ≤ endPg s l
  | [], s => Nat.le_refl _
  | x :: r, s => Nat.le_trans (Nat.le_max_left _ _) (endPg_ge r _)
theorem endPg_in : ∀ (l : List Pg) (s : Nat), (∀ x ∈ l, x.n ≤ (s : Int)) → endPg s l = s
  | [], _, _ => rfl
  | x :: r, s, h => by
    have h1 := h x (List.mem_cons_self ..)
    have e : max s x.n.toNat = s := by omega
    show endPg (max s x.n.toNat) r = s
    rw [e]
    exact endPg_in r s (fun y hy => h y (List.mem_cons_of_mem _ hy))
theorem seq_fit (count : Int) : ∀ (l : List Pg) (last : Int) (s : Nat), chainPg count last l = true → last ≤ count → 0 ≤ last → last ≤ s → count - s ≤ above s l → SeqPg s l
  | [], _, _, _, _, _, _, _ => trivial
  | x :: r, last, s, hc, hl, h0, hls, ha => by
    rw [chainPg_cons, Bool.and_eq_true, decide_eq_true_iff] at hc
    obtain ⟨h1, h2⟩ := chain_len count r x.n hc.2 hc.1.2
    rw [above_cons] at ha
    by_cases hx : (s : Int) < x.n
    · rw [if_pos hx] at ha
      have hle := above_le (s : Int) r
      have hxs : x.n = (s : Int) + 1 := by omega
      refine ⟨by omega, ?_⟩
      have e : max s x.n.toNat = s + 1 := by omega
      rw [e]
      have hab : above ((s + 1 : Nat) : Int) r = r.length := by
        unfold above
        rw [List.countP_eq_length]
        intro y hy
        have := h2 y hy
        rw [decide_eq_true_iff]
        omega
      exact seq_fit count r x.n (s + 1) hc.2 hc.1.2 (by omega) (by omega) (by rw [hab]; omega)
    · rw [if_neg hx] at ha
      refine ⟨by omega, ?_⟩
      have e : max s x.n.toNat = s := by omega
      rw [e]
      exact seq_fit count r x.n s hc.2 hc.1.2 (by omega) (by omega) (by omega)
theorem end_fit (count : Int) : ∀ (l : List Pg) (last : Int) (s : Nat), chainPg count last l = true → last ≤ count → 0 ≤ last → last ≤ s → count - s ≤ above s l → count ≤ endPg s l ∧ (endPg s l : Int) ≤ max (s : Int) count
  | [], last, s, _, _, _, _, ha => by
    have e : above (s : Int) [] = 0 := rfl
    rw [e] at ha
    show count ≤ (s : Int) ∧ (s : Int) ≤ max (s : Int) count
    omega
  | x :: r, last, s, hc, hl, h0, hls, ha => by
    rw [chainPg_cons, Bool.and_eq_true, decide_eq_true_iff] at hc
    obtain ⟨h1, h2⟩ := chain_len count r x.n hc.2 hc.1.2
    rw [above_cons] at ha
    show count ≤ (endPg (max s x.n.toNat) r : Int) ∧ (endPg (max s x.n.toNat) r : Int) ≤ max (s : Int) count
    by_cases hx : (s : Int) < x.n
    · rw [if_pos hx] at ha
      have hle := above_le (s : Int) r
      have hxs : x.n = (s : Int) + 1 := by omega
      have e : max s x.n.toNat = s + 1 := by omega
      rw [e]
      have hab : above ((s + 1 : Nat) : Int) r = r.length := by
        unfold above
        rw [List.countP_eq_length]
        intro y hy
        have := h2 y hy
        rw [decide_eq_true_iff]
        omega
      have := end_fit count r x.n (s + 1) hc.2 hc.1.2 (by omega) (by omega) (by rw [hab]; omega)
      omega
    · rw [if_neg hx] at ha
      have e : max s x.n.toNat = s := by omega
      rw [e]
      exact end_fit count r x.n s hc.2 hc.1.2 (by omega) (by omega) (by omega)
/-- a page that is among the changed ones does not depend on what was there -/
theorem pgsF_some : ∀ (l : List Pg) (f g : Nat → List Int) (n : Nat), (∃ x ∈ l, x.n = (n : Int)) → pgsF f l n = pgsF g l n
  | [], _, _, _, ⟨x, hx, _⟩ => by cases hx
  | x :: r, f, g, n, h => by
    by_cases hx : (n : Int) = x.n
    · exact pgsF_congr r _ _ n (by
        show (if (n : Int) = x.n then x.b else f n) = (if (n : Int) = x.n then x.b else g n)
        rw [if_pos hx, if_pos hx])
    · refine pgsF_some r _ _ n ?_
      obtain ⟨y, hy, hyn⟩ := h
      rcases List.mem_cons.1 hy with rfl | hy
      · exact absurd hyn.symm hx
      · exact ⟨y, hy, hyn⟩
/-- what is behind the end was written -/
theorem end_has : ∀ (l : List Pg) (s n : Nat), SeqPg s l → s < n → n ≤ endPg s l → ∃ x ∈ l, x.n = (n : Int)
  | [], s, n, _, h1, h2 => by
    have : n ≤ s := h2
    omega
  | x :: r, s, n, hs, h1, h2 => by
    have h2' : n ≤ endPg (max s x.n.toNat) r := h2
    obtain ⟨hs1, hs2⟩ := hs
    by_cases hx : max s x.n.toNat < n
    · obtain ⟨y, hy, hyn⟩ := end_has r (max s x.n.toNat) n hs2 hx h2'
      exact ⟨y, List.mem_cons_of_mem _ hy, hyn⟩
    · exact ⟨x, List.mem_cons_self .., by omega⟩
theorem seq_take : ∀ (l : List Pg) (s k : Nat), SeqPg s l → SeqPg s (l.take k)
  | [], _, _, _ => by simp [SeqPg]
  | x :: r, s, 0, _ => trivial
  | x :: r, s, k + 1, h => ⟨h.1, seq_take r _ k h.2⟩
/-- pages written home, as far as there is room -/
theorem home_calm : ∀ (l : List Pg) (p : Pl) (s : Nat), Calm p → Pgd (p.seen nmDb) s → SeqPg s l → (∀ x ∈ l, (1 ≤ x.n ∧ x.n ≤ 4096) ∧ x.b.length = 256) →
    ∃ k, k ≤ l.length ∧ (((p.runS (homeW l)).2 = 0 ∧ k = l.length) ∨ ((p.runS (homeW l)).2 = 5 ∧ k < l.length ∧ ∃ x ∈ l, (s : Int) < x.n)) ∧ Calm (p.runS (homeW l)).1 ∧ (p.runS (homeW l)).1.seen nmJn = p.seen nmJn ∧
      Pgd ((p.runS (homeW l)).1.seen nmDb) (endPg s (l.take k)) ∧ ∀ n, 1 ≤ n → n ≤ endPg s (l.take k) → pageOf ((p.runS (homeW l)).1.seen nmDb) n = pgsF (pageOf (p.seen nmDb)) (l.take k) n := by
  intro l
  induction l with
  | nil =>
    intro p s hc hp _ _
    exact ⟨0, Nat.le_refl _, .inl ⟨rfl, rfl⟩, hc, rfl, hp, fun n _ _ => rfl⟩
  | cons x r ih =>
    intro p s hc hp hs hx
    obtain ⟨⟨h1, h2⟩, hb⟩ := hx x (List.mem_cons_self ..)
    obtain ⟨hs1, hs2⟩ := hs
    obtain ⟨m, hm⟩ : ∃ m : Nat, x.n = (m : Int) + 1 := ⟨(x.n - 1).toNat, by omega⟩
    have ha : (x.n - 1) * 256 = ((m * 256 : Nat) : Int) := by omega
    have hne : x.b ≠ [] := fun e => by rw [e] at hb; cases hb
    have he : max s x.n.toNat = max s (m + 1) := by omega
    have hrun : p.runS (homeW (x :: r)) = if p.writeE nmDb ((m * 256 : Nat) : Int) x.b = 0 then (p.write nmDb ((m * 256 : Nat) : Int) x.b).runS (homeW r) else (p.write nmDb ((m * 256 : Nat) : Int) x.b, p.writeE nmDb ((m * 256 : Nat) : Int) x.b) := by
      unfold homeW
      rw [List.map_cons, runS_cons, stE0, stP0, ha]
    rcases calm_write hc nmDb (.inl rfl) (m * 256) x.b hne (by omega) with ⟨e5, ep, hlt⟩ | ⟨e0, hq, hsn, hrm⟩
    · rw [hrun, e5, if_neg (by decide), ep]
      refine ⟨0, Nat.zero_le _, .inr ⟨rfl, by simp, x, List.mem_cons_self .., ?_⟩, hc, rfl, hp, fun n _ _ => rfl⟩
      have hp' : (p.seen nmDb).length = s * 256 := hp
      rw [hp', hb] at hlt
      omega
    · rw [hrun, if_pos e0]
      obtain ⟨hP, hpg⟩ := wr_page hp hb (show m ≤ s by omega)
      have hdb : (p.write nmDb ((m * 256 : Nat) : Int) x.b).seen nmDb = wrL (p.seen nmDb) (m * 256) x.b := by rw [hsn, upd_same]
      have hjn : (p.write nmDb ((m * 256 : Nat) : Int) x.b).seen nmJn = p.seen nmJn := by rw [hsn, upd_other _ _ nm_ne.symm]
      generalize p.write nmDb ((m * 256 : Nat) : Int) x.b = q at hq hdb hjn ⊢
      rw [he] at hs2
      obtain ⟨k, hk, hres, hc2, hj2, hp2, hpg2⟩ := ih q (max s (m + 1)) hq (by rw [hdb]; exact hP) hs2 (fun y hy => hx y (List.mem_cons_of_mem _ hy))
      refine ⟨k + 1, by simp; exact hk, ?_, hc2, hj2.trans hjn, ?_, fun n hn1 hn2 => ?_⟩
      · rcases hres with ⟨a, b⟩ | ⟨a, b, y, hy, hyn⟩
        · exact .inl ⟨a, by rw [b]; rfl⟩
        · exact .inr ⟨a, by simp; exact b, y, List.mem_cons_of_mem _ hy, by omega⟩
      · show Pgd _ (endPg (max s x.n.toNat) (r.take k))
        rw [he]
        exact hp2
      · have hn2' : n ≤ endPg (max s (m + 1)) (r.take k) := by
          have h : n ≤ endPg (max s x.n.toNat) (r.take k) := hn2
          rwa [he] at h
        rw [hpg2 n hn1 hn2']
        show pgsF (pageOf (q.seen nmDb)) (r.take k) n = pgsF (fun n => if (n : Int) = x.n then x.b else pageOf (p.seen nmDb) n) (r.take k) n
        rcases Nat.lt_or_ge (max s (m + 1)) n with hbig | hsm
        · -- a page that comes only later
          obtain ⟨y, hy, hyn⟩ := end_has (r.take k) (max s (m + 1)) n (seq_take r _ k hs2) hbig hn2'
          exact pgsF_some (r.take k) _ _ n ⟨y, hy, hyn⟩
        · refine pgsF_congr _ _ _ n ?_
          rw [hdb, hpg n hn1 hsm]
          by_cases hnm : n = m + 1
          · rw [if_pos hnm, if_pos (by omega)]
          · rw [if_neg hnm, if_neg (by omega)]
end Go.Proofs.Ytegcbdfilkecpaa
/- The journal in plain Lean on a disk that does not crash: what a commit answers and leaves; condition: at most 2000 pages. -/
namespace Go.Proofs.Ytegcbdfilkecpaa
open Go

theorem seal_ne (w : W4) : sealB w ≠ [] := fun e => by
  have := seal_len w
  rw [e] at this
  cases this
/-- a head sealed and synced -/
theorem head_calm (p : Pl) (hc : Calm p) (w : W4) :
    ((p.runS (headS nmJn w)).2 = 5 ∧ (p.runS (headS nmJn w)).1 = p ∧ (p.seen nmJn).length < 64) ∨
    ((p.runS (headS nmJn w)).2 = 0 ∧ Calm (p.runS (headS nmJn w)).1 ∧ (p.runS (headS nmJn w)).1.seen nmDb = p.seen nmDb ∧ (p.runS (headS nmJn w)).1.seen nmJn = sealB w ++ (p.seen nmJn).drop 64) := by
  have hrun : p.runS (headS nmJn w) = if p.writeE nmJn ((0 : Nat) : Int) (sealB w) = 0 then (p.write nmJn ((0 : Nat) : Int) (sealB w)).runS [⟨2, nmJn, 0, []⟩] else (p.write nmJn ((0 : Nat) : Int) (sealB w), p.writeE nmJn ((0 : Nat) : Int) (sealB w)) := by
    unfold headS
    rw [runS_cons, stE0, stP0]
    rfl
  rcases calm_write hc nmJn (.inr rfl) 0 (sealB w) (seal_ne w) (by rw [seal_len]; omega) with ⟨e5, ep, hlt⟩ | ⟨e0, hq, hsn, _⟩
  · left
    rw [hrun, e5, if_neg (by decide), ep]
    exact ⟨rfl, rfl, by rw [seal_len] at hlt; omega⟩
  · right
    rw [hrun, if_pos e0]
    have hdb : (p.write nmJn ((0 : Nat) : Int) (sealB w)).seen nmDb = p.seen nmDb := by rw [hsn, upd_other _ _ nm_ne]
    have hjn : (p.write nmJn ((0 : Nat) : Int) (sealB w)).seen nmJn = sealB w ++ (p.seen nmJn).drop 64 := by
      rw [hsn, upd_same]
      have := wrL_app [] (p.seen nmJn) (sealB w)
      simpa [seal_len] using this
    generalize p.write nmJn ((0 : Nat) : Int) (sealB w) = q at hq hdb hjn ⊢
    obtain ⟨s0, s1, s2, _⟩ := calm_sync hq nmJn
    rw [runS_cons, stE2, stP2, if_pos s0, runS_nil]
    exact ⟨rfl, s1, by rw [s2]; exact hdb, by rw [s2]; exact hjn⟩
/-- pages laid aside, as far as there is room -/
theorem aside_calm (H : List Int) (hH : H.length = 64) : ∀ (l pre : List Pg) (p : Pl) (T : List Int), Calm p → p.seen nmJn = H ++ (recsL pre ++ T) → (∀ x ∈ pre, x.b.length = 256) → (∀ x ∈ l, x.b.length = 256) → pre.length + l.length ≤ 3000 →
    ((p.runS (asideW pre.length l)).2 = 0 ∧ Calm (p.runS (asideW pre.length l)).1 ∧ (p.runS (asideW pre.length l)).1.seen nmDb = p.seen nmDb ∧ ∃ T', (p.runS (asideW pre.length l)).1.seen nmJn = H ++ (recsL (pre ++ l) ++ T')) ∨
    ((p.runS (asideW pre.length l)).2 = 5 ∧ Calm (p.runS (asideW pre.length l)).1 ∧ (p.runS (asideW pre.length l)).1.seen nmDb = p.seen nmDb ∧ ∃ R, (p.runS (asideW pre.length l)).1.seen nmJn = H ++ R) := by
  intro l
  induction l with
  | nil =>
    intro pre p T hc hj _ _ _
    left
    refine ⟨rfl, hc, rfl, T, ?_⟩
    rw [List.append_nil]
    exact hj
  | cons x r ih =>
    intro pre p T hc hj hp hl hn
    have hx := hl x (List.mem_cons_self ..)
    have hrl := rec_len hx
    have hne : recB x ≠ [] := fun e => by rw [e] at hrl; cases hrl
    have hpl := recsL_len hp
    rw [List.length_cons] at hn
    have ha : 64 + 320 * (pre.length : Int) = (((H ++ recsL pre).length : Nat) : Int) := by rw [List.length_append, hH, hpl]; omega
    have hrun : p.runS (asideW pre.length (x :: r)) = if p.writeE nmJn (((H ++ recsL pre).length : Nat) : Int) (recB x) = 0 then (p.write nmJn (((H ++ recsL pre).length : Nat) : Int) (recB x)).runS (asideW (pre.length + 1) r) else (p.write nmJn (((H ++ recsL pre).length : Nat) : Int) (recB x), p.writeE nmJn (((H ++ recsL pre).length : Nat) : Int) (recB x)) := by
      show p.runS (⟨0, nmJn, 64 + 320 * (pre.length : Int), recB x⟩ :: asideW (pre.length + 1) r) = _
      rw [runS_cons, stE0, stP0, ha]
    rcases calm_write hc nmJn (.inr rfl) (H ++ recsL pre).length (recB x) hne (by rw [hrl, List.length_append, hH, hpl]; omega) with ⟨e5, ep, _⟩ | ⟨e0, hq, hsn, _⟩
    · right
      rw [hrun, e5, if_neg (by decide), ep]
      exact ⟨rfl, hc, rfl, _, hj⟩
    · rw [hrun, if_pos e0]
      have hdb : (p.write nmJn (((H ++ recsL pre).length : Nat) : Int) (recB x)).seen nmDb = p.seen nmDb := by rw [hsn, upd_other _ _ nm_ne]
      have hjn : (p.write nmJn (((H ++ recsL pre).length : Nat) : Int) (recB x)).seen nmJn = H ++ (recsL (pre ++ [x]) ++ T.drop 320) := by
        rw [hsn, upd_same, hj, ← List.append_assoc, wrL_app, hrl]
        unfold recsL
        rw [List.flatMap_append, List.flatMap_cons, List.flatMap_nil]
        simp only [List.append_assoc, List.append_nil]
      generalize p.write nmJn (((H ++ recsL pre).length : Nat) : Int) (recB x) = q at hq hdb hjn ⊢
      have := ih (pre ++ [x]) q (T.drop 320) hq hjn (fun y hy => by
        rcases List.mem_append.1 hy with q | q
        · exact hp y q
        · rw [List.mem_singleton.1 q]; exact hx) (fun y hy => hl y (List.mem_cons_of_mem _ hy)) (by rw [List.length_append]; show pre.length + 1 + r.length ≤ 3000; omega)
      rw [List.length_append, show [x].length = 1 from rfl, hdb, List.append_assoc] at this
      exact this
theorem w4zero : W4Ok ⟨0, 0, 0, 0⟩ := by constructor <;> constructor <;> decide
/-- what holds between two commits -/
structure FullI (p : Pl) (s : Nat) : Prop where
  calm : Calm p
  pgs : Pgd (p.seen nmDb) s
  cold : (p.jhead).a = 0
  wok : W4Ok p.jhead
theorem cold_hot {p : Pl} {s : Nat} (h : FullI p s) : p.jhot = false := by
  unfold Pl.jhot
  rw [h.cold]
  simp
theorem hot_of {p : Pl} (hd : p.down = false) (h : (p.jhead).a ≠ 0) : p.jhot = true := by
  unfold Pl.jhot
  rw [hd, decide_eq_true h]
  rfl
theorem head_of {p : Pl} {w : W4} (hw : W4Ok w) {t : List Int} (h : p.seen nmJn = sealB w ++ t) : p.jhead = w := by
  unfold Pl.jhead
  rw [h]
  exact says_seal w hw t
theorem count_of {p : Pl} {s : Nat} (hd : p.down = false) (h : Pgd (p.seen nmDb) s) : p.jcount = s := by
  unfold Pl.jcount Pl.len
  rw [hd]
  have h' : (p.seen nmDb).length = s * 256 := h
  simp only [Bool.false_eq_true, if_false]
  omega
/-- pages home, a count, a sync -/
theorem homeS_calm (l : List Pg) (p : Pl) (s : Nat) (count : Nat) (hc : Calm p) (hp : Pgd (p.seen nmDb) s) (hs : SeqPg s l) (hx : ∀ x ∈ l, (1 ≤ x.n ∧ x.n ≤ 4096) ∧ x.b.length = 256) (hcnt : count ≤ endPg s l) :
    ((p.runS (homeS count l)).2 = 0 ∧ Calm (p.runS (homeS count l)).1 ∧ (p.runS (homeS count l)).1.seen nmJn = p.seen nmJn ∧ Pgd ((p.runS (homeS count l)).1.seen nmDb) count ∧ ∀ n, 1 ≤ n → n ≤ count → pageOf ((p.runS (homeS count l)).1.seen nmDb) n = pgsF (pageOf (p.seen nmDb)) l n) ∨
    ((p.runS (homeS count l)).2 = 5 ∧ (∃ x ∈ l, (s : Int) < x.n) ∧ Calm (p.runS (homeS count l)).1 ∧ (p.runS (homeS count l)).1.seen nmJn = p.seen nmJn ∧ ∃ k s', s ≤ s' ∧ Pgd ((p.runS (homeS count l)).1.seen nmDb) s' ∧ ∀ n, 1 ≤ n → n ≤ s' → pageOf ((p.runS (homeS count l)).1.seen nmDb) n = pgsF (pageOf (p.seen nmDb)) (l.take k) n) := by
  obtain ⟨k, hk, hres, hc2, hj2, hp2, hpg2⟩ := home_calm l p s hc hp hs hx
  unfold homeS
  rw [runS_append]
  rcases hres with ⟨a, b⟩ | ⟨a, b, hgrow⟩
  · left
    rw [if_pos a]
    subst b
    rw [List.take_length] at hp2 hpg2
    generalize (p.runS (homeW l)).1 = q at hc2 hj2 hp2 hpg2 ⊢
    have hp2' : (q.seen nmDb).length = endPg s l * 256 := hp2
    have hle : count * 256 ≤ endPg s l * 256 := Nat.mul_le_mul_right _ hcnt
    obtain ⟨t0, t1, t2, _⟩ := calm_trunc hc2 nmDb (.inl rfl) (count * 256) (by omega)
    obtain ⟨s0, s1, s2, _⟩ := calm_sync t1 nmDb
    have ec : (count : Int) * 256 = ((count * 256 : Nat) : Int) := by omega
    rw [ec, runS_cons, stE1, stP1, if_pos t0, runS_cons, stE2, stP2, if_pos s0, runS_nil]
    obtain ⟨c1, c2⟩ := cut_pages hp2 hcnt
    refine ⟨rfl, s1, ?_, ?_, fun n h1 h2 => ?_⟩
    · rw [s2, t2, upd_other _ _ nm_ne.symm]; exact hj2
    · rw [s2, t2, upd_same]; exact c1
    · rw [s2, t2, upd_same, c2 n h1 h2]; exact hpg2 n h1 (by omega)
  · right
    rw [if_neg (by rw [a]; decide)]
    exact ⟨a, hgrow, hc2, hj2, k, endPg s (l.take k), endPg_ge _ _, hp2, hpg2⟩
/-- the records of a hot journal, taken back -/
theorem back_calm (p : Pl) (s s' : Nat) (ao : List Pg) (T : List Int) (db : List Int) (hc : Calm p) (hs4 : s ≤ 4096) (hj : p.seen nmJn = sealB ⟨ao.length + 1, s, 0, 0⟩ ++ (recsL ao ++ T)) (hp : Pgd (p.seen nmDb) s') (hss : s ≤ s') (hdb : Pgd db s)
    (hch : chainPg s 0 ao = true) (hx : ∀ x ∈ ao, x.b.length = 256) (hao : ao.length ≤ 3000) (hpg : ∀ n, 1 ≤ n → n ≤ s → pgsF (pageOf (p.seen nmDb)) ao n = pageOf db n) :
    p.jrecover.2.2 = 0 ∧ FullI p.jrecover.1 s ∧ p.jrecover.1.seen nmDb = db := by
  have hw1 : W4Ok ⟨ao.length + 1, s, 0, 0⟩ := ⟨by show (0 : Int) ≤ (ao.length : Int) + 1 ∧ (ao.length : Int) + 1 < _; omega, by show (0 : Int) ≤ (s : Int) ∧ (s : Int) < _; omega, by show (0 : Int) ≤ 0 ∧ (0 : Int) < 4294967296; omega, by show (0 : Int) ≤ 0 ∧ (0 : Int) < 4294967296; omega⟩
  have hh : p.jhead = ⟨ao.length + 1, s, 0, 0⟩ := head_of hw1 hj
  have hhot : p.jhot = true := hot_of hc.up (by rw [hh]; show (ao.length : Int) + 1 ≠ 0; omega)
  have hrec : recordsPg (p.seen nmJn) p.jhead = some ao := by
    rw [hh]
    unfold recordsPg
    rw [if_neg (by show ¬ (4096 < (ao.length : Int) + 1 - 1 ∨ 4096 < (s : Int) ∨ (0 : Int) ≠ 0 ∨ (0 : Int) ≠ 0); omega)]
    have e1 : ((ao.length : Int) + 1 - 1).toNat = ao.length := by omega
    have := recs_back (sealB ⟨ao.length + 1, s, 0, 0⟩) (seal_len _) s T ao [] 0 (by simp) hx hch (Int.le_refl _) (by omega)
    rw [hj, e1]
    exact this
  have hchn := chain_len s ao 0 hch (by omega)
  have hrun : p.jrecover = ((p.runS (Pl.recS p.jhead ao)).1, decide ((p.runS (Pl.recS p.jhead ao)).2 = 0), (p.runS (Pl.recS p.jhead ao)).2) := by
    unfold Pl.jrecover
    rw [hc.up, hhot, hrec]
    rfl
  have hin : ∀ x ∈ ao, x.n ≤ (s' : Int) := fun x hx => by have := (hchn.2 x hx).2; omega
  have hseq : ∀ (l : List Pg) (t : Nat), (∀ x ∈ l, x.n ≤ (t : Int)) → SeqPg t l := by
    intro l
    induction l with
    | nil => intro t _; trivial
    | cons x r ih =>
      intro t h
      have h1 := h x (List.mem_cons_self ..)
      refine ⟨by omega, ?_⟩
      have e : max t x.n.toNat = t := by omega
      rw [e]
      exact ih t (fun y hy => h y (List.mem_cons_of_mem _ hy))
  have key : (p.runS (Pl.recS p.jhead ao)).2 = 0 ∧ FullI (p.runS (Pl.recS p.jhead ao)).1 s ∧ (p.runS (Pl.recS p.jhead ao)).1.seen nmDb = db := by
    rw [hh]
    unfold Pl.recS
    rw [runS_append]
    have hl64 : ¬ (p.seen nmJn).length < 64 := by rw [hj, List.length_append, seal_len]; omega
    rcases head_calm p hc ⟨ao.length + 1, s, 0, 0⟩ with ⟨_, _, hlt⟩ | ⟨h0, hc1, hd1, hj1⟩
    · exact absurd hlt hl64
    · rw [if_pos h0]
      generalize (p.runS (headS nmJn ⟨ao.length + 1, s, 0, 0⟩)).1 = q at hc1 hd1 hj1 ⊢
      rw [runS_append]
      have hxs : ∀ x ∈ ao, (1 ≤ x.n ∧ x.n ≤ 4096) ∧ x.b.length = 256 := fun x hx' => by have := hchn.2 x hx'; exact ⟨by omega, hx x hx'⟩
      rcases homeS_calm ao q s' s hc1 (by rw [hd1]; exact hp) (hseq ao s' hin) hxs (by rw [endPg_in ao s' hin]; exact hss) with ⟨r0, r1, r2, r3, r4⟩ | ⟨_, ⟨x, hx', hlt⟩, _⟩
      · have eb : ((⟨(ao.length : Int) + 1, s, 0, 0⟩ : W4).b) = (s : Int) := rfl
        rw [eb, if_pos r0]
        generalize (q.runS (homeS (s : Int) ao)).1 = q2 at r1 r2 r3 r4 ⊢
        have hl642 : ¬ (q2.seen nmJn).length < 64 := by rw [r2, hj1, List.length_append, seal_len]; omega
        rcases head_calm q2 r1 ⟨0, 0, 0, 0⟩ with ⟨_, _, hlt⟩ | ⟨z0, zc, zd, zj⟩
        · exact absurd hlt hl642
        · have hzh : ((q2.runS (headS nmJn ⟨0, 0, 0, 0⟩)).1).jhead = ⟨0, 0, 0, 0⟩ := head_of w4zero zj
          have hdbe : ((q2.runS (headS nmJn ⟨0, 0, 0, 0⟩)).1).seen nmDb = db := by
            rw [zd]
            refine pages_ext r3 hdb (fun n h1 h2 => ?_)
            rw [r4 n h1 h2, hd1]
            exact hpg n h1 h2
          exact ⟨z0, ⟨zc, by rw [zd]; exact r3, by rw [hzh], by rw [hzh]; exact w4zero⟩, hdbe⟩
      · have := hin x hx'
        omega
  rw [hrun]
  exact key
theorem aside_chain (db : List Int) (top : Nat) (P : Nat → Bool) : ∀ (m a : Nat) (last : Int), last < a → a + m ≤ top + 1 → chainPg top last (((List.range' a m).filter P).map fun (n : Nat) => (⟨(n : Int), pageOf db n⟩ : Pg)) = true
  | 0, _, _, _, _ => rfl
  | m + 1, a, last, h1, h2 => by
    rw [List.range'_succ, List.filter_cons]
    split
    · rw [List.map_cons, chainPg_cons, Bool.and_eq_true, decide_eq_true_iff]
      exact ⟨⟨h1, by show (a : Int) ≤ top; omega⟩, aside_chain db top P m (a + 1) a (by omega) (by omega)⟩
    · exact aside_chain db top P m (a + 1) last (by omega) (by omega)
end Go.Proofs.Ytegcbdfilkecpaa
/- The journal in plain Lean: whatever the ways back behind a crash, one of two databases is there. -/
namespace Go.Proofs.Ytegcbdfilkecpaa

/-- the records laid aside are in the journal -/
def HasR (J : List Int) (l : List Pg) : Prop := ∀ i, i < (recsL l).length → J[64 + i]? = (recsL l)[i]?
theorem HasR.fix {J J' : List Int} {l : List Pg} (h : HasR J l) (f : Fix body J J') : HasR J' l := fun i hi => by
  have h1 := h i hi
  have hlt : 64 + i < J.length := by
    rw [List.getElem?_eq_getElem hi] at h1
    exact (List.getElem?_eq_some_iff.1 h1).1
  exact (f (64 + i) (show 64 ≤ 64 + i by omega) hlt).trans h1
theorem HasR.split {J : List Int} {l : List Pg} (h : HasR J l) : ∃ T, J = J.take 64 ++ (recsL l ++ T) := by
  refine ⟨(J.drop 64).drop (recsL l).length, ?_⟩
  have e : (J.drop 64).take (recsL l).length = recsL l := by
    refine List.ext_getElem? (fun i => ?_)
    rw [List.getElem?_take]
    split
    · rename_i hi
      rw [List.getElem?_drop]
      exact h i hi
    · rename_i hi
      rw [List.getElem?_eq_none (by omega)]
  have e2 : recsL l ++ (J.drop 64).drop (recsL l).length = J.drop 64 := by
    have := List.take_append_drop (recsL l).length (J.drop 64)
    rwa [e] at this
  rw [e2, List.take_append_drop]
theorem recs_of {J : List Int} {l : List Pg} {s : Nat} (h : HasR J l) (h64 : 64 ≤ J.length) (hc : chainPg (s : Int) 0 l = true) (hb : ∀ x ∈ l, x.b.length = 256) (hl : l.length ≤ 3000) (hs : s ≤ 4096) : recordsPg J ⟨l.length + 1, s, 0, 0⟩ = some l := by
  obtain ⟨T, hT⟩ := h.split
  unfold recordsPg
  rw [if_neg (by show ¬ (4096 < (l.length : Int) + 1 - 1 ∨ 4096 < (s : Int) ∨ (0 : Int) ≠ 0 ∨ (0 : Int) ≠ 0); omega)]
  have e1 : ((l.length : Int) + 1 - 1).toNat = l.length := by omega
  have := recs_back (J.take 64) (by rw [List.length_take]; omega) s T l [] 0 (by simp) hb hc (Int.le_refl _) (by omega)
  have e2 : recsL [] = [] := rfl
  rw [e2, List.nil_append, ← hT] at this
  show recsPg J (s : Int) ((l.length : Int) + 1 - 1).toNat 0 0 = some l
  rw [e1]
  exact this
/-- one commit: the old database of s pages, the pages l laid aside, the new database -/
structure Cm (s : Nat) (l : List Pg) (o n : List Int) : Prop where
  hs : s ≤ 15
  po : o.length = s * 256
  chain : chainPg (s : Int) 0 l = true
  pg : ∀ x ∈ l, 1 ≤ x.n ∧ x.n ≤ 15 ∧ x.b.length = 256
  few : l.length ≤ 3000
  own : ∀ x ∈ l, ∀ j, j < 256 → x.b[j]? = o[((x.n - 1) * 256).toNat + j]?
  keep : Fix (Prot l s) o n
def hotW (s : Nat) (l : List Pg) : W4 := ⟨l.length + 1, s, 0, 0⟩
theorem hotW_ok {s : Nat} {l : List Pg} (hs : s ≤ 15) (hl : l.length ≤ 3000) : W4Ok (hotW s l) := ⟨by show (0 : Int) ≤ (l.length : Int) + 1 ∧ (l.length : Int) + 1 < _; omega, by show (0 : Int) ≤ (s : Int) ∧ (s : Int) < _; omega, by show (0 : Int) ≤ 0 ∧ (0 : Int) < 4294967296; omega, by show (0 : Int) ≤ 0 ∧ (0 : Int) < 4294967296; omega⟩
def ColdJ (J : List Int) : Prop := ∃ w, W4Ok w ∧ w.a = 0 ∧ Hd J w
/-- what may be there behind a crash -/
def Good (s : Nat) (l : List Pg) (o n D J : List Int) : Prop := (ColdJ J ∧ (D = o ∨ D = n)) ∨ (HS J (hotW s l) ∧ HasR J l ∧ Fix (Prot l s) o D)
def AllGood (s : Nat) (l : List Pg) (o n : List Int) (p : Pl) : Prop := ∀ D J, Out (p.kept nmDb) (chg p nmDb) D → Out (p.kept nmJn) (chg p nmJn) J → Good s l o n D J
def CrG (s : Nat) (l : List Pg) (o n : List Int) (p : Pl) : Prop := Fell p ∧ AllGood s l o n p
def ColdP (o n : List Int) (p : Pl) : Prop := Pre p ∧ ColdJ (p.seen nmJn) ∧ (p.seen nmDb = o ∨ p.seen nmDb = n)
def HotP (s : Nat) (l : List Pg) (o : List Int) (p : Pl) : Prop := Pre p ∧ HS (p.seen nmJn) (hotW s l) ∧ HasR (p.seen nmJn) l ∧ Fix (Prot l s) o (p.seen nmDb) ∧ FI p nmJn (fun J => HS J (hotW s l) ∧ Fix body (p.seen nmJn) J) ∧ FI p nmDb (Fix (Prot l s) o)
def UpG (s : Nat) (l : List Pg) (o n : List Int) (p : Pl) : Prop := ColdP o n p ∨ HotP s l o p
theorem chg_nil {p : Pl} (h : p.pd = []) (s : ByteArray) : chg p s = [] := by unfold chg; rw [h]; rfl
theorem up_again {s : Nat} {l : List Pg} {o n : List Int} {p q : Pl} (h : CrG s l o n p) (hq : Again p q) : UpG s l o n q := by
  have hp := pre_again h.1 hq
  rcases h.2 _ _ (hq.out nmDb) (hq.out nmJn) with ⟨h1, h2⟩ | ⟨h1, h2, h3⟩
  · exact .inl ⟨hp, h1, h2⟩
  · exact .inr ⟨hp, h1, h2, h3, fi_empty (chg_nil hq.pd _) (by rw [hq.kept]; exact ⟨h1, Fix.refl _ _⟩), fi_empty (chg_nil hq.pd _) (by rw [hq.kept]; exact h3)⟩
theorem says_hd {J : List Int} {w : W4} (h : Hd J w) (hw : W4Ok w) : says J = w := by
  rcases h with ⟨rfl, rfl⟩ | h
  · unfold says
    rw [if_pos (by simp)]
  · exact hs_says h hw
theorem coldJ_hot {p : Pl} (h : ColdJ (p.seen nmJn)) : p.jhot = false := by
  obtain ⟨w, h1, h2, h3⟩ := h
  unfold Pl.jhot Pl.jhead
  rw [says_hd h3 h1, h2]
  simp
theorem coldJ_zero {J : List Int} (h : HS J ⟨0, 0, 0, 0⟩) : ColdJ J := ⟨⟨0, 0, 0, 0⟩, w4zero, rfl, .inr h⟩
theorem good_of {s : Nat} {l : List Pg} {o n : List Int} {p : Pl} {RD RJ : List Int → Prop} (hd : FO p nmDb RD) (hj : FO p nmJn RJ) (h : ∀ D J, RD D → RJ J → Good s l o n D J) : AllGood s l o n p := fun D J h1 h2 => h D J (hd D h1) (hj J h2)
/-- recovery on a disk that is up -/
theorem rec_up {s : Nat} {l : List Pg} {o n : List Int} (hc : Cm s l o n) {p : Pl} (h : UpG s l o n p) :
    (p.jrecover.2.2 = 0 ∧ ColdP o n p.jrecover.1) ∨ (p.jrecover.2.2 = 7 ∧ CrG s l o n p.jrecover.1) := by
  rcases h with ⟨hp, h1, h2⟩ | ⟨hp, h1, h2, h3, h4, h5⟩
  · left
    have e : p.jrecover = (p, false, 0) := by
      unfold Pl.jrecover
      rw [hp.lv.up, coldJ_hot h1]
      rfl
    rw [e]
    exact ⟨rfl, hp, h1, h2⟩
  · have hok := hotW_ok (l := l) hc.hs hc.few
    have hh : p.jhead = hotW s l := hs_says h1 hok
    have hhot : p.jhot = true := by
      unfold Pl.jhot
      rw [hp.lv.up, hh]
      have : (hotW s l).a ≠ 0 := by show (l.length : Int) + 1 ≠ 0; omega
      simp [this]
    have hrec : recordsPg (p.seen nmJn) p.jhead = some l := by
      rw [hh]
      exact recs_of h2 (hs_len h1) hc.chain (fun x hx => (hc.pg x hx).2.2) hc.few (by have := hc.hs; omega)
    have e : p.jrecover = ((p.runS (Pl.recS (hotW s l) l)).1, decide ((p.runS (Pl.recS (hotW s l) l)).2 = 0), (p.runS (Pl.recS (hotW s l) l)).2) := by
      unfold Pl.jrecover
      rw [hp.lv.up, hhot, hrec, hh]
      rfl
    have hold := final_old hc.po hc.pg hc.own h3
    have hr := run_rec hp (hotW s l) s hc.hs rfl l hc.pg o h1 h4 h3 h5
    rw [hold] at hr
    rw [e]
    generalize p.runS (Pl.recS (hotW s l) l) = r at hr ⊢
    rcases hr with ⟨r0, r1, ⟨r2, r3⟩ | ⟨r2, r3⟩⟩ | ⟨r0, r1, r2, r3, _⟩
    · exact .inr ⟨r0, r1, good_of r3 r2 fun D J q1 q2 => .inr ⟨q2.1, h2.fix q2.2, q1⟩⟩
    · refine .inr ⟨r0, r1, good_of r3 r2 fun D J q1 q2 => ?_⟩
      rcases q2.1 with q | q
      · exact .inr ⟨q, h2.fix q2.2, by rw [q1]; exact Fix.refl _ _⟩
      · exact .inl ⟨coldJ_zero q, .inl q1⟩
    · exact .inl ⟨r0, r1, coldJ_zero (hw_hs r3), .inl r2⟩
/-! ### without a crash nothing falls -/
theorem stay_len {p : Pl} (s : ByteArray) (n : Nat) : (p.length s n).crash = p.crash ∧ (p.length s n).down = p.down := by
  unfold Pl.length
  split <;> exact ⟨rfl, rfl⟩
theorem stay_step {p q : Pl} (h : q.crash = p.crash ∧ q.down = p.down) (hc : p.crash = 0) : q.step.crash = 0 ∧ q.step.down = p.down := by
  have := step_calm (h.1.trans hc)
  exact ⟨this.1, this.2.1.trans h.2⟩
theorem stay_st {p : Pl} (hc : p.crash = 0) (x : Stp) : (p.stP x).crash = 0 ∧ (p.stP x).down = p.down := by
  unfold Pl.stP
  split
  · unfold Pl.write
    split
    · exact ⟨hc, rfl⟩
    · split
      · exact stay_step ⟨rfl, rfl⟩ hc
      · split
        · exact ⟨hc, rfl⟩
        · unfold Pl.write1
          refine stay_step (p := p) ?_ hc
          split
          · exact stay_len _ _
          · exact ⟨rfl, rfl⟩
  · split
    · unfold Pl.trunc
      split
      · exact ⟨hc, rfl⟩
      · exact stay_step (stay_len _ _) hc
    · unfold Pl.sync
      split
      · exact ⟨hc, rfl⟩
      · split
        · exact stay_step ⟨rfl, rfl⟩ hc
        · exact stay_step (q := p) ⟨rfl, rfl⟩ hc
theorem stay_run : ∀ (l : List Stp) {p : Pl}, p.crash = 0 → (p.runS l).1.crash = 0 ∧ (p.runS l).1.down = p.down
  | [], p, h => ⟨h, rfl⟩
  | x :: r, p, h => by
    have h1 := stay_st h x
    rw [runS_cons]
    split
    · have h2 := stay_run r h1.1
      exact ⟨h2.1, h2.2.trans h1.2⟩
    · exact h1
theorem stay_rec {p : Pl} (h : p.crash = 0) : p.jrecover.1.down = p.down := by
  unfold Pl.jrecover
  split
  · rfl
  · split
    · rfl
    · split
      · rfl
      · exact (stay_run _ h).2
/-! ### ways back -/
theorem FI.same2 {p q : Pl} {s : ByteArray} {I : List Int → Prop} (h : FI p s I) (hk : q.kept = p.kept) (hp : q.pd = p.pd) : FI q s I := ⟨by rw [hk]; exact h.kept, by rw [hp]; exact h.made⟩
theorem pre_in {p : Pl} (h : Pre p) (c : Int) : Pre (p.crashIn c) :=
  ⟨⟨h.lv.up, by show 0 ≤ max 0 c; omega, h.lv.room, h.lv.two, h.lv.ktwo, h.lv.len, h.lv.klen⟩, h.nm, h.dl.same2 rfl rfl, h.jl.same2 rfl rfl⟩
theorem fell_in {p : Pl} (h : Fell p) (c : Int) : Fell (p.crashIn c) := ⟨h.down, h.room, h.ktwo, h.klen, h.nm, h.dl.same2 rfl rfl, h.jl.same2 rfl rfl⟩
theorem up_in {s : Nat} {l : List Pg} {o n : List Int} {p : Pl} (h : UpG s l o n p) (c : Int) : UpG s l o n (p.crashIn c) := by
  rcases h with ⟨hp, h1, h2⟩ | ⟨hp, h1, h2, h3, h4, h5⟩
  · exact .inl ⟨pre_in hp c, h1, h2⟩
  · exact .inr ⟨pre_in hp c, h1, h2, h3, h4.same2 rfl rfl, h5.same2 rfl rfl⟩
theorem up_up {s : Nat} {l : List Pg} {o n : List Int} {p : Pl} (h : UpG s l o n p ∨ CrG s l o n p) (h0 : p.crash = 0) (chs : List Int) : UpG s l o n (p.jup chs) ∧ (p.jup chs).crash = 0 := by
  unfold Pl.jup
  rcases h with h | h
  · have hd : p.down = false := by
      rcases h with z | z
      · exact z.1.lv.up
      · exact z.1.lv.up
    rw [hd]
    exact ⟨h, h0⟩
  · rw [h.1.down, if_pos rfl]
    have hq := restart_again h.1.down h.1.nm h.1.ktwo chs
    exact ⟨up_again h hq, hq.cr⟩
theorem ways_ok {s : Nat} {l : List Pg} {o n : List Int} (hc : Cm s l o n) : ∀ (L : List (Int × List Int)) {p : Pl}, (UpG s l o n p ∨ CrG s l o n p) → p.crash = 0 → (p.jways L).2 = true ∧ ColdP o n (p.jways L).1
  | [], p, h, h0 => by
    obtain ⟨hu, hu0⟩ := up_up h h0 []
    unfold Pl.jways
    generalize p.jup [] = q at hu hu0 ⊢
    rcases rec_up hc hu with ⟨r0, r1⟩ | ⟨_, r1⟩
    · refine ⟨?_, r1⟩
      show (decide (q.jrecover.2.2 = 0) && !q.jrecover.1.jhot) = true
      rw [r0, coldJ_hot r1.2.1]
      rfl
    · have hd : q.down = false := by
        rcases hu with z | z
        · exact z.1.lv.up
        · exact z.1.lv.up
      have h1 := stay_rec hu0
      rw [r1.1.down, hd] at h1
      cases h1
  | x :: r, p, h, h0 => by
    obtain ⟨hu, _⟩ := up_up h h0 x.2
    unfold Pl.jways
    generalize p.jup x.2 = q at hu ⊢
    have hu2 := up_in hu x.1
    generalize q.crashIn x.1 = q2 at hu2 ⊢
    rcases rec_up hc hu2 with ⟨r0, r1⟩ | ⟨r0, r1⟩
    · rw [if_neg (by rw [r0]; simp)]
      exact ways_ok hc r (.inl (up_in (.inl r1) 0)) rfl
    · rw [if_neg (by rw [r0]; simp)]
      exact ways_ok hc r (.inr ⟨fell_in r1.1 0, r1.2⟩) rfl
end Go.Proofs.Ytegcbdfilkecpaa
/- The journal in plain Lean on a disk that does not crash: a commit, whole; condition: at most 2000 pages. -/
namespace Go.Proofs.Ytegcbdfilkecpaa
open Go

theorem aside_mem {db : List Int} {old count : Nat} {l : List Pg} {x : Pg} (h : x ∈ asidePg db old count l) : ∃ n : Nat, 1 ≤ n ∧ n ≤ old ∧ x = ⟨(n : Int), pageOf db n⟩ := by
  unfold asidePg at h
  obtain ⟨n, hn, rfl⟩ := List.mem_map.1 h
  have := List.mem_range'_1.1 (List.mem_filter.1 hn).1
  exact ⟨n, by omega, by omega, rfl⟩
theorem aside_has {db : List Int} {old count n : Nat} {l : List Pg} (h1 : 1 ≤ n) (h2 : n ≤ old) (hp : (decide (count < n) || hasPg l n) = true) : (⟨(n : Int), pageOf db n⟩ : Pg) ∈ asidePg db old count l := by
  unfold asidePg
  refine List.mem_map.2 ⟨n, List.mem_filter.2 ⟨List.mem_range'_1.2 ⟨h1, by omega⟩, hp⟩, rfl⟩
theorem aside_le (db : List Int) (old count : Nat) (l : List Pg) : (asidePg db old count l).length ≤ old := by
  unfold asidePg
  rw [List.length_map]
  have := List.length_filter_le (fun n => decide (count < n) || hasPg l n) (List.range' 1 old)
  rw [List.length_range'] at this
  exact this
theorem commit_calm (p : Pl) (s count : Nat) (l : List Pg) (hI : FullI p s) (hs : s ≤ 2000) (hfit : fitPg s count l = true) (hx : ∀ x ∈ l, x.b.length = 256) :
    ((p.jcommit count l).2 = 0 ∧ FullI (p.jcommit count l).1 count ∧ ∀ n, 1 ≤ n → n ≤ count → pageOf ((p.jcommit count l).1.seen nmDb) n = pgsF (pageOf (p.seen nmDb)) l n) ∨
    ((p.jcommit count l).2 = 5 ∧ FullI (p.jcommit count l).1 s ∧ (p.jcommit count l).1.seen nmDb = p.seen nmDb) := by
  have hc := hI.calm
  have hcnt := count_of hc.up hI.pgs
  have hcold := cold_hot hI
  have hcm : p.jcommit count l = if (p.runS (p.jfirst count l)).2 ≠ 0 then ((p.runS (p.jfirst count l)).1, fullE (p.runS (p.jfirst count l)).2) else
        if ((p.runS (p.jfirst count l)).1.runS (secondS count l)).2 = 5 then (if (((p.runS (p.jfirst count l)).1.runS (secondS count l)).1.jrecover).2.2 ≠ 0 then ((((p.runS (p.jfirst count l)).1.runS (secondS count l)).1.jrecover).1, (((p.runS (p.jfirst count l)).1.runS (secondS count l)).1.jrecover).2.2) else ((((p.runS (p.jfirst count l)).1.runS (secondS count l)).1.jrecover).1, 5)) else (p.runS (p.jfirst count l)).1.runS (secondS count l) := by
    unfold Pl.jcommit
    rw [hc.up, hcnt, hfit, hcold]
    rfl
  obtain ⟨ao, hao⟩ : ∃ ao, asidePg (p.seen nmDb) s count l = ao := ⟨_, rfl⟩
  have hjf : p.jfirst count l = headS nmJn p.jhead ++ (asideS ao ++ headS nmJn ⟨ao.length + 1, s, 0, 0⟩) := by
    unfold Pl.jfirst firstS
    rw [hcnt, Int.toNat_natCast, hao]
  have haol : ao.length ≤ s := by rw [← hao]; exact aside_le _ _ _ _
  have haob : ∀ x ∈ ao, x.b.length = 256 := fun x hx' => by
    rw [← hao] at hx'
    obtain ⟨n, _, _, rfl⟩ := aside_mem hx'
    exact sizedF_len _ _
  have haoc : chainPg s 0 ao = true := by
    rw [← hao]
    exact aside_chain (p.seen nmDb) s (fun n => decide (count < n) || hasPg l n) s 1 0 (by omega) (by omega)
  have hff := hfit
  unfold fitPg at hff
  rw [Bool.and_eq_true, Bool.and_eq_true, decide_eq_true_iff, decide_eq_true_iff] at hff
  obtain ⟨hc4, hch, hab⟩ := hff
  have hcl := (chain_len count l 0 hch hc4.1).2
  have hseq := seq_fit count l 0 s hch hc4.1 (Int.le_refl _) (by omega) (by omega)
  have hend := end_fit count l 0 s hch hc4.1 (Int.le_refl _) (by omega) (by omega)
  have hxl : ∀ x ∈ l, (1 ≤ x.n ∧ x.n ≤ 4096) ∧ x.b.length = 256 := fun x hx' => by have := hcl x hx'; exact ⟨by omega, hx x hx'⟩
  -- the first half
  have first : ((p.runS (p.jfirst count l)).2 = 5 ∧ FullI (p.runS (p.jfirst count l)).1 s ∧ (p.runS (p.jfirst count l)).1.seen nmDb = p.seen nmDb) ∨
      ((p.runS (p.jfirst count l)).2 = 0 ∧ Calm (p.runS (p.jfirst count l)).1 ∧ (p.runS (p.jfirst count l)).1.seen nmDb = p.seen nmDb ∧ ∃ T, (p.runS (p.jfirst count l)).1.seen nmJn = sealB ⟨ao.length + 1, s, 0, 0⟩ ++ (recsL ao ++ T)) := by
    rw [hjf, runS_append]
    rcases head_calm p hc p.jhead with ⟨e5, ep, _⟩ | ⟨e0, c1, d1, j1⟩
    · left
      rw [e5, if_neg (by decide)]
      refine ⟨e5, ?_, ?_⟩
      · rw [ep]; exact hI
      · rw [ep]
    · rw [if_pos e0]
      generalize (p.runS (headS nmJn p.jhead)).1 = q1 at c1 d1 j1 ⊢
      rw [runS_append]
      unfold asideS
      rw [runS_append]
      rcases aside_calm (sealB p.jhead) (seal_len _) ao [] q1 ((p.seen nmJn).drop 64) c1 (by rw [j1]; rfl) (by simp) haob (by simp; omega) with ⟨a0, c2, d2, T, j2⟩ | ⟨a5, c2, d2, R, j2⟩
      · rw [show ([] : List Pg).length = 0 from rfl] at a0 c2 d2 j2
        rw [if_pos a0]
        generalize (q1.runS (asideW 0 ao)).1 = q2 at c2 d2 j2 ⊢
        obtain ⟨s0, c3, s2, _⟩ := calm_sync c2 nmJn
        rw [runS_cons, stE2, stP2, if_pos s0, runS_nil, if_pos rfl]
        have hj3 : (q2.sync nmJn).seen nmJn = sealB p.jhead ++ (recsL ao ++ T) := by rw [s2]; exact j2
        have hd3 : (q2.sync nmJn).seen nmDb = p.seen nmDb := by rw [s2, d2, d1]
        generalize q2.sync nmJn = q3 at c3 hj3 hd3 ⊢
        rcases head_calm q3 c3 ⟨ao.length + 1, s, 0, 0⟩ with ⟨_, _, hlt⟩ | ⟨h0, c4, d4, j4⟩
        · rw [hj3, List.length_append, seal_len] at hlt
          omega
        · right
          refine ⟨h0, c4, d4.trans hd3, T, ?_⟩
          rw [j4, hj3, List.drop_left' (seal_len _)]
      · rw [show ([] : List Pg).length = 0 from rfl] at a5 c2 d2 j2
        left
        have hne : ¬ (q1.runS (asideW 0 ao)).2 = 0 := by rw [a5]; decide
        rw [if_neg hne, if_neg hne]
        have hh : ((q1.runS (asideW 0 ao)).1).jhead = p.jhead := head_of hI.wok j2
        refine ⟨a5, ⟨c2, ?_, by rw [hh]; exact hI.cold, by rw [hh]; exact hI.wok⟩, d2.trans d1⟩
        rw [d2, d1]
        exact hI.pgs
  rcases first with ⟨f5, fI, fd⟩ | ⟨f0, fc, fd, T, fj⟩
  · right
    rw [hcm, if_pos (by rw [f5]; decide), f5]
    exact ⟨rfl, fI, fd⟩
  · rw [hcm, if_neg (by rw [f0]; simp)]
    generalize (p.runS (p.jfirst count l)).1 = q4 at fc fd fj ⊢
    have hp4 : Pgd (q4.seen nmDb) s := by rw [fd]; exact hI.pgs
    unfold secondS
    rw [runS_append]
    rcases homeS_calm l q4 s count fc hp4 hseq hxl (by omega) with ⟨h0, hc5, hj5, hp5, hpg5⟩ | ⟨h5, _, hc5, hj5, k, s', hss, hp5, hpg5⟩
    · left
      rw [if_pos h0]
      generalize (q4.runS (homeS count l)).1 = q5 at hc5 hj5 hp5 hpg5 ⊢
      have hl64 : ¬ (q5.seen nmJn).length < 64 := by rw [hj5, fj, List.length_append, seal_len]; omega
      rcases head_calm q5 hc5 ⟨0, 0, 0, 0⟩ with ⟨_, _, hlt⟩ | ⟨z0, zc, zd, zj⟩
      · exact absurd hlt hl64
      · have hzh : ((q5.runS (headS nmJn ⟨0, 0, 0, 0⟩)).1).jhead = ⟨0, 0, 0, 0⟩ := head_of w4zero zj
        rw [z0, if_neg (by decide)]
        refine ⟨z0, ⟨zc, by rw [zd]; exact hp5, by rw [hzh], by rw [hzh]; exact w4zero⟩, fun n h1 h2 => ?_⟩
        rw [zd, hpg5 n h1 h2, fd]
    · right
      have hne : ¬ (q4.runS (homeS count l)).2 = 0 := by rw [h5]; decide
      rw [if_neg hne, if_pos h5]
      generalize (q4.runS (homeS count l)).1 = q5 at hc5 hj5 hp5 hpg5 ⊢
      have hpgs : ∀ n, 1 ≤ n → n ≤ s → pgsF (pageOf (q5.seen nmDb)) ao n = pageOf (p.seen nmDb) n := fun n h1 h2 => by
        refine pgsF_const ao _ n _ (fun x hx' hxn => ?_) ?_
        · rw [← hao] at hx'
          obtain ⟨m, _, _, rfl⟩ := aside_mem hx'
          have : m = n := by have h : (m : Int) = n := hxn; omega
          rw [this]
        · by_cases hP : (decide (count < n) || hasPg l n) = true
          · left
            exact ⟨⟨(n : Int), pageOf (p.seen nmDb) n⟩, by rw [← hao]; exact aside_has h1 h2 hP, rfl⟩
          · right
            rw [hpg5 n h1 (by omega), fd]
            refine pgsF_not _ _ n (fun x hx' hxn => ?_)
            apply hP
            rw [Bool.or_eq_true]
            right
            exact (hasPg_iff l n).2 ⟨x, List.mem_of_mem_take hx', hxn⟩
      obtain ⟨b1, b2, b3⟩ := back_calm q5 s s' ao T (p.seen nmDb) hc5 (by omega) (by rw [hj5]; exact fj) hp5 hss hI.pgs haoc haob (by omega) hpgs
      rw [b1, if_neg (by simp)]
      exact ⟨rfl, b2, b3⟩
theorem full_new (r : Int) : FullI (Pl.new r) 0 := ⟨⟨rfl, rfl, fun s => by show ([] : List Int).length ≤ _; simp, rfl⟩, rfl, rfl, w4zero⟩
end Go.Proofs.Ytegcbdfilkecpaa
