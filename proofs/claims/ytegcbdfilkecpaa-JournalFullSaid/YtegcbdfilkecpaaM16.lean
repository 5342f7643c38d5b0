/- Texts of this proof, one behind the other: lemmas and contracts; each says its own conditions. -/
import Derived.Test.YtegcbdfilkecpaaM1
import Derived.Test.YtegcbdfilkecpaaM14
import Derived.Test.YtegcbdfilkecpaaM15
import Derived.ProofKit
import Derived.OpenShut
import Derived.ShutString
import Derived.ChangeOld
import Derived.Deep.Slices
import Derived.Deep.Fields
import Derived.ChangeSame
/- The journal in plain Lean on a disk that does not crash: a commit is done whole or not at all; condition: at most 2000 pages. -/
namespace Go.Proofs.Ytegcbdfilkecpaa
open Go

/-- what pages are behind a list of changed ones -/
def pgsF : (Nat → List Int) → List Pg → Nat → List Int
  | f, [] => f
  | f, x :: r => pgsF (fun n => if (n : Int) = x.n then x.b else f n) r
theorem pgsF_congr : ∀ (l : List Pg) (f g : Nat → List Int) (n : Nat), f n = g n → pgsF f l n = pgsF g l n
  | [], _, _, _, h => h
  | x :: r, f, g, n, h => pgsF_congr r _ _ n (by
    show (if (n : Int) = x.n then x.b else f n) = (if (n : Int) = x.n then x.b else g n)
    rw [h])
theorem pgsF_not : ∀ (l : List Pg) (f : Nat → List Int) (n : Nat), (∀ x ∈ l, x.n ≠ (n : Int)) → pgsF f l n = f n
  | [], _, _, _ => rfl
  | x :: r, f, n, h => by
    have h1 := pgsF_not r (fun n => if (n : Int) = x.n then x.b else f n) n (fun y hy => h y (List.mem_cons_of_mem _ hy))
    have h2 := h x (List.mem_cons_self ..)
    show pgsF _ r n = f n
    rw [h1, if_neg (fun e => h2 e.symm)]
theorem pgsF_const : ∀ (l : List Pg) (f : Nat → List Int) (n : Nat) (v : List Int), (∀ x ∈ l, x.n = (n : Int) → x.b = v) → ((∃ x ∈ l, x.n = (n : Int)) ∨ f n = v) → pgsF f l n = v
  | [], _, _, _, _, h => by
    rcases h with ⟨x, hx, _⟩ | h
    · cases hx
    · exact h
  | x :: r, f, n, v, h, ho => by
    refine pgsF_const r _ n v (fun y hy => h y (List.mem_cons_of_mem _ hy)) ?_
    by_cases hx : x.n = (n : Int)
    · right
      show (if (n : Int) = x.n then x.b else f n) = v
      rw [if_pos hx.symm]
      exact h x (List.mem_cons_self ..) hx
    · rcases ho with ⟨y, hy, hyn⟩ | hf
      · rcases List.mem_cons.1 hy with rfl | hy
        · exact absurd hyn hx
        · exact .inl ⟨y, hy, hyn⟩
      · right
        show (if (n : Int) = x.n then x.b else f n) = v
        rw [if_neg (fun e => hx e.symm)]
        exact hf
theorem endPg_ge : ∀ (l : List Pg) (s : Nat), s ≤ endPg s l
  | [], s => Nat.le_refl _
  | x :: r, s => Nat.le_trans (Nat.le_max_left _ _) (endPg_ge r _)
theorem endPg_in : ∀ (l : List Pg) (s : Nat), (∀ x ∈ l, x.n ≤ (s : Int)) → endPg s l = s
  | [], _, _ => rfl
  | x :: r, s, h => by
    have h1 := h x (List.mem_cons_self ..)
    have e : max s x.n.toNat = s := by omega
    show endPg (max s x.n.toNat) r = s
    rw [e]
    exact endPg_in r s (fun y hy => h y (List.mem_cons_of_mem _ hy))
theorem seq_fit (count : Int) : ∀ (l : List Pg) (last : Int) (s : Nat), chainPg count last l = true → last ≤ count → 0 ≤ last → last ≤ s → count - s ≤ above s l → SeqPg s l
  | [], _, _, _, _, _, _, _ => trivial
  | x :: r, last, s, hc, hl, h0, hls, ha => by
    rw [chainPg_cons, Bool.and_eq_true, decide_eq_true_iff] at hc
    obtain ⟨h1, h2⟩ := chain_len count r x.n hc.2 hc.1.2
    rw [above_cons] at ha
    by_cases hx : (s : Int) < x.n
    · rw [if_pos hx] at ha
      have hle := above_le (s : Int) r
      have hxs : x.n = (s : Int) + 1 := by omega
      refine ⟨by omega, ?_⟩
      have e : max s x.n.toNat = s + 1 := by omega
      rw [e]
      have hab : above ((s + 1 : Nat) : Int) r = r.length := by
        unfold above
        rw [List.countP_eq_length]
        intro y hy
        have := h2 y hy
        rw [decide_eq_true_iff]
        omega
      exact seq_fit count r x.n (s + 1) hc.2 hc.1.2 (by omega) (by omega) (by rw [hab]; omega)
    · rw [if_neg hx] at ha
      refine ⟨by omega, ?_⟩
      have e : max s x.n.toNat = s := by omega
      rw [e]
      exact seq_fit count r x.n s hc.2 hc.1.2 (by omega) (by omega) (by omega)
theorem end_fit (count : Int) : ∀ (l : List Pg) (last : Int) (s : Nat), chainPg count last l = true → last ≤ count → 0 ≤ last → last ≤ s → count - s ≤ above s l → count ≤ endPg s l ∧ (endPg s l : Int) ≤ max (s : Int) count
  | [], last, s, _, _, _, _, ha => by
    have e : above (s : Int) [] = 0 := rfl
    rw [e] at ha
    show count ≤ (s : Int) ∧ (s : Int) ≤ max (s : Int) count
    omega
  | x :: r, last, s, hc, hl, h0, hls, ha => by
    rw [chainPg_cons, Bool.and_eq_true, decide_eq_true_iff] at hc
    obtain ⟨h1, h2⟩ := chain_len count r x.n hc.2 hc.1.2
    rw [above_cons] at ha
    show count ≤ (endPg (max s x.n.toNat) r : Int) ∧ (endPg (max s x.n.toNat) r : Int) ≤ max (s : Int) count
    by_cases hx : (s : Int) < x.n
    · rw [if_pos hx] at ha
      have hle := above_le (s : Int) r
      have hxs : x.n = (s : Int) + 1 := by omega
      have e : max s x.n.toNat = s + 1 := by omega
      rw [e]
      have hab : above ((s + 1 : Nat) : Int) r = r.length := by
        unfold above
        rw [List.countP_eq_length]
        intro y hy
        have := h2 y hy
        rw [decide_eq_true_iff]
        omega
      have := end_fit count r x.n (s + 1) hc.2 hc.1.2 (by omega) (by omega) (by rw [hab]; omega)
      omega
    · rw [if_neg hx] at ha
      have e : max s x.n.toNat = s := by omega
      rw [e]
      exact end_fit count r x.n s hc.2 hc.1.2 (by omega) (by omega) (by omega)
/-- a page that is among the changed ones does not depend on what was there -/
theorem pgsF_some : ∀ (l : List Pg) (f g : Nat → List Int) (n : Nat), (∃ x ∈ l, x.n = (n : Int)) → pgsF f l n = pgsF g l n
  | [], _, _, _, ⟨x, hx, _⟩ => by cases hx
  | x :: r, f, g, n, h => by
    by_cases hx : (n : Int) = x.n
    · exact pgsF_congr r _ _ n (by
        show (if (n : Int) = x.n then x.b else f n) = (if (n : Int) = x.n then x.b else g n)
        rw [if_pos hx, if_pos hx])
    · refine pgsF_some r _ _ n ?_
      obtain ⟨y, hy, hyn⟩ := h
      rcases List.mem_cons.1 hy with rfl | hy
      · exact absurd hyn.symm hx
      · exact ⟨y, hy, hyn⟩
/-- what is behind the end was written -/
theorem end_has : ∀ (l : List Pg) (s n : Nat), SeqPg s l → s < n → n ≤ endPg s l → ∃ x ∈ l, x.n = (n : Int)
  | [], s, n, _, h1, h2 => by
    have : n ≤ s := h2
    omega
  | x :: r, s, n, hs, h1, h2 => by
    have h2' : n ≤ endPg (max s x.n.toNat) r := h2
    obtain ⟨hs1, hs2⟩ := hs
    by_cases hx : max s x.n.toNat < n
    · obtain ⟨y, hy, hyn⟩ := end_has r (max s x.n.toNat) n hs2 hx h2'
      exact ⟨y, List.mem_cons_of_mem _ hy, hyn⟩
    · exact ⟨x, List.mem_cons_self .., by omega⟩
theorem seq_take : ∀ (l : List Pg) (s k : Nat), SeqPg s l → SeqPg s (l.take k)
  | [], _, _, _ => by simp [SeqPg]
  | x :: r, s, 0, _ => trivial
  | x :: r, s, k + 1, h => ⟨h.1, seq_take r _ k h.2⟩
/-- pages written home, as far as there is room -/
theorem home_calm : ∀ (l : List Pg) (p : Pl) (s : Nat), Calm p → Pgd (p.seen nmDb) s → SeqPg s l → (∀ x ∈ l, (1 ≤ x.n ∧ x.n ≤ 4096) ∧ x.b.length = 256) →
    ∃ k, k ≤ l.length ∧ (((p.runS (homeW l)).2 = 0 ∧ k = l.length) ∨ ((p.runS (homeW l)).2 = 5 ∧ k < l.length ∧ ∃ x ∈ l, (s : Int) < x.n)) ∧ Calm (p.runS (homeW l)).1 ∧ (p.runS (homeW l)).1.seen nmJn = p.seen nmJn ∧
      Pgd ((p.runS (homeW l)).1.seen nmDb) (endPg s (l.take k)) ∧ ∀ n, 1 ≤ n → n ≤ endPg s (l.take k) → pageOf ((p.runS (homeW l)).1.seen nmDb) n = pgsF (pageOf (p.seen nmDb)) (l.take k) n := by
  intro l
  induction l with
  | nil =>
    intro p s hc hp _ _
    exact ⟨0, Nat.le_refl _, .inl ⟨rfl, rfl⟩, hc, rfl, hp, fun n _ _ => rfl⟩
  | cons x r ih =>
    intro p s hc hp hs hx
    obtain ⟨⟨h1, h2⟩, hb⟩ := hx x (List.mem_cons_self ..)
    obtain ⟨hs1, hs2⟩ := hs
    obtain ⟨m, hm⟩ : ∃ m : Nat, x.n = (m : Int) + 1 := ⟨(x.n - 1).toNat, by omega⟩
    have ha : (x.n - 1) * 256 = ((m * 256 : Nat) : Int) := by omega
    have hne : x.b ≠ [] := fun e => by rw [e] at hb; cases hb
    have he : max s x.n.toNat = max s (m + 1) := by omega
    have hrun : p.runS (homeW (x :: r)) = if p.writeE nmDb ((m * 256 : Nat) : Int) x.b = 0 then (p.write nmDb ((m * 256 : Nat) : Int) x.b).runS (homeW r) else (p.write nmDb ((m * 256 : Nat) : Int) x.b, p.writeE nmDb ((m * 256 : Nat) : Int) x.b) := by
      unfold homeW
      rw [List.map_cons, runS_cons, stE0, stP0, ha]
    rcases calm_write hc nmDb (.inl rfl) (m * 256) x.b hne (by omega) with ⟨e5, ep, hlt⟩ | ⟨e0, hq, hsn, hrm⟩
    · rw [hrun, e5, if_neg (by decide), ep]
      refine ⟨0, Nat.zero_le _, .inr ⟨rfl, by simp, x, List.mem_cons_self .., ?_⟩, hc, rfl, hp, fun n _ _ => rfl⟩
      have hp' : (p.seen nmDb).length = s * 256 := hp
      rw [hp', hb] at hlt
      omega
    · rw [hrun, if_pos e0]
      obtain ⟨hP, hpg⟩ := wr_page hp hb (show m ≤ s by omega)
      have hdb : (p.write nmDb ((m * 256 : Nat) : Int) x.b).seen nmDb = wrL (p.seen nmDb) (m * 256) x.b := by rw [hsn, upd_same]
      have hjn : (p.write nmDb ((m * 256 : Nat) : Int) x.b).seen nmJn = p.seen nmJn := by rw [hsn, upd_other _ _ nm_ne.symm]
      generalize p.write nmDb ((m * 256 : Nat) : Int) x.b = q at hq hdb hjn ⊢
      rw [he] at hs2
      obtain ⟨k, hk, hres, hc2, hj2, hp2, hpg2⟩ := ih q (max s (m + 1)) hq (by rw [hdb]; exact hP) hs2 (fun y hy => hx y (List.mem_cons_of_mem _ hy))
      refine ⟨k + 1, by simp; exact hk, ?_, hc2, hj2.trans hjn, ?_, fun n hn1 hn2 => ?_⟩
      · rcases hres with ⟨a, b⟩ | ⟨a, b, y, hy, hyn⟩
        · exact .inl ⟨a, by rw [b]; rfl⟩
        · exact .inr ⟨a, by simp; exact b, y, List.mem_cons_of_mem _ hy, by omega⟩
      · show Pgd _ (endPg (max s x.n.toNat) (r.take k))
        rw [he]
        exact hp2
      · have hn2' : n ≤ endPg (max s (m + 1)) (r.take k) := by
          have h : n ≤ endPg (max s x.n.toNat) (r.take k) := hn2
          rwa [he] at h
        rw [hpg2 n hn1 hn2']
        show pgsF (pageOf (q.seen nmDb)) (r.take k) n = pgsF (fun n => if (n : Int) = x.n then x.b else pageOf (p.seen nmDb) n) (r.take k) n
        rcases Nat.lt_or_ge (max s (m + 1)) n with hbig | hsm
        · -- a page that comes only later
          obtain ⟨y, hy, hyn⟩ := end_has (r.take k) (max s (m + 1)) n (seq_take r _ k hs2) hbig hn2'
          exact pgsF_some (r.take k) _ _ n ⟨y, hy, hyn⟩
        · refine pgsF_congr _ _ _ n ?_
          rw [hdb, hpg n hn1 hsm]
          by_cases hnm : n = m + 1
          · rw [if_pos hnm, if_pos (by omega)]
          · rw [if_neg hnm, if_neg (by omega)]
end Go.Proofs.Ytegcbdfilkecpaa
/- The journal in plain Lean on a disk that does not crash: what a commit answers and leaves; condition: at most 2000 pages. -/
namespace Go.Proofs.Ytegcbdfilkecpaa
open Go

theorem seal_ne (w : W4) : sealB w ≠ [] := fun e => by
  have := seal_len w
  rw [e] at this
  cases this
/-- a head sealed and synced -/
theorem head_calm (p : Pl) (hc : Calm p) (w : W4) :
    ((p.runS (headS nmJn w)).2 = 5 ∧ (p.runS (headS nmJn w)).1 = p ∧ (p.seen nmJn).length < 64) ∨
    ((p.runS (headS nmJn w)).2 = 0 ∧ Calm (p.runS (headS nmJn w)).1 ∧ (p.runS (headS nmJn w)).1.seen nmDb = p.seen nmDb ∧ (p.runS (headS nmJn w)).1.seen nmJn = sealB w ++ (p.seen nmJn).drop 64) := by
  have hrun : p.runS (headS nmJn w) = if p.writeE nmJn ((0 : Nat) : Int) (sealB w) = 0 then (p.write nmJn ((0 : Nat) : Int) (sealB w)).runS [⟨2, nmJn, 0, []⟩] else (p.write nmJn ((0 : Nat) : Int) (sealB w), p.writeE nmJn ((0 : Nat) : Int) (sealB w)) := by
    unfold headS
    rw [runS_cons, stE0, stP0]
    rfl
  rcases calm_write hc nmJn (.inr rfl) 0 (sealB w) (seal_ne w) (by rw [seal_len]; omega) with ⟨e5, ep, hlt⟩ | ⟨e0, hq, hsn, _⟩
  · left
    rw [hrun, e5, if_neg (by decide), ep]
    exact ⟨rfl, rfl, by rw [seal_len] at hlt; omega⟩
  · right
    rw [hrun, if_pos e0]
    have hdb : (p.write nmJn ((0 : Nat) : Int) (sealB w)).seen nmDb = p.seen nmDb := by rw [hsn, upd_other _ _ nm_ne]
    have hjn : (p.write nmJn ((0 : Nat) : Int) (sealB w)).seen nmJn = sealB w ++ (p.seen nmJn).drop 64 := by
      rw [hsn, upd_same]
      have := wrL_app [] (p.seen nmJn) (sealB w)
      simpa [seal_len] using this
    generalize p.write nmJn ((0 : Nat) : Int) (sealB w) = q at hq hdb hjn ⊢
    obtain ⟨s0, s1, s2, _⟩ := calm_sync hq nmJn
    rw [runS_cons, stE2, stP2, if_pos s0, runS_nil]
    exact ⟨rfl, s1, by rw [s2]; exact hdb, by rw [s2]; exact hjn⟩
/-- pages laid aside, as far as there is room -/
theorem aside_calm (H : List Int) (hH : H.length = 64) : ∀ (l pre : List Pg) (p : Pl) (T : List Int), Calm p → p.seen nmJn = H ++ (recsL pre ++ T) → (∀ x ∈ pre, x.b.length = 256) → (∀ x ∈ l, x.b.length = 256) → pre.length + l.length ≤ 3000 →
    ((p.runS (asideW pre.length l)).2 = 0 ∧ Calm (p.runS (asideW pre.length l)).1 ∧ (p.runS (asideW pre.length l)).1.seen nmDb = p.seen nmDb ∧ ∃ T', (p.runS (asideW pre.length l)).1.seen nmJn = H ++ (recsL (pre ++ l) ++ T')) ∨
    ((p.runS (asideW pre.length l)).2 = 5 ∧ Calm (p.runS (asideW pre.length l)).1 ∧ (p.runS (asideW pre.length l)).1.seen nmDb = p.seen nmDb ∧ ∃ R, (p.runS (asideW pre.length l)).1.seen nmJn = H ++ R) := by
  intro l
  induction l with
  | nil =>
    intro pre p T hc hj _ _ _
    left
    refine ⟨rfl, hc, rfl, T, ?_⟩
    rw [List.append_nil]
    exact hj
  | cons x r ih =>
    intro pre p T hc hj hp hl hn
    have hx := hl x (List.mem_cons_self ..)
    have hrl := rec_len hx
    have hne : recB x ≠ [] := fun e => by rw [e] at hrl; cases hrl
    have hpl := recsL_len hp
    rw [List.length_cons] at hn
    have ha : 64 + 320 * (pre.length : Int) = (((H ++ recsL pre).length : Nat) : Int) := by rw [List.length_append, hH, hpl]; omega
    have hrun : p.runS (asideW pre.length (x :: r)) = if p.writeE nmJn (((H ++ recsL pre).length : Nat) : Int) (recB x) = 0 then (p.write nmJn (((H ++ recsL pre).length : Nat) : Int) (recB x)).runS (asideW (pre.length + 1) r) else (p.write nmJn (((H ++ recsL pre).length : Nat) : Int) (recB x), p.writeE nmJn (((H ++ recsL pre).length : Nat) : Int) (recB x)) := by
      show p.runS (⟨0, nmJn, 64 + 320 * (pre.length : Int), recB x⟩ :: asideW (pre.length + 1) r) = _
      rw [runS_cons, stE0, stP0, ha]
    rcases calm_write hc nmJn (.inr rfl) (H ++ recsL pre).length (recB x) hne (by rw [hrl, List.length_append, hH, hpl]; omega) with ⟨e5, ep, _⟩ | ⟨e0, hq, hsn, _⟩
    · right
      rw [hrun, e5, if_neg (by decide), ep]
      exact ⟨rfl, hc, rfl, _, hj⟩
    · rw [hrun, if_pos e0]
      have hdb : (p.write nmJn (((H ++ recsL pre).length : Nat) : Int) (recB x)).seen nmDb = p.seen nmDb := by rw [hsn, upd_other _ _ nm_ne]
      have hjn : (p.write nmJn (((H ++ recsL pre).length : Nat) : Int) (recB x)).seen nmJn = H ++ (recsL (pre ++ [x]) ++ T.drop 320) := by
        rw [hsn, upd_same, hj, ← List.append_assoc, wrL_app, hrl]
        unfold recsL
        rw [List.flatMap_append, List.flatMap_cons, List.flatMap_nil]
        simp only [List.append_assoc, List.append_nil]
      generalize p.write nmJn (((H ++ recsL pre).length : Nat) : Int) (recB x) = q at hq hdb hjn ⊢
      have := ih (pre ++ [x]) q (T.drop 320) hq hjn (fun y hy => by
        rcases List.mem_append.1 hy with q | q
        · exact hp y q
        · rw [List.mem_singleton.1 q]; exact hx) (fun y hy => hl y (List.mem_cons_of_mem _ hy)) (by rw [List.length_append]; show pre.length + 1 + r.length ≤ 3000; omega)
      rw [List.length_append, show [x].length = 1 from rfl, hdb, List.append_assoc] at this
      exact this
theorem w4zero : W4Ok ⟨0, 0, 0, 0⟩ := by constructor <;> constructor <;> decide
/-- what holds between two commits -/
structure FullI (p : Pl) (s : Nat) : Prop where
  calm : Calm p
  pgs : Pgd (p.seen nmDb) s
  cold : (p.jhead).a = 0
  wok : W4Ok p.jhead
theorem cold_hot {p : Pl} {s : Nat} (h : FullI p s) : p.jhot = false := by
  unfold Pl.jhot
  rw [h.cold]
  simp
theorem hot_of {p : Pl} (hd : p.down = false) (h : (p.jhead).a ≠ 0) : p.jhot = true := by
  unfold Pl.jhot
  rw [hd, decide_eq_true h]
  rfl
theorem head_of {p : Pl} {w : W4} (hw : W4Ok w) {t : List Int} (h : p.seen nmJn = sealB w ++ t) : p.jhead = w := by
  unfold Pl.jhead
  rw [h]
  exact says_seal w hw t
theorem count_of {p : Pl} {s : Nat} (hd : p.down = false) (h : Pgd (p.seen nmDb) s) : p.jcount = s := by
  unfold Pl.jcount Pl.len
  rw [hd]
  have h' : (p.seen nmDb).length = s * 256 := h
  simp only [Bool.false_eq_true, if_false]
  omega
/-- pages home, a count, a sync -/
theorem homeS_calm (l : List Pg) (p : Pl) (s : Nat) (count : Nat) (hc : Calm p) (hp : Pgd (p.seen nmDb) s) (hs : SeqPg s l) (hx : ∀ x ∈ l, (1 ≤ x.n ∧ x.n ≤ 4096) ∧ x.b.length = 256) (hcnt : count ≤ endPg s l) :
    ((p.runS (homeS count l)).2 = 0 ∧ Calm (p.runS (homeS count l)).1 ∧ (p.runS (homeS count l)).1.seen nmJn = p.seen nmJn ∧ Pgd ((p.runS (homeS count l)).1.seen nmDb) count ∧ ∀ n, 1 ≤ n → n ≤ count → pageOf ((p.runS (homeS count l)).1.seen nmDb) n = pgsF (pageOf (p.seen nmDb)) l n) ∨
    ((p.runS (homeS count l)).2 = 5 ∧ (∃ x ∈ l, (s : Int) < x.n) ∧ Calm (p.runS (homeS count l)).1 ∧ (p.runS (homeS count l)).1.seen nmJn = p.seen nmJn ∧ ∃ k s', s ≤ s' ∧ Pgd ((p.runS (homeS count l)).1.seen nmDb) s' ∧ ∀ n, 1 ≤ n → n ≤ s' → pageOf ((p.runS (homeS count l)).1.seen nmDb) n = pgsF (pageOf (p.seen nmDb)) (l.take k) n) := by
  obtain ⟨k, hk, hres, hc2, hj2, hp2, hpg2⟩ := home_calm l p s hc hp hs hx
  unfold homeS
  rw [runS_append]
  rcases hres with ⟨a, b⟩ | ⟨a, b, hgrow⟩
  · left
    rw [if_pos a]
    subst b
    rw [List.take_length] at hp2 hpg2
    generalize (p.runS (homeW l)).1 = q at hc2 hj2 hp2 hpg2 ⊢
    have hp2' : (q.seen nmDb).length = endPg s l * 256 := hp2
    have hle : count * 256 ≤ endPg s l * 256 := Nat.mul_le_mul_right _ hcnt
    obtain ⟨t0, t1, t2, _⟩ := calm_trunc hc2 nmDb (.inl rfl) (count * 256) (by omega)
    obtain ⟨s0, s1, s2, _⟩ := calm_sync t1 nmDb
    have ec : (count : Int) * 256 = ((count * 256 : Nat) : Int) := by omega
    rw [ec, runS_cons, stE1, stP1, if_pos t0, runS_cons, stE2, stP2, if_pos s0, runS_nil]
    obtain ⟨c1, c2⟩ := cut_pages hp2 hcnt
    refine ⟨rfl, s1, ?_, ?_, fun n h1 h2 => ?_⟩
    · rw [s2, t2, upd_other _ _ nm_ne.symm]; exact hj2
    · rw [s2, t2, upd_same]; exact c1
    · rw [s2, t2, upd_same, c2 n h1 h2]; exact hpg2 n h1 (by omega)
  · right
    rw [if_neg (by rw [a]; decide)]
    exact ⟨a, hgrow, hc2, hj2, k, endPg s (l.take k), endPg_ge _ _, hp2, hpg2⟩
/-- the records of a hot journal, taken back -/
theorem back_calm (p : Pl) (s s' : Nat) (ao : List Pg) (T : List Int) (db : List Int) (hc : Calm p) (hs4 : s ≤ 4096) (hj : p.seen nmJn = sealB ⟨ao.length + 1, s, 0, 0⟩ ++ (recsL ao ++ T)) (hp : Pgd (p.seen nmDb) s') (hss : s ≤ s') (hdb : Pgd db s)
    (hch : chainPg s 0 ao = true) (hx : ∀ x ∈ ao, x.b.length = 256) (hao : ao.length ≤ 3000) (hpg : ∀ n, 1 ≤ n → n ≤ s → pgsF (pageOf (p.seen nmDb)) ao n = pageOf db n) :
    p.jrecover.2.2 = 0 ∧ FullI p.jrecover.1 s ∧ p.jrecover.1.seen nmDb = db := by
  have hw1 : W4Ok ⟨ao.length + 1, s, 0, 0⟩ := ⟨by show (0 : Int) ≤ (ao.length : Int) + 1 ∧ (ao.length : Int) + 1 < _; omega, by show (0 : Int) ≤ (s : Int) ∧ (s : Int) < _; omega, by show (0 : Int) ≤ 0 ∧ (0 : Int) < 4294967296; omega, by show (0 : Int) ≤ 0 ∧ (0 : Int) < 4294967296; omega⟩
  have hh : p.jhead = ⟨ao.length + 1, s, 0, 0⟩ := head_of hw1 hj
  have hhot : p.jhot = true := hot_of hc.up (by rw [hh]; show (ao.length : Int) + 1 ≠ 0; omega)
  have hrec : recordsPg (p.seen nmJn) p.jhead = some ao := by
    rw [hh]
    unfold recordsPg
    rw [if_neg (by show ¬ (4096 < (ao.length : Int) + 1 - 1 ∨ 4096 < (s : Int) ∨ (0 : Int) ≠ 0 ∨ (0 : Int) ≠ 0); omega)]
    have e1 : ((ao.length : Int) + 1 - 1).toNat = ao.length := by omega
    have := recs_back (sealB ⟨ao.length + 1, s, 0, 0⟩) (seal_len _) s T ao [] 0 (by simp) hx hch (Int.le_refl _) (by omega)
    rw [hj, e1]
    exact this
  have hchn := chain_len s ao 0 hch (by omega)
  have hrun : p.jrecover = ((p.runS (Pl.recS p.jhead ao)).1, decide ((p.runS (Pl.recS p.jhead ao)).2 = 0), (p.runS (Pl.recS p.jhead ao)).2) := by
    unfold Pl.jrecover
    rw [hc.up, hhot, hrec]
    rfl
  have hin : ∀ x ∈ ao, x.n ≤ (s' : Int) := fun x hx => by have := (hchn.2 x hx).2; omega
  have hseq : ∀ (l : List Pg) (t : Nat), (∀ x ∈ l, x.n ≤ (t : Int)) → SeqPg t l := by
    intro l
    induction l with
    | nil => intro t _; trivial
    | cons x r ih =>
      intro t h
      have h1 := h x (List.mem_cons_self ..)
      refine ⟨by omega, ?_⟩
      have e : max t x.n.toNat = t := by omega
      rw [e]
      exact ih t (fun y hy => h y (List.mem_cons_of_mem _ hy))
  have key : (p.runS (Pl.recS p.jhead ao)).2 = 0 ∧ FullI (p.runS (Pl.recS p.jhead ao)).1 s ∧ (p.runS (Pl.recS p.jhead ao)).1.seen nmDb = db := by
    rw [hh]
    unfold Pl.recS
    rw [runS_append]
    have hl64 : ¬ (p.seen nmJn).length < 64 := by rw [hj, List.length_append, seal_len]; omega
    rcases head_calm p hc ⟨ao.length + 1, s, 0, 0⟩ with ⟨_, _, hlt⟩ | ⟨h0, hc1, hd1, hj1⟩
    · exact absurd hlt hl64
    · rw [if_pos h0]
      generalize (p.runS (headS nmJn ⟨ao.length + 1, s, 0, 0⟩)).1 = q at hc1 hd1 hj1 ⊢
      rw [runS_append]
      have hxs : ∀ x ∈ ao, (1 ≤ x.n ∧ x.n ≤ 4096) ∧ x.b.length = 256 := fun x hx' => by have := hchn.2 x hx'; exact ⟨by omega, hx x hx'⟩
      rcases homeS_calm ao q s' s hc1 (by rw [hd1]; exact hp) (hseq ao s' hin) hxs (by rw [endPg_in ao s' hin]; exact hss) with ⟨r0, r1, r2, r3, r4⟩ | ⟨_, ⟨x, hx', hlt⟩, _⟩
      · have eb : ((⟨(ao.length : Int) + 1, s, 0, 0⟩ : W4).b) = (s : Int) := rfl
        rw [eb, if_pos r0]
        generalize (q.runS (homeS (s : Int) ao)).1 = q2 at r1 r2 r3 r4 ⊢
        have hl642 : ¬ (q2.seen nmJn).length < 64 := by rw [r2, hj1, List.length_append, seal_len]; omega
        rcases head_calm q2 r1 ⟨0, 0, 0, 0⟩ with ⟨_, _, hlt⟩ | ⟨z0, zc, zd, zj⟩
        · exact absurd hlt hl642
        · have hzh : ((q2.runS (headS nmJn ⟨0, 0, 0, 0⟩)).1).jhead = ⟨0, 0, 0, 0⟩ := head_of w4zero zj
          have hdbe : ((q2.runS (headS nmJn ⟨0, 0, 0, 0⟩)).1).seen nmDb = db := by
            rw [zd]
            refine pages_ext r3 hdb (fun n h1 h2 => ?_)
            rw [r4 n h1 h2, hd1]
            exact hpg n h1 h2
          exact ⟨z0, ⟨zc, by rw [zd]; exact r3, by rw [hzh], by rw [hzh]; exact w4zero⟩, hdbe⟩
      · have := hin x hx'
        omega
  rw [hrun]
  exact key
theorem aside_chain (db : List Int) (top : Nat) (P : Nat → Bool) : ∀ (m a : Nat) (last : Int), last < a → a + m ≤ top + 1 → chainPg top last (((List.range' a m).filter P).map fun (n : Nat) => (⟨(n : Int), pageOf db n⟩ : Pg)) = true
  | 0, _, _, _, _ => rfl
  | m + 1, a, last, h1, h2 => by
    rw [List.range'_succ, List.filter_cons]
    split
    · rw [List.map_cons, chainPg_cons, Bool.and_eq_true, decide_eq_true_iff]
      exact ⟨⟨h1, by show (a : Int) ≤ top; omega⟩, aside_chain db top P m (a + 1) a (by omega) (by omega)⟩
    · exact aside_chain db top P m (a + 1) last (by omega) (by omega)
end Go.Proofs.Ytegcbdfilkecpaa
/- The journal in plain Lean on a disk that does not crash: a commit, whole; condition: at most 2000 pages. -/
namespace Go.Proofs.Ytegcbdfilkecpaa
open Go

theorem aside_mem {db : List Int} {old count : Nat} {l : List Pg} {x : Pg} (h : x ∈ asidePg db old count l) : ∃ n : Nat, 1 ≤ n ∧ n ≤ old ∧ x = ⟨(n : Int), pageOf db n⟩ := by
  unfold asidePg at h
  obtain ⟨n, hn, rfl⟩ := List.mem_map.1 h
  have := List.mem_range'_1.1 (List.mem_filter.1 hn).1
  exact ⟨n, by omega, by omega, rfl⟩
theorem aside_has {db : List Int} {old count n : Nat} {l : List Pg} (h1 : 1 ≤ n) (h2 : n ≤ old) (hp : (decide (count < n) || hasPg l n) = true) : (⟨(n : Int), pageOf db n⟩ : Pg) ∈ asidePg db old count l := by
  unfold asidePg
  refine List.mem_map.2 ⟨n, List.mem_filter.2 ⟨List.mem_range'_1.2 ⟨h1, by omega⟩, hp⟩, rfl⟩
theorem aside_le (db : List Int) (old count : Nat) (l : List Pg) : (asidePg db old count l).length ≤ old := by
  unfold asidePg
  rw [List.length_map]
  have := List.length_filter_le (fun n => decide (count < n) || hasPg l n) (List.range' 1 old)
  rw [List.length_range'] at this
  exact this
theorem commit_calm (p : Pl) (s count : Nat) (l : List Pg) (hI : FullI p s) (hs : s ≤ 2000) (hfit : fitPg s count l = true) (hx : ∀ x ∈ l, x.b.length = 256) :
    ((p.jcommit count l).2 = 0 ∧ FullI (p.jcommit count l).1 count ∧ ∀ n, 1 ≤ n → n ≤ count → pageOf ((p.jcommit count l).1.seen nmDb) n = pgsF (pageOf (p.seen nmDb)) l n) ∨
    ((p.jcommit count l).2 = 5 ∧ FullI (p.jcommit count l).1 s ∧ (p.jcommit count l).1.seen nmDb = p.seen nmDb) := by
  have hc := hI.calm
  have hcnt := count_of hc.up hI.pgs
  have hcold := cold_hot hI
  have hcm : p.jcommit count l = if (p.runS (p.jfirst count l)).2 ≠ 0 then ((p.runS (p.jfirst count l)).1, fullE (p.runS (p.jfirst count l)).2) else
        if ((p.runS (p.jfirst count l)).1.runS (secondS count l)).2 = 5 then (if (((p.runS (p.jfirst count l)).1.runS (secondS count l)).1.jrecover).2.2 ≠ 0 then ((((p.runS (p.jfirst count l)).1.runS (secondS count l)).1.jrecover).1, (((p.runS (p.jfirst count l)).1.runS (secondS count l)).1.jrecover).2.2) else ((((p.runS (p.jfirst count l)).1.runS (secondS count l)).1.jrecover).1, 5)) else (p.runS (p.jfirst count l)).1.runS (secondS count l) := by
    unfold Pl.jcommit
    rw [hc.up, hcnt, hfit, hcold]
    rfl
  obtain ⟨ao, hao⟩ : ∃ ao, asidePg (p.seen nmDb) s count l = ao := ⟨_, rfl⟩
  have hjf : p.jfirst count l = headS nmJn p.jhead ++ (asideS ao ++ headS nmJn ⟨ao.length + 1, s, 0, 0⟩) := by
    unfold Pl.jfirst firstS
    rw [hcnt, Int.toNat_natCast, hao]
  have haol : ao.length ≤ s := by rw [← hao]; exact aside_le _ _ _ _
  have haob : ∀ x ∈ ao, x.b.length = 256 := fun x hx' => by
    rw [← hao] at hx'
    obtain ⟨n, _, _, rfl⟩ := aside_mem hx'
    exact sizedF_len _ _
  have haoc : chainPg s 0 ao = true := by
    rw [← hao]
    exact aside_chain (p.seen nmDb) s (fun n => decide (count < n) || hasPg l n) s 1 0 (by omega) (by omega)
  have hff := hfit
  unfold fitPg at hff
  rw [Bool.and_eq_true, Bool.and_eq_true, decide_eq_true_iff, decide_eq_true_iff] at hff
  obtain ⟨hc4, hch, hab⟩ := hff
  have hcl := (chain_len count l 0 hch hc4.1).2
  have hseq := seq_fit count l 0 s hch hc4.1 (Int.le_refl _) (by omega) (by omega)
  have hend := end_fit count l 0 s hch hc4.1 (Int.le_refl _) (by omega) (by omega)
  have hxl : ∀ x ∈ l, (1 ≤ x.n ∧ x.n ≤ 4096) ∧ x.b.length = 256 := fun x hx' => by have := hcl x hx'; exact ⟨by omega, hx x hx'⟩
  -- the first half
  have first : ((p.runS (p.jfirst count l)).2 = 5 ∧ FullI (p.runS (p.jfirst count l)).1 s ∧ (p.runS (p.jfirst count l)).1.seen nmDb = p.seen nmDb) ∨
      ((p.runS (p.jfirst count l)).2 = 0 ∧ Calm (p.runS (p.jfirst count l)).1 ∧ (p.runS (p.jfirst count l)).1.seen nmDb = p.seen nmDb ∧ ∃ T, (p.runS (p.jfirst count l)).1.seen nmJn = sealB ⟨ao.length + 1, s, 0, 0⟩ ++ (recsL ao ++ T)) := by
    rw [hjf, runS_append]
    rcases head_calm p hc p.jhead with ⟨e5, ep, _⟩ | ⟨e0, c1, d1, j1⟩
    · left
      rw [e5, if_neg (by decide)]
      refine ⟨e5, ?_, ?_⟩
      · rw [ep]; exact hI
      · rw [ep]
    · rw [if_pos e0]
      generalize (p.runS (headS nmJn p.jhead)).1 = q1 at c1 d1 j1 ⊢
      rw [runS_append]
      unfold asideS
      rw [runS_append]
      rcases aside_calm (sealB p.jhead) (seal_len _) ao [] q1 ((p.seen nmJn).drop 64) c1 (by rw [j1]; rfl) (by simp) haob (by simp; omega) with ⟨a0, c2, d2, T, j2⟩ | ⟨a5, c2, d2, R, j2⟩
      · rw [show ([] : List Pg).length = 0 from rfl] at a0 c2 d2 j2
        rw [if_pos a0]
        generalize (q1.runS (asideW 0 ao)).1 = q2 at c2 d2 j2 ⊢
        obtain ⟨s0, c3, s2, _⟩ := calm_sync c2 nmJn
        rw [runS_cons, stE2, stP2, if_pos s0, runS_nil, if_pos rfl]
        have hj3 : (q2.sync nmJn).seen nmJn = sealB p.jhead ++ (recsL ao ++ T) := by rw [s2]; exact j2
        have hd3 : (q2.sync nmJn).seen nmDb = p.seen nmDb := by rw [s2, d2, d1]
        generalize q2.sync nmJn = q3 at c3 hj3 hd3 ⊢
        rcases head_calm q3 c3 ⟨ao.length + 1, s, 0, 0⟩ with ⟨_, _, hlt⟩ | ⟨h0, c4, d4, j4⟩
        · rw [hj3, List.length_append, seal_len] at hlt
          omega
        · right
          refine ⟨h0, c4, d4.trans hd3, T, ?_⟩
          rw [j4, hj3, List.drop_left' (seal_len _)]
      · rw [show ([] : List Pg).length = 0 from rfl] at a5 c2 d2 j2
        left
        have hne : ¬ (q1.runS (asideW 0 ao)).2 = 0 := by rw [a5]; decide
        rw [if_neg hne, if_neg hne]
        have hh : ((q1.runS (asideW 0 ao)).1).jhead = p.jhead := head_of hI.wok j2
        refine ⟨a5, ⟨c2, ?_, by rw [hh]; exact hI.cold, by rw [hh]; exact hI.wok⟩, d2.trans d1⟩
        rw [d2, d1]
        exact hI.pgs
  rcases first with ⟨f5, fI, fd⟩ | ⟨f0, fc, fd, T, fj⟩
  · right
    rw [hcm, if_pos (by rw [f5]; decide), f5]
    exact ⟨rfl, fI, fd⟩
  · rw [hcm, if_neg (by rw [f0]; simp)]
    generalize (p.runS (p.jfirst count l)).1 = q4 at fc fd fj ⊢
    have hp4 : Pgd (q4.seen nmDb) s := by rw [fd]; exact hI.pgs
    unfold secondS
    rw [runS_append]
    rcases homeS_calm l q4 s count fc hp4 hseq hxl (by omega) with ⟨h0, hc5, hj5, hp5, hpg5⟩ | ⟨h5, _, hc5, hj5, k, s', hss, hp5, hpg5⟩
    · left
      rw [if_pos h0]
      generalize (q4.runS (homeS count l)).1 = q5 at hc5 hj5 hp5 hpg5 ⊢
      have hl64 : ¬ (q5.seen nmJn).length < 64 := by rw [hj5, fj, List.length_append, seal_len]; omega
      rcases head_calm q5 hc5 ⟨0, 0, 0, 0⟩ with ⟨_, _, hlt⟩ | ⟨z0, zc, zd, zj⟩
      · exact absurd hlt hl64
      · have hzh : ((q5.runS (headS nmJn ⟨0, 0, 0, 0⟩)).1).jhead = ⟨0, 0, 0, 0⟩ := head_of w4zero zj
        rw [z0, if_neg (by decide)]
        refine ⟨z0, ⟨zc, by rw [zd]; exact hp5, by rw [hzh], by rw [hzh]; exact w4zero⟩, fun n h1 h2 => ?_⟩
        rw [zd, hpg5 n h1 h2, fd]
    · right
      have hne : ¬ (q4.runS (homeS count l)).2 = 0 := by rw [h5]; decide
      rw [if_neg hne, if_pos h5]
      generalize (q4.runS (homeS count l)).1 = q5 at hc5 hj5 hp5 hpg5 ⊢
      have hpgs : ∀ n, 1 ≤ n → n ≤ s → pgsF (pageOf (q5.seen nmDb)) ao n = pageOf (p.seen nmDb) n := fun n h1 h2 => by
        refine pgsF_const ao _ n _ (fun x hx' hxn => ?_) ?_
        · rw [← hao] at hx'
          obtain ⟨m, _, _, rfl⟩ := aside_mem hx'
          have : m = n := by have h : (m : Int) = n := hxn; omega
          rw [this]
        · by_cases hP : (decide (count < n) || hasPg l n) = true
          · left
            exact ⟨⟨(n : Int), pageOf (p.seen nmDb) n⟩, by rw [← hao]; exact aside_has h1 h2 hP, rfl⟩
          · right
            rw [hpg5 n h1 (by omega), fd]
            refine pgsF_not _ _ n (fun x hx' hxn => ?_)
            apply hP
            rw [Bool.or_eq_true]
            right
            exact (hasPg_iff l n).2 ⟨x, List.mem_of_mem_take hx', hxn⟩
      obtain ⟨b1, b2, b3⟩ := back_calm q5 s s' ao T (p.seen nmDb) hc5 (by omega) (by rw [hj5]; exact fj) hp5 hss hI.pgs haoc haob (by omega) hpgs
      rw [b1, if_neg (by simp)]
      exact ⟨rfl, b2, b3⟩
theorem full_new (r : Int) : FullI (Pl.new r) 0 := ⟨⟨rfl, rfl, fun s => by show ([] : List Int).length ≤ _; simp, rfl⟩, rfl, rfl, w4zero⟩
end Go.Proofs.Ytegcbdfilkecpaa
/- The journal: the pages of a change fit, and what is behind them, in plain Lean. -/
namespace Go.Proofs.Ytegcbdfilkecpaa

theorem chPg_n {bs : List Int} {old j : Nat} {x : Pg} (h : x ∈ chPg bs old j) : x.n = (j : Int) + 1 := by
  unfold chPg at h
  split at h
  · rw [List.mem_singleton.1 h]
  · split at h
    · rw [List.mem_singleton.1 h]
    · cases h
theorem chPgs_n {bs : List Int} {old : Nat} : ∀ {j : Nat} {x : Pg}, x ∈ chPgs bs old j → 1 ≤ x.n ∧ x.n ≤ (j : Int)
  | 0, x, h => by cases h
  | j + 1, x, h => by
    unfold chPgs at h
    rcases List.mem_append.1 h with q | q
    · have := chPgs_n q
      omega
    · have := chPg_n q
      omega
theorem chPgs_ok {bs : List Int} (hb : ∀ y ∈ bs, 0 ≤ y ∧ y < 256) {old : Nat} : ∀ {j : Nat}, j ≤ 15 → ∀ x ∈ chPgs bs old j, PgOk x
  | 0, _, x, h => by cases h
  | j + 1, hj, x, h => by
    unfold chPgs at h
    rcases List.mem_append.1 h with q | q
    · exact chPgs_ok hb (by omega) x q
    · unfold chPg at q
      split at q
      · rename_i hc
        rw [List.mem_singleton.1 q]
        refine full_pg (by omega) (hb _ ?_)
        rw [List.getD_eq_getElem?_getD, List.getElem?_eq_getElem hc.1]
        exact List.getElem_mem _
      · split at q
        · rw [List.mem_singleton.1 q]
          exact full_pg (by omega) (by omega)
        · cases q
/-- every page above the old count is written -/
theorem chPgs_new {bs : List Int} {old : Nat} : ∀ {N j : Nat}, old ≤ j → j < N → ∃ x ∈ chPgs bs old N, x.n = (j : Int) + 1
  | 0, j, _, h => by omega
  | N + 1, j, ho, h => by
    by_cases e : j = N
    · subst e
      obtain ⟨x, hx⟩ : ∃ x, x ∈ chPg bs old j := by
        unfold chPg
        by_cases q : j < bs.length ∧ bs.getD j 0 ≠ 0
        · rw [if_pos q]; exact ⟨_, List.mem_singleton.2 rfl⟩
        · rw [if_neg q, if_pos ho]; exact ⟨_, List.mem_singleton.2 rfl⟩
      exact ⟨x, by unfold chPgs; exact List.mem_append_right _ hx, chPg_n hx⟩
    · obtain ⟨x, hx, hn⟩ := chPgs_new (bs := bs) (old := old) (N := N) ho (by omega)
      exact ⟨x, by unfold chPgs; exact List.mem_append_left _ hx, hn⟩
theorem chain_app (c : Int) : ∀ (l m : List Pg) (last : Int), chainPg c last l = true → (∀ x ∈ l, ∀ y ∈ m, x.n < y.n) → (∀ y ∈ m, last < y.n) → (m.length ≤ 1) → (∀ y ∈ m, y.n ≤ c) → chainPg c last (l ++ m) = true
  | [], m, last, _, _, h2, h3, h4 => by
    rcases m with _ | ⟨y, _ | ⟨z, r⟩⟩
    · rfl
    · rw [List.nil_append]
      unfold chainPg
      rw [decide_eq_true ⟨h2 y (List.mem_cons_self ..), h4 y (List.mem_cons_self ..)⟩]
      rfl
    · simp at h3
  | x :: r, m, last, h, h1, h2, h3, h4 => by
    rw [List.cons_append]
    unfold chainPg at h ⊢
    rw [Bool.and_eq_true] at h ⊢
    exact ⟨h.1, chain_app c r m x.n h.2 (fun a ha => h1 a (List.mem_cons_of_mem _ ha)) (fun y hy => h1 x (List.mem_cons_self ..) y hy) h3 h4⟩
theorem chPgs_chain (bs : List Int) (old : Nat) (c : Nat) : ∀ j : Nat, j ≤ c → chainPg (c : Int) 0 (chPgs bs old j) = true
  | 0, _ => rfl
  | j + 1, hj => by
    unfold chPgs
    refine chain_app _ _ _ _ (chPgs_chain bs old c j (by omega)) (fun x hx y hy => ?_) (fun y hy => ?_) (chPg_len bs old j) (fun y hy => ?_)
    · have := chPgs_n hx; have := chPg_n hy; omega
    · have := chPg_n hy; omega
    · have := chPg_n hy; omega
theorem chPgs_above (bs : List Int) (old : Nat) : ∀ j : Nat, above (old : Int) (chPgs bs old j) = j - old
  | 0 => by simp [chPgs, above]
  | j + 1 => by
    have ih := chPgs_above bs old j
    unfold above at ih ⊢
    unfold chPgs
    rw [List.countP_append, ih]
    unfold chPg
    by_cases ho : old ≤ j
    · have hd : decide ((old : Int) < (j : Int) + 1) = true := decide_eq_true (by omega)
      by_cases q : j < bs.length ∧ bs.getD j 0 ≠ 0
      · rw [if_pos q]; simp only [List.countP_cons, List.countP_nil, hd, if_true]; omega
      · rw [if_neg q, if_pos ho]; simp only [List.countP_cons, List.countP_nil, hd, if_true]; omega
    · have hd : decide ((old : Int) < (j : Int) + 1) = false := decide_eq_false (by omega)
      by_cases q : j < bs.length ∧ bs.getD j 0 ≠ 0
      · rw [if_pos q]; simp only [List.countP_cons, List.countP_nil, hd]; simp; omega
      · rw [if_neg q, if_neg ho, List.countP_nil]; omega
theorem fit_ch (bs : List Int) (old N : Nat) (hN : N ≤ 15) : fitPg (old : Int) (N : Int) (chPgs bs old N) = true := by
  unfold fitPg
  rw [decide_eq_true (by omega), chPgs_chain bs old N N (Nat.le_refl _), chPgs_above]
  simp
  omega
theorem fold_pgs (c : Nat) : ∀ (l : List Pg) (f : Nat → List Int), (∀ x ∈ l, 1 ≤ x.n ∧ x.n ≤ (c : Int)) → l.foldl setPg ((List.range' 1 c).map f) = (List.range' 1 c).map (pgsF f l)
  | [], f, _ => rfl
  | x :: r, f, h => by
    have hx := h x (List.mem_cons_self ..)
    have e : setPg ((List.range' 1 c).map f) x = (List.range' 1 c).map (fun (n : Nat) => if (n : Int) = x.n then x.b else f n) := by
      unfold setPg
      refine List.ext_getElem (by simp) (fun i h1 h2 => ?_)
      rw [List.getElem_set, List.getElem_map, List.getElem_map, List.getElem_range']
      by_cases q : x.n.toNat - 1 = i
      · rw [if_pos q, if_pos (by omega)]
      · rw [if_neg q, if_neg (by omega)]
    rw [List.foldl_cons, e, fold_pgs c r _ (fun y hy => h y (List.mem_cons_of_mem _ hy))]
    rfl
theorem pgsF_hit : ∀ (l : List Pg) (f g : Nat → List Int) (n : Nat), (∃ x ∈ l, x.n = (n : Int)) → pgsF f l n = pgsF g l n
  | [], f, g, n, h => by obtain ⟨x, hx, _⟩ := h; cases hx
  | x :: r, f, g, n, h => by
    unfold pgsF
    by_cases q : x.n = (n : Int)
    · exact pgsF_congr r _ _ n (by rw [if_pos q.symm, if_pos q.symm])
    · refine pgsF_hit r _ _ n ?_
      obtain ⟨y, hy, e⟩ := h
      rcases List.mem_cons.1 hy with z | z
      · subst z; exact absurd e q
      · exact ⟨y, z, e⟩
theorem pad_map (db : List Int) (s c : Nat) : padPg (allPg db s) c = (List.range' 1 c).map fun n => if n ≤ s then pageOf db n else zPg := by
  unfold padPg allPg
  refine List.ext_getElem (by simp; omega) (fun i h1 h2 => ?_)
  have hi : i < c := by simpa using h2
  rw [List.getElem_take, List.getElem_map, List.getElem_range']
  by_cases q : i < s
  · rw [List.getElem_append_left (by simpa using q), List.getElem_map, List.getElem_range', if_pos (by omega)]
  · rw [List.getElem_append_right (by simpa using q), List.getElem_replicate, if_neg (by omega)]
theorem after_all (db db2 : List Int) (bs : List Int) (s N : Nat) (h : ∀ n, 1 ≤ n → n ≤ N → pageOf db2 n = pgsF (pageOf db) (chPgs bs s N) n) : afterL (allPg db s) N (chPgs bs s N) = allPg db2 N := by
  unfold afterL
  rw [pad_map, fold_pgs N _ _ (fun x hx => chPgs_n hx)]
  unfold allPg
  refine List.map_congr_left (fun n hn => ?_)
  have hn1 : 1 ≤ n ∧ n ≤ N := by
    have := List.mem_range'.1 hn
    omega
  rw [h n hn1.1 hn1.2]
  by_cases q : n ≤ s
  · exact pgsF_congr _ _ _ n (by rw [if_pos q])
  · refine pgsF_hit _ _ _ n ?_
    obtain ⟨x, hx, e⟩ := chPgs_new (bs := bs) (old := s) (N := N) (j := n - 1) (by omega) (by omega)
    exact ⟨x, hx, by omega⟩
theorem recsPg_len (l : List Int) (top : Int) : ∀ (i k : Nat) (last : Int) (r : List Pg), recsPg l top i k last = some r → r.length = i
  | 0, k, last, r, h => by unfold recsPg at h; injection h with h; rw [← h]; rfl
  | i + 1, k, last, r, h => by
    rw [recsPg_succ] at h
    split at h
    · cases h
    · split at h
      · cases hq : recsPg l top i (k + 1) (num ((l.drop (64 + 320 * k)).take 320) 0) with
        | none => rw [hq] at h; cases h
        | some r2 =>
          rw [hq] at h
          injection h with h
          rw [← h, List.length_cons, recsPg_len l top i _ _ r2 hq]
      · cases h
theorem records_len {l : List Int} {w : W4} {r : List Pg} (h : recordsPg l w = some r) : r.length ≤ 4096 := by
  unfold recordsPg at h
  split at h
  · cases h
  · rename_i hc
    have := recsPg_len _ _ _ _ _ _ h
    omega
theorem aside_len9 (db : List Int) (old count : Nat) (l : List Pg) : (asidePg db old count l).length ≤ old := by
  unfold asidePg
  rw [List.length_map]
  have := List.length_filter_le (fun n => decide (count < n) || hasPg l n) (List.range' 1 old)
  rw [List.length_range'] at this
  exact this
theorem sm_recover {p : Pl} {k : Nat} (h : p.sm (k + 20000 * 4103)) : (p.jrecover).1.sm k := by
  unfold Pl.jrecover
  split
  · exact sm_mono h (by omega)
  · split
    · exact sm_mono h (by omega)
    · split
      · exact sm_mono h (by omega)
      · rename_i l hl
        have hlen := records_len hl
        refine sm_run _ (sm_mono h ?_)
        unfold Pl.recS homeS homeW headS
        simp only [List.length_append, List.length_cons, List.length_nil, List.length_map]
        omega
theorem sm_commit {p : Pl} {k s c : Nat} {l : List Pg} (hs : p.jcount = s) (hs2 : s ≤ 2000) (hl : l.length ≤ 2000) (h : p.sm (k + 400000000)) : (p.jcommit (c : Int) l).1.sm k := by
  have hfl : (p.jfirst (c : Int) l).length ≤ 2005 := by
    unfold Pl.jfirst firstS asideS headS
    have := aside_len9 (p.seen nmDb) p.jcount (c : Int).toNat l
    simp only [List.length_append, List.length_cons, List.length_nil, asideW_len]
    omega
  have hsl : (secondS (c : Int) l).length ≤ 2004 := by
    unfold secondS homeS homeW headS
    simp only [List.length_append, List.length_cons, List.length_nil, List.length_map]
    omega
  have h1 : (p.runS (p.jfirst (c : Int) l)).1.sm (k + 20000 * 4103 + 20000 * 2004) := sm_run _ (sm_mono h (by omega))
  have h2 : ((p.runS (p.jfirst (c : Int) l)).1.runS (secondS (c : Int) l)).1.sm (k + 20000 * 4103) := sm_run _ (sm_mono h1 (by omega))
  have h3 := sm_recover h2
  unfold Pl.jcommit
  dsimp only
  split
  · exact sm_mono h (by omega)
  · split
    · exact sm_mono h (by omega)
    · split
      · exact sm_mono h (by omega)
      · split
        · exact sm_mono h1 (by omega)
        · split
          · split
            · exact h3
            · exact h3
          · exact sm_mono h2 (by omega)
end Go.Proofs.Ytegcbdfilkecpaa
/- JournalFull: the function's own law; no condition but on the changes in memory. -/
namespace Go.Proofs.Ytegcbdfilkecpaa
open Go.RowKit

/-- a row of changes of the caller -/
def Chs (w : World) (A : Option Addr) (n : Nat) : Prop := ∀ k, k < n → ∃ (g o : Nat) (C : Int) (Ab : Option Addr) (nb cb : Nat) (bs : List Int), A = some ⟨g, o, none⟩ ∧ g < w.heap.size ∧ w.cell? ⟨g, o + k * 2, none⟩ = some (.int .i64 C) ∧ w.cell? ⟨g, o + k * 2 + 1, none⟩ = some (.slice Ab nb cb) ∧ Bs w Ab nb bs ∧ nb ≤ 9223372036854775807
theorem Chs.keep {w w' : World} {A : Option Addr} {n : Nat} (h : Chs w A n) (k : Kp NoB w w') : Chs w' A n := fun j hj => by
  obtain ⟨g, o, C, Ab, nb, cb, bs, e, hg, h0, h1, hb, hn⟩ := h j hj
  exact ⟨g, o, C, Ab, nb, cb, bs, e, Nat.lt_of_lt_of_le hg k.size, (k.cell hg (fun q => q)).trans h0, (k.cell hg (fun q => q)).trans h1, hb.keep k, hn⟩
theorem andR (C : Int) : ∃ N : Nat, N ≤ 16383 ∧ bits BinOp.and IntKind.i64 C 16383 = (N : Int) := by
  have e : bits BinOp.and IntKind.i64 C 16383 = IntKind.i64.wrap ((BitVec.ofInt 64 C &&& BitVec.ofInt 64 16383).toNat) := rfl
  have h : (BitVec.ofInt 64 C &&& BitVec.ofInt 64 16383).toNat ≤ 16383 := by
    rw [BitVec.toNat_and]
    exact Nat.and_le_right
  refine ⟨(BitVec.ofInt 64 C &&& BitVec.ofInt 64 16383).toNat, h, ?_⟩
  rw [e, IntKind.wrap_i64]
  omega
theorem own_none {w : World} {b e size n cap : Nat} {A : Option Addr} {xs : List Value} (h : w.ownsRow b e size (.slice A n cap) n xs) : A = none → n = 0 ∧ cap = 0 := by
  rcases h.2 with ⟨h0, h1⟩ | ⟨g, c, cur, hv, _⟩
  · injection h0 with a b c
    intro _
    exact ⟨b, c⟩
  · injection hv with a b c
    intro q
    rw [q] at a
    cases a
theorem raws_own2 {w : World} {n0 : Nat} {v : Value} {l : List (List Int)} (h : OwnRaw w n0 v l) {s : Nat} (hs : l.length = s) : ∃ A cap, v = .slice A s cap ∧ RawsAt w A s l ∧ (A = none → s = 0 ∧ cap = 0) ∧ (∀ g o, A = some ⟨g, o, none⟩ → n0 ≤ g) := by
  obtain ⟨A, cap, rfl⟩ := own_slice h.1
  refine ⟨A, cap, by rw [hs], raws_own (by rw [hs] at h; exact h) hs, by rw [← hs]; exact own_none h.1, fun g o e => ?_⟩
  subst e
  rcases h.1.2 with ⟨h0, _⟩ | ⟨g', c, cur, hv, hb, _⟩
  · cases h0
  · injection hv with a b c
    injection a with a
    injection a with a b
    omega
theorem pgs_own2 {w : World} {n0 : Nat} {v : Value} {l : List Pg} (h : OwnPgs w n0 v l) {s : Nat} (hs : l.length = s) : ∃ A cap, v = .slice A s cap ∧ PgsAt w A s l ∧ (∀ g o, A = some ⟨g, o, none⟩ → n0 ≤ g) := by
  subst hs
  obtain ⟨A, cap, rfl⟩ := own_slice h.1
  refine ⟨A, cap, rfl, Rows.own (base := n0) (cap := cap) (e := 113) ?_ (by simp) ?_, fun g o e => ?_⟩
  · have h1 := h.1
    unfold pgsCells at h1
    rw [List.flatMap_def] at h1
    exact h1
  · intro y hy
    obtain ⟨x, hx, rfl⟩ := List.mem_map.1 hy
    exact pgL_len (h.2 x hx)
  · subst e
    rcases h.1.2 with ⟨h0, _⟩ | ⟨g', c, cur, hv, hb, _⟩
    · cases h0
    · injection hv with a b c
      injection a with a
      injection a with a b
      omega
theorem RawsAt.keepS {S : Nat → Prop} {w w' : World} {A : Option Addr} {n : Nat} {l : List (List Int)} (h : RawsAt w A n l) (k : Kp S w w') (hA : ∀ g o, A = some ⟨g, o, none⟩ → 0 < n → ¬ S g) : RawsAt w' A n l := Rows.keepS h k hA
def JfRel (w : World) (n db : Nat) (v6 : Value) (wr : World) : Prop := ∃ (k s : Nat) (p : Pl), v6 = .int .i64 (k : Int) ∧ k ≤ n ∧ Dq (fun _ => False) w wr db p ∧ FullI p s ∧ s ≤ 15 ∧ p.sm ((10 - k) * 400000000)
attribute [local go_sem ↓] load26 store26 alloc26 build26 eql26
set_option maxRecDepth 100000 in
set_option maxHeartbeats 4000000 in
theorem jfull_ok (w : World) (A : Option Addr) (n cap : Nat) (hL : Chs w A n) (room : Int) : Calls Try.prog 4 #[.slice A n cap, .int .i64 room] w fun e w' => e = .returned (.bool true) ∧ Kp NoB w w' := by
  by_cases hbig : 10 < n
  · have hb : (10 : Int) < (n : Int) := by omega
    clear hL
    go_enter Try.func4, Try.ntmps4
    go_wp2_with (go_at_call 16; go_must (refine (jawake_ok _).mono ?_); rintro e w8 ⟨rfl, hk8⟩; have HK8 := Lib.hid hk8; clear hk8)
    go_ret
    exact ⟨rfl, HK8.out⟩
  · have hb : ¬ (10 : Int) < (n : Int) := by omega
    have HL := Lib.hid hL
    obtain ⟨R, hR, hbits⟩ := andR room
    clear hL
    go_enter Try.func4, Try.ntmps4
    go_wp2_with fail
    refine (new_q w (R : Int) (by omega)).mono ?_
    rintro e w1 ⟨db, rfl, h1⟩
    have H1 := Lib.hid h1
    clear h1
    unfold ptrV
    go_wp2_with fail
    go_loopw [6] (fun v6 wr => JfRel w n db v6 wr) (fun v _ => n - (intOf v).toNat)
    case atStart => exact ⟨0, 0, _, rfl, by omega, H1.out, full_new _, by omega, by unfold Pl.sm; show 0 + 0 + _ < _; omega⟩
    case round =>
      obtain ⟨wq, rfl⟩ : ∃ wq, wq = wr := ⟨_, rfl⟩
      obtain ⟨k, s, p, rfl, hk, hq, hI, hs, hsm⟩ := hrel
      have HQ := Lib.hid hq
      have HI := Lib.hid hI
      have HS := Lib.hid hs
      have HSM := Lib.hid hsm
      clear hq hI hs hsm
      by_cases hlt : k < n
      · have hkk : (k : Int) < (n : Int) := by omega
        go_wp2_with fail
        have hcnt := count_of HI.out.calm.up HI.out.pgs
        refine (show Calls _ _ #[ptrV db] _ _ from tell_q HQ.out (by rw [hcnt]; have := HS.out; omega)).mono ?_
        rintro e w2 ⟨v, rfl, how, hk2⟩
        rw [hcnt] at how
        obtain ⟨A1, c1, rfl, hraw, hnone, hge1⟩ := raws_own2 how (s := s) (by simp [allPg])
        have HROK := Lib.hid how.2
        have HRAW := Lib.hid hraw
        have HNONE := Lib.hid hnone
        have HGE1 := Lib.hid hge1
        have HK2 := Lib.hid hk2
        obtain ⟨g, o, C, Ab, nb, cb, bs, e, hg, hc0, hc1, hbs, hnb⟩ := (HL.out.keep (HQ.out.kp.trans hk2 (fun _ _ q => q))) k hlt
        subst e
        have HBS := Lib.hid hbs
        have HNB := Lib.hid hnb
        clear hcnt how hraw hnone hge1 hk2 hbs hnb
        go_wp2_with fail
        refine (pages_q w2 C Ab nb cb bs HBS.out HNB.out s (by have := HS.out; omega)).mono ?_
        rintro e w3 ⟨N, v, hN, rfl, hown, hk3⟩
        obtain ⟨m, hm⟩ : ∃ m, (chPgs bs s N).length = m := ⟨_, rfl⟩
        have hmN : m ≤ N := by rw [← hm]; exact chPgs_len bs s N
        obtain ⟨A2, c2, rfl, hpg, hge2⟩ := pgs_own2 hown hm
        have HN := Lib.hid hN
        have HM := Lib.hid hm
        have HMN := Lib.hid hmN
        have HPG := Lib.hid hpg
        have HGE2 := Lib.hid hge2
        have HK3 := Lib.hid hk3
        clear hN hm hmN hpg hge2 hk3 hown hg hc0 hc1
        go_wp2_with fail
        obtain ⟨S3, hq3, hS3⟩ := HQ.out.base
        have hk23 := HK2.out.trans HK3.out (fun _ _ q => q)
        have hlt3 := hq3.lt
        have hokl := chPgs_ok HBS.out.2.1 (old := s) HN.out
        have hcm := commit_q (hq3.base1 hk23) (N : Int) (by have := HN.out; omega) A2 m c2 _ HPG.out (fun g o e hn q => by have h1 := HGE2.out g o e; have h2 := hlt3 g q; have h3 := HK2.out.size; omega) hokl (by have := HMN.out; have := HN.out; omega) (sm_mono HSM.out (by omega))
        refine (show Calls _ _ #[ptrV db, .int .i64 (N : Int), .slice A2 m c2] _ _ from hcm).mono ?_
        clear hcm
        rintro e w4 ⟨rfl, h4⟩
        have hk4 := h4.kp
        have h5 := Dq.tr (w0 := w) h4 (HQ.out.kp.trans hk23 (fun _ _ q => q)) hS3 (fun b q => q.elim)
        have hraw4 := (HRAW.out.keep HK3.out).keepS hk4 (fun g o e _ q => by have h1 := HGE1.out g o e; have h2 := hlt3 g q; omega)
        have hpg4 : PgsAt w4 A2 m (chPgs bs s N) := Rows.keepS HPG.out hk4 (fun g o e _ q => by have h1 := HGE2.out g o e; have h2 := hlt3 g q; have h3 := HK2.out.size; omega)
        have hsmq := sm_commit (k := (10 - (k + 1)) * 400000000) (c := N) (l := chPgs bs s N) (count_of HI.out.calm.up HI.out.pgs) (by have := HS.out; omega) (by rw [HM.out]; have := HMN.out; have := HN.out; omega) (sm_mono HSM.out (by omega))
        have hcc := commit_calm p s N (chPgs bs s N) HI.out (by have := HS.out; omega) (fit_ch bs s N HN.out) (fun x hx => (hokl x hx).len)
        have H5 := Lib.hid h5
        have HRAW4 := Lib.hid hraw4
        have HPG4 := Lib.hid hpg4
        have HSMQ := Lib.hid hsmq
        have HOKL := Lib.hid hokl
        clear hq3 hS3 hk23 hlt3 h4 hk4 h5 hraw4 hpg4 hsmq hokl HRAW HPG HGE1 HGE2
        rcases hcc with ⟨e0, hI2, hpgs⟩ | ⟨e5, hI2, hsame⟩
        · rw [e0]
          obtain ⟨q, hq⟩ : ∃ q, (p.jcommit (N : Int) (chPgs bs s N)).1 = q := ⟨_, rfl⟩
          rw [hq] at H5 HSMQ hI2 hpgs
          have hall := after_all (p.seen nmDb) (q.seen nmDb) bs s N hpgs
          have HALL := Lib.hid hall
          have HI2 := Lib.hid hI2
          clear e0 hq hpgs hall hI2
          go_wp2_with fail
          refine (after_q w4 A1 A2 s m c1 c2 (allPg (p.seen nmDb) s) (chPgs bs s N) N HRAW4.out HNONE.out HROK.out HPG4.out (fun x hx => ⟨HOKL.out x hx, chPgs_n hx⟩) (by have := HS.out; omega) (by have := HMN.out; have := HN.out; omega) (by have := HN.out; omega)).mono ?_
          rintro e w5 ⟨v, rfl, how5, hk5⟩
          rw [HALL.out] at how5
          obtain ⟨A3, c3, rfl, hraw5, -, -⟩ := raws_own2 how5 (s := N) (by simp [allPg])
          have HOW5 := Lib.hid how5.2
          have HRAW5 := Lib.hid hraw5
          have HK5 := Lib.hid hk5
          clear how5 hraw5 hk5
          go_wp2_with fail
          have hcnt := count_of HI2.out.calm.up HI2.out.pgs
          refine (show Calls _ _ #[ptrV db] _ _ from tell_q (H5.out.keep HK5.out) (by rw [hcnt]; have := HN.out; omega)).mono ?_
          rintro e w6 ⟨v, rfl, how6, hk6⟩
          rw [hcnt] at how6
          obtain ⟨A4, c4, rfl, hraw6, -, -⟩ := raws_own2 how6 (s := N) (by simp [allPg])
          have HOW6 := Lib.hid how6.2
          have HRAW6 := Lib.hid hraw6
          have HK6 := Lib.hid hk6
          clear how6 hraw6 hk6 hcnt
          go_wp2_with fail
          refine (same_q w6 A4 A3 N N c4 c3 _ _ HRAW6.out (HRAW5.out.keep HK6.out) HOW6.out HOW5.out (by have := HN.out; omega) (by have := HN.out; omega)).mono ?_
          rintro e w7 ⟨rfl, hk7⟩
          rw [decide_eq_true rfl]
          have H7 := Lib.hid ((H5.out.keep HK5.out).keep (HK6.out.trans hk7 (fun _ _ q => q)))
          clear hk7
          go_wp2_with fail
          refine (show Calls _ _ #[ptrV db] _ _ from hot_q H7.out).mono ?_
          rintro e w8 ⟨rfl, hk8⟩
          rw [cold_hot HI2.out]
          have H8 := Lib.hid (H7.out.keep hk8)
          clear hk8
          go_wp2_with fail
          exact ⟨⟨k + 1, N, q, by congr 1, by omega, H8.out, HI2.out, HN.out, HSMQ.out⟩, by simp [intOf]; omega⟩
        · rw [e5]
          obtain ⟨q, hq⟩ : ∃ q, (p.jcommit (N : Int) (chPgs bs s N)).1 = q := ⟨_, rfl⟩
          rw [hq] at H5 HSMQ hI2 hsame
          have HSAME := Lib.hid hsame
          have HI2 := Lib.hid hI2
          clear e5 hq hsame hI2
          go_wp2_with fail
          have hcnt := count_of HI2.out.calm.up HI2.out.pgs
          refine (show Calls _ _ #[ptrV db] _ _ from tell_q H5.out (by rw [hcnt]; have := HS.out; omega)).mono ?_
          rintro e w6 ⟨v, rfl, how6, hk6⟩
          rw [hcnt, HSAME.out] at how6
          obtain ⟨A4, c4, rfl, hraw6, -, -⟩ := raws_own2 how6 (s := s) (by simp [allPg])
          have HOW6 := Lib.hid how6.2
          have HRAW6 := Lib.hid hraw6
          have HK6 := Lib.hid hk6
          clear how6 hraw6 hk6 hcnt
          go_wp2_with fail
          refine (same_q w6 A4 A1 s s c4 c1 _ _ HRAW6.out (HRAW4.out.keep HK6.out) HOW6.out HROK.out (by have := HS.out; omega) (by have := HS.out; omega)).mono ?_
          rintro e w7 ⟨rfl, hk7⟩
          rw [decide_eq_true rfl]
          have H7 := Lib.hid (H5.out.keep (HK6.out.trans hk7 (fun _ _ q => q)))
          clear hk7
          go_wp2_with fail
          refine (show Calls _ _ #[ptrV db] _ _ from hot_q H7.out).mono ?_
          rintro e w8 ⟨rfl, hk8⟩
          rw [cold_hot HI2.out]
          have H8 := Lib.hid (H7.out.keep hk8)
          clear hk8
          go_wp2_with fail
          exact ⟨⟨k + 1, s, q, by congr 1, by omega, H8.out, HI2.out, HS.out, HSMQ.out⟩, by simp [intOf]; omega⟩
      · have hkk : ¬ (k : Int) < (n : Int) := by omega
        go_wp2_with (go_at_call 16; go_must (refine (jawake_ok _).mono ?_); rintro e w8 ⟨rfl, hk8⟩; have HK8 := Lib.hid hk8; clear hk8)
        go_ret
        exact ⟨rfl, HQ.out.kp.trans HK8.out (fun _ _ q => q)⟩
end Go.Proofs.Ytegcbdfilkecpaa
/- How an argument that is a slice of structs is read; no condition. -/
namespace Go.Proofs.Ytegcbdfilkecpaa
open Go.ChangeShapes Go.WideShapes Go.Deep
section
variable {H : Type} {enc : TypeId × Value → H} {P : Program} {w : World} {base : Nat} {spare : Nat → Bool} {held : Bool}
theorem open_slice_fields {t e : TypeId} {fs : Array Field} {fuel : Nat} {cs : List Value} {x : DataW H × List MemPlace} (ht : P.underlying t = some (.slice e)) (he : P.underlying e = some (.struct fs))
    (hone : oneCellFields P fs = true) (hC : P.cellsOf e = fs.size) (h : DataW.trod enc P w base spare held fuel t cs = some x) :
    (cs = [.slice none 0 0] ∧ x = (.nil, [])) ∨
    ∃ (a : Addr) (len cap m : Nat) (D : Nat → DataW H) (Pl : Nat → List MemPlace), cs = [.slice (some a) len cap] ∧ base ≤ a.block ∧ len ≤ cap ∧ cap ≤ maxLen ∧ m = (if spare a.block then cap else len) ∧
      x = (.slice ((List.range len).map D) ((List.range (m - len)).map fun j => D (len + j)), MemPlace.row a (m * fs.size) ++ (List.range m).flatMap Pl) ∧
      ∀ i, i < m → ∃ (ys : List (DataW H × List MemPlace)) (n : Nat), D i = .agg (ys.map (·.1)) ∧ Pl i = ys.flatMap (·.2) ∧ ys.length = fs.size ∧
        ∀ (j : Nat) (f : Field), fs[j]? = some f → ∃ (v : Value) (y : DataW H × List MemPlace), w.cell? (a.add (i * fs.size + j)) = some v ∧ ys[j]? = some y ∧ DataW.trod enc P w base spare held n f.type [v] = some y := by
  rcases open_slice ht h with h0 | ⟨a, len, cap, m, n, D, Pl, hcs, hb, hl, hm, hmm, hx, hi⟩
  · exact .inl h0
  · refine .inr ⟨a, len, cap, m, D, Pl, hcs, hb, hl, hm, hmm, by rw [hC] at hx; exact hx, fun i him => ?_⟩
    obtain ⟨cs', hc, ht'⟩ := hi i him
    rw [hC] at hc
    obtain ⟨ys, n', hn', hy, hlen, hyl, hf⟩ := DataW.trod_struct he ht'
    obtain ⟨_, hcl, hat⟩ := World.cells?_some hc
    simp only [Prod.mk.injEq] at hy
    refine ⟨ys, n', hy.1, hy.2, hyl, fun j f hj => ?_⟩
    obtain ⟨ho, hk⟩ := hone_of hone j f hj
    have hjl : j < fs.size := (Array.getElem?_eq_some_iff.1 hj).1
    have hcell := hat j hjl
    have hv : cs'[j]? = some (cs'[j]'(by omega)) := List.getElem?_eq_getElem (by omega)
    have h1 := hf j f hj
    rw [ho, hk] at h1
    have hone' : (cs'.drop j).take 1 = [cs'[j]'(by omega)] := by
      rw [List.drop_eq_getElem_cons (by omega)]
      rfl
    rw [hone'] at h1
    have hys : ys[j]? = some (ys[j]'(by omega)) := List.getElem?_eq_getElem (by omega)
    refine ⟨_, _, ?_, hys, h1.trans hys⟩
    rw [← Go.Deep.add_add, hcell, hv]
end
end Go.Proofs.Ytegcbdfilkecpaa
