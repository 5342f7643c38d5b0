/- Texts of this proof, one behind the other: lemmas and contracts; each says its own conditions. -/
import Derived.Test.YtegcbdfilkecpaaS2
import Derived.Test.YtegcbdfilkecpaaS3
import Derived.Test.YtegcbdfilkecpaaS4
import Derived.Test.YtegcbdfilkecpaaS5
import Derived.BigQuiet
import Derived.Laws.Cover3
/- The log: two lists of pages are the same; condition: lists that may lie in memory. -/
namespace Go.Proofs.Ytegcbdfilkecpaa
open Go.RowKit

section
attribute [local go_sem ↓] load26 store26 alloc26 build26
set_option maxRecDepth 100000 in
set_option maxHeartbeats 1600000 in
theorem wsame_q (w : World) (A B : Option Addr) (m n ca cb : Nat) (la lb : List (List Int)) (ha : RawsAt w A m la) (hb : RawsAt w B n lb) (oka : rawOk la) (okb : rawOk lb) (hm : m < 1099511627776) (hn : n < 1099511627776) :
    Calls Try.prog 40 #[.slice A m ca, .slice B n cb] w fun e w' => e = .returned (.bool (decide (la = lb))) ∧ Kp NoB w w' := by
  have HA := Lib.hid ha
  have HB := Lib.hid hb
  have OA := Lib.hid oka
  have OB := Lib.hid okb
  have LA := Lib.hid ha.len
  have LB := Lib.hid hb.len
  clear ha hb oka okb
  by_cases hmn : m = n
  · subst hmn
    obtain ⟨D, hD⟩ : ∃ D, decide (la = lb) = D := ⟨_, rfl⟩
    have HD := Lib.hid hD
    rw [hD]
    clear hD
    have hmm : ((m : Int) != (m : Int)) = false := by simp
    go_enter Try.func40, Try.ntmps40
    go_wp2_with fail
    go_loopw [5] (fun v wr => SaRel w la lb v wr) (fun v _ => m - (intOf v).toNat)
    case atStart => exact ⟨0, rfl, Nat.zero_le _, by simp, Kp.refl _ _⟩
    case round =>
      obtain ⟨k, rfl, hk, htk, hkp⟩ := hrel
      have HT := Lib.hid htk
      have HK := Lib.hid hkp
      have hra := HA.out.keep hkp
      have hrb := HB.out.keep hkp
      clear htk hkp
      by_cases hlt : k < m
      · have hkk : (k : Int) < (m : Int) := by omega
        obtain ⟨ga, oa, rfl, hga, hca⟩ := hra.at_ k hlt
        obtain ⟨gb, ob, rfl, hgb, hcb⟩ := hrb.at_ k hlt
        obtain ⟨x, hx⟩ : ∃ x, la[k]'(by rw [LA.out]; exact hlt) = x := ⟨_, rfl⟩
        obtain ⟨y, hy⟩ : ∃ y, lb[k]'(by rw [LB.out]; exact hlt) = y := ⟨_, rfl⟩
        have hxo := (OA.out x (by rw [← hx]; exact List.getElem_mem _)).1
        have hyo := (OB.out y (by rw [← hy]; exact List.getElem_mem _)).1
        rw [hx] at hca
        rw [hy] at hcb
        have HX := Lib.hid (show la[k]? = some x by rw [List.getElem?_eq_getElem (by rw [LA.out]; exact hlt), hx])
        have HY := Lib.hid (show lb[k]? = some y by rw [List.getElem?_eq_getElem (by rw [LB.out]; exact hlt), hy])
        clear hra hrb hx hy
        go_upto_region 6 with fail
        refine wp_region_held_drew (S := fun W' => W'.rangeAt ga (oa + k * 256) (x.map (Value.int .u8)) ∧ W'.rangeAt gb (ob + k * 256) (y.map (Value.int .u8))) (by kernel_rfl) ⟨hca, hcb⟩ (fun hHeld => ?_)
        have hs0 : wr.drew.rangeAt ga (oa + k * 256) (x.map (Value.int .u8)) ∧ wr.drew.rangeAt gb (ob + k * 256) (y.map (Value.int .u8)) := ⟨hca, hcb⟩
        have HK0 := Lib.hid (HK.out.drew)
        have hix : (Try.prog.info? 24).map (·.size) = some (x.map (Value.int .u8)).length := by rw [List.length_map, hxo]; exact info26
        have hiy : (Try.prog.info? 24).map (·.size) = some (y.map (Value.int .u8)).length := by rw [List.length_map, hyo]; exact info26
        have hu := Try.underlying24
        generalize wr.drew = W0 at hs0 hHeld HK0 ⊢
        refine tkS (i := 0) (v := (.slice (some ⟨ga, oa, none⟩) m ca)) rfl (Or.inl ⟨by rfl, fun w' hq => by go_simp⟩) hs0 ?_
        simp only [Act.put, skA, skB, skC]
        refine tkS (i := 1) (v := (.int .i64 (k : Int))) rfl (Or.inl ⟨by rfl, fun w' hq => by go_simp⟩) hs0 ?_
        simp only [Act.put, skA, skB, skC]
        refine tkS (i := 2) (v := (.pointer (some ⟨ga, oa + k * 256, none⟩))) rfl (Or.inl ⟨by rfl, fun w' hq => by go_simp⟩) hs0 ?_
        simp only [Act.put, skA, skB, skC]
        refine tkS (i := 3) (v := .agg ((x.map (Value.int .u8))).toArray) rfl (yieldsIf_load_mid (by rfl) _ _ rfl _ _ rfl (x.map (Value.int .u8)) _ (fun _ q => q.1) hu rfl hix) hs0 ?_
        simp only [Act.put, skA, skB, skC]
        refine tkS (i := 4) (v := (.slice (some ⟨gb, ob, none⟩) m cb)) rfl (Or.inl ⟨by rfl, fun w' hq => by go_simp⟩) hs0 ?_
        simp only [Act.put, skA, skB, skC]
        refine tkS (i := 5) (v := (.int .i64 (k : Int))) rfl (Or.inl ⟨by rfl, fun w' hq => by go_simp⟩) hs0 ?_
        simp only [Act.put, skA, skB, skC]
        refine tkS (i := 6) (v := (.pointer (some ⟨gb, ob + k * 256, none⟩))) rfl (Or.inl ⟨by rfl, fun w' hq => by go_simp⟩) hs0 ?_
        simp only [Act.put, skA, skB, skC]
        refine tkS (i := 7) (v := .agg ((y.map (Value.int .u8))).toArray) rfl (yieldsIf_load_mid (by rfl) _ _ rfl _ _ rfl (y.map (Value.int .u8)) _ (fun _ q => q.2) hu rfl hiy) hs0 ?_
        simp only [Act.put, skA, skB, skC]
        obtain ⟨dd, hdd⟩ : ∃ dd, decide (x ≠ y) = dd := ⟨_, rfl⟩
        refine tkS (i := 8) (v := .bool dd) rfl (Or.inl ⟨by rfl, fun w' hq => neqPg w' _ _ _ _ dd rfl rfl hxo hyo hdd.symm⟩) hs0 ?_
        simp only [Act.put, skA, skB, skC]
        refine wpAnyH_done (by kernel_rfl) ?_ _
        have HDD := Lib.hid hdd
        clear hHeld hs0 hix hiy hu hca hcb hdd
        rcases dd with _ | _
        · have HEQ : Hid (x = y) := Lib.hid (by have := of_decide_eq_false HDD.out; simpa using this)
          go_wp2_with fail
          refine ⟨⟨k + 1, by congr 1, by have := LA.out; omega, ?_, HK0.out⟩, by simp [intOf]; omega⟩
          rw [List.take_add_one, List.take_add_one, HT.out, HX.out, HY.out, HEQ.out]
        · have HNE : Hid (x ≠ y) := Lib.hid (of_decide_eq_true HDD.out)
          have HF : Hid (D = false) := Lib.hid (by
            rw [← HD.out, decide_eq_false_iff_not]
            intro e
            have h1 := HX.out
            rw [e, HY.out] at h1
            injection h1 with h1
            exact HNE.out h1.symm)
          go_wp2_with fail
          go_ret
          exact ⟨by rw [HF.out]; rfl, HK0.out⟩
      · have hkk : ¬ (k : Int) < (m : Int) := by omega
        obtain rfl : k = m := by have := LA.out; omega
        have HF : Hid (D = true) := Lib.hid (by
          rw [← HD.out, decide_eq_true_iff]
          have h1 := HT.out
          rw [List.take_of_length_le (by rw [LA.out]; omega), List.take_of_length_le (by rw [LB.out]; omega)] at h1
          exact h1)
        clear hra hrb
        go_wp2_with fail
        go_ret
        exact ⟨by rw [HF.out]; rfl, HK.out⟩
  · have hd : decide (la = lb) = false := decide_eq_false (fun e => hmn (by rw [← LA.out, ← LB.out, e]))
    rw [hd]
    have h1 : ((m : Int) != (n : Int)) = true := by simp; omega
    have h2 : ((m : Int) == (n : Int)) = false := by simp; omega
    clear hd
    go_enter Try.func40, Try.ntmps40
    go_wp2_with fail
    go_ret
    exact ⟨rfl, Kp.refl _ _⟩
end
end Go.Proofs.Ytegcbdfilkecpaa
/- The log: the pages brought home, in plain Lean; no condition. -/
namespace Go.Proofs.Ytegcbdfilkecpaa
open Go

/-- how often a page's number is met -/
def cntN (l : List Fr) (n : Int) : Nat := (l.filter fun f => decide (f.n = n)).length
/-- the pages met first, among the first k frames gone over -/
def homeV (V : List Fr) (c : Int) : Nat → List Pg
  | 0 => []
  | k + 1 => if cntN (V.take k) (V.getD k ⟨0, 0, []⟩).n = 0 ∧ 0 < (V.getD k ⟨0, 0, []⟩).n ∧ (V.getD k ⟨0, 0, []⟩).n ≤ c then homeV V c k ++ [⟨(V.getD k ⟨0, 0, []⟩).n, (V.getD k ⟨0, 0, []⟩).b⟩] else homeV V c k
theorem cntN_snoc (l : List Fr) (f : Fr) (n : Int) : cntN (l ++ [f]) n = cntN l n + if f.n = n then 1 else 0 := by
  unfold cntN
  rw [List.filter_append, List.length_append]
  by_cases h : f.n = n
  · rw [if_pos h]; simp [h]
  · rw [if_neg h]; simp [h]
theorem cntN_le (l : List Fr) (n : Int) : cntN l n ≤ l.length := List.length_filter_le _ _
theorem cntN_zero (l : List Fr) (n : Int) : cntN l n = 0 ↔ l.find? (fun f => decide (f.n = n)) = none := by
  unfold cntN
  rw [List.length_eq_zero_iff, List.filter_eq_nil_iff, List.find?_eq_none]
theorem take_snoc (V : List Fr) (k : Nat) (h : k < V.length) : V.take (k + 1) = V.take k ++ [V.getD k ⟨0, 0, []⟩] := by
  rw [List.take_succ_eq_append_getElem h, List.getD_eq_getElem?_getD, List.getElem?_eq_getElem h]
  rfl
theorem homeV_len (V : List Fr) (c : Int) : ∀ k, (homeV V c k).length ≤ k
  | 0 => Nat.le_refl _
  | k + 1 => by
    have := homeV_len V c k
    unfold homeV
    split
    · rw [List.length_append]; simp; omega
    · omega
theorem homeV_mem (V : List Fr) (c : Int) (x : Pg) : ∀ k, k ≤ V.length → (x ∈ homeV V c k ↔ 0 < x.n ∧ x.n ≤ c ∧ ∃ f, (V.take k).find? (fun f => decide (f.n = x.n)) = some f ∧ x.b = f.b)
  | 0, _ => by simp [homeV]
  | k + 1, hk => by
    have ih := homeV_mem V c x k (by omega)
    rw [take_snoc V k (by omega), List.find?_append]
    unfold homeV
    generalize V.getD k ⟨0, 0, []⟩ = g at *
    by_cases hc : cntN (V.take k) g.n = 0 ∧ 0 < g.n ∧ g.n ≤ c
    · rw [if_pos hc, List.mem_append, ih, List.mem_singleton]
      have hz := (cntN_zero _ _).1 hc.1
      constructor
      · rintro (⟨h1, h2, f, h3, h4⟩ | rfl)
        · exact ⟨h1, h2, f, by rw [h3]; rfl, h4⟩
        · exact ⟨hc.2.1, hc.2.2, g, by dsimp only; rw [hz]; simp, rfl⟩
      · rintro ⟨h1, h2, f, h3, h4⟩
        cases hq : (V.take k).find? (fun f => decide (f.n = x.n)) with
        | some y =>
          rw [hq] at h3
          exact .inl ⟨h1, h2, f, by rw [← h3]; rfl, h4⟩
        | none =>
          rw [hq] at h3
          have h5 : [g].find? (fun f => decide (f.n = x.n)) = some f := h3
          rw [List.find?_cons] at h5
          split at h5
          · rename_i hd
            injection h5 with h5
            subst h5
            refine .inr ?_
            have : g.n = x.n := by simpa using hd
            cases x
            simp at this h4 ⊢
            exact ⟨this.symm, h4⟩
          · cases h5
    · rw [if_neg hc, ih]
      refine and_congr_right fun h1 => and_congr_right fun h2 => ?_
      constructor
      · rintro ⟨f, h3, h4⟩
        exact ⟨f, by rw [h3]; rfl, h4⟩
      · rintro ⟨f, h3, h4⟩
        cases hq : (V.take k).find? (fun f => decide (f.n = x.n)) with
        | some y =>
          rw [hq] at h3
          exact ⟨f, by rw [← h3]; rfl, h4⟩
        | none =>
          rw [hq] at h3
          have h5 : [g].find? (fun f => decide (f.n = x.n)) = some f := h3
          rw [List.find?_cons] at h5
          split at h5
          · rename_i hd
            have hx : g.n = x.n := by simpa using hd
            rw [hx] at hc
            exact absurd ⟨(cntN_zero _ _).2 hq, h1, h2⟩ hc
          · cases h5
theorem homeV_nodup (V : List Fr) (c : Int) : ∀ k, k ≤ V.length → (homeV V c k).Pairwise fun a b => a.n ≠ b.n
  | 0, _ => List.Pairwise.nil
  | k + 1, hk => by
    have ih := homeV_nodup V c k (by omega)
    unfold homeV
    split
    · rename_i hc
      refine List.pairwise_append.2 ⟨ih, List.pairwise_singleton _ _, fun a ha b hb => ?_⟩
      rw [List.mem_singleton.1 hb]
      obtain ⟨_, _, f, hf, _⟩ := (homeV_mem V c a k (by omega)).1 ha
      intro e
      dsimp only at e
      rw [e] at hf
      rw [(cntN_zero _ _).1 hc.1] at hf
      cases hf
    · exact ih
theorem pg_sorted_eq : ∀ {l r : List Pg}, l.Pairwise (fun a b => a.n < b.n) → r.Pairwise (fun a b => a.n < b.n) → (∀ x, x ∈ l ↔ x ∈ r) → l = r
  | [], [], _, _, _ => rfl
  | [], y :: r, _, _, h => by have := (h y).2 (List.mem_cons_self ..); cases this
  | x :: l, [], _, _, h => by have := (h x).1 (List.mem_cons_self ..); cases this
  | x :: l, y :: r, hl, hr, h => by
    rw [List.pairwise_cons] at hl hr
    have hxy : x = y := by
      rcases List.mem_cons.1 ((h x).1 (List.mem_cons_self ..)) with q | q
      · exact q
      · rcases List.mem_cons.1 ((h y).2 (List.mem_cons_self ..)) with z | z
        · exact z.symm
        · have := hr.1 x q; have := hl.1 y z; omega
    subst hxy
    refine congrArg _ (pg_sorted_eq hl.2 hr.2 fun z => ?_)
    constructor
    · intro hz
      rcases List.mem_cons.1 ((h z).1 (List.mem_cons_of_mem _ hz)) with q | q
      · subst q; have := hl.1 z hz; omega
      · exact q
    · intro hz
      rcases List.mem_cons.1 ((h z).2 (List.mem_cons_of_mem _ hz)) with q | q
      · subst q; have := hr.1 z hz; omega
      · exact q
theorem whome_sorted (p : Pl) (fs : List Fr) (m : Int) : (p.whome fs m).Pairwise fun a b => a.n < b.n := by
  unfold Pl.whome
  rw [List.pairwise_map]
  refine List.Pairwise.imp ?_ ((List.pairwise_lt_range' (s := 1) (n := (wcount p fs m).toNat)).filter _)
  intro a b h
  show (a : Int) < b
  omega
theorem whome_mem (p : Pl) (fs : List Fr) (m : Int) (x : Pg) : x ∈ p.whome fs m ↔ 0 < x.n ∧ x.n ≤ wcount p fs m ∧ ∃ f, lastFr (fs.take m.toNat) x.n = some f ∧ x.b = f.b := by
  unfold Pl.whome
  rw [List.mem_map]
  constructor
  · rintro ⟨n, hn, rfl⟩
    rw [List.mem_filter, List.mem_range'_1] at hn
    obtain ⟨⟨h1, h2⟩, h3⟩ := hn
    refine ⟨by dsimp only; omega, by dsimp only; omega, ?_⟩
    dsimp only
    cases hf : lastFr (fs.take m.toNat) (n : Int) with
    | some f => exact ⟨f, rfl, by unfold wpage; rw [hf]⟩
    | none =>
      unfold lastFr at hf
      rw [List.find?_eq_none] at hf
      obtain ⟨f, hf1, hf2⟩ := List.any_eq_true.1 h3
      exact absurd hf2 (hf f (List.mem_reverse.2 hf1))
  · rintro ⟨h1, h2, f, hf, hb⟩
    refine ⟨x.n.toNat, ?_, ?_⟩
    · rw [List.mem_filter, List.mem_range'_1]
      refine ⟨⟨by omega, by omega⟩, ?_⟩
      have e : ((x.n.toNat : Nat) : Int) = x.n := by omega
      rw [e]
      refine List.any_eq_true.2 ⟨f, ?_, ?_⟩
      · exact List.mem_reverse.1 (List.mem_of_find?_eq_some hf)
      · exact List.find?_some (p := fun f : Fr => decide (f.n = x.n)) hf
    · have e : ((x.n.toNat : Nat) : Int) = x.n := by omega
      rw [e]
      unfold wpage
      rw [hf]
      cases x
      simp at hb ⊢
      exact hb.symm
theorem lastFr_rev (fs : List Fr) (m : Nat) (n : Int) : lastFr (fs.take m) n = (fs.take m).reverse.find? fun f => decide (f.n = n) := rfl
theorem rev_getD (fs : List Fr) (m k : Nat) (hm : m ≤ fs.length) (hk : k < m) : (fs.take m).reverse.getD k ⟨0, 0, []⟩ = fs.getD (m - 1 - k) ⟨0, 0, []⟩ := by
  have hl : (fs.take m).length = m := by rw [List.length_take]; omega
  rw [List.getD_eq_getElem?_getD, List.getD_eq_getElem?_getD, List.getElem?_reverse (by omega), hl, List.getElem?_take, if_pos (by omega)]
/-- the pages met first, sorted by their numbers, are the pages brought home -/
theorem home_is (p : Pl) (fs : List Fr) (m : Nat) (hm : m ≤ fs.length) (l : List Pg) (h : l.Perm (homeV (fs.take m).reverse (wcount p fs m) m)) (hs : l.Pairwise fun a b => ¬ b.n < a.n) : l = p.whome fs m := by
  have hl : (fs.take m).reverse.length = m := by rw [List.length_reverse, List.length_take]; omega
  have hn : l.Pairwise fun a b => a.n ≠ b.n := (List.Perm.pairwise_iff (fun {a b} (q : a.n ≠ b.n) => Ne.symm q) h).2 (homeV_nodup _ _ m (by omega))
  refine pg_sorted_eq ((hs.and hn).imp fun {a b} q => by have := q.1; have := q.2; omega) (whome_sorted p fs m) fun x => ?_
  rw [h.mem_iff, homeV_mem _ _ x m (by omega), whome_mem, List.take_of_length_le (by omega)]
  rfl
/-- the last frame of a page by going back over the frames -/
theorem lastFr_at (fs : List Fr) (m k : Nat) (n : Int) (hm : m ≤ fs.length) (hk : k < m) (h1 : ∀ j, j < k → (fs.getD (m - 1 - j) ⟨0, 0, []⟩).n ≠ n) (h2 : (fs.getD (m - 1 - k) ⟨0, 0, []⟩).n = n) : lastFr (fs.take m) n = some (fs.getD (m - 1 - k) ⟨0, 0, []⟩) := by
  have hl : (fs.take m).reverse.length = m := by rw [List.length_reverse, List.length_take]; omega
  have hz : ∀ j, j < k → ((fs.take m).reverse.getD j ⟨0, 0, []⟩).n ≠ n := fun j hj => by rw [rev_getD fs m j hm (by omega)]; exact h1 j hj
  rw [← rev_getD fs m k hm hk] at h2 ⊢
  rw [lastFr_rev]
  generalize (fs.take m).reverse = V at *
  have e : V = V.take k ++ V.drop k := (List.take_append_drop ..).symm
  have hd : V.drop k = V.getD k ⟨0, 0, []⟩ :: V.drop (k + 1) := by
    rw [List.drop_eq_getElem_cons (by omega), List.getD_eq_getElem?_getD, List.getElem?_eq_getElem (by omega)]
    rfl
  have hnone : (V.take k).find? (fun f => decide (f.n = n)) = none := by
    rw [List.find?_eq_none]
    intro f hf
    obtain ⟨j, hj, rfl⟩ := List.mem_iff_getElem.1 hf
    rw [List.length_take] at hj
    have := hz j (by omega)
    rw [List.getD_eq_getElem?_getD, List.getElem?_eq_getElem (by omega)] at this
    rw [List.getElem_take]
    simpa using this
  conv => lhs; rw [e]
  rw [List.find?_append, hnone, hd, List.find?_cons, decide_eq_true h2]
  rfl
theorem lastFr_none (fs : List Fr) (m : Nat) (n : Int) (hm : m ≤ fs.length) (h1 : ∀ j, j < m → (fs.getD (m - 1 - j) ⟨0, 0, []⟩).n ≠ n) : lastFr (fs.take m) n = none := by
  have hl : (fs.take m).length = m := by rw [List.length_take]; omega
  unfold lastFr
  rw [List.find?_eq_none]
  intro f hf
  obtain ⟨j, hj, rfl⟩ := List.mem_iff_getElem.1 (List.mem_reverse.1 hf)
  rw [hl] at hj
  have := h1 (m - 1 - j) (by omega)
  rw [show m - 1 - (m - 1 - j) = j by omega, List.getD_eq_getElem?_getD, List.getElem?_eq_getElem (by omega)] at this
  rw [List.getElem_take]
  simpa using this
end Go.Proofs.Ytegcbdfilkecpaa
/- The log's types in memory: frames and the log itself; no condition. -/
namespace Go.Proofs.Ytegcbdfilkecpaa
open Go.RowKit

/-- a frame as it is read: its page's bytes are a text -/
def frL (f : Fr) : List Value := .int .i64 f.n :: ((zeros 256).map (Value.int .u8) ++ [.int .i64 f.en, .string (strOf f.b)])
/-- a frame as it is made: its page's bytes are there -/
def fnL (f : Fr) : List Value := .int .i64 f.n :: (f.b.map (Value.int .u8) ++ [.int .i64 f.en, .string ⟨#[]⟩])
theorem frL_len (f : Fr) : (frL f).length = 259 := by
  unfold frL
  rw [List.length_cons, List.length_append, List.length_map]
  unfold zeros
  rw [List.length_replicate]
  rfl
theorem fnL_len {f : Fr} (h : f.b.length = 256) : (fnL f).length = 259 := by simp [fnL, h]
theorem frL_one (f : Fr) : ∀ u ∈ frL f, u.oneCell' = true := by
  intro u hu
  unfold frL at hu
  rcases List.mem_cons.1 hu with rfl | hu
  · rfl
  · rcases List.mem_append.1 hu with hu | hu
    · exact u8_one _ u hu
    · simp only [List.mem_cons, List.not_mem_nil, or_false] at hu
      rcases hu with rfl | rfl <;> rfl
theorem fnL_one (f : Fr) : ∀ u ∈ fnL f, u.oneCell' = true := by
  intro u hu
  unfold fnL at hu
  rcases List.mem_cons.1 hu with rfl | hu
  · rfl
  · rcases List.mem_append.1 hu with hu | hu
    · exact u8_one _ u hu
    · simp only [List.mem_cons, List.not_mem_nil, or_false] at hu
      rcases hu with rfl | rfl <;> rfl
theorem ones_of {l : List Value} (h : ∀ u ∈ l, u.oneCell' = true) : ones l.toArray := by
  unfold ones
  simp only [List.all_toArray', List.all_eq_true]
  exact h
def fr0 : Array Value := (fnL ⟨0, 0, zeros 256⟩).toArray
theorem infoFr : (Try.prog.info? 171).map (fun i => (i.zero, i.size, i.bytes)) = some (some (.agg ((#[.int .i64 0] : Array Value) ++ Array.replicate 256 (.int .u8 0) ++ #[.int .i64 0, .string ⟨#[]⟩])), 259, 288) := by kernel_rfl
theorem infoFrS : (Try.prog.info? 171).map (·.size) = some 259 := by kernel_rfl
theorem zeroFr (w : World) : (zeroValue 171).run Try.prog w = .ok (.agg fr0) w := by kernel_rfl
theorem loadFr (w : World) (ev : Operand → Value) (ds : Option Tmp) (x : Operand) (ty : TypeId) (ps : String) (af : Array Edge) (g : Option (Nat × Bool)) (h : thereP w (ev x) 259) :
    (execOp ev ⟨ds, .load 171 x, ty, ps, af, g⟩).run Try.prog w = .ok (.value (.agg (readP w (ev x) 259))) w := execLoad_P Try.underlying171 rfl infoFrS w ev ds x ty ps af g h
theorem storeFr (w : World) (ev : Operand → Value) (ds : Option Tmp) (x y : Operand) (ty : TypeId) (ps : String) (af : Array Edge) (g : Option (Nat × Bool)) (hv : aggOK (ev y) 259) (h : thereP w (ev x) 259) :
    (execOp ev ⟨ds, .store 171 x y, ty, ps, af, g⟩).run Try.prog w = .ok .skip (setP w (ev x) (ev y)) := execStore_P infoFrS w ev ds x y ty ps af g hv h
theorem allocFr (w : World) (ev : Operand → Value) (ds : Option Tmp) (ty : TypeId) (ps : String) (af : Array Edge) (g : Option (Nat × Bool)) :
    (execOp ev ⟨ds, .alloc 171, ty, ps, af, g⟩).run Try.prog w = .ok (.value (.pointer (some ⟨w.heap.size, 0, none⟩))) (w.alloc (.cells fr0 171)) := by
  simp only [execOp, Instr.alloc, Sem.run_bind, zeroFr, Result.andThen_ok]
  rfl
theorem buildFr0 (w : World) (ev : Operand → Value) (ds : Option Tmp) (ty : TypeId) (ps : String) (af : Array Edge) (g : Option (Nat × Bool)) :
    (execOp ev ⟨ds, .build 171 #[], ty, ps, af, g⟩).run Try.prog w = .ok (.value (.agg fr0)) w := by
  kernel_rfl
theorem sliceFr (w : World) (cs : Array Value) (hs : cs.size = 259) : (Instr.buildSlice 161 1 #[(0, .agg cs)]).run Try.prog w = .ok (.slice (some ⟨w.heap.size, 0, none⟩) 1 1) (w.alloc (.cells cs 171)) := by
  obtain ⟨i, hi, h0, h1, h2⟩ := info_parts infoFr
  have hu := Try.underlying161
  have hc : (Value.agg cs).cells = cs := rfl
  have hf : ∀ Z : Array Value, Z.size = 259 → Instr.fill (fun i => some (i * 259, 259)) Z [(0, .agg cs)] = some cs := fun Z hZ => by
    have := Go.Great.fill_whole (s := 259) (by omega) [.agg cs] Z (by simp [hc, hs]) (by simp [hZ])
    simpa [hc] using this
  simp [Instr.buildSlice, run_underlying hu, sizeOf, typeInfo, hi, h1, zeroFr, newRow, newObj]
  rw [hf _ (by simp)]
  rfl
theorem exSliceFr (w : World) (ev : Operand → Value) (x : Operand) (cs : Array Value) (ds : Option Tmp) (ty : TypeId) (ps : String) (af : Array Edge) (g : Option (Nat × Bool)) (hx : ev x = .agg cs) (hs : cs.size = 259) :
    (execOp ev ⟨ds, .buildSlice 161 1 #[(0, x)], ty, ps, af, g⟩).run Try.prog w = .ok (.value (.slice (some ⟨w.heap.size, 0, none⟩) 1 1)) (w.alloc (.cells cs 171)) := by
  simp only [execOp, List.map_toArray, List.map_cons, List.map_nil, hx, Sem.run_bind, sliceFr w cs hs, Result.andThen_ok]
  rfl
/-- a part filled in -/
theorem zf (off : Nat) : ∀ (xs : List Value) (k : Nat) (cs : Array Value), (xs.zipIdx k).foldl (fun cs (x : Value × Nat) => cs.setIfInBounds (off + x.2) x.1) cs = spl cs (off + k) xs
  | [], _, _ => rfl
  | v :: r, k, cs => by
    rw [List.zipIdx_cons, List.foldl_cons, zf off r (k + 1)]
    rfl
theorem fill_at (place : Nat → Option (Nat × Nat)) (i : Nat) (v : Value) (rest : List (Nat × Value)) (xa xb xd xs : List Value) (hp : place i = some (xa.length, xs.length)) (hv : v.cells = xs.toArray) (hl : xb.length = xs.length) :
    Instr.fill place (xa ++ xb ++ xd).toArray ((i, v) :: rest) = Instr.fill place (xa ++ xs ++ xd).toArray rest := by
  conv => lhs; unfold Instr.fill
  rw [hp]
  dsimp only
  rw [if_neg (by rw [hv]; simp; omega), hv]
  congr 1
  have e : xs.toArray.zipIdx.foldl (fun cs (x : Value × Nat) => cs.setIfInBounds (xa.length + x.2) x.1) (xa ++ xb ++ xd).toArray = (xs.zipIdx 0).foldl (fun cs (x : Value × Nat) => cs.setIfInBounds (xa.length + x.2) x.1) (xa ++ xb ++ xd).toArray := by
    rw [← Array.foldl_toList, Array.toList_zipIdx]
  refine e.trans ?_
  rw [zf, Nat.add_zero, spl_eq xs xa xb xd hl]
def plFr : Nat → Option (Nat × Nat) := fun i => (#[(0, 257), (257, 1), (258, 1)] : Array (Nat × Nat))[i]?
theorem built_fr (parts : List (Nat × Value)) : Try.prog.built 171 parts = Instr.fill plFr fr0 parts := by kernel_rfl
theorem fill_fr (n en : Int) (b : List Int) (s : ByteArray) (hb : b.length = 256) : Instr.fill plFr fr0 [(0, .agg (pgA ⟨n, b⟩)), (1, .int .i64 en), (2, .string s)] = some (.int .i64 n :: (b.map (Value.int .u8) ++ [.int .i64 en, .string s])).toArray := by
  have hlz : (pgL ⟨0, zeros 256⟩).length = 257 := by unfold pgL; rw [List.length_cons, List.length_map]; unfold zeros; rw [List.length_replicate]
  have hlb : (pgL ⟨n, b⟩).length = 257 := by unfold pgL; rw [List.length_cons, List.length_map, hb]
  have e0 : fr0 = ([] ++ pgL ⟨0, zeros 256⟩ ++ [Value.int .i64 0, Value.string ⟨#[]⟩]).toArray := by unfold fr0 fnL pgL; simp only [List.nil_append, List.cons_append]
  rw [e0, fill_at plFr 0 (.agg (pgA ⟨n, b⟩)) _ [] (pgL ⟨0, zeros 256⟩) [.int .i64 0, .string ⟨#[]⟩] (pgL ⟨n, b⟩) (by rw [hlb]; rfl) rfl (by rw [hlz, hlb])]
  have e1 : ([] ++ pgL ⟨n, b⟩ ++ [.int .i64 0, .string ⟨#[]⟩] : List Value) = pgL ⟨n, b⟩ ++ [.int .i64 0] ++ [.string ⟨#[]⟩] := by simp
  rw [e1, fill_at plFr 1 (.int .i64 en) _ (pgL ⟨n, b⟩) [.int .i64 0] [.string ⟨#[]⟩] [.int .i64 en] (by rw [hlb]; rfl) rfl rfl]
  have e2 : (pgL ⟨n, b⟩ ++ [.int .i64 en] ++ [.string ⟨#[]⟩] : List Value) = (pgL ⟨n, b⟩ ++ [.int .i64 en]) ++ [.string ⟨#[]⟩] ++ [] := by simp
  rw [e2]
  refine (fill_at plFr 2 (.string s) [] (pgL ⟨n, b⟩ ++ [.int .i64 en]) [.string ⟨#[]⟩] [] [.string s] (by rw [List.length_append, hlb]; rfl) rfl rfl).trans ?_
  unfold Instr.fill pgL
  simp
theorem buildFr3 (w : World) (n en : Int) (b : List Int) (s : ByteArray) (hb : b.length = 256) : (Instr.build 171 #[(0, .agg (pgA ⟨n, b⟩)), (1, .int .i64 en), (2, .string s)]).run Try.prog w = .ok (.agg (.int .i64 n :: (b.map (Value.int .u8) ++ [.int .i64 en, .string s])).toArray) w :=
  run_build w 171 _ _ ((built_fr _).trans (fill_fr n en b s hb))
theorem exBuildFr3 (w : World) (ev : Operand → Value) (x y z : Operand) (n en : Int) (b : List Int) (s : ByteArray) (hb : b.length = 256) (ds : Option Tmp) (ty : TypeId) (ps : String) (af : Array Edge) (g : Option (Nat × Bool)) (hx : ev x = .agg (pgA ⟨n, b⟩)) (hy : ev y = .int .i64 en) (hz : ev z = .string s) :
    (execOp ev ⟨ds, .build 171 #[(0, x), (1, y), (2, z)], ty, ps, af, g⟩).run Try.prog w = .ok (.value (.agg (.int .i64 n :: (b.map (Value.int .u8) ++ [.int .i64 en, .string s])).toArray)) w := by
  simp only [execOp, List.map_toArray, List.map_cons, List.map_nil, hx, hy, hz, Sem.run_bind, buildFr3 _ _ _ _ _ hb, Result.andThen_ok]
  rfl
/-- a frame built of a page alone -/
theorem fill_fr1 (n : Int) (b : List Int) (hb : b.length = 256) : Instr.fill plFr fr0 [(0, .agg (pgA ⟨n, b⟩))] = some (fnL ⟨n, 0, b⟩).toArray := by
  have hlz : (pgL ⟨0, zeros 256⟩).length = 257 := by unfold pgL; rw [List.length_cons, List.length_map]; unfold zeros; rw [List.length_replicate]
  have hlb : (pgL ⟨n, b⟩).length = 257 := by unfold pgL; rw [List.length_cons, List.length_map, hb]
  have e0 : fr0 = ([] ++ pgL ⟨0, zeros 256⟩ ++ [Value.int .i64 0, Value.string ⟨#[]⟩]).toArray := by unfold fr0 fnL pgL; simp only [List.nil_append, List.cons_append]
  rw [e0, fill_at plFr 0 (.agg (pgA ⟨n, b⟩)) _ [] (pgL ⟨0, zeros 256⟩) [.int .i64 0, .string ⟨#[]⟩] (pgL ⟨n, b⟩) (by rw [hlb]; rfl) rfl (by rw [hlz, hlb])]
  unfold Instr.fill fnL pgL
  simp only [List.nil_append, List.cons_append]
theorem exBuildFr1 (w : World) (ev : Operand → Value) (x : Operand) (n : Int) (b : List Int) (hb : b.length = 256) (ds : Option Tmp) (ty : TypeId) (ps : String) (af : Array Edge) (g : Option (Nat × Bool)) (hx : ev x = .agg (pgA ⟨n, b⟩)) :
    (execOp ev ⟨ds, .build 171 #[(0, x)], ty, ps, af, g⟩).run Try.prog w = .ok (.value (.agg (fnL ⟨n, 0, b⟩).toArray)) w := by
  simp only [execOp, List.map_toArray, List.map_cons, List.map_nil, hx, Sem.run_bind, run_build w 171 _ _ ((built_fr _).trans (fill_fr1 n b hb)), Result.andThen_ok]
  rfl
end Go.Proofs.Ytegcbdfilkecpaa
/- The log: the small functions that read a frame: number, at; condition: a text of four bytes. -/
namespace Go.Proofs.Ytegcbdfilkecpaa
open Go.RowKit

set_option maxRecDepth 100000 in
set_option maxHeartbeats 1600000 in
theorem number_q (w : World) (b : List Int) (hb : ∀ y ∈ b, 0 ≤ y ∧ y < 256) (hl : 4 ≤ b.length) :
    Calls Try.prog 166 #[.string (strOf b)] w fun e w' => e = .returned (.int .i64 (num b 0)) ∧ Kp NoB w w' := by
  have HBR := Lib.hid hb
  obtain ⟨s, hs⟩ : ∃ s, strOf b = s := ⟨_, rfl⟩
  have HS := Lib.hid hs
  have HIX : Hid (∀ j, j < b.length → ∀ W, (Instr.index 9 (.string s) (.int .i64 ((j : Nat) : Int))).run Try.prog W = .ok (.int .u8 (b.getD j 0)) W) := Lib.hid (fun j hj W => idxStr HS.out HBR.out hj W)
  have HL := Lib.hid hl
  rw [hs]
  clear hb hs hl
  go_enter Try.func166, Try.ntmps166
  go_upto_region 1 with fail
  have hix0 : ∀ W, (Instr.index 9 (.string s) (.int .i64 0)).run Try.prog W = .ok (.int .u8 (b.getD 0 0)) W := HIX.out 0 (by have := HL.out; omega)
  have hix1 : ∀ W, (Instr.index 9 (.string s) (.int .i64 1)).run Try.prog W = .ok (.int .u8 (b.getD 1 0)) W := HIX.out 1 (by have := HL.out; omega)
  have hix2 : ∀ W, (Instr.index 9 (.string s) (.int .i64 2)).run Try.prog W = .ok (.int .u8 (b.getD 2 0)) W := HIX.out 2 (by have := HL.out; omega)
  have hix3 : ∀ W, (Instr.index 9 (.string s) (.int .i64 3)).run Try.prog W = .ok (.int .u8 (b.getD 3 0)) W := HIX.out 3 (by have := HL.out; omega)
  have hnum : num b 0 = b.getD 0 0 * 16777216 + b.getD 1 0 * 65536 + b.getD 2 0 * 256 + b.getD 3 0 := rfl
  have g0 := getD_rng HBR.out 0
  have g1 := getD_rng HBR.out 1
  have g2 := getD_rng HBR.out 2
  have g3 := getD_rng HBR.out 3
  generalize b.getD 0 0 = b0 at hix0 hnum g0
  generalize b.getD 1 0 = b1 at hix1 hnum g1
  generalize b.getD 2 0 = b2 at hix2 hnum g2
  generalize b.getD 3 0 = b3 at hix3 hnum g3
  have hwb0 : IntKind.i64.wrap (b0 * 16777216) = b0 * 16777216 := by rw [IntKind.wrap_i64]; omega
  have hwb1 : IntKind.i64.wrap (b1 * 65536) = b1 * 65536 := by rw [IntKind.wrap_i64]; omega
  have hwb2 : IntKind.i64.wrap (b2 * 256) = b2 * 256 := by rw [IntKind.wrap_i64]; omega
  have hwc0 : IntKind.i64.wrap b0 = b0 := by rw [IntKind.wrap_i64]; omega
  have hwc1 : IntKind.i64.wrap b1 = b1 := by rw [IntKind.wrap_i64]; omega
  have hwc2 : IntKind.i64.wrap b2 = b2 := by rw [IntKind.wrap_i64]; omega
  have hwc3 : IntKind.i64.wrap b3 = b3 := by rw [IntKind.wrap_i64]; omega
  have ho1 : bits BinOp.or IntKind.i64 (b0 * 16777216) (b1 * 65536) = b0 * 16777216 + b1 * 65536 := or_sum 24 (by omega) b0 (b1 * 65536) (by omega) (by omega) (by omega) (by show _ < (16777216 : Int); omega)
  have ho2 : bits BinOp.or IntKind.i64 (b0 * 16777216 + b1 * 65536) (b2 * 256) = b0 * 16777216 + b1 * 65536 + b2 * 256 := by
    have := or_sum 16 (by omega) (b0 * 256 + b1) (b2 * 256) (by omega) (by omega) (by omega) (by show _ < (65536 : Int); omega)
    rw [show (b0 * 256 + b1) * (2 : Int) ^ 16 = b0 * 16777216 + b1 * 65536 by rw [show (2 : Int) ^ 16 = 65536 from rfl]; omega] at this
    exact this
  have ho3 : bits BinOp.or IntKind.i64 (b0 * 16777216 + b1 * 65536 + b2 * 256) b3 = b0 * 16777216 + b1 * 65536 + b2 * 256 + b3 := by
    have := or_sum 8 (by omega) (b0 * 65536 + b1 * 256 + b2) b3 (by omega) (by omega) (by omega) (by show _ < (256 : Int); omega)
    rw [show (b0 * 65536 + b1 * 256 + b2) * (2 : Int) ^ 8 = b0 * 16777216 + b1 * 65536 + b2 * 256 by rw [show (2 : Int) ^ 8 = 256 from rfl]; omega] at this
    exact this
  refine wp_region_held_drew (S := fun _ => True) (by kernel_rfl) trivial (fun hHeld => ?_)
  refine tkS (i := 0) (v := (.string s)) rfl (Or.inl ⟨by rfl, fun w' hq => by go_simp⟩) trivial ?_
  simp only [Act.put, skA, skB, skC]
  refine tkS (i := 1) (v := (.int .u8 b0)) rfl (Or.inl ⟨by rfl, fun w' hq => by go_simp⟩) trivial ?_
  simp only [Act.put, skA, skB, skC]
  refine tkS (i := 2) (v := (.int .i64 b0)) rfl (Or.inl ⟨by rfl, fun w' hq => by go_simp⟩) trivial ?_
  simp only [Act.put, skA, skB, skC]
  refine tkS (i := 3) (v := (.int .i64 (b0 * 16777216))) rfl (Or.inl ⟨by rfl, fun w' hq => by go_simp⟩) trivial ?_
  simp only [Act.put, skA, skB, skC]
  refine tkS (i := 4) (v := (.string s)) rfl (Or.inl ⟨by rfl, fun w' hq => by go_simp⟩) trivial ?_
  simp only [Act.put, skA, skB, skC]
  refine tkS (i := 5) (v := (.int .u8 b1)) rfl (Or.inl ⟨by rfl, fun w' hq => by go_simp⟩) trivial ?_
  simp only [Act.put, skA, skB, skC]
  refine tkS (i := 6) (v := (.int .i64 b1)) rfl (Or.inl ⟨by rfl, fun w' hq => by go_simp⟩) trivial ?_
  simp only [Act.put, skA, skB, skC]
  refine tkS (i := 7) (v := (.int .i64 (b1 * 65536))) rfl (Or.inl ⟨by rfl, fun w' hq => by go_simp⟩) trivial ?_
  simp only [Act.put, skA, skB, skC]
  refine tkS (i := 8) (v := (.int .i64 (b0 * 16777216 + b1 * 65536))) rfl (Or.inl ⟨by rfl, fun w' hq => by go_simp⟩) trivial ?_
  simp only [Act.put, skA, skB, skC]
  refine tkS (i := 9) (v := (.string s)) rfl (Or.inl ⟨by rfl, fun w' hq => by go_simp⟩) trivial ?_
  simp only [Act.put, skA, skB, skC]
  refine tkS (i := 10) (v := (.int .u8 b2)) rfl (Or.inl ⟨by rfl, fun w' hq => by go_simp⟩) trivial ?_
  simp only [Act.put, skA, skB, skC]
  refine tkS (i := 11) (v := (.int .i64 b2)) rfl (Or.inl ⟨by rfl, fun w' hq => by go_simp⟩) trivial ?_
  simp only [Act.put, skA, skB, skC]
  refine tkS (i := 12) (v := (.int .i64 (b2 * 256))) rfl (Or.inl ⟨by rfl, fun w' hq => by go_simp⟩) trivial ?_
  simp only [Act.put, skA, skB, skC]
  refine tkS (i := 13) (v := (.int .i64 (b0 * 16777216 + b1 * 65536 + b2 * 256))) rfl (Or.inl ⟨by rfl, fun w' hq => by go_simp⟩) trivial ?_
  simp only [Act.put, skA, skB, skC]
  refine tkS (i := 14) (v := (.string s)) rfl (Or.inl ⟨by rfl, fun w' hq => by go_simp⟩) trivial ?_
  simp only [Act.put, skA, skB, skC]
  refine tkS (i := 15) (v := (.int .u8 b3)) rfl (Or.inl ⟨by rfl, fun w' hq => by go_simp⟩) trivial ?_
  simp only [Act.put, skA, skB, skC]
  refine tkS (i := 16) (v := (.int .i64 b3)) rfl (Or.inl ⟨by rfl, fun w' hq => by go_simp⟩) trivial ?_
  simp only [Act.put, skA, skB, skC]
  refine tkS (i := 17) (v := (.int .i64 (b0 * 16777216 + b1 * 65536 + b2 * 256 + b3))) rfl (Or.inl ⟨by rfl, fun w' hq => by go_simp⟩) trivial ?_
  simp only [Act.put, skA, skB, skC]
  rw [← hnum]
  obtain ⟨x, hx⟩ : ∃ x, num b 0 = x := ⟨_, rfl⟩
  have HX := Lib.hid hx
  rw [hx] at hnum ⊢
  clear hx
  refine tkS (i := 18) (v := (.int .i64 x)) rfl (Or.inl ⟨by rfl, fun w' hq => by go_simp⟩) trivial ?_
  simp only [Act.put, skA, skB, skC]
  refine wpAnyH_done (by kernel_rfl) ?_ _
  clear hix0 hix1 hix2 hix3 hnum g0 g1 g2 g3 hwb0 hwb1 hwb2 hwc0 hwc1 hwc2 hwc3 ho1 ho2 ho3
  go_wp2_with fail
  go_ret
  exact ⟨by first | rfl | (rw [HX.out]; rfl), (Kp.refl NoB w).drew⟩
theorem wat_q (w : World) (k : Nat) (hk : k ≤ 1048576) : Calls Try.prog 146 #[.int .i64 (k : Int)] w fun e w' => e = .returned (.int .i64 ((64 + 320 * k : Nat) : Int)) ∧ w = w' := by
  have h1 : IntKind.i64.wrap ((k : Int) * 320) = (k : Int) * 320 := by rw [IntKind.wrap_i64]; omega
  have h2 : IntKind.i64.wrap (64 + (k : Int) * 320) = ((64 + 320 * k : Nat) : Int) := by rw [IntKind.wrap_i64]; omega
  go_enter Try.func146, Try.ntmps146
  go_wp2_with fail
  go_ret
  exact ⟨rfl, rfl⟩
end Go.Proofs.Ytegcbdfilkecpaa
/- The log: a frame read off a text; condition: a text of at most the model's length. -/
namespace Go.Proofs.Ytegcbdfilkecpaa
open Go.RowKit

def IntoG (F : Nat → Act) (G : World → Nat → Prop) : Exit → Act → World → Prop
  | .normal, a, w => ∃ g, a = F g ∧ G w g
  | _, _, _ => False
theorem wp_intoG {P : Program} {c : Code} {Q : Exit → Act → World → Prop} {a : Act} {w : World} (F : Nat → Act) (G : World → Nat → Prop) (h : c.wp P (IntoG F G) a w) (k : ∀ g w', G w' g → Q .normal (F g) w') : c.wp P Q a w :=
  Code.wp_mono (fun e a w q => by cases e <;> first | exact q.elim | (obtain ⟨g, rfl, hg⟩ := q; exact k g _ hg)) h
theorem intoG_of {F : Nat → Act} {G : World → Nat → Prop} {a : Act} {w : World} (g : Nat) (q : G w g) (e : a = F g) : IntoG F G .normal a w := ⟨g, e, q⟩
def frV (n en : Int) (s : ByteArray) : Array Value := (.int .i64 n :: ((zeros 256).map (Value.int .u8) ++ [.int .i64 en, .string s])).toArray
theorem frV_size (n en : Int) (s : ByteArray) : (frV n en s).size = 259 := by
  unfold frV
  rw [List.size_toArray, List.length_cons, List.length_append, List.length_map]
  unfold zeros
  rw [List.length_replicate]
  rfl
theorem frV_ones (n en : Int) (s : ByteArray) : ones (frV n en s) := by
  refine ones_of (fun u hu => ?_)
  rcases List.mem_cons.1 hu with rfl | hu
  · rfl
  · rcases List.mem_append.1 hu with hu | hu
    · exact u8_one _ u hu
    · simp only [List.mem_cons, List.not_mem_nil, or_false] at hu
      rcases hu with rfl | rfl <;> rfl
theorem zeros256 : (zeros 256).length = 256 := List.length_replicate ..
theorem fr0_size : fr0.size = 259 := frV_size 0 0 ⟨#[]⟩
theorem fr0_ones : ones fr0 := frV_ones 0 0 ⟨#[]⟩
/-- what parse makes of a text -/
def ParsePost (b : List Int) (w : World) (e : Ending) (w' : World) : Prop := ∃ cs, e = .returned (.tuple #[.agg cs, .bool (frP b).isSome]) ∧ cs.size = 259 ∧ ones cs ∧ (∀ f, frP b = some f → cs = (frL f).toArray) ∧ Kp NoB w w'
attribute [local go_sem ↓] loadFr storeFr allocFr buildFr0
set_option maxRecDepth 100000 in
set_option maxHeartbeats 1600000 in
theorem parse_q (w : World) (b : List Int) (hb : ∀ y ∈ b, 0 ≤ y ∧ y < 256) (hl : b.length ≤ 1048576) : Calls Try.prog 145 #[.string (strOf b)] w (ParsePost b w) := by
  have hsz := strOf_size b
  have HB := Lib.hid hb
  have HF0 := Lib.hid fr0_size
  have hone := fr0_ones
  clear hb
  by_cases hs : b.length < 320
  · have hs1 : ((strOf b).size : Int) < 320 := by omega
    have HP : Hid (frP b = none) := Lib.hid (by unfold frP; rw [if_pos hs])
    obtain ⟨s, he⟩ : ∃ s, strOf b = s := ⟨_, rfl⟩
    rw [he] at hs1 ⊢
    clear hsz hs he
    go_enter Try.func145, Try.ntmps145
    go_upto_region 1 with fail
    have hb2 : Blk (w.alloc (.cells fr0 171)) w.heap.size 171 fr0 := Blk.new _ _ _
    have hk2 : Kp NoB w (w.alloc (.cells fr0 171)) := (Kp.refl NoB w).alloc _
    have ht2 := hb2.thereAll 259 HF0.out
    have hgs : w.heap.size ≤ w.heap.size := Nat.le_refl _
    generalize w.alloc (.cells fr0 171) = w1 at hb2 hk2 ht2 ⊢
    have hsz0 := HF0.out
    go_wp2_with fail
    refine bodyPost_ret (ret_cell_tmp rfl _ _ _ _ _ _ rfl (hb2.whole fr0 rfl) Try.underlying171 rfl (by rw [fr0_size]; exact infoFrS) _ rfl) rfl ⟨fr0, by rw [HP.out]; rfl, HF0.out, fr0_ones, (fun f q => by rw [HP.out] at q; cases q), Kp.setCells (.inl hgs) _ _ _ hk2⟩
  · have hs1 : ¬ ((strOf b).size : Int) < 320 := by omega
    obtain ⟨s, he⟩ : ∃ s, strOf b = s := ⟨_, rfl⟩
    rw [he] at hs1 hsz ⊢
    have HS := Lib.hid he
    have HLE : Hid (320 ≤ b.length) := Lib.hid (by omega)
    have h4 : s.extract 4 s.size = strOf (b.drop 4) := by rw [← he, strOf_sub, strOf_size, List.take_of_length_le (by rw [List.length_drop]; omega)]
    have h8 : s.extract 8 64 = strOf ((b.drop 8).take 56) := by rw [← he]; exact strOf_sub b 8 64
    have h64 : s.extract 64 320 = strOf ((b.drop 64).take 256) := by rw [← he]; exact strOf_sub b 64 320
    obtain ⟨s4, e4⟩ : ∃ s4, s.extract 4 s.size = s4 := ⟨_, rfl⟩
    obtain ⟨s8, e8⟩ : ∃ s8, s.extract 8 64 = s8 := ⟨_, rfl⟩
    obtain ⟨sT, eT⟩ : ∃ sT, s.extract 64 320 = sT := ⟨_, rfl⟩
    have HS4 : Hid (strOf (b.drop 4) = s4) := Lib.hid (by rw [← h4, e4])
    have HS8 : Hid (strOf ((b.drop 8).take 56) = s8) := Lib.hid (by rw [← h8, e8])
    have HST : Hid (strOf ((b.drop 64).take 256) = sT) := Lib.hid (by rw [← h64, eT])
    have HX4 := Lib.hid e4
    have HX8 := Lib.hid e8
    have HX64 := Lib.hid eT
    obtain ⟨N, hN⟩ : ∃ N, num b 0 = N := ⟨_, rfl⟩
    obtain ⟨E, hE⟩ : ∃ E, num b 4 = E := ⟨_, rfl⟩
    have HN := Lib.hid hN
    have HE : Hid (num (b.drop 4) 0 = E) := Lib.hid (by rw [← hE]; unfold num; simp only [List.getD_eq_getElem?_getD, List.getElem?_drop])
    have HNE := Lib.hid hE
    have hge : 320 ≤ s.size := by omega
    have hi4 : (4 : Int) ≤ (s.size : Int) := by omega
    have hi64 : (64 : Int) ≤ (s.size : Int) := by omega
    have hi320 : (320 : Int) ≤ (s.size : Int) := by omega
    clear hs he h4 h8 h64 hN hE hsz
    go_enter Try.func145, Try.ntmps145
    go_upto_region 1 with fail
    have hb2 : Blk (w.alloc (.cells fr0 171)) w.heap.size 171 fr0 := Blk.new _ _ _
    have hk2 : Kp NoB w (w.alloc (.cells fr0 171)) := (Kp.refl NoB w).alloc _
    generalize w.alloc (.cells fr0 171) = w1 at hb2 hk2 ⊢
    obtain ⟨g2, hg2⟩ : ∃ g2, w.heap.size = g2 := ⟨_, rfl⟩
    rw [hg2] at hb2 ⊢
    have HG2 := Lib.hid hg2
    have HB2 := Lib.hid hb2
    have HK2 := Lib.hid hk2
    clear hg2 hb2 hk2
    go_upto_region 3 with fail
    apply wp_intoG (G := fun W g4 => Blk W g4 171 (frV N E sT) ∧ Kp NoB w1 W)
    · refine wp_region_held_drew (S := fun V => Kp NoB w1 V) (by kernel_rfl) (Kp.refl NoB w1).drew (fun hHeld => ?_)
      have k0 : Kp NoB w1 w1.drew := (Kp.refl NoB w1).drew
      generalize w1.drew = V0 at k0 hHeld ⊢
      refine tkS (i := 0) (v := (.string s)) rfl (Or.inl ⟨by rfl, fun w' hq => by go_simp⟩) k0 ?_
      simp only [Act.put, skA, skB, skC]
      refine tkS (i := 3) (v := (.string s)) rfl (Or.inl ⟨by rfl, fun w' hq => by go_simp⟩) k0 ?_
      simp only [Act.put, skA, skB, skC]
      refine tkS (i := 4) (v := (.string s4)) rfl (Or.inl ⟨by rfl, fun w' hq => by have ee := e4; go_simp⟩) k0 ?_
      simp only [Act.put, skA, skB, skC]
      refine tkS (i := 6) (v := (.string s)) rfl (Or.inl ⟨by rfl, fun w' hq => by go_simp⟩) k0 ?_
      simp only [Act.put, skA, skB, skC]
      refine tkS (i := 7) (v := (.string sT)) rfl (Or.inl ⟨by rfl, fun w' hq => by have ee := eT; go_simp⟩) k0 ?_
      simp only [Act.put, skA, skB, skC]
      refine wpAnyH_ready (rs := [1, 9]) (by kernel_rfl) (by simp) ?_
      refine AllReadyH.callR (fun y W' => y = .int .i64 N ∧ Kp NoB V0 W') rfl (by rfl) 166 #[.string s] (by first | (go_simp; done) | (go_simp; rfl)) (fun _ _ q => k0.trans q.2 (fun _ _ z => z)) ((show Calls _ _ #[.string s] _ _ by rw [← HS.out]; exact number_q V0 b HB.out (by have := HLE.out; omega)).mono (by rintro e w19 ⟨rfl, hk⟩; exact ⟨_, rfl, by rw [HN.out], hk⟩)) ?_ ?_
      · rintro y V1 ⟨rfl, kk1⟩
        have k1 := k0.trans kk1 (fun _ _ z => z)
        simp only [Act.put, skA, skB, skC]
        refine tkS (i := 2) (v := .agg (pgA ⟨N, zeros 256⟩)) rfl (Or.inl ⟨by rfl, fun w' hq => exBuildPg1 w' _ _ N _ _ _ _ _ rfl⟩) k1 ?_
        simp only [Act.put, skA, skB, skC]
        refine wpAnyH_ready (rs := [5, 9]) (by kernel_rfl) (by simp) ?_
        refine AllReadyH.callR (fun y W' => y = .int .i64 E ∧ Kp NoB V1 W') rfl (by rfl) 166 #[.string s4] (by first | (go_simp; done) | (go_simp; rfl)) (fun _ _ q => k1.trans q.2 (fun _ _ z => z)) ((show Calls _ _ #[.string s4] _ _ by rw [← HS4.out]; exact number_q V1 (b.drop 4) (fun y hy => HB.out y (List.mem_of_mem_drop hy)) (by rw [List.length_drop]; have := HLE.out; omega)).mono (by rintro e w19 ⟨rfl, hk⟩; exact ⟨_, rfl, by rw [HE.out], hk⟩)) ?_ ?_
        · rintro y V2 ⟨rfl, kk2⟩
          have k2 := k1.trans kk2 (fun _ _ z => z)
          simp only [Act.put, skA, skB, skC]
          refine tkS (i := 8) (v := .agg (frV N E sT)) rfl (Or.inl ⟨by rfl, fun w' hq => exBuildFr3 w' _ _ _ _ N E (zeros 256) sT zeros256 _ _ _ _ _ rfl rfl rfl⟩) k2 ?_
          simp only [Act.put, skA, skB, skC]
          refine wpAnyH_ready (rs := [9]) (by kernel_rfl) (by simp) ?_
          refine AllReadyH.valR (fun W' => W' = V2.alloc (.cells fr0 171)) rfl (by rfl) _ _ (allocFr V2 _ _ _ _ _ _) (fun W' e => by rw [e]; exact k2.alloc _) rfl ?_ AllReadyH.nil
          rintro _ rfl
          have hb4 : Blk (V2.alloc (.cells fr0 171)) V2.heap.size 171 fr0 := Blk.new _ _ _
          have k3 : Kp NoB w1 (V2.alloc (.cells fr0 171)) := k2.alloc _
          have hg4 : w1.heap.size ≤ V2.heap.size := k2.size
          generalize V2.alloc (.cells fr0 171) = V3 at hb4 k3 ⊢
          generalize V2.heap.size = g4 at hb4 hg4 ⊢
          simp only [Act.put, skA, skB, skC]
          refine wpAnyH_ready (rs := [10]) (by kernel_rfl) (by simp) ?_
          have hbe := hb4.whole (frV N E sT) (by rw [frV_size, fr0_size])
          have hkc : Kp NoB w1 (V3.setCells g4 0 (frV N E sT).toList) := Kp.setCells (S := NoB) (.inl hg4) _ _ _ k3
          refine AllReadyH.storeL rfl (by rfl) g4 0 (frV N E sT) rfl rfl (hb4.thereAll _ (by rw [frV_size, fr0_size])) (by rw [frV_size]; exact infoFrS) (frV_ones _ _ _) hkc ?_ AllReadyH.nil
          generalize V3.setCells g4 0 (frV N E sT).toList = W9 at hbe hkc ⊢
          refine wpAnyH_done (by kernel_rfl) ?_ _
          exact intoG_of g4 ⟨hbe, hkc⟩ rfl
        · refine AllReadyH.valR (fun W' => W' = V1.alloc (.cells fr0 171)) rfl (by rfl) _ _ (allocFr V1 _ _ _ _ _ _) (fun W' e => by rw [e]; exact k1.alloc _) rfl ?_ AllReadyH.nil
          rintro _ rfl
          have hb4 : Blk (V1.alloc (.cells fr0 171)) V1.heap.size 171 fr0 := Blk.new _ _ _
          have k2 : Kp NoB w1 (V1.alloc (.cells fr0 171)) := k1.alloc _
          have hg4 : w1.heap.size ≤ V1.heap.size := k1.size
          generalize V1.alloc (.cells fr0 171) = V2 at hb4 k2 ⊢
          generalize V1.heap.size = g4 at hb4 hg4 ⊢
          simp only [Act.put, skA, skB, skC]
          refine wpAnyH_ready (rs := [5]) (by kernel_rfl) (by simp) ?_
          refine AllReadyH.callR (fun y W' => y = .int .i64 E ∧ Kp NoB V2 W') rfl (by rfl) 166 #[.string s4] (by first | (go_simp; done) | (go_simp; rfl)) (fun _ _ q => k2.trans q.2 (fun _ _ z => z)) ((show Calls _ _ #[.string s4] _ _ by rw [← HS4.out]; exact number_q V2 (b.drop 4) (fun y hy => HB.out y (List.mem_of_mem_drop hy)) (by rw [List.length_drop]; have := HLE.out; omega)).mono (by rintro e w19 ⟨rfl, hk⟩; exact ⟨_, rfl, by rw [HE.out], hk⟩)) ?_ AllReadyH.nil
          rintro y V3 ⟨rfl, kk3⟩
          have k3 := k2.trans kk3 (fun _ _ z => z)
          have hb4 := hb4.keep kk3 (fun q => q)
          simp only [Act.put, skA, skB, skC]
          refine tkS (i := 8) (v := .agg (frV N E sT)) rfl (Or.inl ⟨by rfl, fun w' hq => exBuildFr3 w' _ _ _ _ N E (zeros 256) sT zeros256 _ _ _ _ _ rfl rfl rfl⟩) k3 ?_
          simp only [Act.put, skA, skB, skC]
          refine wpAnyH_ready (rs := [10]) (by kernel_rfl) (by simp) ?_
          have hbe := hb4.whole (frV N E sT) (by rw [frV_size, fr0_size])
          have hkc : Kp NoB w1 (V3.setCells g4 0 (frV N E sT).toList) := Kp.setCells (S := NoB) (.inl hg4) _ _ _ k3
          refine AllReadyH.storeL rfl (by rfl) g4 0 (frV N E sT) rfl rfl (hb4.thereAll _ (by rw [frV_size, fr0_size])) (by rw [frV_size]; exact infoFrS) (frV_ones _ _ _) hkc ?_ AllReadyH.nil
          generalize V3.setCells g4 0 (frV N E sT).toList = W9 at hbe hkc ⊢
          refine wpAnyH_done (by kernel_rfl) ?_ _
          exact intoG_of g4 ⟨hbe, hkc⟩ rfl
      · refine AllReadyH.valR (fun W' => W' = V0.alloc (.cells fr0 171)) rfl (by rfl) _ _ (allocFr V0 _ _ _ _ _ _) (fun W' e => by rw [e]; exact k0.alloc _) rfl ?_ AllReadyH.nil
        rintro _ rfl
        have hb4 : Blk (V0.alloc (.cells fr0 171)) V0.heap.size 171 fr0 := Blk.new _ _ _
        have k1 : Kp NoB w1 (V0.alloc (.cells fr0 171)) := k0.alloc _
        have hg4 : w1.heap.size ≤ V0.heap.size := k0.size
        generalize V0.alloc (.cells fr0 171) = V1 at hb4 k1 ⊢
        generalize V0.heap.size = g4 at hb4 hg4 ⊢
        simp only [Act.put, skA, skB, skC]
        refine wpAnyH_ready (rs := [1]) (by kernel_rfl) (by simp) ?_
        refine AllReadyH.callR (fun y W' => y = .int .i64 N ∧ Kp NoB V1 W') rfl (by rfl) 166 #[.string s] (by first | (go_simp; done) | (go_simp; rfl)) (fun _ _ q => k1.trans q.2 (fun _ _ z => z)) ((show Calls _ _ #[.string s] _ _ by rw [← HS.out]; exact number_q V1 b HB.out (by have := HLE.out; omega)).mono (by rintro e w19 ⟨rfl, hk⟩; exact ⟨_, rfl, by rw [HN.out], hk⟩)) ?_ AllReadyH.nil
        rintro y V2 ⟨rfl, kk2⟩
        have k2 := k1.trans kk2 (fun _ _ z => z)
        have hb4 := hb4.keep kk2 (fun q => q)
        simp only [Act.put, skA, skB, skC]
        refine tkS (i := 2) (v := .agg (pgA ⟨N, zeros 256⟩)) rfl (Or.inl ⟨by rfl, fun w' hq => exBuildPg1 w' _ _ N _ _ _ _ _ rfl⟩) k2 ?_
        simp only [Act.put, skA, skB, skC]
        refine wpAnyH_ready (rs := [5]) (by kernel_rfl) (by simp) ?_
        refine AllReadyH.callR (fun y W' => y = .int .i64 E ∧ Kp NoB V2 W') rfl (by rfl) 166 #[.string s4] (by first | (go_simp; done) | (go_simp; rfl)) (fun _ _ q => k2.trans q.2 (fun _ _ z => z)) ((show Calls _ _ #[.string s4] _ _ by rw [← HS4.out]; exact number_q V2 (b.drop 4) (fun y hy => HB.out y (List.mem_of_mem_drop hy)) (by rw [List.length_drop]; have := HLE.out; omega)).mono (by rintro e w19 ⟨rfl, hk⟩; exact ⟨_, rfl, by rw [HE.out], hk⟩)) ?_ AllReadyH.nil
        rintro y V3 ⟨rfl, kk3⟩
        have k3 := k2.trans kk3 (fun _ _ z => z)
        have hb4 := hb4.keep kk3 (fun q => q)
        simp only [Act.put, skA, skB, skC]
        refine tkS (i := 8) (v := .agg (frV N E sT)) rfl (Or.inl ⟨by rfl, fun w' hq => exBuildFr3 w' _ _ _ _ N E (zeros 256) sT zeros256 _ _ _ _ _ rfl rfl rfl⟩) k3 ?_
        simp only [Act.put, skA, skB, skC]
        refine wpAnyH_ready (rs := [10]) (by kernel_rfl) (by simp) ?_
        have hbe := hb4.whole (frV N E sT) (by rw [frV_size, fr0_size])
        have hkc : Kp NoB w1 (V3.setCells g4 0 (frV N E sT).toList) := Kp.setCells (S := NoB) (.inl hg4) _ _ _ k3
        refine AllReadyH.storeL rfl (by rfl) g4 0 (frV N E sT) rfl rfl (hb4.thereAll _ (by rw [frV_size, fr0_size])) (by rw [frV_size]; exact infoFrS) (frV_ones _ _ _) hkc ?_ AllReadyH.nil
        generalize V3.setCells g4 0 (frV N E sT).toList = W9 at hbe hkc ⊢
        refine wpAnyH_done (by kernel_rfl) ?_ _
        exact intoG_of g4 ⟨hbe, hkc⟩ rfl
    · rintro g4 w2 ⟨hb4, hk4⟩
      have HB4 := Lib.hid hb4
      have HB22 := Lib.hid (HB2.out.keep hk4 (fun q => q))
      have HK4 := Lib.hid (HK2.out.trans hk4 (fun _ _ q => q))
      have c4n : w2.cell? ⟨g4, 0, none⟩ = some (.int .i64 N) := hb4.cell 0
      have c4e : w2.cell? ⟨g4, 257, none⟩ = some (.int .i64 E) := by
        rw [hb4.cell]
        unfold frV
        rw [List.getElem?_toArray, List.getElem?_cons_succ, List.getElem?_append_right (by rw [List.length_map, zeros256]; omega), List.length_map, zeros256]
        rfl
      have ht4 := HB4.out.thereAll 259 (frV_size N E sT)
      have hr4 := HB4.out.readAll 259 (frV_size N E sT)
      have ht2 := HB22.out.thereAll 259 HF0.out
      have hl4 := HB4.out.lt
      have hl2 := HB22.out.lt
      have hfs := frV_size N E sT
      have hfo := frV_ones N E sT
      clear hb4 hk4 HB2 HK2
      have hz56 : strOf (zeros 56) = ⟨#[0, 0, 0, 0, 0, 0, 0, 0, 0, 0, 0, 0, 0, 0, 0, 0, 0, 0, 0, 0, 0, 0, 0, 0, 0, 0, 0, 0, 0, 0, 0, 0, 0, 0, 0, 0, 0, 0, 0, 0, 0, 0, 0, 0, 0, 0, 0, 0, 0, 0, 0, 0, 0, 0, 0, 0]⟩ := by kernel_rfl
      have hbq := str_eqB s8 ⟨#[0, 0, 0, 0, 0, 0, 0, 0, 0, 0, 0, 0, 0, 0, 0, 0, 0, 0, 0, 0, 0, 0, 0, 0, 0, 0, 0, 0, 0, 0, 0, 0, 0, 0, 0, 0, 0, 0, 0, 0, 0, 0, 0, 0, 0, 0, 0, 0, 0, 0, 0, 0, 0, 0, 0, 0]⟩
      rw [show ((⟨#[0, 0, 0, 0, 0, 0, 0, 0, 0, 0, 0, 0, 0, 0, 0, 0, 0, 0, 0, 0, 0, 0, 0, 0, 0, 0, 0, 0, 0, 0, 0, 0, 0, 0, 0, 0, 0, 0, 0, 0, 0, 0, 0, 0, 0, 0, 0, 0, 0, 0, 0, 0, 0, 0, 0, 0]⟩ : ByteArray).toList : List UInt8) = [0, 0, 0, 0, 0, 0, 0, 0, 0, 0, 0, 0, 0, 0, 0, 0, 0, 0, 0, 0, 0, 0, 0, 0, 0, 0, 0, 0, 0, 0, 0, 0, 0, 0, 0, 0, 0, 0, 0, 0, 0, 0, 0, 0, 0, 0, 0, 0, 0, 0, 0, 0, 0, 0, 0, 0] from by rw [ByteArray.toList_eq]] at hbq
      have hiff : s8 = ⟨#[0, 0, 0, 0, 0, 0, 0, 0, 0, 0, 0, 0, 0, 0, 0, 0, 0, 0, 0, 0, 0, 0, 0, 0, 0, 0, 0, 0, 0, 0, 0, 0, 0, 0, 0, 0, 0, 0, 0, 0, 0, 0, 0, 0, 0, 0, 0, 0, 0, 0, 0, 0, 0, 0, 0, 0]⟩ ↔ (b.drop 8).take 56 = zeros 56 := by
        rw [← hz56, ← HS8.out]
        constructor
        · intro q
          have := congrArg strI q
          rw [strI_strOf _ (fun y hy => HB.out y (List.mem_of_mem_drop (List.mem_of_mem_take hy))), strI_strOf _ (zeros_rng 56)] at this
          exact this
        · intro q
          rw [q]
      have hN0 := num_ge HB.out 0
      have hE0 := num_ge HB.out 4
      rw [HN.out] at hN0
      rw [HNE.out] at hE0
      have HFN : Hid (¬ ((b.drop 8).take 56 = zeros 56 ∧ N ≤ 4096 ∧ E ≤ 4097 ∧ (0 < N ∨ 0 < E)) → frP b = none) := Lib.hid (fun q => by unfold frP; rw [if_neg (by have := HLE.out; omega), HN.out, HNE.out, if_neg q])
      have HFS : Hid ((b.drop 8).take 56 = zeros 56 ∧ N ≤ 4096 ∧ E ≤ 4097 ∧ (0 < N ∨ 0 < E) → frP b = some ⟨N, E, (b.drop 64).take 256⟩) := Lib.hid (fun q => by unfold frP; rw [if_neg (by have := HLE.out; omega), HN.out, HNE.out, if_pos q])
      have HCN : Hid (frP b = none → ∀ f, frP b = some f → frV N E sT = (frL f).toArray) := Lib.hid (fun q f h => by rw [q] at h; cases h)
      have HCS : Hid (frP b = some ⟨N, E, (b.drop 64).take 256⟩ → ∀ f, frP b = some f → frV N E sT = (frL f).toArray) := Lib.hid (fun q f h => by
        rw [q] at h
        injection h with h
        rw [← h]
        unfold frV frL
        rw [HST.out])
      clear hz56
      by_cases hz : (b.drop 8).take 56 = zeros 56
      · rw [decide_eq_true (hiff.2 hz)] at hbq
        by_cases hn : N ≤ 4096
        · by_cases hen : E ≤ 4097
          · by_cases hp : 0 < N
            · have HFP := Lib.hid (HFS.out ⟨hz, hn, hen, .inl hp⟩)
              have HFC := Lib.hid (HCS.out HFP.out)
              clear hiff hz
              go_wp2_with fail
              refine bodyPost_ret (ret_cell_tmp rfl _ _ _ _ _ _ rfl (HB22.out.whole (frV N E sT) (by rw [frV_size, HF0.out])) Try.underlying171 rfl (by rw [frV_size]; exact infoFrS) _ rfl) rfl ⟨frV N E sT, by rw [HFP.out]; rfl, frV_size N E sT, frV_ones N E sT, HFC.out, Kp.setCells (.inl (by rw [HG2.out]; exact Nat.le_refl _)) _ _ _ HK4.out⟩
            · by_cases hpe : 0 < E
              · have HFP := Lib.hid (HFS.out ⟨hz, hn, hen, .inr hpe⟩)
                have HFC := Lib.hid (HCS.out HFP.out)
                clear hiff hz
                go_wp2_with fail
                refine bodyPost_ret (ret_cell_tmp rfl _ _ _ _ _ _ rfl (HB22.out.whole (frV N E sT) (by rw [frV_size, HF0.out])) Try.underlying171 rfl (by rw [frV_size]; exact infoFrS) _ rfl) rfl ⟨frV N E sT, by rw [HFP.out]; rfl, frV_size N E sT, frV_ones N E sT, HFC.out, Kp.setCells (.inl (by rw [HG2.out]; exact Nat.le_refl _)) _ _ _ HK4.out⟩
              · have HFP := Lib.hid (HFN.out (fun q => by omega))
                have HFC := Lib.hid (HCN.out HFP.out)
                clear hiff hz
                go_wp2_with fail
                refine bodyPost_ret (ret_cell_tmp rfl _ _ _ _ _ _ rfl (HB22.out.whole (frV N E sT) (by rw [frV_size, HF0.out])) Try.underlying171 rfl (by rw [frV_size]; exact infoFrS) _ rfl) rfl ⟨frV N E sT, by rw [HFP.out]; rfl, frV_size N E sT, frV_ones N E sT, HFC.out, Kp.setCells (.inl (by rw [HG2.out]; exact Nat.le_refl _)) _ _ _ HK4.out⟩
          · have HFP := Lib.hid (HFN.out (fun q => hen q.2.2.1))
            have HFC := Lib.hid (HCN.out HFP.out)
            clear hiff hz
            go_wp2_with fail
            refine bodyPost_ret (ret_cell_tmp rfl _ _ _ _ _ _ rfl (HB22.out.whole (frV N E sT) (by rw [frV_size, HF0.out])) Try.underlying171 rfl (by rw [frV_size]; exact infoFrS) _ rfl) rfl ⟨frV N E sT, by rw [HFP.out]; rfl, frV_size N E sT, frV_ones N E sT, HFC.out, Kp.setCells (.inl (by rw [HG2.out]; exact Nat.le_refl _)) _ _ _ HK4.out⟩
        · have HFP := Lib.hid (HFN.out (fun q => hn q.2.1))
          have HFC := Lib.hid (HCN.out HFP.out)
          clear hiff hz
          go_wp2_with fail
          refine bodyPost_ret (ret_cell_tmp rfl _ _ _ _ _ _ rfl (HB22.out.whole (frV N E sT) (by rw [frV_size, HF0.out])) Try.underlying171 rfl (by rw [frV_size]; exact infoFrS) _ rfl) rfl ⟨frV N E sT, by rw [HFP.out]; rfl, frV_size N E sT, frV_ones N E sT, HFC.out, Kp.setCells (.inl (by rw [HG2.out]; exact Nat.le_refl _)) _ _ _ HK4.out⟩
      · rw [decide_eq_false (fun q => hz (hiff.1 q))] at hbq
        have HFP := Lib.hid (HFN.out (fun q => hz q.1))
        have HFC := Lib.hid (HCN.out HFP.out)
        clear hiff hz
        go_wp2_with fail
        refine bodyPost_ret (ret_cell_tmp rfl _ _ _ _ _ _ rfl (HB22.out.whole (frV N E sT) (by rw [frV_size, HF0.out])) Try.underlying171 rfl (by rw [frV_size]; exact infoFrS) _ rfl) rfl ⟨frV N E sT, by rw [HFP.out]; rfl, frV_size N E sT, frV_ones N E sT, HFC.out, Kp.setCells (.inl (by rw [HG2.out]; exact Nat.le_refl _)) _ _ _ HK4.out⟩
end Go.Proofs.Ytegcbdfilkecpaa
/- The log: opened; condition: a disk. -/
namespace Go.Proofs.Ytegcbdfilkecpaa
open Go.RowKit

/-- a log in memory -/
def lgC (db : Nat) (H : W4) (A : Option Addr) (n c : Nat) : Array Value := #[ptrV db, .int .u32 H.a, .int .u32 H.b, .int .u32 H.c, .int .u32 H.d, .slice A n c]
def frCells (fs : List Fr) : List Value := fs.flatMap frL
def OpenPost (p : Pl) (db : Nat) (w : World) (e : Ending) (w' : World) : Prop :=
  (p.wopen.1 ≠ 0 ∧ e = .returned (.tuple #[.pointer none, .int .i64 p.wopen.1]) ∧ Kp NoB w w') ∨
  (p.wopen.1 = 0 ∧ ∃ (lb : Nat) (A : Option Addr) (c : Nat), e = .returned (.tuple #[.pointer (some ⟨lb, 0, none⟩), .int .i64 0]) ∧ Blk w' lb 163 (lgC db p.whead A p.wopen.2.length c) ∧
    w'.ownsRow w.heap.size 171 259 (.slice A p.wopen.2.length c) p.wopen.2.length (frCells p.wopen.2) ∧ w.heap.size ≤ lb ∧ Kp NoB w w')
attribute [local go_sem ↓] loadFr storeFr allocFr loadSec storeSec loadW4 storeW4
theorem nmW_le : nmWal.size ≤ maxLen := by decide
set_option maxRecDepth 100000 in
set_option maxHeartbeats 1600000 in
theorem wopen_down {S : Nat → Prop} {W0 w : World} {db : Nat} {p : Pl} (h : Dq S W0 w db p) (hd : p.down = true) : Calls Try.prog 96 #[ptrV db] w (OpenPost p db w) := by
  have H := Lib.hid h
  clear h
  have HD := Lib.hid hd
  have hre : p.readE 0 64 = 7 := by unfold Pl.readE; rw [if_pos hd]
  have HRE := Lib.hid hre
  clear hd hre
  unfold ptrV
  go_enter Try.func96, Try.ntmps96
  go_wp2_with fail
  refine (show Calls _ _ #[ptrV db, .string ⟨#[119, 97, 108]⟩, .int .i64 0, .int .i64 64] _ _ from read_q H.out nmWal 0 64 nmW_le (by omega) (by omega)).mono ?_
  rintro e w1 ⟨rfl, hk1⟩
  rw [HRE.out]
  have HK1 := Lib.hid hk1
  clear hk1
  go_wp2_with fail
  go_ret2
  have hwo : p.wopen.1 = 7 := by unfold Pl.wopen; rw [if_pos HD.out]
  exact .inl ⟨by rw [hwo]; decide, by rw [hwo]; rfl, HK1.out⟩
structure OpW (w : World) (db lb : Nat) (H : W4) (A : Option Addr) (n c : Nat) (W : World) : Prop where
  b : Blk W lb 163 (lgC db H A n c)
  ge : w.heap.size ≤ lb
  kp : Kp NoB w W
theorem OpW.keep {w : World} {db lb : Nat} {H : W4} {A : Option Addr} {n c : Nat} {W W' : World} (h : OpW w db lb H A n c W) (k : Kp NoB W W') : OpW w db lb H A n c W' := ⟨h.b.keep k (fun q => q), h.ge, h.kp.trans k (fun _ _ q => q)⟩
theorem OpW.new {w w1 : World} {db : Nat} (hk : Kp NoB w w1) : OpW w db w1.heap.size ⟨0, 0, 0, 0⟩ none 0 0 (w1.alloc (.cells #[.pointer (some ⟨db, 0, none⟩), .int .u32 0, .int .u32 0, .int .u32 0, .int .u32 0, .slice none 0 0] 163)) :=
  ⟨Blk.new _ _ _, hk.size, hk.trans ((Kp.refl _ _).alloc _) (fun _ _ q => q)⟩
theorem OpW.cl {w : World} {db lb : Nat} {H : W4} {A : Option Addr} {n c : Nat} {W : World} (h : OpW w db lb H A n c W) : W.cell? ⟨lb, 0, none⟩ = some (.pointer (some ⟨db, 0, none⟩)) ∧ W.cell? ⟨lb, 1, none⟩ = some (.int .u32 H.a) ∧ W.cell? ⟨lb, 2, none⟩ = some (.int .u32 H.b) ∧ W.cell? ⟨lb, 3, none⟩ = some (.int .u32 H.c) ∧ W.cell? ⟨lb, 4, none⟩ = some (.int .u32 H.d) ∧ W.cell? ⟨lb, 5, none⟩ = some (.slice A n c) :=
  ⟨h.b.cell 0, h.b.cell 1, h.b.cell 2, h.b.cell 3, h.b.cell 4, h.b.cell 5⟩
set_option maxRecDepth 100000 in
set_option maxHeartbeats 1600000 in
theorem wopen_short {S : Nat → Prop} {W0 w : World} {db : Nat} {p : Pl} (h : Dq S W0 w db p) (hd : p.down = false) (hs : (p.seen nmWal).length < 64) : Calls Try.prog 96 #[ptrV db] w (OpenPost p db w) := by
  have H := Lib.hid h
  have hh : p.whead = ⟨0, 0, 0, 0⟩ := by unfold Pl.whead says; rw [if_pos hs]
  have HH := Lib.hid hh
  have hwo : p.wopen = (0, []) := by
    unfold Pl.wopen
    rw [hd, hh]
    rfl
  have HWO := Lib.hid hwo
  have hre : p.readE 0 64 = 0 := by unfold Pl.readE; rw [hd]; decide
  have hrd : p.read nmWal 0 64 = (p.seen nmWal).take 64 := by unfold Pl.read; rw [if_pos hre]; rfl
  have hre2 : p.readE 0 1048576 = 0 := by unfold Pl.readE; rw [hd]; decide
  have HRE := Lib.hid hre
  have HRD := Lib.hid hrd
  have HRE2 := Lib.hid hre2
  have hsz : (strOf ((p.seen nmWal).take 64)).size < 64 := by rw [strOf_size, List.length_take]; omega
  clear hd hre hrd hre2 hh hwo h hs
  unfold ptrV
  go_enter Try.func96, Try.ntmps96
  go_wp2_with fail
  refine (show Calls _ _ #[ptrV db, .string ⟨#[119, 97, 108]⟩, .int .i64 0, .int .i64 64] _ _ from read_q H.out nmWal 0 64 nmW_le (by omega) (by omega)).mono ?_
  rintro e w1 ⟨rfl, hk1⟩
  rw [HRE.out, HRD.out]
  have HK1 := Lib.hid hk1
  generalize strOf ((p.seen nmWal).take 64) = s at hsz ⊢
  have hs1 : ¬ (s.size : Int) = 64 := by omega
  clear hk1 hsz
  go_upto_region 5 with fail
  refine forget (p := fun wx => Code.wp _ _ _ _ wx) (OpW w db w1.heap.size ⟨0, 0, 0, 0⟩ none 0 0) (OpW.new HK1.out) ?_
  intro w2 h2
  obtain ⟨lb, hlb⟩ : ∃ lb, w1.heap.size = lb := ⟨_, rfl⟩
  rw [hlb] at h2 ⊢
  have HP2 := Lib.hid h2
  obtain ⟨c0, c1, c2, c3, c4, c5⟩ := h2.cl
  clear h2 hlb
  go_wp2_with fail
  refine (show Calls _ _ #[ptrV db, .string ⟨#[119, 97, 108]⟩, .int .i64 0, .int .i64 1048576] _ _ from read_q (H.out.keep HP2.out.kp) nmWal 0 1048576 nmW_le (by omega) (by omega)).mono ?_
  rintro e w3 ⟨rfl, hk3⟩
  rw [HRE2.out]
  have HP3 := Lib.hid (HP2.out.keep hk3)
  obtain ⟨c0, c1, c2, c3, c4, c5⟩ := HP3.out.cl
  generalize strOf (p.read nmWal 0 1048576) = sa
  clear hk3
  go_wp2_with fail
  refine wp_loop_rounds 1 ?_
  rw [rounds_succ]
  go_wp2_with fail
  go_ret2
  exact .inr ⟨by rw [HWO.out], lb, none, 0, rfl, by rw [HWO.out, HH.out]; exact HP3.out.b, by rw [HWO.out]; exact World.ownsRow_nil _ _ _ _, HP3.out.ge, HP3.out.kp⟩
end Go.Proofs.Ytegcbdfilkecpaa
/- The reference's disk: with; condition: fewer than 2^40 files. -/
namespace Go.Proofs.Ytegcbdfilkecpaa
open Go.RowKit

theorem Blk.c8 {w : World} {g : Nat} {t : TypeId} {a0 a1 a2 a3 a4 a5 a6 a7 : Value} (h : Blk w g t #[a0, a1, a2, a3, a4, a5, a6, a7]) :
    w.cell? ⟨g, 0, none⟩ = some a0 ∧ w.cell? ⟨g, 1, none⟩ = some a1 ∧ w.cell? ⟨g, 2, none⟩ = some a2 ∧ w.cell? ⟨g, 3, none⟩ = some a3 ∧ w.cell? ⟨g, 4, none⟩ = some a4 ∧ w.cell? ⟨g, 5, none⟩ = some a5 ∧ w.cell? ⟨g, 6, none⟩ = some a6 ∧ w.cell? ⟨g, 7, none⟩ = some a7 :=
  ⟨h.cell 0, h.cell 1, h.cell 2, h.cell 3, h.cell 4, h.cell 5, h.cell 6, h.cell 7⟩
theorem Blk.z8 {w : World} {g : Nat} {t : TypeId} {cs : Array Value} (h : Blk w g t cs) :
    w.frozen? ⟨g, 0, none⟩ = false ∧ w.frozen? ⟨g, 1, none⟩ = false ∧ w.frozen? ⟨g, 2, none⟩ = false ∧ w.frozen? ⟨g, 3, none⟩ = false ∧ w.frozen? ⟨g, 4, none⟩ = false ∧ w.frozen? ⟨g, 5, none⟩ = false ∧ w.frozen? ⟨g, 6, none⟩ = false ∧ w.frozen? ⟨g, 7, none⟩ = false :=
  ⟨h.frozen 0, h.frozen 1, h.frozen 2, h.frozen 3, h.frozen 4, h.frozen 5, h.frozen 6, h.frozen 7⟩
theorem Blk.c3 {w : World} {g : Nat} {t : TypeId} {a0 a1 a2 : Value} (h : Blk w g t #[a0, a1, a2]) : w.cell? ⟨g, 0, none⟩ = some a0 ∧ w.cell? ⟨g, 1, none⟩ = some a1 ∧ w.cell? ⟨g, 2, none⟩ = some a2 :=
  ⟨h.cell 0, h.cell 1, h.cell 2⟩
end Go.Proofs.Ytegcbdfilkecpaa
/- The reference's disk: what a choice makes of what is kept; condition: at most 1048576 bytes. -/
namespace Go.Proofs.Ytegcbdfilkecpaa
open Go.RowKit

end Go.Proofs.Ytegcbdfilkecpaa
/- The reference's disk: fits; condition: a number from 0 on. -/
namespace Go.Proofs.Ytegcbdfilkecpaa
open Go.RowKit

end Go.Proofs.Ytegcbdfilkecpaa
/- The reference's list of files as the plain state: look-up, sums, names; no condition. -/
namespace Go.Proofs.Ytegcbdfilkecpaa
open Go.RowKit

theorem Rf.look {w : World} {d : Rd} {p : Pl} (h : Rf w d p) (s : ByteArray) : ((p.seen s).length ≤ 1048576 ∧ ∀ y ∈ p.seen s, 0 ≤ y ∧ y < 256) ∧ ((p.kept s).length ≤ 1048576 ∧ ∀ y ∈ p.kept s, 0 ≤ y ∧ y < 256) := by
  rw [h.seen, h.kept]
  unfold seenR keptR
  cases hq : findR d.fs s with
  | none => simp
  | some f =>
    have hf := h.fok f (List.mem_of_find?_eq_some hq)
    exact ⟨⟨hf.sl, hf.srng⟩, hf.kl, hf.krng⟩
end Go.Proofs.Ytegcbdfilkecpaa
/- The reference's disk: a step, Read, on the plain state; no condition but on the count of files. -/
namespace Go.Proofs.Ytegcbdfilkecpaa
open Go.RowKit

end Go.Proofs.Ytegcbdfilkecpaa
/- The reference's disk: New; no condition. -/
namespace Go.Proofs.Ytegcbdfilkecpaa
open Go.RowKit

end Go.Proofs.Ytegcbdfilkecpaa
/- An append of what lies behind a slice that may be nil, among the ready operations; no condition. -/
namespace Go.Proofs.Ytegcbdfilkecpaa
open Go.RowKit

section
variable {P : Program} {ops : Array Oper} {Q : Exit → Act → World → Prop} {md : Region.Mode} {S : World → Prop} {fuel : Nat} {listed : Array Bool} {a : Act} {w : World} {i : Nat} {rs : List Nat}
variable {ds : Option Tmp} {ty : TypeId} {ps : String} {af : Array Edge}
end
theorem Blk.sp {w : World} {g : Nat} {t : TypeId} {cs : List Value} (h : Blk w g t cs.toArray) : w.rangeAt g 0 cs := fun j u hj => by
  rw [Nat.zero_add, h.cell, List.getElem?_toArray]
  exact hj
theorem Blk.past {w w' : World} {g : Nat} {t : TypeId} {cs : Array Value} {row : Option Nat} (h : Blk w g t cs) (hg : w.grownBy w' row) (hr : ∀ k, row = some k → k ≠ g) : Blk w' g t cs :=
  h.keep ((Kp.refl (fun b => b ≠ g) w).grown hg (fun k hk => .inr (hr k hk))) (fun q => q rfl)
end Go.Proofs.Ytegcbdfilkecpaa
/- A long log opened; condition: a disk that is up and a log of one sector or more. -/
namespace Go.Proofs.Ytegcbdfilkecpaa
open Go.RowKit

theorem frozen_past (w : World) (g j lo hi : Nat) (cs : Array Value) (t : TypeId) (hg : w.heap[g]? = some (.cells cs t (lo, hi))) (hj : j < lo) : w.frozen? ⟨g, j, none⟩ = false := by
  simp [World.frozen?, hg]
  omega
/-- a sector's text made bytes: an array of its own -/
theorem secOf (w : World) (z : List Int) (hz : ∀ y ∈ z, 0 ≤ y ∧ y < 256) (hl : z.length = 64) : ∃ cap w', (convert 9 42 (.string (strOf z))).run Try.prog w = .ok (.slice (some ⟨w.heap.size, 0, none⟩) 64 cap) w' ∧ Kp NoB w w' ∧ w'.there w.heap.size 0 64 ∧ readRow w' w.heap.size 0 64 = bytesV z := by
  have h := run_bytes_of_string w 9 42 5 (strOf z) Try.underlying9 Try.underlying42 Try.underlying5
  have hsz : (strOf z).size = 64 := by rw [strOf_size, hl]
  rw [hsz] at h
  obtain ⟨cap, hcap⟩ : ∃ c, grownCap w 64 0 5 = c := ⟨_, rfl⟩
  rw [hcap] at h
  obtain ⟨fz, hfz⟩ : ∃ fz, ((bytesRow (strOf z) cap).size, (bytesRow (strOf z) cap).size + 1) = fz := ⟨_, rfl⟩
  have hbs : 64 ≤ (bytesRow (strOf z) cap).size := by
    unfold bytesRow
    rw [Array.size_append, Array.size_map]
    have : (strOf z).data.size = 64 := hsz
    omega
  rw [hfz] at h
  have hg : (w.drew.alloc (.cells (bytesRow (strOf z) cap) 5 fz)).heap[w.heap.size]? = some (.cells (bytesRow (strOf z) cap) 5 fz) := heap_alloc_new w.drew (.cells (bytesRow (strOf z) cap) 5 fz)
  have hc : ∀ j, j < 64 → (w.drew.alloc (.cells (bytesRow (strOf z) cap) 5 fz)).cell? ⟨w.heap.size, j, none⟩ = some (.int .u8 (z.getD j 0)) := fun j hj => by
    have hjs : j < (strOf z).data.size := by show j < (strOf z).size; omega
    have hrow := cell_of_row (w.drew.alloc (.cells (bytesRow (strOf z) cap) 5 fz)) w.heap.size j (bytesRow (strOf z) cap) 5 fz hg
    rw [hrow, bytesRow_at _ _ j hjs]
    refine congrArg (fun y : Int => some (Value.int .u8 y)) ?_
    have h1 : z.getD j 0 = (strI (strOf z)).getD j 0 := by rw [strI_strOf z hz]
    rw [h1]
    unfold strI
    rw [List.getD_eq_getElem?_getD, List.getElem?_map, List.getElem?_eq_getElem (by simpa using hjs)]
    simp
  have hkw : Kp NoB w (w.drew.alloc (.cells (bytesRow (strOf z) cap) 5 fz)) := (Kp.refl NoB w).drew.alloc _
  have hfr : ∀ j, j < 64 → (w.drew.alloc (.cells (bytesRow (strOf z) cap) 5 fz)).frozen? ⟨w.heap.size, j, none⟩ = false := fun j hj =>
    frozen_past _ w.heap.size j fz.1 fz.2 _ _ hg (by rw [← hfz]; exact Nat.lt_of_lt_of_le hj hbs)
  clear hfz hbs hcap
  generalize w.drew.alloc (.cells (bytesRow (strOf z) cap) 5 fz) = W at h hg hc hfr hkw
  refine ⟨cap, W, h, hkw, fun j hj => ⟨?_, ?_⟩, ?_⟩
  · rw [Nat.zero_add, hc j hj]; rfl
  · rw [Nat.zero_add]; exact hfr j hj
  · unfold readRow bytesV
    refine congrArg List.toArray ?_
    apply List.ext_getElem
    · simp [hl]
    · intro i h1 h2
      have hi : i < 64 := by simpa using h1
      simp only [List.getElem_map, List.getElem_range, Nat.zero_add]
      rw [hc i hi]
      simp [List.getD_eq_getElem?_getD, List.getElem?_eq_getElem (show i < z.length by omega)]
theorem OpW.head {w : World} {db lb : Nat} {H H' : W4} {A : Option Addr} {n c : Nat} {W : World} (h : OpW w db lb H A n c W) : OpW w db lb H' A n c (W.setCells lb 1 (w4A H').toList) :=
  ⟨Blk.cellsL (xa := [ptrV db]) (xb := [.int .u32 H.a, .int .u32 H.b, .int .u32 H.c, .int .u32 H.d]) (xd := [.slice A n c]) (xs := (w4A H').toList) h.b 1 rfl rfl, h.ge, Kp.setCells (.inl h.ge) _ _ _ h.kp⟩
theorem OpW.slice {w : World} {db lb : Nat} {H : W4} {A A' : Option Addr} {n c n' c' : Nat} {W : World} (h : OpW w db lb H A n c W) : OpW w db lb H A' n' c' (W.setCell ⟨lb, 5, none⟩ (.slice A' n' c')) :=
  ⟨h.b.set_ 5 _, h.ge, h.kp.setCell (.inl h.ge) _⟩
theorem OpW.grown {w : World} {db lb : Nat} {H : W4} {A : Option Addr} {n c : Nat} {W W' W0 : World} {base m : Nat} {v : Value} {xs : List Value} {e : TypeId} (h : OpW w db lb H A n c W) (hg : W.grownBy W' v.ownBlock) (ho : W0.ownsRow base e 259 v m xs) (hb : lb < base) : OpW w db lb H A n c W' :=
  ⟨Blk.past h.b hg (fun k hk => by have := own_ge ho k hk; omega), h.ge, h.kp.own hg rfl (ho.mono (by have := h.ge; omega))⟩
theorem loadFrV {w : World} {g : Nat} {cs : Array Value} (h : Blk w g 171 cs) (hs : cs.size = 259) (ev : Operand → Value) {x : Operand} {ds : Option Tmp} {ty : TypeId} {ps : String} {af : Array Edge} {gd : Option (Nat × Bool)} (hx : ev x = .pointer (some ⟨g, 0, none⟩)) :
    (execOp ev ⟨ds, .load 171 x, ty, ps, af, gd⟩).run Try.prog w = .ok (.value (.agg cs)) w := by
  have h1 := loadFr w ev ds x ty ps af gd (by rw [hx]; exact h.thereAll 259 hs)
  rw [hx, readP_mk, h.readAll 259 hs] at h1
  exact h1
theorem stFs {w : World} {g : Nat} {cs : Array Value} (h : Blk w g 163 cs) (hs : cs.size = 6) (ev : Operand → Value) {x y : Operand} {A : Option Addr} {n c : Nat} {ty : TypeId} {ps : String} {af : Array Edge} {gd : Option (Nat × Bool)} (hx : ev x = .pointer (some ⟨g, 5, none⟩)) (hy : ev y = .slice A n c) :
    (execOp ev ⟨none, .store 161 x y, ty, ps, af, gd⟩).run Try.prog w = .ok .skip (w.setCell ⟨g, 5, none⟩ (.slice A n c)) := by
  have hc : w.cell? ⟨g, 5, none⟩ = some (cs[5]'(by omega)) := by rw [h.cell]; exact Array.getElem?_eq_getElem _
  have hf : w.frozen? ⟨g, 5, none⟩ = false := h.frozen 5
  simp only [execOp, hx, hy]
  go_simp
theorem ldFs {w : World} {g : Nat} {A : Option Addr} {n c : Nat} (hc : w.cell? ⟨g, 5, none⟩ = some (.slice A n c)) (ev : Operand → Value) {x : Operand} {ds : Option Tmp} {ty : TypeId} {ps : String} {af : Array Edge} {gd : Option (Nat × Bool)} (hx : ev x = .pointer (some ⟨g, 5, none⟩)) :
    (execOp ev ⟨ds, .load 161 x, ty, ps, af, gd⟩).run Try.prog w = .ok (.value (.slice A n c)) w := by
  simp only [execOp, hx]
  go_simp
theorem fr_new (w : World) (f : Fr) : ∀ j u, (frL f)[j]? = some u → (w.alloc (.cells (frL f).toArray 171)).cell? ((⟨w.heap.size, 0, none⟩ : Addr).add j) = some u := by
  intro j u hj
  rw [add_mk, Nat.zero_add, (Blk.new w 171 (frL f).toArray).cell, List.getElem?_toArray]
  exact hj
theorem frCells_len : ∀ fs : List Fr, (frCells fs).length = fs.length * 259
  | [] => rfl
  | f :: r => by
    show (frL f ++ frCells r).length = _
    rw [List.length_append, frL_len, frCells_len r, List.length_cons]
    omega
/-- what is known of the log's bytes -/
structure Wlg (p : Pl) (l : List Int) : Prop where
  e : p.seen nmWal = l
  rng : ∀ y ∈ l, 0 ≤ y ∧ y < 256
  le : l.length ≤ 1048576
  ge : 64 ≤ l.length
attribute [local go_sem ↓] loadFr storeFr allocFr loadSec storeSec loadW4 storeW4
set_option maxRecDepth 100000 in
set_option maxHeartbeats 1600000 in
theorem wopen_long {S : Nat → Prop} {W0 w : World} {db : Nat} {p : Pl} (h : Dq S W0 w db p) (hd : p.down = false) (hs : 64 ≤ (p.seen nmWal).length) : Calls Try.prog 96 #[ptrV db] w (OpenPost p db w) := by
  have H := Lib.hid h
  obtain ⟨l, hl⟩ : ∃ l, p.seen nmWal = l := ⟨_, rfl⟩
  have hL : Wlg p l := ⟨hl, by rw [← hl]; exact h.seen_rng nmWal, by rw [← hl]; exact h.seen_le nmWal, by rw [← hl]; exact hs⟩
  have HL := Lib.hid hL
  rw [hl] at hs
  have hz64 : (l.take 64).length = 64 := by rw [List.length_take]; omega
  have hzr : ∀ y ∈ l.take 64, 0 ≤ y ∧ y < 256 := fun y hy => hL.rng y (List.mem_of_mem_take hy)
  have hh : p.whead = openB (l.take 64) := by unfold Pl.whead says; rw [hl, if_neg (by omega)]
  have hok : W4Ok p.whead := says_ok (h.seen_rng nmWal)
  have HOK := Lib.hid hok
  have hre : p.readE 0 64 = 0 := by unfold Pl.readE; rw [hd]; decide
  have hrd : p.read nmWal 0 64 = l.take 64 := by unfold Pl.read; rw [if_pos hre, hl]; rfl
  have hre2 : p.readE 0 1048576 = 0 := by unfold Pl.readE; rw [hd]; decide
  have hrd2 : p.read nmWal 0 1048576 = l := by
    unfold Pl.read
    rw [if_pos hre2, hl]
    show (l.drop 0).take 1048576 = l
    rw [List.drop_zero, List.take_of_length_le hL.le]
  have HD := Lib.hid hd
  have HRE := Lib.hid hre
  have HRD := Lib.hid hrd
  have HRE2 := Lib.hid hre2
  have HRD2 := Lib.hid hrd2
  obtain ⟨z, hz⟩ : ∃ z, l.take 64 = z := ⟨_, rfl⟩
  rw [hz] at hz64 hzr hh HRD
  obtain ⟨h4, hh4⟩ : ∃ h4, p.whead = h4 := ⟨_, rfl⟩
  rw [hh4] at HOK
  have HH4 := Lib.hid hh4
  have HOB : Hid (openB z = h4) := Lib.hid (by rw [← hh, hh4])
  have HZ64 := Lib.hid hz64
  have HZR := Lib.hid hzr
  have hsz : (strOf z).size = 64 := by rw [strOf_size, hz64]
  clear hd hre hrd hre2 hrd2 hh h hs hl hL hz hz64 hzr hh4 hok
  unfold ptrV
  go_enter Try.func96, Try.ntmps96
  go_wp2_with fail
  refine (show Calls _ _ #[ptrV db, .string ⟨#[119, 97, 108]⟩, .int .i64 0, .int .i64 64] _ _ from read_q H.out nmWal 0 64 nmW_le (by omega) (by omega)).mono ?_
  rintro e w1 ⟨rfl, hk1⟩
  rw [HRE.out, HRD.out]
  have HK1 := Lib.hid hk1
  have hs1 : ((strOf z).size : Int) = 64 := by omega
  clear hk1 hsz
  go_upto_region 5 with fail
  refine forget (p := fun wx => Code.wp _ _ _ _ wx) (OpW w db w1.heap.size ⟨0, 0, 0, 0⟩ none 0 0) (OpW.new HK1.out) ?_
  intro w2 h2
  obtain ⟨lb, hlb⟩ : ∃ lb, w1.heap.size = lb := ⟨_, rfl⟩
  rw [hlb] at h2 ⊢
  have HP2 := Lib.hid h2
  obtain ⟨cap, w3, hcv, hk3, ht3, hr3⟩ := secOf w2 z HZR.out HZ64.out
  have hat : ∀ W, (Instr.arrayAt 146 (.slice (some ⟨w2.heap.size, 0, none⟩) 64 cap)).run Try.prog W = .ok (.pointer (some ⟨w2.heap.size, 0, none⟩)) W := fun W => run_arrayAt W 146 _ 64 _ 64 cap Try.underlying146 (by omega)
  have HP3 := Lib.hid (h2.keep hk3)
  obtain ⟨s, hss⟩ : ∃ s, strOf z = s := ⟨_, rfl⟩
  rw [hss] at hs1 hcv ⊢
  clear h2 hlb hk3 hss
  go_upto_region 6 with fail
  go_wp2_with fail
  refine (open_ok _ z HZ64.out HZR.out).mono ?_
  rintro e w4 ⟨rfl, hk4⟩
  rw [HOB.out]
  have HP4 := Lib.hid (HP3.out.keep hk4)
  have ht4 : w4.there lb 1 4 := HP4.out.b.there (by show _ ≤ 6; omega)
  have hag : aggOK (.agg (w4A h4)) 4 := ⟨rfl, w4A_ones h4⟩
  clear hk4 hcv hat ht3 hr3
  go_upto_region 7 with fail
  refine forget (p := fun wx => Code.wp _ _ _ _ wx) (OpW w db lb h4 none 0 0) HP4.out.head ?_
  intro w5 h5
  have HP5 := Lib.hid h5
  have FB : Hid (1048576 < h4.a ∨ h4.b ≠ 0 ∨ h4.c ≠ 0 ∨ h4.d ≠ 0 → OpenPost p db w (.returned (.tuple #[.pointer none, .int .i64 8])) w5) := Lib.hid (fun hb => by
    have hwo : p.wopen = (8, []) := by
      unfold Pl.wopen
      rw [HD.out, HH4.out, if_neg (by decide), if_pos hb]
    exact .inl ⟨by rw [hwo]; decide, by rw [hwo], HP5.out.kp⟩)
  obtain ⟨va, vb, vc, vd⟩ := h4
  obtain ⟨c0, c1, c2, c3, c4, c5⟩ := h5.cl
  have hra := HOK.out.a
  dsimp only at c1 c2 c3 c4 hra FB
  clear h5 ht4 hag hs1
  by_cases hA : 1048576 < va
  · go_wp2_with fail
    go_ret2
    exact FB.out (.inl hA)
  · by_cases hB : vb = 0
    · subst hB
      by_cases hC : vc = 0
      · subst hC
        by_cases hD : vd = 0
        · subst hD
          clear FB
          go_wp2_with fail
          refine (show Calls _ _ #[ptrV db, .string ⟨#[119, 97, 108]⟩, .int .i64 0, .int .i64 1048576] _ _ from read_q (H.out.keep HP5.out.kp) nmWal 0 1048576 nmW_le (by omega) (by omega)).mono ?_
          rintro e w6 ⟨rfl, hk6⟩
          rw [HRE2.out, HRD2.out]
          have h6 := HP5.out.keep hk6
          have HP6 := Lib.hid h6
          obtain ⟨c0, c1, c2, c3, c4, c5⟩ := h6.cl
          obtain ⟨K, hK⟩ : ∃ K : Nat, va = K := ⟨va.toNat, by omega⟩
          subst hK
          have hK1 : K ≤ 1048576 := by omega
          have hwK : IntKind.i64.wrap (K : Int) = (K : Int) := by rw [IntKind.wrap_i64]; omega
          have hsl := strOf_size l
          have hle := HL.out.le
          obtain ⟨sa, hsa⟩ : ∃ sa, strOf l = sa := ⟨_, rfl⟩
          rw [hsa] at hsl ⊢
          have HSA := Lib.hid hsa
          have hsz2 : sa.size ≤ 1048576 := by omega
          have HSL := Lib.hid hsl
          have HLB := Lib.hid h6.b.lt
          clear hk6 h6 hsa hsl hle
          go_wp2_with fail
          go_loopw [76] (fun v W => ∃ (k : Nat) (fs : List Fr) (A : Option Addr) (c : Nat), v = .int .i64 (k : Int) ∧ k ≤ K ∧ frsAt l k = some fs ∧ OpW w db lb ⟨(K : Int), 0, 0, 0⟩ A k c W ∧ W.ownsRow w6.heap.size 171 259 (.slice A k c) k (frCells fs) ∧ w6.heap.size ≤ W.heap.size) (fun v _ => K - (intOf v).toNat)
          case atStart => exact ⟨0, [], none, 0, rfl, Nat.zero_le _, rfl, HP6.out, World.ownsRow_nil _ _ _ _, Nat.le_refl _⟩
          case round =>
            obtain ⟨wq, rfl⟩ : ∃ wq, wq = wr := ⟨_, rfl⟩
            obtain ⟨k, fs, A, c, rfl, hk, hfs, hop, how, h66⟩ := hrel
            have H66 := Lib.hid h66
            have HFS := Lib.hid hfs
            have HOP := Lib.hid hop
            have HOW := Lib.hid how
            clear c0 c1 c2 c3 c4 c5
            obtain ⟨c0, c1, c2, c3, c4, c5⟩ := hop.cl
            by_cases hlt : k < K
            · have hkk : (k : Int) < (K : Int) := by omega
              clear hop how hfs h66
              go_wp2_with fail
              refine (wat_q _ k (by omega)).mono ?_
              rintro e w7 ⟨rfl, rfl⟩
              obtain ⟨q, hq⟩ : ∃ q, 64 + 320 * k = q := ⟨_, rfl⟩
              rw [hq]
              have HQ := Lib.hid hq
              clear hq
              have FN : Hid (frAt l k = none → ∀ W, Kp NoB w W → OpenPost p db w (.returned (.tuple #[.pointer none, .int .i64 8])) W) := Lib.hid (fun hf W hkp => by
                have hwo : p.wopen = (8, []) := by
                  have hb : ¬ (1048576 < (K : Int) ∨ (0 : Int) ≠ 0 ∨ (0 : Int) ≠ 0 ∨ (0 : Int) ≠ 0) := by omega
                  unfold Pl.wopen
                  rw [HD.out, HH4.out, if_neg (by decide), if_neg hb, HL.out.e]
                  show (match frsAt l K with | none => _ | some fs => _) = _
                  rw [frsAt_none hf hlt]
                exact .inl ⟨by rw [hwo]; decide, by rw [hwo], hkp⟩)
              have hfp := frAt_P l k
              rw [HQ.out] at hfp
              have HFP := Lib.hid hfp
              clear hfp
              by_cases hmn : sa.size ≤ q
              · have hm1 : ((sa.size : Nat) : Int) ≤ ((q : Nat) : Int) := by omega
                go_wp2_with fail
                refine (show Calls _ _ #[.string (strOf [])] _ _ from parse_q wq [] (by simp) (by simp)).mono ?_
                rintro e w8 ⟨cs, rfl, hcs, hcone, -, hk8⟩
                rw [show (frP []).isSome = false from rfl]
                have ht8 : (w8.alloc (.cells fr0 171)).there w8.heap.size 0 259 := (Blk.new _ _ _).thereAll 259 fr0_size
                have hag : aggOK (.agg cs) 259 := ⟨hcs, hcone⟩
                have HK8 : Hid (Kp NoB w ((w8.alloc (.cells fr0 171)).setCells w8.heap.size 0 cs.toList)) := Lib.hid (Kp.setCells (.inl (HOP.out.kp.trans hk8 (fun _ _ q => q)).size) _ _ _ ((HOP.out.kp.trans hk8 (fun _ _ q => q)).alloc _))
                clear hk8 hcs hcone c0 c1 c2 c3 c4 c5
                go_wp2_with fail
                go_ret2
                refine FN.out ?_ _ HK8.out
                rw [HFP.out, List.drop_of_length_le (by have := HSL.out; omega)]
                rfl
              · have hm1 : ¬ ((sa.size : Nat) : Int) ≤ ((q : Nat) : Int) := by omega
                have hex : sa.extract q sa.size = strOf (l.drop q) := by
                  rw [← HSA.out, strOf_sub, strOf_size, List.take_of_length_le (by rw [List.length_drop]; omega)]
                obtain ⟨b, hb⟩ : ∃ b, l.drop q = b := ⟨_, rfl⟩
                rw [hb] at hex
                have hbr : ∀ y ∈ b, 0 ≤ y ∧ y < 256 := fun y hy => HL.out.rng y (List.mem_of_mem_drop (by rw [hb]; exact hy))
                have hbl : b.length ≤ 1048576 := by rw [← hb, List.length_drop]; have := HL.out.le; omega
                have HFB : Hid (frAt l k = frP b) := Lib.hid (by rw [HFP.out, hb])
                have HBR := Lib.hid hbr
                have HBL := Lib.hid hbl
                have HEX := Lib.hid hex
                clear hbr hbl hb hex
                go_wp2_with fail
                rw [HEX.out]
                refine (parse_q wq b HBR.out HBL.out).mono ?_
                rintro e w8 ⟨cs, rfl, hcs, hcone, hcf, hk8⟩
                have ht8 : (w8.alloc (.cells fr0 171)).there w8.heap.size 0 259 := (Blk.new _ _ _).thereAll 259 fr0_size
                have hag : aggOK (.agg cs) 259 := ⟨hcs, hcone⟩
                have hop8 := HOP.out.keep hk8
                have how8 := own_keepB HOW.out hk8 (fun _ _ q => q)
                have hk9 : Kp NoB w8 ((w8.alloc (.cells fr0 171)).setCells w8.heap.size 0 cs.toList) := Kp.setCells (.inl (Nat.le_refl _)) _ _ _ ((Kp.refl NoB w8).alloc _)
                have hb9 : Blk ((w8.alloc (.cells fr0 171)).setCells w8.heap.size 0 cs.toList) w8.heap.size 171 cs := (Blk.new _ _ _).whole cs (by rw [fr0_size, hcs])
                have HK9 := Lib.hid hk9
                have HB9 := Lib.hid hb9
                have HOP8 := Lib.hid hop8
                have HOW8 := Lib.hid how8
                have HCF := Lib.hid hcf
                have H68 : Hid (w6.heap.size ≤ w8.heap.size) := Lib.hid (Nat.le_trans H66.out hk8.size)
                clear hk8 hk9 hb9 hop8 how8 hcf hcone c0 c1 c2 c3 c4 c5
                obtain ⟨of, hof⟩ : ∃ of, frP b = of := ⟨_, rfl⟩
                rw [hof]
                have HOF := Lib.hid hof
                clear hof
                cases of with
                | none =>
                  rw [show (none : Option Fr).isSome = false from rfl]
                  clear hcs
                  go_wp2_with fail
                  go_ret2
                  exact FN.out (by rw [HFB.out, HOF.out]) _ (HOP8.out.keep HK9.out).kp
                | some f =>
                  rw [show (some f).isSome = true from rfl]
                  have hce := HCF.out f HOF.out
                  subst hce
                  clear hcs
                  go_upto_region 16 with fail
                  obtain ⟨j0, hj0, hy0, hy1, hy2⟩ := info_parts infoFr
                  have hop9 := HOP8.out.keep HK9.out
                  have how9 := own_keepB HOW8.out HK9.out (fun _ _ q => q)
                  have h69 : w6.heap.size ≤ ((w8.alloc (.cells fr0 171)).setCells w8.heap.size 0 (frL f).toArray.toList).heap.size := Nat.le_trans H68.out HK9.out.size
                  have hb9 := HB9.out
                  have hlg : ∀ b, (Value.slice A k c).ownBlock = some b → b ≠ w8.heap.size := fun b hb => by have := (HOW8.out.lt b hb).2; omega
                  have h6g := H68.out
                  clear HK9 HB9 HOP8 HOW8 H68 H66 HOP HOW ht8 hag HCF
                  generalize (w8.alloc (.cells fr0 171)).setCells w8.heap.size 0 (frL f).toArray.toList = w9 at hop9 how9 hb9 h69 ⊢
                  obtain ⟨g4, hg4⟩ : ∃ g4, w8.heap.size = g4 := ⟨_, rfl⟩
                  rw [hg4] at hb9 hlg h6g ⊢
                  clear hg4
                  have hs9 : Blk w9.drew g4 171 (frL f).toArray := hb9.drew
                  have hop0 := hop9.keep (Kp.refl NoB w9).drew
                  have how0 := own_keepB how9 (Kp.refl NoB w9).drew (fun _ _ q => q)
                  have h60 : w6.heap.size ≤ w9.drew.heap.size := h69
                  refine wp_region_held_drew (S := fun V => Blk V g4 171 (frL f).toArray) (by kernel_rfl) hs9 (fun hHeld => ?_)
                  generalize w9.drew = V0 at hs9 hop0 how0 h60 hHeld ⊢
                  have hfl : (frL f).toArray.size = 259 := by rw [List.size_toArray, frL_len]
                  have cc : V0.cell? ⟨lb, 5, none⟩ = some (.slice A k c) := hop0.b.cell 5
                  refine tkS (i := 0) (v := (.pointer (some ⟨lb, 0, none⟩))) rfl (Or.inl ⟨by rfl, fun w' hq => by go_simp⟩) hs9 ?_
                  simp only [Act.put, skA, skB, skC]
                  refine tkS (i := 1) (v := (.pointer (some ⟨lb, 0, none⟩))) rfl (Or.inl ⟨by rfl, fun w' hq => by go_simp⟩) hs9 ?_
                  simp only [Act.put, skA, skB, skC]
                  refine tkS (i := 2) (v := (.pointer (some ⟨lb, 0, none⟩))) rfl (Or.inl ⟨by rfl, fun w' hq => by go_simp⟩) hs9 ?_
                  simp only [Act.put, skA, skB, skC]
                  refine tkS (i := 3) (v := (.pointer (some ⟨lb, 5, none⟩))) rfl (Or.inl ⟨by rfl, fun w' hq => by go_simp⟩) hs9 ?_
                  simp only [Act.put, skA, skB, skC]
                  refine tkS (i := 5) (v := .agg (frL f).toArray) rfl (Or.inl ⟨by rfl, fun w' hq => loadFrV hq hfl _ rfl⟩) hs9 ?_
                  simp only [Act.put, skA, skB, skC]
                  have hop1 := hop0.keep ((Kp.refl NoB V0).alloc (.cells (frL f).toArray 171))
                  have how1 := own_keepB how0 ((Kp.refl NoB V0).alloc (.cells (frL f).toArray 171)) (fun _ _ q => q)
                  have hs1 := hs9.alloc (.cells (frL f).toArray 171)
                  have hbase : w6.heap.size ≤ (V0.alloc (.cells (frL f).toArray 171)).heap.size := Nat.le_trans h60 ((Kp.refl NoB V0).alloc (.cells (frL f).toArray 171)).size
                  refine wpAnyH_ready (rs := [4, 6]) (by kernel_rfl) (by simp) ?_
                  refine AllReadyH.valR (fun W' => V0 = W') rfl (by rfl) (.slice A k c) V0 (by go_simp) (fun W' e => by rw [← e]; exact hs9) rfl ?_ (AllReadyH.valR (fun W' => W' = V0.alloc (.cells (frL f).toArray 171)) rfl (by rfl) _ _ (exSliceFr V0 _ _ _ _ _ _ _ _ rfl hfl) (fun W' e => by rw [e]; exact hs1) rfl ?_ AllReadyH.nil)
                  · rintro _ rfl
                    simp only [Act.put, skA, skB, skC]
                    refine wpAnyH_ready (rs := [6]) (by kernel_rfl) (by simp) ?_
                    refine AllReadyH.valR (fun W' => W' = V0.alloc (.cells (frL f).toArray 171)) rfl (by rfl) _ _ (exSliceFr V0 _ _ _ _ _ _ _ _ rfl hfl) (fun W' e => by rw [e]; exact hs1) rfl ?_ AllReadyH.nil
                    rintro _ rfl
                    simp only [Act.put, skA, skB, skC]
                    refine wpAnyH_ready (rs := [7]) (by kernel_rfl) (by simp) ?_
                    refine AllReadyH.appendB rfl (by rfl) w6.heap.size 171 j0 _ 259 288 Try.underlying161 hj0 hy0 hy1 hy2 rfl (by omega) (.slice A k c) k (frCells fs) rfl how1 ⟨V0.heap.size, 0, none⟩ 1 1 (frL f) rfl (frL_len f) (fr_new V0 f) (frL_one f) (by unfold maxLen; omega) (by omega) hbase (fun v' w' hown hgrow hb => Blk.past hs1 hgrow hlg) ?_ AllReadyH.nil
                    intro v7 w10 hown7 hgrow7 hb7
                    simp only [Act.put, skA, skB, skC]
                    obtain ⟨A7, c7, rfl⟩ := own_slice hown7
                    have hs7 := Blk.past hs1 hgrow7 hlg
                    have hop10 := hop1.grown hgrow7 how1 HLB.out
                    have h6X : w6.heap.size ≤ w10.heap.size := by
                      obtain ⟨gg, -, q1, q2⟩ := own_at hown7 (by omega)
                      omega
                    refine tkS (i := 8) (v := (.pointer (some ⟨lb, 0, none⟩))) rfl (Or.inl ⟨by rfl, fun w' hq => by go_simp⟩) hs7 ?_
                    simp only [Act.put, skA, skB, skC]
                    refine tkS (i := 9) (v := (.pointer (some ⟨lb, 5, none⟩))) rfl (Or.inl ⟨by rfl, fun w' hq => by go_simp⟩) hs7 ?_
                    simp only [Act.put, skA, skB, skC]
                    refine wpAnyH_ready (rs := [10]) (by kernel_rfl) (by simp) ?_
                    refine AllReadyH.skipR rfl (by rfl) (w10.setCell ⟨lb, 5, none⟩ (.slice A7 (k + 1) c7)) (stFs hop10.b rfl _ rfl rfl) (hs7.far (by have := HLB.out; show g4 ≠ lb; omega) _) ?_ AllReadyH.nil
                    refine wpAnyH_done (by kernel_rfl) ?_ _
                    have HOP11 := Lib.hid (hop10.slice (A' := A7) (n' := k + 1) (c' := c7))
                    have HOW11 := Lib.hid (own_keepB hown7 ((Kp.refl (OnB lb) w10).setAt (g := lb) rfl 5 (.slice A7 (k + 1) c7)) (fun g hg e => by have h1 := own_ge hown7 g hg; have h2 := HLB.out; have h3 : g = lb := e; omega))
                    have H11 : Hid (w6.heap.size ≤ (w10.setCell ⟨lb, 5, none⟩ (.slice A7 (k + 1) c7)).heap.size) := Lib.hid (Nat.le_trans h6X (by simp))
                    generalize w10.setCell ⟨lb, 5, none⟩ (.slice A7 (k + 1) c7) = w11 at HOP11 HOW11 H11 ⊢
                    clear hHeld hown7 hgrow7 hb7 hs7 hop10 hs1 hs9 hop0 hop1 how0 how1 cc h60 h6X hlg h6g hbase hop9 how9 hb9 h69 hj0 hy0 hy1 hy2
                    go_wp2_with fail
                    go_roundw
                    case rel =>
                      refine ⟨k + 1, fs ++ [f], A7, c7, by go_num, by omega, frsAt_next HFS.out (by rw [HFB.out, HOF.out]), HOP11.out, ?_, H11.out⟩
                      have h9 := HOW11.out
                      unfold frCells at h9 ⊢
                      rw [List.flatMap_append]
                      simpa using h9
                    case measure => simp [intOf]; omega
                  · rintro _ rfl
                    simp only [Act.put, skA, skB, skC]
                    have cc1 : (V0.alloc (.cells (frL f).toArray 171)).cell? ⟨lb, 5, none⟩ = some (.slice A k c) := hop1.b.cell 5
                    refine wpAnyH_ready (rs := [4]) (by kernel_rfl) (by simp) ?_
                    refine AllReadyH.valR (fun W' => W' = V0.alloc (.cells (frL f).toArray 171)) rfl (by rfl) (.slice A k c) _ (ldFs cc1 _ rfl) (fun W' e => by rw [e]; exact hs1) rfl ?_ AllReadyH.nil
                    rintro _ rfl
                    simp only [Act.put, skA, skB, skC]
                    clear cc1
                    refine wpAnyH_ready (rs := [7]) (by kernel_rfl) (by simp) ?_
                    refine AllReadyH.appendB rfl (by rfl) w6.heap.size 171 j0 _ 259 288 Try.underlying161 hj0 hy0 hy1 hy2 rfl (by omega) (.slice A k c) k (frCells fs) rfl how1 ⟨V0.heap.size, 0, none⟩ 1 1 (frL f) rfl (frL_len f) (fr_new V0 f) (frL_one f) (by unfold maxLen; omega) (by omega) hbase (fun v' w' hown hgrow hb => Blk.past hs1 hgrow hlg) ?_ AllReadyH.nil
                    intro v7 w10 hown7 hgrow7 hb7
                    simp only [Act.put, skA, skB, skC]
                    obtain ⟨A7, c7, rfl⟩ := own_slice hown7
                    have hs7 := Blk.past hs1 hgrow7 hlg
                    have hop10 := hop1.grown hgrow7 how1 HLB.out
                    have h6X : w6.heap.size ≤ w10.heap.size := by
                      obtain ⟨gg, -, q1, q2⟩ := own_at hown7 (by omega)
                      omega
                    refine tkS (i := 8) (v := (.pointer (some ⟨lb, 0, none⟩))) rfl (Or.inl ⟨by rfl, fun w' hq => by go_simp⟩) hs7 ?_
                    simp only [Act.put, skA, skB, skC]
                    refine tkS (i := 9) (v := (.pointer (some ⟨lb, 5, none⟩))) rfl (Or.inl ⟨by rfl, fun w' hq => by go_simp⟩) hs7 ?_
                    simp only [Act.put, skA, skB, skC]
                    refine wpAnyH_ready (rs := [10]) (by kernel_rfl) (by simp) ?_
                    refine AllReadyH.skipR rfl (by rfl) (w10.setCell ⟨lb, 5, none⟩ (.slice A7 (k + 1) c7)) (stFs hop10.b rfl _ rfl rfl) (hs7.far (by have := HLB.out; show g4 ≠ lb; omega) _) ?_ AllReadyH.nil
                    refine wpAnyH_done (by kernel_rfl) ?_ _
                    have HOP11 := Lib.hid (hop10.slice (A' := A7) (n' := k + 1) (c' := c7))
                    have HOW11 := Lib.hid (own_keepB hown7 ((Kp.refl (OnB lb) w10).setAt (g := lb) rfl 5 (.slice A7 (k + 1) c7)) (fun g hg e => by have h1 := own_ge hown7 g hg; have h2 := HLB.out; have h3 : g = lb := e; omega))
                    have H11 : Hid (w6.heap.size ≤ (w10.setCell ⟨lb, 5, none⟩ (.slice A7 (k + 1) c7)).heap.size) := Lib.hid (Nat.le_trans h6X (by simp))
                    generalize w10.setCell ⟨lb, 5, none⟩ (.slice A7 (k + 1) c7) = w11 at HOP11 HOW11 H11 ⊢
                    clear hHeld hown7 hgrow7 hb7 hs7 hop10 hs1 hs9 hop0 hop1 how0 how1 cc h60 h6X hlg h6g hbase hop9 how9 hb9 h69 hj0 hy0 hy1 hy2
                    go_wp2_with fail
                    go_roundw
                    case rel =>
                      refine ⟨k + 1, fs ++ [f], A7, c7, by go_num, by omega, frsAt_next HFS.out (by rw [HFB.out, HOF.out]), HOP11.out, ?_, H11.out⟩
                      have h9 := HOW11.out
                      unfold frCells at h9 ⊢
                      rw [List.flatMap_append]
                      simpa using h9
                    case measure => simp [intOf]; omega
            · have hkk : ¬ (k : Int) < (K : Int) := by omega
              obtain rfl : k = K := by omega
              have hwo : p.wopen = if lastEn fs = 0 then (8, []) else (0, fs) := by
                have hb : ¬ (1048576 < (k : Int) ∨ (0 : Int) ≠ 0 ∨ (0 : Int) ≠ 0 ∨ (0 : Int) ≠ 0) := by omega
                unfold Pl.wopen
                rw [HD.out, HH4.out, if_neg (by decide), if_neg hb, HL.out.e]
                show (match frsAt l k with | none => _ | some fs => _) = _
                rw [HFS.out]
              have HWO := Lib.hid hwo
              have hln := frsAt_len HFS.out
              have HLN := Lib.hid hln
              have HEND : Hid (lastEn fs ≠ 0 → OpenPost p db w (.returned (.tuple #[.pointer (some ⟨lb, 0, none⟩), .int .i64 0])) wq) := Lib.hid (fun he => by
                rw [if_neg he] at hwo
                exact .inr ⟨by rw [hwo], lb, A, c, rfl, by rw [hwo, HH4.out, hln]; exact hop.b, by rw [hwo, hln]; exact how.mono (by have := HP6.out.kp.size; omega), hop.ge, hop.kp⟩)
              have HBD : Hid (lastEn fs = 0 → OpenPost p db w (.returned (.tuple #[.pointer none, .int .i64 8])) wq) := Lib.hid (fun he => by
                rw [if_pos he] at hwo
                exact .inl ⟨by rw [hwo]; decide, by rw [hwo], hop.kp⟩)
              clear hop hwo hln h66
              cases k with
              | zero =>
                have h0 : fs = [] := List.length_eq_zero_iff.1 HLN.out
                subst h0
                clear how hfs
                go_wp2_with fail
                go_ret2
                exact HEND.out (by decide)
              | succ n =>
                obtain ⟨g, hA, hg1, hg2⟩ := own_at how (by omega)
                subst hA
                obtain ⟨gs, f, hgs, hfe⟩ : ∃ gs f, fs = gs ++ [f] ∧ gs.length = n := by
                  rcases List.eq_nil_or_concat fs with q | ⟨gs, f, q⟩
                  · rw [q] at HLN; exact absurd HLN.out (by simp)
                  · refine ⟨gs, f, by rw [q, List.concat_eq_append], ?_⟩
                    have := HLN.out
                    rw [q, List.concat_eq_append, List.length_append] at this
                    simp at this
                    omega
                subst hgs
                have hle : lastEn (gs ++ [f]) = f.en := by unfold lastEn; simp
                rw [hle] at HEND HBD
                have ce : wq.cell? ⟨g, n * 259 + 257, none⟩ = some (.int .i64 f.en) := by
                  rw [how.cellAt (n * 259 + 257) (by omega)]
                  unfold frCells
                  rw [List.flatMap_append, List.getElem?_append_right (by have := frCells_len gs; unfold frCells at this; rw [this, hfe]; omega)]
                  have h2 := frCells_len gs
                  unfold frCells at h2
                  rw [h2, hfe, show n * 259 + 257 - n * 259 = 257 by omega]
                  show ([f].flatMap frL)[257]? = _
                  rw [List.flatMap_cons, List.flatMap_nil, List.append_nil]
                  unfold frL zeros
                  rw [List.getElem?_cons_succ, List.getElem?_append_right (by simp)]
                  simp
                have hw1 : IntKind.i64.wrap (((n + 1 : Nat) : Int) - 1) = (n : Int) := by rw [IntKind.wrap_i64]; omega
                obtain ⟨en, hen⟩ : ∃ en, f.en = en := ⟨_, rfl⟩
                rw [hen] at ce HEND HBD
                clear how hfs hen hle
                by_cases he : en = 0
                · subst he
                  go_wp2_with fail
                  go_ret2
                  first | exact HBD.out rfl | exact HBD.out trivial
                · have he1 : (en == 0) = false := by simpa using he
                  go_wp2_with fail
                  go_ret2
                  exact HEND.out he
        · have hD1 : (vd != 0) = true := by simpa using hD
          have hD2 : (vd == 0) = false := by simpa using hD
          go_wp2_with fail
          go_ret2
          exact FB.out (.inr (.inr (.inr hD)))
      · have hC1 : (vc != 0) = true := by simpa using hC
        have hC2 : (vc == 0) = false := by simpa using hC
        go_wp2_with fail
        go_ret2
        exact FB.out (.inr (.inr (.inl hC)))
    · have hB1 : (vb != 0) = true := by simpa using hB
      have hB2 : (vb == 0) = false := by simpa using hB
      go_wp2_with fail
      go_ret2
      exact FB.out (.inr (.inl hB))
theorem wopen_q {S : Nat → Prop} {W0 w : World} {db : Nat} {p : Pl} (h : Dq S W0 w db p) : Calls Try.prog 96 #[ptrV db] w (OpenPost p db w) := by
  by_cases hd : p.down = true
  · exact wopen_down h hd
  · have hd' : p.down = false := by simpa using hd
    by_cases hs : (p.seen nmWal).length < 64
    · exact wopen_short h hd' hs
    · exact wopen_long h hd' (by omega)
end Go.Proofs.Ytegcbdfilkecpaa
