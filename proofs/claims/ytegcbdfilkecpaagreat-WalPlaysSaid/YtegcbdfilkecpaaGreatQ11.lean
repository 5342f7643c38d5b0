/- Texts of this proof, one behind the other: lemmas and contracts; each says its own conditions. -/
import Derived.Test.YtegcbdfilkecpaaGreatQ1
import Derived.Test.YtegcbdfilkecpaaGreatQ6
import Derived.Test.YtegcbdfilkecpaaGreatQ9
import Derived.Test.YtegcbdfilkecpaaGreatQ10
import Derived.RangeFuncCalls
import Derived.RangeFuncWrites
import Derived.CallsIn
import Derived.OrdersIn
import Derived.Deep.RegionHeld
import Derived.RangeFuncNested
namespace Go.Proofs.YtegcbdfilkecpaaGreat
section
open Go.RowKit
theorem infoIntW : (Tryz.prog.info? 3).map (fun i => (i.zero, i.size, i.bytes)) = some (some (.int .i64 0), 1, 8) := by kernel_rfl
def marksTo (fs : List Fr) (n : Nat) : List Int := ((List.range n).filter fun (i : Nat) => isMark fs (i : Int)).map fun (i : Nat) => (i : Int)
theorem marksTo_succ (fs : List Fr) (n : Nat) : marksTo fs (n + 1) = if isMark fs (n : Int) = true then marksTo fs n ++ [(n : Int)] else marksTo fs n := by
 unfold marksTo
 rw [List.range_succ, List.filter_append, List.map_append]
 by_cases h : isMark fs (n : Int) = true
 ·rw [if_pos h]; simp [h]
 ·rw [if_neg h]; simp [h]
theorem marksTo_len (fs : List Fr) (n : Nat) : (marksTo fs n).length ≤ n := by
 unfold marksTo
 rw [List.length_map]
 exact Nat.le_trans (List.length_filter_le _ _) (by simp)
theorem wopen_len {p : Pl} (he : p.wopen.1 = 0) : p.wopen.2.length ≤ 1048576 := by
 revert he
 unfold Pl.wopen
 split
 ·intro he; cases he
 ·split
  ·intro he; cases he
  ·rename_i hb
   cases hf : frsAt (p.seen nmWal) p.whead.a.toNat with
   | none => intro he; cases he
   | some g =>
    dsimp only
    split
    ·intro he; cases he
    ·intro _
     show g.length ≤ _
     rw [frsAt_len hf]
     omega
def MarksPost (p : Pl) (w : World) (e : Ending) (w' : World) : Prop :=
 (p.wopen.1 ≠ 0 ∧ e = .returned (.tuple #[.slice none 0 0, .int .i64 p.wopen.1]) ∧ Kp NoB w w') ∨
 (p.wopen.1 = 0 ∧ ∃ v, e = .returned (.tuple #[v, .int .i64 0]) ∧ w'.ownsRow w.heap.size 3 1 v (marksTo p.wopen.2 (p.wopen.2.length + 1)).length ((marksTo p.wopen.2 (p.wopen.2.length + 1)).map (Value.int .i64)) ∧ Kp NoB w w')
set_option maxRecDepth 100000 in
set_option maxHeartbeats 1600000 in
theorem wmarks_q {S : Nat → Prop} {W0 w : World} {db : Nat} {p : Pl} (hq : Dq S W0 w db p) : Calls Tryz.prog 57 #[ptrV db] w (MarksPost p w) := by
 have HQ := zh hq
 clear hq
 unfold ptrV
 go_enter Tryz.func57, Tryz.ntmps57
 go_wp2_with fail
 refine (show Calls _ _ #[ptrV db] _ _ from wopen_q HQ.out).mono ?_
 rintro e w1 (⟨he, rfl, hk⟩ | ⟨he, lb, A, c, rfl, hb, ho, hg, hk⟩)
 ·have HP : Hid (∀ e0, p.wopen.1 = e0 → MarksPost p w (.returned (.tuple #[.slice none 0 0, .int .i64 e0])) w1) := zh (fun e0 q => .inl ⟨he, by rw [q], hk⟩)
  have he1 : (p.wopen.1 == 0) = false := by simpa using he
  have he2 : (p.wopen.1 != 0) = true := by simpa using he
  obtain ⟨e0, q0⟩ : ∃ e0, p.wopen.1 = e0 := ⟨_, rfl⟩
  have HP1 := zh (HP.out e0 q0)
  rw [q0] at he1 he2 ⊢
  clear hk he q0 HP
  go_wp2_with fail
  go_ret2
  exact HP1.out
 ·have hl := lg_of (HQ.out.seen_rng nmWal) he hb ho
  have HL := zh hl
  have HE := zh he
  have HK := zh hk
  have c5 : w1.cell? ⟨lb, 5, none⟩ = some (.slice A p.wopen.2.length c) := hb.cell 5
  have hln : p.wopen.2.length ≤ 1048576 := wopen_len he
  have hw1 : IntKind.i64.wrap ((p.wopen.2.length : Int) + 1) = (p.wopen.2.length : Int) + 1 := by rw [IntKind.wrap_i64]; omega
  obtain ⟨N, hN⟩ : ∃ N, p.wopen.2.length = N := ⟨_, rfl⟩
  rw [hN] at c5 hw1 hln
  have HN := zh hN
  clear hl he hb ho hg hk hN
  go_wp2_with fail
  go_loopw [6, 22] (fun v6 v W => ∃ k : Nat, v = .int .i64 (k : Int) ∧ k ≤ N + 1 ∧ W.ownsRow w1.heap.size 3 1 v6 (marksTo p.wopen.2 k).length ((marksTo p.wopen.2 k).map (Value.int .i64)) ∧ Kp NoB w1 W) (fun _ v _ => N + 1 - (intOf v).toNat)
  case atStart => exact ⟨0, rfl, by omega, World.ownsRow_nil _ _ _ _, Kp.refl _ _⟩
  case round =>
   obtain ⟨wq, rfl⟩ : ∃ wq, wq = wr := ⟨_, rfl⟩
   obtain ⟨k, rfl, hk, how, hkp⟩ := hrel
   obtain ⟨A6, c6, rfl⟩ := own_slice how
   have HOW := zh how
   have HKP := zh hkp
   have c5 := (HL.out.keep hkp).cl.2
   have hs := marksTo_succ p.wopen.2 k
   have HS := zh hs
   have HML := zh (marksTo_len p.wopen.2 k)
   clear how hkp hs
   by_cases hlt : k < N + 1
   ·have hkk : (k : Int) < (N : Int) + 1 := by omega
    go_wp2_with fail
    refine (is_q (HL.out.keep HKP.out) (k : Int)).mono ?_
    rintro e w2 ⟨rfl, rfl⟩
    cases hmk : isMark p.wopen.2 (k : Int) with
    | false =>
     have HM := zh hmk
     clear hmk
     go_wp2_with fail
     go_roundw
     case rel => exact ⟨k + 1, by go_num, by omega, by rw [HS.out, if_neg (by rw [HM.out]; simp)]; exact HOW.out, HKP.out⟩
     case measure => simp [intOf]; omega
    | true =>
     have HM := zh hmk
     have hml := HML.out
     obtain ⟨xs, hxs⟩ : ∃ xs, marksTo p.wopen.2 k = xs := ⟨_, rfl⟩
     have HX := zh hxs
     rw [hxs] at HOW HML hml ⊢
     obtain ⟨j0, hj0, hy0, hy1, hy2⟩ := info_parts infoIntW
     have HJ0 := zh hj0
     have HY0 := zh hy0
     have HY1 := zh hy1
     have HY2 := zh hy2
     clear hmk hxs hj0 hy0 hy1 hy2
     go_wp2_with (at_builtin; refine wpList_append_ownB rfl _ _ 32 rfl w1.heap.size 3 j0 _ 1 8 Tryz.underlying32 HJ0.out HY0.out HY1.out HY2.out rfl (by omega) _ xs.length (xs.map (Value.int .i64)) rfl (own_keepB HOW.out ((Kp.refl NoB wq).alloc _) (fun _ _ q => q)) ⟨wq.heap.size, 0, none⟩ 1 1 [_] rfl rfl (cell_one_new _ _ _) (by simp [Value.oneCell']) (by unfold maxLen; omega) (by omega) (by have := HKP.out.size; simp; omega) ?_; intro v7 w7 hown7 hgrow7 hb7; have hk7 := ((HKP.out).alloc (.cells #[.int .i64 (k : Int)] 3)).own hgrow7 rfl HOW.out; have HO7 := zh hown7; have HK7 := zh hk7; clear hown7 hgrow7 hb7 hk7)
     go_roundw
     case rel => exact ⟨k + 1, by go_num, by omega, by rw [HS.out, if_pos HM.out, HX.out, List.length_append, List.map_append]; exact HO7.out, HK7.out⟩
     case measure => simp [intOf]; omega
   ·have hkk : ¬ (k : Int) < (N : Int) + 1 := by omega
    obtain rfl : k = N + 1 := by omega
    go_wp2_with fail
    go_ret2
    exact .inr ⟨HE.out, _, rfl, by rw [HN.out]; exact HOW.out.mono HK.out.size, HK.out.trans HKP.out (fun _ _ q => q)⟩
end
section
open Go
def cntN (l : List Fr) (n : Int) : Nat := (l.filter fun f => decide (f.n = n)).length
def homeV (V : List Fr) (c : Int) : Nat → List Pg
 | 0 => []
 | k + 1 => if cntN (V.take k) (V.getD k ⟨0, 0, []⟩).n = 0 ∧ 0 < (V.getD k ⟨0, 0, []⟩).n ∧ (V.getD k ⟨0, 0, []⟩).n ≤ c then homeV V c k ++ [⟨(V.getD k ⟨0, 0, []⟩).n, (V.getD k ⟨0, 0, []⟩).b⟩] else homeV V c k
theorem cntN_snoc (l : List Fr) (f : Fr) (n : Int) : cntN (l ++ [f]) n = cntN l n + if f.n = n then 1 else 0 := by
 unfold cntN
 rw [List.filter_append, List.length_append]
 by_cases h : f.n = n
 ·rw [if_pos h]; simp [h]
 ·rw [if_neg h]; simp [h]
theorem cntN_le (l : List Fr) (n : Int) : cntN l n ≤ l.length := List.length_filter_le _ _
theorem cntN_zero (l : List Fr) (n : Int) : cntN l n = 0 ↔ l.find? (fun f => decide (f.n = n)) = none := by
 unfold cntN
 rw [List.length_eq_zero_iff, List.filter_eq_nil_iff, List.find?_eq_none]
theorem take_snoc (V : List Fr) (k : Nat) (h : k < V.length) : V.take (k + 1) = V.take k ++ [V.getD k ⟨0, 0, []⟩] := by
 rw [List.take_succ_eq_append_getElem h, List.getD_eq_getElem?_getD, List.getElem?_eq_getElem h]
 rfl
theorem homeV_len (V : List Fr) (c : Int) : ∀ k, (homeV V c k).length ≤ k
 | 0 => Nat.le_refl _
 | k + 1 => by
  have := homeV_len V c k
  unfold homeV
  split
  ·rw [List.length_append]; simp; omega
  ·omega
theorem homeV_mem (V : List Fr) (c : Int) (x : Pg) : ∀ k, k ≤ V.length → (x ∈ homeV V c k ↔ 0 < x.n ∧ x.n ≤ c ∧ ∃ f, (V.take k).find? (fun f => decide (f.n = x.n)) = some f ∧ x.b = f.b)
 | 0, _ => by simp [homeV]
 | k + 1, hk => by
  have ih := homeV_mem V c x k (by omega)
  rw [take_snoc V k (by omega), List.find?_append]
  unfold homeV
  generalize V.getD k ⟨0, 0, []⟩ = g at *
  by_cases hc : cntN (V.take k) g.n = 0 ∧ 0 < g.n ∧ g.n ≤ c
  ·rw [if_pos hc, List.mem_append, ih, List.mem_singleton]
   have hz := (cntN_zero _ _).1 hc.1
   constructor
   ·rintro (⟨h1, h2, f, h3, h4⟩ | rfl)
    ·exact ⟨h1, h2, f, by rw [h3]; rfl, h4⟩
    ·exact ⟨hc.2.1, hc.2.2, g, by dsimp only; rw [hz]; simp, rfl⟩
   ·rintro ⟨h1, h2, f, h3, h4⟩
    cases hq : (V.take k).find? (fun f => decide (f.n = x.n)) with
    | some y =>
     rw [hq] at h3
     exact .inl ⟨h1, h2, f, by rw [← h3]; rfl, h4⟩
    | none =>
     rw [hq] at h3
     have h5 : [g].find? (fun f => decide (f.n = x.n)) = some f := h3
     rw [List.find?_cons] at h5
     split at h5
     ·rename_i hd
      injection h5 with h5
      subst h5
      refine .inr ?_
      have : g.n = x.n := by simpa using hd
      cases x
      simp at this h4 ⊢
      exact ⟨this.symm, h4⟩
     ·cases h5
  ·rw [if_neg hc, ih]
   refine and_congr_right fun h1 => and_congr_right fun h2 => ?_
   constructor
   ·rintro ⟨f, h3, h4⟩
    exact ⟨f, by rw [h3]; rfl, h4⟩
   ·rintro ⟨f, h3, h4⟩
    cases hq : (V.take k).find? (fun f => decide (f.n = x.n)) with
    | some y =>
     rw [hq] at h3
     exact ⟨f, by rw [← h3]; rfl, h4⟩
    | none =>
     rw [hq] at h3
     have h5 : [g].find? (fun f => decide (f.n = x.n)) = some f := h3
     rw [List.find?_cons] at h5
     split at h5
     ·rename_i hd
      have hx : g.n = x.n := by simpa using hd
      rw [hx] at hc
      exact absurd ⟨(cntN_zero _ _).2 hq, h1, h2⟩ hc
     ·cases h5
theorem homeV_nodup (V : List Fr) (c : Int) : ∀ k, k ≤ V.length → (homeV V c k).Pairwise fun a b => a.n ≠ b.n
 | 0, _ => List.Pairwise.nil
 | k + 1, hk => by
  have ih := homeV_nodup V c k (by omega)
  unfold homeV
  split
  ·rename_i hc
   refine List.pairwise_append.2 ⟨ih, List.pairwise_singleton _ _, fun a ha b hb => ?_⟩
   rw [List.mem_singleton.1 hb]
   obtain ⟨_, _, f, hf, _⟩ := (homeV_mem V c a k (by omega)).1 ha
   intro e
   dsimp only at e
   rw [e] at hf
   rw [(cntN_zero _ _).1 hc.1] at hf
   cases hf
  ·exact ih
theorem pg_sorted_eq : ∀ {l r : List Pg}, l.Pairwise (fun a b => a.n < b.n) → r.Pairwise (fun a b => a.n < b.n) → (∀ x, x ∈ l ↔ x ∈ r) → l = r
 | [], [], _, _, _ => rfl
 | [], y :: r, _, _, h => by have := (h y).2 (List.mem_cons_self ..); cases this
 | x :: l, [], _, _, h => by have := (h x).1 (List.mem_cons_self ..); cases this
 | x :: l, y :: r, hl, hr, h => by
  rw [List.pairwise_cons] at hl hr
  have hxy : x = y := by
   rcases List.mem_cons.1 ((h x).1 (List.mem_cons_self ..)) with q | q
   ·exact q
   ·rcases List.mem_cons.1 ((h y).2 (List.mem_cons_self ..)) with z | z
    ·exact z.symm
    ·have := hr.1 x q; have := hl.1 y z; omega
  subst hxy
  refine congrArg _ (pg_sorted_eq hl.2 hr.2 fun z => ?_)
  constructor
  ·intro hz
   rcases List.mem_cons.1 ((h z).1 (List.mem_cons_of_mem _ hz)) with q | q
   ·subst q; have := hl.1 z hz; omega
   ·exact q
  ·intro hz
   rcases List.mem_cons.1 ((h z).2 (List.mem_cons_of_mem _ hz)) with q | q
   ·subst q; have := hr.1 z hz; omega
   ·exact q
theorem whome_sorted (p : Pl) (fs : List Fr) (m : Int) : (p.whome fs m).Pairwise fun a b => a.n < b.n := by
 unfold Pl.whome
 rw [List.pairwise_map]
 refine List.Pairwise.imp ?_ ((List.pairwise_lt_range' (s := 1) (n := (wcount p fs m).toNat)).filter _)
 intro a b h
 show (a : Int) < b
 omega
theorem whome_mem (p : Pl) (fs : List Fr) (m : Int) (x : Pg) : x ∈ p.whome fs m ↔ 0 < x.n ∧ x.n ≤ wcount p fs m ∧ ∃ f, lastFr (fs.take m.toNat) x.n = some f ∧ x.b = f.b := by
 unfold Pl.whome
 rw [List.mem_map]
 constructor
 ·rintro ⟨n, hn, rfl⟩
  rw [List.mem_filter, List.mem_range'_1] at hn
  obtain ⟨⟨h1, h2⟩, h3⟩ := hn
  refine ⟨by dsimp only; omega, by dsimp only; omega, ?_⟩
  dsimp only
  cases hf : lastFr (fs.take m.toNat) (n : Int) with
  | some f => exact ⟨f, rfl, by unfold wpage; rw [hf]⟩
  | none =>
   unfold lastFr at hf
   rw [List.find?_eq_none] at hf
   obtain ⟨f, hf1, hf2⟩ := List.any_eq_true.1 h3
   exact absurd hf2 (hf f (List.mem_reverse.2 hf1))
 ·rintro ⟨h1, h2, f, hf, hb⟩
  refine ⟨x.n.toNat, ?_, ?_⟩
  ·rw [List.mem_filter, List.mem_range'_1]
   refine ⟨⟨by omega, by omega⟩, ?_⟩
   have e : ((x.n.toNat : Nat) : Int) = x.n := by omega
   rw [e]
   refine List.any_eq_true.2 ⟨f, ?_, ?_⟩
   ·exact List.mem_reverse.1 (List.mem_of_find?_eq_some hf)
   ·exact List.find?_some (p := fun f : Fr => decide (f.n = x.n)) hf
  ·have e : ((x.n.toNat : Nat) : Int) = x.n := by omega
   rw [e]
   unfold wpage
   rw [hf]
   cases x
   simp at hb ⊢
   exact hb.symm
theorem lastFr_rev (fs : List Fr) (m : Nat) (n : Int) : lastFr (fs.take m) n = (fs.take m).reverse.find? fun f => decide (f.n = n) := rfl
theorem rev_getD (fs : List Fr) (m k : Nat) (hm : m ≤ fs.length) (hk : k < m) : (fs.take m).reverse.getD k ⟨0, 0, []⟩ = fs.getD (m - 1 - k) ⟨0, 0, []⟩ := by
 have hl : (fs.take m).length = m := by rw [List.length_take]; omega
 rw [List.getD_eq_getElem?_getD, List.getD_eq_getElem?_getD, List.getElem?_reverse (by omega), hl, List.getElem?_take, if_pos (by omega)]
theorem home_is (p : Pl) (fs : List Fr) (m : Nat) (hm : m ≤ fs.length) (l : List Pg) (h : l.Perm (homeV (fs.take m).reverse (wcount p fs m) m)) (hs : l.Pairwise fun a b => ¬ b.n < a.n) : l = p.whome fs m := by
 have hl : (fs.take m).reverse.length = m := by rw [List.length_reverse, List.length_take]; omega
 have hn : l.Pairwise fun a b => a.n ≠ b.n := (List.Perm.pairwise_iff (fun {a b} (q : a.n ≠ b.n) => Ne.symm q) h).2 (homeV_nodup _ _ m (by omega))
 refine pg_sorted_eq ((hs.and hn).imp fun {a b} q => by have := q.1; have := q.2; omega) (whome_sorted p fs m) fun x => ?_
 rw [h.mem_iff, homeV_mem _ _ x m (by omega), whome_mem, List.take_of_length_le (by omega)]
 rfl
theorem lastFr_at (fs : List Fr) (m k : Nat) (n : Int) (hm : m ≤ fs.length) (hk : k < m) (h1 : ∀ j, j < k → (fs.getD (m - 1 - j) ⟨0, 0, []⟩).n ≠ n) (h2 : (fs.getD (m - 1 - k) ⟨0, 0, []⟩).n = n) : lastFr (fs.take m) n = some (fs.getD (m - 1 - k) ⟨0, 0, []⟩) := by
 have hl : (fs.take m).reverse.length = m := by rw [List.length_reverse, List.length_take]; omega
 have hz : ∀ j, j < k → ((fs.take m).reverse.getD j ⟨0, 0, []⟩).n ≠ n := fun j hj => by rw [rev_getD fs m j hm (by omega)]; exact h1 j hj
 rw [← rev_getD fs m k hm hk] at h2 ⊢
 rw [lastFr_rev]
 generalize (fs.take m).reverse = V at *
 have e : V = V.take k ++ V.drop k := (List.take_append_drop ..).symm
 have hd : V.drop k = V.getD k ⟨0, 0, []⟩ :: V.drop (k + 1) := by
  rw [List.drop_eq_getElem_cons (by omega), List.getD_eq_getElem?_getD, List.getElem?_eq_getElem (by omega)]
  rfl
 have hnone : (V.take k).find? (fun f => decide (f.n = n)) = none := by
  rw [List.find?_eq_none]
  intro f hf
  obtain ⟨j, hj, rfl⟩ := List.mem_iff_getElem.1 hf
  rw [List.length_take] at hj
  have := hz j (by omega)
  rw [List.getD_eq_getElem?_getD, List.getElem?_eq_getElem (by omega)] at this
  rw [List.getElem_take]
  simpa using this
 conv => lhs; rw [e]
 rw [List.find?_append, hnone, hd, List.find?_cons, decide_eq_true h2]
 rfl
theorem lastFr_none (fs : List Fr) (m : Nat) (n : Int) (hm : m ≤ fs.length) (h1 : ∀ j, j < m → (fs.getD (m - 1 - j) ⟨0, 0, []⟩).n ≠ n) : lastFr (fs.take m) n = none := by
 have hl : (fs.take m).length = m := by rw [List.length_take]; omega
 unfold lastFr
 rw [List.find?_eq_none]
 intro f hf
 obtain ⟨j, hj, rfl⟩ := List.mem_iff_getElem.1 (List.mem_reverse.1 hf)
 rw [hl] at hj
 have := h1 (m - 1 - j) (by omega)
 rw [show m - 1 - (m - 1 - j) = j by omega, List.getD_eq_getElem?_getD, List.getElem?_eq_getElem (by omega)] at this
 rw [List.getElem_take]
 simpa using this
end
section
open Go
section
variable {P : Program} {ops : Array Oper} {Q : Exit → Act → World → Prop} {l n : Nat}
theorem rows_round {row : String} {args : Array Value} {w : World} {R : Value → World → Prop} (h : Go.Rows P row args w R) : RowsIn (Fence.wide.inRound l) n P row args w R :=
 fun c cs _ => let ⟨v, w', r, s⟩ := h c cs; ⟨v, w', r, stepsIn_wide.2 s⟩
theorem upon_round {o : Oper} {a : Act} {next next' : Act → World → Prop} {r : Result Next} (h : o.upon P a next Q r) (hn : ∀ a w, next a w → next' a w) (hq : ∀ a w, ¬ Q .outgrown a w) : o.uponIn (Fence.wide.inRound l) n P a next' Q r := by
 cases r with
 | ok x w' =>
  cases x with
  | enter f args =>
   refine ⟨fun q => (by cases q), CallsIn.inRound l (callsIn_wide.2 (Calls.mono h fun e w hx => ?_))⟩
   cases e with
   | returned v => exact hn _ _ hx
   | panicked c => exact hx
   | outgrown => exact hx
  | row row args => exact ⟨fun q => (by cases q), rows_round (Rows.mono h fun v w hx => hn _ _ hx)⟩
  | value v => exact hn _ _ h
  | skip => exact hn _ _ h
  | defer d => exact hn _ _ h
  | _ => exact h.elim
 | halt x w' =>
  cases x with
  | panic v => exact h
  | _ => exact h.elim
def noDefer (ops : Array Oper) : Bool := ops.all fun o => match o.op with
 | .defer _ => false
 | _ => true
theorem noDefer_at (h : noDefer ops = true) {i : Nat} {o : Oper} (ho : ops[i]? = some o) (c : Call) : o.op ≠ .defer c := fun e => by
 have hx := (Array.all_eq_true_iff_forall_mem.1 h) o (Array.mem_of_getElem? ho)
 rw [e] at hx
 cases hx
theorem wpOps_round (hd : noDefer ops = true) (hq : ∀ a w, ¬ Q .outgrown a w) : ∀ (li : List Nat) (a : Act) (w : World), wpOps P ops Q li a w → wpOpsIn (Fence.wide.inRound l) n P ops Q li a w
 | [], a, w, h => h
 | i :: r, a, w, h => by
  simp only [wpOps] at h
  simp only [wpOpsIn]
  cases ho : ops[i]? with
  | none =>
   simp only [ho] at h
   exact wpOps_round hd hq r a w h
  | some o =>
   simp only [ho] at h
   dsimp only
   by_cases hw : Region.wanted o (yielded ops a.tmps) = true
   ·rw [if_pos hw] at h ⊢
    rcases h with h | h
    ·refine ⟨fun _ _ => trivial, ?_⟩
     rw [Oper.semAt_eq _ _ _ (noDefer_at hd ho)]
     exact upon_round h (fun a w q => wpOps_round hd hq r a w q) hq
    ·obtain ⟨_, a0, w0, q⟩ := h
     exact absurd q (hq _ _)
   ·rw [if_neg hw] at h ⊢
    exact ⟨fun _ _ => trivial, wpOps_round hd hq r _ w h⟩
theorem wpIn_region_held_drew {S : World → Prop} {id : Nat} {a : Act} {w : World} (hm : P.follows .mixedOrders = true) (hd : noDefer ops = true) (hq : ∀ a w, ¬ Q .outgrown a w) (hS : S w.drew)
  (h : S w.drew → wpAnyH P .any ops Q S ops.size (Array.replicate ops.size false) a w.drew) : (Code.region id ops true).wpIn (Fence.wide.inRound l) n P Q a w :=
 wpIn_region_draw fun t => wpOps_round hd hq _ _ _ (by
  simp only [Region.schedule, hm, Bool.true_or, if_true]
  exact wpAny_sound ops.size t _ a _ (wpAny_of_held _ _ _ _ (h hS)))
end
theorem Kp.from {S : Nat → Prop} {B : Nat} {W W' : World} (k : Kp S W W') (hS : ∀ b, S b → b < B) : KeepsFrom B W W' :=
 ⟨k.size, fun i o hB hi _ => (k.block i (Array.getElem?_eq_some_iff.1 hi).1 (fun q => by have := hS _ q; omega)).trans hi⟩
theorem Kp.grownBy {S : Nat → Prop} {a w w' : World} {row : Option Nat} (k : Kp S a w) (hg : w.grownBy w' row) (hr : ∀ r, row = some r → a.heap.size ≤ r) : Kp S a w' :=
 ⟨hg.os.trans k.os, hg.tape.trans k.tape, hg.output.trans k.output, Nat.le_trans k.size hg.size, fun i hi hn => (hg.block i (Nat.lt_of_lt_of_le hi k.size) (fun e => by have := hr i e.symm; omega)).trans (k.block i hi hn)⟩
end
section
open Go.RowKit
section
variable {S : Nat → Prop} {W0 w : World} {db : Nat} {p : Pl}
attribute [local go_sem ↓] load26 store26 alloc26 build26
set_option maxRecDepth 100000 in
set_option maxHeartbeats 800000 in
theorem page_q (h : Dq S W0 w db p) (n : Int) (hn : -9223372036854775808 ≤ n ∧ n ≤ 9223372036854775807) :
  Calls Tryz.prog 87 #[ptrV db, .int .i64 n] w fun e w' => e = .returned (.tuple #[.agg (bytesV (p.jpage n)), .int .i64 (p.jpageE n)]) ∧ Kp NoB w w' := by
 have H := zh h
 have hb0 : Blk (w.alloc (.cells zero256 46)) w.heap.size 46 zero256 := Blk.new _ _ _
 have hk0 : Kp NoB w (w.alloc (.cells zero256 46)) := (Kp.refl _ _).alloc _
 have HB0 := zh hb0
 have HK0 := zh hk0
 clear h hb0 hk0
 unfold ptrV
 rcases hdn : p.down with _ | _
 ·have HW0 : Hid (p.wrong = 0) := zh (by unfold Pl.wrong; rw [hdn]; rfl)
  have HE0 : Hid (p.jpageE n = if n < 1 ∨ (p.jcount : Int) < n then 4 else 0) := zh (by unfold Pl.jpageE; rw [hdn]; rfl)
  clear hdn
  by_cases h1 : n < 1
  ·have HE1 : Hid (p.jpageE n = 4) := zh (by rw [HE0.out, if_pos (.inl h1)])
   have HP1 : Hid (bytesV (p.jpage n) = zero256) := zh (by unfold Pl.jpage; rw [HE1.out]; rfl)
   go_enter Tryz.func87, Tryz.ntmps87
   go_wp2_with fail
   refine (show Calls _ _ #[ptrV db] _ _ from ready_q (H.out.keep HK0.out)).mono ?_
   rintro e w2 ⟨rfl, hk⟩
   rw [HW0.out]
   have HK := zh hk
   have hb2 := HB0.out.keep hk (fun q => q)
   have HB2 := zh hb2
   have t2 : w2.there w.heap.size 0 256 := hb2.thereAll 256 (by rw [zero256_eq, bytesV_size]; rfl)
   have oz : ones zero256 := by rw [zero256_eq]; exact bytesV_one _
   have sz : zero256.size = 256 := by rw [zero256_eq, bytesV_size]; rfl
   have HSZ := zh sz
   clear hk hb2
   go_wp2_with fail
   refine bodyPost_ret (ret_cell_tmp rfl _ _ _ _ _ _ rfl (HB2.out.whole zero256 rfl) Tryz.underlying46 rfl (by rw [HSZ.out]; exact info26) _ rfl) rfl ⟨by rw [HE1.out, HP1.out]; rfl, ?_⟩
   exact Kp.setCells (.inl (Nat.le_refl _)) _ _ _ (HK0.out.trans HK.out (fun _ _ q => q))
  ·by_cases h2 : (p.jcount : Int) < n
   ·have HE1 : Hid (p.jpageE n = 4) := zh (by rw [HE0.out, if_pos (.inr h2)])
    have HP1 : Hid (bytesV (p.jpage n) = zero256) := zh (by unfold Pl.jpage; rw [HE1.out]; rfl)
    go_enter Tryz.func87, Tryz.ntmps87
    go_wp2_with fail
    refine (show Calls _ _ #[ptrV db] _ _ from ready_q (H.out.keep HK0.out)).mono ?_
    rintro e w2 ⟨rfl, hk⟩
    rw [HW0.out]
    have HK := zh hk
    have hb2 := HB0.out.keep hk (fun q => q)
    have HB2 := zh hb2
    have t2 : w2.there w.heap.size 0 256 := hb2.thereAll 256 (by rw [zero256_eq, bytesV_size]; rfl)
    have oz : ones zero256 := by rw [zero256_eq]; exact bytesV_one _
    have sz : zero256.size = 256 := by rw [zero256_eq, bytesV_size]; rfl
    have HSZ := zh sz
    clear hk hb2
    go_wp2_with fail
    refine (show Calls _ _ #[ptrV db] _ _ from count_q ((H.out.keep HK0.out).keep HK.out)).mono ?_
    rintro e w3 ⟨rfl, rfl⟩
    generalize (p.jcount : Int) = J at h2 ⊢
    go_wp2_with fail
    refine bodyPost_ret (ret_cell_tmp rfl _ _ _ _ _ _ rfl (HB2.out.whole zero256 rfl) Tryz.underlying46 rfl (by rw [HSZ.out]; exact info26) _ rfl) rfl ⟨by rw [HE1.out, HP1.out]; rfl, ?_⟩
    exact Kp.setCells (.inl (Nat.le_refl _)) _ _ _ (HK0.out.trans HK.out (fun _ _ q => q))
   ·have HE1 : Hid (p.jpageE n = 0) := zh (by rw [HE0.out, if_neg (by omega)])
    obtain ⟨m, hm⟩ : ∃ m : Nat, n = m := ⟨n.toNat, by omega⟩
    have HP1 : Hid (p.jpage n = pageOf (p.seen nmDb) m) := zh (by unfold Pl.jpage; rw [HE1.out, hm]; rfl)
    have hm1 : 1 ≤ m := by omega
    have hm2 : m ≤ p.jcount := by omega
    have HM1 := zh hm1
    have HM2 := zh hm2
    have HMM := zh hm
    have HPL : Hid ((pageOf (p.seen nmDb) m).length = 256) := zh (sizedF_len _ _)
    clear hm hm1 hm2
    go_enter Tryz.func87, Tryz.ntmps87
    go_wp2_with fail
    refine (show Calls _ _ #[ptrV db] _ _ from ready_q (H.out.keep HK0.out)).mono ?_
    rintro e w2 ⟨rfl, hk⟩
    rw [HW0.out]
    have HK := zh hk
    clear hk
    go_wp2_with fail
    refine (show Calls _ _ #[ptrV db] _ _ from count_q ((H.out.keep HK0.out).keep HK.out)).mono ?_
    rintro e w3 ⟨rfl, rfl⟩
    obtain ⟨J, hJ⟩ : ∃ J : Int, (p.jcount : Int) = J := ⟨_, rfl⟩
    rw [hJ] at h2 ⊢
    clear hJ
    go_wp2_with fail
    have HPQ := wpage_q ((H.out.keep HK0.out).keep HK.out) m HM1.out HM2.out
    rw [← HMM.out] at HPQ
    refine (show Calls _ _ #[.agg #[ptrV db], .int .i64 n] _ _ from HPQ).mono ?_
    clear HPQ
    rintro e w4 ⟨rfl, hk4⟩
    have hk5 := HK.out.trans hk4 (fun _ _ q => q)
    have HK5 := zh hk5
    have hb2 := HB0.out.keep hk5 (fun q => q)
    have HB2 := zh hb2
    have t2 : w4.there w.heap.size 0 256 := hb2.thereAll 256 (by rw [zero256_eq, bytesV_size]; rfl)
    obtain ⟨RR, hRR⟩ : ∃ RR, bytesV (pageOf (p.seen nmDb) m) = RR := ⟨_, rfl⟩
    have o1 := bytesV_one (pageOf (p.seen nmDb) m)
    have s1 : (bytesV (pageOf (p.seen nmDb) m)).size = 256 := by rw [bytesV_size, HPL.out]
    rw [hRR] at o1 s1 ⊢
    have HRR := zh hRR
    have HS1 := zh s1
    clear hk4 hk5 hb2 hRR
    go_wp2_with fail
    refine bodyPost_ret (ret_cell_tmp rfl _ _ _ _ _ _ rfl (HB2.out.whole RR (by rw [HS1.out, zero256_eq, bytesV_size]; rfl)) Tryz.underlying46 rfl (by rw [HS1.out]; exact info26) _ rfl) rfl ⟨by rw [HE1.out, HP1.out, HRR.out]; rfl, ?_⟩
    exact Kp.setCells (.inl (Nat.le_refl _)) _ _ _ (HK0.out.trans HK5.out (fun _ _ q => q))
 ·have HW0 : Hid (p.wrong = 7) := zh (by unfold Pl.wrong; rw [hdn]; rfl)
  have HE1 : Hid (p.jpageE n = 7) := zh (by unfold Pl.jpageE; rw [hdn]; rfl)
  have HP1 : Hid (bytesV (p.jpage n) = zero256) := zh (by unfold Pl.jpage; rw [HE1.out]; rfl)
  clear hdn
  go_enter Tryz.func87, Tryz.ntmps87
  go_wp2_with fail
  refine (show Calls _ _ #[ptrV db] _ _ from ready_q (H.out.keep HK0.out)).mono ?_
  rintro e w2 ⟨rfl, hk⟩
  rw [HW0.out]
  have HK := zh hk
  have hb2 := HB0.out.keep hk (fun q => q)
  have HB2 := zh hb2
  have t2 : w2.there w.heap.size 0 256 := hb2.thereAll 256 (by rw [zero256_eq, bytesV_size]; rfl)
  have oz : ones zero256 := by rw [zero256_eq]; exact bytesV_one _
  have sz : zero256.size = 256 := by rw [zero256_eq, bytesV_size]; rfl
  have HSZ := zh sz
  clear hk hb2
  go_wp2_with fail
  refine bodyPost_ret (ret_cell_tmp rfl _ _ _ _ _ _ rfl (HB2.out.whole zero256 rfl) Tryz.underlying46 rfl (by rw [HSZ.out]; exact info26) _ rfl) rfl ⟨by rw [HE1.out, HP1.out]; rfl, ?_⟩
  exact Kp.setCells (.inl (Nat.le_refl _)) _ _ _ (HK0.out.trans HK.out (fun _ _ q => q))
end
end
section
open Go.RowKit Go.Shelf
theorem blkOwn {W W' : World} {row : Option Nat} {g : Nat} {t : TypeId} {cs : Array Value} (h : Blk W g t cs) (hg : W.grownBy W' row) (hr : ∀ r, row = some r → ∃ o : Obj, W.heap[r]? = some o ∧ o.isCells = false) : Blk W' g t cs :=
 (hg.block g h.lt (fun e => by
  obtain ⟨o, ho, hc⟩ := hr g e.symm
  rw [show W.heap[g]? = _ from h] at ho
  injection ho with ho
  rw [← ho] at hc
  cases hc)).trans h
theorem storeFrI (r : Option Nat) (w : World) (ev : Operand → Value) (ds : Option Tmp) (x y : Operand) (ty : TypeId) (ps : String) (af : Array Edge) (g : Option (Nat × Bool)) (hv : aggOK (ev y) 259) (h : thereP w (ev x) 259) :
  (Oper.semAt r ev ⟨ds, .store 85 x y, ty, ps, af, g⟩).run Tryz.prog w = .ok .skip (setP w (ev x) (ev y)) := by
 rw [Oper.semAt_eq _ _ _ (by intro c h; cases h)]
 exact storeFr w ev ds x y ty ps af g hv h
theorem store26I (r : Option Nat) (w : World) (ev : Operand → Value) (ds : Option Tmp) (x y : Operand) (ty : TypeId) (ps : String) (af : Array Edge) (g : Option (Nat × Bool)) (hv : aggOK (ev y) 256) (h : thereP w (ev x) 256) :
  (Oper.semAt r ev ⟨ds, .store 46 x y, ty, ps, af, g⟩).run Tryz.prog w = .ok .skip (setP w (ev x) (ev y)) := by
 rw [Oper.semAt_eq _ _ _ (by intro c h; cases h)]
 exact store26 w ev ds x y ty ps af g hv h
theorem allocFrI (r : Option Nat) (w : World) (ev : Operand → Value) (ds : Option Tmp) (ty : TypeId) (ps : String) (af : Array Edge) (g : Option (Nat × Bool)) :
  (Oper.semAt r ev ⟨ds, .alloc 85, ty, ps, af, g⟩).run Tryz.prog w = .ok (.value (.pointer (some ⟨w.heap.size, 0, none⟩))) (w.alloc (.cells fr0 85)) := by
 rw [Oper.semAt_eq _ _ _ (by intro c h; cases h)]
 exact allocFr w ev ds ty ps af g
theorem load26I (r : Option Nat) (w : World) (ev : Operand → Value) (ds : Option Tmp) (x : Operand) (ty : TypeId) (ps : String) (af : Array Edge) (g : Option (Nat × Bool)) (h : thereP w (ev x) 256) :
  (Oper.semAt r ev ⟨ds, .load 46 x, ty, ps, af, g⟩).run Tryz.prog w = .ok (.value (.agg (readP w (ev x) 256))) w := by
 rw [Oper.semAt_eq _ _ _ (by intro c h; cases h)]
 exact load26 w ev ds x ty ps af g h
theorem leaveM {F : Fence} {n : Nat} {P : Program} {fn : Func} {tmps : Array Value} {R : Ending → World → Prop} {w : World} {D : Nat} {v : Value} (hD : w.heap[D]? = some (.deferred (some [])))
  (hr : (results fn tmps).run P (w.putObj D (.deferred none)) = .ok v (w.putObj D (.deferred none))) (h : R (.returned v) (w.putObj D (.deferred none))) : bodyPostM F n P fn R .ret { tmps := tmps, defers := [{ target := .collected D, args := #[] }] } w :=
 ⟨by simp, .inl ⟨_, _, rfl, run_takeDeferred hD, by
  exact ⟨v, hr, h⟩⟩⟩
def frK (fs : List Fr) (m x : Nat) : Fr := fs.getD (m - 1 - x) ⟨0, 0, []⟩
def LpI (fs : List Fr) (m : Nat) (n : Int) (w2 : World) (pre : List Nat) (W : World) : Prop := (∀ j ∈ pre, (frK fs m j).n ≠ n) ∧ Kp NoB w2 W
def LpX (fs : List Fr) (m : Nat) (n : Int) (w2 : World) (pb : Nat) (c : Code) (pre : List Nat) (W : World) : Prop :=
 c = .ret ∧ (∃ pre' x, pre = pre' ++ [x] ∧ (∀ j ∈ pre', (frK fs m j).n ≠ n) ∧ (frK fs m x).n = n ∧ Blk W pb 46 (bytesV (frK fs m x).b)) ∧ Kp (OnB pb) w2 W
attribute [local go_sem ↓] load26 store26 alloc26 build26 loadFrI loadFr storeFr allocFr storeFrI store26I allocFrI load26I
attribute [local go_sem] Oper.semAt_some
set_option maxRecDepth 100000 in
set_option maxHeartbeats 3200000 in
theorem wlpage_q {S : Nat → Prop} {W0 w : World} {db lb : Nat} {p : Pl} {H : W4} {A : Option Addr} {c : Nat} {fs : List Fr} (hq : Dq S W0 w db p) (h : LgS w db lb H A c fs) (m : Nat) (hm : m ≤ fs.length) (n : Int) (hn : -9223372036854775808 ≤ n ∧ n ≤ 9223372036854775807) :
  Calls Tryz.prog 41 #[.pointer (some ⟨lb, 0, none⟩), .int .i64 (m : Int), .int .i64 n] w fun e w' => e = .returned (.agg (bytesV (wpage p fs m n))) ∧ Kp NoB w w' := by
 have HQ := zh hq
 have HL := zh h
 have HN := zh hn
 have HM := zh hm
 obtain ⟨RP, hRP⟩ : ∃ RP, bytesV (wpage p fs (m : Int) n) = RP := ⟨_, rfl⟩
 rw [hRP]
 have HRP := zh hRP
 clear hq h hn hm hRP
 refine (callsIn_wide (n := 5)).1 ?_
 refine callsIn_of_wp_marks Tryz.func41 rfl trivial ?_ rfl
 simp only [Tryz.ntmps41, List.size_toArray, List.length_cons, List.length_nil, Nat.reduceAdd, Nat.reduceSub, Array.replicate_succ, Array.replicate_zero, List.push_toArray, List.append_toArray, List.nil_append, List.cons_append]
 gi_wp2_with (refine ⟨trivial, ?_⟩; gi_at_call 85; refine (callsIn_wide.2 (upto_q _ lb m)).mono ?_; rintro e w2 ⟨rfl, hw2⟩; have HW2 := zh hw2; clear hw2)
 have hL2 : LgS w2 db lb H A c fs := HL.out.keep (by rw [HW2.out]; exact ((((Kp.refl NoB w).alloc _).alloc _).alloc _).alloc _)
 have hsz : w2.heap.size = w.heap.size + 4 := by rw [HW2.out]; simp
 have hB : Blk w2 (w.heap.size + 1 + 1 + 1) 3 #[.int .i64 (m : Int)] := by rw [HW2.out]; exact Blk.newAt _ _ _ _ (by simp)
 have hC : Blk w2 (w.heap.size + 1 + 1) 73 #[.pointer (some ⟨lb, 0, none⟩)] := by rw [HW2.out]; exact (Blk.newAt _ _ _ _ (by simp)).alloc _
 have hP : Blk w2 (w.heap.size + 1) 46 zero256 := by rw [HW2.out]; exact ((Blk.newAt _ _ _ _ (by simp)).alloc _).alloc _
 have hNB : Blk w2 w.heap.size 3 #[.int .i64 n] := by rw [HW2.out]; exact (((Blk.new _ _ _).alloc _).alloc _).alloc _
 have hk2 : Kp NoB w w2 := by rw [HW2.out]; exact ((((Kp.refl NoB w).alloc _).alloc _).alloc _).alloc _
 have HL2 := zh hL2
 have HB := zh hB
 have HC := zh hC
 have HP := zh hP
 have HNB := zh hNB
 have HK2 := zh hk2
 have HSZ := zh hsz
 clear hL2 hB hC hP hNB hk2 hsz HW2
 obtain ⟨s0, hs0⟩ : ∃ s0, w.heap.size = s0 := ⟨_, rfl⟩
 rw [hs0] at HB HC HP HNB HSZ ⊢
 have HS0 := zh hs0
 clear hs0
 have HOK : Hid (0 < m → ∀ x, FrOk (frK fs m x)) := zh (fun h0 x => by
  unfold frK
  rw [List.getD_eq_getElem?_getD, List.getElem?_eq_getElem (by have := HM.out; omega)]
  exact HL2.out.ok _ (List.getElem_mem _))
 refine wpIn_rangeFunc_ownH (w0 := w2) rfl (by omega) (gf := 110) (lb := #[.pointer (some ⟨s0 + 1 + 1 + 1, 0, none⟩), .pointer (some ⟨s0 + 1 + 1, 0, none⟩)]) rfl trivial (enters_of Tryz.func110 (by kernel_rfl) rfl)
  (up_stops Fence.wide (5 - 1) trivial rfl (by omega) (s0 + 1 + 1 + 1) (s0 + 1 + 1) db lb H A c fs m HM.out w2 HL2.out HB.out HC.out) belowK_t (belowK_b (Nat.le_refl _)) (Below.refl _ w2) (fun _ => rfl)
  (LpI fs m n w2) (LpX fs m n w2 (s0 + 1))
  (fun pre W W' row hs hg hr => ⟨hs.1, hs.2.grownBy hg (fun r e => (hr r e).1)⟩)
  (fun c pre W W' row hs hg hr => ⟨hs.1, by
   obtain ⟨pre', x, h1, h2, h3, h4⟩ := hs.2.1
   exact ⟨pre', x, h1, h2, h3, blkOwn h4 hg (fun r e => (hr r e).2)⟩, hs.2.2.grownBy hg (fun r e => (hr r e).1)⟩)
  ⟨fun j q => (by cases q), Kp.refl _ _⟩
  (fun x a' W => ∃ g, w2.heap.size ≤ g ∧ a' = { tmps := #[.pointer (some ⟨lb, 0, none⟩), .int .i64 (m : Int), .int .i64 n, undef, undef, .pointer (some ⟨s0, 0, none⟩), .pointer (some ⟨s0 + 1, 0, none⟩), .pointer (some ⟨g, 0, none⟩), undef, undef, .pointer (some ⟨lb, 0, none⟩), .int .i64 (m : Int), .func (.func 110) #[] #[.pointer (some ⟨s0 + 1 + 1 + 1, 0, none⟩), .pointer (some ⟨s0 + 1 + 1, 0, none⟩)], .agg (frL (frK fs m x)).toArray, undef, undef, undef, undef, undef, undef, undef, undef, undef, undef, undef, undef, undef, undef, undef, undef, undef], defers := [] } ∧ Blk W g 85 (frL (frK fs m x)).toArray)
  (fun x a' _ W W' row hs hg hr => by
   obtain ⟨g, h1, h2, h3⟩ := hs
   exact ⟨g, h1, h2, blkOwn h3 hg (fun r e => (hr r e).2)⟩) ?assign ?body ?done ?stop
 case assign =>
  intro l pre x W K hI hK
  have hkk := hI.2.size
  have HKK := zh hkk
  have hfr : (encF fs m x) = #[.agg (frL (frK fs m x)).toArray] := rfl
  rw [hfr]
  have hlen : (frL (frK fs m x)).toArray.size = 259 := by rw [List.size_toArray, frL_len]
  have hon : ones (frL (frK fs m x)).toArray := ones_of (frL_one _)
  obtain ⟨FV, hFV⟩ : ∃ FV, (frL (frK fs m x)).toArray = FV := ⟨_, rfl⟩
  have hK1 := fun g W' h1 h2 h3 h4 h5 => hK _ W' h1 h2 h3 ⟨g, h4, rfl, h5⟩
  rw [hFV] at hlen hon hK1 ⊢
  have hb := Blk.new W 85 fr0
  have t1 := hb.thereAll 259 (by kernel_rfl)
  have hb2 := hb.whole FV (by rw [hlen]; kernel_rfl)
  have HB2 := zh hb2
  have HK1 := zh hK1
  have HI := zh hI
  clear hb hb2 hK hK1 hI hkk
  gi_wp2
  refine HK1.out W.heap.size _ ?_ ?_ ?_ HKK.out HB2.out
  ·exact Kp.from (S := NoB) (Kp.setCells (.inl (Nat.le_refl _)) _ _ _ ((Kp.refl _ _).alloc _)) (fun b q => q.elim)
  ·exact Kp.below (Kp.setCells (.inl (Nat.le_refl _)) _ _ _ ((Kp.refl NoB W).alloc _)) HKK.out (fun _ _ q => q)
  ·exact ⟨HI.out.1, Kp.setCells (.inl HKK.out) _ _ _ (HI.out.2.alloc _)⟩
 case body =>
  rintro l pre x a' W hl hr hI ⟨g, hg, rfl, hgb⟩ hlt
  have hok := HOK.out (by omega) x
  have c0 : W.cell? ⟨g, 0, none⟩ = some (.int .i64 (frK fs m x).n) := by rw [hgb.cell]; rfl
  have cN : W.cell? ⟨s0, 0, none⟩ = some (.int .i64 n) := (HNB.out.keep hI.2 (fun q => q)).cell 0
  have hth := hgb.thereAll 259 (by rw [List.size_toArray, frL_len])
  have hrd := hgb.readAll 259 (by rw [List.size_toArray, frL_len])
  have HI := zh hI
  clear hI hgb hr hl
  by_cases hx : (frK fs m x).n = n
  ·have HX := zh hx
   have hcall := frpage_q W (frK fs m x) hok
   have HLEN := zh hok.len
   have HCALL := zh hcall
   rw [hx] at c0
   clear hok hx hcall
   obtain ⟨FV, hFV⟩ : ∃ FV, (frL (frK fs m x)).toArray = FV := ⟨_, rfl⟩
   rw [hFV] at hrd HCALL ⊢
   gi_wp2_with (refine ⟨trivial, ?_⟩; gi_at_call 86; refine (CallsIn.inRound l (callsIn_wide.2 HCALL.out)).mono ?_; rintro e W3 ⟨rfl, hk3⟩; have HB3 := zh ((HP.out.keep HI.out.2 (fun q => q)).keep hk3 (fun q => q)); have t3 := HB3.out.thereAll 256 (by rw [zero256_eq, bytesV_size]; rfl); have HK3 := zh hk3; clear hk3; obtain ⟨RR, hRR⟩ : ∃ RR, bytesV (frK fs m x).b = RR := ⟨_, rfl⟩; have o1 : ones RR := (by rw [← hRR]; exact bytesV_one _); have s1 : RR.size = 256 := (by rw [← hRR, bytesV_size, HLEN.out]); have HRR := zh hRR; have S1 := zh s1; rw [hRR]; clear hRR)
   refine ⟨?_, rfl, ⟨pre, x, rfl, HI.out.1, HX.out, ?_⟩, ?_⟩
   ·exact Kp.from (S := OnB (s0 + 1)) (Kp.setCells (S := OnB (s0 + 1)) (g := s0 + 1) (.inr rfl) _ _ _ (HK3.out.mono (fun _ _ q => q.elim))) (fun b q => by have := HSZ.out; unfold OnB at q; omega)
   ·rw [HRR.out]
    exact HB3.out.whole RR (by rw [S1.out, zero256_eq, bytesV_size]; rfl)
   ·exact Kp.setCells (S := OnB (s0 + 1)) (g := s0 + 1) (.inr rfl) _ _ _ ((HI.out.2.mono (fun _ _ q => q.elim)).trans (HK3.out.mono (fun _ _ q => q.elim)) (fun _ _ q => q))
  ·have he : ((frK fs m x).n == n) = false := by simpa using hx
   have HX := zh hx
   generalize (frK fs m x).n = nx at c0 he ⊢
   clear hok hx
   gi_wp2
   refine ⟨KeepsFrom.refl _ _, Below.refl _ _, fun j hj => ?_, HI.out.2⟩
   rcases List.mem_append.1 hj with q | q
   ·exact HI.out.1 j q
   ·rw [List.mem_singleton.1 q]; exact HX.out
 case done =>
  rintro D xs W hD rfl hI hK
  have hnone : lastFr (fs.take m) n = none := lastFr_none fs m n HM.out (fun j hj => hI.1 j (List.mem_range.2 hj))
  have hpg : RP = bytesV (p.jpage n) := by
   rw [← HRP.out]
   unfold wpage
   rw [Int.toNat_natCast, hnone]
  have HPG := zh hpg
  have HI := zh hI
  have HK := zh hK
  have HD := zh hD
  clear hI hK hD hnone hpg
  gi_wp2
  refine wpIn_wide.2 ?_
  have HKW : Hid (Kp NoB w W) := zh (HK2.out.trans HI.out.2 (fun _ _ q => q))
  have hlC := (HL.out.keep HKW.out).cl.1
  have hnC : W.cell? ⟨s0, 0, none⟩ = some (.int .i64 n) := (HNB.out.keep HI.out.2 (fun q => q)).cell 0
  have hl1 := block_lt_of_cell hlC
  have hl2 := block_lt_of_cell hnC
  obtain ⟨JP, hJP⟩ : ∃ JP, bytesV (p.jpage n) = JP := ⟨_, rfl⟩
  obtain ⟨JE, hJE⟩ : ∃ JE, p.jpageE n = JE := ⟨_, rfl⟩
  have HJP := zh hJP
  have HJE := zh hJE
  have HRJ : Hid (RP = JP) := zh (HPG.out.trans hJP)
  have JPS : Hid (JP.size = 256) := zh (by
   rw [← hJP, bytesV_size]
   unfold Pl.jpage
   split
   ·exact sizedF_len _ _
   ·exact zeros256)
  have JPO : Hid (ones JP) := zh (by rw [← hJP]; exact bytesV_one _)
  clear hJP hJE
  apply wp_intoG (G := fun V g => Blk V g 46 JP ∧ Kp NoB W V)
  ·refine wp_region_held_drew (S := fun V => Kp NoB W V) (by kernel_rfl) (Kp.refl NoB W).drew (fun hHeld => ?_)
   have k0 : Kp NoB W W.drew := (Kp.refl NoB W).drew
   generalize W.drew = V0 at k0 hHeld ⊢
   refine tkJ (i := 0) (v := (.pointer (some ⟨lb, 0, none⟩))) rfl k0 ?_
   simp only [Act.put, sA, sB, sC]
   refine tkJ (i := 1) (v := (.pointer (some ⟨lb, 0, none⟩))) rfl k0 ?_
   simp only [Act.put, sA, sB, sC]
   refine tkJ (i := 2) (v := (.pointer (some ⟨lb, 0, none⟩))) rfl k0 ?_
   simp only [Act.put, sA, sB, sC]
   refine tkS (i := 3) (v := (.pointer (some ⟨db, 0, none⟩))) rfl (Or.inl ⟨by rfl, fun w' hq => by have cc := (hq.cell hl1 (fun q => q)).trans hlC; go_simp⟩) k0 ?_
   simp only [Act.put, sA, sB, sC]
   refine tkS (i := 4) (v := (.int .i64 n)) rfl (Or.inl ⟨by rfl, fun w' hq => by have cc := (hq.cell hl2 (fun q => q)).trans hnC; go_simp⟩) k0 ?_
   simp only [Act.put, sA, sB, sC]
   refine tkR [5, 9] ?_
   refine AllReadyH.callR (fun y W' => y = .tuple #[.agg JP, .int .i64 JE] ∧ Kp NoB V0 W') rfl (by rfl) 87 #[ptrV db, .int .i64 n] (by first | (go_simp; done) | (go_simp; rfl)) (fun _ _ q => k0.trans q.2 (fun _ _ z => z)) ((page_q ((HQ.out.keep (HKW.out)).keep k0) n HN.out).mono (by rintro e w19 ⟨rfl, hk⟩; exact ⟨_, rfl, by rw [HJP.out, HJE.out], hk⟩)) ?_ ?_
   ·rintro y V1 ⟨rfl, kk1⟩
    have k1 := k0.trans kk1 (fun _ _ z => z)
    simp only [Act.put, sA, sB, sC]
    refine tkJ (i := 6) (v := .tuple #[.agg JP, .int .i64 JE]) rfl k1 ?_
    simp only [Act.put, sA, sB, sC]
    refine tkJ (i := 7) (v := (.agg JP)) rfl k1 ?_
    simp only [Act.put, sA, sB, sC]
    refine tkJ (i := 8) (v := (.int .i64 JE)) rfl k1 ?_
    simp only [Act.put, sA, sB, sC]
    refine tkR [9] ?_
    refine AllReadyH.valR (fun W' => W' = V1.alloc (.cells zero256 46)) rfl (by rfl) _ _ (alloc26 V1 _ _ _ _ _ _) (fun W' e => by rw [e]; exact k1.alloc _) rfl ?_ AllReadyH.nil
    rintro _ rfl
    have hb4 : Blk (V1.alloc (.cells zero256 46)) V1.heap.size 46 zero256 := Blk.new _ _ _
    have k2 : Kp NoB W (V1.alloc (.cells zero256 46)) := k1.alloc _
    have hg4 : W.heap.size ≤ V1.heap.size := k1.size
    generalize V1.alloc (.cells zero256 46) = V2 at hb4 k2 ⊢
    generalize V1.heap.size = g4 at hb4 hg4 ⊢
    simp only [Act.put, sA, sB, sC]
    refine tkR [10] ?_
    have hbe := hb4.whole JP (by rw [JPS.out, zero256_eq, bytesV_size]; rfl)
    have hkc : Kp NoB W (V2.setCells g4 0 JP.toList) := Kp.setCells (S := NoB) (.inl hg4) _ _ _ k2
    refine AllReadyH.storeL rfl (by rfl) g4 0 JP rfl rfl (hb4.thereAll _ (by rw [JPS.out, zero256_eq, bytesV_size]; rfl)) (by rw [JPS.out]; exact info26) JPO.out hkc ?_ AllReadyH.nil
    generalize V2.setCells g4 0 JP.toList = W9 at hbe hkc ⊢
    refine tkJ (i := 11) (v := (.int .i64 JE)) rfl hkc ?_
    simp only [Act.put, sA, sB, sC]
    refine wpAnyH_done (by kernel_rfl) ?_ _
    exact intoG_of g4 ⟨hbe, hkc⟩ rfl
   ·refine AllReadyH.valR (fun W' => W' = V0.alloc (.cells zero256 46)) rfl (by rfl) _ _ (alloc26 V0 _ _ _ _ _ _) (fun W' e => by rw [e]; exact k0.alloc _) rfl ?_ AllReadyH.nil
    rintro _ rfl
    have hb4 : Blk (V0.alloc (.cells zero256 46)) V0.heap.size 46 zero256 := Blk.new _ _ _
    have k1 : Kp NoB W (V0.alloc (.cells zero256 46)) := k0.alloc _
    have hg4 : W.heap.size ≤ V0.heap.size := k0.size
    generalize V0.alloc (.cells zero256 46) = V1 at hb4 k1 ⊢
    generalize V0.heap.size = g4 at hb4 hg4 ⊢
    simp only [Act.put, sA, sB, sC]
    refine tkR [5] ?_
    refine AllReadyH.callR (fun y W' => y = .tuple #[.agg JP, .int .i64 JE] ∧ Kp NoB V1 W') rfl (by rfl) 87 #[ptrV db, .int .i64 n] (by first | (go_simp; done) | (go_simp; rfl)) (fun _ _ q => k1.trans q.2 (fun _ _ z => z)) ((page_q ((HQ.out.keep (HKW.out)).keep k1) n HN.out).mono (by rintro e w19 ⟨rfl, hk⟩; exact ⟨_, rfl, by rw [HJP.out, HJE.out], hk⟩)) ?_ AllReadyH.nil
    rintro y V2 ⟨rfl, kk2⟩
    have k2 := k1.trans kk2 (fun _ _ z => z)
    have hb4 := hb4.keep kk2 (fun q => q)
    simp only [Act.put, sA, sB, sC]
    refine tkJ (i := 6) (v := .tuple #[.agg JP, .int .i64 JE]) rfl k2 ?_
    simp only [Act.put, sA, sB, sC]
    refine tkJ (i := 7) (v := (.agg JP)) rfl k2 ?_
    simp only [Act.put, sA, sB, sC]
    refine tkJ (i := 8) (v := (.int .i64 JE)) rfl k2 ?_
    simp only [Act.put, sA, sB, sC]
    refine tkR [10] ?_
    have hbe := hb4.whole JP (by rw [JPS.out, zero256_eq, bytesV_size]; rfl)
    have hkc : Kp NoB W (V2.setCells g4 0 JP.toList) := Kp.setCells (S := NoB) (.inl hg4) _ _ _ k2
    refine AllReadyH.storeL rfl (by rfl) g4 0 JP rfl rfl (hb4.thereAll _ (by rw [JPS.out, zero256_eq, bytesV_size]; rfl)) (by rw [JPS.out]; exact info26) JPO.out hkc ?_ AllReadyH.nil
    generalize V2.setCells g4 0 JP.toList = W9 at hbe hkc ⊢
    refine tkJ (i := 11) (v := (.int .i64 JE)) rfl hkc ?_
    simp only [Act.put, sA, sB, sC]
    refine wpAnyH_done (by kernel_rfl) ?_ _
    exact intoG_of g4 ⟨hbe, hkc⟩ rfl
  rintro g9 W9 ⟨hb9, hk9⟩
  have t9 := hb9.thereAll 256 JPS.out
  have r9 := hb9.readAll 256 JPS.out
  have o9 := JPO.out
  have s9 := JPS.out
  have hP9 := (HP.out.keep HI.out.2 (fun q => q)).keep hk9 (fun q => q)
  have tp := hP9.thereAll 256 (by rw [zero256_eq, bytesV_size]; rfl)
  have HP9 := zh hP9
  have HK9 := zh (HKW.out.trans hk9 (fun _ _ q => q))
  have HD9 : Hid (W9.heap[D]? = some (.deferred (some []))) := zh ((hk9.block D (lt_of_heap HK.out) (fun q => q)).trans HK.out)
  clear hb9 hk9 hP9
  gi_wp2
  have hD9 : (W9.setCells (s0 + 1) 0 JP.toList).heap[D]? = some (.deferred (some [])) := by
   have kk : Kp (OnB (s0 + 1)) W9 (W9.setCells (s0 + 1) 0 JP.toList) := Kp.setCells (S := OnB (s0 + 1)) (g := s0 + 1) (.inr rfl) _ _ _ (Kp.refl _ _)
   exact (kk.block D (lt_of_heap HD9.out) (by have := HSZ.out; have := HD.out; unfold OnB; omega)).trans HD9.out
  have hbp := HP9.out.whole JP (by rw [JPS.out, zero256_eq, bytesV_size]; rfl)
  have hbp2 := blkOwn hbp (grownBy_putObj' _ D (.deferred none)) (fun r e => by cases e; exact ⟨_, hD9, rfl⟩)
  refine leaveM hD9 (ret_cell1 rfl _ _ _ _ _ _ rfl hbp2 Tryz.underlying46 rfl (by rw [JPS.out]; exact info26)) ⟨by rw [HRJ.out], ?_⟩
  exact (Kp.setCells (.inl (by have := HS0.out; omega)) _ _ _ HK9.out).grownBy (grownBy_putObj' _ D _) (fun r e => by cases e; have := HS0.out; have := HSZ.out; have := HD.out; omega)
 case stop =>
  rintro D c pre W hD ⟨k, hk, rfl⟩ ⟨rfl, h1, h2⟩ hK
  obtain ⟨pre', x, he, h3, h4, hb⟩ := h1
  obtain ⟨hx, hj⟩ : x < m ∧ ∀ j, j < x → (frK fs m j).n ≠ n := by
   cases k with
   | zero => exact absurd (congrArg List.length he) (by simp)
   | succ k =>
    rw [List.range_succ] at he
    obtain ⟨e1, e2⟩ := List.append_inj' he rfl
    injection e2 with e2
    subst e2 e1
    exact ⟨by omega, fun j hj => h3 j (List.mem_range.2 hj)⟩
  have hpg : RP = bytesV (frK fs m x).b := by
   rw [← HRP.out]
   unfold wpage
   rw [Int.toNat_natCast, lastFr_at fs m x n HM.out hx hj h4]
   rfl
  rw [← hpg] at hb
  have HPL : Hid (RP.size = 256) := zh (by rw [hpg, bytesV_size, (HOK.out (by omega) x).len])
  have HB := zh hb
  have HK := zh hK
  have HD := zh hD
  have H2 := zh h2
  clear hb hK hD h2 hpg
  gi_wp2
  have hbp2 := blkOwn HB.out (grownBy_putObj' _ D (.deferred none)) (fun r e => by cases e; exact ⟨_, HK.out, rfl⟩)
  refine leaveM HK.out (ret_cell1 rfl _ _ _ _ _ _ rfl hbp2 Tryz.underlying46 rfl (by rw [HPL.out]; exact info26)) ⟨rfl, ?_⟩
  have hkw : Kp (OnB (s0 + 1)) w2 (W.putObj D (.deferred none)) := H2.out.grownBy (grownBy_putObj' _ D _) (fun r e => by cases e; exact HD.out)
  exact HK2.out.trans hkw (fun b hb q => by have := HS0.out; unfold OnB at q; omega)
end
section
open Go.RowKit
namespace Pl
def wpg (p : Pl) (m n : Int) : List Int × Int := if p.wopen.1 ≠ 0 then (zeros 256, p.wopen.1) else if isMark p.wopen.2 m = false then (zeros 256, 4) else if n < 1 ∨ wcount p p.wopen.2 m < n then (zeros 256, 4) else (wpage p p.wopen.2 m n, 0)
end Pl
theorem mark_nat {fs : List Fr} {m : Int} (h : isMark fs m = true) : ∃ k : Nat, m = k ∧ k ≤ fs.length := by
 rcases mark_cases fs m with rfl | hm | hm | ⟨i, hi, rfl⟩
 ·exact ⟨0, rfl, Nat.zero_le _⟩
 ·unfold isMark at h
  rw [decide_eq_false (by omega), decide_eq_false (by omega)] at h
  cases h
 ·unfold isMark at h
  rw [decide_eq_false (by omega), decide_eq_false (by omega)] at h
  cases h
 ·exact ⟨i + 1, rfl, hi⟩
theorem frs_ok {l : List Int} (hl : ∀ y ∈ l, 0 ≤ y ∧ y < 256) {p : Pl} (he : p.wopen.1 = 0) (hs : p.seen nmWal = l) : ∀ f ∈ p.wopen.2, FrOk f := by
 revert he
 unfold Pl.wopen
 split
 ·intro he; cases he
 ·split
  ·intro he; cases he
  ·cases hf : frsAt (p.seen nmWal) p.whead.a.toNat with
   | none => intro he; cases he
   | some g =>
    dsimp only
    split
    ·intro he; cases he
    ·intro _
     exact frsAt_ok (by rw [hs]; exact hl) hf
theorem wpage_len {fs : List Fr} (hok : ∀ f ∈ fs, FrOk f) (p : Pl) (m n : Int) : (wpage p fs m n).length = 256 := by
 unfold wpage
 split
 ·rename_i f hf
  exact (hok f (List.mem_of_mem_take (List.mem_reverse.1 (List.mem_of_find?_eq_some hf)))).len
 ·unfold Pl.jpage
  split
  ·exact sizedF_len _ _
  ·exact zeros256
section
variable {S : Nat → Prop} {W0 w : World} {db : Nat} {p : Pl}
attribute [local go_sem ↓] load26 store26 alloc26 build26
set_option maxRecDepth 100000 in
set_option maxHeartbeats 1600000 in
theorem wpg_q (h : Dq S W0 w db p) (m n : Int) (hn : -9223372036854775808 ≤ n ∧ n ≤ 9223372036854775807) :
  Calls Tryz.prog 15 #[ptrV db, .int .i64 m, .int .i64 n] w fun e w' => e = .returned (.tuple #[.agg (bytesV (p.wpg m n).1), .int .i64 (p.wpg m n).2]) ∧ Kp NoB w w' := by
 have H := zh h
 have HN := zh hn
 have HB0 := zh (Blk.new w 46 zero256)
 have HK0 := zh ((Kp.refl NoB w).alloc (.cells zero256 46))
 have oz : ones zero256 := by rw [zero256_eq]; exact bytesV_one _
 have sz : zero256.size = 256 := by rw [zero256_eq, bytesV_size]; rfl
 have HSZ := zh sz
 have HZ : Hid (bytesV (zeros 256) = zero256) := zh zero256_eq.symm
 obtain ⟨RP, hRP⟩ : ∃ RP, bytesV (p.wpg m n).1 = RP := ⟨_, rfl⟩
 obtain ⟨RE, hRE⟩ : ∃ RE, (p.wpg m n).2 = RE := ⟨_, rfl⟩
 rw [hRP, hRE]
 have HRP := zh hRP
 have HRE := zh hRE
 clear h hn hRP hRE
 unfold ptrV
 go_enter Tryz.func15, Tryz.ntmps15
 go_wp2_with fail
 refine (show Calls _ _ #[ptrV db, .int .i64 m] _ _ from asked_q (H.out.keep HK0.out) m).mono ?_
 rintro e w1 (⟨he, rfl, hk⟩ | ⟨he, lb, A, c, rfl, hl, hg, hk⟩)
 ·have HK := zh hk
  have HE : Hid (RP = zero256 ∧ RE = p.wopen.1) := zh (by
   have e1 : p.wpg m n = (zeros 256, p.wopen.1) := by unfold Pl.wpg; rw [if_pos he]
   rw [← HRP.out, ← HRE.out, e1]
   exact ⟨HZ.out, rfl⟩)
  have he1 : (p.wopen.1 == 0) = false := by simpa using he
  have he2 : (p.wopen.1 != 0) = true := by simpa using he
  obtain ⟨e0, q0⟩ : ∃ e0, p.wopen.1 = e0 := ⟨_, rfl⟩
  rw [q0] at he1 he2 HE ⊢
  have hb2 := HB0.out.keep hk (fun q => q)
  have HB2 := zh hb2
  have t2 : w1.there w.heap.size 0 256 := hb2.thereAll 256 HSZ.out
  clear hk he q0 hb2
  go_wp2_with fail
  refine bodyPost_ret (ret_cell_tmp rfl _ _ _ _ _ _ rfl (HB2.out.whole zero256 rfl) Tryz.underlying46 rfl (by rw [HSZ.out]; exact info26) _ rfl) rfl ⟨by rw [HE.out.1, HE.out.2]; rfl, ?_⟩
  exact Kp.setCells (.inl (Nat.le_refl _)) _ _ _ (HK0.out.trans HK.out (fun _ _ q => q))
 ·have HK := zh hk
  have HL := zh hl
  have HE0 := zh he
  have hb2 := HB0.out.keep hk (fun q => q)
  have HB2 := zh hb2
  have t2 : w1.there w.heap.size 0 256 := hb2.thereAll 256 HSZ.out
  cases hmk : isMark p.wopen.2 m with
  | false =>
   have HE : Hid (RP = zero256 ∧ RE = 4) := zh (by
    have e1 : p.wpg m n = (zeros 256, 4) := by unfold Pl.wpg; rw [if_neg (by rw [he]; simp), if_pos hmk]
    rw [← HRP.out, ← HRE.out, e1]
    exact ⟨HZ.out, rfl⟩)
   rw [if_neg (by simp)]
   clear hk hl he hg hmk hb2
   go_wp2_with fail
   refine bodyPost_ret (ret_cell_tmp rfl _ _ _ _ _ _ rfl (HB2.out.whole zero256 rfl) Tryz.underlying46 rfl (by rw [HSZ.out]; exact info26) _ rfl) rfl ⟨by rw [HE.out.1, HE.out.2]; rfl, ?_⟩
   exact Kp.setCells (.inl (Nat.le_refl _)) _ _ _ (HK0.out.trans HK.out (fun _ _ q => q))
  | true =>
   rw [if_pos rfl]
   by_cases h1 : n < 1
   ·have HE : Hid (RP = zero256 ∧ RE = 4) := zh (by
     have e1 : p.wpg m n = (zeros 256, 4) := by unfold Pl.wpg; rw [if_neg (by rw [he]; simp), if_neg (by rw [hmk]; simp), if_pos (.inl h1)]
     rw [← HRP.out, ← HRE.out, e1]
     exact ⟨HZ.out, rfl⟩)
    clear hk hl he hg hmk hb2
    go_wp2_with fail
    refine bodyPost_ret (ret_cell_tmp rfl _ _ _ _ _ _ rfl (HB2.out.whole zero256 rfl) Tryz.underlying46 rfl (by rw [HSZ.out]; exact info26) _ rfl) rfl ⟨by rw [HE.out.1, HE.out.2]; rfl, ?_⟩
    exact Kp.setCells (.inl (Nat.le_refl _)) _ _ _ (HK0.out.trans HK.out (fun _ _ q => q))
   ·have HM := zh hmk
    by_cases h2 : wcount p p.wopen.2 m < n
    ·have HE : Hid (RP = zero256 ∧ RE = 4) := zh (by
      have e1 : p.wpg m n = (zeros 256, 4) := by unfold Pl.wpg; rw [if_neg (by rw [he]; simp), if_neg (by rw [hmk]; simp), if_pos (.inr h2)]
      rw [← HRP.out, ← HRE.out, e1]
      exact ⟨HZ.out, rfl⟩)
     clear hk hl he hg hmk hb2
     go_wp2_with fail
     refine (wcount_q ((H.out.keep HK0.out).keep HK.out) HL.out m HM.out).mono ?_
     rintro e w3 ⟨rfl, rfl⟩
     generalize wcount p p.wopen.2 m = J at h2 ⊢
     go_wp2_with fail
     refine bodyPost_ret (ret_cell_tmp rfl _ _ _ _ _ _ rfl (HB2.out.whole zero256 rfl) Tryz.underlying46 rfl (by rw [HSZ.out]; exact info26) _ rfl) rfl ⟨by rw [HE.out.1, HE.out.2]; rfl, ?_⟩
     exact Kp.setCells (.inl (Nat.le_refl _)) _ _ _ (HK0.out.trans HK.out (fun _ _ q => q))
    ·have e1 : p.wpg m n = (wpage p p.wopen.2 m n, 0) := by unfold Pl.wpg; rw [if_neg (by rw [he]; simp), if_neg (by rw [hmk]; simp), if_neg (by omega)]
     have HE : Hid (RP = bytesV (wpage p p.wopen.2 m n) ∧ RE = 0) := zh (by
      rw [← HRP.out, ← HRE.out, e1]
      exact ⟨rfl, rfl⟩)
     have HPS : Hid (RP.size = 256) := zh (by rw [HE.out.1, bytesV_size, wpage_len (frs_ok (H.out.seen_rng nmWal) he rfl)])
     have HPO : Hid (ones RP) := zh (by rw [HE.out.1]; exact bytesV_one _)
     clear hk hl he hg hmk hb2 e1
     go_wp2_with fail
     refine (wcount_q ((H.out.keep HK0.out).keep HK.out) HL.out m HM.out).mono ?_
     rintro e w3 ⟨rfl, rfl⟩
     obtain ⟨J, hJ⟩ : ∃ J, wcount p p.wopen.2 m = J := ⟨_, rfl⟩
     rw [hJ] at h2 ⊢
     clear hJ
     go_wp2_with fail
     obtain ⟨k, hk, hkl⟩ := mark_nat HM.out
     have hcall := wlpage_q ((H.out.keep HK0.out).keep HK.out) HL.out k hkl n HN.out
     rw [← hk, ← HE.out.1] at hcall
     refine hcall.mono ?_
     clear hcall hk hkl
     rintro e w4 ⟨rfl, hk4⟩
     have hb4 := HB2.out.keep hk4 (fun q => q)
     have HB4 := zh hb4
     have t4 : w4.there w.heap.size 0 256 := hb4.thereAll 256 HSZ.out
     have HK4 := zh hk4
     have o4 := HPO.out
     have s4 := HPS.out
     clear hk4 hb4
     go_wp2_with fail
     refine bodyPost_ret (ret_cell_tmp rfl _ _ _ _ _ _ rfl (HB4.out.whole RP (by rw [HPS.out, HSZ.out])) Tryz.underlying46 rfl (by rw [HPS.out]; exact info26) _ rfl) rfl ⟨by rw [HE.out.2]; rfl, ?_⟩
     exact Kp.setCells (.inl (Nat.le_refl _)) _ _ _ ((HK0.out.trans HK.out (fun _ _ q => q)).trans HK4.out (fun _ _ q => q))
end
end
section
open Go.RowKit
theorem lastFr_next (fs : List Fr) (k : Nat) (n : Int) {f : Fr} (hf : fs[k]? = some f) : lastFr (fs.take (k + 1)) n = if f.n = n then some f else lastFr (fs.take k) n := by
 obtain ⟨hk, e⟩ := List.getElem?_eq_some_iff.1 hf
 unfold lastFr
 rw [List.take_succ_eq_append_getElem hk, e, List.reverse_append, List.reverse_singleton, List.singleton_append, List.find?_cons]
 by_cases h : f.n = n
 ·rw [if_pos h, decide_eq_true h]
 ·rw [if_neg h, decide_eq_false h]
def homeTo (p : Pl) (fs : List Fr) (m : Int) (k : Nat) : List Pg :=
 ((List.range' 1 k).filter fun (n : Nat) => (fs.take m.toNat).any fun f => decide (f.n = (n : Int))).map fun (n : Nat) => ⟨(n : Int), wpage p fs m n⟩
theorem homeTo_next (p : Pl) (fs : List Fr) (m : Int) (k : Nat) : homeTo p fs m (k + 1) = homeTo p fs m k ++ if (fs.take m.toNat).any (fun f => decide (f.n = ((k + 1 : Nat) : Int))) = true then [⟨((k + 1 : Nat) : Int), wpage p fs m ((k + 1 : Nat) : Int)⟩] else [] := by
 unfold homeTo
 rw [List.range'_1_concat, List.filter_append, List.map_append, Nat.add_comm 1 k]
 congr 1
 by_cases h : (fs.take m.toNat).any (fun f => decide (f.n = ((k + 1 : Nat) : Int))) = true
 ·rw [if_pos h, List.filter_cons_of_pos (by exact h)]
  rfl
 ·rw [if_neg h, List.filter_cons_of_neg (by exact h)]
  rfl
theorem homeTo_len (p : Pl) (fs : List Fr) (m : Int) (k : Nat) : (homeTo p fs m k).length ≤ k := by
 unfold homeTo
 rw [List.length_map]
 have := List.length_filter_le (fun (n : Nat) => (fs.take m.toNat).any fun f => decide (f.n = (n : Int))) (List.range' 1 k)
 rw [List.length_range'] at this
 exact this
theorem any_next (fs : List Fr) (k : Nat) (n : Int) {f : Fr} (hf : fs[k]? = some f) : (fs.take (k + 1)).any (fun f => decide (f.n = n)) = ((fs.take k).any (fun f => decide (f.n = n)) || decide (f.n = n)) := by
 obtain ⟨hk, e⟩ := List.getElem?_eq_some_iff.1 hf
 rw [List.take_succ_eq_append_getElem hk, e, List.any_append]
 simp
theorem homeTo_ok {fs : List Fr} (hok : ∀ f ∈ fs, FrOk f) {p : Pl} (hs : ∀ y ∈ p.seen nmDb, 0 ≤ y ∧ y < 256) (m : Int) {k : Nat} (hk : k ≤ 4096) : ∀ x ∈ homeTo p fs m k, PgOk x ∧ 1 ≤ x.n ∧ x.n ≤ 1099511627776 := by
 intro x hx
 unfold homeTo at hx
 obtain ⟨n, hn, rfl⟩ := List.mem_map.1 hx
 have h1 := List.mem_range'_1.1 ((List.mem_filter.1 hn).1)
 refine ⟨⟨wpage_len hok p m n, ?_, by show -9223372036854775808 ≤ (n : Int) ∧ (n : Int) ≤ 9223372036854775807; omega⟩, by show (1 : Int) ≤ (n : Int); omega, by show (n : Int) ≤ 1099511627776; omega⟩
 show ∀ y ∈ wpage p fs m n, 0 ≤ y ∧ y < 256
 unfold wpage
 split
 ·rename_i f hf
  exact (hok f (List.mem_of_mem_take (List.mem_reverse.1 (List.mem_of_find?_eq_some hf)))).rng
 ·unfold Pl.jpage
  split
  ·exact sizedF_rng (fun y hy => hs y (List.mem_of_mem_drop hy)) 256
  ·exact zeros_rng 256
end
section
open Go.RowKit
def upK (l : List Int) (k : Nat) : List Int := l.take k ++ List.replicate (256 - k) 0
theorem upK_len {l : List Int} {k : Nat} (h : k ≤ l.length) (hk : k ≤ 256) : (upK l k).length = 256 := by unfold upK; simp only [List.length_append, List.length_take, List.length_replicate]; omega
theorem upK_zero (l : List Int) : upK l 0 = zeros 256 := by unfold upK zeros; rw [List.take_zero, List.nil_append]
theorem upK_next {l : List Int} {k : Nat} (h : k < l.length) (hk : k < 256) : (upK l k).set k (l.getD k 0) = upK l (k + 1) := by
 unfold upK
 have hl : (l.take k).length = k := by rw [List.length_take]; omega
 rw [List.set_append_right _ _ (by omega), hl, Nat.sub_self, show 256 - k = (256 - (k + 1)) + 1 by omega, List.replicate_succ, List.set_cons_zero, List.take_add_one, List.getElem?_eq_getElem h, Option.toList_some, List.append_assoc, List.getD_eq_getElem?_getD, List.getElem?_eq_getElem h]
 rfl
theorem upK_end {l : List Int} {k : Nat} (h : k = min 256 l.length) : upK l k = sizedF l 256 := by
 unfold upK sizedF
 split
 ·rw [show k = 256 by omega]; simp
 ·rw [List.take_of_length_le (by omega), show k = l.length by omega]
theorem bytesV_setR (l : List Int) (k : Nat) (y : Int) : (bytesV l).setIfInBounds k (.int .u8 y) = bytesV (l.set k y) := by
 unfold bytesV
 rw [List.setIfInBounds_toArray, List.map_set]
theorem bytesV_getR {l : List Int} {k : Nat} (h : k < l.length) : (bytesV l)[k]? = some (.int .u8 (l.getD k 0)) := by
 unfold bytesV
 rw [List.getElem?_toArray, List.getElem?_map, List.getD_eq_getElem?_getD, List.getElem?_eq_getElem h]
 rfl
def TxRel (w : World) (s0 : Nat) (pg l : List Int) (c : Nat) (t1 : TypeId) (v : Value) (wr : World) : Prop :=
 ∃ k : Nat, v = .int .i64 (k : Int) ∧ k ≤ 256 ∧ k ≤ c ∧ Blk wr s0 46 (bytesV pg) ∧ Blk wr (s0 + 1) t1 (bytesV (upK l k)) ∧ Kp NoB w wr
attribute [local go_sem ↓] conv64 load26 store26 alloc26 build26
set_option maxRecDepth 100000 in
set_option maxHeartbeats 800000 in
theorem text_rok (w : World) (pg : List Int) (hl : pg.length = 256) (hr : ∀ y ∈ pg, 0 ≤ y ∧ y < 256) :
  Calls Tryz.prog 97 #[.agg (bytesV pg)] w fun e w' => e = .returned (.string (strOf pg)) ∧ Kp NoB w w' := by
 have HR := zh hr
 have HL := zh hl
 have hmk : (Instr.makeSlice 68 (.int .i64 256) (.int .i64 256)).run Tryz.prog (w.alloc (.cells (bytesV pg) 46)) = _ := run_make_row' (P := Tryz.prog) 68 5 (.int .u8 0) 1 Tryz.underlying68 infoU8z rfl .i64 .i64 256 (by omega) (by omega) (w.alloc (.cells (bytesV pg) 46))
 rw [made_zeros] at hmk
 have hb0 : Blk ((w.alloc (.cells (bytesV pg) 46)).alloc (.cells (bytesV (zeros 256)) 5)) w.heap.size 46 (bytesV pg) := (Blk.new _ _ _).alloc _
 have hb1 : Blk ((w.alloc (.cells (bytesV pg) 46)).alloc (.cells (bytesV (zeros 256)) 5)) (w.heap.size + 1) 5 (bytesV (zeros 256)) := Blk.top (by simp)
 have hk0 : Kp NoB w ((w.alloc (.cells (bytesV pg) 46)).alloc (.cells (bytesV (zeros 256)) 5)) := ((Kp.refl NoB w).alloc _).alloc _
 have hsz : (w.alloc (.cells (bytesV pg) 46)).heap.size = w.heap.size + 1 := by simp
 clear hr hl
 go_enter Tryz.func97, Tryz.ntmps97
 go_upto_region 3 with fail
 clear hmk
 generalize (w.alloc (.cells (bytesV pg) 46)).alloc (.cells (bytesV (zeros 256)) 5) = w2 at hb0 hb1 hk0 ⊢
 generalize hs0 : w.heap.size = s0 at hb0 hb1 hsz ⊢
 have HS0 := zh hs0
 have HB0 := zh hb0
 have HB1 := zh hb1
 have HK0 := zh hk0
 clear hs0 hb0 hb1 hk0 hsz
 go_loopw [4] (fun v wr => TxRel w s0 pg pg 256 5 v wr) (fun v _ => 256 - (intOf v).toNat)
 case atStart => exact ⟨0, rfl, by omega, by omega, HB0.out, by rw [upK_zero]; exact HB1.out, HK0.out⟩
 case round =>
  obtain ⟨wq, rfl⟩ : ∃ wq, wq = wr := ⟨_, rfl⟩
  obtain ⟨k, rfl, hk, _, hb0, hb1, hkp⟩ := hrel
  have X0 := zh hb0
  have X1 := zh hb1
  have XK := zh hkp
  by_cases hlt : k < 256
  ·have hlt' : (k : Int) < 256 := by omega
   have hkl : k < pg.length := by have := HL.out; omega
   have c0 : wq.cell? ⟨s0, k, none⟩ = some (.int .u8 (pg.getD k 0)) := by rw [hb0.cell, bytesV_getR hkl]
   have hul : (upK pg k).length = 256 := upK_len (by omega) hk
   have c1 : wq.cell? ⟨s0 + 1, k, none⟩ = some (.int .u8 ((upK pg k).getD k 0)) := by rw [hb1.cell, bytesV_getR (by omega)]
   have z1 := hb1.frozen k
   have hN : Hid (TxRel w s0 pg pg 256 5 (.int .i64 ((k + 1 : Nat) : Int)) (wq.setCell ⟨s0 + 1, k, none⟩ (.int .u8 (pg.getD k 0)))) := zh ⟨k + 1, rfl, by omega, by omega, hb0.far (by show s0 ≠ s0 + 1; omega) _, by
    have := hb1.set_ k (.int .u8 (pg.getD k 0))
    rwa [bytesV_setR, upK_next hkl hlt] at this, hkp.setCell (.inl (by have := HS0.out; show w.heap.size ≤ s0 + 1; omega)) _⟩
   clear hb0 hb1 hkp hul hkl
   obtain ⟨y, hy⟩ : ∃ y, pg.getD k 0 = y := ⟨_, rfl⟩
   rw [hy] at c0 hN
   clear hy
   go_wp2_with fail
   go_roundw
   case rel => exact hN.out
   case measure => simp [intOf]; omega
  ·have hlt' : ¬ (k : Int) < 256 := by omega
   obtain rfl : k = 256 := by omega
   have e1 : upK pg 256 = pg := by
    rw [upK_end (l := pg) (k := 256) (by have := HL.out; omega)]
    unfold sizedF
    rw [if_pos (by have := HL.out; omega), List.take_of_length_le (by have := HL.out; omega)]
   rw [e1] at hb1
   have h1 := hb1.byAt 0 256 (by have := HL.out; omega)
   have h2 := hb1.byRd 0 256 (by have := HL.out; omega)
   rw [List.drop_zero, List.take_of_length_le (by have := HL.out; omega)] at h2
   clear hb0 hb1 hkp e1
   go_wp2_with fail
   go_ret
   exact ⟨by rfl, XK.out⟩
set_option maxRecDepth 100000 in
set_option maxHeartbeats 800000 in
theorem pageof_rok (w : World) (l : List Int) (n : Int) (hr : ∀ y ∈ l, 0 ≤ y ∧ y < 256) (hl : l.length ≤ 1099511627776) (hn : 1 ≤ n ∧ n ≤ 1099511627776) :
  Calls Tryz.prog 91 #[.string (strOf l), .int .i64 n] w fun e w' => e = .returned (.agg (bytesV (pageOf l n.toNat))) ∧ Kp NoB w w' := by
 have HR := zh hr
 have HN := zh hn
 obtain ⟨m, hm⟩ : ∃ m : Nat, (n.toNat - 1) * 256 = m := ⟨_, rfl⟩
 have hmn : (n - 1) * 256 = (m : Int) := by omega
 have hm3 : m ≤ 281474976710656 := by omega
 have hsz := strOf_size l
 have hw1 : IntKind.i64.wrap (n - 1) = n - 1 := by rw [IntKind.wrap_i64]; omega
 have hw2 : IntKind.i64.wrap ((n - 1) * 256) = (m : Int) := by rw [hmn, IntKind.wrap_i64]; omega
 obtain ⟨d, hd⟩ : ∃ d, l.drop m = d := ⟨_, rfl⟩
 have hdl : d.length = l.length - m := by rw [← hd, List.length_drop]
 have hdg : ∀ k, m + k < l.length → d.getD k 0 = l.getD (m + k) 0 := fun k hk => by rw [← hd, List.getD_eq_getElem?_getD, List.getD_eq_getElem?_getD, List.getElem?_drop]
 have HDL := zh hdl
 have HDG := zh hdg
 have HPG : Hid (pageOf l n.toNat = sizedF d 256) := zh (by unfold pageOf; rw [hm, hd])
 have HLL := zh hl
 have hez : zero256 = bytesV (zeros 256) := by kernel_rfl
 have hb0 : Blk ((w.alloc (.cells zero256 46)).alloc (.cells zero256 46)) w.heap.size 46 (bytesV (zeros 256)) := by rw [← hez]; exact (Blk.new _ _ _).alloc _
 have hb1 : Blk ((w.alloc (.cells zero256 46)).alloc (.cells zero256 46)) (w.heap.size + 1) 46 (bytesV (zeros 256)) := by rw [← hez]; exact Blk.top (by simp)
 have hk0 : Kp NoB w ((w.alloc (.cells zero256 46)).alloc (.cells zero256 46)) := ((Kp.refl NoB w).alloc _).alloc _
 have hsz2 : (w.alloc (.cells zero256 46)).heap.size = w.heap.size + 1 := by simp
 clear hez
 clear hr hn hm hmn hd hdl hdg
 rw [HPG.out]
 go_enter Tryz.func91, Tryz.ntmps91
 go_upto_region 3 with fail
 generalize ((w.alloc (.cells zero256 46)).alloc (.cells zero256 46)) = w2 at hb0 hb1 hk0 ⊢
 generalize hs0 : w.heap.size = s0 at hb0 hb1 hsz2 ⊢
 have HS0 := zh hs0
 have HB0 := zh hb0
 have HB1 := zh hb1
 have HK0 := zh hk0
 clear hs0 hb0 hb1 hk0 hsz2
 go_loopw [6] (fun v wr => TxRel w s0 (zeros 256) d d.length 46 v wr) (fun v _ => 256 - (intOf v).toNat)
 case atStart => exact ⟨0, rfl, by omega, by omega, HB0.out, by rw [upK_zero]; exact HB1.out, HK0.out⟩
 case round =>
  obtain ⟨wq, rfl⟩ : ∃ wq, wq = wr := ⟨_, rfl⟩
  obtain ⟨k, rfl, hk, hkd, hb0, hb1, hkp⟩ := hrel
  have X0 := zh hb0
  have X1 := zh hb1
  have XK := zh hkp
  have hw3 : IntKind.i64.wrap ((m : Int) + (k : Int)) = (m : Int) + (k : Int) := by rw [IntKind.wrap_i64]; omega
  by_cases hlt : k < 256 ∧ m + k < l.length
  ·have hlt' : (k : Int) < 256 := by omega
   have hmk : (m : Int) + (k : Int) < (l.length : Int) := by omega
   have hkl : k < d.length := by have := HDL.out; omega
   have hul : (upK d k).length = 256 := upK_len hkd hk
   have c1 : wq.cell? ⟨s0 + 1, k, none⟩ = some (.int .u8 ((upK d k).getD k 0)) := by rw [hb1.cell, bytesV_getR (by omega)]
   have z1 := hb1.frozen k
   have hix := fun W => idxStr (s := strOf l) rfl HR.out (show m + k < l.length by omega) W
   rw [show ((m + k : Nat) : Int) = (m : Int) + (k : Int) by omega, ← HDG.out k (by omega)] at hix
   have hN : Hid (TxRel w s0 (zeros 256) d d.length 46 (.int .i64 ((k + 1 : Nat) : Int)) (wq.setCell ⟨s0 + 1, k, none⟩ (.int .u8 (d.getD k 0)))) := zh ⟨k + 1, rfl, by omega, by omega, hb0.far (by show s0 ≠ s0 + 1; omega) _, by
    have := hb1.set_ k (.int .u8 (d.getD k 0))
    rwa [bytesV_setR, upK_next hkl hlt.1] at this, hkp.setCell (.inl (by have := HS0.out; show w.heap.size ≤ s0 + 1; omega)) _⟩
   clear hb0 hb1 hkp hul hkl hkd
   obtain ⟨y, hy⟩ : ∃ y, d.getD k 0 = y := ⟨_, rfl⟩
   rw [hy] at hix hN
   clear hy hlt
   go_wp2_with fail
   go_roundw
   case rel => exact hN.out
   case measure => simp [intOf]; omega
  ·have hx : ¬ (k : Int) < 256 ∨ ((k : Int) < 256 ∧ ¬ (m : Int) + (k : Int) < (l.length : Int)) := by omega
   have hke : k = min 256 d.length := by have := HDL.out; omega
   have e1 : upK d k = sizedF d 256 := upK_end hke
   rw [e1] at hb1
   have hpl : (sizedF d 256).length = 256 := sizedF_len _ _
   have hbl : (bytesV (sizedF d 256)).size = 256 := by simp [bytesV, hpl]
   have hzl : (bytesV (zeros 256)).size = 256 := by unfold bytesV zeros; simp
   have t1 : wq.there (s0 + 1) 0 256 := hb1.thereAll 256 hbl
   have r1 : readRow wq (s0 + 1) 0 256 = bytesV (sizedF d 256) := hb1.readAll 256 hbl
   have t0 : wq.there s0 0 256 := hb0.thereAll 256 hzl
   have o1 : ones (bytesV (sizedF d 256)) := by unfold ones bytesV; simp only [List.all_toArray', List.all_eq_true]; exact u8_one _
   obtain ⟨P, hP⟩ : ∃ P, bytesV (sizedF d 256) = P := ⟨_, rfl⟩
   rw [hP] at r1 hbl o1
   have HP := zh hP
   have HBL := zh hbl
   have HW : Hid (Blk (wq.setCells s0 0 P.toList) s0 46 P) := zh (hb0.whole P (by rw [hbl, hzl]))
   have HKW : Hid (Kp NoB w (wq.setCells s0 0 P.toList)) := zh (Kp.setCells (.inl (by have := HS0.out; omega)) _ _ _ hkp)
   clear hb0 hb1 hkp e1 hke hlt hpl hzl hP
   rcases hx with hx | ⟨hx1, hx⟩
   all_goals
    go_wp2_with fail
    exact bodyPost_ret (results_cell_row rfl _ _ _ _ _ _ _ rfl HW.out Tryz.underlying46 rfl (by rw [HBL.out]; exact info26)) rfl ⟨by rw [HP.out], HKW.out⟩
end
section
open Go.RowKit
def jReady (p : Pl) : Int := if p.down then 7 else 0
set_option maxRecDepth 100000 in
set_option maxHeartbeats 800000 in
theorem ready_rok (w : World) (d : Rd) (p : Pl) (h : Rf w d p) (hnf : p.nf < 1099511627776) :
  Calls Tryz.prog 88 #[rdV d p] w fun e w' => e = .returned (.int .i64 (jReady p)) ∧ Kp NoB w w' := by
 have H := zh h
 have HNF := zh hnf
 have he : Hid (p.readE 0 0 = jReady p) := zh (by unfold Pl.readE jReady; simp)
 clear h hnf
 unfold rdV
 go_enter Tryz.func88, Tryz.ntmps88
 go_wp2_with fail
 refine (show Calls _ _ #[rdV d p, .string nmDb, .int .i64 0, .int .i64 0] _ _ from read_okR _ d p nmDb 0 0 (H.out.keep ((Kp.refl NoB w).alloc _)) HNF.out (by omega) (by omega)).mono ?_
 rintro e w2 ⟨rfl, hk⟩
 have HK := zh (((Kp.refl NoB w).alloc _).trans hk (fun _ _ q => q))
 clear hk
 rw [he.out]
 go_wp2_with fail
 go_ret
 exact ⟨rfl, HK.out⟩
set_option maxRecDepth 100000 in
set_option maxHeartbeats 800000 in
theorem count_rok (w : World) (d : Rd) (p : Pl) (h : Rf w d p) (hnf : p.nf < 1099511627776) :
  Calls Tryz.prog 94 #[rdV d p] w fun e w' => e = .returned (.int .i64 (p.jcount : Int)) ∧ Kp NoB w w' := by
 have H := zh h
 have HNF := zh hnf
 have hk1 : Kp NoB w (w.alloc (.cells (rdC d p) 29)) := (Kp.refl NoB w).alloc _
 have hb1 : Blk (w.alloc (.cells (rdC d p) 29)) w.heap.size 29 (rdC d p) := Blk.new _ _ _
 clear h hnf
 by_cases hd : p.down = true
 ·have hr : Hid (jReady p = 7) := zh (by unfold jReady; rw [if_pos hd])
  have hc : Hid (p.jcount = 0) := zh (by unfold Pl.jcount Pl.len; rw [if_pos hd])
  rw [hc.out]
  clear hd
  unfold rdV
  go_enter Tryz.func94, Tryz.ntmps94
  go_wp2_with fail
  refine (show Calls _ _ #[rdV d p] _ _ from ready_rok _ d p (H.out.keep hk1) HNF.out).mono ?_
  rintro e w2 ⟨rfl, hk⟩
  have HK := zh (hk1.trans hk (fun _ _ q => q))
  clear hk
  rw [hr.out]
  go_wp2_with fail
  go_ret
  exact ⟨rfl, HK.out⟩
 ·have hr : Hid (jReady p = 0) := zh (by unfold jReady; rw [if_neg hd])
  obtain ⟨n, hn⟩ : ∃ n, (p.seen nmDb).length = n := ⟨_, rfl⟩
  have hc : Hid (p.jcount = n / 256) := zh (by unfold Pl.jcount Pl.len; rw [if_neg hd, hn])
  rw [hc.out]
  have hsz := strOf_size (p.seen nmDb)
  rw [hn] at hsz
  have hn2 : n ≤ 1048576 := by rw [← hn]; exact (H.out.look nmDb).1.1
  clear hd hn
  unfold rdV
  go_enter Tryz.func94, Tryz.ntmps94
  go_wp2_with fail
  refine (show Calls _ _ #[rdV d p] _ _ from ready_rok _ d p (H.out.keep hk1) HNF.out).mono ?_
  rintro e w2 ⟨rfl, hk⟩
  have HK := zh (hk1.trans hk (fun _ _ q => q))
  obtain ⟨c0, c1, c2, c3, c4, c5, c6, c7⟩ := (hb1.keep hk (fun q => q)).rdc
  clear hk
  rw [hr.out]
  go_wp2_with fail
  refine (show Calls _ _ #[rdV d p, .string nmDb] _ _ from seen_ok _ d p nmDb (H.out.keep HK.out) HNF.out).mono ?_
  rintro e w3 ⟨rfl, hk⟩
  have HK3 := zh (HK.out.trans hk (fun _ _ q => q))
  clear hk
  go_wp2_with fail
  go_ret
  exact ⟨by rw [show ((n / 256 : Nat) : Int) = (n : Int) / 256 by omega]; rfl, HK3.out⟩
end
section
open Go.RowKit
theorem RfsAt.len {w : World} {A : Option Addr} {n : Nat} {fs : List Fr} (h : RfsAt w A n fs) : fs.length = n := by have := h.1; simpa using this
theorem RfsAt.keep {w w' : World} {A : Option Addr} {n : Nat} {fs : List Fr} (h : RfsAt w A n fs) (k : Kp NoB w w') : RfsAt w' A n fs := RowsC.keep h k
set_option maxRecDepth 100000 in
set_option maxHeartbeats 1600000 in
theorem is_rok (w : World) (v : W4) (A : Option Addr) (n c : Nat) (fs : List Fr) (h : RfsAt w A n fs) (hok : ∀ f ∈ fs, FrOk f) (hn : n ≤ 1099511627776) (m : Int) :
  Calls Tryz.prog 53 #[lgV v A n c, .int .i64 m] w fun e w' => e = .returned (.bool (isMark fs m)) ∧ Kp NoB w w' := by
 have hl := h.len
 subst hl
 have hln : fs.length ≤ 9223372036854775807 := by omega
 obtain ⟨va, vb, vc, vd⟩ := v
 unfold lgV lgA
 have hk : Kp NoB w (w.alloc (.cells #[.int .i64 va, .int .i64 vb, .int .i64 vc, .int .i64 vd, .slice A fs.length c] 94)) := (Kp.refl NoB w).alloc _
 have HK := zh hk
 clear hk hn
 rcases mark_cases fs m with rfl | hm | hm | ⟨i, hi, rfl⟩
 ·have e : isMark fs 0 = true := by unfold isMark; rfl
  rw [e]
  clear h e hok
  go_enter Tryz.func53, Tryz.ntmps53
  go_wp2_with fail
  go_ret
  exact ⟨rfl, HK.out⟩
 ·have e : isMark fs m = false := by
   unfold isMark
   rw [decide_eq_false (by omega), decide_eq_false (by omega)]
   rfl
  rw [e]
  have h1 : (m == 0) = false := by simp; omega
  have h2 : ¬ (0 < m) := by omega
  clear h e hm hln hok
  go_enter Tryz.func53, Tryz.ntmps53
  go_wp2_with fail
  go_ret
  exact ⟨rfl, HK.out⟩
 ·have e : isMark fs m = false := by
   unfold isMark
   rw [decide_eq_false (by omega), decide_eq_false (by omega)]
   rfl
  rw [e]
  have h1 : (m == 0) = false := by simp; omega
  have h2 : 0 < m := by omega
  have h3 : ¬ m ≤ (fs.length : Int) := by omega
  clear h e hm hok
  go_enter Tryz.func53, Tryz.ntmps53
  go_wp2_with fail
  go_ret
  exact ⟨rfl, HK.out⟩
 ·obtain ⟨g, o, hA, hg, -, ce, -⟩ := h.at_ (List.getElem?_eq_getElem hi) (hok _ (List.getElem_mem hi)).len
  subst hA
  rw [isMark_at fs i hi]
  have hw1 : IntKind.i64.wrap (((i + 1 : Nat) : Int) - 1) = (i : Int) := by rw [IntKind.wrap_i64]; omega
  obtain ⟨en, hen⟩ : ∃ en, (fs[i]'hi).en = en := ⟨_, rfl⟩
  have ce2 := (HK.out.cell hg (fun q => q)).trans ce
  rw [hen] at ce2 ⊢
  have h3 : ((i + 1 : Nat) : Int) ≤ (fs.length : Int) := by omega
  clear h hen ce hok
  by_cases he : 0 < en
  ·rw [decide_eq_true he]
   go_enter Tryz.func53, Tryz.ntmps53
   go_wp2_with fail
   go_ret
   exact ⟨rfl, HK.out⟩
  ·rw [decide_eq_false he]
   go_enter Tryz.func53, Tryz.ntmps53
   go_wp2_with fail
   go_ret
   exact ⟨rfl, HK.out⟩
set_option maxRecDepth 100000 in
set_option maxHeartbeats 1600000 in
theorem wcount_rok (w : World) (d : Rd) (p : Pl) (hr : Rf w d p) (hnf : p.nf < 1099511627776) (v : W4) (A : Option Addr) (n c : Nat) (fs : List Fr) (h : RfsAt w A n fs) (hok : ∀ f ∈ fs, FrOk f) (hn : n ≤ 1099511627776) (m : Int) (hm : isMark fs m = true) :
  Calls Tryz.prog 44 #[rdV d p, lgV v A n c, .int .i64 m] w fun e w' => e = .returned (.int .i64 (wcount p fs m)) ∧ Kp NoB w w' := by
 have hl := h.len
 subst hl
 have hln : fs.length ≤ 9223372036854775807 := by omega
 obtain ⟨va, vb, vc, vd⟩ := v
 have HR := zh hr
 have HNF := zh hnf
 have hk : Kp NoB w ((w.alloc (.cells (rdC d p) 29)).alloc (.cells #[.int .i64 va, .int .i64 vb, .int .i64 vc, .int .i64 vd, .slice A fs.length c] 94)) := ((Kp.refl NoB w).alloc _).alloc _
 have HK := zh hk
 clear hk hn hr hnf
 rcases mark_cases fs m with rfl | hm1 | hm1 | ⟨i, hi, rfl⟩
 ·have e : wcount p fs 0 = p.jcount := by unfold wcount; rfl
  rw [e]
  clear h e hok hm
  unfold lgV lgA rdV
  go_enter Tryz.func44, Tryz.ntmps44
  go_wp2_with fail
  refine (show Calls _ _ #[rdV d p] _ _ from count_rok _ d p (HR.out.keep HK.out) HNF.out).mono ?_
  rintro e w1 ⟨rfl, hk1⟩
  have HK1 := zh (HK.out.trans hk1 (fun _ _ q => q))
  clear hk1
  go_wp2_with fail
  go_ret
  exact ⟨rfl, HK1.out⟩
 ·have e : isMark fs m = false := by
   unfold isMark
   rw [decide_eq_false (by omega), decide_eq_false (by omega)]
   rfl
  rw [e] at hm
  cases hm
 ·have e : isMark fs m = false := by
   unfold isMark
   rw [decide_eq_false (by omega), decide_eq_false (by omega)]
   rfl
  rw [e] at hm
  cases hm
 ·obtain ⟨g, o, hA, hg, -, ce, -⟩ := h.at_ (List.getElem?_eq_getElem hi) (hok _ (List.getElem_mem hi)).len
  subst hA
  have hok1 := (hok _ (List.getElem_mem hi)).e0
  have e : wcount p fs ((i + 1 : Nat) : Int) = (fs[i]'hi).en - 1 := by
   unfold wcount
   rw [if_neg (by omega), show (((i + 1 : Nat) : Int)).toNat - 1 = i by omega, List.getElem?_eq_getElem hi]
  rw [e]
  have hw1 : IntKind.i64.wrap (((i + 1 : Nat) : Int) - 1) = (i : Int) := by rw [IntKind.wrap_i64]; omega
  obtain ⟨en, hen⟩ : ∃ en, (fs[i]'hi).en = en := ⟨_, rfl⟩
  have ce2 := (HK.out.cell hg (fun q => q)).trans ce
  rw [hen] at ce2 hok1 ⊢
  have hw2 : IntKind.i64.wrap (en - 1) = en - 1 := by rw [IntKind.wrap_i64]; omega
  have hz : (((i + 1 : Nat) : Int) == 0) = false := by simp; omega
  have hi2 : (i : Int) < (fs.length : Int) := by omega
  unfold rdC at ce2
  clear h hen ce hok e hm hok1
  unfold lgV lgA rdV
  go_enter Tryz.func44, Tryz.ntmps44
  go_wp2_with fail
  go_ret
  exact ⟨rfl, HK.out⟩
set_option maxRecDepth 100000 in
set_option maxHeartbeats 1600000 in
theorem wtext_rok (w : World) (f : Fr) (hf : f.b.length = 256) (hr : ∀ y ∈ f.b, 0 ≤ y ∧ y < 256) (hn : -9223372036854775808 ≤ f.n ∧ f.n ≤ 9223372036854775807) (he : -9223372036854775808 ≤ f.en ∧ f.en ≤ 9223372036854775807) :
  Calls Tryz.prog 46 #[.agg (rfA f)] w fun e w' => e = .returned (.string (strOf (frB f))) ∧ Kp NoB w w' := by
 obtain ⟨fn, en, b⟩ := f
 have HF := zh hf
 have HR := zh hr
 have HN := zh hn
 have HE := zh he
 have hb : Blk (w.alloc (.cells (rfA ⟨fn, en, b⟩) 99)) w.heap.size 99 (rfA ⟨fn, en, b⟩) := Blk.new _ _ _
 have hk : Kp NoB w (w.alloc (.cells (rfA ⟨fn, en, b⟩) 99)) := (Kp.refl NoB w).alloc _
 clear hf hr hn he
 obtain ⟨RA, hRA⟩ : ∃ RA, rfA ⟨fn, en, b⟩ = RA := ⟨_, rfl⟩
 have HRA := zh hRA
 rw [hRA] at hb hk ⊢
 clear hRA
 go_enter Tryz.func46, Tryz.ntmps46
 go_upto_region 1 with fail
 generalize w.alloc (.cells RA 99) = W at hb hk ⊢
 generalize hs0 : w.heap.size = s0 at hb ⊢
 rw [← HRA.out] at hb
 have HB := zh hb
 have HK := zh hk
 have C0 : Hid (∀ V, Kp NoB W V → V.cell? ⟨s0, 0, none⟩ = some (.int .i64 fn)) := zh (fun V q => (HB.out.keep q (fun z => z)).cell 0)
 have C1 : Hid (∀ V, Kp NoB W V → V.cell? ⟨s0, 1, none⟩ = some (.int .i64 en)) := zh (fun V q => (HB.out.keep q (fun z => z)).cell 1)
 have C2 : Hid (∀ V, Kp NoB W V → V.rangeAt s0 2 (b.map (Value.int .u8))) := zh (fun V q => Blk.range (xa := [.int .i64 fn, .int .i64 en]) (xd := []) (by rw [List.append_nil]; exact HB.out.keep q (fun z => z)) 2 rfl)
 clear hs0 hb hk
 refine wp_region_held_drew (S := fun V => Kp NoB W V) (by kernel_rfl) (Kp.refl NoB W).drew (fun hHeld => ?_)
 have k0 : Kp NoB W W.drew := (Kp.refl NoB W).drew
 generalize W.drew = V0 at k0 hHeld ⊢
 have huw := Tryz.underlying46
 have hiw : (Tryz.prog.info? 46).map (·.size) = some (b.map (Value.int .u8)).length := by rw [List.length_map, HF.out]; exact info26
 refine tkJ (i := 0) (v := (.pointer (some ⟨s0, 0, none⟩))) rfl k0 ?_
 simp only [Act.put, sA, sB, sC]
 refine tkS (i := 1) (v := (.int .i64 fn)) rfl (Or.inl ⟨by rfl, fun w' hq => by (have := C0.out w' hq); go_simp⟩) k0 ?_
 simp only [Act.put, sA, sB, sC]
 refine tkJ (i := 3) (v := (.pointer (some ⟨s0, 1, none⟩))) rfl k0 ?_
 simp only [Act.put, sA, sB, sC]
 refine tkS (i := 4) (v := (.int .i64 en)) rfl (Or.inl ⟨by rfl, fun w' hq => by (have := C1.out w' hq); go_simp⟩) k0 ?_
 simp only [Act.put, sA, sB, sC]
 refine tkJ (i := 9) (v := (.pointer (some ⟨s0, 2, none⟩))) rfl k0 ?_
 simp only [Act.put, sA, sB, sC]
 refine tkS (i := 10) (v := .agg ((b.map (Value.int .u8))).toArray) rfl (yieldsIf_load_mid (by rfl) _ _ rfl _ _ rfl (b.map (Value.int .u8)) _ (fun V q => C2.out V q) huw rfl hiw) k0 ?_
 simp only [Act.put, sA, sB, sC]
 refine tkR [2] ?_
 refine AllReadyH.callR (fun y W' => y = .string (strOf (four fn)) ∧ Kp NoB W W') rfl (by rfl) 96 #[.int .i64 fn] (by first | (go_simp; done) | (go_simp; rfl)) (fun _ _ q => q.2) ((four_rok V0 fn HN.out).mono (by rintro e w' ⟨rfl, hk⟩; exact ⟨_, rfl, rfl, k0.trans hk (fun _ _ q => q)⟩)) ?_ AllReadyH.nil
 rintro y V1 ⟨rfl, k1⟩
 simp only [Act.put, sA, sB, sC]
 refine tkR [5] ?_
 refine AllReadyH.callR (fun y W' => y = .string (strOf (four en)) ∧ Kp NoB W W') rfl (by rfl) 96 #[.int .i64 en] (by first | (go_simp; done) | (go_simp; rfl)) (fun _ _ q => q.2) ((four_rok V1 en HE.out).mono (by rintro e w' ⟨rfl, hk⟩; exact ⟨_, rfl, rfl, k1.trans hk (fun _ _ q => q)⟩)) ?_ AllReadyH.nil
 rintro y V2 ⟨rfl, k2⟩
 simp only [Act.put, sA, sB, sC]
 have z1 : (strOf (four fn)).size = 4 := strOf_size _
 have z2 : (strOf (four en)).size = 4 := strOf_size _
 have z3 : (strOf (zeros 56)).size = 56 := strOf_size _
 have z4 : (strOf b).size = 256 := by rw [strOf_size]; exact HF.out
 have z5 : (strOf (four fn) ++ strOf (four en)).size = 8 := by rw [ByteArray.size_append, z1, z2]
 have z6 : (strOf (four fn) ++ strOf (four en) ++ strOf (zeros 56)).size = 64 := by rw [ByteArray.size_append, z5, z3]
 refine tkJ (i := 6) (v := (.string (strOf (four fn) ++ strOf (four en)))) rfl k2 ?_
 simp only [Act.put, sA, sB, sC]
 refine tkR [7] ?_
 refine AllReadyH.callR (fun y W' => y = .string (strOf (zeros 56)) ∧ Kp NoB W W') rfl (by rfl) 92 #[.int .i64 56] (by first | (go_simp; done) | (go_simp; rfl)) (fun _ _ q => q.2) ((zeros_rok V2 56 (by omega)).mono (by rintro e w' ⟨rfl, hk⟩; exact ⟨_, rfl, rfl, k2.trans hk (fun _ _ q => q)⟩)) ?_ AllReadyH.nil
 rintro y V3 ⟨rfl, k3⟩
 simp only [Act.put, sA, sB, sC]
 refine tkJ (i := 8) (v := (.string (strOf (four fn) ++ strOf (four en) ++ strOf (zeros 56)))) rfl k3 ?_
 simp only [Act.put, sA, sB, sC]
 refine tkR [11] ?_
 refine AllReadyH.callR (fun y W' => y = .string (strOf b) ∧ Kp NoB W W') rfl (by rfl) 97 #[.agg (bytesV b)] (by first | (go_simp; done) | (go_simp; rfl)) (fun _ _ q => q.2) ((text_rok V3 b HF.out HR.out).mono (by rintro e w' ⟨rfl, hk⟩; exact ⟨_, rfl, rfl, k3.trans hk (fun _ _ q => q)⟩)) ?_ AllReadyH.nil
 rintro y V4 ⟨rfl, k4⟩
 simp only [Act.put, sA, sB, sC]
 refine tkJ (i := 12) (v := (.string (strOf (four fn) ++ strOf (four en) ++ strOf (zeros 56) ++ strOf b))) rfl k4 ?_
 simp only [Act.put, sA, sB, sC]
 refine tkJ (i := 13) (v := (.string (strOf (four fn) ++ strOf (four en) ++ strOf (zeros 56) ++ strOf b))) rfl k4 ?_
 simp only [Act.put, sA, sB, sC]
 refine wpAnyH_done (by kernel_rfl) ?_ _
 have hS : strOf (four fn) ++ strOf (four en) ++ strOf (zeros 56) ++ strOf b = strOf (frB ⟨fn, en, b⟩) := by unfold frB; rw [strOf_app, strOf_app, strOf_app]
 rw [hS]
 have K4 := zh (HK.out.trans k4 (fun _ _ q => q))
 clear hS hHeld z1 z2 z3 z4 z5 z6 k0 k1 k2 k3 k4
 go_wp2_with fail
 go_ret
 exact ⟨rfl, K4.out⟩
end
end Go.Proofs.YtegcbdfilkecpaaGreat
