/- Texts of this proof, one behind the other: lemmas and contracts; each says its own conditions. -/
import Derived.Test.YtegcbdfilkecpaaGreatQ7
import Derived.Test.YtegcbdfilkecpaaGreatQ13
import Derived.Test.YtegcbdfilkecpaaGreatQ14
import Derived.Test.YtegcbdfilkecpaaGreatQ15
namespace Go.Proofs.YtegcbdfilkecpaaGreat
section
open Go.RowKit
theorem frW_appR : ∀ (a b : List Fr) (k : Nat), frW k (a ++ b) = frW k a ++ frW (k + a.length) b
 | [], b, k => rfl
 | x :: r, b, k => by
  show _ :: frW (k + 1) (r ++ b) = _ :: (frW (k + 1) r ++ frW (k + (r.length + 1)) b)
  rw [frW_appR r b (k + 1), show k + 1 + r.length = k + (r.length + 1) by omega]
theorem frW_lenR : ∀ (l : List Fr) (k : Nat), (frW k l).length = l.length
 | [], _ => rfl
 | x :: r, k => by
  show (frW (k + 1) r).length + 1 = r.length + 1
  rw [frW_lenR r (k + 1)]
theorem frW_inR {y : Stp} : ∀ {l : List Fr} {k : Nat}, y ∈ frW k l → ∃ (j : Nat) (f : Fr), j < k + l.length ∧ f ∈ l ∧ y = ⟨0, nmWal, 64 + 320 * (j : Int), frB f⟩
 | [], _, h => by cases h
 | x :: r, k, h => by
  rcases List.mem_cons.1 h with e | e
  ·exact ⟨k, x, by rw [List.length_cons]; omega, List.mem_cons_self .., e⟩
  ·obtain ⟨j, f, h1, h2, h3⟩ := frW_inR e
   exact ⟨j, f, by rw [List.length_cons]; omega, List.mem_cons_of_mem _ h2, h3⟩
def rawN (l : List Pg) : List Fr := if l = [] then [⟨0, 0, zeros 256⟩] else rawFr l
theorem newFr_cut (count : Int) (l : List Pg) : ∃ init f, rawN l = init ++ [f] ∧ newFr count l = init ++ [{ f with en := count + 1 }] := by
 have hne : rawN l ≠ [] := by
  unfold rawN rawFr
  split
  ·simp
  ·rename_i h
   simpa using h
 obtain ⟨init, f, e⟩ : ∃ init f, rawN l = init ++ [f] := ⟨(rawN l).dropLast, (rawN l).getLast hne, (List.dropLast_concat_getLast hne).symm⟩
 refine ⟨init, f, e, ?_⟩
 have e2 : newFr count l = match (rawN l).getLast? with | some f => (rawN l).dropLast ++ [{ f with en := count + 1 }] | none => rawN l := rfl
 rw [e2, e, List.getLast?_concat, List.dropLast_concat]
theorem rawN_len (l : List Pg) : (rawN l).length ≤ l.length + 1 := by
 unfold rawN rawFr
 split
 ·simp
 ·simp
def OwnFr (w : World) (n0 : Nat) (v : Value) (l : List Fr) : Prop := w.ownsRow n0 99 258 v l.length (l.map rfL).flatten ∧ ∀ f ∈ l, f.b.length = 256
theorem OwnFr.rows {w : World} {n0 n c : Nat} {A : Option Addr} {l : List Fr} (h : OwnFr w n0 (.slice A n c) l) : n = l.length ∧ RfsAt w A n l := by
 have hn : n = l.length := by
  rcases h.1.2 with ⟨e, hl⟩ | ⟨g, cap, cur, e, _⟩
  ·injection e with _ e2 _; omega
  ·injection e with _ e2 _
 subst hn
 exact ⟨rfl, RowsC.own (base := n0) (e := 99) (cap := c) h.1 (by rw [List.length_map]) (fun x hx => by
  obtain ⟨y, hy, rfl⟩ := List.mem_map.1 hx
  exact rfL_len (h.2 y hy))⟩
theorem OwnFr.keep {w w' : World} {n0 : Nat} {v : Value} {l : List Fr} (h : OwnFr w n0 v l) (k : Kp NoB w w') : OwnFr w' n0 v l := ⟨own_keepB h.1 k (fun _ _ q => q), h.2⟩
theorem OwnFr.app {w : World} {n0 : Nat} {v : Value} {l : List Fr} {f : Fr} (h : w.ownsRow n0 99 258 v (l.length + 1) ((l.map rfL).flatten ++ rfL f)) (hl : ∀ f ∈ l, f.b.length = 256) (hf : f.b.length = 256) : OwnFr w n0 v (l ++ [f]) := by
 refine ⟨?_, fun y hy => ?_⟩
 ·rw [List.length_append, List.map_append, List.flatten_append]
  simpa using h
 ·rcases List.mem_append.1 hy with q | q
  ·exact hl y q
  ·rw [List.mem_singleton.1 q]; exact hf
theorem rfs_flat_len {l : List Fr} (h : ∀ f ∈ l, f.b.length = 256) : (l.map rfL).flatten.length = l.length * 258 := by
 induction l with
 | nil => rfl
 | cons f r ih =>
  rw [List.map_cons, List.flatten_cons, List.length_append, rfL_len (h f (List.mem_cons_self ..)), ih (fun y hy => h y (List.mem_cons_of_mem _ hy)), List.length_cons]
  omega
theorem own_setFr {w : World} {n0 M L c : Nat} {A : Option Addr} {init : List Fr} {f : Fr} (h : OwnFr w n0 (.slice A L c) (init ++ [f])) (hi : init.length = M) (hL : L = M + 1) (en : Int) :
  ∃ g, A = some ⟨g, 0, none⟩ ∧ n0 ≤ g ∧ g < w.heap.size ∧ w.cell? ⟨g, M * 258 + 1, none⟩ = some (.int .i64 f.en) ∧ w.frozen? ⟨g, M * 258 + 1, none⟩ = false ∧ OwnFr (w.setCell ⟨g, M * 258 + 1, none⟩ (.int .i64 en)) n0 (.slice A L c) (init ++ [{ f with en := en }]) := by
 subst hL
 have hlen : (init ++ [f]).length = M + 1 := by rw [List.length_append, hi]; rfl
 have h1 := h.1
 rw [hlen] at h1
 obtain ⟨g, ds, rfl, hg, hb, hcl, hcm⟩ := own_full h1 (by omega)
 have hil : (init.map rfL).flatten.length = M * 258 := by rw [rfs_flat_len (fun y hy => h.2 y (List.mem_append_left _ hy)), hi]
 have hfl : f.b.length = 256 := h.2 f (List.mem_append_right _ (List.mem_singleton.2 rfl))
 have hfl2 : ((init ++ [f]).map rfL).flatten = (init.map rfL).flatten ++ rfL f := by simp
 have hcap : M + 1 ≤ c := own_cap h1
 have hbf : Blk w g 99 (((init.map rfL).flatten ++ [Value.int .i64 f.n]) ++ [Value.int .i64 f.en] ++ (f.b.map (Value.int .u8) ++ ds)).toArray := by
  rw [hfl2] at hb
  have e : (init.map rfL).flatten ++ rfL f ++ ds = ((init.map rfL).flatten ++ [Value.int .i64 f.n]) ++ [Value.int .i64 f.en] ++ (f.b.map (Value.int .u8) ++ ds) := by unfold rfL; simp
  rw [← e]
  exact hb
 have hxa : ((init.map rfL).flatten ++ [Value.int .i64 f.n]).length = M * 258 + 1 := by rw [List.length_append, hil]; rfl
 refine ⟨g, rfl, hg, hb.lt, (Blk.range hbf _ hxa) 0 _ rfl, hb.frozen _, ?_, fun y hy => ?_⟩
 ·have hset := Blk.cellsL (xs := [Value.int .i64 en]) hbf _ hxa rfl
  have hl2 : (init ++ [{ f with en := en }]).length = M + 1 := by rw [List.length_append, hi]; rfl
  have e2 : ((init.map rfL).flatten ++ [Value.int .i64 f.n]) ++ [Value.int .i64 en] ++ (f.b.map (Value.int .u8) ++ ds) = ((init ++ [{ f with en := en }]).map rfL).flatten ++ ds := by
   rw [List.map_append, List.flatten_append]
   unfold rfL
   simp
  rw [e2] at hset
  rw [hl2]
  refine own_of hg hset ?_ ?_ hcap hcm
  ·rw [List.map_append, List.flatten_append, List.length_append, hil]
   show M * 258 + (rfL { f with en := en } ++ []).length = _
   rw [List.append_nil, rfL_len (by exact hfl)]
   omega
  ·rw [← hcl, hfl2]
   rw [List.map_append, List.flatten_append, List.length_append, List.length_append, List.length_append, List.length_append]
   show _ + (rfL { f with en := en } ++ []).length + _ = _
   rw [List.append_nil, rfL_len (by exact hfl), rfL_len hfl]
 ·rcases List.mem_append.1 hy with q | q
  ·exact h.2 y (List.mem_append_left _ q)
  ·rw [List.mem_singleton.1 q]; exact hfl
theorem nmD_le : nmDb.size ≤ maxLen := by unfold maxLen; decide
theorem st_home {count : Int} {l : List Pg} (hc : -1099511627776 ≤ count ∧ count ≤ 1099511627776) (hl : ∀ x ∈ l, PgOk x ∧ 1 ≤ x.n ∧ x.n ≤ 1099511627776) : ∀ s ∈ homeS count l, StOk s := by
 intro s hs
 unfold homeS homeW at hs
 rcases List.mem_append.1 hs with q | q
 ·obtain ⟨x, hx, rfl⟩ := List.mem_map.1 q
  obtain ⟨h1, h2, h3⟩ := hl x hx
  exact ⟨nmD_le, by show -9223372036854775808 ≤ (x.n - 1) * 256 ∧ (x.n - 1) * 256 ≤ 9223372036854775807; omega, h1.rng, by show x.b.length ≤ maxLen; rw [h1.len]; unfold maxLen; omega, by show (0 : Nat) ≤ 2; omega⟩
 ·rcases List.mem_cons.1 q with rfl | q
  ·exact ⟨nmD_le, by show -9223372036854775808 ≤ count * 256 ∧ count * 256 ≤ 9223372036854775807; omega, by simp, by simp, by show (1 : Nat) ≤ 2; omega⟩
  ·rw [List.mem_singleton.1 q]
   exact ⟨nmD_le, by show (-9223372036854775808 : Int) ≤ 0 ∧ (0 : Int) ≤ 9223372036854775807; omega, by simp, by simp, Nat.le_refl _⟩
theorem OwnSt.cat {w : World} {n0 : Nat} {v : Value} {a b : List Stp} (h : w.ownsRow n0 104 4 v (a.length + b.length) ((a.map stC).flatten ++ (b.map stC).flatten)) : OwnSt w n0 v (a ++ b) := by
 unfold OwnSt
 rw [List.length_append, List.map_append, List.flatten_append]
 exact h
theorem wpList_append_st {w : World} {ops : Array Oper} {rest : List Oper} {o : Oper} {a : Act} {Q : Exit → Act → World → Prop} (hgd : o.guard = none) (s x : Operand)
  (ho : o.op = .call { callee := .builtin .append, args := #[s, x], argTypes := #[100, 100] })
  (n1 n2 : Nat) (v1 v2 : Value) (la lb : List Stp) (hs : a.eval s = v1) (h1 : OwnSt w n1 v1 la) (hx : a.eval x = v2) (h2 : OwnSt w n2 v2 lb) (hlen : la.length + lb.length ≤ 1099511627776) (hbase : n1 ≤ w.heap.size)
  (h : ∀ v' w', OwnSt w' n1 v' (la ++ lb) → w.grownBy w' v1.ownBlock → wpList Tryz.prog ops Q rest (a.put o.dst v') w') : wpList Tryz.prog ops Q (o :: rest) a w := by
 obtain ⟨j0, hj0, hj1⟩ := Option.map_eq_some_iff.1 infoSt
 simp only [Prod.mk.injEq] at hj1
 obtain ⟨A2, c2, rfl⟩ := own_slice h2
 obtain ⟨hn2, hr2⟩ := OwnSt.rows h2
 refine wpList_append_srcN hgd s x 100 ho n1 104 j0 _ 4 48 Tryz.underlying100 hj0 hj1.1 hj1.2.1 hj1.2.2 rfl (by omega) v1 la.length (la.map stC).flatten hs h1 A2 lb.length c2 (lb.map stC).flatten hx (own_nil h2) (by rw [flat_len 4 _ (st_len lb), List.length_map]) (fun hn => hr2.src hn (by omega)) (st_one lb) (by unfold maxLen; omega) (by omega) hbase ?_
 intro v' w' q1 q2
 exact h v' w' (OwnSt.cat q1) q2
theorem OwnSt.keep {w w' : World} {n0 : Nat} {v : Value} {l : List Stp} (h : OwnSt w n0 v l) (k : Kp NoB w w') : OwnSt w' n0 v l := own_keepB h k (fun _ _ q => q)
theorem st_headW (v : W4) : ∀ s ∈ headS nmWal v, StOk s := by
 intro s hs
 unfold headS at hs
 rcases List.mem_cons.1 hs with rfl | hs
 ·exact ⟨nmW_le, by show (-9223372036854775808 : Int) ≤ 0 ∧ (0 : Int) ≤ 9223372036854775807; omega, seal_rng v, by show (sealB v).length ≤ maxLen; rw [seal_len]; unfold maxLen; omega, by show (0 : Nat) ≤ 2; omega⟩
 ·rw [List.mem_singleton.1 hs]
  exact ⟨nmW_le, by show (-9223372036854775808 : Int) ≤ 0 ∧ (0 : Int) ≤ 9223372036854775807; omega, by simp, by simp, Nat.le_refl _⟩
theorem frB_lenR {f : Fr} (h : f.b.length = 256) : (frB f).length = 320 := by
 unfold frB zeros
 rw [List.length_append, List.length_append, List.length_append, h, List.length_replicate]
 rfl
theorem frB_rngR {f : Fr} (h : ∀ y ∈ f.b, 0 ≤ y ∧ y < 256) : ∀ y ∈ frB f, 0 ≤ y ∧ y < 256 := by
 intro y hy
 unfold frB at hy
 rcases List.mem_append.1 hy with q | q
 ·rcases List.mem_append.1 q with q | q
  ·rcases List.mem_append.1 q with q | q
   ·exact four_rng _ y q
   ·exact four_rng _ y q
  ·exact zeros_rng 56 y q
 ·exact h y q
theorem st_frW {l : List Fr} {k : Nat} (hl : ∀ f ∈ l, f.b.length = 256 ∧ ∀ y ∈ f.b, 0 ≤ y ∧ y < 256) (hn : k + l.length ≤ 1099511627776) : ∀ s ∈ frW k l, StOk s := by
 intro s hs
 obtain ⟨j, f, h1, h2, rfl⟩ := frW_inR hs
 have h3 := hl f h2
 exact ⟨nmW_le, by show -9223372036854775808 ≤ 64 + 320 * (j : Int) ∧ 64 + 320 * (j : Int) ≤ 9223372036854775807; omega, frB_rngR h3.2, by show (frB f).length ≤ maxLen; rw [frB_lenR h3.1]; unfold maxLen; omega, by show (0 : Nat) ≤ 2; omega⟩
theorem st_syncW : ∀ s ∈ [(⟨2, nmWal, 0, []⟩ : Stp)], StOk s := by
 intro s hs
 rw [List.mem_singleton.1 hs]
 exact ⟨nmW_le, by show (-9223372036854775808 : Int) ≤ 0 ∧ (0 : Int) ≤ 9223372036854775807; omega, by simp, by simp, Nat.le_refl _⟩
theorem ownPgs_rowsR {w : World} {n0 n c : Nat} {A : Option Addr} {l : List Pg} (h : OwnPgs w n0 (.slice A n c) l) : n = l.length ∧ PgsAt w A n l := by
 have hn : n = l.length := by
  rcases h.1.2 with ⟨e, hl⟩ | ⟨g, cap, cur, e, _⟩
  ·injection e with _ e2 _; omega
  ·injection e with _ e2 _
 subst hn
 have hx : ∀ x ∈ l.map pgL, x.length = 257 := fun x hx => by
  obtain ⟨y, hy, rfl⟩ := List.mem_map.1 hx
  exact pgL_len (h.2 y hy)
 have e : pgsCells l = (l.map pgL).flatten := by unfold pgsCells; rw [List.flatMap_def]
 exact ⟨rfl, RowsC.own (base := n0) (e := 49) (cap := c) (by rw [← e]; exact h.1) (by rw [List.length_map]) hx⟩
end
section
open Go.RowKit
def RvRel (w1 : World) (l : List Pg) (m : Nat) (v12 v13 : Value) (wr : World) : Prop :=
 ∃ k : Nat, v13 = .int .i64 (k : Int) ∧ k ≤ m ∧ OwnFr wr w1.heap.size v12 (rawFr (l.take k)) ∧ Kp NoB w1 wr
def RvRel2 (w1 : World) (H : W4) (n : Nat) (new : List Fr) (v14 v15 : Value) (wr : World) : Prop :=
 ∃ k : Nat, v15 = .int .i64 (k : Int) ∧ k ≤ new.length ∧ OwnSt wr w1.heap.size v14 (headS nmWal H ++ frW n (new.take k)) ∧ Kp NoB w1 wr
attribute [local go_sem ↓] loadRfr storeRfr allocRfr exSliceRfr buildRfr0
set_option maxRecDepth 100000 in
set_option maxHeartbeats 3200000 in
theorem wcommit_rok (w : World) (d : Rd) (p : Pl) (count : Int) (A : Option Addr) (m c : Nat) (l : List Pg) (h : Rf w d p) (hl : PgsAt w A m l) (hok : ∀ x ∈ l, PgOk x) (hm : m ≤ 4096) (hc : -9223372036854775808 ≤ count ∧ count ≤ 9223372036854775807) (hsm : p.sm 1000000000) :
  Calls Tryz.prog 16 #[rdV d p, .int .i64 count, .slice A m c] w fun e w' => ∃ d', e = .returned (.tuple #[rdV d' (p.wcommit count l).1, .int .i64 (p.wcommit count l).2.1, .int .i64 (p.wcommit count l).2.2]) ∧ Rf w' d' (p.wcommit count l).1 ∧ Kp NoB w w' := by
 have H := zh h
 have HL := zh hl
 have hlen : l.length = m := hl.len
 have HLEN := zh hlen
 have HOK := zh hok
 have HM := zh hm
 have HC := zh hc
 have HSM := zh hsm
 have HNF : Hid (p.nf < 1099511627776) := zh (by unfold Pl.sm at hsm; omega)
 have hlkw := (h.look nmWal).1
 have hlkd := (h.look nmDb).1
 have HLKW := zh hlkw
 have HJC : Hid (p.jcount ≤ 4096) := zh (by unfold Pl.jcount Pl.len; have := hlkd.1; split <;> omega)
 have hb0 : Blk ((w.alloc (.cells (rdC d p) 29)).alloc (.cells rdZ 29)) w.heap.size 29 (rdC d p) := (Blk.new w _ _).alloc _
 have hb2 : Blk ((w.alloc (.cells (rdC d p) 29)).alloc (.cells rdZ 29)) (w.heap.size + 1) 29 rdZ := Blk.top (by simp)
 have hk : Kp NoB w ((w.alloc (.cells (rdC d p) 29)).alloc (.cells rdZ 29)) := ((Kp.refl NoB w).alloc _).alloc _
 clear h hl hlen hok hm hc hsm hlkw hlkd
 unfold rdV
 go_enter Tryz.func16, Tryz.ntmps16
 go_wp2_with fail
 refine (show Calls _ _ #[rdV d p] _ _ from wopen_rok _ d p (H.out.keep hk) HNF.out).mono ?_
 rintro e w2 ⟨hk2, hpost⟩
 have HB0 := zh (hb0.keep hk2 (fun q => q))
 have HB2 := zh (hb2.keep hk2 (fun q => q))
 have HK := zh (hk.trans hk2 (fun _ _ q => q))
 clear hb0 hb2 hk hk2
 generalize hs0 : w.heap.size = s0 at HB0 HB2 ⊢
 have HS0 := zh hs0
 have kz : w.heap.size ≤ s0 + 1 := by omega
 clear hs0
 have hl0 := HB0.out.lt
 have hl2 := HB2.out.lt
 obtain ⟨c0, c1, c2, c3, c4, c5, c6, c7⟩ := HB0.out.rdc
 obtain ⟨y0, y1, y2, y3, y4, y5, y6, y7⟩ := HB2.out.c8
 obtain ⟨z0, z1, z2, z3, z4, z5, z6, z7⟩ := HB2.out.z8
 rcases hpost with ⟨he, rfl⟩ | ⟨he, A9, c9, rfl, how⟩
 ·obtain ⟨E, hE⟩ : ∃ E, p.wopen.1 = E := ⟨_, rfl⟩
  have HRUN : Hid (p.wcommit count l = (p, 0, E)) := zh (by unfold Pl.wcommit; rw [if_pos he, hE])
  rw [hE] at he ⊢
  have hz1 : (E != 0) = true := by simpa using he
  have hz2 : (E == 0) = false := by simpa using he
  clear he hE
  unfold lgV lgA
  go_upto_region 2 with fail
  have hlg : Blk (w2.alloc (.cells (lgA (⟨0, 0, 0, 0⟩ : W4) (none : Option Addr) 0 0) 94)) w2.heap.size 94 (lgA (⟨0, 0, 0, 0⟩ : W4) (none : Option Addr) 0 0) := Blk.new _ _ _
  have hk9 : Kp NoB w2 (w2.alloc (.cells (lgA (⟨0, 0, 0, 0⟩ : W4) (none : Option Addr) 0 0) 94)) := (Kp.refl NoB w2).alloc _
  unfold lgA at hlg hk9
  generalize w2.alloc (.cells #[.int .i64 (W4.a (⟨0, 0, 0, 0⟩ : W4)), .int .i64 (W4.b (⟨0, 0, 0, 0⟩ : W4)), .int .i64 (W4.c (⟨0, 0, 0, 0⟩ : W4)), .int .i64 (W4.d (⟨0, 0, 0, 0⟩ : W4)), .slice (none : Option Addr) 0 0] 94) = w3 at hlg hk9 ⊢
  generalize hlb : w2.heap.size = lb at hlg ⊢
  have HLG := zh hlg
  have HZL : Hid (s0 + 1 < lb) := zh (by omega)
  clear hlg hlb
  have HB0' := zh (HB0.out.keep hk9 (fun q => q))
  have HB2' := zh (HB2.out.keep hk9 (fun q => q))
  have HK' := zh (HK.out.trans hk9 (fun _ _ q => q))
  clear hk9 HB0 HB2 HK
  have HB0 := HB0'
  have HB2 := HB2'
  have HK := HK'
  clear HB0' HB2' HK' c0 c1 c2 c3 c4 c5 c6 c7 y0 y1 y2 y3 y4 y5 y6 y7 z0 z1 z2 z3 z4 z5 z6 z7 hl0 hl2
  have hl0 := HB0.out.lt
  have hl2 := HB2.out.lt
  obtain ⟨c0, c1, c2, c3, c4, c5, c6, c7⟩ := HB0.out.rdc
  obtain ⟨y0, y1, y2, y3, y4, y5, y6, y7⟩ := HB2.out.c8
  obtain ⟨z0, z1, z2, z3, z4, z5, z6, z7⟩ := HB2.out.z8
  go_wp2_with fail
  first
   | exact bodyPost_ret (ret_cell_tmp2 rfl _ _ _ _ _ _ rfl (blk8 HB2.out rfl) Tryz.underlying29 rfl (by exact infoRd) _ _ rfl rfl) rfl ⟨d, by rw [HRUN.out]; rfl, by rw [HRUN.out]; exact H.out.keep (kp8 HK.out (.inl kz)), kp8 HK.out (.inl kz)⟩
 obtain ⟨v, hv⟩ : ∃ v, p.whead = v := ⟨_, rfl⟩
 have HVR : Hid (W4R v) := zh (by
  have hvo : W4Ok v := by rw [← hv]; exact says_ok HLKW.out.2
  have h1 := hvo.a; have h2 := hvo.b; have h3 := hvo.c; have h4 := hvo.d; exact ⟨by omega, by omega, by omega, by omega⟩)
 have hfo := frs_ok HLKW.out.2 he rfl
 have hmk := isMark_len he hfo
 have hn20 := wopen_len he
 have HWC : Hid (p.wcommit count l = (if fitPg (wcount p p.wopen.2 p.wopen.2.length) count l = false then (p, 0, 2) else if (p.runS (p.wcommitS p.wopen.2 (newFr count l))).2 ≠ 0 then ((p.runS (p.wcommitS p.wopen.2 (newFr count l))).1, 0, fullE (p.runS (p.wcommitS p.wopen.2 (newFr count l))).2) else ((p.runS (p.wcommitS p.wopen.2 (newFr count l))).1, (p.wopen.2.length : Int) + (newFr count l).length, 0))) := zh (by
  unfold Pl.wcommit
  rw [he]
  rfl)
 obtain ⟨fs, hfs⟩ : ∃ fs, p.wopen.2 = fs := ⟨_, rfl⟩
 rw [hfs] at how hfo hmk hn20 HWC ⊢
 rw [hv]
 obtain ⟨n, hn⟩ : ∃ n, fs.length = n := ⟨_, rfl⟩
 rw [hn] at how hmk hn20 HWC ⊢
 have hfr : RfsAt w2 A9 n fs := (show OwnFr w2 _ (.slice A9 n c9) fs from ⟨by rw [hn]; exact how, fun f hf => (hfo f hf).len⟩).rows.2
 have HFR := zh hfr
 have HFO := zh hfo
 have HMK := zh hmk
 have HN20 := zh hn20
 have HNL := zh hn
 have HHD := zh hv
 have hcr := wcount_rng hfo HJC.out hmk
 obtain ⟨K, hK⟩ : ∃ K, wcount p fs (n : Int) = K := ⟨_, rfl⟩
 have HKK := zh hK
 rw [hK] at HWC hcr
 have HCR := zh hcr
 clear he hv hfs hn how hfo hmk hK hcr hfr
 unfold lgV lgA
 go_upto_region 2 with fail
 have hk3 : Kp NoB w2 (w2.alloc (.cells (lgA v A9 n c9) 94)) := (Kp.refl NoB w2).alloc _
 have HFR' := zh (HFR.out.keep hk3)
 clear hk3 HFR
 unfold lgA at HFR'
 have hlg : Blk (w2.alloc (.cells #[.int .i64 v.a, .int .i64 v.b, .int .i64 v.c, .int .i64 v.d, .slice A9 n c9] 94)) w2.heap.size 94 #[.int .i64 v.a, .int .i64 v.b, .int .i64 v.c, .int .i64 v.d, .slice A9 n c9] := Blk.new _ _ _
 have hk9 : Kp NoB w2 (w2.alloc (.cells #[.int .i64 v.a, .int .i64 v.b, .int .i64 v.c, .int .i64 v.d, .slice A9 n c9] 94)) := (Kp.refl NoB w2).alloc _
 generalize w2.alloc (.cells #[.int .i64 v.a, .int .i64 v.b, .int .i64 v.c, .int .i64 v.d, .slice A9 n c9] 94) = w3 at hlg hk9 HFR' ⊢
 generalize hlb : w2.heap.size = lb at hlg ⊢
 have HLG := zh hlg
 have HZL : Hid (s0 + 1 < lb) := zh (by omega)
 have HFR := HFR'
 clear hlg hlb HFR'
 have HB0' := zh (HB0.out.keep hk9 (fun q => q))
 have HB2' := zh (HB2.out.keep hk9 (fun q => q))
 have HK' := zh (HK.out.trans hk9 (fun _ _ q => q))
 clear hk9 HB0 HB2 HK
 have HB0 := HB0'
 have HB2 := HB2'
 have HK := HK'
 clear HB0' HB2' HK' c0 c1 c2 c3 c4 c5 c6 c7 y0 y1 y2 y3 y4 y5 y6 y7 z0 z1 z2 z3 z4 z5 z6 z7 hl0 hl2
 have hl0 := HB0.out.lt
 have hl2 := HB2.out.lt
 obtain ⟨c0, c1, c2, c3, c4, c5, c6, c7⟩ := HB0.out.rdc
 obtain ⟨y0, y1, y2, y3, y4, y5, y6, y7⟩ := HB2.out.c8
 obtain ⟨z0, z1, z2, z3, z4, z5, z6, z7⟩ := HB2.out.z8
 obtain ⟨e0, e1, e2, e3, e4⟩ := HLG.out.c5
 have hll := HLG.out.lt
 go_wp2_with fail
 refine (show Calls _ _ #[rdV d p, lgV v A9 n c9, .int .i64 (n : Int)] _ _ from wcount_rok w3 d p (H.out.keep HK.out) HNF.out v A9 n c9 fs HFR.out HFO.out (by have := HN20.out; omega) (n : Int) HMK.out).mono ?_
 rintro e w4 ⟨rfl, hk4⟩
 rw [HKK.out]
 have HLG' := zh (HLG.out.keep hk4 (fun q => q))
 have HFR' := zh (HFR.out.keep hk4)
 clear HLG HFR e0 e1 e2 e3 e4 hll
 have HLG := HLG'
 have HFR := HFR'
 clear HLG' HFR'
 have HB0' := zh (HB0.out.keep hk4 (fun q => q))
 have HB2' := zh (HB2.out.keep hk4 (fun q => q))
 have HK' := zh (HK.out.trans hk4 (fun _ _ q => q))
 clear hk4 HB0 HB2 HK
 have HB0 := HB0'
 have HB2 := HB2'
 have HK := HK'
 clear HB0' HB2' HK' c0 c1 c2 c3 c4 c5 c6 c7 y0 y1 y2 y3 y4 y5 y6 y7 z0 z1 z2 z3 z4 z5 z6 z7 hl0 hl2
 have hl0 := HB0.out.lt
 have hl2 := HB2.out.lt
 obtain ⟨c0, c1, c2, c3, c4, c5, c6, c7⟩ := HB0.out.rdc
 obtain ⟨y0, y1, y2, y3, y4, y5, y6, y7⟩ := HB2.out.c8
 obtain ⟨z0, z1, z2, z3, z4, z5, z6, z7⟩ := HB2.out.z8
 obtain ⟨e0, e1, e2, e3, e4⟩ := HLG.out.c5
 have hll := HLG.out.lt
 go_wp2_with fail
 refine (fit_rok w4 K count A m c l (HL.out.keep HK.out) (fun x hx => (HOK.out x hx).n0) (by have := HM.out; omega) (by have := HCR.out; omega) HC.out).mono ?_
 rintro e w5 ⟨rfl, hk5⟩
 have HLG' := zh (HLG.out.keep hk5 (fun q => q))
 have HFR' := zh (HFR.out.keep hk5)
 clear HLG HFR e0 e1 e2 e3 e4 hll
 have HLG := HLG'
 have HFR := HFR'
 clear HLG' HFR'
 have HB0' := zh (HB0.out.keep hk5 (fun q => q))
 have HB2' := zh (HB2.out.keep hk5 (fun q => q))
 have HK' := zh (HK.out.trans hk5 (fun _ _ q => q))
 clear hk5 HB0 HB2 HK
 have HB0 := HB0'
 have HB2 := HB2'
 have HK := HK'
 clear HB0' HB2' HK' c0 c1 c2 c3 c4 c5 c6 c7 y0 y1 y2 y3 y4 y5 y6 y7 z0 z1 z2 z3 z4 z5 z6 z7 hl0 hl2
 have hl0 := HB0.out.lt
 have hl2 := HB2.out.lt
 obtain ⟨c0, c1, c2, c3, c4, c5, c6, c7⟩ := HB0.out.rdc
 obtain ⟨y0, y1, y2, y3, y4, y5, y6, y7⟩ := HB2.out.c8
 obtain ⟨z0, z1, z2, z3, z4, z5, z6, z7⟩ := HB2.out.z8
 obtain ⟨e0, e1, e2, e3, e4⟩ := HLG.out.c5
 have hll := HLG.out.lt
 obtain ⟨ft, hft⟩ : ∃ b, fitPg K count l = b := ⟨_, rfl⟩
 rw [hft] at HWC ⊢
 have HFT := zh hft
 clear hft
 rcases ft with _ | _
 ·have HRUN : Hid (p.wcommit count l = (p, 0, 2)) := zh (by rw [HWC.out]; rfl)
  go_wp2_with fail
  first
   | exact bodyPost_ret (ret_cell_tmp2 rfl _ _ _ _ _ _ rfl (blk8 HB2.out rfl) Tryz.underlying29 rfl (by exact infoRd) _ _ rfl rfl) rfl ⟨d, by rw [HRUN.out]; rfl, by rw [HRUN.out]; exact H.out.keep (kp8 HK.out (.inl kz)), kp8 HK.out (.inl kz)⟩
 have hfi := (fit_iff K count l (by have := HCR.out; omega)).1 HFT.out
 have HCN : Hid (0 ≤ count ∧ count ≤ 4096) := zh (by have := hfi.1; omega)
 have HPO : Hid (PgsOk l) := zh (fit_facts HFT.out HOK.out).2.2.1
 obtain ⟨j0, hj0, hq0, hq1, hq2⟩ := info_parts infoRfr
 have HJ0 := zh hj0
 have HY0 := zh hq0
 have HY1 := zh hq1
 have HY2 := zh hq2
 have hownz : (w5.alloc (.cells #[] 99)).ownsRow w5.heap.size 99 258 (.slice (some ⟨w5.heap.size, 0, none⟩) 0 0) 0 [] := ⟨rfl, .inr ⟨w5.heap.size, 0, #[], rfl, Nat.le_refl _, heap_alloc_new _ _, Nat.le_refl _, by simp, rfl, rfl⟩⟩
 have HOZ := zh hownz
 have HKZ := zh ((Kp.refl NoB w5).alloc (.cells #[] 99))
 clear hfi hj0 hq0 hq1 hq2 hownz
 have HXG := HLG
 have HXF := HFR
 have HX0 := HB0
 have HX2 := HB2
 have HXK := HK
 clear HLG HFR HB0 HB2 HK e0 e1 e2 e3 e4 hll c0 c1 c2 c3 c4 c5 c6 c7 y0 y1 y2 y3 y4 y5 y6 y7 z0 z1 z2 z3 z4 z5 z6 z7 hl0 hl2
 go_wp2_with fail
 go_loopw [12, 13] (fun v12 v13 wr => RvRel w5 l m v12 v13 wr) (fun _ v _ => m - (intOf v).toNat)
 case atStart => exact ⟨0, rfl, Nat.zero_le _, ⟨by rw [List.take_zero]; exact HOZ.out, by rw [List.take_zero]; intro f hf; cases hf⟩, HKZ.out⟩
 case round =>
  obtain ⟨wq, rfl⟩ : ∃ wq, wq = wr := ⟨_, rfl⟩
  obtain ⟨k, rfl, hk, how, hkp⟩ := hrel
  have HKP := zh hkp
  obtain ⟨A5, c5, rfl⟩ := own_slice how.1
  have hkl0 : (rawFr (l.take k)).length = k := by unfold rawFr; rw [List.length_map, List.length_take]; have := HLEN.out; omega
  have HOW : Hid (wq.ownsRow w5.heap.size 99 258 (.slice A5 k c5) k ((rawFr (l.take k)).map rfL).flatten) := zh (by have := how.1; rwa [hkl0] at this)
  have HOB := zh how.2
  have HKW := zh (HXK.out.trans hkp (fun _ _ q => q))
  rw [hkl0]
  by_cases hlt : k < m
  ·have hkl : k < l.length := by have := HLEN.out; omega
   obtain ⟨x, hx⟩ : ∃ x, l[k] = x := ⟨_, rfl⟩
   have hxk : l[k]? = some x := by rw [List.getElem?_eq_getElem hkl, hx]
   have hxo := HOK.out x (List.mem_of_getElem? hxk)
   have HXO := zh hxo
   have hnx : rawFr (l.take (k + 1)) = rawFr (l.take k) ++ [⟨x.n, 0, x.b⟩] := by
    unfold rawFr
    rw [List.take_add_one, hxk, List.map_append]
    rfl
   have HNX := zh hnx
   obtain ⟨g, o, rfl, hg, hcc⟩ := (show RowsC w5 A m 257 (l.map pgL) from HL.out.keep HXK.out).cell (k := k) (x := pgL x) (by rw [List.getElem?_map, hxk]; rfl)
   have HC0 : Hid (∀ V, Kp NoB w5 V → V.cell? ⟨g, o + k * 257, none⟩ = some (.int .i64 x.n)) := zh (fun V q => (q.cell hg (fun z => z)).trans (hcc 0 _ rfl))
   have HCB : Hid (∀ V, Kp NoB w5 V → V.rangeAt g (o + k * 257 + 1) (x.b.map (Value.int .u8))) := zh (fun V q j u hj => (q.cell hg (fun z => z)).trans (by
    have := hcc (j + 1) u (by show (x.b.map (Value.int .u8))[j]? = some u; exact hj)
    rwa [show o + k * 257 + (j + 1) = o + k * 257 + 1 + j by omega] at this))
   have hkk : (k : Int) < (m : Int) := by omega
   have hm63 : m ≤ 9223372036854775807 := by have := HM.out; omega
   clear hx hxk hkl hcc hnx hxo how
   go_upto_region 11 with fail
   refine wp_region_held_drew (S := fun V => Kp NoB w5 V) (by kernel_rfl) hkp.drew (fun hHeld => ?_)
   have k0 : Kp NoB w5 wq.drew := hkp.drew
   have HOD := zh (own_keepB HOW.out (Kp.refl NoB wq).drew (fun _ _ q => q))
   generalize wq.drew = V0 at k0 hHeld HOD ⊢
   have huw := Tryz.underlying46
   have hiw : (Tryz.prog.info? 46).map (·.size) = some (x.b.map (Value.int .u8)).length := by rw [List.length_map, HXO.out.len]; exact info26
   refine tkJ (i := 0) (v := (.slice A5 k c5)) rfl k0 ?_
   simp only [Act.put, sA, sB, sC]
   refine tkJ (i := 1) (v := (.slice (some ⟨g, o, none⟩) m c)) rfl k0 ?_
   simp only [Act.put, sA, sB, sC]
   refine tkJ (i := 2) (v := (.int .i64 (k : Int))) rfl k0 ?_
   simp only [Act.put, sA, sB, sC]
   refine tkJ (i := 3) (v := (.pointer (some ⟨g, o + k * 257, none⟩))) rfl k0 ?_
   simp only [Act.put, sA, sB, sC]
   refine tkJ (i := 4) (v := (.pointer (some ⟨g, o + k * 257, none⟩))) rfl k0 ?_
   simp only [Act.put, sA, sB, sC]
   refine tkS (i := 5) (v := (.int .i64 x.n)) rfl (Or.inl ⟨by rfl, fun w' hq => by (have := HC0.out w' hq); go_simp⟩) k0 ?_
   simp only [Act.put, sA, sB, sC]
   refine tkJ (i := 6) (v := (.slice (some ⟨g, o, none⟩) m c)) rfl k0 ?_
   simp only [Act.put, sA, sB, sC]
   refine tkJ (i := 7) (v := (.int .i64 (k : Int))) rfl k0 ?_
   simp only [Act.put, sA, sB, sC]
   refine tkJ (i := 8) (v := (.pointer (some ⟨g, o + k * 257, none⟩))) rfl k0 ?_
   simp only [Act.put, sA, sB, sC]
   refine tkJ (i := 9) (v := (.pointer (some ⟨g, o + k * 257 + 1, none⟩))) rfl k0 ?_
   simp only [Act.put, sA, sB, sC]
   refine tkS (i := 10) (v := .agg ((x.b.map (Value.int .u8))).toArray) rfl (yieldsIf_load_mid (by rfl) _ _ rfl _ _ rfl (x.b.map (Value.int .u8)) _ (fun V q => HCB.out V q) huw rfl hiw) k0 ?_
   simp only [Act.put, sA, sB, sC]
   refine tkS (i := 11) (v := .agg (rfA ⟨x.n, 0, x.b⟩)) rfl (Or.inl ⟨by rfl, fun w' hq => exBuildRf2 w' _ _ _ x.n x.b HXO.out.len _ _ _ _ _ rfl rfl⟩) k0 ?_
   simp only [Act.put, sA, sB, sC]
   have hrs : (rfA ⟨x.n, 0, x.b⟩).size = 258 := rfA_size HXO.out.len
   refine tkR [12] ?_
   refine AllReadyH.valR (fun W' => W' = V0.alloc (.cells (rfA ⟨x.n, 0, x.b⟩) 99)) rfl (by rfl) (.slice (some ⟨V0.heap.size, 0, none⟩) 1 1) _ (exSliceRfr V0 _ _ _ _ _ _ _ _ rfl hrs) (fun W' e => by rw [e]; exact k0.alloc _) rfl ?_ AllReadyH.nil
   rintro _ rfl
   simp only [Act.put, sA, sB, sC]
   have hcl : ∀ j u, (rfL ⟨x.n, 0, x.b⟩)[j]? = some u → (V0.alloc (.cells (rfA ⟨x.n, 0, x.b⟩) 99)).cell? ((⟨V0.heap.size, 0, none⟩ : Addr).add j) = some u := fun j u hj => by
    rw [add_mk, Nat.zero_add, (Blk.new V0 99 _).cell]
    unfold rfA
    rw [List.getElem?_toArray]
    exact hj
   have ka : Kp NoB w5 (V0.alloc (.cells (rfA ⟨x.n, 0, x.b⟩) 99)) := k0.alloc _
   have HOA := zh (own_keepB HOD.out ((Kp.refl NoB V0).alloc (.cells (rfA ⟨x.n, 0, x.b⟩) 99)) (fun _ _ q => q))
   refine tkR [13] ?_
   refine AllReadyH.appendB rfl (by rfl) w5.heap.size 99 j0 _ 258 272 Tryz.underlying92 HJ0.out HY0.out HY1.out HY2.out rfl (by omega) (.slice A5 k c5) k ((rawFr (l.take k)).map rfL).flatten rfl HOA.out ⟨V0.heap.size, 0, none⟩ 1 1 (rfL ⟨x.n, 0, x.b⟩) rfl (rfL_len HXO.out.len) hcl (rfL_one _) (by have := HM.out; unfold maxLen; omega) (by have := HM.out; omega) ka.size (fun v' w' q1 q2 _ => ka.own q2 rfl HOA.out) ?_ AllReadyH.nil
   intro v7 w7 hown7 hgrow7 _
   simp only [Act.put, sA, sB, sC]
   have k7 := ka.own hgrow7 rfl HOA.out
   obtain ⟨A7, c7, rfl⟩ := own_slice hown7
   refine tkJ (i := 14) (v := (.slice A7 (k + 1) c7)) rfl k7 ?_
   simp only [Act.put, sA, sB, sC]
   refine wpAnyH_done (by kernel_rfl) ?_ _
   have HN : Hid (RvRel w5 l m (.slice A7 (k + 1) c7) (.int .i64 ((k + 1 : Nat) : Int)) w7) := zh ⟨k + 1, rfl, by omega, by rw [HNX.out]; exact OwnFr.app (by rw [hkl0]; exact hown7) HOB.out HXO.out.len, k7⟩
   clear hHeld HOD k0 ka hcl hown7 hgrow7 k7 hkl0 hrs huw hiw
   go_wp2_with fail
   go_roundw
   case rel => exact HN.out
   case measure => simp [intOf]; omega
  ·have hkk : ¬ (k : Int) < (m : Int) := by omega
   obtain rfl : k = m := by omega
   have hmm := HM.out
   have hall : l.take k = l := List.take_of_length_le (by have := HLEN.out; omega)
   rw [hall] at HOW HOB
   clear how hall hkl0 hlt
   obtain ⟨init, f, hcut, hnew⟩ := newFr_cut count l
   obtain ⟨M, hMi⟩ : ∃ M, init.length = M := ⟨_, rfl⟩
   have HMI := zh hMi
   have hrl : (rawN l).length = M + 1 := by rw [hcut, List.length_append, hMi]; rfl
   have HM4 : Hid (M ≤ 4096) := zh (by have := rawN_len l; have := HLEN.out; omega)
   have HCUT := zh hcut
   have HNEW := zh hnew
   have HRL := zh hrl
   clear hcut hnew hMi hrl
   go_upto_region 12 with fail
   rename_i KR hKR KC hKC
   have HKR := zh hKR
   have HKC := zh hKC
   clear hKR hKC
   go_wp2_with fail
   refine HKC.out _ _ ?_
   clear HKC
   apply wp_intoJ [60, 61, 62, 63, 64, 12] (G := fun u V => ∃ A6 c6 L, u 12 = .slice A6 L c6 ∧ OwnFr V w5.heap.size (.slice A6 L c6) (init ++ [f]) ∧ L = M + 1 ∧ Kp NoB w5 V)
   ·by_cases hm0 : k = 0
    ·have hmz : ((k : Int) == 0) = true := by simp [hm0]
     have hl0' : l = [] := List.eq_nil_of_length_eq_zero (by have := HLEN.out; omega)
     have hraw : rawFr l = [] := by rw [hl0']; rfl
     have hrn : rawN l = [⟨0, 0, zeros 256⟩] := by unfold rawN; rw [if_pos hl0']
     rw [hraw] at HOW
     have HRN := zh hrn
     have HM00 := zh hm0
     have hrs : rf0.size = 258 := rfA_size zeros256
     have hcl : ∀ j u, (rfL ⟨0, 0, zeros 256⟩)[j]? = some u → (wq.alloc (.cells rf0 99)).cell? ((⟨wq.heap.size, 0, none⟩ : Addr).add j) = some u := fun j u hj => by
      rw [add_mk, Nat.zero_add, (Blk.new wq 99 _).cell]
      unfold rf0 rfA
      rw [List.getElem?_toArray]
      exact hj
     have HCL0 := zh hcl
     clear hl0' hraw hrn hm0 hcl
     go_wp2_with (at_builtin; go_loud (refine wpList_append_ownB rfl _ _ 92 rfl w5.heap.size 99 j0 _ 258 272 Tryz.underlying92 HJ0.out HY0.out HY1.out HY2.out rfl (by omega) (.slice A5 k c5) k (([] : List Fr).map rfL).flatten rfl (own_keepB HOW.out ((Kp.refl NoB wq).alloc _) (fun _ _ q => q)) ⟨wq.heap.size, 0, none⟩ 1 1 (rfL ⟨0, 0, zeros 256⟩) rfl (rfL_len zeros256) HCL0.out (rfL_one _) (by unfold maxLen; omega) (by omega) (by have h1 := HKP.out.size; simp; omega) ?_); intro v7 w7 hown7 hgrow7 _; obtain ⟨A6, c6, rfl⟩ := own_slice hown7; have HO7 := zh hown7; have HK6 := zh ((HKP.out.alloc (.cells rf0 99)).own hgrow7 rfl HOW.out); clear hown7 hgrow7)
     refine intoJ_of (by kernel_rfl) ⟨A6, c6, k + 1, rfl, ?_, ?_, HK6.out⟩
     ·rw [← HCUT.out, HRN.out]
      exact ⟨by have h9 := HO7.out; rw [HM00.out] at h9 ⊢; exact h9, fun y hy => by rw [List.mem_singleton.1 hy]; exact zeros256⟩
     ·have h1 := HRL.out
      rw [HRN.out] at h1
      have h2 := HM00.out
      simp at h1
      omega
    ·have hmz : ((k : Int) == 0) = false := by simp; omega
     have hne : l ≠ [] := fun q => by have h1 := HLEN.out; rw [q] at h1; exact hm0 h1.symm
     have hrn : rawN l = rawFr l := by unfold rawN; rw [if_neg hne]
     have HRN := zh hrn
     clear hne hrn hm0
     go_wp2_with fail
     refine intoJ_of (by kernel_rfl) ⟨A5, c5, k, rfl, ?_, ?_, HKP.out⟩
     ·rw [← HCUT.out, HRN.out]
      refine ⟨?_, HOB.out⟩
      rw [show (rawFr l).length = k by unfold rawFr; rw [List.length_map, HLEN.out]]
      exact HOW.out
     ·rw [← HRL.out, HRN.out]
      unfold rawFr
      rw [List.length_map, HLEN.out]
   rintro u W6 ⟨A6, c6, L, hu, hf6, hll6, hk6⟩
   refine HKR.out _ _ ?_
   have HF6 := zh hf6
   have HLL := zh hll6
   have HK6 := zh hk6
   simp only [fillL, List.foldl_cons, List.foldl_nil, List.setIfInBounds_toArray, List.set_cons_zero, List.set_cons_succ, hu]
   clear HKR hf6 hll6 hk6 hu HOW HOB
   go_upto_region 14 with fail
   obtain ⟨g6, hA6, hg6, hgl6, d1, z9, hset⟩ := own_setFr HF6.out HMI.out HLL.out (count + 1)
   subst hA6
   have hwc : IntKind.i64.wrap (count + 1) = count + 1 := by have := HCN.out; rw [IntKind.wrap_i64]; omega
   have hwl : IntKind.i64.wrap ((L : Int) - 1) = (M : Int) := by have h1 := HM4.out; have h2 := HLL.out; rw [IntKind.wrap_i64]; omega
   have hml : (M : Int) < (L : Int) := by have := HLL.out; omega
   go_upto_region 15 with fail
   have hk8 : Kp NoB w5 (W6.setCell ⟨g6, M * 258 + 1, none⟩ (.int .i64 (count + 1))) := HK6.out.setCell (p := ⟨g6, M * 258 + 1, none⟩) (.inl hg6) _
   rw [← HNEW.out] at hset
   generalize W6.setCell ⟨g6, M * 258 + 1, none⟩ (.int .i64 (count + 1)) = W8 at hk8 hset ⊢
   obtain ⟨NF, hNF⟩ : ∃ NF, newFr count l = NF := ⟨_, rfl⟩
   rw [hNF] at hset HWC
   have HNF9 := zh hNF
   have HFN := zh hset
   have HNO : Hid (∀ f ∈ NF, FrOk f) := zh (by rw [← hNF]; exact newFr_ok HCN.out HPO.out)
   have HNL9 : Hid (NF.length = L) := zh (by have h1 := HLL.out; have h2 := HMI.out; rw [← hNF, HNEW.out, List.length_append, h1, ← h2]; rfl)
   generalize (some ⟨g6, 0, none⟩ : Option Addr) = AN at HFN ⊢
   clear hNF hset d1 z9 hg6 hgl6 hwc hwl hml HF6 HK6
   have HK8 := zh hk8
   have HLG := zh (HXG.out.keep hk8 (fun q => q))
   have HFR := zh (HXF.out.keep hk8)
   have HB0 := zh (HX0.out.keep hk8 (fun q => q))
   have HB2 := zh (HX2.out.keep hk8 (fun q => q))
   have HK := zh (HXK.out.trans hk8 (fun _ _ q => q))
   obtain ⟨e0, e1, e2, e3, e4⟩ := HLG.out.c5
   have hll := HLG.out.lt
   have hl0 := HB0.out.lt
   have hl2 := HB2.out.lt
   obtain ⟨c0, c1, c2, c3, c4, c5, c6, c7⟩ := HB0.out.rdc
   obtain ⟨y0, y1, y2, y3, y4, y5, y6, y7⟩ := HB2.out.c8
   obtain ⟨z0, z1, z2, z3, z4, z5, z6, z7⟩ := HB2.out.z8
   clear hk8
   go_wp2_with fail
   refine (show Calls _ _ #[.string nmWal, w4V v] _ _ from head_rok W8 nmWal v HVR.out).mono ?_
   rintro e w9 ⟨v14, rfl, ho14, hk9⟩
   have HO14 := zh ho14
   have HK9 := zh hk9
   obtain ⟨i0, hi0, hi1⟩ := Option.map_eq_some_iff.1 infoSt
   simp only [Prod.mk.injEq] at hi1
   have HI0 := zh hi0
   have HI1 := zh hi1.1
   have HI2 := zh hi1.2.1
   have HI3 := zh hi1.2.2
   clear ho14 hk9 hi0 hi1 HXG HXF HX0 HX2 HXK
   have HXG := HLG
   have HXF := HFR
   have HX0 := HB0
   have HX2 := HB2
   have HXK := HK
   clear HLG HFR HB0 HB2 HK e0 e1 e2 e3 e4 hll c0 c1 c2 c3 c4 c5 c6 c7 y0 y1 y2 y3 y4 y5 y6 y7 z0 z1 z2 z3 z4 z5 z6 z7 hl0 hl2
   go_wp2_with fail
   go_loopw [14, 15] (fun v14 v15 wr => RvRel2 W8 v n NF v14 v15 wr) (fun _ v _ => L - (intOf v).toNat)
   case atStart => exact ⟨0, rfl, Nat.zero_le _, by rw [List.take_zero]; show OwnSt _ _ _ (_ ++ []); rw [List.append_nil]; exact HO14.out, HK9.out⟩
   case round =>
    obtain ⟨wq2, rfl⟩ : ∃ wq2, wq2 = wr := ⟨_, rfl⟩
    obtain ⟨k, rfl, hk, how, hkp⟩ := hrel
    have HKP2 := zh hkp
    obtain ⟨A14, c14, rfl⟩ := own_slice how
    have HNL2 := HNL9.out
    have hkl0 : (headS nmWal v ++ frW n (NF.take k)).length = k + 2 := by rw [List.length_append, frW_lenR, List.length_take]; show 2 + _ = _; omega
    have HOS : Hid (wq2.ownsRow W8.heap.size 104 4 (.slice A14 (k + 2) c14) (k + 2) ((headS nmWal v ++ frW n (NF.take k)).map stC).flatten) := zh (by have := how; unfold OwnSt at this; rwa [hkl0] at this)
    rw [hkl0]
    obtain ⟨L14, hL14⟩ : ∃ L14, k + 2 = L14 := ⟨_, rfl⟩
    rw [hL14] at HOS ⊢
    have HL14 := zh hL14
    have hl4 : L ≤ 4097 := by have h1 := HLL.out; have h2 := HM4.out; omega
    by_cases hlt : k < L
    ·have hkk : (k : Int) < (L : Int) := by omega
     obtain ⟨f9, hf9⟩ : ∃ f9, NF[k]? = some f9 := ⟨_, List.getElem?_eq_getElem (by omega)⟩
     have hfo9 := HNO.out f9 (List.mem_of_getElem? hf9)
     obtain ⟨g9, o9, rfl, hg9, -, -, -, t9, r9⟩ := (HFN.out.keep hkp).rows.2.full hf9 hfo9.len
     have hnx : NF.take (k + 1) = NF.take k ++ [f9] := by rw [List.take_add_one, hf9]; rfl
     have HFO9 := zh hfo9
     obtain ⟨nk, hnk⟩ : ∃ nk, n + k = nk := ⟨_, rfl⟩
     have HNX : Hid (headS nmWal v ++ frW n (NF.take (k + 1)) = (headS nmWal v ++ frW n (NF.take k)) ++ [⟨0, nmWal, 64 + 320 * (nk : Int), frB f9⟩]) := zh (by
      rw [hnx, frW_appR, List.length_take, Nat.min_eq_left (by omega), hnk, List.append_assoc]
      rfl)
     have hw1 : IntKind.i64.wrap ((n : Int) + (k : Int)) = (nk : Int) := by have := HN20.out; rw [IntKind.wrap_i64]; omega
     have hw2 : IntKind.i64.wrap (320 * (nk : Int)) = 320 * (nk : Int) := by have := HN20.out; rw [IntKind.wrap_i64]; omega
     have hw3 : IntKind.i64.wrap (64 + 320 * (nk : Int)) = 64 + 320 * (nk : Int) := by have := HN20.out; rw [IntKind.wrap_i64]; omega
     obtain ⟨RA, hRA⟩ : ∃ RA, rfA f9 = RA := ⟨_, rfl⟩
     rw [hRA] at r9
     have HRA := zh hRA
     clear hf9 hfo9 hnx hnk how hkl0 hRA hL14
     go_wp2_with fail
     refine (show Calls _ _ #[.agg RA] _ _ by rw [← HRA.out]; exact wtext_rok wq2 f9 HFO9.out.len HFO9.out.rng (by have := HFO9.out.n0; omega) (by have := HFO9.out.e0; omega)).mono ?_
     rintro e w10 ⟨rfl, hk10⟩
     have HK10 := zh (HKP2.out.trans hk10 (fun _ _ q => q))
     have HOT := zh (own_keepB HOS.out hk10 (fun _ _ q => q))
     have hsb : (strOf (frB f9)).size = 320 := by rw [strOf_size]; exact frB_lenR HFO9.out.len
     obtain ⟨SB, hSB⟩ : ∃ SB, strOf (frB f9) = SB := ⟨_, rfl⟩
     have HCL : Hid (∀ V, ∀ j u, (stC ⟨0, nmWal, 64 + 320 * (nk : Int), frB f9⟩)[j]? = some u → (World.alloc V (.cells #[.int .i64 0, .string nmWal, .int .i64 (64 + 320 * (nk : Int)), .string SB] 104)).cell? ((⟨V.heap.size, 0, none⟩ : Addr).add j) = some u) := zh (fun V => by rw [← hSB]; exact st_cells V ⟨0, nmWal, 64 + 320 * (nk : Int), frB f9⟩ 104)
     rw [hSB] at hsb ⊢
     have HSB := zh hSB
     clear hk10 t9 r9 hSB
     go_wp2_with (at_builtin; refine wpList_append_ownB rfl _ _ 100 rfl W8.heap.size 104 i0 _ 4 48 Tryz.underlying100 HI0.out HI1.out HI2.out HI3.out rfl (by omega) _ L14 ((headS nmWal v ++ frW n (NF.take k)).map stC).flatten rfl (own_keepB HOT.out ((Kp.refl NoB w10).alloc _) (fun _ _ q => q)) ⟨w10.heap.size, 0, none⟩ 1 1 (stC ⟨0, nmWal, 64 + 320 * (nk : Int), frB f9⟩) rfl rfl (HCL.out w10) (fun u hu => st_one [⟨0, nmWal, 64 + 320 * (nk : Int), frB f9⟩] u (by simpa using hu)) (by have := HL14.out; unfold maxLen; omega) (by have := HL14.out; omega) (by have := HK10.out.size; simp; omega) ?_; intro v7 w7 hown7 hgrow7 _; have HO7 := zh hown7; have HK7 := zh ((HK10.out.alloc _).own hgrow7 rfl HOT.out); clear hown7 hgrow7)
     go_roundw
     case rel => exact ⟨k + 1, by go_num, by omega, by rw [HNX.out]; exact OwnSt.app (by rw [List.length_append, frW_lenR, List.length_take, Nat.min_eq_left (by omega)]; show World.ownsRow _ _ _ _ _ (2 + k + 1) _; rw [show 2 + k + 1 = L14 + 1 by have := HL14.out; omega]; exact HO7.out), HK7.out⟩
     case measure => simp [intOf]; omega
    ·have hkk : ¬ (k : Int) < (L : Int) := by omega
     have hke : k = L := by omega
     have hall : NF.take k = NF := List.take_of_length_le (by omega)
     have HOS2 : Hid (wq2.ownsRow W8.heap.size 104 4 (.slice A14 L14 c14) L14 ((headS nmWal v ++ frW n NF).map stC).flatten) := zh (by have h9 := HOS.out; rwa [hall] at h9)
     have HL15 : Hid (L14 = L + 2) := zh (by omega)
     obtain ⟨nM, hnM⟩ : ∃ nM, n + L = nM := ⟨_, rfl⟩
     have HNM := zh hnM
     have hw1 : IntKind.i64.wrap ((n : Int) + (L : Int)) = (nM : Int) := by have := HN20.out; rw [IntKind.wrap_i64]; omega
     clear hall how hkl0 HOS hnM hL14 hke
     go_wp2_with (at_builtin; refine wpList_append_ownB rfl _ _ 100 rfl W8.heap.size 104 i0 _ 4 48 Tryz.underlying100 HI0.out HI1.out HI2.out HI3.out rfl (by omega) _ L14 ((headS nmWal v ++ frW n NF).map stC).flatten rfl (own_keepB HOS2.out ((Kp.refl NoB wq2).alloc _) (fun _ _ q => q)) ⟨wq2.heap.size, 0, none⟩ 1 1 (stC ⟨2, nmWal, 0, []⟩) rfl rfl (st_cells wq2 ⟨2, nmWal, 0, []⟩ _) (fun u hu => st_one [⟨2, nmWal, 0, []⟩] u (by simpa using hu)) (by have := HL15.out; unfold maxLen; omega) (by have := HL15.out; omega) (by have := HKP2.out.size; simp; omega) ?_; intro v7 w10 hown7 hgrow7 _; obtain ⟨A16, c16, rfl⟩ := own_slice hown7; have HO7 := zh hown7; have HK7 := zh ((HKP2.out.alloc _).own hgrow7 rfl HOS2.out); clear hown7 hgrow7)
     have HS16 : Hid (OwnSt w10 W8.heap.size (.slice A16 (L14 + 1) c16) ((headS nmWal v ++ frW n NF) ++ [(⟨2, nmWal, 0, []⟩ : Stp)])) := zh (OwnSt.app (by rw [List.length_append, frW_lenR, HNL9.out]; show World.ownsRow _ _ _ _ _ (2 + L + 1) _; rw [show 2 + L + 1 = L14 + 1 by have := HL15.out; omega]; exact HO7.out))
     have hnm4 : W4R ⟨(nM : Int), 0, 0, 0⟩ := ⟨by show (-9223372036854775808 : Int) ≤ (nM : Int) ∧ (nM : Int) ≤ 9223372036854775807; have h1 := HN20.out; have h2 := HNM.out; omega, by show (-9223372036854775808 : Int) ≤ 0 ∧ (0 : Int) ≤ 9223372036854775807; omega, by show (-9223372036854775808 : Int) ≤ 0 ∧ (0 : Int) ≤ 9223372036854775807; omega, by show (-9223372036854775808 : Int) ≤ 0 ∧ (0 : Int) ≤ 9223372036854775807; omega⟩
     refine (show Calls _ _ #[.string nmWal, w4V ⟨(nM : Int), 0, 0, 0⟩] _ _ from head_rok w10 nmWal _ hnm4).mono ?_
     rintro e w11 ⟨v17, rfl, ho17, hk11⟩
     have HO17 := zh ho17
     have HS17 := zh (HS16.out.keep hk11)
     have HK11 := zh (HK7.out.trans hk11 (fun _ _ q => q))
     have HLEN2 : Hid (((headS nmWal v ++ frW n NF) ++ [(⟨2, nmWal, 0, []⟩ : Stp)]).length + (headS nmWal ⟨(nM : Int), 0, 0, 0⟩).length ≤ 1099511627776) := zh (by rw [List.length_append, List.length_append, frW_lenR, HNL9.out]; show 2 + L + 1 + 2 ≤ _; omega)
     clear ho17 hk11 hnm4 hw1
     go_upto_region 22 with (at_builtin; go_loud (refine wpList_append_st rfl _ _ rfl W8.heap.size w10.heap.size _ _ ((headS nmWal v ++ frW n NF) ++ [(⟨2, nmWal, 0, []⟩ : Stp)]) (headS nmWal ⟨(nM : Int), 0, 0, 0⟩) rfl HS17.out rfl HO17.out HLEN2.out HK11.out.size ?_); intro v18 w12 ho18 hg18; have HO18 := zh ho18; have hk12 := HK11.out.own hg18 rfl HS17.out; clear ho18 hg18)
     have HLG := zh (HXG.out.keep hk12 (fun q => q))
     have HFR := zh (HXF.out.keep hk12)
     have HB0 := zh (HX0.out.keep hk12 (fun q => q))
     have HB2 := zh (HX2.out.keep hk12 (fun q => q))
     have HK := zh (HXK.out.trans hk12 (fun _ _ q => q))
     obtain ⟨e0, e1, e2, e3, e4⟩ := HLG.out.c5
     have hll := HLG.out.lt
     have hl0 := HB0.out.lt
     have hl2 := HB2.out.lt
     obtain ⟨c0, c1, c2, c3, c4, c5, c6, c7⟩ := HB0.out.rdc
     obtain ⟨y0, y1, y2, y3, y4, y5, y6, y7⟩ := HB2.out.c8
     obtain ⟨z0, z1, z2, z3, z4, z5, z6, z7⟩ := HB2.out.z8
     obtain ⟨F, hF⟩ : ∃ F, ((headS nmWal v ++ frW n NF) ++ [(⟨2, nmWal, 0, []⟩ : Stp)]) ++ headS nmWal ⟨(nM : Int), 0, 0, 0⟩ = F := ⟨_, rfl⟩
     have hFJ : p.wcommitS fs NF = F := by
      rw [← hF]
      unfold Pl.wcommitS
      rw [HHD.out, HNL.out, HNL9.out, show ((n : Int) + (L : Int)) = (nM : Int) by have := HNM.out; omega]
      simp only [List.append_assoc]
     have hFL : F.length = L + 5 := by rw [← hF, List.length_append, List.length_append, List.length_append, frW_lenR, HNL9.out]; show 2 + L + 1 + 2 = _; omega
     have HFL := zh hFL
     rw [hF] at HO18
     have HFS : Hid (∀ s ∈ F, StOk s) := zh (fun s hs => by
      rw [← hF] at hs
      rcases List.mem_append.1 hs with q | q
      ·rcases List.mem_append.1 q with q | q
       ·rcases List.mem_append.1 q with q | q
        ·exact st_headW v s q
        ·exact st_frW (fun f hf => ⟨(HNO.out f hf).len, (HNO.out f hf).rng⟩) (by rw [HNL9.out]; have := HN20.out; omega) s q
       ·exact st_syncW s q
      ·exact st_headW _ s q)
     obtain ⟨A18, c18, hv18⟩ := own_slice HO18.out
     rw [hFL] at hv18
     subst hv18
     have HROW : Hid (RowsC w12 A18 (L + 5) 4 (F.map stC)) := zh (OwnSt.rows HO18.out).2
     rw [hFJ] at HWC
     have HWC2 : Hid (p.wcommit count l = if (p.runS F).2 ≠ 0 then ((p.runS F).1, 0, fullE (p.runS F).2) else ((p.runS F).1, (nM : Int), 0)) := zh (by
      rw [HWC.out, HNL9.out, show ((n : Int) + (L : Int)) = (nM : Int) by have := HNM.out; omega]
      rfl)
     clear hF hFJ hFL HO18 HXG HXF HX0 HX2 HXK HKP2 HS16 HS17 HO17 HK11 HLEN2 HO7 HK7 HOS2 HWC hkk hlt hk
     go_wp2_with fail
     refine (show Calls _ _ #[rdV d p, .slice A18 (L + 5) c18] _ _ from make_rok w12 d p A18 (L + 5) c18 F (H.out.keep HK.out) HROW.out HFS.out (by omega) (sm_mono HSM.out (by rw [HFL.out]; omega))).mono ?_
     rintro e w14 ⟨d14, i14, rfl, h14, hk14⟩
     have HR14 := zh h14
     have HLG' := zh (HLG.out.keep hk14 (fun q => q))
     have HFR' := zh (HFR.out.keep hk14)
     clear HLG HFR e0 e1 e2 e3 e4 hll
     have HLG := HLG'
     have HFR := HFR'
     clear HLG' HFR'
     have HB0' := zh (HB0.out.keep hk14 (fun q => q))
     have HB2' := zh (HB2.out.keep hk14 (fun q => q))
     have HK' := zh (HK.out.trans hk14 (fun _ _ q => q))
     clear hk14 HB0 HB2 HK
     have HB0 := HB0'
     have HB2 := HB2'
     have HK := HK'
     clear HB0' HB2' HK' c0 c1 c2 c3 c4 c5 c6 c7 y0 y1 y2 y3 y4 y5 y6 y7 z0 z1 z2 z3 z4 z5 z6 z7 hl0 hl2
     have hl0 := HB0.out.lt
     have hl2 := HB2.out.lt
     obtain ⟨c0, c1, c2, c3, c4, c5, c6, c7⟩ := HB0.out.rdc
     obtain ⟨y0, y1, y2, y3, y4, y5, y6, y7⟩ := HB2.out.c8
     obtain ⟨z0, z1, z2, z3, z4, z5, z6, z7⟩ := HB2.out.z8
     obtain ⟨e0, e1, e2, e3, e4⟩ := HLG.out.c5
     have hll := HLG.out.lt
     clear h14
     obtain ⟨q1, E1, hqE⟩ : ∃ q E, p.runS F = (q, E) := ⟨_, _, rfl⟩
     rw [hqE] at HR14 HWC2 ⊢
     clear hqE
     obtain ⟨x0, x1, x2, x3, x4, x5, x6, x7⟩ := HB0.out.z8
     unfold rdV
     clear e0 e1 e2 e3 e4 hll
     go_upto_region 23 with fail
     have kz0 : w.heap.size ≤ s0 := by have := HS0.out; omega
     refine forgetC (fun V => Blk V s0 29 (rdC d14 q1) ∧ Rf V d14 (q1) ∧ Blk V (s0 + 1) 29 rdZ ∧ Kp NoB w V) ⟨blk8 HB0.out rfl, (HR14.out).keepB (kp8 (Kp.refl (OnB s0) w14) (.inr rfl)) HB0.out (rdC_str _ _), HB2.out.keep (kp8 (Kp.refl (OnB s0) w14) (.inr rfl)) (fun q => by have q' : s0 + 1 = s0 := q; omega), kp8 HK.out (.inl kz0)⟩ ?_
     rintro w15 ⟨hb4, hr4, hz4, hw4⟩
     clear HB0 HB2 HK
     have HB0 := zh hb4
     have HB2 := zh hz4
     have HK := zh hw4
     have HR := zh hr4
     clear hb4 hz4 hw4 hr4 c0 c1 c2 c3 c4 c5 c6 c7 y0 y1 y2 y3 y4 y5 y6 y7 z0 z1 z2 z3 z4 z5 z6 z7 hl0 hl2 kz0
     have hl0 := HB0.out.lt
     have hl2 := HB2.out.lt
     obtain ⟨c0, c1, c2, c3, c4, c5, c6, c7⟩ := HB0.out.rdc
     obtain ⟨y0, y1, y2, y3, y4, y5, y6, y7⟩ := HB2.out.c8
     obtain ⟨z0, z1, z2, z3, z4, z5, z6, z7⟩ := HB2.out.z8
     by_cases hE3 : E1 = 3
     ·subst hE3
      have HRUN : Hid (p.wcommit count l = (q1, 0, 5)) := zh (by rw [HWC2.out]; rfl)
      go_wp2_with fail
      first
       | exact bodyPost_ret (ret_cell_tmp2 rfl _ _ _ _ _ _ rfl (blk8 HB2.out rfl) Tryz.underlying29 rfl (by exact infoRd) _ _ rfl rfl) rfl ⟨d14, by rw [HRUN.out]; rfl, by rw [HRUN.out]; exact HR.out.keepB (kp8 (Kp.refl _ w15) (.inr rfl)) HB2.out rdZ_str, kp8 HK.out (.inl kz)⟩
     have hE3' : (E1 == 3) = false := by simpa using hE3
     by_cases hE : E1 = 0
     rotate_left
     ·have hE2 : (E1 == 0) = false := by simpa using hE
      have HRUN : Hid (p.wcommit count l = (q1, 0, E1)) := zh (by rw [HWC2.out]; show (if E1 ≠ 0 then (q1, 0, fullE E1) else _) = _; rw [if_pos hE]; unfold fullE; rw [if_neg hE3])
      clear hE hE3
      go_wp2_with fail
      first
       | exact bodyPost_ret (ret_cell_tmp2 rfl _ _ _ _ _ _ rfl (blk8 HB2.out rfl) Tryz.underlying29 rfl (by exact infoRd) _ _ rfl rfl) rfl ⟨d14, by rw [HRUN.out]; rfl, by rw [HRUN.out]; exact HR.out.keepB (kp8 (Kp.refl _ w15) (.inr rfl)) HB2.out rdZ_str, kp8 HK.out (.inl kz)⟩
     subst hE
     have HRUN : Hid (p.wcommit count l = (q1, (nM : Int), 0)) := zh (by rw [HWC2.out]; rfl)
     have hw2 : IntKind.i64.wrap ((n : Int) + (L : Int)) = (nM : Int) := by have h1 := HN20.out; have h2 := HNM.out; rw [IntKind.wrap_i64]; omega
     clear hE3 hE3'
     go_wp2_with fail
     first
      | exact bodyPost_ret (ret_cell_tmp2 rfl _ _ _ _ _ _ rfl (blk8 HB2.out rfl) Tryz.underlying29 rfl (by exact infoRd) _ _ rfl rfl) rfl ⟨d14, by rw [HRUN.out]; rfl, by rw [HRUN.out]; exact HR.out.keepB (kp8 (Kp.refl _ w15) (.inr rfl)) HB2.out rdZ_str, kp8 HK.out (.inl kz)⟩
end
section
open Go.RowKit
def RwkRel (w1 : World) (p : Pl) (fs : List Fr) (m : Nat) (K : Nat) (v9 v10 : Value) (wr : World) : Prop :=
 ∃ k : Nat, v10 = .int .i64 ((k : Int) + 1) ∧ k ≤ K ∧ OwnPgs wr w1.heap.size v9 (homeTo p fs (m : Int) k) ∧ Kp NoB w1 wr
theorem whome_to (p : Pl) (fs : List Fr) (m : Int) : p.whome fs m = homeTo p fs m (wcount p fs m).toNat := rfl
attribute [local go_sem ↓] loadPg storePg allocPg exSlicePg
set_option maxRecDepth 100000 in
set_option maxHeartbeats 3200000 in
theorem wcheck_rok (w : World) (d : Rd) (p : Pl) (mark : Int) (h : Rf w d p) (hsm : p.sm 1000000000) :
  Calls Tryz.prog 18 #[rdV d p, .int .i64 mark] w fun e w' => ∃ d', e = .returned (.tuple #[rdV d' (p.wcheck mark).1, .int .i64 (p.wcheck mark).2]) ∧ Rf w' d' (p.wcheck mark).1 ∧ Kp NoB w w' := by
 have H := zh h
 have HSM := zh hsm
 have HNF : Hid (p.nf < 1099511627776) := zh (by unfold Pl.sm at hsm; omega)
 have hlkw := (h.look nmWal).1
 have hlkd := (h.look nmDb).1
 have HLKW := zh hlkw
 have HLKD := zh hlkd
 have HJC : Hid (p.jcount ≤ 4096) := zh (by unfold Pl.jcount Pl.len; have := hlkd.1; split <;> omega)
 have hb0 : Blk ((w.alloc (.cells (rdC d p) 29)).alloc (.cells rdZ 29)) w.heap.size 29 (rdC d p) := (Blk.new w _ _).alloc _
 have hb2 : Blk ((w.alloc (.cells (rdC d p) 29)).alloc (.cells rdZ 29)) (w.heap.size + 1) 29 rdZ := Blk.top (by simp)
 have hk : Kp NoB w ((w.alloc (.cells (rdC d p) 29)).alloc (.cells rdZ 29)) := ((Kp.refl NoB w).alloc _).alloc _
 clear h hsm hlkw hlkd
 unfold rdV
 go_enter Tryz.func18, Tryz.ntmps18
 go_wp2_with fail
 refine (show Calls _ _ #[rdV d p] _ _ from wopen_rok _ d p (H.out.keep hk) HNF.out).mono ?_
 rintro e w2 ⟨hk2, hpost⟩
 have HB0 := zh (hb0.keep hk2 (fun q => q))
 have HB2 := zh (hb2.keep hk2 (fun q => q))
 have HK := zh (hk.trans hk2 (fun _ _ q => q))
 clear hb0 hb2 hk hk2
 generalize hs0 : w.heap.size = s0 at HB0 HB2 ⊢
 have HS0 := zh hs0
 have kz : w.heap.size ≤ s0 + 1 := by omega
 clear hs0
 have hl0 := HB0.out.lt
 have hl2 := HB2.out.lt
 obtain ⟨c0, c1, c2, c3, c4, c5, c6, c7⟩ := HB0.out.rdc
 obtain ⟨y0, y1, y2, y3, y4, y5, y6, y7⟩ := HB2.out.c8
 obtain ⟨z0, z1, z2, z3, z4, z5, z6, z7⟩ := HB2.out.z8
 rcases hpost with ⟨he, rfl⟩ | ⟨he, A9, c9, rfl, how⟩
 ·obtain ⟨E, hE⟩ : ∃ E, p.wopen.1 = E := ⟨_, rfl⟩
  have HRUN : Hid (p.wcheck mark = (p, E)) := zh (by unfold Pl.wcheck; rw [if_pos he, hE])
  rw [hE] at he ⊢
  have hz1 : (E != 0) = true := by simpa using he
  have hz2 : (E == 0) = false := by simpa using he
  clear he hE
  unfold lgV lgA
  go_upto_region 2 with fail
  have hlg : Blk (w2.alloc (.cells (lgA (⟨0, 0, 0, 0⟩ : W4) (none : Option Addr) 0 0) 94)) w2.heap.size 94 (lgA (⟨0, 0, 0, 0⟩ : W4) (none : Option Addr) 0 0) := Blk.new _ _ _
  have hk9 : Kp NoB w2 (w2.alloc (.cells (lgA (⟨0, 0, 0, 0⟩ : W4) (none : Option Addr) 0 0) 94)) := (Kp.refl NoB w2).alloc _
  unfold lgA at hlg hk9
  generalize w2.alloc (.cells #[.int .i64 (W4.a (⟨0, 0, 0, 0⟩ : W4)), .int .i64 (W4.b (⟨0, 0, 0, 0⟩ : W4)), .int .i64 (W4.c (⟨0, 0, 0, 0⟩ : W4)), .int .i64 (W4.d (⟨0, 0, 0, 0⟩ : W4)), .slice (none : Option Addr) 0 0] 94) = w3 at hlg hk9 ⊢
  generalize hlb : w2.heap.size = lb at hlg ⊢
  have HLG := zh hlg
  have HZL : Hid (s0 + 1 < lb) := zh (by omega)
  clear hlg hlb
  have HB0' := zh (HB0.out.keep hk9 (fun q => q))
  have HB2' := zh (HB2.out.keep hk9 (fun q => q))
  have HK' := zh (HK.out.trans hk9 (fun _ _ q => q))
  clear hk9 HB0 HB2 HK
  have HB0 := HB0'
  have HB2 := HB2'
  have HK := HK'
  clear HB0' HB2' HK' c0 c1 c2 c3 c4 c5 c6 c7 y0 y1 y2 y3 y4 y5 y6 y7 z0 z1 z2 z3 z4 z5 z6 z7 hl0 hl2
  have hl0 := HB0.out.lt
  have hl2 := HB2.out.lt
  obtain ⟨c0, c1, c2, c3, c4, c5, c6, c7⟩ := HB0.out.rdc
  obtain ⟨y0, y1, y2, y3, y4, y5, y6, y7⟩ := HB2.out.c8
  obtain ⟨z0, z1, z2, z3, z4, z5, z6, z7⟩ := HB2.out.z8
  go_wp2_with fail
  exact bodyPost_ret (ret_cell_tmp rfl _ _ _ _ _ _ rfl (blk8 HB2.out rfl) Tryz.underlying29 rfl (by exact infoRd) _ rfl) rfl ⟨d, by rw [HRUN.out]; rfl, by rw [HRUN.out]; exact H.out.keep (kp8 HK.out (.inl kz)), kp8 HK.out (.inl kz)⟩
 obtain ⟨v, hv⟩ : ∃ v, p.whead = v := ⟨_, rfl⟩
 have HVR : Hid (W4R v) := zh (by
  have hvo : W4Ok v := by rw [← hv]; exact says_ok HLKW.out.2
  have h1 := hvo.a; have h2 := hvo.b; have h3 := hvo.c; have h4 := hvo.d; exact ⟨by omega, by omega, by omega, by omega⟩)
 have hfo := frs_ok HLKW.out.2 he rfl
 have hn20 := wopen_len he
 have HDN : Hid (p.down = false) := zh (by
  cases hd : p.down with
  | false => rfl
  | true => unfold Pl.wopen at he; rw [hd] at he; cases he)
 have HWC0 : Hid (p.wcheck mark = if isMark p.wopen.2 mark = false then (p, 4) else if mark = 0 then (p, 0) else p.runS (p.wcheckS p.wopen.2 mark)) := zh (by
  unfold Pl.wcheck
  rw [he]
  rfl)
 obtain ⟨fs, hfs⟩ : ∃ fs, p.wopen.2 = fs := ⟨_, rfl⟩
 rw [hfs] at how hfo hn20 HWC0 ⊢
 rw [hv]
 obtain ⟨n, hn⟩ : ∃ n, fs.length = n := ⟨_, rfl⟩
 rw [hn] at how hn20 ⊢
 have hfr : RfsAt w2 A9 n fs := (show OwnFr w2 _ (.slice A9 n c9) fs from ⟨by rw [hn]; exact how, fun f hf => (hfo f hf).len⟩).rows.2
 have HFR := zh hfr
 have HFO := zh hfo
 have HN20 := zh hn20
 have HNL := zh hn
 have HHD := zh hv
 clear he hv hfs hn how hfo hfr
 unfold lgV lgA
 go_upto_region 2 with fail
 have hk3 : Kp NoB w2 (w2.alloc (.cells (lgA v A9 n c9) 94)) := (Kp.refl NoB w2).alloc _
 have HFR' := zh (HFR.out.keep hk3)
 clear hk3 HFR
 unfold lgA at HFR'
 have hlg : Blk (w2.alloc (.cells #[.int .i64 v.a, .int .i64 v.b, .int .i64 v.c, .int .i64 v.d, .slice A9 n c9] 94)) w2.heap.size 94 #[.int .i64 v.a, .int .i64 v.b, .int .i64 v.c, .int .i64 v.d, .slice A9 n c9] := Blk.new _ _ _
 have hk9 : Kp NoB w2 (w2.alloc (.cells #[.int .i64 v.a, .int .i64 v.b, .int .i64 v.c, .int .i64 v.d, .slice A9 n c9] 94)) := (Kp.refl NoB w2).alloc _
 generalize w2.alloc (.cells #[.int .i64 v.a, .int .i64 v.b, .int .i64 v.c, .int .i64 v.d, .slice A9 n c9] 94) = w3 at hlg hk9 HFR' ⊢
 generalize hlb : w2.heap.size = lb at hlg ⊢
 have HLG := zh hlg
 have HZL : Hid (s0 + 1 < lb) := zh (by omega)
 have HFR := HFR'
 clear hlg hlb HFR'
 have HB0' := zh (HB0.out.keep hk9 (fun q => q))
 have HB2' := zh (HB2.out.keep hk9 (fun q => q))
 have HK' := zh (HK.out.trans hk9 (fun _ _ q => q))
 clear hk9 HB0 HB2 HK
 have HB0 := HB0'
 have HB2 := HB2'
 have HK := HK'
 clear HB0' HB2' HK' c0 c1 c2 c3 c4 c5 c6 c7 y0 y1 y2 y3 y4 y5 y6 y7 z0 z1 z2 z3 z4 z5 z6 z7 hl0 hl2
 have hl0 := HB0.out.lt
 have hl2 := HB2.out.lt
 obtain ⟨c0, c1, c2, c3, c4, c5, c6, c7⟩ := HB0.out.rdc
 obtain ⟨y0, y1, y2, y3, y4, y5, y6, y7⟩ := HB2.out.c8
 obtain ⟨z0, z1, z2, z3, z4, z5, z6, z7⟩ := HB2.out.z8
 obtain ⟨e0, e1, e2, e3, e4⟩ := HLG.out.c5
 have hll := HLG.out.lt
 go_wp2_with fail
 refine (show Calls _ _ #[lgV v A9 n c9, .int .i64 mark] _ _ from is_rok w3 v A9 n c9 fs HFR.out HFO.out (by have := HN20.out; omega) mark).mono ?_
 rintro e w4 ⟨rfl, hk4⟩
 have HLG' := zh (HLG.out.keep hk4 (fun q => q))
 have HFR' := zh (HFR.out.keep hk4)
 clear HLG HFR e0 e1 e2 e3 e4 hll
 have HLG := HLG'
 have HFR := HFR'
 clear HLG' HFR'
 have HB0' := zh (HB0.out.keep hk4 (fun q => q))
 have HB2' := zh (HB2.out.keep hk4 (fun q => q))
 have HK' := zh (HK.out.trans hk4 (fun _ _ q => q))
 clear hk4 HB0 HB2 HK
 have HB0 := HB0'
 have HB2 := HB2'
 have HK := HK'
 clear HB0' HB2' HK' c0 c1 c2 c3 c4 c5 c6 c7 y0 y1 y2 y3 y4 y5 y6 y7 z0 z1 z2 z3 z4 z5 z6 z7 hl0 hl2
 have hl0 := HB0.out.lt
 have hl2 := HB2.out.lt
 obtain ⟨c0, c1, c2, c3, c4, c5, c6, c7⟩ := HB0.out.rdc
 obtain ⟨y0, y1, y2, y3, y4, y5, y6, y7⟩ := HB2.out.c8
 obtain ⟨z0, z1, z2, z3, z4, z5, z6, z7⟩ := HB2.out.z8
 obtain ⟨e0, e1, e2, e3, e4⟩ := HLG.out.c5
 have hll := HLG.out.lt
 cases hmk : isMark fs mark with
 | false =>
  have HRUN : Hid (p.wcheck mark = (p, 4)) := zh (by rw [HWC0.out, hmk]; rfl)
  clear hmk
  go_wp2_with fail
  exact bodyPost_ret (ret_cell_tmp rfl _ _ _ _ _ _ rfl (blk8 HB2.out rfl) Tryz.underlying29 rfl (by exact infoRd) _ rfl) rfl ⟨d, by rw [HRUN.out]; rfl, by rw [HRUN.out]; exact H.out.keep (kp8 HK.out (.inl kz)), kp8 HK.out (.inl kz)⟩
 | true =>
  have HMK := zh hmk
  have HWC1 : Hid (p.wcheck mark = if mark = 0 then (p, 0) else p.runS (p.wcheckS fs mark)) := zh (by rw [HWC0.out, hmk]; rfl)
  clear hmk HWC0
  by_cases hm0 : mark = 0
  ·have HRUN : Hid (p.wcheck mark = (p, 0)) := zh (by rw [HWC1.out, if_pos hm0])
   subst hm0
   go_wp2_with fail
   exact bodyPost_ret (ret_cell_tmp rfl _ _ _ _ _ _ rfl (blk8 HB2.out rfl) Tryz.underlying29 rfl (by exact infoRd) _ rfl) rfl ⟨d, by rw [HRUN.out]; rfl, by rw [HRUN.out]; exact H.out.keep (kp8 HK.out (.inl kz)), kp8 HK.out (.inl kz)⟩
  have hm0b : (mark == 0) = false := by simpa using hm0
  obtain ⟨mk, hmk, hmn⟩ := mark_nat HMK.out
  subst hmk
  have HMN : Hid (mk ≤ n) := zh (by rw [← HNL.out]; exact hmn)
  have HWC : Hid (p.wcheck (mk : Int) = p.runS (p.wcheckS fs (mk : Int))) := zh (by rw [HWC1.out, if_neg hm0])
  have hcr := wcount_rng HFO.out HJC.out HMK.out
  obtain ⟨KI, hKI⟩ : ∃ KI, wcount p fs (mk : Int) = KI := ⟨_, rfl⟩
  have HKK := zh hKI
  rw [hKI] at hcr
  obtain ⟨KN, hKN⟩ : ∃ KN : Nat, KI = KN := ⟨KI.toNat, by omega⟩
  subst hKN
  have HCR : Hid (KN ≤ 4096) := zh (by omega)
  have HCI : Hid (-1099511627776 ≤ (KN : Int) ∧ (KN : Int) ≤ 1099511627776) := zh (by omega)
  clear hm0 hmn hKI hcr HWC1
  go_wp2_with fail
  refine (show Calls _ _ #[rdV d p, lgV v A9 n c9, .int .i64 (mk : Int)] _ _ from wcount_rok w4 d p (H.out.keep HK.out) HNF.out v A9 n c9 fs HFR.out HFO.out (by have := HN20.out; omega) (mk : Int) HMK.out).mono ?_
  rintro e w6 ⟨rfl, hk6⟩
  rw [HKK.out]
  have HLG' := zh (HLG.out.keep hk6 (fun q => q))
  have HFR' := zh (HFR.out.keep hk6)
  clear HLG HFR e0 e1 e2 e3 e4 hll
  have HLG := HLG'
  have HFR := HFR'
  clear HLG' HFR'
  have HB0' := zh (HB0.out.keep hk6 (fun q => q))
  have HB2' := zh (HB2.out.keep hk6 (fun q => q))
  have HK' := zh (HK.out.trans hk6 (fun _ _ q => q))
  clear hk6 HB0 HB2 HK
  have HB0 := HB0'
  have HB2 := HB2'
  have HK := HK'
  clear HB0' HB2' HK' c0 c1 c2 c3 c4 c5 c6 c7 y0 y1 y2 y3 y4 y5 y6 y7 z0 z1 z2 z3 z4 z5 z6 z7 hl0 hl2
  have hl0 := HB0.out.lt
  have hl2 := HB2.out.lt
  obtain ⟨c0, c1, c2, c3, c4, c5, c6, c7⟩ := HB0.out.rdc
  obtain ⟨y0, y1, y2, y3, y4, y5, y6, y7⟩ := HB2.out.c8
  obtain ⟨z0, z1, z2, z3, z4, z5, z6, z7⟩ := HB2.out.z8
  obtain ⟨e0, e1, e2, e3, e4⟩ := HLG.out.c5
  have hll := HLG.out.lt
  obtain ⟨j0, hj0, hq0, hq1, hq2⟩ := info_parts infoPgA
  have HJ0 := zh hj0
  have HY0 := zh hq0
  have HY1 := zh hq1
  have HY2 := zh hq2
  clear hj0 hq0 hq1 hq2 hm0b
  have HXG := HLG
  have HXF := HFR
  have HX0 := HB0
  have HX2 := HB2
  have HXK := HK
  clear HLG HFR HB0 HB2 HK e0 e1 e2 e3 e4 hll c0 c1 c2 c3 c4 c5 c6 c7 y0 y1 y2 y3 y4 y5 y6 y7 z0 z1 z2 z3 z4 z5 z6 z7 hl0 hl2
  go_wp2_with fail
  go_loopw [9, 10, 11, 12] (fun v9 v10 v11 v12 wr => RwkRel w6 p fs mk KN v9 v10 wr) (fun _ v _ _ _ => KN + 1 - (intOf v).toNat)
  case atStart => exact ⟨0, rfl, Nat.zero_le _, ⟨World.ownsRow_nil _ _ _ _, by simp [homeTo]⟩, Kp.refl _ _⟩
  case round =>
   obtain ⟨wq, rfl⟩ : ∃ wq, wq = wr := ⟨_, rfl⟩
   obtain ⟨k, rfl, hk, how, hkp⟩ := hrel
   have HKP := zh hkp
   obtain ⟨A11, c11, rfl⟩ := own_slice how.1
   obtain ⟨NN, hNN⟩ : ∃ NN : Int, (k : Int) + 1 = NN := ⟨_, rfl⟩
   have HNN := zh hNN
   rw [hNN]
   obtain ⟨acc, hacc⟩ : ∃ acc, homeTo p fs (mk : Int) k = acc := ⟨_, rfl⟩
   have HACC := zh hacc
   rw [hacc] at how ⊢
   have hnx := homeTo_next p fs (mk : Int) k
   rw [hacc, show ((k + 1 : Nat) : Int) = NN by omega, Int.toNat_natCast] at hnx
   have HNX := zh hnx
   have HAC4 : Hid (acc.length ≤ 4096) := zh (by rw [← hacc]; have := homeTo_len p fs (mk : Int) k; have := HCR.out; omega)
   obtain ⟨na, hna⟩ : ∃ n, acc.length = n := ⟨_, rfl⟩
   rw [hna]
   have HOW : Hid (wq.ownsRow w6.heap.size 49 257 (.slice A11 na c11) na (pgsCells acc)) := zh (by have := how.1; rwa [hna] at this)
   have HOWA := zh how.2
   have HNA := zh hna
   have HKW := zh (HXK.out.trans hkp (fun _ _ q => q))
   have HFRQ := zh (HXF.out.keep hkp)
   have hkc := hkp
   clear how hacc hnx hna hNN
   have HLG := zh (HXG.out.keep hkc (fun q => q))
   have HFR := zh (HXF.out.keep hkc)
   have HB0 := zh (HX0.out.keep hkc (fun q => q))
   have HB2 := zh (HX2.out.keep hkc (fun q => q))
   have HK := zh (HXK.out.trans hkc (fun _ _ q => q))
   obtain ⟨e0, e1, e2, e3, e4⟩ := HLG.out.c5
   have hll := HLG.out.lt
   have hl0 := HB0.out.lt
   have hl2 := HB2.out.lt
   obtain ⟨c0, c1, c2, c3, c4, c5, c6, c7⟩ := HB0.out.rdc
   obtain ⟨y0, y1, y2, y3, y4, y5, y6, y7⟩ := HB2.out.c8
   obtain ⟨z0, z1, z2, z3, z4, z5, z6, z7⟩ := HB2.out.z8
   clear hkc
   by_cases hlt : NN ≤ (KN : Int)
   ·have HKN : Hid (k < KN) := zh (by have := HNN.out; omega)
    have hwn : IntKind.i64.wrap (NN + 1) = NN + 1 := by have := HCR.out; have := HNN.out; rw [IntKind.wrap_i64]; omega
    go_wp2_with fail
    go_loop [11, 12] (fun v11 v12 => ∃ (j : Nat) (b : Bool), v11 = .bool b ∧ v12 = .int .i64 (j : Int) ∧ j ≤ mk ∧ b = (fs.take j).any (fun f => decide (f.n = NN))) (fun _ v => mk - (intOf v).toNat)
    case atStart => exact ⟨0, false, rfl, rfl, Nat.zero_le _, rfl⟩
    case round =>
     obtain ⟨j, b, rfl, rfl, hj, hb⟩ := hrel
     have HBA := zh hb
     clear hb
     by_cases hjm : j < mk
     ·have hjj : (j : Int) < (mk : Int) := by omega
      have hjn : (j : Int) < (n : Int) := by have := HMN.out; omega
      obtain ⟨f, hf⟩ : ∃ f, fs[j]? = some f := ⟨_, List.getElem?_eq_getElem (by rw [HNL.out]; have := HMN.out; omega)⟩
      have hfo := HFO.out f (List.mem_of_getElem? hf)
      have hA9 := HFRQ.out.full hf hfo.len
      obtain ⟨g9, o9, hA9, hg9, d0, -⟩ := hA9
      have HA9 := zh hA9
      rw [hA9] at e4
      have hbn := any_next fs j NN hf
      rw [← HBA.out] at hbn
      have HBN := zh hbn
      obtain ⟨fn, hfn⟩ : ∃ fn, f.n = fn := ⟨_, rfl⟩
      rw [hfn] at d0
      have HFNN := zh hfn
      clear hf hfo hfn hbn hA9
      cases b with
      | true =>
       go_wp2_with fail
       go_round
       case rel => exact ⟨j + 1, true, rfl, by go_num, by omega, by rw [HBN.out]; rfl⟩
       case measure => simp [intOf]; omega
      | false =>
       by_cases he : fn = NN
       ·have he2 : (fn == NN) = true := by simpa using he
        go_wp2_with fail
        go_round
        case rel => exact ⟨j + 1, true, rfl, by go_num, by omega, by rw [HBN.out, HFNN.out, decide_eq_true he]; rfl⟩
        case measure => simp [intOf]; omega
       ·have he2 : (fn == NN) = false := by simpa using he
        go_wp2_with fail
        go_round
        case rel => exact ⟨j + 1, false, rfl, by go_num, by omega, by rw [HBN.out, HFNN.out, decide_eq_false he]; rfl⟩
        case measure => simp [intOf]; omega
     ·have hjj : ¬ (j : Int) < (mk : Int) := by omega
      obtain rfl : j = mk := by omega
      cases b with
      | false =>
       have HUP : Hid (homeTo p fs (j : Int) (k + 1) = acc) := zh (by rw [HNX.out, ← HBA.out]; simp)
       go_wp2_with fail
       go_roundw
       case rel => exact ⟨k + 1, by have := HNN.out; rw [show ((k + 1 : Nat) : Int) + 1 = NN + 1 by omega], by have := HKN.out; omega, by rw [HUP.out]; exact ⟨by rw [HNA.out]; exact HOW.out, HOWA.out⟩, HKP.out⟩
       case measure => simp [intOf]; have := HNN.out; omega
      | true =>
       have HANY : Hid ((fs.take j).any (fun f => decide (f.n = NN)) = true) := zh HBA.out.symm
       obtain ⟨mk, rfl⟩ : ∃ mk, mk = j := ⟨_, rfl⟩
       go_wp2_with fail
       refine (show Calls _ _ #[rdV d p, lgV v A9 n c9, .int .i64 (mk : Int), .int .i64 NN] _ _ from wpage_rok wq d p (H.out.keep HKW.out) HNF.out HDN.out v A9 n c9 fs HFRQ.out HFO.out (by have := HN20.out; omega) mk HMN.out NN (by have h1 := HNN.out; have h2 := HCR.out; have h3 := HKN.out; omega)).mono ?_
       rintro e V2 ⟨rfl, hkv⟩
       obtain ⟨pb, hpb⟩ : ∃ pb, wpage p fs (mk : Int) NN = pb := ⟨_, rfl⟩
       rw [hpb]
       have hpl : pb.length = 256 := by rw [← hpb]; exact wpage_len HFO.out p _ _
       have HPL := zh hpl
       have HPO : Hid (PgOk ⟨NN, pb⟩) := zh ⟨hpl, by rw [← hpb]; exact wpage_rng HFO.out HLKD.out.2 _ _, by have h1 := HNN.out; have h2 := HCR.out; have h3 := HKN.out; show _ ≤ NN ∧ NN ≤ _; omega⟩
       have HUP : Hid (homeTo p fs (mk : Int) (k + 1) = acc ++ [⟨NN, pb⟩]) := zh (by rw [HNX.out, if_pos HANY.out, hpb])
       have HKV := zh (HKP.out.trans hkv (fun _ _ q => q))
       have HOWV := zh (own_keepB HOW.out hkv (fun _ _ q => q))
       have hrs : (pgA ⟨NN, pb⟩).size = 257 := pgA_size HPO.out
       have hcn9 := pg_new V2 ⟨NN, pb⟩
       obtain ⟨RR, hRR⟩ : ∃ RR, pgA ⟨NN, pb⟩ = RR := ⟨_, rfl⟩
       have HRR9 := zh hRR
       clear hkv hpb hpl e0 e1 e2 e3 e4 hll c0 c1 c2 c3 c4 c5 c6 c7 y0 y1 y2 y3 y4 y5 y6 y7 z0 z1 z2 z3 z4 z5 z6 z7 hl0 hl2
       go_wp2_with (first
        | (show wpList _ _ _ (⟨some 64, _, _, _, _, _⟩ :: _) _ _; go_loud (refine wpList_valW _ (exBuildPg2 _ _ _ _ NN pb HPL.out _ _ _ _ _ rfl rfl) ?_; rw [HRR9.out]; rw [HRR9.out] at hrs hcn9))
        | (at_builtin; refine wpList_append_ownB rfl _ _ 31 rfl w6.heap.size 49 j0 _ 257 264 Tryz.underlying31 HJ0.out HY0.out HY1.out HY2.out rfl (by omega) _ na (pgsCells acc) rfl (own_keepB HOWV.out ((Kp.refl NoB V2).alloc _) (fun _ _ q => q)) ⟨V2.heap.size, 0, none⟩ 1 1 (pgL ⟨NN, pb⟩) rfl (pgL_len HPO.out) hcn9 (pgL_one _) (by have h1 := HAC4.out; have h2 := HNA.out; unfold maxLen; omega) (by have h1 := HAC4.out; have h2 := HNA.out; omega) (by have h1 := HKV.out.size; simp; omega) ?_; intro v7 w8 hown7 hgrow7 _; have HO7 := zh hown7; have hk7 := (HKV.out.alloc (.cells RR 49)).own hgrow7 rfl HOWV.out; have HK8 := zh hk7; clear hown7 hgrow7 hk7))
       refine ⟨⟨k + 1, by have := HNN.out; rw [show ((k + 1 : Nat) : Int) + 1 = NN + 1 by omega], by have := HNN.out; have := HKN.out; omega, ?_, HK8.out⟩, by simp [intOf]; have := HNN.out; omega⟩
       rw [HUP.out]
       refine ⟨?_, fun y hy => ?_⟩
       ·have h9 := HO7.out
        unfold pgsCells at h9 ⊢
        rw [List.flatMap_append, List.length_append, HNA.out]
        simpa using h9
       ·rcases List.mem_append.1 hy with q | q
        ·exact HOWA.out y q
        ·rw [List.mem_singleton.1 q]; exact HPO.out
   ·have hke : k = KN := by have := HNN.out; omega
    have HHM : Hid (p.whome fs (mk : Int) = acc) := zh (by rw [whome_to, HKK.out, Int.toNat_natCast, ← hke]; exact HACC.out)
    have HAP : Hid (PgsAt wq A11 na acc) := zh (by
     have h1 : OwnPgs wq w6.heap.size (.slice A11 na c11) acc := ⟨by rw [HNA.out]; exact HOW.out, HOWA.out⟩
     exact (ownPgs_rowsR h1).2)
    have hna4 : na ≤ 4096 := by have h1 := HAC4.out; rw [HNA.out] at h1; exact h1
    have HNA4 := zh hna4
    have HAPK : Hid (∀ x ∈ acc, PgOk x ∧ 1 ≤ x.n ∧ x.n ≤ 1099511627776) := zh (by rw [← HACC.out]; exact homeTo_ok HFO.out HLKD.out.2 _ (by have := HCR.out; omega))
    clear hke hkp HACC hna4 HXG HXF HX0 HX2 HXK
    go_wp2_with fail
    refine (show Calls _ _ #[.string nmWal, w4V v] _ _ from head_rok wq nmWal v HVR.out).mono ?_
    rintro e w9 ⟨v13, rfl, ho13, hk9⟩
    have HO13 := zh ho13
    have HK89 := zh hk9
    have HAP9 := zh (HAP.out.keep hk9)
    clear ho13 hk9
    have HXG := HLG
    have HXF := HFR
    have HX0 := HB0
    have HX2 := HB2
    have HXK := HK
    clear HLG HFR HB0 HB2 HK e0 e1 e2 e3 e4 hll c0 c1 c2 c3 c4 c5 c6 c7 y0 y1 y2 y3 y4 y5 y6 y7 z0 z1 z2 z3 z4 z5 z6 z7 hl0 hl2
    go_wp2_with fail
    refine (home_rok w9 (KN : Int) A11 na c11 acc HAP9.out HAPK.out (by have := HNA4.out; omega) HCI.out).mono ?_
    rintro e w10 ⟨v73, rfl, ho73, hk10⟩
    have HO73 := zh ho73
    have HO13' := zh (HO13.out.keep hk10)
    have HK810 := zh (HK89.out.trans hk10 (fun _ _ q => q))
    have HHL : Hid ((homeS (KN : Int) acc).length = na + 2) := zh (by unfold homeS; rw [List.length_append, homeW_len, HNA.out]; rfl)
    have HLN1 : Hid ((headS nmWal v).length + (homeS (KN : Int) acc).length ≤ 1099511627776) := zh (by rw [HHL.out]; show 2 + (na + 2) ≤ _; have := HNA4.out; omega)
    clear ho73 hk10
    go_upto_region 22 with (at_builtin; go_loud (refine wpList_append_st rfl _ _ rfl wq.heap.size w9.heap.size _ _ (headS nmWal v) (homeS (KN : Int) acc) rfl HO13'.out rfl HO73.out HLN1.out HK810.out.size ?_); intro v13' w11 ho11 hg11; have HO11 := zh ho11; have hk11 := HK810.out.own hg11 rfl HO13'.out; clear ho11 hg11)
    have HK811 := zh hk11
    have HH1 : Hid (∀ s ∈ headS nmWal v ++ homeS (KN : Int) acc, StOk s) := zh (fun s hs => by
     rcases List.mem_append.1 hs with q | q
     ·exact st_headW v s q
     ·exact st_home HCI.out HAPK.out s q)
    by_cases hmn : mk = n
    ·have hmb : ((mk : Int) == (n : Int)) = true := by simp [hmn]
     have HMB := zh hmn
     have hbu := buildI0
     have e4 : w11.cell? ⟨lb, 4, none⟩ = some (.slice A9 n c9) := (HXG.out.keep hk11 (fun q => q)).cell 4
     have hll := (HXG.out.keep hk11 (fun q => q)).lt
     clear hmn hk11
     go_wp2_with fail
     have hz4 : W4R ⟨0, 0, 0, 0⟩ := ⟨by show (-9223372036854775808 : Int) ≤ 0 ∧ (0 : Int) ≤ 9223372036854775807; omega, by show (-9223372036854775808 : Int) ≤ 0 ∧ (0 : Int) ≤ 9223372036854775807; omega, by show (-9223372036854775808 : Int) ≤ 0 ∧ (0 : Int) ≤ 9223372036854775807; omega, by show (-9223372036854775808 : Int) ≤ 0 ∧ (0 : Int) ≤ 9223372036854775807; omega⟩
     refine (show Calls _ _ #[.string nmWal, w4V ⟨0, 0, 0, 0⟩] _ _ from head_rok w11 nmWal ⟨0, 0, 0, 0⟩ hz4).mono ?_
     rintro e w12 ⟨v82, rfl, ho82, hk12⟩
     have HO82 := zh ho82
     have HO11' := zh (HO11.out.keep hk12)
     have HK812 := zh (HK811.out.trans hk12 (fun _ _ q => q))
     have HLN2 : Hid ((headS nmWal v ++ homeS (KN : Int) acc).length + (headS nmWal ⟨0, 0, 0, 0⟩).length ≤ 1099511627776) := zh (by rw [List.length_append, HHL.out]; show 2 + (na + 2) + 2 ≤ _; have := HNA4.out; omega)
     clear ho82 hk12 hz4 e4 hll
     go_upto_region 24 with (at_builtin; go_loud (refine wpList_append_st rfl _ _ rfl wq.heap.size w11.heap.size _ _ (headS nmWal v ++ homeS (KN : Int) acc) (headS nmWal ⟨0, 0, 0, 0⟩) rfl HO11'.out rfl HO82.out HLN2.out HK812.out.size ?_); intro v18 w13 ho18 hg18; have HO18 := zh ho18; have hk13 := HK812.out.own hg18 rfl HO11'.out; clear ho18 hg18)
     have HLG := zh (HXG.out.keep hk13 (fun q => q))
     have HFR := zh (HXF.out.keep hk13)
     have HB0 := zh (HX0.out.keep hk13 (fun q => q))
     have HB2 := zh (HX2.out.keep hk13 (fun q => q))
     have HK := zh (HXK.out.trans hk13 (fun _ _ q => q))
     obtain ⟨e0, e1, e2, e3, e4⟩ := HLG.out.c5
     have hll := HLG.out.lt
     have hl0 := HB0.out.lt
     have hl2 := HB2.out.lt
     obtain ⟨c0, c1, c2, c3, c4, c5, c6, c7⟩ := HB0.out.rdc
     obtain ⟨y0, y1, y2, y3, y4, y5, y6, y7⟩ := HB2.out.c8
     obtain ⟨z0, z1, z2, z3, z4, z5, z6, z7⟩ := HB2.out.z8
     clear hk13 e0 e1 e2 e3 e4 hll
     obtain ⟨F, hF⟩ : ∃ F, (headS nmWal v ++ homeS (KN : Int) acc) ++ headS nmWal ⟨0, 0, 0, 0⟩ = F := ⟨_, rfl⟩
     have hFJ : p.wcheckS fs (mk : Int) = F := by
      rw [← hF]
      unfold Pl.wcheckS
      rw [HHD.out, HNL.out, HKK.out, HHM.out, if_pos (by rw [HMB.out]), List.append_assoc]
     have hFL : F.length ≤ 4102 := by rw [← hF, List.length_append, List.length_append, HHL.out]; show 2 + (na + 2) + 2 ≤ _; have := HNA4.out; omega
     have HFS : Hid (∀ s ∈ F, StOk s) := zh (fun s hs => by
      rw [← hF] at hs
      rcases List.mem_append.1 hs with q | q
      ·exact HH1.out s q
      ·exact st_headW _ s q)
     rw [hF] at HO18
     obtain ⟨A18, c18, hv18⟩ := own_slice HO18.out
     obtain ⟨nF, hnF⟩ : ∃ nF, F.length = nF := ⟨_, rfl⟩
     have HFL : Hid (F.length ≤ 4102) := zh hFL
     have HNF9 := zh hnF
     rw [hnF] at hv18
     subst hv18
     have HROW : Hid (RowsC w13 A18 nF 4 (F.map stC)) := zh (by have h9 := (OwnSt.rows HO18.out).2; exact h9)
     have HWC2 : Hid (p.wcheck (mk : Int) = p.runS F) := zh (by rw [HWC.out, hFJ])
     clear hF hFJ hFL HO18 hnF
     go_wp2_with fail
     refine (show Calls _ _ #[rdV d p, .slice A18 nF c18] _ _ from make_rok w13 d p A18 nF c18 F (H.out.keep HK.out) HROW.out HFS.out (by have h1 := HFL.out; have h2 := HNF9.out; omega) (sm_mono HSM.out (by have := HFL.out; omega))).mono ?_
     rintro e w14 ⟨d14, i14, rfl, h14, hk14⟩
     have HR14 := zh h14
     have HB0' := zh (HB0.out.keep hk14 (fun q => q))
     have HB2' := zh (HB2.out.keep hk14 (fun q => q))
     have HK' := zh (HK.out.trans hk14 (fun _ _ q => q))
     clear hk14 HB0 HB2 HK
     have HB0 := HB0'
     have HB2 := HB2'
     have HK := HK'
     clear HB0' HB2' HK' c0 c1 c2 c3 c4 c5 c6 c7 y0 y1 y2 y3 y4 y5 y6 y7 z0 z1 z2 z3 z4 z5 z6 z7 hl0 hl2
     have hl0 := HB0.out.lt
     have hl2 := HB2.out.lt
     obtain ⟨c0, c1, c2, c3, c4, c5, c6, c7⟩ := HB0.out.rdc
     obtain ⟨y0, y1, y2, y3, y4, y5, y6, y7⟩ := HB2.out.c8
     obtain ⟨z0, z1, z2, z3, z4, z5, z6, z7⟩ := HB2.out.z8
     clear h14
     obtain ⟨q1, E1, hqE⟩ : ∃ q E, p.runS F = (q, E) := ⟨_, _, rfl⟩
     rw [hqE] at HR14 HWC2 ⊢
     clear hqE
     obtain ⟨x0, x1, x2, x3, x4, x5, x6, x7⟩ := HB0.out.z8
     unfold rdV
     go_upto_region 25 with fail
     have kz0 : w.heap.size ≤ s0 := by have := HS0.out; omega
     refine forgetC (fun V => Blk V s0 29 (rdC d14 q1) ∧ Rf V d14 (q1) ∧ Blk V (s0 + 1) 29 rdZ ∧ Kp NoB w V) ⟨blk8 HB0.out rfl, (HR14.out).keepB (kp8 (Kp.refl (OnB s0) w14) (.inr rfl)) HB0.out (rdC_str _ _), HB2.out.keep (kp8 (Kp.refl (OnB s0) w14) (.inr rfl)) (fun q => by have q' : s0 + 1 = s0 := q; omega), kp8 HK.out (.inl kz0)⟩ ?_
     rintro w15 ⟨hb4, hr4, hz4, hw4⟩
     clear HB0 HB2 HK
     have HB0 := zh hb4
     have HB2 := zh hz4
     have HK := zh hw4
     have HR := zh hr4
     clear hb4 hz4 hw4 hr4 c0 c1 c2 c3 c4 c5 c6 c7 y0 y1 y2 y3 y4 y5 y6 y7 z0 z1 z2 z3 z4 z5 z6 z7 hl0 hl2 kz0
     have hl0 := HB0.out.lt
     have hl2 := HB2.out.lt
     obtain ⟨c0, c1, c2, c3, c4, c5, c6, c7⟩ := HB0.out.rdc
     obtain ⟨y0, y1, y2, y3, y4, y5, y6, y7⟩ := HB2.out.c8
     obtain ⟨z0, z1, z2, z3, z4, z5, z6, z7⟩ := HB2.out.z8
     have HRUN : Hid (p.wcheck (mk : Int) = (q1, E1)) := HWC2
     go_wp2_with fail
     exact bodyPost_ret (ret_cell_tmp rfl _ _ _ _ _ _ rfl (blk8 HB2.out rfl) Tryz.underlying29 rfl (by exact infoRd) _ rfl) rfl ⟨d14, by rw [HRUN.out]; rfl, by rw [HRUN.out]; exact HR.out.keepB (kp8 (Kp.refl _ w15) (.inr rfl)) HB2.out rdZ_str, kp8 HK.out (.inl kz)⟩
    ·have hmb : ((mk : Int) == (n : Int)) = false := by simp; omega
     have HMB := zh hmn
     have HLG := zh (HXG.out.keep hk11 (fun q => q))
     have HFR := zh (HXF.out.keep hk11)
     have HB0 := zh (HX0.out.keep hk11 (fun q => q))
     have HB2 := zh (HX2.out.keep hk11 (fun q => q))
     have HK := zh (HXK.out.trans hk11 (fun _ _ q => q))
     obtain ⟨e0, e1, e2, e3, e4⟩ := HLG.out.c5
     have hll := HLG.out.lt
     have hl0 := HB0.out.lt
     have hl2 := HB2.out.lt
     obtain ⟨c0, c1, c2, c3, c4, c5, c6, c7⟩ := HB0.out.rdc
     obtain ⟨y0, y1, y2, y3, y4, y5, y6, y7⟩ := HB2.out.c8
     obtain ⟨z0, z1, z2, z3, z4, z5, z6, z7⟩ := HB2.out.z8
     clear hk11 hmn
     obtain ⟨F, hF⟩ : ∃ F, headS nmWal v ++ homeS (KN : Int) acc = F := ⟨_, rfl⟩
     have hFJ : p.wcheckS fs (mk : Int) = F := by
      rw [← hF]
      unfold Pl.wcheckS
      rw [HHD.out, HNL.out, HKK.out, HHM.out, if_neg (by intro q; exact HMB.out (by omega)), List.append_nil]
     have hFL : F.length ≤ 4102 := by rw [← hF, List.length_append, HHL.out]; show 2 + (na + 2) ≤ _; have := HNA4.out; omega
     have HFS : Hid (∀ s ∈ F, StOk s) := zh (fun s hs => HH1.out s (by rw [hF]; exact hs))
     have HO18 := HO11
     rw [hF] at HO18
     obtain ⟨v18, rfl⟩ : ∃ v18, v18 = v13' := ⟨_, rfl⟩
     obtain ⟨A18, c18, hv18⟩ := own_slice HO18.out
     obtain ⟨nF, hnF⟩ : ∃ nF, F.length = nF := ⟨_, rfl⟩
     have HFL : Hid (F.length ≤ 4102) := zh hFL
     have HNF9 := zh hnF
     rw [hnF] at hv18
     subst hv18
     have HROW : Hid (RowsC w11 A18 nF 4 (F.map stC)) := zh (by have h9 := (OwnSt.rows HO18.out).2; exact h9)
     have HWC2 : Hid (p.wcheck (mk : Int) = p.runS F) := zh (by rw [HWC.out, hFJ])
     clear hF hFJ hFL HO18 hnF
     go_wp2_with fail
     refine (show Calls _ _ #[rdV d p, .slice A18 nF c18] _ _ from make_rok w11 d p A18 nF c18 F (H.out.keep HK.out) HROW.out HFS.out (by have h1 := HFL.out; have h2 := HNF9.out; omega) (sm_mono HSM.out (by have := HFL.out; omega))).mono ?_
     rintro e w14 ⟨d14, i14, rfl, h14, hk14⟩
     have HR14 := zh h14
     have HB0' := zh (HB0.out.keep hk14 (fun q => q))
     have HB2' := zh (HB2.out.keep hk14 (fun q => q))
     have HK' := zh (HK.out.trans hk14 (fun _ _ q => q))
     clear hk14 HB0 HB2 HK
     have HB0 := HB0'
     have HB2 := HB2'
     have HK := HK'
     clear HB0' HB2' HK' c0 c1 c2 c3 c4 c5 c6 c7 y0 y1 y2 y3 y4 y5 y6 y7 z0 z1 z2 z3 z4 z5 z6 z7 hl0 hl2
     have hl0 := HB0.out.lt
     have hl2 := HB2.out.lt
     obtain ⟨c0, c1, c2, c3, c4, c5, c6, c7⟩ := HB0.out.rdc
     obtain ⟨y0, y1, y2, y3, y4, y5, y6, y7⟩ := HB2.out.c8
     obtain ⟨z0, z1, z2, z3, z4, z5, z6, z7⟩ := HB2.out.z8
     clear h14
     obtain ⟨q1, E1, hqE⟩ : ∃ q E, p.runS F = (q, E) := ⟨_, _, rfl⟩
     rw [hqE] at HR14 HWC2 ⊢
     clear hqE
     obtain ⟨x0, x1, x2, x3, x4, x5, x6, x7⟩ := HB0.out.z8
     unfold rdV
     go_upto_region 25 with fail
     have kz0 : w.heap.size ≤ s0 := by have := HS0.out; omega
     refine forgetC (fun V => Blk V s0 29 (rdC d14 q1) ∧ Rf V d14 (q1) ∧ Blk V (s0 + 1) 29 rdZ ∧ Kp NoB w V) ⟨blk8 HB0.out rfl, (HR14.out).keepB (kp8 (Kp.refl (OnB s0) w14) (.inr rfl)) HB0.out (rdC_str _ _), HB2.out.keep (kp8 (Kp.refl (OnB s0) w14) (.inr rfl)) (fun q => by have q' : s0 + 1 = s0 := q; omega), kp8 HK.out (.inl kz0)⟩ ?_
     rintro w15 ⟨hb4, hr4, hz4, hw4⟩
     clear HB0 HB2 HK
     have HB0 := zh hb4
     have HB2 := zh hz4
     have HK := zh hw4
     have HR := zh hr4
     clear hb4 hz4 hw4 hr4 c0 c1 c2 c3 c4 c5 c6 c7 y0 y1 y2 y3 y4 y5 y6 y7 z0 z1 z2 z3 z4 z5 z6 z7 hl0 hl2 kz0
     have hl0 := HB0.out.lt
     have hl2 := HB2.out.lt
     obtain ⟨c0, c1, c2, c3, c4, c5, c6, c7⟩ := HB0.out.rdc
     obtain ⟨y0, y1, y2, y3, y4, y5, y6, y7⟩ := HB2.out.c8
     obtain ⟨z0, z1, z2, z3, z4, z5, z6, z7⟩ := HB2.out.z8
     have HRUN : Hid (p.wcheck (mk : Int) = (q1, E1)) := HWC2
     go_wp2_with fail
     exact bodyPost_ret (ret_cell_tmp rfl _ _ _ _ _ _ rfl (blk8 HB2.out rfl) Tryz.underlying29 rfl (by exact infoRd) _ rfl) rfl ⟨d14, by rw [HRUN.out]; rfl, by rw [HRUN.out]; exact HR.out.keepB (kp8 (Kp.refl _ w15) (.inr rfl)) HB2.out rdZ_str, kp8 HK.out (.inl kz)⟩
end
end Go.Proofs.YtegcbdfilkecpaaGreat
