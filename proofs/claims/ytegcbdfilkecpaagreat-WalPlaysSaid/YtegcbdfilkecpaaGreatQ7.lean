/- Texts of this proof, one behind the other: lemmas and contracts; each says its own conditions. -/
import Derived.Test.YtegcbdfilkecpaaGreatQ1
import Derived.Test.YtegcbdfilkecpaaGreatQ3
import Derived.Test.YtegcbdfilkecpaaGreatQ5
import Derived.Test.YtegcbdfilkecpaaGreatQ6
namespace Go.Proofs.YtegcbdfilkecpaaGreat
section
open Go Go.RowKit
section
variable {P : Program} {ops : Array Oper} {Q : Exit → Act → World → Prop} {md : Region.Mode} {S : World → Prop} {fuel : Nat} {listed : Array Bool} {a : Act} {w : World} {i : Nat} {rs : List Nat}
variable {ds : Option Tmp} {op : Op} {ty : TypeId} {ps : String} {af : Array Edge}
theorem AllReadyH.skipR {gd : Option (Nat × Bool)} (ho : ops[i]? = some ⟨none, op, ty, ps, af, gd⟩) (hw : Region.wanted ⟨none, op, ty, ps, af, gd⟩ (yielded ops a.tmps) = true) (w' : World)
  (hr : (execOp a.eval ⟨none, op, ty, ps, af, gd⟩).run P w = .ok .skip w') (hS : S w')
  (hn : wpAnyH P md ops Q S fuel (listed.setIfInBounds i true) a w')
  (hs : AllReadyH P md ops Q S fuel listed a w rs) : AllReadyH P md ops Q S fuel listed a w (i :: rs) :=
 AllReadyH.cons ho (fun K hK => by
  rw [if_pos hw]
  unfold Oper.wp
  rw [hr, Oper.upon_skip]
  exact hK.out _ _ hS (fun _ => hn)) hs
theorem AllReadyH.appendB {s x : Operand} {t : TypeId} (ho : ops[i]? = some ⟨ds, .call { callee := .builtin .append, args := #[s, x], argTypes := #[t, t] }, ty, ps, af, none⟩) (hw : Region.wanted ⟨ds, .call { callee := .builtin .append, args := #[s, x], argTypes := #[t, t] }, ty, ps, af, none⟩ (yielded ops a.tmps) = true)
  (base : Nat) (e : TypeId) (j : TypeInfo) (z : Value) (size bytes : Nat) (ht : P.underlying t = some (.slice e)) (hi : P.info? e = some j) (hz : j.zero = some z)
  (hsize : j.size = size) (hby : j.bytes = bytes) (hzs : z.cells.size = size) (hsz : 0 < size)
  (v : Value) (n : Nat) (xs : List Value) (hsv : a.eval s = v) (hown : w.ownsRow base e size v n xs)
  (ad : Addr) (m c : Nat) (news : List Value) (hx : a.eval x = .slice (some ad) m c) (hl : news.length = m * size) (hnews : ∀ j u, news[j]? = some u → w.cell? (ad.add j) = some u) (h1 : ∀ u ∈ news, u.oneCell' = true)
  (h63 : n + m ≤ maxLen) (hbytes : (n + m) * bytes ≤ 140737488355328) (hbase : base ≤ w.heap.size)
  (hS : ∀ v' w', w'.ownsRow base e size v' (n + m) (xs ++ news) → w.grownBy w' v.ownBlock → (∀ b, v'.ownBlock = some b → v.ownBlock = some b ∨ w.heap.size ≤ b) → S w')
  (hn : ∀ v' w', w'.ownsRow base e size v' (n + m) (xs ++ news) → w.grownBy w' v.ownBlock → (∀ b, v'.ownBlock = some b → v.ownBlock = some b ∨ w.heap.size ≤ b) → wpAnyH P md ops Q S fuel (listed.setIfInBounds i true) (a.put ds v') w')
  (hs : AllReadyH P md ops Q S fuel listed a w rs) : AllReadyH P md ops Q S fuel listed a w (i :: rs) :=
 AllReadyH.cons ho (fun K hK => by
  rw [if_pos hw]
  exact wp_append_ownB s x t rfl base e j z size bytes ht hi hz hsize hby hzs hsz v n xs hsv hown ad m c news hx hl hnews h1 h63 hbytes hbase
   (fun v' w' q1 q2 q3 => hK.out _ _ (hS v' w' q1 q2 q3) (fun _ => hn v' w' q1 q2 q3))) hs
end
theorem stSl {w : World} {g : Nat} {v0 : Value} (h : Blk w g 31 #[v0]) (ev : Operand → Value) {x y : Operand} {A : Option Addr} {n c : Nat} {ty : TypeId} {ps : String} {af : Array Edge} {gd : Option (Nat × Bool)} (hx : ev x = .pointer (some ⟨g, 0, none⟩)) (hy : ev y = .slice A n c) :
  (execOp ev ⟨none, .store 31 x y, ty, ps, af, gd⟩).run Tryz.prog w = .ok .skip (w.setCell ⟨g, 0, none⟩ (.slice A n c)) := by
 have hc : w.cell? ⟨g, 0, none⟩ = some v0 := h.cell 0
 have hf : w.frozen? ⟨g, 0, none⟩ = false := h.frozen 0
 simp only [execOp, hx, hy]
 go_simp
structure CoT (wL : World) (Ba Bd db : Nat) (v10 : Value) (W : World) : Prop where
 kl : Kp (OnB Ba) wL W
 ba : Blk W Ba 31 #[v10]
 bd : Blk W Bd 174 #[ptrV db]
structure CoS (wL : World) (Ba Bd db : Nat) (v10 : Value) (W0 W : World) : Prop extends CoT wL Ba Bd db v10 W where
 kp : Kp NoB W0 W
section
variable {wL : World} {Ba Bd db : Nat} {v10 : Value} {W0 W W' : World}
theorem CoT.sp (h : CoT wL Ba Bd db v10 W) : W.rangeAt Bd 0 [ptrV db] := Blk.range (xa := []) (xb := [ptrV db]) (xd := []) h.bd 0 rfl
theorem CoS.sp (h : CoS wL Ba Bd db v10 W0 W) : W.rangeAt Bd 0 [ptrV db] := h.toCoT.sp
theorem CoT.keep (h : CoT wL Ba Bd db v10 W) (k : Kp NoB W W') : CoT wL Ba Bd db v10 W' := ⟨h.kl.trans k (fun _ _ q => q.elim), h.ba.keep k (fun q => q), h.bd.keep k (fun q => q)⟩
theorem CoS.keep (h : CoS wL Ba Bd db v10 W0 W) (k : Kp NoB W W') : CoS wL Ba Bd db v10 W0 W' := ⟨h.toCoT.keep k, h.kp.trans k (fun _ _ q => q)⟩
theorem CoS.alloc (h : CoS wL Ba Bd db v10 W0 W) (o : Obj) : CoS wL Ba Bd db v10 W0 (W.alloc o) := h.keep ((Kp.refl _ _).alloc o)
theorem CoS.grown (h : CoS wL Ba Bd db v10 W0 W) {o : Obj} {w' : World} (hg : (W.alloc o).grownBy w' v10.ownBlock) {e : TypeId} {size n : Nat} {xs : List Value} {wx : World} (ho : wx.ownsRow wL.heap.size e size v10 n xs) (hBa : Ba < wL.heap.size := by omega) (hBd : Bd < wL.heap.size := by omega) : CoT wL Ba Bd db v10 w' := by
 have h2 := (h.alloc o).toCoT
 have hk : Kp (fun k => v10.ownBlock = some k) (W.alloc o) w' := (Kp.refl _ _).grown hg (fun k hk => .inr hk)
 have hge := own_ge ho
 exact ⟨h2.kl.own hg rfl ho, h2.ba.keep hk (fun q => by have := hge _ q; omega), h2.bd.keep hk (fun q => by have := hge _ q; omega)⟩
end
end
section
open Go.RowKit
theorem wp_append_srcN {P : Program} {w : World} {o : Oper} {a : Act} {K : Act → World → Prop} {Q : Exit → Act → World → Prop} (s x : Operand) (t : TypeId)
  (ho : o.op = .call { callee := .builtin .append, args := #[s, x], argTypes := #[t, t] })
  (base : Nat) (e : TypeId) (i : TypeInfo) (z : Value) (size bytes : Nat) (ht : P.underlying t = some (.slice e)) (hi : P.info? e = some i) (hz : i.zero = some z)
  (hsize : i.size = size) (hby : i.bytes = bytes) (hzs : z.cells.size = size) (hsz : 0 < size)
  (v : Value) (n : Nat) (xs : List Value) (hs : a.eval s = v) (hown : w.ownsRow base e size v n xs)
  (A : Option Addr) (m c : Nat) (news : List Value) (hx : a.eval x = .slice A m c) (hA : A = none → m = 0 ∧ c = 0) (hl : news.length = m * size)
  (hnews : 0 < m → ∃ g o, A = some ⟨g, o, none⟩ ∧ ∀ j u, news[j]? = some u → w.cell? ⟨g, o + j, none⟩ = some u) (h1 : ∀ u ∈ news, u.oneCell' = true)
  (h63 : n + m ≤ maxLen) (hbytes : (n + m) * bytes ≤ 140737488355328) (hbase : base ≤ w.heap.size)
  (h : ∀ v' w', w'.ownsRow base e size v' (n + m) (xs ++ news) → w.grownBy w' v.ownBlock → K (a.put o.dst v') w') : o.wp P a w K Q := by
 rcases A with _ | ad
 ·obtain ⟨rfl, rfl⟩ := hA rfl
  obtain rfl : news = [] := List.eq_nil_of_length_eq_zero (by omega)
  have hrun := run_append_owned_none (P := P) (w := w) base t o.type e i size ht hi v n xs hown
  unfold Oper.wp
  simp [execOp, ho, resolve, invoke, builtin, hs, hx, hrun, Result.andThen]
  exact h v w (by simpa using hown) ⟨rfl, rfl, rfl, Nat.le_refl _, fun _ _ _ => rfl⟩
 ·refine wp_append_ownB s x t ho base e i z size bytes ht hi hz hsize hby hzs hsz v n xs hs hown ad m c news hx hl ?_ h1 h63 hbytes hbase (fun v' w' q1 q2 _ => h v' w' q1 q2)
  intro j u hj
  have hm : 0 < m := by
   rcases Nat.eq_zero_or_pos m with q | q
   ·rw [q] at hl
    have := (List.getElem?_eq_some_iff.1 hj).1
    omega
   ·exact q
  obtain ⟨g, o', e', hc⟩ := hnews hm
  injection e' with e'
  subst e'
  rw [add_mk]
  exact hc j u hj
section
variable {P : Program} {ops : Array Oper} {Q : Exit → Act → World → Prop} {md : Region.Mode} {S : World → Prop} {fuel : Nat} {listed : Array Bool} {a : Act} {w : World} {i : Nat} {rs : List Nat}
variable {ds : Option Tmp} {ty : TypeId} {ps : String} {af : Array Edge}
theorem AllReadyH.appendN {s x : Operand} {t : TypeId} (ho : ops[i]? = some ⟨ds, .call { callee := .builtin .append, args := #[s, x], argTypes := #[t, t] }, ty, ps, af, none⟩) (hw : Region.wanted ⟨ds, .call { callee := .builtin .append, args := #[s, x], argTypes := #[t, t] }, ty, ps, af, none⟩ (yielded ops a.tmps) = true)
  (base : Nat) (e : TypeId) (j : TypeInfo) (z : Value) (size bytes : Nat) (ht : P.underlying t = some (.slice e)) (hi : P.info? e = some j) (hz : j.zero = some z)
  (hsize : j.size = size) (hby : j.bytes = bytes) (hzs : z.cells.size = size) (hsz : 0 < size)
  (v : Value) (n : Nat) (xs : List Value) (hsv : a.eval s = v) (hown : w.ownsRow base e size v n xs)
  (A : Option Addr) (m c : Nat) (news : List Value) (hx : a.eval x = .slice A m c) (hA : A = none → m = 0 ∧ c = 0) (hl : news.length = m * size)
  (hnews : 0 < m → ∃ g o, A = some ⟨g, o, none⟩ ∧ ∀ j u, news[j]? = some u → w.cell? ⟨g, o + j, none⟩ = some u) (h1 : ∀ u ∈ news, u.oneCell' = true)
  (h63 : n + m ≤ maxLen) (hbytes : (n + m) * bytes ≤ 140737488355328) (hbase : base ≤ w.heap.size)
  (hS : ∀ v' w', w'.ownsRow base e size v' (n + m) (xs ++ news) → w.grownBy w' v.ownBlock → S w')
  (hn : ∀ v' w', w'.ownsRow base e size v' (n + m) (xs ++ news) → w.grownBy w' v.ownBlock → wpAnyH P md ops Q S fuel (listed.setIfInBounds i true) (a.put ds v') w')
  (hs : AllReadyH P md ops Q S fuel listed a w rs) : AllReadyH P md ops Q S fuel listed a w (i :: rs) :=
 AllReadyH.cons ho (fun K hK => by
  rw [if_pos hw]
  exact wp_append_srcN s x t rfl base e j z size bytes ht hi hz hsize hby hzs hsz v n xs hsv hown A m c news hx hA hl hnews h1 h63 hbytes hbase
   (fun v' w' q1 q2 => hK.out _ _ (hS v' w' q1 q2) (fun _ => hn v' w' q1 q2))) hs
end
theorem Blk.sp {w : World} {g : Nat} {t : TypeId} {cs : List Value} (h : Blk w g t cs.toArray) : w.rangeAt g 0 cs := fun j u hj => by
 rw [Nat.zero_add, h.cell, List.getElem?_toArray]
 exact hj
theorem Blk.past {w w' : World} {g : Nat} {t : TypeId} {cs : Array Value} {row : Option Nat} (h : Blk w g t cs) (hg : w.grownBy w' row) (hr : ∀ k, row = some k → k ≠ g) : Blk w' g t cs :=
 h.keep ((Kp.refl (fun b => b ≠ g) w).grown hg (fun k hk => .inr (hr k hk))) (fun q => q rfl)
theorem Blk.rc {w : World} {g : Nat} {t : TypeId} {x : Cg} (h : Blk w g t #[.string x.nm, .int .i64 x.sec, .int .i64 x.n, .string (strOf x.s)]) : ∀ j u, (rcCells x)[j]? = some u → w.cell? ((⟨g, 0, none⟩ : Addr).add j) = some u := fun j u hj => by
 rw [add_mk, Nat.zero_add, h.cell]
 show (rcCells x).toArray[j]? = some u
 rw [List.getElem?_toArray]
 exact hj
theorem infoRch : (Tryz.prog.info? 131).map (fun i => (i.zero, i.size, i.bytes)) = some (some (.agg #[.string ⟨#[]⟩, .int .i64 0, .int .i64 0, .string ⟨#[]⟩]), 4, 48) := by kernel_rfl
theorem infoRch4 : (Tryz.prog.info? 131).map (·.size) = some 4 := by kernel_rfl
theorem rc_len (cs : List Cg) : ∀ x ∈ cs.map rcCells, x.length = 4 := by
 intro x hx
 obtain ⟨c, _, rfl⟩ := List.mem_map.1 hx
 rfl
theorem rc_one (cs : List Cg) : ∀ u ∈ (cs.map rcCells).flatten, u.oneCell' = true := by
 intro u hu
 obtain ⟨l, hl, h2⟩ := List.mem_flatten.1 hu
 obtain ⟨c, _, rfl⟩ := List.mem_map.1 hl
 unfold rcCells at h2
 simp at h2
 rcases h2 with rfl | rfl | rfl | rfl <;> rfl
end
section
open Go.RowKit
set_option maxRecDepth 100000 in
set_option maxHeartbeats 1600000 in
theorem change_raw (w : World) (fA : Option Addr) (fn fc : Nat) (b0 b1 : Bool) (A : Option Addr) (n c : Nat) (x4 x5 x6 x7 : Int) (cs : List Cg) (x : Cg) (hF : Rows w A n 4 (cs.map rcCells)) (hA : A = none → n = 0 ∧ c = 0) (hn : n < 1099511627776) :
  Calls Tryz.prog 74 #[.agg #[.bool b0, .bool b1, .slice fA fn fc, .slice A n c, .int .i64 x4, .int .i64 x5, .int .i64 x6, .int .i64 x7], .agg #[.string x.nm, .int .i64 x.sec, .int .i64 x.n, .string (strOf x.s)]] w fun e w' =>
   ∃ A' c', e = .returned (.agg #[.bool b0, .bool b1, .slice fA fn fc, .slice A' (n + 1) c', .int .i64 x4, .int .i64 x5, .int .i64 x6, .int .i64 x7]) ∧ Rows w' A' (n + 1) 4 ((cs ++ [x]).map rcCells) ∧ A' ≠ none ∧ Kp NoB w w' := by
 have HF := zh hF
 have HA := zh hA
 have HN := zh hn
 have HFL : Hid (cs.length = n) := zh (by have := hF.1; simpa using this)
 obtain ⟨j0, hj0, hj1⟩ := Option.map_eq_some_iff.1 infoRch
 simp only [Prod.mk.injEq] at hj1
 have HJ0 := zh hj0
 have HY0 := zh hj1.1
 have HY1 := zh hj1.2.1
 have HY2 := zh hj1.2.2
 clear hF hA hn hj0 hj1
 go_enter Tryz.func74, Tryz.ntmps74
 go_upto_region 1 with fail
 have hB0 : Blk (((w.alloc (.cells #[.bool b0, .bool b1, .slice fA fn fc, .slice A n c, .int .i64 x4, .int .i64 x5, .int .i64 x6, .int .i64 x7] 29)).alloc (.cells #[.string x.nm, .int .i64 x.sec, .int .i64 x.n, .string (strOf x.s)] 131)).alloc (.cells #[.bool false, .bool false, .slice none 0 0, .slice none 0 0, .int .i64 0, .int .i64 0, .int .i64 0, .int .i64 0] 29)) w.heap.size 29 #[.bool b0, .bool b1, .slice fA fn fc, .slice A n c, .int .i64 x4, .int .i64 x5, .int .i64 x6, .int .i64 x7] := ((Blk.new w _ _).alloc _).alloc _
 have hB1 : Blk (((w.alloc (.cells #[.bool b0, .bool b1, .slice fA fn fc, .slice A n c, .int .i64 x4, .int .i64 x5, .int .i64 x6, .int .i64 x7] 29)).alloc (.cells #[.string x.nm, .int .i64 x.sec, .int .i64 x.n, .string (strOf x.s)] 131)).alloc (.cells #[.bool false, .bool false, .slice none 0 0, .slice none 0 0, .int .i64 0, .int .i64 0, .int .i64 0, .int .i64 0] 29)) (w.heap.size + 1) 131 #[.string x.nm, .int .i64 x.sec, .int .i64 x.n, .string (strOf x.s)] := (Blk.top (by simp)).alloc _
 have hB2 : Blk (((w.alloc (.cells #[.bool b0, .bool b1, .slice fA fn fc, .slice A n c, .int .i64 x4, .int .i64 x5, .int .i64 x6, .int .i64 x7] 29)).alloc (.cells #[.string x.nm, .int .i64 x.sec, .int .i64 x.n, .string (strOf x.s)] 131)).alloc (.cells #[.bool false, .bool false, .slice none 0 0, .slice none 0 0, .int .i64 0, .int .i64 0, .int .i64 0, .int .i64 0] 29)) (w.heap.size + 1 + 1) 29 #[.bool false, .bool false, .slice none 0 0, .slice none 0 0, .int .i64 0, .int .i64 0, .int .i64 0, .int .i64 0] := Blk.top (by simp)
 have hKW : Kp NoB w (((w.alloc (.cells #[.bool b0, .bool b1, .slice fA fn fc, .slice A n c, .int .i64 x4, .int .i64 x5, .int .i64 x6, .int .i64 x7] 29)).alloc (.cells #[.string x.nm, .int .i64 x.sec, .int .i64 x.n, .string (strOf x.s)] 131)).alloc (.cells #[.bool false, .bool false, .slice none 0 0, .slice none 0 0, .int .i64 0, .int .i64 0, .int .i64 0, .int .i64 0] 29)) := (((Kp.refl NoB w).alloc _).alloc _).alloc _
 have hsz : (((w.alloc (.cells #[.bool b0, .bool b1, .slice fA fn fc, .slice A n c, .int .i64 x4, .int .i64 x5, .int .i64 x6, .int .i64 x7] 29)).alloc (.cells #[.string x.nm, .int .i64 x.sec, .int .i64 x.n, .string (strOf x.s)] 131)).alloc (.cells #[.bool false, .bool false, .slice none 0 0, .slice none 0 0, .int .i64 0, .int .i64 0, .int .i64 0, .int .i64 0] 29)).heap.size = w.heap.size + 1 + 1 + 1 := by simp
 generalize ((w.alloc (.cells #[.bool b0, .bool b1, .slice fA fn fc, .slice A n c, .int .i64 x4, .int .i64 x5, .int .i64 x6, .int .i64 x7] 29)).alloc (.cells #[.string x.nm, .int .i64 x.sec, .int .i64 x.n, .string (strOf x.s)] 131)).alloc (.cells #[.bool false, .bool false, .slice none 0 0, .slice none 0 0, .int .i64 0, .int .i64 0, .int .i64 0, .int .i64 0] 29) = W at hB0 hB1 hB2 hKW hsz ⊢
 generalize hs0 : w.heap.size = s0 at hB0 hB1 hB2 hsz ⊢
 have HS0 := zh hs0
 clear hs0
 have HB0 := zh hB0
 have HB1 := zh hB1
 have HB2 := zh hB2
 have HKW := zh hKW
 have HSZ := zh hsz
 clear hB0 hB1 hB2 hKW hsz
 have HSP : Hid (∀ V, Kp NoB W V → V.rangeAt (s0 + 1) 0 [.string x.nm, .int .i64 x.sec, .int .i64 x.n, .string (strOf x.s)]) := zh (fun V k => (HB1.out.keep k (fun q => q)).sp)
 have HSN : Hid (∀ V, Kp NoB W V → 0 < n → ∃ g o, A = some ⟨g, o, none⟩ ∧ ∀ j u, (cs.map rcCells).flatten[j]? = some u → V.cell? ⟨g, o + j, none⟩ = some u) := zh (fun V k hn => ((HF.out.keep HKW.out).keep k).src hn (by omega))
 have HFLAT : Hid ((cs.map rcCells).flatten.length = n * 4) := zh (by rw [flat_len 4 _ (rc_len cs), List.length_map, HFL.out])
 apply wp_into4 (G := fun V g h u v => ∃ V0, V = V0.setCell ⟨s0, 3, none⟩ v ∧ V0.ownsRow W.heap.size 131 4 v (n + 1) ((cs.map rcCells).flatten ++ rcCells x) ∧ Kp NoB W V0)
 ·refine wp_region_held_drew (S := fun W' => W'.rangeAt (s0 + 1) 0 [.string x.nm, .int .i64 x.sec, .int .i64 x.n, .string (strOf x.s)]) (by kernel_rfl) (HSP.out _ (Kp.refl NoB W).drew) (fun hHeld => ?_)
  have hiw : (Tryz.prog.info? 131).map (·.size) = some ([.string x.nm, .int .i64 x.sec, .int .i64 x.n, .string (strOf x.s)] : List Value).length := infoRch4
  have huw := Tryz.underlying131
  have k0 : Kp NoB W W.drew := (Kp.refl NoB W).drew
  generalize W.drew = V0 at k0 hHeld ⊢
  refine tkJ (i := 1) (v := (.pointer (some ⟨s0, 3, none⟩))) rfl (HSP.out _ k0) ?_
  simp only [Act.put, sA, sB, sC]
  refine tkS (i := 4) (v := .agg ([.string x.nm, .int .i64 x.sec, .int .i64 x.n, .string (strOf x.s)]).toArray) rfl (yieldsIf_load_mid (by rfl) _ _ rfl _ _ rfl [.string x.nm, .int .i64 x.sec, .int .i64 x.n, .string (strOf x.s)] _ (fun _ q => q) huw rfl hiw) (HSP.out _ k0) ?_
  simp only [Act.put, sA, sB, sC]
  refine tkR [0, 2, 5] ?_
  refine AllReadyH.valR (fun W' => W' = (V0.alloc (.cells #[] 131))) rfl (by rfl) (.slice (some ⟨V0.heap.size, 0, none⟩) 0 0) _ (by go_simp) (fun W' e => by rw [e]; exact HSP.out _ (k0.alloc _)) rfl ?_ ?_
  ·rintro _ rfl
   simp only [Act.put, sA, sB, sC]
   have k1 := k0.alloc (.cells #[] 131)
   have ow1 : (V0.alloc (.cells #[] 131)).ownsRow W.heap.size 131 4 (.slice (some ⟨V0.heap.size, 0, none⟩) 0 0) 0 [] := ⟨rfl, .inr ⟨V0.heap.size, 0, #[], rfl, k0.size, heap_alloc_new _ _, Nat.le_refl _, by simp, rfl, rfl⟩⟩
   refine tkR [2, 5] ?_
   refine AllReadyH.valR (fun W' => (V0.alloc (.cells #[] 131)) = W') rfl (by rfl) (.slice A n c) _ (by have := (HB0.out.keep k1 (fun q => q)).cell 3; go_simp) (fun W' e => by rw [← e]; exact HSP.out _ k1) rfl ?_ ?_
   ·rintro _ rfl
    simp only [Act.put, sA, sB, sC]
    refine tkR [3, 5] ?_
    refine AllReadyH.appendN rfl (by rfl) W.heap.size 131 j0 _ 4 48 Tryz.underlying27 HJ0.out HY0.out HY1.out HY2.out rfl (by omega) (.slice (some ⟨V0.heap.size, 0, none⟩) 0 0) 0 [] rfl ow1 A n c (cs.map rcCells).flatten rfl HA.out HFLAT.out (HSN.out _ k1) (rc_one cs) (by have := HN.out; unfold maxLen; omega) (by have := HN.out; omega) k1.size (fun v' w' q1 q2 => HSP.out _ (k1.own q2 rfl ow1)) ?_ ?_
    ·intro v3 w3 ow3 gr3
     simp only [Act.put, sA, sB, sC]
     have k3 := k1.own gr3 rfl ow1
     refine tkR [5] ?_
     refine AllReadyH.valR (fun W' => W' = (w3.alloc (.cells #[.string x.nm, .int .i64 x.sec, .int .i64 x.n, .string (strOf x.s)] 131))) rfl (by rfl) (.slice (some ⟨w3.heap.size, 0, none⟩) 1 1) _ (by go_simp) (fun W' e => by rw [e]; exact HSP.out _ (k3.alloc _)) rfl ?_ ?_
     ·rintro _ rfl
      simp only [Act.put, sA, sB, sC]
      have k4 := k3.alloc (.cells #[.string x.nm, .int .i64 x.sec, .int .i64 x.n, .string (strOf x.s)] 131)
      have b4 := Blk.new w3 131 #[.string x.nm, .int .i64 x.sec, .int .i64 x.n, .string (strOf x.s)]
      have own8_4 := own_keepB ow3 ((Kp.refl NoB w3).alloc (.cells #[.string x.nm, .int .i64 x.sec, .int .i64 x.n, .string (strOf x.s)] 131)) (fun _ _ q => q)
      refine tkR [6] ?_
      refine AllReadyH.appendB rfl (by rfl) W.heap.size 131 j0 _ 4 48 Tryz.underlying27 HJ0.out HY0.out HY1.out HY2.out rfl (by omega) v3 (0 + n) ([] ++ (cs.map rcCells).flatten) rfl own8_4 ⟨w3.heap.size, 0, none⟩ 1 1 (rcCells x) rfl rfl b4.rc (fun u hu => rc_one [x] u (by simpa using hu)) (by have := HN.out; unfold maxLen; omega) (by have := HN.out; omega) k4.size (fun v' w' q1 q2 _ => HSP.out _ (k4.own q2 rfl own8_4)) ?_ ?_
      ·intro v5 w5 ow5 gr5 _
       simp only [Act.put, sA, sB, sC]
       have k5 := k4.own gr5 rfl own8_4
       rw [Nat.zero_add, List.nil_append] at ow5
       obtain ⟨A5, c5, rfl⟩ := own_slice ow5
       refine tkJ (i := 7) (v := (.pointer (some ⟨s0, 3, none⟩))) rfl (HSP.out _ k5) ?_
       simp only [Act.put, sA, sB, sC]
       refine tkR [8] ?_
       refine AllReadyH.skipR rfl (by rfl) (w5.setCell ⟨s0, 3, none⟩ (.slice A5 (n + 1) c5)) (by have h1 := (HB0.out.keep k5 (fun q => q)).cell 3; have h2 := (HB0.out.keep k5 (fun q => q)).frozen 3; go_simp) (((HB1.out.keep k5 (fun q => q)).keep ((Kp.refl (OnB s0) _).setAt rfl 3 _) (fun q => by have : s0 + 1 = s0 := q; omega)).sp) ?_ ?_
       ·skip
        refine wpAnyH_done (by kernel_rfl) ?_ _
        generalize V0.heap.size = gg
        generalize w3.heap.size = hh
        generalize Value.slice A5 (n + 1) c5 = vv at ow5 ⊢
        exact into4_of gg hh v3 vv ⟨_, rfl, ow5, k5⟩ rfl
       exact AllReadyH.nil
      exact AllReadyH.nil
     exact AllReadyH.nil
    refine AllReadyH.valR (fun W' => W' = ((V0.alloc (.cells #[] 131)).alloc (.cells #[.string x.nm, .int .i64 x.sec, .int .i64 x.n, .string (strOf x.s)] 131))) rfl (by rfl) (.slice (some ⟨(V0.alloc (.cells #[] 131)).heap.size, 0, none⟩) 1 1) _ (by go_simp) (fun W' e => by rw [e]; exact HSP.out _ (k1.alloc _)) rfl ?_ ?_
    ·rintro _ rfl
     simp only [Act.put, sA, sB, sC]
     have k7 := k1.alloc (.cells #[.string x.nm, .int .i64 x.sec, .int .i64 x.n, .string (strOf x.s)] 131)
     have b7 := Blk.new (V0.alloc (.cells #[] 131)) 131 #[.string x.nm, .int .i64 x.sec, .int .i64 x.n, .string (strOf x.s)]
     have own5_7 := own_keepB ow1 ((Kp.refl NoB (V0.alloc (.cells #[] 131))).alloc (.cells #[.string x.nm, .int .i64 x.sec, .int .i64 x.n, .string (strOf x.s)] 131)) (fun _ _ q => q)
     have lt7 : V0.heap.size < (V0.alloc (.cells #[] 131)).heap.size := by simp
     refine tkR [3] ?_
     refine AllReadyH.appendN rfl (by rfl) W.heap.size 131 j0 _ 4 48 Tryz.underlying27 HJ0.out HY0.out HY1.out HY2.out rfl (by omega) (.slice (some ⟨V0.heap.size, 0, none⟩) 0 0) 0 [] rfl own5_7 A n c (cs.map rcCells).flatten rfl HA.out HFLAT.out (HSN.out _ k7) (rc_one cs) (by have := HN.out; unfold maxLen; omega) (by have := HN.out; omega) k7.size (fun v' w' q1 q2 => HSP.out _ (k7.own q2 rfl own5_7)) ?_ ?_
     ·intro v8 w8 ow8 gr8
      simp only [Act.put, sA, sB, sC]
      have k8 := k7.own gr8 rfl own5_7
      have b8 := b7.past gr8 (fun k e => by simp only [Value.ownBlock] at e; injection e with e; first | omega | (simp at *; omega))
      refine tkR [6] ?_
      refine AllReadyH.appendB rfl (by rfl) W.heap.size 131 j0 _ 4 48 Tryz.underlying27 HJ0.out HY0.out HY1.out HY2.out rfl (by omega) v8 (0 + n) ([] ++ (cs.map rcCells).flatten) rfl ow8 ⟨(V0.alloc (.cells #[] 131)).heap.size, 0, none⟩ 1 1 (rcCells x) rfl rfl b8.rc (fun u hu => rc_one [x] u (by simpa using hu)) (by have := HN.out; unfold maxLen; omega) (by have := HN.out; omega) k8.size (fun v' w' q1 q2 _ => HSP.out _ (k8.own q2 rfl ow8)) ?_ ?_
      ·intro v9 w9 ow9 gr9 _
       simp only [Act.put, sA, sB, sC]
       have k9 := k8.own gr9 rfl ow8
       rw [Nat.zero_add, List.nil_append] at ow9
       obtain ⟨A9, c9, rfl⟩ := own_slice ow9
       refine tkJ (i := 7) (v := (.pointer (some ⟨s0, 3, none⟩))) rfl (HSP.out _ k9) ?_
       simp only [Act.put, sA, sB, sC]
       refine tkR [8] ?_
       refine AllReadyH.skipR rfl (by rfl) (w9.setCell ⟨s0, 3, none⟩ (.slice A9 (n + 1) c9)) (by have h1 := (HB0.out.keep k9 (fun q => q)).cell 3; have h2 := (HB0.out.keep k9 (fun q => q)).frozen 3; go_simp) (((HB1.out.keep k9 (fun q => q)).keep ((Kp.refl (OnB s0) _).setAt rfl 3 _) (fun q => by have : s0 + 1 = s0 := q; omega)).sp) ?_ ?_
       ·skip
        refine wpAnyH_done (by kernel_rfl) ?_ _
        generalize V0.heap.size = gg
        generalize (V0.alloc (.cells #[] 131)).heap.size = hh
        generalize Value.slice A9 (n + 1) c9 = vv at ow9 ⊢
        exact into4_of gg hh v8 vv ⟨_, rfl, ow9, k9⟩ rfl
       exact AllReadyH.nil
      exact AllReadyH.nil
     exact AllReadyH.nil
    exact AllReadyH.nil
   refine AllReadyH.valR (fun W' => W' = ((V0.alloc (.cells #[] 131)).alloc (.cells #[.string x.nm, .int .i64 x.sec, .int .i64 x.n, .string (strOf x.s)] 131))) rfl (by rfl) (.slice (some ⟨(V0.alloc (.cells #[] 131)).heap.size, 0, none⟩) 1 1) _ (by go_simp) (fun W' e => by rw [e]; exact HSP.out _ (k1.alloc _)) rfl ?_ ?_
   ·rintro _ rfl
    simp only [Act.put, sA, sB, sC]
    have k11 := k1.alloc (.cells #[.string x.nm, .int .i64 x.sec, .int .i64 x.n, .string (strOf x.s)] 131)
    have b11 := Blk.new (V0.alloc (.cells #[] 131)) 131 #[.string x.nm, .int .i64 x.sec, .int .i64 x.n, .string (strOf x.s)]
    have own5_11 := own_keepB ow1 ((Kp.refl NoB (V0.alloc (.cells #[] 131))).alloc (.cells #[.string x.nm, .int .i64 x.sec, .int .i64 x.n, .string (strOf x.s)] 131)) (fun _ _ q => q)
    have lt11 : V0.heap.size < (V0.alloc (.cells #[] 131)).heap.size := by simp
    refine tkR [2] ?_
    refine AllReadyH.valR (fun W' => ((V0.alloc (.cells #[] 131)).alloc (.cells #[.string x.nm, .int .i64 x.sec, .int .i64 x.n, .string (strOf x.s)] 131)) = W') rfl (by rfl) (.slice A n c) _ (by have := (HB0.out.keep k11 (fun q => q)).cell 3; go_simp) (fun W' e => by rw [← e]; exact HSP.out _ k11) rfl ?_ ?_
    ·rintro _ rfl
     simp only [Act.put, sA, sB, sC]
     refine tkR [3] ?_
     refine AllReadyH.appendN rfl (by rfl) W.heap.size 131 j0 _ 4 48 Tryz.underlying27 HJ0.out HY0.out HY1.out HY2.out rfl (by omega) (.slice (some ⟨V0.heap.size, 0, none⟩) 0 0) 0 [] rfl own5_11 A n c (cs.map rcCells).flatten rfl HA.out HFLAT.out (HSN.out _ k11) (rc_one cs) (by have := HN.out; unfold maxLen; omega) (by have := HN.out; omega) k11.size (fun v' w' q1 q2 => HSP.out _ (k11.own q2 rfl own5_11)) ?_ ?_
     ·intro v13 w13 ow13 gr13
      simp only [Act.put, sA, sB, sC]
      have k13 := k11.own gr13 rfl own5_11
      have b13 := b11.past gr13 (fun k e => by simp only [Value.ownBlock] at e; injection e with e; first | omega | (simp at *; omega))
      refine tkR [6] ?_
      refine AllReadyH.appendB rfl (by rfl) W.heap.size 131 j0 _ 4 48 Tryz.underlying27 HJ0.out HY0.out HY1.out HY2.out rfl (by omega) v13 (0 + n) ([] ++ (cs.map rcCells).flatten) rfl ow13 ⟨(V0.alloc (.cells #[] 131)).heap.size, 0, none⟩ 1 1 (rcCells x) rfl rfl b13.rc (fun u hu => rc_one [x] u (by simpa using hu)) (by have := HN.out; unfold maxLen; omega) (by have := HN.out; omega) k13.size (fun v' w' q1 q2 _ => HSP.out _ (k13.own q2 rfl ow13)) ?_ ?_
      ·intro v14 w14 ow14 gr14 _
       simp only [Act.put, sA, sB, sC]
       have k14 := k13.own gr14 rfl ow13
       rw [Nat.zero_add, List.nil_append] at ow14
       obtain ⟨A14, c14, rfl⟩ := own_slice ow14
       refine tkJ (i := 7) (v := (.pointer (some ⟨s0, 3, none⟩))) rfl (HSP.out _ k14) ?_
       simp only [Act.put, sA, sB, sC]
       refine tkR [8] ?_
       refine AllReadyH.skipR rfl (by rfl) (w14.setCell ⟨s0, 3, none⟩ (.slice A14 (n + 1) c14)) (by have h1 := (HB0.out.keep k14 (fun q => q)).cell 3; have h2 := (HB0.out.keep k14 (fun q => q)).frozen 3; go_simp) (((HB1.out.keep k14 (fun q => q)).keep ((Kp.refl (OnB s0) _).setAt rfl 3 _) (fun q => by have : s0 + 1 = s0 := q; omega)).sp) ?_ ?_
       ·skip
        refine wpAnyH_done (by kernel_rfl) ?_ _
        generalize V0.heap.size = gg
        generalize (V0.alloc (.cells #[] 131)).heap.size = hh
        generalize Value.slice A14 (n + 1) c14 = vv at ow14 ⊢
        exact into4_of gg hh v13 vv ⟨_, rfl, ow14, k14⟩ rfl
       exact AllReadyH.nil
      exact AllReadyH.nil
     exact AllReadyH.nil
    exact AllReadyH.nil
   exact AllReadyH.nil
  refine AllReadyH.valR (fun W' => V0 = W') rfl (by rfl) (.slice A n c) _ (by have := (HB0.out.keep k0 (fun q => q)).cell 3; go_simp) (fun W' e => by rw [← e]; exact HSP.out _ k0) rfl ?_ ?_
  ·rintro _ rfl
   simp only [Act.put, sA, sB, sC]
   refine tkR [0, 5] ?_
   refine AllReadyH.valR (fun W' => W' = (V0.alloc (.cells #[] 131))) rfl (by rfl) (.slice (some ⟨V0.heap.size, 0, none⟩) 0 0) _ (by go_simp) (fun W' e => by rw [e]; exact HSP.out _ (k0.alloc _)) rfl ?_ ?_
   ·rintro _ rfl
    simp only [Act.put, sA, sB, sC]
    have k17 := k0.alloc (.cells #[] 131)
    have ow17 : (V0.alloc (.cells #[] 131)).ownsRow W.heap.size 131 4 (.slice (some ⟨V0.heap.size, 0, none⟩) 0 0) 0 [] := ⟨rfl, .inr ⟨V0.heap.size, 0, #[], rfl, k0.size, heap_alloc_new _ _, Nat.le_refl _, by simp, rfl, rfl⟩⟩
    refine tkR [3, 5] ?_
    refine AllReadyH.appendN rfl (by rfl) W.heap.size 131 j0 _ 4 48 Tryz.underlying27 HJ0.out HY0.out HY1.out HY2.out rfl (by omega) (.slice (some ⟨V0.heap.size, 0, none⟩) 0 0) 0 [] rfl ow17 A n c (cs.map rcCells).flatten rfl HA.out HFLAT.out (HSN.out _ k17) (rc_one cs) (by have := HN.out; unfold maxLen; omega) (by have := HN.out; omega) k17.size (fun v' w' q1 q2 => HSP.out _ (k17.own q2 rfl ow17)) ?_ ?_
    ·intro v18 w18 ow18 gr18
     simp only [Act.put, sA, sB, sC]
     have k18 := k17.own gr18 rfl ow17
     refine tkR [5] ?_
     refine AllReadyH.valR (fun W' => W' = (w18.alloc (.cells #[.string x.nm, .int .i64 x.sec, .int .i64 x.n, .string (strOf x.s)] 131))) rfl (by rfl) (.slice (some ⟨w18.heap.size, 0, none⟩) 1 1) _ (by go_simp) (fun W' e => by rw [e]; exact HSP.out _ (k18.alloc _)) rfl ?_ ?_
     ·rintro _ rfl
      simp only [Act.put, sA, sB, sC]
      have k19 := k18.alloc (.cells #[.string x.nm, .int .i64 x.sec, .int .i64 x.n, .string (strOf x.s)] 131)
      have b19 := Blk.new w18 131 #[.string x.nm, .int .i64 x.sec, .int .i64 x.n, .string (strOf x.s)]
      have own8_19 := own_keepB ow18 ((Kp.refl NoB w18).alloc (.cells #[.string x.nm, .int .i64 x.sec, .int .i64 x.n, .string (strOf x.s)] 131)) (fun _ _ q => q)
      refine tkR [6] ?_
      refine AllReadyH.appendB rfl (by rfl) W.heap.size 131 j0 _ 4 48 Tryz.underlying27 HJ0.out HY0.out HY1.out HY2.out rfl (by omega) v18 (0 + n) ([] ++ (cs.map rcCells).flatten) rfl own8_19 ⟨w18.heap.size, 0, none⟩ 1 1 (rcCells x) rfl rfl b19.rc (fun u hu => rc_one [x] u (by simpa using hu)) (by have := HN.out; unfold maxLen; omega) (by have := HN.out; omega) k19.size (fun v' w' q1 q2 _ => HSP.out _ (k19.own q2 rfl own8_19)) ?_ ?_
      ·intro v20 w20 ow20 gr20 _
       simp only [Act.put, sA, sB, sC]
       have k20 := k19.own gr20 rfl own8_19
       rw [Nat.zero_add, List.nil_append] at ow20
       obtain ⟨A20, c20, rfl⟩ := own_slice ow20
       refine tkJ (i := 7) (v := (.pointer (some ⟨s0, 3, none⟩))) rfl (HSP.out _ k20) ?_
       simp only [Act.put, sA, sB, sC]
       refine tkR [8] ?_
       refine AllReadyH.skipR rfl (by rfl) (w20.setCell ⟨s0, 3, none⟩ (.slice A20 (n + 1) c20)) (by have h1 := (HB0.out.keep k20 (fun q => q)).cell 3; have h2 := (HB0.out.keep k20 (fun q => q)).frozen 3; go_simp) (((HB1.out.keep k20 (fun q => q)).keep ((Kp.refl (OnB s0) _).setAt rfl 3 _) (fun q => by have : s0 + 1 = s0 := q; omega)).sp) ?_ ?_
       ·skip
        refine wpAnyH_done (by kernel_rfl) ?_ _
        generalize V0.heap.size = gg
        generalize w18.heap.size = hh
        generalize Value.slice A20 (n + 1) c20 = vv at ow20 ⊢
        exact into4_of gg hh v18 vv ⟨_, rfl, ow20, k20⟩ rfl
       exact AllReadyH.nil
      exact AllReadyH.nil
     exact AllReadyH.nil
    refine AllReadyH.valR (fun W' => W' = ((V0.alloc (.cells #[] 131)).alloc (.cells #[.string x.nm, .int .i64 x.sec, .int .i64 x.n, .string (strOf x.s)] 131))) rfl (by rfl) (.slice (some ⟨(V0.alloc (.cells #[] 131)).heap.size, 0, none⟩) 1 1) _ (by go_simp) (fun W' e => by rw [e]; exact HSP.out _ (k17.alloc _)) rfl ?_ ?_
    ·rintro _ rfl
     simp only [Act.put, sA, sB, sC]
     have k22 := k17.alloc (.cells #[.string x.nm, .int .i64 x.sec, .int .i64 x.n, .string (strOf x.s)] 131)
     have b22 := Blk.new (V0.alloc (.cells #[] 131)) 131 #[.string x.nm, .int .i64 x.sec, .int .i64 x.n, .string (strOf x.s)]
     have own5_22 := own_keepB ow17 ((Kp.refl NoB (V0.alloc (.cells #[] 131))).alloc (.cells #[.string x.nm, .int .i64 x.sec, .int .i64 x.n, .string (strOf x.s)] 131)) (fun _ _ q => q)
     have lt22 : V0.heap.size < (V0.alloc (.cells #[] 131)).heap.size := by simp
     refine tkR [3] ?_
     refine AllReadyH.appendN rfl (by rfl) W.heap.size 131 j0 _ 4 48 Tryz.underlying27 HJ0.out HY0.out HY1.out HY2.out rfl (by omega) (.slice (some ⟨V0.heap.size, 0, none⟩) 0 0) 0 [] rfl own5_22 A n c (cs.map rcCells).flatten rfl HA.out HFLAT.out (HSN.out _ k22) (rc_one cs) (by have := HN.out; unfold maxLen; omega) (by have := HN.out; omega) k22.size (fun v' w' q1 q2 => HSP.out _ (k22.own q2 rfl own5_22)) ?_ ?_
     ·intro v23 w23 ow23 gr23
      simp only [Act.put, sA, sB, sC]
      have k23 := k22.own gr23 rfl own5_22
      have b23 := b22.past gr23 (fun k e => by simp only [Value.ownBlock] at e; injection e with e; first | omega | (simp at *; omega))
      refine tkR [6] ?_
      refine AllReadyH.appendB rfl (by rfl) W.heap.size 131 j0 _ 4 48 Tryz.underlying27 HJ0.out HY0.out HY1.out HY2.out rfl (by omega) v23 (0 + n) ([] ++ (cs.map rcCells).flatten) rfl ow23 ⟨(V0.alloc (.cells #[] 131)).heap.size, 0, none⟩ 1 1 (rcCells x) rfl rfl b23.rc (fun u hu => rc_one [x] u (by simpa using hu)) (by have := HN.out; unfold maxLen; omega) (by have := HN.out; omega) k23.size (fun v' w' q1 q2 _ => HSP.out _ (k23.own q2 rfl ow23)) ?_ ?_
      ·intro v24 w24 ow24 gr24 _
       simp only [Act.put, sA, sB, sC]
       have k24 := k23.own gr24 rfl ow23
       rw [Nat.zero_add, List.nil_append] at ow24
       obtain ⟨A24, c24, rfl⟩ := own_slice ow24
       refine tkJ (i := 7) (v := (.pointer (some ⟨s0, 3, none⟩))) rfl (HSP.out _ k24) ?_
       simp only [Act.put, sA, sB, sC]
       refine tkR [8] ?_
       refine AllReadyH.skipR rfl (by rfl) (w24.setCell ⟨s0, 3, none⟩ (.slice A24 (n + 1) c24)) (by have h1 := (HB0.out.keep k24 (fun q => q)).cell 3; have h2 := (HB0.out.keep k24 (fun q => q)).frozen 3; go_simp) (((HB1.out.keep k24 (fun q => q)).keep ((Kp.refl (OnB s0) _).setAt rfl 3 _) (fun q => by have : s0 + 1 = s0 := q; omega)).sp) ?_ ?_
       ·skip
        refine wpAnyH_done (by kernel_rfl) ?_ _
        generalize V0.heap.size = gg
        generalize (V0.alloc (.cells #[] 131)).heap.size = hh
        generalize Value.slice A24 (n + 1) c24 = vv at ow24 ⊢
        exact into4_of gg hh v23 vv ⟨_, rfl, ow24, k24⟩ rfl
       exact AllReadyH.nil
      exact AllReadyH.nil
     exact AllReadyH.nil
    exact AllReadyH.nil
   refine AllReadyH.valR (fun W' => W' = (V0.alloc (.cells #[.string x.nm, .int .i64 x.sec, .int .i64 x.n, .string (strOf x.s)] 131))) rfl (by rfl) (.slice (some ⟨V0.heap.size, 0, none⟩) 1 1) _ (by go_simp) (fun W' e => by rw [e]; exact HSP.out _ (k0.alloc _)) rfl ?_ ?_
   ·rintro _ rfl
    simp only [Act.put, sA, sB, sC]
    have k26 := k0.alloc (.cells #[.string x.nm, .int .i64 x.sec, .int .i64 x.n, .string (strOf x.s)] 131)
    have b26 := Blk.new V0 131 #[.string x.nm, .int .i64 x.sec, .int .i64 x.n, .string (strOf x.s)]
    refine tkR [0] ?_
    refine AllReadyH.valR (fun W' => W' = ((V0.alloc (.cells #[.string x.nm, .int .i64 x.sec, .int .i64 x.n, .string (strOf x.s)] 131)).alloc (.cells #[] 131))) rfl (by rfl) (.slice (some ⟨(V0.alloc (.cells #[.string x.nm, .int .i64 x.sec, .int .i64 x.n, .string (strOf x.s)] 131)).heap.size, 0, none⟩) 0 0) _ (by go_simp) (fun W' e => by rw [e]; exact HSP.out _ (k26.alloc _)) rfl ?_ ?_
    ·rintro _ rfl
     simp only [Act.put, sA, sB, sC]
     have k27 := k26.alloc (.cells #[] 131)
     have ow27 : ((V0.alloc (.cells #[.string x.nm, .int .i64 x.sec, .int .i64 x.n, .string (strOf x.s)] 131)).alloc (.cells #[] 131)).ownsRow W.heap.size 131 4 (.slice (some ⟨(V0.alloc (.cells #[.string x.nm, .int .i64 x.sec, .int .i64 x.n, .string (strOf x.s)] 131)).heap.size, 0, none⟩) 0 0) 0 [] := ⟨rfl, .inr ⟨(V0.alloc (.cells #[.string x.nm, .int .i64 x.sec, .int .i64 x.n, .string (strOf x.s)] 131)).heap.size, 0, #[], rfl, k26.size, heap_alloc_new _ _, Nat.le_refl _, by simp, rfl, rfl⟩⟩
     have b27 := b26.alloc (.cells #[] 131)
     have ne27 := Nat.ne_of_lt b26.lt
     refine tkR [3] ?_
     refine AllReadyH.appendN rfl (by rfl) W.heap.size 131 j0 _ 4 48 Tryz.underlying27 HJ0.out HY0.out HY1.out HY2.out rfl (by omega) (.slice (some ⟨(V0.alloc (.cells #[.string x.nm, .int .i64 x.sec, .int .i64 x.n, .string (strOf x.s)] 131)).heap.size, 0, none⟩) 0 0) 0 [] rfl ow27 A n c (cs.map rcCells).flatten rfl HA.out HFLAT.out (HSN.out _ k27) (rc_one cs) (by have := HN.out; unfold maxLen; omega) (by have := HN.out; omega) k27.size (fun v' w' q1 q2 => HSP.out _ (k27.own q2 rfl ow27)) ?_ ?_
     ·intro v28 w28 ow28 gr28
      simp only [Act.put, sA, sB, sC]
      have k28 := k27.own gr28 rfl ow27
      have b28 := b27.past gr28 (fun k e => by simp only [Value.ownBlock] at e; injection e with e; first | omega | (simp at *; omega))
      refine tkR [6] ?_
      refine AllReadyH.appendB rfl (by rfl) W.heap.size 131 j0 _ 4 48 Tryz.underlying27 HJ0.out HY0.out HY1.out HY2.out rfl (by omega) v28 (0 + n) ([] ++ (cs.map rcCells).flatten) rfl ow28 ⟨V0.heap.size, 0, none⟩ 1 1 (rcCells x) rfl rfl b28.rc (fun u hu => rc_one [x] u (by simpa using hu)) (by have := HN.out; unfold maxLen; omega) (by have := HN.out; omega) k28.size (fun v' w' q1 q2 _ => HSP.out _ (k28.own q2 rfl ow28)) ?_ ?_
      ·intro v29 w29 ow29 gr29 _
       simp only [Act.put, sA, sB, sC]
       have k29 := k28.own gr29 rfl ow28
       rw [Nat.zero_add, List.nil_append] at ow29
       obtain ⟨A29, c29, rfl⟩ := own_slice ow29
       refine tkJ (i := 7) (v := (.pointer (some ⟨s0, 3, none⟩))) rfl (HSP.out _ k29) ?_
       simp only [Act.put, sA, sB, sC]
       refine tkR [8] ?_
       refine AllReadyH.skipR rfl (by rfl) (w29.setCell ⟨s0, 3, none⟩ (.slice A29 (n + 1) c29)) (by have h1 := (HB0.out.keep k29 (fun q => q)).cell 3; have h2 := (HB0.out.keep k29 (fun q => q)).frozen 3; go_simp) (((HB1.out.keep k29 (fun q => q)).keep ((Kp.refl (OnB s0) _).setAt rfl 3 _) (fun q => by have : s0 + 1 = s0 := q; omega)).sp) ?_ ?_
       ·skip
        refine wpAnyH_done (by kernel_rfl) ?_ _
        generalize (V0.alloc (.cells #[.string x.nm, .int .i64 x.sec, .int .i64 x.n, .string (strOf x.s)] 131)).heap.size = gg
        generalize V0.heap.size = hh
        generalize Value.slice A29 (n + 1) c29 = vv at ow29 ⊢
        exact into4_of gg hh v28 vv ⟨_, rfl, ow29, k29⟩ rfl
       exact AllReadyH.nil
      exact AllReadyH.nil
     exact AllReadyH.nil
    exact AllReadyH.nil
   exact AllReadyH.nil
  refine AllReadyH.valR (fun W' => W' = (V0.alloc (.cells #[.string x.nm, .int .i64 x.sec, .int .i64 x.n, .string (strOf x.s)] 131))) rfl (by rfl) (.slice (some ⟨V0.heap.size, 0, none⟩) 1 1) _ (by go_simp) (fun W' e => by rw [e]; exact HSP.out _ (k0.alloc _)) rfl ?_ ?_
  ·rintro _ rfl
   simp only [Act.put, sA, sB, sC]
   have k31 := k0.alloc (.cells #[.string x.nm, .int .i64 x.sec, .int .i64 x.n, .string (strOf x.s)] 131)
   have b31 := Blk.new V0 131 #[.string x.nm, .int .i64 x.sec, .int .i64 x.n, .string (strOf x.s)]
   refine tkR [0, 2] ?_
   refine AllReadyH.valR (fun W' => W' = ((V0.alloc (.cells #[.string x.nm, .int .i64 x.sec, .int .i64 x.n, .string (strOf x.s)] 131)).alloc (.cells #[] 131))) rfl (by rfl) (.slice (some ⟨(V0.alloc (.cells #[.string x.nm, .int .i64 x.sec, .int .i64 x.n, .string (strOf x.s)] 131)).heap.size, 0, none⟩) 0 0) _ (by go_simp) (fun W' e => by rw [e]; exact HSP.out _ (k31.alloc _)) rfl ?_ ?_
   ·rintro _ rfl
    simp only [Act.put, sA, sB, sC]
    have k32 := k31.alloc (.cells #[] 131)
    have ow32 : ((V0.alloc (.cells #[.string x.nm, .int .i64 x.sec, .int .i64 x.n, .string (strOf x.s)] 131)).alloc (.cells #[] 131)).ownsRow W.heap.size 131 4 (.slice (some ⟨(V0.alloc (.cells #[.string x.nm, .int .i64 x.sec, .int .i64 x.n, .string (strOf x.s)] 131)).heap.size, 0, none⟩) 0 0) 0 [] := ⟨rfl, .inr ⟨(V0.alloc (.cells #[.string x.nm, .int .i64 x.sec, .int .i64 x.n, .string (strOf x.s)] 131)).heap.size, 0, #[], rfl, k31.size, heap_alloc_new _ _, Nat.le_refl _, by simp, rfl, rfl⟩⟩
    have b32 := b31.alloc (.cells #[] 131)
    have ne32 := Nat.ne_of_lt b31.lt
    refine tkR [2] ?_
    refine AllReadyH.valR (fun W' => ((V0.alloc (.cells #[.string x.nm, .int .i64 x.sec, .int .i64 x.n, .string (strOf x.s)] 131)).alloc (.cells #[] 131)) = W') rfl (by rfl) (.slice A n c) _ (by have := (HB0.out.keep k32 (fun q => q)).cell 3; go_simp) (fun W' e => by rw [← e]; exact HSP.out _ k32) rfl ?_ ?_
    ·rintro _ rfl
     simp only [Act.put, sA, sB, sC]
     refine tkR [3] ?_
     refine AllReadyH.appendN rfl (by rfl) W.heap.size 131 j0 _ 4 48 Tryz.underlying27 HJ0.out HY0.out HY1.out HY2.out rfl (by omega) (.slice (some ⟨(V0.alloc (.cells #[.string x.nm, .int .i64 x.sec, .int .i64 x.n, .string (strOf x.s)] 131)).heap.size, 0, none⟩) 0 0) 0 [] rfl ow32 A n c (cs.map rcCells).flatten rfl HA.out HFLAT.out (HSN.out _ k32) (rc_one cs) (by have := HN.out; unfold maxLen; omega) (by have := HN.out; omega) k32.size (fun v' w' q1 q2 => HSP.out _ (k32.own q2 rfl ow32)) ?_ ?_
     ·intro v34 w34 ow34 gr34
      simp only [Act.put, sA, sB, sC]
      have k34 := k32.own gr34 rfl ow32
      have b34 := b32.past gr34 (fun k e => by simp only [Value.ownBlock] at e; injection e with e; first | omega | (simp at *; omega))
      refine tkR [6] ?_
      refine AllReadyH.appendB rfl (by rfl) W.heap.size 131 j0 _ 4 48 Tryz.underlying27 HJ0.out HY0.out HY1.out HY2.out rfl (by omega) v34 (0 + n) ([] ++ (cs.map rcCells).flatten) rfl ow34 ⟨V0.heap.size, 0, none⟩ 1 1 (rcCells x) rfl rfl b34.rc (fun u hu => rc_one [x] u (by simpa using hu)) (by have := HN.out; unfold maxLen; omega) (by have := HN.out; omega) k34.size (fun v' w' q1 q2 _ => HSP.out _ (k34.own q2 rfl ow34)) ?_ ?_
      ·intro v35 w35 ow35 gr35 _
       simp only [Act.put, sA, sB, sC]
       have k35 := k34.own gr35 rfl ow34
       rw [Nat.zero_add, List.nil_append] at ow35
       obtain ⟨A35, c35, rfl⟩ := own_slice ow35
       refine tkJ (i := 7) (v := (.pointer (some ⟨s0, 3, none⟩))) rfl (HSP.out _ k35) ?_
       simp only [Act.put, sA, sB, sC]
       refine tkR [8] ?_
       refine AllReadyH.skipR rfl (by rfl) (w35.setCell ⟨s0, 3, none⟩ (.slice A35 (n + 1) c35)) (by have h1 := (HB0.out.keep k35 (fun q => q)).cell 3; have h2 := (HB0.out.keep k35 (fun q => q)).frozen 3; go_simp) (((HB1.out.keep k35 (fun q => q)).keep ((Kp.refl (OnB s0) _).setAt rfl 3 _) (fun q => by have : s0 + 1 = s0 := q; omega)).sp) ?_ ?_
       ·skip
        refine wpAnyH_done (by kernel_rfl) ?_ _
        generalize (V0.alloc (.cells #[.string x.nm, .int .i64 x.sec, .int .i64 x.n, .string (strOf x.s)] 131)).heap.size = gg
        generalize V0.heap.size = hh
        generalize Value.slice A35 (n + 1) c35 = vv at ow35 ⊢
        exact into4_of gg hh v34 vv ⟨_, rfl, ow35, k35⟩ rfl
       exact AllReadyH.nil
      exact AllReadyH.nil
     exact AllReadyH.nil
    exact AllReadyH.nil
   refine AllReadyH.valR (fun W' => (V0.alloc (.cells #[.string x.nm, .int .i64 x.sec, .int .i64 x.n, .string (strOf x.s)] 131)) = W') rfl (by rfl) (.slice A n c) _ (by have := (HB0.out.keep k31 (fun q => q)).cell 3; go_simp) (fun W' e => by rw [← e]; exact HSP.out _ k31) rfl ?_ ?_
   ·rintro _ rfl
    simp only [Act.put, sA, sB, sC]
    refine tkR [0] ?_
    refine AllReadyH.valR (fun W' => W' = ((V0.alloc (.cells #[.string x.nm, .int .i64 x.sec, .int .i64 x.n, .string (strOf x.s)] 131)).alloc (.cells #[] 131))) rfl (by rfl) (.slice (some ⟨(V0.alloc (.cells #[.string x.nm, .int .i64 x.sec, .int .i64 x.n, .string (strOf x.s)] 131)).heap.size, 0, none⟩) 0 0) _ (by go_simp) (fun W' e => by rw [e]; exact HSP.out _ (k31.alloc _)) rfl ?_ ?_
    ·rintro _ rfl
     simp only [Act.put, sA, sB, sC]
     have k38 := k31.alloc (.cells #[] 131)
     have ow38 : ((V0.alloc (.cells #[.string x.nm, .int .i64 x.sec, .int .i64 x.n, .string (strOf x.s)] 131)).alloc (.cells #[] 131)).ownsRow W.heap.size 131 4 (.slice (some ⟨(V0.alloc (.cells #[.string x.nm, .int .i64 x.sec, .int .i64 x.n, .string (strOf x.s)] 131)).heap.size, 0, none⟩) 0 0) 0 [] := ⟨rfl, .inr ⟨(V0.alloc (.cells #[.string x.nm, .int .i64 x.sec, .int .i64 x.n, .string (strOf x.s)] 131)).heap.size, 0, #[], rfl, k31.size, heap_alloc_new _ _, Nat.le_refl _, by simp, rfl, rfl⟩⟩
     have b38 := b31.alloc (.cells #[] 131)
     have ne38 := Nat.ne_of_lt b31.lt
     refine tkR [3] ?_
     refine AllReadyH.appendN rfl (by rfl) W.heap.size 131 j0 _ 4 48 Tryz.underlying27 HJ0.out HY0.out HY1.out HY2.out rfl (by omega) (.slice (some ⟨(V0.alloc (.cells #[.string x.nm, .int .i64 x.sec, .int .i64 x.n, .string (strOf x.s)] 131)).heap.size, 0, none⟩) 0 0) 0 [] rfl ow38 A n c (cs.map rcCells).flatten rfl HA.out HFLAT.out (HSN.out _ k38) (rc_one cs) (by have := HN.out; unfold maxLen; omega) (by have := HN.out; omega) k38.size (fun v' w' q1 q2 => HSP.out _ (k38.own q2 rfl ow38)) ?_ ?_
     ·intro v39 w39 ow39 gr39
      simp only [Act.put, sA, sB, sC]
      have k39 := k38.own gr39 rfl ow38
      have b39 := b38.past gr39 (fun k e => by simp only [Value.ownBlock] at e; injection e with e; first | omega | (simp at *; omega))
      refine tkR [6] ?_
      refine AllReadyH.appendB rfl (by rfl) W.heap.size 131 j0 _ 4 48 Tryz.underlying27 HJ0.out HY0.out HY1.out HY2.out rfl (by omega) v39 (0 + n) ([] ++ (cs.map rcCells).flatten) rfl ow39 ⟨V0.heap.size, 0, none⟩ 1 1 (rcCells x) rfl rfl b39.rc (fun u hu => rc_one [x] u (by simpa using hu)) (by have := HN.out; unfold maxLen; omega) (by have := HN.out; omega) k39.size (fun v' w' q1 q2 _ => HSP.out _ (k39.own q2 rfl ow39)) ?_ ?_
      ·intro v40 w40 ow40 gr40 _
       simp only [Act.put, sA, sB, sC]
       have k40 := k39.own gr40 rfl ow39
       rw [Nat.zero_add, List.nil_append] at ow40
       obtain ⟨A40, c40, rfl⟩ := own_slice ow40
       refine tkJ (i := 7) (v := (.pointer (some ⟨s0, 3, none⟩))) rfl (HSP.out _ k40) ?_
       simp only [Act.put, sA, sB, sC]
       refine tkR [8] ?_
       refine AllReadyH.skipR rfl (by rfl) (w40.setCell ⟨s0, 3, none⟩ (.slice A40 (n + 1) c40)) (by have h1 := (HB0.out.keep k40 (fun q => q)).cell 3; have h2 := (HB0.out.keep k40 (fun q => q)).frozen 3; go_simp) (((HB1.out.keep k40 (fun q => q)).keep ((Kp.refl (OnB s0) _).setAt rfl 3 _) (fun q => by have : s0 + 1 = s0 := q; omega)).sp) ?_ ?_
       ·skip
        refine wpAnyH_done (by kernel_rfl) ?_ _
        generalize (V0.alloc (.cells #[.string x.nm, .int .i64 x.sec, .int .i64 x.n, .string (strOf x.s)] 131)).heap.size = gg
        generalize V0.heap.size = hh
        generalize Value.slice A40 (n + 1) c40 = vv at ow40 ⊢
        exact into4_of gg hh v39 vv ⟨_, rfl, ow40, k40⟩ rfl
       exact AllReadyH.nil
      exact AllReadyH.nil
     exact AllReadyH.nil
    exact AllReadyH.nil
   exact AllReadyH.nil
  exact AllReadyH.nil
 ·rintro g5 g10 v8 v11 w6 ⟨V, rfl, ho, hk⟩
  obtain ⟨A3, c3, rfl⟩ := own_slice ho
  have HO3 := zh ho
  have HK3 := zh hk
  have hb0 := HB0.out.keep hk (fun q => q)
  have hb2 := HB2.out.keep hk (fun q => q)
  have HX2 := zh hb2
  obtain ⟨c0, c1, c2, c3', c4, c5, c6, c7⟩ := hb0.c8
  obtain ⟨y0, y1, y2, y3, y4, y5, y6, y7⟩ := hb2.c8
  obtain ⟨z0, z1, z2, z3, z4, z5, z6, z7⟩ := hb2.z8
  clear hb0 hb2 ho hk
  go_wp2_with fail
  have kz : w.heap.size ≤ s0 := by have := HS0.out; omega
  have kz2 : w.heap.size ≤ s0 + 1 + 1 := by omega
  refine bodyPost_ret (results_cell_row rfl _ _ _ _ _ _ _ rfl (blk9 HX2.out rfl (by omega)) Tryz.underlying29 rfl (by exact infoRd)) rfl ⟨A3, c3, rfl, ?_, ?_, kp9 (HKW.out.trans HK3.out (fun _ _ q => q)) (.inl kz) (.inl kz2)⟩
  ·have hkp := kp9 (S := fun b => b = s0 ∨ b = s0 + 1 + 1) (s0 := s0) (s2 := s0 + 1 + 1) (i := 3) (y := .slice A3 (n + 1) c3) (a0 := .bool b0) (a1 := .bool b1) (a2 := .slice fA fn fc) (a3 := .slice A3 (n + 1) c3) (a4 := .int .i64 x4) (a5 := .int .i64 x5) (a6 := .int .i64 x6) (a7 := .int .i64 x7) (Kp.refl _ V) (.inr (.inl rfl)) (.inr (.inr rfl))
   have ho := own_keepB HO3.out hkp (fun g hg q => by
    have h1 := own_ge HO3.out g hg
    have h2 := HSZ.out
    rcases q with q | q <;> omega)
   refine Rows.own (base := W.heap.size) (e := 131) (cap := c3) ?_ (by rw [List.length_map, List.length_append, HFL.out]; rfl) (rc_len _)
   rw [List.map_append, List.flatten_append]
   have e1 : ([x].map rcCells).flatten = rcCells x := by simp
   rw [e1]
   exact ho
  ·intro q
   subst q
   rcases HO3.out.2 with ⟨q, _⟩ | ⟨g, o, cs', q, _⟩
   ·cases q
   ·cases q
end
section
open Go.RowKit
theorem change_okR (w : World) (d : Rd) (p : Pl) (x : Cg) (h : Rf w d p) (hx : CgOk x) (hn : p.pd.length < 1099511627776) :
  Calls Tryz.prog 74 #[rdV d p, .agg #[.string x.nm, .int .i64 x.sec, .int .i64 x.n, .string (strOf x.s)]] w fun e w' => ∃ d', e = .returned (rdV d' p) ∧ Rf w' d' (p.pend [x]) ∧ Kp NoB w w' := by
 refine (change_raw w d.fA d.fn d.fc true p.down d.pA d.pn d.pc p.room p.steps p.crash p.starts p.pd x h.pend h.pnil (by have := h.pl; omega)).mono ?_
 rintro e w' ⟨A', c', rfl, hr, hne, hk⟩
 refine ⟨{ d with pA := A', pn := d.pn + 1, pc := c' }, rfl, ?_, hk⟩
 exact
  {files := h.files.keep hk, pend := hr, fnil := h.fnil, pnil := fun q => absurd q hne, fok := h.fok
   cok := fun c hc => by
    rcases List.mem_append.1 hc with q | q
    ·exact h.cok c q
    ·rw [List.mem_singleton.1 q]; exact hx
   names := h.names, seen := h.seen, kept := h.kept, sum := h.sum, ksum := h.ksum, nf := h.nf, room := h.room, steps := h.steps, crash := h.crash, starts := h.starts }
theorem Rf.at_ {w : World} {d : Rd} {p : Pl} (h : Rf w d p) : Rf w d p.at_ := { h with nf := by show d.fn ≤ p.nf + 1; have := h.nf; omega }
theorem kept_same (p : Pl) (s : ByteArray) : p.setKept s (p.kept s) = p := by
 unfold Pl.setKept
 rw [upd_self, Int.sub_add_cancel]
theorem seen_same (p : Pl) (s : ByteArray) : p.setSeen s (p.seen s) = p := by
 unfold Pl.setSeen
 rw [upd_self, Int.sub_add_cancel]
def rdC (d : Rd) (p : Pl) : Array Value := #[.bool true, .bool p.down, .slice d.fA d.fn d.fc, .slice d.pA d.pn d.pc, .int .i64 p.room, .int .i64 p.steps, .int .i64 p.crash, .int .i64 p.starts]
def rdZ : Array Value := #[.bool false, .bool false, .slice none 0 0, .slice none 0 0, .int .i64 0, .int .i64 0, .int .i64 0, .int .i64 0]
theorem Blk.rdc {w : World} {g : Nat} {t : TypeId} {d : Rd} {p : Pl} (h : Blk w g t (rdC d p)) :
  w.cell? ⟨g, 0, none⟩ = some (.bool true) ∧ w.cell? ⟨g, 1, none⟩ = some (.bool p.down) ∧ w.cell? ⟨g, 2, none⟩ = some (.slice d.fA d.fn d.fc) ∧ w.cell? ⟨g, 3, none⟩ = some (.slice d.pA d.pn d.pc) ∧ w.cell? ⟨g, 4, none⟩ = some (.int .i64 p.room) ∧ w.cell? ⟨g, 5, none⟩ = some (.int .i64 p.steps) ∧ w.cell? ⟨g, 6, none⟩ = some (.int .i64 p.crash) ∧ w.cell? ⟨g, 7, none⟩ = some (.int .i64 p.starts) := Blk.c8 h
theorem blk8 {w : World} {s2 : Nat} {t : TypeId} {a0 a1 a2 a3 a4 a5 a6 a7 : Value} {cs : Array Value} (h : Blk w s2 t cs) (hs : cs.size = 8) : Blk ((((((((w.setCell ⟨s2, 0, none⟩ a0).setCell ⟨s2, 1, none⟩ a1).setCell ⟨s2, 2, none⟩ a2).setCell ⟨s2, 3, none⟩ a3).setCell ⟨s2, 4, none⟩ a4).setCell ⟨s2, 5, none⟩ a5).setCell ⟨s2, 6, none⟩ a6).setCell ⟨s2, 7, none⟩ a7) s2 t #[a0, a1, a2, a3, a4, a5, a6, a7] := by
 have := h.whole #[a0, a1, a2, a3, a4, a5, a6, a7] (by rw [hs]; rfl)
 exact this
theorem kp8 {S : Nat → Prop} {a w : World} {s2 : Nat} {a0 a1 a2 a3 a4 a5 a6 a7 : Value} (h : Kp S a w) (h2 : a.heap.size ≤ s2 ∨ S s2) : Kp S a ((((((((w.setCell ⟨s2, 0, none⟩ a0).setCell ⟨s2, 1, none⟩ a1).setCell ⟨s2, 2, none⟩ a2).setCell ⟨s2, 3, none⟩ a3).setCell ⟨s2, 4, none⟩ a4).setCell ⟨s2, 5, none⟩ a5).setCell ⟨s2, 6, none⟩ a6).setCell ⟨s2, 7, none⟩ a7) :=
 (((((((h.setCell (p := ⟨s2, 0, none⟩) h2 a0).setCell (p := ⟨s2, 1, none⟩) h2 a1).setCell (p := ⟨s2, 2, none⟩) h2 a2).setCell (p := ⟨s2, 3, none⟩) h2 a3).setCell (p := ⟨s2, 4, none⟩) h2 a4).setCell (p := ⟨s2, 5, none⟩) h2 a5).setCell (p := ⟨s2, 6, none⟩) h2 a6).setCell (p := ⟨s2, 7, none⟩) h2 a7
def NoStr (cs : Array Value) : Prop := ∀ (i : Nat) (s : ByteArray), cs[i]? ≠ some (Value.string s)
theorem rdC_str (d : Rd) (p : Pl) : NoStr (rdC d p) := by
 intro i s
 unfold rdC
 rcases i with _ | _ | _ | _ | _ | _ | _ | _ | i <;> simp
theorem rdZ_str : NoStr rdZ := by
 intro i s
 unfold rdZ
 rcases i with _ | _ | _ | _ | _ | _ | _ | _ | i <;> simp
theorem Rows.keepB {w w' : World} {A : Option Addr} {n sz g : Nat} {T : TypeId} {cs : Array Value} {xs : List (List Value)} (h : Rows w A n sz xs) (hsz : 0 < sz) (hx : ∀ x ∈ xs, ∃ s, x[0]? = some (.string s)) (k : Kp (OnB g) w w') (hb : Blk w g T cs) (hc : NoStr cs) : Rows w' A n sz xs :=
 ⟨h.1, h.2.1, fun hn => by
  obtain ⟨g', o, t, cs', e, hb', hs, hcs⟩ := h.2.2 hn
  refine ⟨g', o, t, cs', e, hb'.keep k (fun q => ?_), hs, hcs⟩
  have q' : g' = g := q
  subst q'
  have hh : some (Obj.cells cs' t.1 (0, 0)) = some (Obj.cells cs T (0, 0)) := hb'.symm.trans hb
  injection hh with hh
  injection hh with h1 h2
  subst h1
  have h0 : 0 < xs.length := by rw [h.1]; exact hn
  obtain ⟨s, hstr⟩ := hx _ (List.getElem_mem h0)
  have := hcs 0 h0 0 hsz
  rw [hstr] at this
  exact hc _ _ this⟩
theorem rf_str (fs : List Rfile) : ∀ x ∈ fs.map rfCells, ∃ s, x[0]? = some (.string s) := by
 intro x hx
 obtain ⟨f, _, rfl⟩ := List.mem_map.1 hx
 exact ⟨_, rfl⟩
theorem rc_str (cs : List Cg) : ∀ x ∈ cs.map rcCells, ∃ s, x[0]? = some (.string s) := by
 intro x hx
 obtain ⟨f, _, rfl⟩ := List.mem_map.1 hx
 exact ⟨_, rfl⟩
theorem Rf.keepB {w w' : World} {d : Rd} {p : Pl} {g : Nat} {T : TypeId} {cs : Array Value} (h : Rf w d p) (k : Kp (OnB g) w w') (hb : Blk w g T cs) (hc : NoStr cs) : Rf w' d p :=
 {h with files := h.files.keepB (by omega) (rf_str _) k hb hc, pend := h.pend.keepB (by omega) (rc_str _) k hb hc }
set_option maxRecDepth 100000 in
set_option maxHeartbeats 800000 in
theorem length_okR (w : World) (d : Rd) (p : Pl) (s : ByteArray) (n : Nat) (h : Rf w d p) (hs : s.size ≤ maxLen) (hn : n ≤ 1048576) (hnf : p.nf < 1099511627776) (hpd : p.pd.length < 1099511627776) :
  Calls Tryz.prog 73 #[rdV d p, .string s, .int .i64 (n : Int)] w fun e w' => ∃ d', e = .returned (rdV d' p) ∧ Rf w' d' (p.length s n) ∧ Kp NoB w w' := by
 have H := zh h
 have HS := zh hs
 have HNF := zh hnf
 have HPD := zh hpd
 have HN := zh hn
 have hll := (h.look s).1.1
 have HLL := zh hll
 have hlr := (h.look s).1.2
 have hkl := (h.look s).2
 have HLR := zh hlr
 have HKL := zh hkl
 have hsz := strOf_size (p.seen s)
 have hb0 : Blk ((w.alloc (.cells (rdC d p) 29)).alloc (.cells rdZ 29)) w.heap.size 29 (rdC d p) := (Blk.new w _ _).alloc _
 have hb2 : Blk ((w.alloc (.cells (rdC d p) 29)).alloc (.cells rdZ 29)) (w.heap.size + 1) 29 rdZ := Blk.top (by simp)
 have hk : Kp NoB w ((w.alloc (.cells (rdC d p) 29)).alloc (.cells rdZ 29)) := ((Kp.refl NoB w).alloc _).alloc _
 clear h hs hnf hpd hn hlr hkl
 unfold rdV
 go_enter Tryz.func73, Tryz.ntmps73
 go_wp2_with fail
 refine (show Calls _ _ #[rdV d p, .string s] _ _ from file_ok _ d p s (H.out.keep hk) HNF.out).mono ?_
 rintro e w2 ⟨rfl, hk2⟩
 have HB0 := zh (hb0.keep hk2 (fun q => q))
 have HB2 := zh (hb2.keep hk2 (fun q => q))
 have HK := zh (hk.trans hk2 (fun _ _ q => q))
 clear hb0 hb2 hk hk2
 generalize hs0 : w.heap.size = s0 at HB0 HB2 ⊢
 have HS0 := zh hs0
 clear hs0
 have hl0 := HB0.out.lt
 have hl2 := HB2.out.lt
 obtain ⟨c0, c1, c2, c3, c4, c5, c6, c7⟩ := HB0.out.rdc
 obtain ⟨y0, y1, y2, y3, y4, y5, y6, y7⟩ := HB2.out.c8
 obtain ⟨z0, z1, z2, z3, z4, z5, z6, z7⟩ := HB2.out.z8
 unfold fileV
 by_cases hq : (p.seen s).length = n
 ·have hL : Hid (p.length s n = p.at_) := zh (by unfold Pl.length; rw [if_pos hq.symm])
  have hq1 : (((p.seen s).length : Int) == (n : Int)) = true := by simp; omega
  clear hq
  go_wp2_with fail
  have kz : w.heap.size ≤ s0 + 1 := by have := HS0.out; omega
  have hk9 : Kp NoB w _ := (kp8 (a0 := .bool true) (a1 := .bool p.down) (a2 := .slice d.fA d.fn d.fc) (a3 := .slice d.pA d.pn d.pc) (a4 := .int .i64 p.room) (a5 := .int .i64 p.steps) (a6 := .int .i64 p.crash) (a7 := .int .i64 p.starts) HK.out (.inl kz)).alloc (.cells #[.string s, .string (strOf (p.seen s)), .string (strOf (p.kept s))] 72)
  refine bodyPost_ret (results_cell_row rfl _ _ _ _ _ _ _ rfl ((blk8 HB2.out rfl).alloc _) Tryz.underlying29 rfl (by exact infoRd)) rfl ⟨d, rfl, ?_, hk9⟩
  rw [hL.out]
  exact (H.out.keep hk9).at_
 ·have hL : Hid (p.length s n = (p.at_.setSeen s (sizedF (p.seen s) n)).pend [⟨s, -1, n, []⟩]) := zh (by unfold Pl.length; rw [if_neg (fun q => hq q.symm)])
  have hq1 : (((p.seen s).length : Int) == (n : Int)) = false := by simp; omega
  clear hq
  go_wp2_with fail
  refine (sized_ok _ (p.seen s) n HLL.out HN.out).mono ?_
  rintro e w3 ⟨rfl, hk3⟩
  have HF3 := zh ((Blk.new w2 72 #[.string s, .string (strOf (p.seen s)), .string (strOf (p.kept s))]).keep hk3 (fun q => q))
  have HK3 := zh (((HK.out.alloc _).trans hk3 (fun _ _ q => q)))
  have hk23 := ((Kp.refl NoB w2).alloc (.cells #[.string s, .string (strOf (p.seen s)), .string (strOf (p.kept s))] 72)).trans hk3 (fun _ _ q => q)
  have HC0 := zh (HB0.out.keep hk23 (fun q => q))
  have HC2 := zh (HB2.out.keep hk23 (fun q => q))
  clear hk3 hk23 c0 c1 c2 c3 c4 c5 c6 c7 y0 y1 y2 y3 y4 y5 y6 y7 z0 z1 z2 z3 z4 z5 z6 z7
  obtain ⟨c0, c1, c2, c3, c4, c5, c6, c7⟩ := HC0.out.rdc
  obtain ⟨d0, d1, d2⟩ := HF3.out.c3
  have f1 := HF3.out.frozen 1
  generalize hf : w2.heap.size = f at HF3 d0 d1 d2 f1 ⊢
  have HF := zh hf
  rw [hf] at hl0 hl2
  clear hf
  go_wp2_with fail
  have hL2 : (sizedF (p.seen s) n).length ≤ 1048576 := by rw [sizedF_len]; exact HN.out
  have hk4 : Kp NoB w (w3.setCell ⟨f, 1, none⟩ (.string (strOf (sizedF (p.seen s) n)))) := HK3.out.setCell (.inl (by have h1 := HF.out; have h2 := HK.out.size; show w.heap.size ≤ f; omega)) _
  refine (show Calls _ _ #[rdV d p, .agg (fileV s (sizedF (p.seen s) n) (p.kept s))] _ _ from with_ok _ d p ⟨s, sizedF (p.seen s) n, p.kept s⟩ (H.out.keep hk4) ⟨HS.out, sizedF_rng HLR.out n, HKL.out.2, hL2, HKL.out.1⟩ HNF.out).mono ?_
  rintro e w5 ⟨d5, rfl, h5, hk5⟩
  have e5 : (p.at_.setSeen s (sizedF (p.seen s) n)).setKept s (p.kept s) = p.at_.setSeen s (sizedF (p.seen s) n) := kept_same (p.at_.setSeen s (sizedF (p.seen s) n)) s
  have h5' : Rf w5 d5 (p.at_.setSeen s (sizedF (p.seen s) n)) := by rw [← e5]; exact h5
  have HK5 := zh (hk4.trans hk5 (fun _ _ q => q))
  have HR5 := zh h5'
  have HD2 := zh ((HC2.out.far (p := ⟨f, 1, none⟩) (by show s0 + 1 ≠ f; omega) (.string (strOf (sizedF (p.seen s) n)))).keep hk5 (fun q => q))
  have HCG : Hid (CgOk ⟨s, -1, (n : Int), []⟩) := zh ⟨.inl ⟨rfl, rfl, by show (0 : Int) ≤ (n : Int); omega, by show (n : Int) ≤ 1048576; have := HN.out; omega⟩, by simp, HS.out⟩
  clear h5 e5 h5' hk4 hk5 hL2 c0 c1 c2 c3 c4 c5 c6 c7 d0 d1 d2 f1
  go_wp2_with fail
  refine (show Calls _ _ #[rdV d5 (p.at_.setSeen s (sizedF (p.seen s) n)), .agg #[.string s, .int .i64 (-1), .int .i64 (n : Int), .string (strOf [])]] _ _ from change_okR _ d5 (p.at_.setSeen s (sizedF (p.seen s) n)) ⟨s, -1, (n : Int), []⟩ HR5.out HCG.out HPD.out).mono ?_
  rintro e w6 ⟨d6, rfl, h6, hk6⟩
  have HR6 := zh h6
  have HE2 := zh (HD2.out.keep hk6 (fun q => q))
  have HK6 := zh (HK5.out.trans hk6 (fun _ _ q => q))
  clear h6 hk6
  obtain ⟨y0, y1, y2, y3, y4, y5, y6, y7⟩ := HE2.out.c8
  obtain ⟨z0, z1, z2, z3, z4, z5, z6, z7⟩ := HE2.out.z8
  rw [show rdV d6 (p.at_.setSeen s (sizedF (p.seen s) n)) = rdV d6 p from rfl]
  unfold rdV
  go_wp2_with fail
  have kz : w.heap.size ≤ s0 + 1 := by have := HS0.out; omega
  refine bodyPost_ret (results_cell_row rfl _ _ _ _ _ _ _ rfl (blk8 HE2.out rfl) Tryz.underlying29 rfl (by exact infoRd)) rfl ⟨d6, rfl, ?_, kp8 HK6.out (.inl kz)⟩
  rw [hL.out]
  exact HR6.out.keepB (kp8 (Kp.refl _ w6) (.inr rfl)) HE2.out rdZ_str
end
section
open Go.RowKit
theorem len_nums (p : Pl) (s : ByteArray) (n : Nat) : (p.length s n).down = p.down ∧ (p.length s n).room = p.room ∧ (p.length s n).steps = p.steps ∧ (p.length s n).crash = p.crash ∧ (p.length s n).starts = p.starts := by
 unfold Pl.length
 split <;> exact ⟨rfl, rfl, rfl, rfl, rfl⟩
theorem rdV_len (d : Rd) (p : Pl) (s : ByteArray) (n : Nat) : rdV d p = rdV d (p.length s n) := by
 obtain ⟨h1, h2, h3, h4, h5⟩ := len_nums p s n
 unfold rdV
 rw [h1, h2, h3, h4, h5]
set_option maxRecDepth 100000 in
set_option maxHeartbeats 800000 in
theorem trunc_okR (w : World) (d : Rd) (p : Pl) (s : ByteArray) (n : Int) (h : Rf w d p) (hs : s.size ≤ maxLen) (hn : -9223372036854775808 ≤ n ∧ n ≤ 9223372036854775807) (hnf : p.nf < 1099511627776) (hpd : p.pd.length < 1099511627776) :
  Calls Tryz.prog 98 #[rdV d p, .string s, .int .i64 n] w fun e w' => ∃ d', e = .returned (.tuple #[rdV d' (p.trunc s n), .int .i64 (p.truncE s n)]) ∧ Rf w' d' (p.trunc s n) ∧ Kp NoB w w' := by
 have H := zh h
 have HS := zh hs
 have HNF := zh hnf
 have HPD := zh hpd
 have HN := zh hn
 have hb0 : Blk ((w.alloc (.cells (rdC d p) 29)).alloc (.cells rdZ 29)) w.heap.size 29 (rdC d p) := (Blk.new w _ _).alloc _
 have hb2 : Blk ((w.alloc (.cells (rdC d p) 29)).alloc (.cells rdZ 29)) (w.heap.size + 1) 29 rdZ := Blk.top (by simp)
 have hk : Kp NoB w ((w.alloc (.cells (rdC d p) 29)).alloc (.cells rdZ 29)) := ((Kp.refl NoB w).alloc _).alloc _
 clear h hs hnf hpd hn
 by_cases hd : p.down = true
 ·have hw : Hid (p.wrong = 7) := zh (by unfold Pl.wrong; rw [hd]; rfl)
  have hT : Hid (p.trunc s n = p ∧ p.truncE s n = 7) := zh (by unfold Pl.trunc Pl.truncE; rw [hd]; simp)
  clear hd
  rw [hT.out.1, hT.out.2]
  unfold rdV
  go_enter Tryz.func98, Tryz.ntmps98
  go_wp2_with fail
  refine (show Calls _ _ #[rdV d p] _ _ from wrong_okR _ d p (H.out.keep hk)).mono ?_
  rintro e w2 ⟨rfl, hk2⟩
  rw [hw.out]
  have HB0 := zh (hb0.keep hk2 (fun q => q))
  have HB2 := zh (hb2.keep hk2 (fun q => q))
  have HK := zh (hk.trans hk2 (fun _ _ q => q))
  clear hb0 hb2 hk hk2
  generalize hs0 : w.heap.size = s0 at HB0 HB2 ⊢
  have HS0 := zh hs0
  have kz : w.heap.size ≤ s0 + 1 := by omega
  clear hs0
  have hl0 := HB0.out.lt
  have hl2 := HB2.out.lt
  obtain ⟨c0, c1, c2, c3, c4, c5, c6, c7⟩ := HB0.out.rdc
  obtain ⟨y0, y1, y2, y3, y4, y5, y6, y7⟩ := HB2.out.c8
  obtain ⟨z0, z1, z2, z3, z4, z5, z6, z7⟩ := HB2.out.z8
  go_wp2_with fail
  refine bodyPost_ret (ret_cell_tmp rfl _ _ _ _ _ _ rfl (blk8 HB2.out rfl) Tryz.underlying29 rfl (by exact infoRd) _ rfl) rfl ⟨d, rfl, (H.out.keep (kp8 HK.out (.inl kz))), kp8 HK.out (.inl kz)⟩
 ·have hd' : p.down = false := by simpa using hd
  have hw : Hid (p.wrong = 0) := zh (by unfold Pl.wrong; rw [hd']; rfl)
  by_cases hneg : n < 0
  ·have hT : Hid (p.trunc s n = p ∧ p.truncE s n = 2) := zh (by unfold Pl.trunc Pl.truncE; rw [hd']; simp [hneg])
   clear hd hd'
   rw [hT.out.1, hT.out.2]
   unfold rdV
   go_enter Tryz.func98, Tryz.ntmps98
   go_wp2_with fail
   refine (show Calls _ _ #[rdV d p] _ _ from wrong_okR _ d p (H.out.keep hk)).mono ?_
   rintro e w2 ⟨rfl, hk2⟩
   rw [hw.out]
   have HB0 := zh (hb0.keep hk2 (fun q => q))
   have HB2 := zh (hb2.keep hk2 (fun q => q))
   have HK := zh (hk.trans hk2 (fun _ _ q => q))
   clear hb0 hb2 hk hk2
   generalize hs0 : w.heap.size = s0 at HB0 HB2 ⊢
   have HS0 := zh hs0
   have kz : w.heap.size ≤ s0 + 1 := by omega
   clear hs0
   have hl0 := HB0.out.lt
   have hl2 := HB2.out.lt
   obtain ⟨c0, c1, c2, c3, c4, c5, c6, c7⟩ := HB0.out.rdc
   obtain ⟨y0, y1, y2, y3, y4, y5, y6, y7⟩ := HB2.out.c8
   obtain ⟨z0, z1, z2, z3, z4, z5, z6, z7⟩ := HB2.out.z8
   go_wp2_with fail
   refine bodyPost_ret (ret_cell_tmp rfl _ _ _ _ _ _ rfl (blk8 HB2.out rfl) Tryz.underlying29 rfl (by exact infoRd) _ rfl) rfl ⟨d, rfl, (H.out.keep (kp8 HK.out (.inl kz))), kp8 HK.out (.inl kz)⟩
  ·obtain ⟨F, hF⟩ : ∃ F, p.fits s n = F := ⟨_, rfl⟩
   by_cases hf : F = 0
   ·subst hf
    have hT : Hid (p.trunc s n = (p.length s n.toNat).step ∧ p.truncE s n = (p.length s n.toNat).stepE) := zh (by
     unfold Pl.trunc Pl.truncE
     rw [hd', hF]
     simp only [hneg, Bool.false_eq_true, if_false, ne_eq, not_true_eq_false, or_self]
     refine ⟨trivial, ?_⟩
     unfold Pl.stepE
     rw [(len_nums p s n.toNat).2.2.2.1])
    have hn0 : Hid (n.toNat ≤ 1048576 ∧ n = (n.toNat : Int)) := zh (by
     refine ⟨?_, by omega⟩
     unfold Pl.fits at hF
     by_cases q : 1048576 < n
     ·rw [if_pos q] at hF; omega
     ·omega)
    have HF := zh hF
    clear hd hd' hF
    rw [hT.out.1, hT.out.2]
    unfold rdV
    go_enter Tryz.func98, Tryz.ntmps98
    go_wp2_with fail
    refine (show Calls _ _ #[rdV d p] _ _ from wrong_okR _ d p (H.out.keep hk)).mono ?_
    rintro e w2 ⟨rfl, hk2⟩
    rw [hw.out]
    have HB0 := zh (hb0.keep hk2 (fun q => q))
    have HB2 := zh (hb2.keep hk2 (fun q => q))
    have HK := zh (hk.trans hk2 (fun _ _ q => q))
    clear hb0 hb2 hk hk2
    generalize hs0 : w.heap.size = s0 at HB0 HB2 ⊢
    have HS0 := zh hs0
    have kz : w.heap.size ≤ s0 + 1 := by omega
    clear hs0
    have hl0 := HB0.out.lt
    have hl2 := HB2.out.lt
    obtain ⟨c0, c1, c2, c3, c4, c5, c6, c7⟩ := HB0.out.rdc
    obtain ⟨y0, y1, y2, y3, y4, y5, y6, y7⟩ := HB2.out.c8
    obtain ⟨z0, z1, z2, z3, z4, z5, z6, z7⟩ := HB2.out.z8
    go_wp2_with fail
    refine (show Calls _ _ #[rdV d p, .string s, .int .i64 n] _ _ from fits_okR _ d p s n (H.out.keep HK.out) HNF.out (by have := HN.out; omega)).mono ?_
    rintro e w3 ⟨rfl, hk3⟩
    rw [HF.out]
    have HB0' := zh (HB0.out.keep hk3 (fun q => q))
    have HB2' := zh (HB2.out.keep hk3 (fun q => q))
    have HK' := zh (HK.out.trans hk3 (fun _ _ q => q))
    clear hk3 HB0 HB2 HK
    have HB0 := HB0'
    have HB2 := HB2'
    have HK := HK'
    clear HB0' HB2' HK' c0 c1 c2 c3 c4 c5 c6 c7 y0 y1 y2 y3 y4 y5 y6 y7 z0 z1 z2 z3 z4 z5 z6 z7 hl0 hl2
    have hl0 := HB0.out.lt
    have hl2 := HB2.out.lt
    obtain ⟨c0, c1, c2, c3, c4, c5, c6, c7⟩ := HB0.out.rdc
    obtain ⟨y0, y1, y2, y3, y4, y5, y6, y7⟩ := HB2.out.c8
    obtain ⟨z0, z1, z2, z3, z4, z5, z6, z7⟩ := HB2.out.z8
    go_wp2_with fail
    refine (show Calls _ _ #[rdV d p, .string s, .int .i64 n] _ _ from by rw [hn0.out.2]; exact length_okR _ d p s n.toNat (H.out.keep HK.out) HS.out hn0.out.1 HNF.out HPD.out).mono ?_
    rintro e w4 ⟨d4, rfl, h4, hk4⟩
    have HR4 := zh h4
    have HB0' := zh (HB0.out.keep hk4 (fun q => q))
    have HB2' := zh (HB2.out.keep hk4 (fun q => q))
    have HK' := zh (HK.out.trans hk4 (fun _ _ q => q))
    clear hk4 HB0 HB2 HK
    have HB0 := HB0'
    have HB2 := HB2'
    have HK := HK'
    clear HB0' HB2' HK' c0 c1 c2 c3 c4 c5 c6 c7 y0 y1 y2 y3 y4 y5 y6 y7 z0 z1 z2 z3 z4 z5 z6 z7 hl0 hl2
    have hl0 := HB0.out.lt
    have hl2 := HB2.out.lt
    obtain ⟨c0, c1, c2, c3, c4, c5, c6, c7⟩ := HB0.out.rdc
    obtain ⟨y0, y1, y2, y3, y4, y5, y6, y7⟩ := HB2.out.c8
    obtain ⟨z0, z1, z2, z3, z4, z5, z6, z7⟩ := HB2.out.z8
    clear h4
    go_wp2_with fail
    rw [rdV_len d4 p s n.toNat]
    refine (step_okR w4 d4 (p.length s n.toNat) HR4.out).mono ?_
    rintro e w5 ⟨rfl, h5, hk5⟩
    have HR5 := zh h5
    have HB0' := zh (HB0.out.keep hk5 (fun q => q))
    have HB2' := zh (HB2.out.keep hk5 (fun q => q))
    have HK' := zh (HK.out.trans hk5 (fun _ _ q => q))
    clear hk5 HB0 HB2 HK
    have HB0 := HB0'
    have HB2 := HB2'
    have HK := HK'
    clear HB0' HB2' HK' c0 c1 c2 c3 c4 c5 c6 c7 y0 y1 y2 y3 y4 y5 y6 y7 z0 z1 z2 z3 z4 z5 z6 z7 hl0 hl2
    have hl0 := HB0.out.lt
    have hl2 := HB2.out.lt
    obtain ⟨c0, c1, c2, c3, c4, c5, c6, c7⟩ := HB0.out.rdc
    obtain ⟨y0, y1, y2, y3, y4, y5, y6, y7⟩ := HB2.out.c8
    obtain ⟨z0, z1, z2, z3, z4, z5, z6, z7⟩ := HB2.out.z8
    clear h5
    unfold rdV
    go_wp2_with fail
    refine bodyPost_ret (ret_cell_tmp rfl _ _ _ _ _ _ rfl (blk8 HB2.out rfl) Tryz.underlying29 rfl (by exact infoRd) _ rfl) rfl ⟨d4, rfl, (HR5.out.keepB (kp8 (Kp.refl _ w5) (.inr rfl)) HB2.out rdZ_str), kp8 HK.out (.inl kz)⟩
   ·have hT : Hid (p.trunc s n = p ∧ p.truncE s n = F) := zh (by unfold Pl.trunc Pl.truncE; rw [hd', hF]; simp [hneg, hf])
    have HF := zh hF
    have hf2 : (F != 0) = true := by simpa using hf
    have hf3 : (F == 0) = false := by simpa using hf
    clear hd hd' hF
    rw [hT.out.1, hT.out.2]
    unfold rdV
    go_enter Tryz.func98, Tryz.ntmps98
    go_wp2_with fail
    refine (show Calls _ _ #[rdV d p] _ _ from wrong_okR _ d p (H.out.keep hk)).mono ?_
    rintro e w2 ⟨rfl, hk2⟩
    rw [hw.out]
    have HB0 := zh (hb0.keep hk2 (fun q => q))
    have HB2 := zh (hb2.keep hk2 (fun q => q))
    have HK := zh (hk.trans hk2 (fun _ _ q => q))
    clear hb0 hb2 hk hk2
    generalize hs0 : w.heap.size = s0 at HB0 HB2 ⊢
    have HS0 := zh hs0
    have kz : w.heap.size ≤ s0 + 1 := by omega
    clear hs0
    have hl0 := HB0.out.lt
    have hl2 := HB2.out.lt
    obtain ⟨c0, c1, c2, c3, c4, c5, c6, c7⟩ := HB0.out.rdc
    obtain ⟨y0, y1, y2, y3, y4, y5, y6, y7⟩ := HB2.out.c8
    obtain ⟨z0, z1, z2, z3, z4, z5, z6, z7⟩ := HB2.out.z8
    go_wp2_with fail
    refine (show Calls _ _ #[rdV d p, .string s, .int .i64 n] _ _ from fits_okR _ d p s n (H.out.keep HK.out) HNF.out (by have := HN.out; omega)).mono ?_
    rintro e w3 ⟨rfl, hk3⟩
    rw [HF.out]
    have HB0' := zh (HB0.out.keep hk3 (fun q => q))
    have HB2' := zh (HB2.out.keep hk3 (fun q => q))
    have HK' := zh (HK.out.trans hk3 (fun _ _ q => q))
    clear hk3 HB0 HB2 HK
    have HB0 := HB0'
    have HB2 := HB2'
    have HK := HK'
    clear HB0' HB2' HK' c0 c1 c2 c3 c4 c5 c6 c7 y0 y1 y2 y3 y4 y5 y6 y7 z0 z1 z2 z3 z4 z5 z6 z7 hl0 hl2
    have hl0 := HB0.out.lt
    have hl2 := HB2.out.lt
    obtain ⟨c0, c1, c2, c3, c4, c5, c6, c7⟩ := HB0.out.rdc
    obtain ⟨y0, y1, y2, y3, y4, y5, y6, y7⟩ := HB2.out.c8
    obtain ⟨z0, z1, z2, z3, z4, z5, z6, z7⟩ := HB2.out.z8
    go_wp2_with fail
    refine bodyPost_ret (ret_cell_tmp rfl _ _ _ _ _ _ rfl (blk8 HB2.out rfl) Tryz.underlying29 rfl (by exact infoRd) _ rfl) rfl ⟨d, rfl, (H.out.keep (kp8 HK.out (.inl kz))), kp8 HK.out (.inl kz)⟩
end
section
open Go
theorem forgetC {P : Program} {c : Code} {Q : Exit → Act → World → Prop} {a : Act} {w : World} (inv : World → Prop) (h : inv w) (k : ∀ w', inv w' → c.wp P Q a w') : c.wp P Q a w := k w h
theorem forgetK {P : Program} {f : FuncId} {args : Array Value} {R : Ending → World → Prop} {w : World} (inv : World → Prop) (h : inv w) (k : ∀ w', inv w' → Calls P f args w' R) : Calls P f args w R := k w h
theorem forgetQ {n : Nat} {Q : Exit → Act → World → Prop} {e : Exit} {a : Act} {w : World} (inv : World → Prop) (h : inv w) (k : ∀ w', inv w' → Exit.inBlock n Q e a w') : Exit.inBlock n Q e a w := k w h
def fillL (T : Array Value) (is : List Nat) (u : Nat → Value) : Array Value := is.foldl (fun T i => T.setIfInBounds i (u i)) T
def IntoJ (a : Act) (is : List Nat) (G : (Nat → Value) → World → Prop) : Exit → Act → World → Prop
 | .normal, a', w' => ∃ u, a' = ⟨fillL a.tmps is u, a.defers⟩ ∧ G u w'
 | _, _, _ => False
theorem intoJ_of {a a' : Act} {w' : World} {is : List Nat} {G : (Nat → Value) → World → Prop} (h : a' = ⟨fillL a.tmps is (fun k => a'.tmps.getD k undef), a.defers⟩) (g : G (fun k => a'.tmps.getD k undef) w') : IntoJ a is G .normal a' w' := ⟨_, h, g⟩
theorem wp_intoJ {P : Program} {c : Code} {Q : Exit → Act → World → Prop} {a : Act} {w : World} (is : List Nat) (G : (Nat → Value) → World → Prop) (h : c.wp P (IntoJ a is G) a w) (k : ∀ u w', G u w' → Q .normal ⟨fillL a.tmps is u, a.defers⟩ w') : c.wp P Q a w :=
 Code.wp_mono (fun e a' w' q => by cases e <;> first | exact q.elim | (obtain ⟨u, rfl, hg⟩ := q; exact k u _ hg)) h
end
end Go.Proofs.YtegcbdfilkecpaaGreat
