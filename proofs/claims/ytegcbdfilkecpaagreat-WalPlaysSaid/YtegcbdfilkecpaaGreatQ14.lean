/- Texts of this proof, one behind the other: lemmas and contracts; each says its own conditions. -/
import Derived.Test.YtegcbdfilkecpaaGreatQ6
import Derived.Test.YtegcbdfilkecpaaGreatQ7
import Derived.Test.YtegcbdfilkecpaaGreatQ11
import Derived.Test.YtegcbdfilkecpaaGreatQ13
namespace Go.Proofs.YtegcbdfilkecpaaGreat
section
open Go.RowKit
theorem st_cells (w : World) (s : Stp) (t : TypeId) : ∀ j u, (stC s)[j]? = some u → (w.alloc (.cells #[.int .i64 (s.k : Int), .string s.nm, .int .i64 s.at_, .string (strOf s.d)] t)).cell? ((⟨w.heap.size, 0, none⟩ : Addr).add j) = some u := fun j u hj => by
 rw [add_mk, Nat.zero_add, (Blk.new w t _).cell]
 show (stC s).toArray[j]? = some u
 rw [List.getElem?_toArray]
 exact hj
theorem OwnSt.app {w : World} {n0 : Nat} {v : Value} {l : List Stp} {s : Stp} (h : w.ownsRow n0 104 4 v (l.length + 1) ((l.map stC).flatten ++ stC s)) : OwnSt w n0 v (l ++ [s]) := by
 unfold OwnSt
 rw [List.length_append, List.map_append, List.flatten_append]
 have e : ([s].map stC).flatten = stC s := by simp
 rw [e]
 exact h
def HoRel (w1 : World) (l : List Pg) (m : Nat) (v5 v6 : Value) (wr : World) : Prop :=
 ∃ k : Nat, v6 = .int .i64 (k : Int) ∧ k ≤ m ∧ OwnSt wr w1.heap.size v5 (homeW (l.take k)) ∧ Kp NoB w1 wr
theorem homeW_len (l : List Pg) : (homeW l).length = l.length := by unfold homeW; rw [List.length_map]
set_option maxRecDepth 100000 in
set_option maxHeartbeats 1600000 in
theorem home_rok (w : World) (count : Int) (A : Option Addr) (m c : Nat) (l : List Pg) (hl : PgsAt w A m l) (hok : ∀ x ∈ l, PgOk x ∧ 1 ≤ x.n ∧ x.n ≤ 1099511627776) (hm : m ≤ 1099511627776) (hc : -1099511627776 ≤ count ∧ count ≤ 1099511627776) :
  Calls Tryz.prog 55 #[.int .i64 count, .slice A m c] w fun e w' => ∃ v', e = .returned v' ∧ OwnSt w' w.heap.size v' (homeS count l) ∧ Kp NoB w w' := by
 have HL := zh hl
 have hlen : l.length = m := hl.len
 have HLEN := zh hlen
 have HOK := zh hok
 have HM := zh hm
 obtain ⟨j0, hj0, hj1⟩ := Option.map_eq_some_iff.1 infoSt
 simp only [Prod.mk.injEq] at hj1
 have HJ0 := zh hj0
 have HY0 := zh hj1.1
 have HY1 := zh hj1.2.1
 have HY2 := zh hj1.2.2
 have hwc : IntKind.i64.wrap (count * 256) = count * 256 := by rw [IntKind.wrap_i64]; omega
 clear hl hlen hok hj0 hj1
 go_enter Tryz.func55, Tryz.ntmps55
 go_wp2_with fail
 go_loopw [5, 6] (fun v5 v6 wr => HoRel w l m v5 v6 wr) (fun _ v _ => m - (intOf v).toNat)
 case atStart => exact ⟨0, rfl, Nat.zero_le _, World.ownsRow_nil _ _ _ _, Kp.refl _ _⟩
 case round =>
  obtain ⟨wq, rfl⟩ : ∃ wq, wq = wr := ⟨_, rfl⟩
  obtain ⟨k, rfl, hk, how, hkp⟩ := hrel
  have HKP := zh hkp
  obtain ⟨A5, c5, rfl⟩ := own_slice how
  have hkl0 : (homeW (l.take k)).length = k := by rw [homeW_len, List.length_take]; have := HLEN.out; omega
  have HOW : Hid (wq.ownsRow w.heap.size 104 4 (.slice A5 k c5) k ((homeW (l.take k)).map stC).flatten) := zh (by have := how; unfold OwnSt at this; rwa [hkl0] at this)
  rw [hkl0]
  by_cases hlt : k < m
  ·have hkl : k < l.length := by have := HLEN.out; omega
   obtain ⟨x, hx⟩ : ∃ x, l[k] = x := ⟨_, rfl⟩
   have hxk : l[k]? = some x := by rw [List.getElem?_eq_getElem hkl, hx]
   have hxo := HOK.out x (List.mem_of_getElem? hxk)
   have HXO := zh hxo
   have hnx : homeW (l.take (k + 1)) = homeW (l.take k) ++ [⟨0, nmDb, (x.n - 1) * 256, x.b⟩] := by
    unfold homeW
    rw [List.take_add_one, hxk, List.map_append]
    rfl
   have HNX := zh hnx
   obtain ⟨g, o, rfl, hg, hcc⟩ := (show RowsC w A m 257 (l.map pgL) from HL.out).cell (k := k) (x := pgL x) (by rw [List.getElem?_map, hxk]; rfl)
   have HC0 : Hid (∀ V, Kp NoB w V → V.cell? ⟨g, o + k * 257, none⟩ = some (.int .i64 x.n)) := zh (fun V q => (q.cell hg (fun z => z)).trans (hcc 0 _ rfl))
   have HCB : Hid (∀ V, Kp NoB w V → V.rangeAt g (o + k * 257 + 1) (x.b.map (Value.int .u8))) := zh (fun V q j u hj => (q.cell hg (fun z => z)).trans (by
    have := hcc (j + 1) u (by show (x.b.map (Value.int .u8))[j]? = some u; exact hj)
    rwa [show o + k * 257 + (j + 1) = o + k * 257 + 1 + j by omega] at this))
   have hkk : (k : Int) < (m : Int) := by omega
   have hm63 : m ≤ 9223372036854775807 := by have := HM.out; omega
   have hw1 : IntKind.i64.wrap (x.n - 1) = x.n - 1 := by rw [IntKind.wrap_i64]; omega
   have hw2 : IntKind.i64.wrap ((x.n - 1) * 256) = (x.n - 1) * 256 := by rw [IntKind.wrap_i64]; omega
   clear hx hxk hkl hcc hnx hxo how
   go_upto_region 5 with fail
   refine wp_region_held_drew (S := fun V => Kp NoB w V) (by kernel_rfl) hkp.drew (fun hHeld => ?_)
   have k0 : Kp NoB w wq.drew := hkp.drew
   have HOD := zh (own_keepB HOW.out (Kp.refl NoB wq).drew (fun _ _ q => q))
   generalize wq.drew = V0 at k0 hHeld HOD ⊢
   have huw := Tryz.underlying46
   have hiw : (Tryz.prog.info? 46).map (·.size) = some (x.b.map (Value.int .u8)).length := by rw [List.length_map, HXO.out.1.len]; exact info26
   refine tkJ (i := 0) (v := (.slice A5 k c5)) rfl k0 ?_
   simp only [Act.put, sA, sB, sC]
   refine tkJ (i := 1) (v := (.slice (some ⟨g, o, none⟩) m c)) rfl k0 ?_
   simp only [Act.put, sA, sB, sC]
   refine tkJ (i := 2) (v := (.int .i64 (k : Int))) rfl k0 ?_
   simp only [Act.put, sA, sB, sC]
   refine tkJ (i := 3) (v := (.pointer (some ⟨g, o + k * 257, none⟩))) rfl k0 ?_
   simp only [Act.put, sA, sB, sC]
   refine tkJ (i := 4) (v := (.pointer (some ⟨g, o + k * 257, none⟩))) rfl k0 ?_
   simp only [Act.put, sA, sB, sC]
   refine tkS (i := 5) (v := (.int .i64 x.n)) rfl (Or.inl ⟨by rfl, fun w' hq => by (have := HC0.out w' hq); go_simp⟩) k0 ?_
   simp only [Act.put, sA, sB, sC]
   refine tkJ (i := 6) (v := (.int .i64 (x.n - 1))) rfl k0 ?_
   simp only [Act.put, sA, sB, sC]
   refine tkJ (i := 7) (v := (.int .i64 ((x.n - 1) * 256))) rfl k0 ?_
   simp only [Act.put, sA, sB, sC]
   refine tkJ (i := 8) (v := (.slice (some ⟨g, o, none⟩) m c)) rfl k0 ?_
   simp only [Act.put, sA, sB, sC]
   refine tkJ (i := 9) (v := (.int .i64 (k : Int))) rfl k0 ?_
   simp only [Act.put, sA, sB, sC]
   refine tkJ (i := 10) (v := (.pointer (some ⟨g, o + k * 257, none⟩))) rfl k0 ?_
   simp only [Act.put, sA, sB, sC]
   refine tkJ (i := 11) (v := (.pointer (some ⟨g, o + k * 257 + 1, none⟩))) rfl k0 ?_
   simp only [Act.put, sA, sB, sC]
   refine tkS (i := 12) (v := .agg ((x.b.map (Value.int .u8))).toArray) rfl (yieldsIf_load_mid (by rfl) _ _ rfl _ _ rfl (x.b.map (Value.int .u8)) _ (fun V q => HCB.out V q) huw rfl hiw) k0 ?_
   simp only [Act.put, sA, sB, sC]
   refine tkR [13] ?_
   refine AllReadyH.callR (fun y W' => y = .string (strOf x.b) ∧ Kp NoB V0 W') rfl (by rfl) 97 #[.agg (bytesV x.b)] (by first | (go_simp; done) | (go_simp; rfl)) (fun _ _ q => k0.trans q.2 (fun _ _ q => q)) ((text_rok V0 x.b HXO.out.1.len HXO.out.1.rng).mono (by rintro e w' ⟨rfl, hk⟩; exact ⟨_, rfl, rfl, hk⟩)) ?_ AllReadyH.nil
   rintro y V1 ⟨rfl, k1⟩
   simp only [Act.put, sA, sB, sC]
   obtain ⟨s9, hs9⟩ : ∃ s9 : Stp, (⟨0, nmDb, (x.n - 1) * 256, x.b⟩ : Stp) = s9 := ⟨_, rfl⟩
   have HS9 := zh hs9
   have k01 := k0.trans k1 (fun _ _ q => q)
   have HO1 := zh (own_keepB HOD.out k1 (fun _ _ q => q))
   refine tkJ (i := 14) (v := (.agg #[.int .i64 0, .string ⟨#[100, 98]⟩, .int .i64 ((x.n - 1) * 256), .string (strOf x.b)])) rfl k01 ?_
   simp only [Act.put, sA, sB, sC]
   refine tkR [15] ?_
   refine AllReadyH.valR (fun W' => W' = V1.alloc (.cells #[.int .i64 0, .string ⟨#[100, 98]⟩, .int .i64 ((x.n - 1) * 256), .string (strOf x.b)] 104)) rfl (by rfl) (.slice (some ⟨V1.heap.size, 0, none⟩) 1 1) _ (by first | (go_simp; done) | (go_simp; rfl)) (fun W' e => by rw [e]; exact k01.alloc _) rfl ?_ AllReadyH.nil
   rintro _ rfl
   simp only [Act.put, sA, sB, sC]
   have hcl := st_cells V1 ⟨0, nmDb, (x.n - 1) * 256, x.b⟩ 104
   have ka : Kp NoB w (V1.alloc (.cells #[.int .i64 0, .string ⟨#[100, 98]⟩, .int .i64 ((x.n - 1) * 256), .string (strOf x.b)] 104)) := k01.alloc _
   have HOA := zh (own_keepB HO1.out ((Kp.refl NoB V1).alloc (.cells #[.int .i64 0, .string ⟨#[100, 98]⟩, .int .i64 ((x.n - 1) * 256), .string (strOf x.b)] 104)) (fun _ _ q => q))
   refine tkR [16] ?_
   refine AllReadyH.appendB rfl (by rfl) w.heap.size 104 j0 _ 4 48 Tryz.underlying100 HJ0.out HY0.out HY1.out HY2.out rfl (by omega) (.slice A5 k c5) k ((homeW (l.take k)).map stC).flatten rfl HOA.out ⟨V1.heap.size, 0, none⟩ 1 1 (stC ⟨0, nmDb, (x.n - 1) * 256, x.b⟩) rfl rfl hcl (fun u hu => st_one [⟨0, nmDb, (x.n - 1) * 256, x.b⟩] u (by simpa using hu)) (by have := HM.out; unfold maxLen; omega) (by have := HM.out; omega) ka.size (fun v' w' q1 q2 _ => ka.own q2 rfl HOA.out) ?_ AllReadyH.nil
   intro v7 w7 hown7 hgrow7 _
   simp only [Act.put, sA, sB, sC]
   have k7 := ka.own hgrow7 rfl HOA.out
   obtain ⟨A7, c7, rfl⟩ := own_slice hown7
   refine tkJ (i := 17) (v := (.slice A7 (k + 1) c7)) rfl k7 ?_
   simp only [Act.put, sA, sB, sC]
   refine wpAnyH_done (by kernel_rfl) ?_ _
   have HN : Hid (HoRel w l m (.slice A7 (k + 1) c7) (.int .i64 ((k + 1 : Nat) : Int)) w7) := zh ⟨k + 1, rfl, by omega, by rw [HNX.out]; exact OwnSt.app (by rw [hkl0]; exact hown7), k7⟩
   clear hHeld HOD k0 k1 k01 ka hcl hown7 hgrow7 k7 hkl0
   go_wp2_with fail
   go_roundw
   case rel => exact HN.out
   case measure => simp [intOf]; omega
  ·have hkk : ¬ (k : Int) < (m : Int) := by omega
   obtain rfl : k = m := by omega
   have hmm := HM.out
   have hall : l.take k = l := List.take_of_length_le (by have := HLEN.out; omega)
   rw [hall] at HOW hkl0
   have HKL := zh hkl0
   clear how hkl0 hall hkp
   go_upto_region 7 with (at_builtin; refine wpList_append_ownB rfl _ _ 100 rfl w.heap.size 104 j0 _ 4 48 Tryz.underlying100 HJ0.out HY0.out HY1.out HY2.out rfl (by omega) _ k ((homeW l).map stC).flatten rfl (own_keepB HOW.out ((Kp.refl NoB wq).alloc _) (fun _ _ q => q)) ⟨wq.heap.size, 0, none⟩ 1 1 (stC ⟨1, nmDb, count * 256, []⟩) rfl rfl (st_cells wq ⟨1, nmDb, count * 256, []⟩ _) (fun u hu => st_one [⟨1, nmDb, count * 256, []⟩] u (by simpa using hu)) (by have := HM.out; unfold maxLen; omega) (by have := HM.out; omega) (by have := HKP.out.size; simp; omega) ?_; intro v3 w3 hown3 hgrow3 _; have HO3 := zh hown3; have hk3 := (HKP.out.alloc _).own hgrow3 rfl HOW.out; have HK3 := zh hk3; obtain ⟨A3, c3, rfl⟩ := own_slice hown3; clear hown3 hgrow3 hk3)
   go_wp2_with (at_builtin; refine wpList_append_ownB rfl _ _ 100 rfl w.heap.size 104 j0 _ 4 48 Tryz.underlying100 HJ0.out HY0.out HY1.out HY2.out rfl (by omega) _ (k + 1) (((homeW l).map stC).flatten ++ stC ⟨1, nmDb, count * 256, []⟩) rfl (own_keepB HO3.out ((Kp.refl NoB w3).alloc _) (fun _ _ q => q)) ⟨w3.heap.size, 0, none⟩ 1 1 (stC ⟨2, nmDb, 0, []⟩) rfl rfl (st_cells w3 ⟨2, nmDb, 0, []⟩ _) (fun u hu => st_one [⟨2, nmDb, 0, []⟩] u (by simpa using hu)) (by have := HM.out; unfold maxLen; omega) (by have := HM.out; omega) (by have := HK3.out.size; simp; omega) ?_; intro v4 w4 hown4 hgrow4 _; have HO4 := zh hown4; have hk4 := (HK3.out.alloc _).own hgrow4 rfl HO3.out; have HK4 := zh hk4; obtain ⟨A4, c4, rfl⟩ := own_slice hown4; clear hown4 hgrow4 hk4)
   go_ret
   refine ⟨_, rfl, ?_, HK4.out⟩
   have h9 : OwnSt w4 w.heap.size (.slice A4 (k + 1 + 1) c4) ((homeW l ++ [⟨1, nmDb, count * 256, []⟩]) ++ [⟨2, nmDb, 0, []⟩]) := by
    refine OwnSt.app ?_
    rw [List.length_append, HKL.out, List.map_append, List.flatten_append]
    have e1 : ([⟨1, nmDb, count * 256, []⟩].map stC).flatten = stC ⟨1, nmDb, count * 256, []⟩ := by simp
    rw [e1]
    exact HO4.out
   rw [List.append_assoc] at h9
   exact h9
end
section
open Go.RowKit
end
section
open Go.RowKit
theorem results_cell_tmp2 {fn : Func} {p u v : Tmp} {ty : TypeId} (h : fn.results = #[.cell p ty, .tmp u, .tmp v]) (tmps : Array Value) (P : Program) (w : World) :
  (results fn tmps).run P w =
   ((asAddr (tmps.getD p undef)).run P w).andThen fun a w₁ => ((loadVar ty a).run P w₁).andThen fun x w₂ => .ok (.tuple #[x, tmps.getD u undef, tmps.getD v undef]) w₂ := by
 simp only [results, h]
 simp [Sem.run_bind, Result.andThen]
theorem ret_cell_tmp2 {P : Program} {fn : Func} {p u v : Tmp} {ty : TypeId} (h : fn.results = #[.cell p ty, .tmp u, .tmp v]) (tmps : Array Value) (w : World) (g : Nat) (t : TypeId) (cs : Array Value) (d : TypeDesc)
  (hp : tmps.getD p undef = .pointer (some ⟨g, 0, none⟩)) (hg : Blk w g t cs)
  (hu : P.underlying ty = some d) (hd : (match d with | .struct _ | .array _ _ => true | _ => false) = true) (hi : (P.info? ty).map (·.size) = some cs.size) (x y : Value) (hx : tmps.getD u undef = x) (hy : tmps.getD v undef = y) :
  (results fn tmps).run P w = .ok (.tuple #[.agg cs, x, y]) w := by
 rw [results_cell_tmp2 h, hp]
 simp only [asAddr, Sem.run_pure, Result.andThen_ok, run_loadVar_row w g t ty cs (0, 0) d hg hu hd hi, hx, hy]
structure StOk (s : Stp) : Prop where
 nl : s.nm.size ≤ maxLen
 at_ : -9223372036854775808 ≤ s.at_ ∧ s.at_ ≤ 9223372036854775807
 rng : ∀ y ∈ s.d, 0 ≤ y ∧ y < 256
 dl : s.d.length ≤ maxLen
 k : s.k ≤ 2
def MkRel (w : World) (s0 : Nat) (p : Pl) (l : List Stp) (v7 : Value) (wr : World) : Prop :=
 ∃ (k : Nat) (dk : Rd) (pk : Pl), v7 = .int .i64 (k : Int) ∧ k ≤ l.length ∧ p.runS l = pk.runS (l.drop k) ∧ Blk wr s0 29 (rdC dk pk) ∧ Rf wr dk pk ∧ Blk wr (s0 + 1) 29 rdZ ∧ pk.sm (20000 * (l.length - k) + 30000) ∧ Kp NoB w wr
set_option maxRecDepth 100000 in
set_option maxHeartbeats 1600000 in
theorem make_rok (w : World) (d : Rd) (p : Pl) (A : Option Addr) (n c : Nat) (l : List Stp) (h : Rf w d p) (hl : RowsC w A n 4 (l.map stC)) (hok : ∀ s ∈ l, StOk s) (hn : n ≤ 1099511627776) (hsm : p.sm (20000 * l.length + 30000)) :
  Calls Tryz.prog 47 #[rdV d p, .slice A n c] w fun e w' => ∃ d' i, e = .returned (.tuple #[rdV d' (p.runS l).1, .int .i64 i, .int .i64 (p.runS l).2]) ∧ Rf w' d' (p.runS l).1 ∧ Kp NoB w w' := by
 have H := zh h
 have HL := zh hl
 have hlen : l.length = n := by have := hl.1; simpa using this
 have HLEN := zh hlen
 have HOK := zh hok
 have HN := zh hn
 have HSM := zh hsm
 have hb0 : Blk ((w.alloc (.cells (rdC d p) 29)).alloc (.cells rdZ 29)) w.heap.size 29 (rdC d p) := (Blk.new w _ _).alloc _
 have hb2 : Blk ((w.alloc (.cells (rdC d p) 29)).alloc (.cells rdZ 29)) (w.heap.size + 1) 29 rdZ := Blk.top (by simp)
 have hk : Kp NoB w ((w.alloc (.cells (rdC d p) 29)).alloc (.cells rdZ 29)) := ((Kp.refl NoB w).alloc _).alloc _
 clear h hl hlen hok hn hsm
 unfold rdV
 go_enter Tryz.func47, Tryz.ntmps47
 go_upto_region 1 with fail
 unfold rdC rdZ at hb0 hb2 hk
 generalize (w.alloc (.cells #[.bool true, .bool p.down, .slice d.fA d.fn d.fc, .slice d.pA d.pn d.pc, .int .i64 p.room, .int .i64 p.steps, .int .i64 p.crash, .int .i64 p.starts] 29)).alloc (.cells #[.bool false, .bool false, .slice none 0 0, .slice none 0 0, .int .i64 0, .int .i64 0, .int .i64 0, .int .i64 0] 29) = w2 at hb0 hb2 hk ⊢
 generalize hs0 : w.heap.size = s0 at hb0 hb2 ⊢
 have HS0 := zh hs0
 have HB0 : Hid (Blk w2 s0 29 (rdC d p)) := zh hb0
 have HB2 : Hid (Blk w2 (s0 + 1) 29 rdZ) := zh hb2
 have HK := zh hk
 clear hs0 hb0 hb2 hk
 go_wp2_with fail
 go_loopw [7, 8] (fun v7 v8 wr => MkRel w s0 p l v7 wr) (fun v _ _ => n - (intOf v).toNat)
 case atStart => exact ⟨0, d, p, rfl, Nat.zero_le _, rfl, HB0.out, H.out.keep HK.out, HB2.out, by rw [Nat.sub_zero]; exact HSM.out, HK.out⟩
 case round =>
  obtain ⟨wq, rfl⟩ : ∃ wq, wq = wr := ⟨_, rfl⟩
  obtain ⟨k, dk, pk, rfl, hk, hru, hb0, hr, hb2, hsm, hkp⟩ := hrel
  clear HB0 HB2 HK
  have HB0 := zh hb0
  have HB2 := zh hb2
  have HK := zh hkp
  have HR := zh hr
  have HRU := zh hru
  have HSMK := zh hsm
  clear hb0 hb2 hkp hr hru hsm
  by_cases hlt : k < n
  ·have hkl : k < l.length := by have := HLEN.out; omega
   obtain ⟨st, hst⟩ : ∃ s, l[k] = s := ⟨_, rfl⟩
   have hsk : l[k]? = some st := by rw [List.getElem?_eq_getElem hkl, hst]
   have hso := HOK.out st (List.mem_of_getElem? hsk)
   have HSO := zh hso
   have hdr : l.drop k = st :: l.drop (k + 1) := by rw [List.drop_eq_getElem_cons hkl, hst]
   have HDR := zh hdr
   obtain ⟨g, o, rfl, hg, hcc⟩ := HL.out.cell (k := k) (x := stC st) (by rw [List.getElem?_map, hsk]; rfl)
   have hgs : g ≠ s0 := by have := HS0.out; omega
   have hgq : g < wq.heap.size := Nat.lt_of_lt_of_le hg HK.out.size
   have HCC : Hid (∀ V, Kp (OnB s0) wq V → ∀ j v, (stC st)[j]? = some v → V.cell? ⟨g, o + k * 4 + j, none⟩ = some v) := zh (fun V q j v hj => (q.cell hgq hgs).trans ((HK.out.cell hg (fun z => z)).trans (hcc j v hj)))
   have hkk : (k : Int) < (n : Int) := by omega
   have hn63 : n ≤ 9223372036854775807 := by have := HN.out; omega
   have hsm1 : pk.nf + pk.pd.length + 50000 ≤ 1099511627776 := by
    have h1 := HSMK.out
    unfold Pl.sm at h1
    have : 20000 * (l.length - k) ≥ 20000 := by omega
    omega
   obtain ⟨sk, snm, sat, sd⟩ := st
   have q0 : wq.cell? ⟨g, o + k * 4, none⟩ = some (.int .i64 (sk : Int)) := by have := HCC.out wq (Kp.refl _ wq) 0 _ rfl; rwa [Nat.add_zero] at this
   clear hst hsk hso hdr hcc hkl hg
   by_cases hs0 : sk = 0
   ·subst hs0
    go_upto_region 8 with fail
    have hl0 := HB0.out.lt
    refine wp_region_held_drew (S := fun V => Kp (OnB s0) wq V) (by kernel_rfl) (Kp.refl (OnB s0) wq).drew (fun hHeld => ?_)
    have k0 : Kp (OnB s0) wq wq.drew := (Kp.refl (OnB s0) wq).drew
    have kn : Kp NoB wq wq.drew := (Kp.refl NoB wq).drew
    generalize wq.drew = V0 at k0 kn hHeld ⊢
    refine tkJ (i := 1) (v := (.slice (some ⟨g, o, none⟩) n c)) rfl k0 ?_
    simp only [Act.put, sA, sB, sC]
    refine tkJ (i := 2) (v := (.int .i64 (k : Int))) rfl k0 ?_
    simp only [Act.put, sA, sB, sC]
    refine tkJ (i := 3) (v := (.pointer (some ⟨g, o + k * 4, none⟩))) rfl k0 ?_
    simp only [Act.put, sA, sB, sC]
    refine tkJ (i := 4) (v := (.pointer (some ⟨g, o + k * 4 + 1, none⟩))) rfl k0 ?_
    simp only [Act.put, sA, sB, sC]
    refine tkS (i := 5) (v := (.string snm)) rfl (Or.inl ⟨by rfl, fun w' hq => by (have := HCC.out w' hq 1 _ rfl); go_simp⟩) k0 ?_
    simp only [Act.put, sA, sB, sC]
    refine tkJ (i := 6) (v := (.slice (some ⟨g, o, none⟩) n c)) rfl k0 ?_
    simp only [Act.put, sA, sB, sC]
    refine tkJ (i := 7) (v := (.int .i64 (k : Int))) rfl k0 ?_
    simp only [Act.put, sA, sB, sC]
    refine tkJ (i := 8) (v := (.pointer (some ⟨g, o + k * 4, none⟩))) rfl k0 ?_
    simp only [Act.put, sA, sB, sC]
    refine tkJ (i := 9) (v := (.pointer (some ⟨g, o + k * 4 + 2, none⟩))) rfl k0 ?_
    simp only [Act.put, sA, sB, sC]
    refine tkS (i := 10) (v := (.int .i64 sat)) rfl (Or.inl ⟨by rfl, fun w' hq => by (have := HCC.out w' hq 2 _ rfl); go_simp⟩) k0 ?_
    simp only [Act.put, sA, sB, sC]
    refine tkJ (i := 11) (v := (.slice (some ⟨g, o, none⟩) n c)) rfl k0 ?_
    simp only [Act.put, sA, sB, sC]
    refine tkJ (i := 12) (v := (.int .i64 (k : Int))) rfl k0 ?_
    simp only [Act.put, sA, sB, sC]
    refine tkJ (i := 13) (v := (.pointer (some ⟨g, o + k * 4, none⟩))) rfl k0 ?_
    simp only [Act.put, sA, sB, sC]
    refine tkJ (i := 14) (v := (.pointer (some ⟨g, o + k * 4 + 3, none⟩))) rfl k0 ?_
    simp only [Act.put, sA, sB, sC]
    refine tkS (i := 15) (v := (.string (strOf sd))) rfl (Or.inl ⟨by rfl, fun w' hq => by (have := HCC.out w' hq 3 _ rfl); go_simp⟩) k0 ?_
    simp only [Act.put, sA, sB, sC]
    refine tkR [0] ?_
    refine AllReadyH.valR (fun W' => V0 = W') rfl (by rfl) (rdV dk pk) _ (by (obtain ⟨c0, c1, c2, c3, c4, c5, c6, c7⟩ := (HB0.out.keep kn (fun q => q)).rdc; unfold rdV; go_simp)) (fun _ e => by rw [← e]; exact k0) rfl ?_ AllReadyH.nil
    rintro _ rfl
    simp only [Act.put, sA, sB, sC]
    obtain ⟨q, hq⟩ : ∃ q, pk.write snm sat sd = q := ⟨_, rfl⟩
    obtain ⟨E, hE⟩ : ∃ E, pk.writeE snm sat sd = E := ⟨_, rfl⟩
    have HQE : Hid (pk.stE ⟨0, snm, sat, sd⟩ = E ∧ pk.stP ⟨0, snm, sat, sd⟩ = q) := zh ⟨hE, hq⟩
    have HSQ : Hid (q.sm (20000 * (l.length - (k + 1)) + 30000)) := zh (by rw [← hq]; exact sm_write _ _ _ (sm_mono HSMK.out (by have := HLEN.out; omega)))
    have HCALL : Hid (Calls Tryz.prog 26 #[rdV dk pk, .string snm, .int .i64 sat, .string (strOf sd)] V0 fun e w' => ∃ d', e = .returned (.tuple #[rdV d' q, .int .i64 E]) ∧ Rf w' d' q ∧ Kp NoB V0 w') := zh (by
     have hsd := strI_strOf sd HSO.out.rng
     have h9 := write_okR V0 dk pk snm sat (strOf sd) (HR.out.keep kn) HSO.out.nl (by rw [strOf_size]; exact HSO.out.dl) HSO.out.at_ (by omega) (by omega)
     rw [hsd, hq, hE] at h9
     exact h9)
    clear hq hE
    refine tkR [16] ?_
    refine AllReadyH.callR (fun y W' => ∃ d', y = .tuple #[rdV d' q, .int .i64 E] ∧ Rf W' d' q ∧ Kp NoB wq W') rfl (by rfl) 26 #[rdV dk pk, .string snm, .int .i64 sat, .string (strOf sd)] (by first | (go_simp; done) | (go_simp; rfl)) (fun _ _ q => (by obtain ⟨d', _, _, q3⟩ := q; exact q3.mono (fun _ _ z => z.elim))) (HCALL.out.mono (by rintro e w' ⟨d', rfl, h2, hk⟩; exact ⟨_, rfl, d', rfl, h2, kn.trans hk (fun _ _ q => q)⟩)) ?_ AllReadyH.nil
    rintro y V1 ⟨d', rfl, h2, k1⟩
    simp only [Act.put, sA, sB, sC]
    have k1' : Kp (OnB s0) wq V1 := k1.mono (fun _ _ z => z.elim)
    refine tkJ (i := 17) (v := (.tuple #[rdV d' q, .int .i64 E])) rfl k1' ?_
    simp only [Act.put, sA, sB, sC]
    refine tkJ (i := 18) (v := (rdV d' q)) rfl k1' ?_
    simp only [Act.put, sA, sB, sC]
    refine tkJ (i := 19) (v := (.int .i64 E)) rfl k1' ?_
    simp only [Act.put, sA, sB, sC]
    refine tkR [20] ?_
    refine AllReadyH.skipR rfl (by rfl) (((((((((V1.setCell ⟨s0, 0, none⟩ (.bool true)).setCell ⟨s0, 1, none⟩ (.bool q.down)).setCell ⟨s0, 2, none⟩ (.slice d'.fA d'.fn d'.fc)).setCell ⟨s0, 3, none⟩ (.slice d'.pA d'.pn d'.pc)).setCell ⟨s0, 4, none⟩ (.int .i64 q.room)).setCell ⟨s0, 5, none⟩ (.int .i64 q.steps)).setCell ⟨s0, 6, none⟩ (.int .i64 q.crash)).setCell ⟨s0, 7, none⟩ (.int .i64 q.starts))) (by (obtain ⟨c0, c1, c2, c3, c4, c5, c6, c7⟩ := (HB0.out.keep k1 (fun q => q)).rdc; obtain ⟨z0, z1, z2, z3, z4, z5, z6, z7⟩ := (HB0.out.keep k1 (fun q => q)).z8; unfold rdV; go_simp)) (kp8 k1' (.inr rfl)) ?_ AllReadyH.nil
    refine tkJ (i := 21) (v := (.int .i64 E)) rfl (kp8 k1' (.inr rfl)) ?_
    simp only [Act.put, sA, sB, sC]
    refine wpAnyH_done (by kernel_rfl) ?_ _
    clear k1'
    have hb0' := HB0.out.keep k1 (fun q => q)
    refine forgetQ (fun V => Blk V s0 29 (rdC d' q) ∧ Rf V d' q ∧ Blk V (s0 + 1) 29 rdZ ∧ Kp NoB w V) ⟨blk8 hb0' rfl, h2.keepB (kp8 (Kp.refl (OnB s0) V1) (.inr rfl)) hb0' (rdC_str _ _), (HB2.out.keep k1 (fun q => q)).keep (kp8 (Kp.refl (OnB s0) V1) (.inr rfl)) (fun q => by have q' : s0 + 1 = s0 := q; omega), kp8 (HK.out.trans k1 (fun _ _ q => q)) (.inl (by have := HS0.out; omega))⟩ ?_
    rintro V ⟨hV0, hVR, hV2, hVK⟩
    have XB0 := zh hV0
    have XR := zh hVR
    have XB2 := zh hV2
    have XK := zh hVK
    clear hHeld k0 kn k1 h2 hb0' hV0 hVR hV2 hVK q0
    have hrun : p.runS l = if E = 0 then q.runS (l.drop (k + 1)) else (q, E) := by rw [HRU.out, HDR.out, runS_cons, HQE.out.1, HQE.out.2]
    by_cases hE : E = 0
    ·subst hE
     rw [if_pos rfl] at hrun
     have HN9 : Hid (MkRel w s0 p l (.int .i64 ((k + 1 : Nat) : Int)) V) := zh ⟨k + 1, d', q, rfl, by have := HLEN.out; omega, hrun, XB0.out, XR.out, XB2.out, HSQ.out, XK.out⟩
     clear hrun
     go_wp2_with fail
     go_roundw
     case rel => exact HN9.out
     case measure => simp [intOf]; omega
    ·rw [if_neg hE] at hrun
     have HRUN := zh hrun
     have hE2 : (E != 0) = true := by simpa using hE
     have hE3 : (E == 0) = false := by simpa using hE
     clear hrun hE
     obtain ⟨c0, c1, c2, c3, c4, c5, c6, c7⟩ := XB0.out.rdc
     obtain ⟨y0, y1, y2, y3, y4, y5, y6, y7⟩ := XB2.out.c8
     obtain ⟨z0, z1, z2, z3, z4, z5, z6, z7⟩ := XB2.out.z8
     have hl0 := XB0.out.lt
     have hl2 := XB2.out.lt
     go_wp2_with fail
     have kz9 : w.heap.size ≤ s0 + 1 := by have := HS0.out; omega
     first
      | exact bodyPost_ret (ret_cell_tmp2 rfl _ _ _ _ _ _ rfl (blk8 XB2.out rfl) Tryz.underlying29 rfl (by exact infoRd) _ _ rfl rfl) rfl ⟨d', _, by rw [HRUN.out]; rfl, by rw [HRUN.out]; exact XR.out.keepB (kp8 (Kp.refl _ V) (.inr rfl)) XB2.out rdZ_str, kp8 XK.out (.inl kz9)⟩
      | exact bodyPost_ret (ret_cell_tmp2 rfl _ _ _ _ _ _ rfl (blk8 XB2.out rfl) Tryz.underlying29 rfl (by exact infoRd) _ _ rfl rfl) rfl ⟨d', ⟨_, by rw [HRUN.out]; rfl⟩, by rw [HRUN.out]; exact XR.out.keepB (kp8 (Kp.refl _ V) (.inr rfl)) XB2.out rdZ_str, kp8 XK.out (.inl kz9)⟩
   ·rcases (show sk = 1 ∨ sk = 2 by have h9 := HSO.out.k; have h8 : sk ≤ 2 := h9; omega) with hs1 | hs1
    ·subst hs1
     clear hs0
     go_upto_region 10 with fail
     have hl0 := HB0.out.lt
     refine wp_region_held_drew (S := fun V => Kp (OnB s0) wq V) (by kernel_rfl) (Kp.refl (OnB s0) wq).drew (fun hHeld => ?_)
     have k0 : Kp (OnB s0) wq wq.drew := (Kp.refl (OnB s0) wq).drew
     have kn : Kp NoB wq wq.drew := (Kp.refl NoB wq).drew
     generalize wq.drew = V0 at k0 kn hHeld ⊢
     refine tkJ (i := 1) (v := (.slice (some ⟨g, o, none⟩) n c)) rfl k0 ?_
     simp only [Act.put, sA, sB, sC]
     refine tkJ (i := 2) (v := (.int .i64 (k : Int))) rfl k0 ?_
     simp only [Act.put, sA, sB, sC]
     refine tkJ (i := 3) (v := (.pointer (some ⟨g, o + k * 4, none⟩))) rfl k0 ?_
     simp only [Act.put, sA, sB, sC]
     refine tkJ (i := 4) (v := (.pointer (some ⟨g, o + k * 4 + 1, none⟩))) rfl k0 ?_
     simp only [Act.put, sA, sB, sC]
     refine tkS (i := 5) (v := (.string snm)) rfl (Or.inl ⟨by rfl, fun w' hq => by (have := HCC.out w' hq 1 _ rfl); go_simp⟩) k0 ?_
     simp only [Act.put, sA, sB, sC]
     refine tkJ (i := 6) (v := (.slice (some ⟨g, o, none⟩) n c)) rfl k0 ?_
     simp only [Act.put, sA, sB, sC]
     refine tkJ (i := 7) (v := (.int .i64 (k : Int))) rfl k0 ?_
     simp only [Act.put, sA, sB, sC]
     refine tkJ (i := 8) (v := (.pointer (some ⟨g, o + k * 4, none⟩))) rfl k0 ?_
     simp only [Act.put, sA, sB, sC]
     refine tkJ (i := 9) (v := (.pointer (some ⟨g, o + k * 4 + 2, none⟩))) rfl k0 ?_
     simp only [Act.put, sA, sB, sC]
     refine tkS (i := 10) (v := (.int .i64 sat)) rfl (Or.inl ⟨by rfl, fun w' hq => by (have := HCC.out w' hq 2 _ rfl); go_simp⟩) k0 ?_
     simp only [Act.put, sA, sB, sC]
     refine tkR [0] ?_
     refine AllReadyH.valR (fun W' => V0 = W') rfl (by rfl) (rdV dk pk) _ (by (obtain ⟨c0, c1, c2, c3, c4, c5, c6, c7⟩ := (HB0.out.keep kn (fun q => q)).rdc; unfold rdV; go_simp)) (fun _ e => by rw [← e]; exact k0) rfl ?_ AllReadyH.nil
     rintro _ rfl
     simp only [Act.put, sA, sB, sC]
     obtain ⟨q, hq⟩ : ∃ q, pk.trunc snm sat = q := ⟨_, rfl⟩
     obtain ⟨E, hE⟩ : ∃ E, pk.truncE snm sat = E := ⟨_, rfl⟩
     have HQE : Hid (pk.stE ⟨1, snm, sat, sd⟩ = E ∧ pk.stP ⟨1, snm, sat, sd⟩ = q) := zh ⟨hE, hq⟩
     have HSQ : Hid (q.sm (20000 * (l.length - (k + 1)) + 30000)) := zh (by rw [← hq]; exact sm_trunc _ _ (sm_mono HSMK.out (by have := HLEN.out; omega)))
     have HCALL : Hid (Calls Tryz.prog 98 #[rdV dk pk, .string snm, .int .i64 sat] V0 fun e w' => ∃ d', e = .returned (.tuple #[rdV d' q, .int .i64 E]) ∧ Rf w' d' q ∧ Kp NoB V0 w') := zh (by
      have h9 := trunc_okR V0 dk pk snm sat (HR.out.keep kn) HSO.out.nl HSO.out.at_ (by omega) (by omega)
      rw [hq, hE] at h9
      exact h9)
     clear hq hE
     refine tkR [11] ?_
     refine AllReadyH.callR (fun y W' => ∃ d', y = .tuple #[rdV d' q, .int .i64 E] ∧ Rf W' d' q ∧ Kp NoB wq W') rfl (by rfl) 98 #[rdV dk pk, .string snm, .int .i64 sat] (by first | (go_simp; done) | (go_simp; rfl)) (fun _ _ q => (by obtain ⟨d', _, _, q3⟩ := q; exact q3.mono (fun _ _ z => z.elim))) (HCALL.out.mono (by rintro e w' ⟨d', rfl, h2, hk⟩; exact ⟨_, rfl, d', rfl, h2, kn.trans hk (fun _ _ q => q)⟩)) ?_ AllReadyH.nil
     rintro y V1 ⟨d', rfl, h2, k1⟩
     simp only [Act.put, sA, sB, sC]
     have k1' : Kp (OnB s0) wq V1 := k1.mono (fun _ _ z => z.elim)
     refine tkJ (i := 12) (v := (.tuple #[rdV d' q, .int .i64 E])) rfl k1' ?_
     simp only [Act.put, sA, sB, sC]
     refine tkJ (i := 13) (v := (rdV d' q)) rfl k1' ?_
     simp only [Act.put, sA, sB, sC]
     refine tkJ (i := 14) (v := (.int .i64 E)) rfl k1' ?_
     simp only [Act.put, sA, sB, sC]
     refine tkR [15] ?_
     refine AllReadyH.skipR rfl (by rfl) (((((((((V1.setCell ⟨s0, 0, none⟩ (.bool true)).setCell ⟨s0, 1, none⟩ (.bool q.down)).setCell ⟨s0, 2, none⟩ (.slice d'.fA d'.fn d'.fc)).setCell ⟨s0, 3, none⟩ (.slice d'.pA d'.pn d'.pc)).setCell ⟨s0, 4, none⟩ (.int .i64 q.room)).setCell ⟨s0, 5, none⟩ (.int .i64 q.steps)).setCell ⟨s0, 6, none⟩ (.int .i64 q.crash)).setCell ⟨s0, 7, none⟩ (.int .i64 q.starts))) (by (obtain ⟨c0, c1, c2, c3, c4, c5, c6, c7⟩ := (HB0.out.keep k1 (fun q => q)).rdc; obtain ⟨z0, z1, z2, z3, z4, z5, z6, z7⟩ := (HB0.out.keep k1 (fun q => q)).z8; unfold rdV; go_simp)) (kp8 k1' (.inr rfl)) ?_ AllReadyH.nil
     refine tkJ (i := 16) (v := (.int .i64 E)) rfl (kp8 k1' (.inr rfl)) ?_
     simp only [Act.put, sA, sB, sC]
     refine wpAnyH_done (by kernel_rfl) ?_ _
     clear k1'
     have hb0' := HB0.out.keep k1 (fun q => q)
     refine forgetQ (fun V => Blk V s0 29 (rdC d' q) ∧ Rf V d' q ∧ Blk V (s0 + 1) 29 rdZ ∧ Kp NoB w V) ⟨blk8 hb0' rfl, h2.keepB (kp8 (Kp.refl (OnB s0) V1) (.inr rfl)) hb0' (rdC_str _ _), (HB2.out.keep k1 (fun q => q)).keep (kp8 (Kp.refl (OnB s0) V1) (.inr rfl)) (fun q => by have q' : s0 + 1 = s0 := q; omega), kp8 (HK.out.trans k1 (fun _ _ q => q)) (.inl (by have := HS0.out; omega))⟩ ?_
     rintro V ⟨hV0, hVR, hV2, hVK⟩
     have XB0 := zh hV0
     have XR := zh hVR
     have XB2 := zh hV2
     have XK := zh hVK
     clear hHeld k0 kn k1 h2 hb0' hV0 hVR hV2 hVK q0
     have hrun : p.runS l = if E = 0 then q.runS (l.drop (k + 1)) else (q, E) := by rw [HRU.out, HDR.out, runS_cons, HQE.out.1, HQE.out.2]
     by_cases hE : E = 0
     ·subst hE
      rw [if_pos rfl] at hrun
      have HN9 : Hid (MkRel w s0 p l (.int .i64 ((k + 1 : Nat) : Int)) V) := zh ⟨k + 1, d', q, rfl, by have := HLEN.out; omega, hrun, XB0.out, XR.out, XB2.out, HSQ.out, XK.out⟩
      clear hrun
      go_wp2_with fail
      go_roundw
      case rel => exact HN9.out
      case measure => simp [intOf]; omega
     ·rw [if_neg hE] at hrun
      have HRUN := zh hrun
      have hE2 : (E != 0) = true := by simpa using hE
      have hE3 : (E == 0) = false := by simpa using hE
      clear hrun hE
      obtain ⟨c0, c1, c2, c3, c4, c5, c6, c7⟩ := XB0.out.rdc
      obtain ⟨y0, y1, y2, y3, y4, y5, y6, y7⟩ := XB2.out.c8
      obtain ⟨z0, z1, z2, z3, z4, z5, z6, z7⟩ := XB2.out.z8
      have hl0 := XB0.out.lt
      have hl2 := XB2.out.lt
      go_wp2_with fail
      have kz9 : w.heap.size ≤ s0 + 1 := by have := HS0.out; omega
      first
       | exact bodyPost_ret (ret_cell_tmp2 rfl _ _ _ _ _ _ rfl (blk8 XB2.out rfl) Tryz.underlying29 rfl (by exact infoRd) _ _ rfl rfl) rfl ⟨d', _, by rw [HRUN.out]; rfl, by rw [HRUN.out]; exact XR.out.keepB (kp8 (Kp.refl _ V) (.inr rfl)) XB2.out rdZ_str, kp8 XK.out (.inl kz9)⟩
       | exact bodyPost_ret (ret_cell_tmp2 rfl _ _ _ _ _ _ rfl (blk8 XB2.out rfl) Tryz.underlying29 rfl (by exact infoRd) _ _ rfl rfl) rfl ⟨d', ⟨_, by rw [HRUN.out]; rfl⟩, by rw [HRUN.out]; exact XR.out.keepB (kp8 (Kp.refl _ V) (.inr rfl)) XB2.out rdZ_str, kp8 XK.out (.inl kz9)⟩
    ·subst hs1
     clear hs0
     go_upto_region 6 with fail
     have hl0 := HB0.out.lt
     refine wp_region_held_drew (S := fun V => Kp (OnB s0) wq V) (by kernel_rfl) (Kp.refl (OnB s0) wq).drew (fun hHeld => ?_)
     have k0 : Kp (OnB s0) wq wq.drew := (Kp.refl (OnB s0) wq).drew
     have kn : Kp NoB wq wq.drew := (Kp.refl NoB wq).drew
     generalize wq.drew = V0 at k0 kn hHeld ⊢
     refine tkJ (i := 1) (v := (.slice (some ⟨g, o, none⟩) n c)) rfl k0 ?_
     simp only [Act.put, sA, sB, sC]
     refine tkJ (i := 2) (v := (.int .i64 (k : Int))) rfl k0 ?_
     simp only [Act.put, sA, sB, sC]
     refine tkJ (i := 3) (v := (.pointer (some ⟨g, o + k * 4, none⟩))) rfl k0 ?_
     simp only [Act.put, sA, sB, sC]
     refine tkJ (i := 4) (v := (.pointer (some ⟨g, o + k * 4 + 1, none⟩))) rfl k0 ?_
     simp only [Act.put, sA, sB, sC]
     refine tkS (i := 5) (v := (.string snm)) rfl (Or.inl ⟨by rfl, fun w' hq => by (have := HCC.out w' hq 1 _ rfl); go_simp⟩) k0 ?_
     simp only [Act.put, sA, sB, sC]
     refine tkR [0] ?_
     refine AllReadyH.valR (fun W' => V0 = W') rfl (by rfl) (rdV dk pk) _ (by (obtain ⟨c0, c1, c2, c3, c4, c5, c6, c7⟩ := (HB0.out.keep kn (fun q => q)).rdc; unfold rdV; go_simp)) (fun _ e => by rw [← e]; exact k0) rfl ?_ AllReadyH.nil
     rintro _ rfl
     simp only [Act.put, sA, sB, sC]
     obtain ⟨q, hq⟩ : ∃ q, pk.sync snm = q := ⟨_, rfl⟩
     obtain ⟨E, hE⟩ : ∃ E, pk.syncE = E := ⟨_, rfl⟩
     have HQE : Hid (pk.stE ⟨2, snm, sat, sd⟩ = E ∧ pk.stP ⟨2, snm, sat, sd⟩ = q) := zh ⟨hE, hq⟩
     have HSQ : Hid (q.sm (20000 * (l.length - (k + 1)) + 30000)) := zh (by rw [← hq]; exact sm_sync _ (sm_mono HSMK.out (by have := HLEN.out; omega)))
     have HCALL : Hid (Calls Tryz.prog 99 #[rdV dk pk, .string snm] V0 fun e w' => ∃ d', e = .returned (.tuple #[rdV d' q, .int .i64 E]) ∧ Rf w' d' q ∧ Kp NoB V0 w') := zh (by
      have h9 := sync_okR V0 dk pk snm (HR.out.keep kn) HSO.out.nl (by omega) (by omega)
      rw [hq, hE] at h9
      exact h9)
     clear hq hE
     refine tkR [6] ?_
     refine AllReadyH.callR (fun y W' => ∃ d', y = .tuple #[rdV d' q, .int .i64 E] ∧ Rf W' d' q ∧ Kp NoB wq W') rfl (by rfl) 99 #[rdV dk pk, .string snm] (by first | (go_simp; done) | (go_simp; rfl)) (fun _ _ q => (by obtain ⟨d', _, _, q3⟩ := q; exact q3.mono (fun _ _ z => z.elim))) (HCALL.out.mono (by rintro e w' ⟨d', rfl, h2, hk⟩; exact ⟨_, rfl, d', rfl, h2, kn.trans hk (fun _ _ q => q)⟩)) ?_ AllReadyH.nil
     rintro y V1 ⟨d', rfl, h2, k1⟩
     simp only [Act.put, sA, sB, sC]
     have k1' : Kp (OnB s0) wq V1 := k1.mono (fun _ _ z => z.elim)
     refine tkJ (i := 7) (v := (.tuple #[rdV d' q, .int .i64 E])) rfl k1' ?_
     simp only [Act.put, sA, sB, sC]
     refine tkJ (i := 8) (v := (rdV d' q)) rfl k1' ?_
     simp only [Act.put, sA, sB, sC]
     refine tkJ (i := 9) (v := (.int .i64 E)) rfl k1' ?_
     simp only [Act.put, sA, sB, sC]
     refine tkR [10] ?_
     refine AllReadyH.skipR rfl (by rfl) (((((((((V1.setCell ⟨s0, 0, none⟩ (.bool true)).setCell ⟨s0, 1, none⟩ (.bool q.down)).setCell ⟨s0, 2, none⟩ (.slice d'.fA d'.fn d'.fc)).setCell ⟨s0, 3, none⟩ (.slice d'.pA d'.pn d'.pc)).setCell ⟨s0, 4, none⟩ (.int .i64 q.room)).setCell ⟨s0, 5, none⟩ (.int .i64 q.steps)).setCell ⟨s0, 6, none⟩ (.int .i64 q.crash)).setCell ⟨s0, 7, none⟩ (.int .i64 q.starts))) (by (obtain ⟨c0, c1, c2, c3, c4, c5, c6, c7⟩ := (HB0.out.keep k1 (fun q => q)).rdc; obtain ⟨z0, z1, z2, z3, z4, z5, z6, z7⟩ := (HB0.out.keep k1 (fun q => q)).z8; unfold rdV; go_simp)) (kp8 k1' (.inr rfl)) ?_ AllReadyH.nil
     refine tkJ (i := 11) (v := (.int .i64 E)) rfl (kp8 k1' (.inr rfl)) ?_
     simp only [Act.put, sA, sB, sC]
     refine wpAnyH_done (by kernel_rfl) ?_ _
     clear k1'
     have hb0' := HB0.out.keep k1 (fun q => q)
     refine forgetQ (fun V => Blk V s0 29 (rdC d' q) ∧ Rf V d' q ∧ Blk V (s0 + 1) 29 rdZ ∧ Kp NoB w V) ⟨blk8 hb0' rfl, h2.keepB (kp8 (Kp.refl (OnB s0) V1) (.inr rfl)) hb0' (rdC_str _ _), (HB2.out.keep k1 (fun q => q)).keep (kp8 (Kp.refl (OnB s0) V1) (.inr rfl)) (fun q => by have q' : s0 + 1 = s0 := q; omega), kp8 (HK.out.trans k1 (fun _ _ q => q)) (.inl (by have := HS0.out; omega))⟩ ?_
     rintro V ⟨hV0, hVR, hV2, hVK⟩
     have XB0 := zh hV0
     have XR := zh hVR
     have XB2 := zh hV2
     have XK := zh hVK
     clear hHeld k0 kn k1 h2 hb0' hV0 hVR hV2 hVK q0
     have hrun : p.runS l = if E = 0 then q.runS (l.drop (k + 1)) else (q, E) := by rw [HRU.out, HDR.out, runS_cons, HQE.out.1, HQE.out.2]
     by_cases hE : E = 0
     ·subst hE
      rw [if_pos rfl] at hrun
      have HN9 : Hid (MkRel w s0 p l (.int .i64 ((k + 1 : Nat) : Int)) V) := zh ⟨k + 1, d', q, rfl, by have := HLEN.out; omega, hrun, XB0.out, XR.out, XB2.out, HSQ.out, XK.out⟩
      clear hrun
      go_wp2_with fail
      go_roundw
      case rel => exact HN9.out
      case measure => simp [intOf]; omega
     ·rw [if_neg hE] at hrun
      have HRUN := zh hrun
      have hE2 : (E != 0) = true := by simpa using hE
      have hE3 : (E == 0) = false := by simpa using hE
      clear hrun hE
      obtain ⟨c0, c1, c2, c3, c4, c5, c6, c7⟩ := XB0.out.rdc
      obtain ⟨y0, y1, y2, y3, y4, y5, y6, y7⟩ := XB2.out.c8
      obtain ⟨z0, z1, z2, z3, z4, z5, z6, z7⟩ := XB2.out.z8
      have hl0 := XB0.out.lt
      have hl2 := XB2.out.lt
      go_wp2_with fail
      have kz9 : w.heap.size ≤ s0 + 1 := by have := HS0.out; omega
      first
       | exact bodyPost_ret (ret_cell_tmp2 rfl _ _ _ _ _ _ rfl (blk8 XB2.out rfl) Tryz.underlying29 rfl (by exact infoRd) _ _ rfl rfl) rfl ⟨d', _, by rw [HRUN.out]; rfl, by rw [HRUN.out]; exact XR.out.keepB (kp8 (Kp.refl _ V) (.inr rfl)) XB2.out rdZ_str, kp8 XK.out (.inl kz9)⟩
       | exact bodyPost_ret (ret_cell_tmp2 rfl _ _ _ _ _ _ rfl (blk8 XB2.out rfl) Tryz.underlying29 rfl (by exact infoRd) _ _ rfl rfl) rfl ⟨d', ⟨_, by rw [HRUN.out]; rfl⟩, by rw [HRUN.out]; exact XR.out.keepB (kp8 (Kp.refl _ V) (.inr rfl)) XB2.out rdZ_str, kp8 XK.out (.inl kz9)⟩
  ·have hkk : ¬ (k : Int) < (n : Int) := by omega
   have hrun : p.runS l = (pk, 0) := by rw [HRU.out, List.drop_eq_nil_of_le (by have := HLEN.out; omega), runS_nil]
   have HRUN := zh hrun
   clear hrun
   have hl0 := HB0.out.lt
   have hl2 := HB2.out.lt
   obtain ⟨c0, c1, c2, c3, c4, c5, c6, c7⟩ := HB0.out.rdc
   obtain ⟨y0, y1, y2, y3, y4, y5, y6, y7⟩ := HB2.out.c8
   obtain ⟨z0, z1, z2, z3, z4, z5, z6, z7⟩ := HB2.out.z8
   go_wp2_with fail
   have kz9 : w.heap.size ≤ s0 + 1 := by have := HS0.out; omega
   first
    | exact bodyPost_ret (ret_cell_tmp2 rfl _ _ _ _ _ _ rfl (blk8 HB2.out rfl) Tryz.underlying29 rfl (by exact infoRd) _ _ rfl rfl) rfl ⟨dk, _, by rw [HRUN.out]; rfl, by rw [HRUN.out]; exact HR.out.keepB (kp8 (Kp.refl _ wq) (.inr rfl)) HB2.out rdZ_str, kp8 HK.out (.inl kz9)⟩
    | exact bodyPost_ret (ret_cell_tmp2 rfl _ _ _ _ _ _ rfl (blk8 HB2.out rfl) Tryz.underlying29 rfl (by exact infoRd) _ _ rfl rfl) rfl ⟨dk, ⟨_, by rw [HRUN.out]; rfl⟩, by rw [HRUN.out]; exact HR.out.keepB (kp8 (Kp.refl _ wq) (.inr rfl)) HB2.out rdZ_str, kp8 HK.out (.inl kz9)⟩
end
section
open Go
end
section
open Go
end
section
theorem chain_iff (c : Int) : ∀ (l : List Pg) (last : Int), chainPg c last l = true ↔ ∀ i x, l[i]? = some x → x.n ≤ c ∧ (i = 0 → last < x.n) ∧ ∀ y, 0 < i → l[i - 1]? = some y → y.n < x.n
 | [], last => by simp [chainPg]
 | x :: r, last => by
  have ih := chain_iff c r x.n
  rw [chainPg_cons, Bool.and_eq_true, decide_eq_true_iff, ih]
  constructor
  ·rintro ⟨⟨h1, h2⟩, h3⟩ i y hy
   rcases i with _ | i
   ·simp at hy
    subst hy
    exact ⟨h2, fun _ => h1, fun _ q => absurd q (by omega)⟩
   ·have hy' : r[i]? = some y := hy
    obtain ⟨k1, k2, k3⟩ := h3 i y hy'
    refine ⟨k1, fun q => absurd q (by omega), fun z _ hz => ?_⟩
    rcases i with _ | i
    ·have hz' : some x = some z := hz
     injection hz' with hz'
     rw [← hz']
     exact k2 rfl
    ·exact k3 z (by omega) hz
  ·intro h
   have h0 := h 0 x rfl
   refine ⟨⟨h0.2.1 rfl, h0.1⟩, fun i y hy => ?_⟩
   obtain ⟨k1, k2, k3⟩ := h (i + 1) y hy
   refine ⟨k1, fun q => ?_, fun z hz0 hz => ?_⟩
   ·subst q
    exact k3 x (by omega) rfl
   ·refine k3 z (by omega) ?_
    obtain ⟨j, rfl⟩ : ∃ j, i = j + 1 := ⟨i - 1, by omega⟩
    exact hz
theorem cover_iff (old count : Int) : ∀ (l : List Pg) (last : Int), chainPg count last l = true → last ≤ count →
  ((∀ n, max old last < n → n ≤ count → hasPg l n = true) ↔ (above old l : Int) = max 0 (count - max old last))
 | [], last, _, h => by
  constructor
  ·intro q
   have h0 : above old [] = 0 := rfl
   rw [h0]
   rcases Int.lt_or_le (max old last) count with z | z
   ·have := q count z (Int.le_refl _)
    simp [hasPg] at this
   ·omega
  ·intro q n h1 h2
   have h0 : above old [] = 0 := rfl
   rw [h0] at q
   omega
 | x :: r, last, hc, h => by
  rw [chainPg_cons, Bool.and_eq_true, decide_eq_true_iff] at hc
  have ih := cover_iff old count r x.n hc.2 hc.1.2
  obtain ⟨h1, h2⟩ := chain_len count r x.n hc.2 hc.1.2
  have hh : ∀ n, hasPg (x :: r) n = true ↔ x.n = n ∨ hasPg r n = true := fun n => by
   rw [hasPg_iff, hasPg_iff]
   constructor
   ·rintro ⟨y, hy, e⟩
    rcases List.mem_cons.1 hy with q | q
    ·exact .inl (by rw [← q]; exact e)
    ·exact .inr ⟨y, q, e⟩
   ·rintro (q | ⟨y, hy, e⟩)
    ·exact ⟨x, List.mem_cons_self .., q⟩
    ·exact ⟨y, List.mem_cons_of_mem _ hy, e⟩
  rw [above_cons]
  by_cases hx : old < x.n
  ·rw [if_pos hx]
   have hle := above_le old r
   constructor
   ·intro q
    have hx1 : x.n = max old last + 1 := by
     rcases (show x.n = max old last + 1 ∨ max old last + 1 < x.n by omega) with z | z
     ·exact z
     ·exfalso
      have := q (max old last + 1) (by omega) (by omega)
      rcases (hh _).1 this with e | e
      ·omega
      ·obtain ⟨y, hy, e⟩ := (hasPg_iff r _).1 e
       have := (h2 y hy).1
       omega
    have := ih.1 (fun n n1 n2 => by
     rcases (hh n).1 (q n (by omega) n2) with e | e
     ·omega
     ·exact e)
    omega
   ·intro q
    have hx1 : x.n = max old last + 1 := by omega
    have := ih.2 (by omega)
    intro n n1 n2
    rcases (show n = x.n ∨ x.n < n by omega) with e | e
    ·exact (hh n).2 (.inl e.symm)
    ·exact (hh n).2 (.inr (this n (by omega) n2))
  ·rw [if_neg hx]
   have e : max old x.n = max old last := by omega
   rw [e] at ih
   rw [Nat.add_zero, ← ih]
   constructor
   ·intro q n n1 n2
    rcases (hh n).1 (q n n1 n2) with z | z
    ·omega
    ·exact z
   ·intro q n n1 n2
    exact (hh n).2 (.inr (q n n1 n2))
theorem fit_iff (old count : Int) (l : List Pg) (h0 : 0 ≤ old) : fitPg old count l = true ↔ (0 ≤ count ∧ count ≤ 4096) ∧ chainPg count 0 l = true ∧ ∀ n, old < n → n ≤ count → hasPg l n = true := by
 unfold fitPg
 rw [Bool.and_eq_true, Bool.and_eq_true, decide_eq_true_iff, decide_eq_true_iff]
 constructor
 ·rintro ⟨h1, h2, h3⟩
  have := (cover_iff old count l 0 h2 h1.1).2 (by rw [show max old 0 = old by omega]; exact h3)
  rw [show max old 0 = old by omega] at this
  exact ⟨h1, h2, this⟩
 ·rintro ⟨h1, h2, h3⟩
  have := (cover_iff old count l 0 h2 h1.1).1 (by rw [show max old 0 = old by omega]; exact h3)
  rw [show max old 0 = old by omega] at this
  exact ⟨h1, h2, this⟩
end
section
open Go.RowKit
def UpTo (l : List Pg) (count : Int) (k : Nat) : Prop := ∀ i x, i < k → l[i]? = some x → 1 ≤ x.n ∧ x.n ≤ count ∧ ∀ y, 0 < i → l[i - 1]? = some y → y.n < x.n
theorem chain_of_up {l : List Pg} {count : Int} (h : UpTo l count l.length) : chainPg count 0 l = true := by
 rw [chain_iff]
 intro i x hx
 have := h i x (List.getElem?_eq_some_iff.1 hx).1 hx
 exact ⟨this.2.1, fun _ => by omega, this.2.2⟩
theorem up_of_chain {l : List Pg} {count : Int} (h0 : 0 ≤ count) (h : chainPg count 0 l = true) (k : Nat) : UpTo l count k := by
 intro i x _ hx
 have h1 := (chain_iff count l 0).1 h i x hx
 have h2 := (chain_len count l 0 h h0).2 x (List.mem_of_getElem? hx)
 exact ⟨by omega, by omega, h1.2.2⟩
set_option maxRecDepth 100000 in
set_option maxHeartbeats 1600000 in
theorem fit_rok (w : World) (old count : Int) (A : Option Addr) (m c : Nat) (l : List Pg) (hl : PgsAt w A m l) (hok : ∀ x ∈ l, -9223372036854775808 ≤ x.n ∧ x.n ≤ 9223372036854775807) (hm : m ≤ 1099511627776) (ho : 0 ≤ old ∧ old ≤ 1099511627776) (hc : -9223372036854775808 ≤ count ∧ count ≤ 9223372036854775807) :
  Calls Tryz.prog 43 #[.int .i64 old, .int .i64 count, .slice A m c] w fun e w' => e = .returned (.bool (fitPg old count l)) ∧ Kp NoB w w' := by
 have HL := zh hl
 have hlen : l.length = m := hl.len
 have HLEN := zh hlen
 have HOK := zh hok
 have HM := zh hm
 have HO := zh ho
 have FI := fit_iff old count l ho.1
 have HFI := zh FI
 have bad : Hid ((¬ (0 ≤ count ∧ count ≤ 4096) ∨ ¬ chainPg count 0 l = true ∨ ∃ n, old < n ∧ n ≤ count ∧ hasPg l n = false) → fitPg old count l = false) := zh (fun q => by
  rcases hq : fitPg old count l with _ | _
  ·rfl
  ·obtain ⟨h1, h2, h3⟩ := FI.1 hq
   rcases q with q | q | ⟨n, n1, n2, n3⟩
   ·exact absurd h1 q
   ·exact absurd h2 q
   ·rw [h3 n n1 n2] at n3
    cases n3)
 clear hl hlen hok hm ho FI
 by_cases hneg : count < 0
 ·have hF := bad.out (.inl (by omega))
  rw [hF]
  go_enter Tryz.func43, Tryz.ntmps43
  go_wp2_with fail
  go_ret
  exact ⟨rfl, Kp.refl NoB w⟩
 by_cases hbig : 4096 < count
 ·have hF := bad.out (.inl (by omega))
  rw [hF]
  go_enter Tryz.func43, Tryz.ntmps43
  go_wp2_with fail
  go_ret
  exact ⟨rfl, Kp.refl NoB w⟩
 have HCN := zh (show 0 ≤ count ∧ count ≤ 4096 by omega)
 go_enter Tryz.func43, Tryz.ntmps43
 go_wp2_with fail
 go_loopw [7] (fun v wr => ∃ k : Nat, v = .int .i64 (k : Int) ∧ k ≤ m ∧ UpTo l count k ∧ Kp NoB w wr) (fun v _ => m - (intOf v).toNat)
 case atStart => exact ⟨0, rfl, Nat.zero_le _, fun i x q => absurd q (by omega), Kp.refl _ _⟩
 case round =>
  obtain ⟨wq, rfl⟩ : ∃ wq, wq = wr := ⟨_, rfl⟩
  obtain ⟨k, rfl, hk, hup, hkp⟩ := hrel
  have HUP := zh hup
  have HKP := zh hkp
  clear hup
  by_cases hlt : k < m
  ·have hkl : k < l.length := by have := HLEN.out; omega
   obtain ⟨x, hx⟩ : ∃ x, l[k] = x := ⟨_, rfl⟩
   have hxk : l[k]? = some x := by rw [List.getElem?_eq_getElem hkl, hx]
   have HXK := zh hxk
   have hxr := HOK.out x (List.mem_of_getElem? hxk)
   have hrows : RowsC wq A m 257 (l.map pgL) := HL.out.keep hkp
   obtain ⟨g, o, rfl, hg, hcc⟩ := hrows.cell (k := k) (x := pgL x) (by rw [List.getElem?_map, hxk]; rfl)
   have c0 := hcc 0 _ rfl
   rw [Nat.add_zero] at c0
   have hkk : (k : Int) < (m : Int) := by omega
   have hm63 : m ≤ 9223372036854775807 := by have := HM.out; omega
   obtain ⟨xn, hxn⟩ : ∃ y, x.n = y := ⟨_, rfl⟩
   rw [hxn] at c0 hxr
   have HXN := zh hxn
   have HBADX : Hid (¬ (1 ≤ xn ∧ xn ≤ count) → fitPg old count l = false) := zh (fun q => bad.out (.inr (.inl (fun z => q (by
    have := up_of_chain HCN.out.1 z (k + 1) k x (by omega) hxk
    rw [hxn] at this
    exact ⟨this.1, this.2.1⟩)))))
   by_cases hx1 : xn < 1
   ·have HF := zh (HBADX.out (by omega))
    clear hx hxk hkl hcc hxn hrows
    go_upto_region 6 with fail
    go_quiet (fail)
    go_wp2_with fail
    go_ret
    exact ⟨by rw [HF.out]; rfl, HKP.out.drewN nq⟩
   ·by_cases hx2 : count < xn
    ·have HF := zh (HBADX.out (by omega))
     clear hx hxk hkl hcc hxn hrows
     go_upto_region 6 with fail
     go_quiet (fail)
     go_wp2_with fail
     go_ret
     exact ⟨by rw [HF.out]; rfl, HKP.out.drewN nq⟩
    ·rcases k with _ | k
     ·have HU : Hid (UpTo l count 1) := zh (fun i z hi hz => by
       obtain rfl : i = 0 := by omega
       rw [HXK.out] at hz
       injection hz with hz
       rw [← hz, HXN.out]
       exact ⟨by omega, by omega, fun y q => absurd q (by omega)⟩)
      clear hx hxk hkl hcc hxn hrows
      rw [Nat.zero_mul, Nat.add_zero] at c0
      have hm0 : 0 < m := hlt
      have hm1 : (0 : Int) < (m : Int) := by omega
      go_upto_region 6 with fail
      go_quiet (fail)
      go_wp2_with fail
      go_roundw
      case rel => exact ⟨1, by go_num, by omega, HU.out, HKP.out.drewN nq⟩
      case measure => simp [intOf]; omega
     ·have hkl2 : k < l.length := by omega
      obtain ⟨y, hy⟩ : ∃ y, l[k] = y := ⟨_, rfl⟩
      have hyk : l[k]? = some y := by rw [List.getElem?_eq_getElem hkl2, hy]
      have HYK := zh hyk
      obtain ⟨g', o', e', _, hcy⟩ := hrows.cell (k := k) (x := pgL y) (by rw [List.getElem?_map, hyk]; rfl)
      injection e' with e'
      injection e' with e1 e2
      subst e1 e2
      have d0 := hcy 0 _ rfl
      rw [Nat.add_zero] at d0
      obtain ⟨yn, hyn⟩ : ∃ z, y.n = z := ⟨_, rfl⟩
      rw [hyn] at d0
      have HYN := zh hyn
      have hwk : IntKind.i64.wrap (((k + 1 : Nat) : Int) - 1) = (k : Int) := by rw [IntKind.wrap_i64]; omega
      have hkp1 : (0 : Int) < ((k + 1 : Nat) : Int) := by omega
      have hkm : (k : Int) < (m : Int) := by omega
      have HBADY : Hid (xn ≤ yn → fitPg old count l = false) := zh (fun q => bad.out (.inr (.inl (fun z => by
       have := up_of_chain HCN.out.1 z (k + 2) (k + 1) x (by omega) HXK.out
       have := this.2.2 y (by omega) (by rw [show k + 1 - 1 = k by omega]; exact HYK.out)
       rw [HXN.out, HYN.out] at this
       omega))))
      clear hx hxk hkl hcc hxn hrows hy hyk hkl2 hcy hyn
      by_cases hxy : xn ≤ yn
      ·have HF := zh (HBADY.out hxy)
       go_upto_region 6 with fail
       go_quiet (fail)
       go_wp2_with fail
       go_ret
       exact ⟨by rw [HF.out]; rfl, HKP.out.drewN nq⟩
      ·have HU : Hid (UpTo l count (k + 2)) := zh (fun i z hi hz => by
        rcases (show i < k + 1 ∨ i = k + 1 by omega) with q | q
        ·exact HUP.out i z q hz
        ·subst q
         rw [HXK.out] at hz
         injection hz with hz
         rw [← hz, HXN.out]
         refine ⟨by omega, by omega, fun y' _ hy' => ?_⟩
         rw [show k + 1 - 1 = k by omega, HYK.out] at hy'
         injection hy' with hy'
         rw [← hy', HYN.out]
         omega)
       go_upto_region 6 with fail
       go_quiet (fail)
       go_wp2_with fail
       go_roundw
       case rel => exact ⟨k + 2, by go_num, by omega, HU.out, HKP.out.drewN nq⟩
       case measure => simp [intOf]; omega
  ·have hkk : ¬ (k : Int) < (m : Int) := by omega
   have HCH : Hid (chainPg count 0 l = true) := zh (chain_of_up (fun i x hi hx => HUP.out i x (by have := HLEN.out; omega) hx))
   have hwo : IntKind.i64.wrap (old + 1) = old + 1 := by have := HO.out; rw [IntKind.wrap_i64]; omega
   clear hkp
   go_wp2_with fail
   go_loopw [8] (fun v wr => ∃ j : Nat, v = .int .i64 (old + 1 + (j : Int)) ∧ (j : Int) ≤ max 0 (count - old) ∧ (∀ n, old < n → n < old + 1 + (j : Int) → hasPg l n = true) ∧ Kp NoB w wr) (fun v _ => (count + 1 - intOf v).toNat)
   case atStart => exact ⟨0, by simp, by omega, fun n h1 h2 => by exfalso; omega, HKP.out⟩
   case round =>
    obtain ⟨wz, rfl⟩ : ∃ wz, wz = wr := ⟨_, rfl⟩
    obtain ⟨j, rfl, hj, hall, hkz⟩ := hrel
    have HALL := zh hall
    have HKZ := zh hkz
    clear hall
    obtain ⟨N, hN⟩ : ∃ N : Int, old + 1 + (j : Int) = N := ⟨_, rfl⟩
    have HNN := zh hN
    rw [hN]
    have hwn : IntKind.i64.wrap (N + 1) = N + 1 := by have := HO.out; rw [IntKind.wrap_i64]; omega
    clear hN
    by_cases hle : N ≤ count
    ·go_wp2_with fail
     refine (has_rok wz A m c l N (HL.out.keep hkz) (by have := HM.out; omega)).mono ?_
     rintro e w3 ⟨rfl, hk3⟩
     have HK3 := zh (HKZ.out.trans hk3 (fun _ _ q => q))
     clear hk3 hkz
     obtain ⟨b, hb⟩ : ∃ b, hasPg l N = b := ⟨_, rfl⟩
     have HB := zh hb
     rw [hb]
     clear hb
     rcases b with _ | _
     ·have HF := zh (bad.out (.inr (.inr ⟨N, by have := HNN.out; omega, hle, HB.out⟩)))
      go_wp2_with fail
      go_ret
      exact ⟨by rw [HF.out]; rfl, HK3.out⟩
     ·go_wp2_with fail
      go_roundw
      case rel => exact ⟨j + 1, by have := HNN.out; rw [show old + 1 + ((j + 1 : Nat) : Int) = N + 1 by omega], by have := HNN.out; omega, fun n h1 h2 => by
       rcases (show n < old + 1 + (j : Int) ∨ n = N by have := HNN.out; omega) with q | q
       ·exact HALL.out n h1 q
       ·rw [q]; exact HB.out, HK3.out⟩
      case measure => simp [intOf]; omega
    ·have HF : Hid (fitPg old count l = true) := zh (HFI.out.2 ⟨HCN.out, HCH.out, fun n h1 h2 => HALL.out n h1 (by have := HNN.out; omega)⟩)
     go_wp2_with fail
     go_ret
     exact ⟨by rw [HF.out]; rfl, HKZ.out⟩
end
section
open Go.RowKit
section
attribute [local go_sem ↓] loadPg storePg allocPg
def WFiRel (w : World) (old count : Int) (l : List Pg) (v7 v8 v19 : Value) (wr : World) : Prop :=
 ∃ (last : Int) (ab k : Nat), v7 = .int .i64 last ∧ v8 = .int .i64 (ab : Int) ∧ v19 = .int .i64 (k : Int) ∧ k ≤ l.length ∧ ab ≤ k ∧ chainPg count 0 l = chainPg count last (l.drop k) ∧ above old l = ab + above old (l.drop k) ∧ Kp NoB w wr
set_option maxRecDepth 100000 in
set_option maxHeartbeats 1600000 in
theorem wfit_q (w : World) (old count : Int) (ho : 0 ≤ old ∧ old ≤ 4096) (hc : -9223372036854775808 ≤ count ∧ count ≤ 9223372036854775807) (A : Option Addr) (n cap : Nat) (l : List Pg) (hl : PgsAt w A n l) (hok : ∀ x ∈ l, PgOk x) (hnn : n < 1099511627776) :
  Calls Tryz.prog 32 #[.int .i64 old, .int .i64 count, .slice A n cap] w fun e w' => e = .returned (.bool (fitPg old count l)) ∧ Kp NoB w w' := by
 have HL := zh hl
 have HOK := zh hok
 have HLN := zh hl.len
 have HO := zh ho
 clear hl hok ho
 by_cases h1 : count < 0
 ·have e1 : fitPg old count l = false := by unfold fitPg; rw [decide_eq_false (by omega)]; rfl
  rw [e1]
  clear e1
  go_enter Tryz.func32, Tryz.ntmps32
  go_wp2_with fail
  go_ret
  exact ⟨rfl, Kp.refl _ _⟩
 ·by_cases h2 : 4096 < count
  ·have e1 : fitPg old count l = false := by unfold fitPg; rw [decide_eq_false (by omega)]; rfl
   rw [e1]
   clear e1
   go_enter Tryz.func32, Tryz.ntmps32
   go_wp2_with fail
   go_ret
   exact ⟨rfl, Kp.refl _ _⟩
  ·have e1 : fitPg old count l = (chainPg count 0 l && decide ((above old l : Int) = max 0 (count - old))) := by unfold fitPg; rw [decide_eq_true (by omega)]; rfl
   obtain ⟨B, hB⟩ : ∃ B, fitPg old count l = B := ⟨_, rfl⟩
   rw [hB] at e1 ⊢
   have HE := zh e1
   have HC := zh (show 0 ≤ count ∧ count ≤ 4096 by omega)
   clear e1 hB
   go_enter Tryz.func32, Tryz.ntmps32
   go_wp2_with fail
   go_loopw [7, 8, 19] (fun v7 v8 v19 wr => WFiRel w old count l v7 v8 v19 wr) (fun _ _ v _ => n - (intOf v).toNat)
   case atStart => exact ⟨0, 0, 0, rfl, rfl, rfl, Nat.zero_le _, Nat.le_refl _, rfl, by simp, Kp.refl _ _⟩
   case round =>
    obtain ⟨last, ab, k, rfl, rfl, rfl, hk, hab, hch, habv, hkp⟩ := hrel
    have HCH := zh hch
    have HAV := zh habv
    have HKP := zh hkp
    have hlr := HL.out.keep hkp
    clear hch habv hkp
    by_cases hlt : k < n
    ·have hkk : (k : Int) < (n : Int) := by omega
     obtain ⟨g, o, rfl, hg, t1, r1⟩ := hlr.at_ k hlt
     obtain ⟨x, hx⟩ : ∃ x, l[k]? = some x := ⟨_, List.getElem?_eq_getElem (by rw [HLN.out]; exact hlt)⟩
     have hxe : l[k]'(by rw [HLN.out]; exact hlt) = x := (List.getElem?_eq_some_iff.1 hx).2
     rw [hxe] at r1
     have hxo := HOK.out x (List.mem_of_getElem? hx)
     have hdr : l.drop k = x :: l.drop (k + 1) := by rw [← hxe]; exact List.drop_eq_getElem_cons (by rw [HLN.out]; exact hlt)
     have HDR := zh hdr
     have hb := Blk.new wr 49 (pgA ⟨0, zeros 256⟩)
     have hb2 := hb.whole (pgA x) (by rw [pgA_size hxo]; rfl)
     have t2 := hb.thereAll 257 rfl
     have o1 := pgA_ones x
     have s1 := pgA_size hxo
     have hc0 := hb2.cell 0
     rw [show (pgA x)[0]? = some (.int .i64 x.n) from rfl] at hc0
     have HK3 := zh (show Kp NoB wr ((wr.alloc (.cells (pgA ⟨0, zeros 256⟩) 49)).setCells wr.heap.size 0 (pgA x).toList) from Kp.setCells (.inl (Nat.le_refl _)) _ _ _ ((Kp.refl _ _).alloc _))
     obtain ⟨RR, hRR⟩ : ∃ RR, pgA x = RR := ⟨_, rfl⟩
     rw [hRR] at r1 o1 s1 hc0 HK3
     have hch2 : chainPg count last (l.drop k) = (decide (last < x.n ∧ x.n ≤ count) && chainPg count x.n (l.drop (k + 1))) := by rw [hdr]; rfl
     have hav2 : above old (l.drop k) = above old (l.drop (k + 1)) + if old < x.n then 1 else 0 := by rw [hdr]; exact above_cons _ _ _
     rw [hch2] at HCH
     rw [hav2] at HAV
     obtain ⟨xn, hxn⟩ : ∃ xn, x.n = xn := ⟨_, rfl⟩
     rw [hxn] at hc0 HCH HAV
     clear hRR hlr hb hb2 hx hxe hxo hdr hch2 hav2 hxn HDR
     by_cases hle : xn ≤ last
     ·have hnl : ¬ last < xn := by omega
      rw [decide_eq_false (by omega)] at HCH
      go_wp2_with fail
      go_ret
      rw [HE.out, HCH.out]
      exact ⟨rfl, HKP.out.trans HK3.out (fun _ _ q => q)⟩
     ·have hnl : last < xn := by omega
      by_cases hgt : count < xn
      ·rw [decide_eq_false (by omega)] at HCH
       go_wp2_with fail
       go_ret
       rw [HE.out, HCH.out]
       exact ⟨rfl, HKP.out.trans HK3.out (fun _ _ q => q)⟩
      ·rw [decide_eq_true (by omega), Bool.true_and] at HCH
       by_cases hol : old < xn
       ·rw [if_pos hol] at HAV
        go_wp2_with fail
        go_roundw
        case rel => exact ⟨xn, ab + 1, k + 1, rfl, by go_num, by go_num, by have := HLN.out; omega, by omega, HCH.out, by rw [HAV.out]; omega, HKP.out.trans HK3.out (fun _ _ q => q)⟩
        case measure => simp [intOf]; omega
       ·rw [if_neg hol] at HAV
        go_wp2_with fail
        go_roundw
        case rel => exact ⟨xn, ab, k + 1, rfl, rfl, by go_num, by have := HLN.out; omega, by omega, HCH.out, by rw [HAV.out]; omega, HKP.out.trans HK3.out (fun _ _ q => q)⟩
        case measure => simp [intOf]; omega
    ·have hkk : ¬ (k : Int) < (n : Int) := by omega
     obtain rfl : k = n := by have := HLN.out; omega
     have hd0 : l.drop k = [] := List.drop_eq_nil_of_le (by rw [HLN.out]; omega)
     rw [hd0] at HCH HAV
     have HF : Hid (B = decide ((ab : Int) = max 0 (count - old))) := zh (by
      rw [HE.out, HCH.out, HAV.out]
      rfl)
     have hw1 : IntKind.i64.wrap (count - old) = count - old := by have := HO.out; have := HC.out; rw [IntKind.wrap_i64]; omega
     clear hlr hd0 HCH HAV
     rcases (show count - old < 0 ∨ count - old = 0 ∨ 0 < count - old by omega) with hs | hs | hs
     all_goals
      go_wp2_with fail
      go_ret
      rw [HF.out]
      refine ⟨?_, HKP.out⟩
      show Ending.returned (Value.bool _) = _
      congr 2
      rw [Bool.eq_iff_iff, beq_iff_eq, decide_eq_true_iff]
      omega
end
end
section
open Go.RowKit
def WChRel (g o n : Nat) (Q : Int → World → Prop) (v : Value) (wr : World) : Prop := ∃ (i : Nat) (l : List (Nat × Array Value × Array Value)), v = .int .i64 (i : Int) ∧ i + l.length = n ∧ Chain g o i l Q wr
set_option maxRecDepth 100000 in
set_option maxHeartbeats 800000 in
theorem wsteps_ok (w : World) (g o n cap : Nat) (l : List (Nat × Array Value × Array Value)) (Q : Int → World → Prop) (hl : l.length = n) (hn : n < 1099511627776) (h : Chain g o 0 l Q w) :
  Calls Tryz.prog 34 #[.slice (some ⟨g, o, none⟩) n cap] w fun e w' => ∃ x : Int, e = .returned (.int .i64 x) ∧ Q x w' := by
 have H := zh h
 have HL := zh hl
 clear h hl
 go_enter Tryz.func34, Tryz.ntmps34
 go_wp2_with fail
 go_loopw [8] (fun v wr => WChRel g o n Q v wr) (fun v _ => n - (intOf v).toNat)
 case atStart => exact ⟨0, l, rfl, by have := HL.out; omega, H.out⟩
 case round =>
  obtain ⟨i, l', rfl, hi, hc⟩ := hrel
  cases l' with
  | nil =>
   have hii : ¬ (i : Int) < (n : Int) := by simp at hi; omega
   have HC := zh (show Q 0 wr from hc)
   clear hc hi
   go_wp2_with fail
   go_ret
   exact ⟨0, rfl, HC.out⟩
  | cons x r =>
   obtain ⟨f, a, c⟩ := x
   obtain ⟨h1, h2, h3⟩ := hc
   have hii : (i : Int) < (n : Int) := by simp at hi; omega
   have HI := zh hi
   clear hi
   have H3 := zh h3
   clear h3
   go_wp2_with fail
   refine H3.out.mono ?_
   rintro e w' ⟨x, rfl, hx0, hx1⟩
   have HX0 := zh hx0
   have HX1 := zh hx1
   clear hx0 hx1
   by_cases hx : x = 0
   ·subst hx
    have HX := zh (HX1.out rfl)
    go_wp2_with fail
    go_roundw
    case rel => exact ⟨i + 1, r, by go_num, by have := HI.out; simp at this; omega, HX.out⟩
    case measure => simp [intOf]; omega
   ·have HX := zh (HX0.out hx)
    go_wp2_with fail
    go_ret
    exact ⟨x, rfl, HX.out⟩
end
section
open Go.RowKit
section
variable {S : Nat → Prop} {W0 w : World} {db lb : Nat} {p : Pl}
attribute [local go_sem ↓] loadSec storeSec allocSec loadW4 storeW4 conv64
set_option maxRecDepth 100000 in
set_option maxHeartbeats 800000 in
theorem wseal1_q (h : Dq S w w db p) (v : W4) (Bl Bs : Nat) (hn : ¬ S Bl) (hnl : ¬ S lb) (hns : ¬ S Bs) (hs : Blk w Bs 119 (bytesV (sealB v))) (hl : w.cell? ⟨Bl, 0, none⟩ = some (.pointer (some ⟨lb, 0, none⟩))) (hd : w.cell? ⟨lb, 0, none⟩ = some (.pointer (some ⟨db, 0, none⟩))) (hm : p.sm 20000) :
  Calls Tryz.prog 83 #[.pointer (some ⟨Bl, 0, none⟩), .pointer (some ⟨Bs, 0, none⟩)] w fun e w' => e = .returned (.int .i64 (p.writeE nmWal 0 (sealB v))) ∧ Dq S w w' db (p.write nmWal 0 (sealB v)) := by
 have H := zh h
 have HN := zh hn
 have HNL := zh hnl
 have HNS := zh hns
 have HM := zh hm
 have hby := hs.byAt 0 64 (by show _ ≤ 64; omega)
 have hrd := hs.byRd 0 64 (by show _ ≤ 64; omega)
 rw [List.drop_zero, List.take_of_length_le (by show 64 ≤ 64; omega)] at hrd
 have hlt1 := block_lt_of_cell hl
 have hlt2 := block_lt_of_cell hd
 have hlt3 := hs.lt
 have HD := zh hd
 have HL := zh hl
 have HLT1 := zh hlt1
 have HLT2 := zh hlt2
 have HLT3 := zh hlt3
 have hsz : (strOf (sealB v)).size ≤ maxLen := by rw [strOf_size, seal_len]; decide
 have HSZ := zh hsz
 have HSI := zh (strI_seal v (seal_rng v))
 obtain ⟨sb, hsb⟩ : ∃ sb, sealB v = sb := ⟨_, rfl⟩
 have HSB := zh hsb
 rw [hsb] at hrd HSI HSZ
 have HBY := zh hby
 have HRD := zh hrd
 clear h hm hs hd hl hlt1 hlt2 hlt3 hn hnl hns hsz hsb
 go_enter Tryz.func83, Tryz.ntmps83
 go_upto_region 1 with fail
 have hl0 := HL.out
 have hd0 := HD.out
 go_region_held3 (fun w' => w'.cell? ⟨Bl, 0, none⟩ = some (.pointer (some ⟨lb, 0, none⟩)) ∧ w'.cell? ⟨lb, 0, none⟩ = some (.pointer (some ⟨db, 0, none⟩)) ∧ byAt w' Bs 0 64 ∧ byRd w' Bs 0 64 = sb)
  (first | exact ⟨hl0, hd0, hby, hrd⟩ | exact ⟨he0, he3, he1, he2⟩ | go_keep)
  (first
   | (go_at_call 25; go_must (refine (show Calls _ _ #[ptrV db, .string nmWal, .int .i64 0, .string (strOf sb)] _ _ from write_q (H.out.base1 ((Kp.refl NoB w).drew)) nmWal 0 (strOf sb) nmW_le HSZ.out HM.out).mono ?_); rintro e w4 ⟨rfl, h4⟩; rw [HSI.out] at h4; rw [HSI.out]; have H4 := zh h4; have he0 := (h4.kp.cell HLT1.out HN.out).trans HL.out; have he3 := (h4.kp.cell HLT2.out HNL.out).trans HD.out; have he1 := by_keep h4.kp HLT3.out HNS.out HBY.out HRD.out; clear h4))
 go_wp2_with fail
 go_ret
 rw [HSB.out]
 exact ⟨rfl, Dq.up (H.out.base1 (Kp.refl NoB w).drew) (Kp.refl NoB w).drew H.out.lt H4.out⟩
set_option maxRecDepth 100000 in
set_option maxHeartbeats 800000 in
theorem wseal_q (h : Dq S w w db p) (hc : w.cell? ⟨lb, 0, none⟩ = some (.pointer (some ⟨db, 0, none⟩))) (hlb : ¬ S lb) (v : W4) (hm : p.sm 40000) :
  Calls Tryz.prog 39 #[.pointer (some ⟨lb, 0, none⟩), .agg (w4A v)] w fun e w' => e = .returned (.int .i64 (p.runS (headS nmWal v)).2) ∧ Dq S w w' db (p.runS (headS nmWal v)).1 := by
 have H := zh h
 have HM := zh hm
 have HC := zh hc
 have HLB := zh hlb
 have HLT := zh (block_lt_of_cell hc)
 have hbw : Blk ((w.alloc (.cells #[.pointer (some ⟨lb, 0, none⟩)] 73)).alloc (.cells (w4A v) 80)) (w.heap.size + 1) 80 (w4A v) := Blk.newAt _ _ _ _ (by simp)
 have hbl : Blk ((w.alloc (.cells #[.pointer (some ⟨lb, 0, none⟩)] 73)).alloc (.cells (w4A v) 80)) w.heap.size 73 #[.pointer (some ⟨lb, 0, none⟩)] := (Blk.new _ _ _).alloc _
 have hkb : Kp NoB w ((w.alloc (.cells #[.pointer (some ⟨lb, 0, none⟩)] 73)).alloc (.cells (w4A v) 80)) := ((Kp.refl _ _).alloc _).alloc _
 have t0 := hbw.thereAll 4 rfl
 have r0 := hbw.readAll 4 rfl
 have HBL := zh hbl
 have HKB := zh hkb
 clear h hm hc hlb hbw hbl hkb
 go_enter Tryz.func39, Tryz.ntmps39
 go_wp2_with fail
 refine (seal_ok _ v).mono ?_
 rintro e w2 ⟨rfl, hk⟩
 have hks := HKB.out.size
 have hk2 := HKB.out.trans hk (fun _ _ q => q)
 have hbl2 := HBL.out.keep hk (fun q => q)
 have hb := Blk.new w2 119 (bytesV (zeros 64))
 have hb2 := hb.whole (bytesV (sealB v)) (by rw [bytesV_size, bytesV_size]; rfl)
 have t1 := hb.thereAll 64 (by rw [bytesV_size]; rfl)
 have o1 := bytesV_one (sealB v)
 have s1 : (bytesV (sealB v)).size = 64 := by rw [bytesV_size]; rfl
 have hk3 : Kp NoB w ((w2.alloc (.cells (bytesV (zeros 64)) 119)).setCells w2.heap.size 0 (bytesV (sealB v)).toList) := Kp.setCells (.inl hk2.size) _ _ _ (hk2.alloc _)
 have hk23 : Kp NoB w2 ((w2.alloc (.cells (bytesV (zeros 64)) 119)).setCells w2.heap.size 0 (bytesV (sealB v)).toList) := Kp.setCells (.inl (Nat.le_refl _)) _ _ _ ((Kp.refl _ _).alloc _)
 have hbl3 := hbl2.keep hk23 (fun q => q)
 have cl := hbl3.cell 0
 have HB2 := zh hb2
 have HBL3 := zh hbl3
 have HK3 := zh hk3
 have HS2 : Hid (w.heap.size < w2.heap.size ∧ w.heap.size + 2 ≤ w2.heap.size) := zh (by have := hk.size; simp at this; omega)
 clear hk hk2 hb hb2 hk3 hk23 hbl2 hbl3 HBL HKB hks
 generalize hRR : bytesV (sealB v) = RR at t1 o1 s1 HB2 HBL3 HK3 cl ⊢
 have HRR := zh hRR
 clear hRR
 go_upto_region 2 with fail
 generalize hW3 : (w2.alloc (.cells (bytesV (zeros 64)) 119)).setCells w2.heap.size 0 RR.toList = w3 at HB2 HBL3 HK3 cl ⊢
 generalize hg : w2.heap.size = g at HB2 HS2 ⊢
 have hs3 : Hid (w3.heap.size = g + 1) := zh (by rw [← hW3, size_setCells, ← hg]; simp)
 clear hW3
 go_wp2_with fail
 refine (wsteps_ok _ w3.heap.size 0 2 2 [(83, #[], #[.pointer (some ⟨w.heap.size, 0, none⟩), .pointer (some ⟨g, 0, none⟩)]), (81, #[.pointer (some ⟨lb, 0, none⟩)], #[])]
  (fun x w' => x = (p.runS (headS nmWal v)).2 ∧ Dq S w w' db (p.runS (headS nmWal v)).1) rfl (by omega) ?_).mono ?_
 ·have hb3 := Blk.new w3 67 #[.func (.func 83) #[] #[.pointer (some ⟨w.heap.size, 0, none⟩), .pointer (some ⟨g, 0, none⟩)], .func (.func 81) #[.pointer (some ⟨lb, 0, none⟩)] #[]]
  generalize hw4 : w3.alloc (.cells #[.func (.func 83) #[] #[.pointer (some ⟨w.heap.size, 0, none⟩), .pointer (some ⟨g, 0, none⟩)], .func (.func 81) #[.pointer (some ⟨lb, 0, none⟩)] #[]] 67) = w4 at hb3 ⊢
  have hk4 : Kp NoB w3 w4 := by rw [← hw4]; exact (Kp.refl _ _).alloc _
  have hk := HK3.out.trans hk4 (fun _ _ q => q)
  have h3 := H.out.base1 hk
  have hlt := H.out.lt
  have hs2 := HS2.out
  refine ⟨by rw [hb3.cell]; rfl, enters_of Tryz.func83 (by kernel_rfl) rfl, ?_⟩
  have hcl4 := (hk.cell HLT.out (fun q => q)).trans HC.out
  refine (wseal1_q h3 v w.heap.size g (fun q => by have := hlt _ q; omega) HLB.out (fun q => by have := hlt _ q; omega) (by rw [HRR.out]; exact HB2.out.keep hk4 (fun q => q)) ((HBL3.out.keep hk4 (fun q => q)).cell 0) hcl4 (sm_mono HM.out (by omega))).mono ?_
  rintro e w5 ⟨rfl, h4⟩
  refine ⟨_, rfl, fun hx => ?_, fun hx => ?_⟩
  ·unfold headS
   rw [runS_cons, stE0, if_neg hx]
   exact ⟨rfl, Dq.up h3 hk hlt h4⟩
  ·have hs4 := hk.size
   refine ⟨by rw [(hb3.keep h4.kp (fun q => by have := hlt _ q; have := HK3.out.size; omega)).cell]; rfl, enters_of Tryz.func81 (by kernel_rfl) rfl, ?_⟩
   obtain ⟨S5, h5, hS5⟩ := h4.base
   refine (wsync_q h5 ((h4.kp.cell (Nat.lt_of_lt_of_le HLT.out hs4) HLB.out).trans hcl4) (sm_write _ _ _ (sm_mono HM.out (by omega)))).mono ?_
   rintro e w6 ⟨rfl, h6⟩
   have hz : (p.runS (headS nmWal v)) = (((p.write nmWal 0 (sealB v)).sync nmWal), (p.write nmWal 0 (sealB v)).syncE) := by
    unfold headS
    rw [runS_cons, stE0, if_pos hx, runS_cons, stE2, stP0, stP2]
    split
    ·rename_i h0
     rw [runS_nil, h0]
    ·rfl
   rw [hz]
   have h7 := Dq.up h3 hk hlt (Dq.tr (w0 := w4) h6 h4.kp hS5 h4.lt)
   exact ⟨_, rfl, fun _ => ⟨rfl, h7⟩, fun hx2 => ⟨hx2.symm, h7⟩⟩
 ·rintro e w5 ⟨x, rfl, rfl, h4⟩
  have H4 := zh h4
  clear h4
  go_wp2_with fail
  go_ret
  exact ⟨rfl, H4.out⟩
end
end
section
open Go.RowKit
def upB (f : Fr) (i : Nat) : List Int := (four f.n).take i ++ zeros (4 - i) ++ ((four f.en).take i ++ zeros (4 - i)) ++ zeros 312
def upB1 (f : Fr) (i : Nat) : List Int := (four f.n).take (i + 1) ++ zeros (3 - i) ++ ((four f.en).take i ++ zeros (4 - i)) ++ zeros 312
theorem upB_set1 (f : Fr) (i : Nat) (hi : i < 4) : (upB f i).set i (byteK f.n i) = upB1 f i := by
 rcases (show i = 0 ∨ i = 1 ∨ i = 2 ∨ i = 3 by omega) with rfl | rfl | rfl | rfl <;> rfl
theorem upB_set2 (f : Fr) (i : Nat) (hi : i < 4) : (upB1 f i).set (4 + i) (byteK f.en i) = upB f (i + 1) := by
 rcases (show i = 0 ∨ i = 1 ∨ i = 2 ∨ i = 3 by omega) with rfl | rfl | rfl | rfl <;> rfl
theorem upB_at (f : Fr) (i : Nat) (hi : i < 4) : (upB f i)[i]? = some 0 := by
 rcases (show i = 0 ∨ i = 1 ∨ i = 2 ∨ i = 3 by omega) with rfl | rfl | rfl | rfl <;> rfl
theorem upB_all (f : Fr) : upB f 4 = (four f.n ++ four f.en ++ zeros 56) ++ zeros 256 := rfl
theorem upB_len (f : Fr) : (upB f 4).length = 320 := by
 rw [upB_all, List.length_append, List.length_append, List.length_append, zeros256, show (zeros 56).length = 56 from List.length_replicate ..]
 rfl
structure BtS (w : World) (f : Fr) (l : List Int) (W : World) : Prop where
 kp : Kp NoB w W
 b1 : Blk W w.heap.size 85 (fnL f).toArray
 b2 : Blk W (w.heap.size + 1) 5 (bytesV l)
theorem BtS.set_ {w : World} {f : Fr} {l : List Int} {W : World} (h : BtS w f l W) (i : Nat) (y : Int) : BtS w f (l.set i y) (W.setCell ⟨w.heap.size + 1, i, none⟩ (.int .u8 y)) := by
 refine ⟨h.kp.setCell (p := ⟨w.heap.size + 1, i, none⟩) (.inl (by show _ ≤ w.heap.size + 1; omega)) _, h.b1.far (p := ⟨w.heap.size + 1, i, none⟩) (by simp) _, ?_⟩
 have := h.b2.set_ i (.int .u8 y)
 rwa [bytesV_setJ] at this
theorem BtS.drew {w : World} {f : Fr} {l : List Int} {W : World} (h : BtS w f l W) : BtS w f l W.drew := ⟨h.kp.drew, h.b1, h.b2⟩
set_option maxRecDepth 100000 in
theorem BtS.copy {w : World} {f : Fr} {W : World} (h : BtS w f (upB f 4) W) (hf : FrOk f) : Kp NoB w (W.setCells (w.heap.size + 1) 64 (f.b.map (Value.int .u8))) ∧ Blk (W.setCells (w.heap.size + 1) 64 (f.b.map (Value.int .u8))) (w.heap.size + 1) 5 (bytesV (frB f)) := by
 refine ⟨Kp.setCells (.inl (by omega)) _ _ _ h.kp, ?_⟩
 have b := h.b2
 rw [upB_all] at b
 have := Blk.bytes (la := four f.n ++ four f.en ++ zeros 56) (lb := zeros 256) (ld := []) (lx := f.b) (by rw [List.append_nil]; exact b) 64 (by simp [four, zeros]) (by rw [hf.len]; simp [zeros])
 rw [List.append_nil] at this
 exact this
theorem frB_len {f : Fr} (hf : FrOk f) : (frB f).length = 320 := by unfold frB; simp [four, zeros, hf.len]
theorem frB_rng {f : Fr} (hf : FrOk f) : ∀ y ∈ frB f, 0 ≤ y ∧ y < 256 := by
 intro y hy
 unfold frB at hy
 rcases List.mem_append.1 hy with h | h
 ·rcases List.mem_append.1 h with h | h
  ·rcases List.mem_append.1 h with h | h
   ·exact four_rng _ y h
   ·exact four_rng _ y h
  ·exact zeros_rng _ y h
 ·exact hf.rng y h
theorem fn_cells {w : World} {g : Nat} {t : TypeId} {f : Fr} (h : Blk w g t (fnL f).toArray) : ∀ j v, (f.b.map (Value.int .u8))[j]? = some v → w.cell? ((⟨g, 1, none⟩ : Addr).add j) = some v := by
 intro j v hj
 have hlt : j < (f.b.map (Value.int .u8)).length := (List.getElem?_eq_some_iff.1 hj).1
 rw [add_mk, h.cell]
 unfold fnL
 rw [List.getElem?_toArray, Nat.add_comm 1 j, List.getElem?_cons_succ, List.getElem?_append_left hlt]
 exact hj
theorem fn_en {w : World} {g : Nat} {t : TypeId} {f : Fr} (h : Blk w g t (fnL f).toArray) (hf : f.b.length = 256) : w.cell? ⟨g, 257, none⟩ = some (.int .i64 f.en) := by
 rw [h.cell]
 unfold fnL
 rw [List.getElem?_toArray, List.getElem?_cons_succ, List.getElem?_append_right (by rw [List.length_map, hf]; omega), List.length_map, hf]
 rfl
attribute [local go_sem ↓] conv64
attribute [local go_sem] size_setCells
set_option maxRecDepth 100000 in
set_option maxHeartbeats 1600000 in
theorem wbytes_q (w : World) (f : Fr) (hf : FrOk f) : Calls Tryz.prog 80 #[.agg (fnL f).toArray] w fun e w' => e = .returned (.string (strOf (frB f))) ∧ Kp NoB w w' := by
 have HF := zh hf
 have HB0 : Hid (BtS w f (upB f 0) ((w.alloc (.cells (fnL f).toArray 85)).alloc (.cells (bytesV (zeros 320)) 5))) := zh ⟨((Kp.refl _ _).alloc _).alloc _, (Blk.new _ _ _).alloc _, Blk.newAt _ _ _ _ (by simp)⟩
 have hmk := fun W => make320 W
 obtain ⟨FV, hFV⟩ : ∃ FV, (fnL f).toArray = FV := ⟨_, rfl⟩
 rw [hFV] at HB0 ⊢
 obtain ⟨rb, hrb⟩ : ∃ rb, frB f = rb := ⟨_, rfl⟩
 rw [hrb]
 have HRB := zh hrb
 clear hf hFV hrb
 go_enter Tryz.func80, Tryz.ntmps80
 go_wp2_with fail
 refine forget (p := fun wx => Code.wp _ _ _ _ wx) (BtS w f (upB f 0)) HB0.out ?_
 intro W hW
 have HW := zh hW
 clear hW HB0
 go_loopw [6] (fun v W => ∃ i : Nat, v = .int .i64 (i : Int) ∧ i ≤ 4 ∧ BtS w f (upB f i) W) (fun v _ => 4 - (intOf v).toNat)
 case atStart => exact ⟨0, rfl, by omega, HW.out⟩
 case round =>
  obtain ⟨i, rfl, hi, hs⟩ := hrel
  have HS := zh hs
  by_cases hi4 : i < 4
  ·have hii : (i : Int) < 4 := by omega
   have c0 : wr.cell? ⟨w.heap.size, 0, none⟩ = some (.int .i64 f.n) := by rw [hs.b1.cell]; rfl
   have c257 := fn_en hs.b1 HF.out.len
   have c2 : wr.cell? ⟨w.heap.size + 1, i, none⟩ = some (.int .u8 0) := by
    rw [hs.b2.cell]
    unfold bytesV
    rw [List.getElem?_toArray, List.getElem?_map, upB_at _ _ hi4]
    rfl
   have z2 : wr.frozen? ⟨w.heap.size + 1, i, none⟩ = false := hs.b2.frozen i
   have z3 : wr.frozen? ⟨w.heap.size + 1, 4 + i, none⟩ = false := hs.b2.frozen (4 + i)
   have c3 : wr.cell? ⟨w.heap.size + 1, 4 + i, none⟩ = some (.int .u8 0) := by
    rw [hs.b2.cell]
    unfold bytesV
    rw [List.getElem?_toArray, List.getElem?_map, show (upB f i)[4 + i]? = some 0 from by rcases (show i = 0 ∨ i = 1 ∨ i = 2 ∨ i = 3 by omega) with rfl | rfl | rfl | rfl <;> rfl]
    rfl
   have hwu : IntKind.u32.wrap f.n = f.n := by have := HF.out.n0; rw [IntKind.wrap_u32]; omega
   have hwe : IntKind.u32.wrap f.en = f.en := by have := HF.out.e0; rw [IntKind.wrap_u32]; omega
   have FIN : Hid (∀ W' (y z : Int) (q m : Nat), W' = (wr.setCell ⟨w.heap.size + 1, i, none⟩ (.int .u8 y)).setCell ⟨w.heap.size + 1, q, none⟩ (.int .u8 z) → q = 4 + i → y = byteK f.n i → z = byteK f.en i → m = i + 1 → BtS w f (upB f m) W') := zh (by
    rintro W' y z q m rfl rfl rfl rfl rfl
    have h1 := HS.out.set_ i (byteK f.n i)
    rw [upB_set1 f i hi4] at h1
    have h2 := h1.set_ (4 + i) (byteK f.en i)
    rw [upB_set2 f i hi4] at h2
    exact h2)
   obtain ⟨xn, hxn⟩ : ∃ xn, f.n = xn := ⟨_, rfl⟩
   obtain ⟨xe, hxe⟩ : ∃ xe, f.en = xe := ⟨_, rfl⟩
   have HXN3 := zh hxn
   have HXE3 := zh hxe
   rw [hxn] at c0 hwu
   rw [hxe] at c257 hwe
   clear hs hxn hxe
   rcases (show i = 0 ∨ i = 1 ∨ i = 2 ∨ i = 3 by omega) with rfl | rfl | rfl | rfl
   ·go_wp2_with fail
    exact ⟨⟨1, rfl, by omega, FIN.out _ _ _ _ _ rfl rfl (by rw [HXN3.out]; rfl) (by rw [HXE3.out]; rfl) rfl⟩, by simp [intOf]⟩
   ·go_wp2_with fail
    exact ⟨⟨2, rfl, by omega, FIN.out _ _ _ _ _ rfl rfl (by rw [HXN3.out]; rfl) (by rw [HXE3.out]; rfl) rfl⟩, by simp [intOf]⟩
   ·go_wp2_with fail
    exact ⟨⟨3, rfl, by omega, FIN.out _ _ _ _ _ rfl rfl (by rw [HXN3.out]; rfl) (by rw [HXE3.out]; rfl) rfl⟩, by simp [intOf]⟩
   ·go_wp2_with fail
    exact ⟨⟨4, rfl, by omega, FIN.out _ _ _ _ _ rfl rfl (by rw [HXN3.out]; rfl) (by rw [HXE3.out]; rfl) rfl⟩, by simp [intOf]⟩
  ·have hii : ¬ (i : Int) < 4 := by omega
   obtain rfl : i = 4 := by omega
   have hl256 := HF.out.len
   clear hs
   go_upto_region 8 with fail
   refine wp_region_held_drew (S := fun _ => True) (by kernel_rfl) trivial (fun hHeld => ?_)
   have hs := HS.out.drew
   generalize wr.drew = w4 at hs ⊢
   have ht5 : w4.there (w.heap.size + 1) 64 (f.b.map (Value.int .u8)).length := by
    have := hs.b2
    refine this.there ?_
    rw [bytesV_size, upB_len, List.length_map, hl256]
    omega
   have hcp := run_copy_cells (P := Tryz.prog) w4 68 68 3 5 (w.heap.size + 1) 64 256 256 ⟨w.heap.size, 1, none⟩ 256 256 (f.b.map (Value.int .u8)) Tryz.underlying68 infoU8 (by rw [List.length_map, hl256]; rfl) (fn_cells hs.b1) (fun j hj => (ht5 j hj).1) (fun j hj => (ht5 j hj).2) (u8_one f.b)
   obtain ⟨hk5, hb5⟩ := hs.copy HF.out
   refine tkJ (i := 0) (v := (.slice (some ⟨w.heap.size + 1, 0, none⟩) 320 320)) rfl trivial ?_
   simp only [Act.put, sA, sB, sC]
   refine tkJ (i := 1) (v := (.slice (some ⟨w.heap.size + 1, 64, none⟩) 256 256)) rfl trivial ?_
   simp only [Act.put, sA, sB, sC]
   refine tkJ (i := 2) (v := (.pointer (some ⟨w.heap.size, 0, none⟩))) rfl trivial ?_
   simp only [Act.put, sA, sB, sC]
   refine tkJ (i := 3) (v := (.pointer (some ⟨w.heap.size, 1, none⟩))) rfl trivial ?_
   simp only [Act.put, sA, sB, sC]
   refine tkJ (i := 4) (v := (.slice (some ⟨w.heap.size, 1, none⟩) 256 256)) rfl trivial ?_
   simp only [Act.put, sA, sB, sC]
   refine tkR [5] ?_
   refine AllReadyH.valR (fun W' => W' = w4.setCells (w.heap.size + 1) 64 (f.b.map (Value.int .u8))) rfl (by rfl) _ _ (copy_exec hcp _ rfl rfl) (fun _ _ => trivial) rfl ?_ AllReadyH.nil
   rintro _ rfl
   simp only [Act.put, sA, sB, sC]
   refine wpAnyH_done (by kernel_rfl) ?_ _
   generalize w4.setCells (w.heap.size + 1) 64 (f.b.map (Value.int .u8)) = w5 at hk5 hb5 ⊢
   have hrl := frB_len HF.out
   have hby := hb5.byAt 0 320 (by rw [hrl]; omega)
   have hrd := hb5.byRd 0 320 (by rw [hrl]; omega)
   rw [List.drop_zero, List.take_of_length_le (by rw [hrl]; omega)] at hrd
   have HK5 := zh hk5
   have HB5 := zh hb5
   rw [HRB.out] at hrd
   clear hs hk5 hb5 ht5 hcp hHeld hrl hl256
   go_wp2_with fail
   go_ret
   exact ⟨rfl, HK5.out⟩
end
end Go.Proofs.YtegcbdfilkecpaaGreat
