/- Texts of this proof, one behind the other: lemmas and contracts; each says its own conditions. -/
import Derived.Test.YtegcbdfilkecpaaGreatQ11
namespace Go.Proofs.YtegcbdfilkecpaaGreat
section
open Go.RowKit
theorem Blk.c5 {w : World} {g : Nat} {t : TypeId} {a0 a1 a2 a3 a4 : Value} (h : Blk w g t #[a0, a1, a2, a3, a4]) :
  w.cell? ⟨g, 0, none⟩ = some a0 ∧ w.cell? ⟨g, 1, none⟩ = some a1 ∧ w.cell? ⟨g, 2, none⟩ = some a2 ∧ w.cell? ⟨g, 3, none⟩ = some a3 ∧ w.cell? ⟨g, 4, none⟩ = some a4 :=
 ⟨h.cell 0, h.cell 1, h.cell 2, h.cell 3, h.cell 4⟩
def MrRel (w1 : World) (fs : List Fr) (N : Nat) (v3 v4 : Value) (wr : World) : Prop :=
 ∃ k : Nat, v4 = .int .i64 (k : Int) ∧ k ≤ N + 1 ∧ wr.ownsRow w1.heap.size 3 1 v3 (marksTo fs k).length ((marksTo fs k).map (Value.int .i64)) ∧ Kp NoB w1 wr
set_option maxRecDepth 100000 in
set_option maxHeartbeats 1600000 in
theorem marks_rok (w : World) (v : W4) (A : Option Addr) (n c : Nat) (fs : List Fr) (h : RfsAt w A n fs) (hok : ∀ f ∈ fs, FrOk f) (hn : n ≤ 1048576) :
  Calls Tryz.prog 60 #[lgV v A n c] w fun e w' => ∃ v', e = .returned v' ∧ w'.ownsRow w.heap.size 3 1 v' (marksTo fs (fs.length + 1)).length ((marksTo fs (fs.length + 1)).map (Value.int .i64)) ∧ Kp NoB w w' := by
 have HLEN := zh h.len
 have HOK := zh hok
 obtain ⟨va, vb, vc, vd⟩ := v
 have hk : Kp NoB w (w.alloc (.cells #[.int .i64 va, .int .i64 vb, .int .i64 vc, .int .i64 vd, .slice A n c] 94)) := (Kp.refl NoB w).alloc _
 have hb : Blk (w.alloc (.cells #[.int .i64 va, .int .i64 vb, .int .i64 vc, .int .i64 vd, .slice A n c] 94)) w.heap.size 94 #[.int .i64 va, .int .i64 vb, .int .i64 vc, .int .i64 vd, .slice A n c] := Blk.new _ _ _
 have H := zh (h.keep hk)
 clear h hok
 unfold lgV lgA
 go_enter Tryz.func60, Tryz.ntmps60
 go_upto_region 1 with fail
 generalize w.alloc (.cells #[.int .i64 va, .int .i64 vb, .int .i64 vc, .int .i64 vd, .slice A n c] 94) = w1 at hk hb H ⊢
 generalize hs0 : w.heap.size = s0 at hb ⊢
 have HS0 := zh hs0
 have HB := zh hb
 have HK := zh hk
 have hl0 := hb.lt
 obtain ⟨c0, c1, c2, c3, c4⟩ := hb.c5
 clear hs0 hk hb
 go_wp2_with fail
 go_loopw [3, 4] (fun v3 v4 W => MrRel w1 fs n v3 v4 W) (fun _ v _ => n + 1 - (intOf v).toNat)
 case atStart => exact ⟨0, rfl, by omega, World.ownsRow_nil _ _ _ _, Kp.refl _ _⟩
 case round =>
  obtain ⟨wq, rfl⟩ : ∃ wq, wq = wr := ⟨_, rfl⟩
  obtain ⟨k, rfl, hk, how, hkp⟩ := hrel
  obtain ⟨A6, c6, rfl⟩ := own_slice how
  have HOW := zh how
  have HKP := zh hkp
  obtain ⟨d0, d1, d2, d3, d4⟩ := (HB.out.keep hkp (fun q => q)).c5
  have hs := marksTo_succ fs k
  have HS := zh hs
  have HML := zh (marksTo_len fs k)
  clear how hkp hs c0 c1 c2 c3 c4
  by_cases hlt : k < n + 1
  ·have hkk : (k : Int) ≤ (n : Int) := by omega
   go_wp2_with fail
   refine (show Calls _ _ #[lgV ⟨va, vb, vc, vd⟩ A n c, .int .i64 (k : Int)] _ _ from is_rok wq ⟨va, vb, vc, vd⟩ A n c fs (H.out.keep HKP.out) HOK.out (by omega) (k : Int)).mono ?_
   rintro e w2 ⟨rfl, hk2⟩
   have HK2 := zh (HKP.out.trans hk2 (fun _ _ q => q))
   have HOW2 := zh (own_keepB HOW.out hk2 (fun _ _ q => q))
   clear hk2 d0 d1 d2 d3 d4
   cases hmk : isMark fs (k : Int) with
   | false =>
    have HM := zh hmk
    clear hmk
    go_wp2_with fail
    go_roundw
    case rel => exact ⟨k + 1, by go_num, by omega, by rw [HS.out, if_neg (by rw [HM.out]; simp)]; exact HOW2.out, HK2.out⟩
    case measure => simp [intOf]; omega
   | true =>
    have HM := zh hmk
    have hml := HML.out
    obtain ⟨xs, hxs⟩ : ∃ xs, marksTo fs k = xs := ⟨_, rfl⟩
    have HX := zh hxs
    rw [hxs] at HOW2 HML hml ⊢
    obtain ⟨j0, hj0, hy0, hy1, hy2⟩ := info_parts infoIntW
    have HJ0 := zh hj0
    have HY0 := zh hy0
    have HY1 := zh hy1
    have HY2 := zh hy2
    clear hmk hxs hj0 hy0 hy1 hy2
    go_wp2_with (at_builtin; refine wpList_append_ownB rfl _ _ 32 rfl w1.heap.size 3 j0 _ 1 8 Tryz.underlying32 HJ0.out HY0.out HY1.out HY2.out rfl (by omega) _ xs.length (xs.map (Value.int .i64)) rfl (own_keepB HOW2.out ((Kp.refl NoB w2).alloc _) (fun _ _ q => q)) ⟨w2.heap.size, 0, none⟩ 1 1 [_] rfl rfl (cell_one_new _ _ _) (by simp [Value.oneCell']) (by unfold maxLen; omega) (by omega) (by have := HK2.out.size; simp; omega) ?_; intro v7 w7 hown7 hgrow7 hb7; have hk7 := ((HK2.out).alloc (.cells #[.int .i64 (k : Int)] 3)).own hgrow7 rfl HOW2.out; have HO7 := zh hown7; have HK7 := zh hk7; clear hown7 hgrow7 hb7 hk7)
    go_roundw
    case rel => exact ⟨k + 1, by go_num, by omega, by rw [HS.out, if_pos HM.out, HX.out, List.length_append, List.map_append]; exact HO7.out, HK7.out⟩
    case measure => simp [intOf]; omega
  ·have hkk : ¬ (k : Int) ≤ (n : Int) := by omega
   obtain rfl : k = n + 1 := by omega
   go_wp2_with fail
   go_ret
   exact ⟨_, rfl, by rw [HLEN.out]; exact HOW.out.mono HK.out.size, HK.out.trans HKP.out (fun _ _ q => q)⟩
end
section
open Go.RowKit
theorem row_read {w : World} {g o n : Nat} {xs : List Value} (hn : xs.length = n) (h : ∀ j, j < n → w.cell? ⟨g, o + j, none⟩ = xs[j]? ∧ w.frozen? ⟨g, o + j, none⟩ = false) : w.there g o n ∧ readRow w g o n = xs.toArray := by
 subst hn
 refine ⟨fun j hj => ⟨by rw [(h j hj).1, List.getElem?_eq_getElem hj]; rfl, (h j hj).2⟩, ?_⟩
 unfold readRow
 congr 1
 refine List.ext_getElem (by simp) (fun j h1 h2 => ?_)
 rw [List.getElem_map, List.getElem_range, (h j h2).1, List.getElem?_eq_getElem h2]
 rfl
theorem RfsAt.full {w : World} {A : Option Addr} {n : Nat} {fs : List Fr} (h : RfsAt w A n fs) {i : Nat} {f : Fr} (hf : fs[i]? = some f) (hl : f.b.length = 256) :
  ∃ g o, A = some ⟨g, o, none⟩ ∧ g < w.heap.size ∧ w.cell? ⟨g, o + i * 258, none⟩ = some (.int .i64 f.n) ∧ w.cell? ⟨g, o + i * 258 + 1, none⟩ = some (.int .i64 f.en) ∧ (w.there g (o + i * 258 + 2) 256 ∧ readRow w g (o + i * 258 + 2) 256 = bytesV f.b) ∧ w.there g (o + i * 258) 258 ∧ readRow w g (o + i * 258) 258 = rfA f := by
 obtain ⟨hi, e⟩ := List.getElem?_eq_some_iff.1 hf
 obtain ⟨g, o, eA, hg, hc⟩ := h.2.2 (by have := h.len; omega)
 have hi2 : i < (fs.map rfL).length := by simpa using hi
 have hx : (fs.map rfL)[i] = rfL f := by rw [List.getElem_map, e]
 have hc2 : ∀ j, j < 258 → w.cell? ⟨g, o + i * 258 + j, none⟩ = (rfL f)[j]? ∧ w.frozen? ⟨g, o + i * 258 + j, none⟩ = false := fun j hj => by
  have := hc i hi2 j hj
  rw [hx] at this
  exact this
 refine ⟨g, o, eA, hg, (hc2 0 (by omega)).1, (hc2 1 (by omega)).1, row_read (xs := f.b.map (Value.int .u8)) (by rw [List.length_map, hl]) (fun j hj => ?_), row_read (rfL_len hl) hc2⟩
 have := hc2 (j + 2) (by omega)
 rw [show o + i * 258 + (j + 2) = o + i * 258 + 2 + j by omega] at this
 exact this
theorem wpage_rng {fs : List Fr} (hok : ∀ f ∈ fs, FrOk f) {p : Pl} (hs : ∀ y ∈ p.seen nmDb, 0 ≤ y ∧ y < 256) (m n : Int) : ∀ y ∈ wpage p fs m n, 0 ≤ y ∧ y < 256 := by
 unfold wpage
 split
 ·rename_i f hf
  exact (hok f (List.mem_of_mem_take (List.mem_reverse.1 (List.mem_of_find?_eq_some hf)))).rng
 ·unfold Pl.jpage
  split
  ·exact sizedF_rng (fun y hy => hs y (List.mem_of_mem_drop hy)) 256
  ·exact zeros_rng 256
attribute [local go_sem ↓] load26 store26 alloc26 build26
set_option maxRecDepth 100000 in
set_option maxHeartbeats 1600000 in
theorem wpage_rok (w : World) (d : Rd) (p : Pl) (hr : Rf w d p) (hnf : p.nf < 1099511627776) (hd : p.down = false) (v : W4) (A : Option Addr) (n c : Nat) (fs : List Fr) (h : RfsAt w A n fs) (hok : ∀ f ∈ fs, FrOk f) (hn : n ≤ 1099511627776) (m : Nat) (hm : m ≤ n) (N : Int) (hN : 1 ≤ N ∧ N ≤ 1099511627776) :
  Calls Tryz.prog 54 #[rdV d p, lgV v A n c, .int .i64 (m : Int), .int .i64 N] w fun e w' => e = .returned (.agg (bytesV (wpage p fs (m : Int) N))) ∧ Kp NoB w w' := by
 have HR := zh hr
 have HNF := zh hnf
 have HD := zh hd
 have H := zh h
 have HOK := zh hok
 have HLEN := zh h.len
 have HN := zh hN
 have HM := zh hm
 have hwm : IntKind.i64.wrap ((m : Int) - 1) = (m : Int) - 1 := by rw [IntKind.wrap_i64]; omega
 obtain ⟨va, vb, vc, vd⟩ := v
 unfold lgV lgA rdV
 have hW : Kp NoB w (((w.alloc (.cells (rdC d p) 29)).alloc (.cells #[.int .i64 va, .int .i64 vb, .int .i64 vc, .int .i64 vd, .slice A n c] 94)).alloc (.cells zero256 46)) := (((Kp.refl NoB w).alloc _).alloc _).alloc _
 have hb0 : Blk (((w.alloc (.cells (rdC d p) 29)).alloc (.cells #[.int .i64 va, .int .i64 vb, .int .i64 vc, .int .i64 vd, .slice A n c] 94)).alloc (.cells zero256 46)) w.heap.size 29 (rdC d p) := ((Blk.new _ _ _).alloc _).alloc _
 have hb1 : Blk (((w.alloc (.cells (rdC d p) 29)).alloc (.cells #[.int .i64 va, .int .i64 vb, .int .i64 vc, .int .i64 vd, .slice A n c] 94)).alloc (.cells zero256 46)) (w.heap.size + 1) 94 #[.int .i64 va, .int .i64 vb, .int .i64 vc, .int .i64 vd, .slice A n c] := (Blk.top (by simp)).alloc _
 have hb2 : Blk (((w.alloc (.cells (rdC d p) 29)).alloc (.cells #[.int .i64 va, .int .i64 vb, .int .i64 vc, .int .i64 vd, .slice A n c] 94)).alloc (.cells zero256 46)) (w.heap.size + 1 + 1) 46 zero256 := Blk.top (by simp)
 unfold rdC at hW hb0 hb1 hb2
 clear hr hnf hd h hok hN hm
 go_enter Tryz.func54, Tryz.ntmps54
 go_upto_region 1 with fail
 generalize (((w.alloc (.cells #[.bool true, .bool p.down, .slice d.fA d.fn d.fc, .slice d.pA d.pn d.pc, .int .i64 p.room, .int .i64 p.steps, .int .i64 p.crash, .int .i64 p.starts] 29)).alloc (.cells #[.int .i64 va, .int .i64 vb, .int .i64 vc, .int .i64 vd, .slice A n c] 94)).alloc (.cells zero256 46)) = W at hW hb0 hb1 hb2 ⊢
 generalize hs0 : w.heap.size = s0 at hb0 hb1 hb2 ⊢
 have HS0 := zh hs0
 have HW := zh hW
 have HB0 := zh (show Blk W s0 29 (rdC d p) from hb0)
 have HB2 := zh hb2
 have HRW := zh (HR.out.keep hW)
 have HFW := zh (H.out.keep hW)
 have c4 : W.cell? ⟨s0 + 1, 4, none⟩ = some (.slice A n c) := hb1.cell 4
 have t2 : W.there (s0 + 1 + 1) 0 256 := hb2.thereAll 256 (by rw [zero256_eq, bytesV_size]; rfl)
 clear hs0 hW hb0 hb1 hb2
 go_wp2_with fail
 go_loop [9] (fun v => ∃ (k : Nat) (z : Int), v = .int .i64 z ∧ z = (k : Int) - 1 ∧ k ≤ m ∧ lastFr (fs.take m) N = lastFr (fs.take k) N) (fun v => (intOf v + 1).toNat)
 case atStart => exact ⟨m, _, rfl, rfl, Nat.le_refl _, rfl⟩
 case round =>
  obtain ⟨k, z, rfl, hz, hk, hlk⟩ := hrel
  have HLK := zh hlk
  clear hlk
  rcases k with _ | k
  ·have hz1 : ¬ 0 ≤ z := by omega
   have hnone : lastFr (fs.take m) N = none := by rw [HLK.out]; rfl
   have HWP : Hid (wpage p fs (m : Int) N = p.jpage N) := zh (by unfold wpage; rw [Int.toNat_natCast, hnone])
   obtain ⟨nd, hnd⟩ : ∃ nd, (p.seen nmDb).length = nd := ⟨_, rfl⟩
   have hsz := strOf_size (p.seen nmDb)
   rw [hnd] at hsz
   have hlk := (HRW.out.look nmDb).1
   rw [hnd] at hlk
   have HLK2 := zh hlk
   have hnd2 := hlk.1
   have hjc : p.jcount = nd / 256 := by unfold Pl.jcount Pl.len; rw [HD.out, if_neg (by decide), hnd]
   have HJC := zh hjc
   have HND := zh hnd
   obtain ⟨c0, c1, c2, c3, c5, c6, c7, c8⟩ := HB0.out.rdc
   clear hlk hnone hjc hnd hz
   go_wp2_with fail
   refine (show Calls _ _ #[rdV d p, .string nmDb] _ _ from seen_ok _ d p nmDb HRW.out HNF.out).mono ?_
   rintro e w3 ⟨rfl, hk3⟩
   have HK3 := zh hk3
   have hb3 := HB2.out.keep hk3 (fun q => q)
   have HB3 := zh hb3
   have t3 : w3.there (s0 + 1 + 1) 0 256 := hb3.thereAll 256 (by rw [zero256_eq, bytesV_size]; rfl)
   clear hk3 hb3 t2 c0 c1 c2 c3 c4 c5 c6 c7 c8
   by_cases hgt : (nd : Int) / 256 < N
   ·have HPZ : Hid (p.jpage N = zeros 256) := zh (by
     unfold Pl.jpage
     rw [if_neg]
     unfold Pl.jpageE
     rw [HD.out, if_neg (by decide), if_pos (.inr (by rw [HJC.out]; omega))]
     decide)
    have oz : ones zero256 := by rw [zero256_eq]; exact bytesV_one _
    have hzs : zero256.size = 256 := by rw [zero256_eq, bytesV_size]; rfl
    go_wp2_with fail
    refine bodyPost_ret (ret_cell1 rfl _ _ _ _ _ _ rfl (HB3.out.whole zero256 rfl) Tryz.underlying46 rfl (by exact info26)) rfl ⟨by rw [HWP.out, HPZ.out, zero256_eq], ?_⟩
    exact Kp.setCells (.inl (by have := HS0.out; omega)) _ _ _ (HW.out.trans HK3.out (fun _ _ q => q))
   ·have HPZ : Hid (p.jpage N = pageOf (p.seen nmDb) N.toNat) := zh (by
     unfold Pl.jpage
     rw [if_pos]
     unfold Pl.jpageE
     rw [HD.out, if_neg (by decide), if_neg (by rw [HJC.out]; have := HN.out; omega)])
    go_wp2_with fail
    refine (show Calls _ _ #[.string (strOf (p.seen nmDb)), .int .i64 N] _ _ from pageof_rok w3 (p.seen nmDb) N HLK2.out.2 (by rw [HND.out]; have := HLK2.out.1; omega) HN.out).mono ?_
    rintro e w4 ⟨rfl, hk4⟩
    obtain ⟨pg, hpg⟩ : ∃ pg, pageOf (p.seen nmDb) N.toNat = pg := ⟨_, rfl⟩
    have hpl : pg.length = 256 := by rw [← hpg]; exact sizedF_len _ _
    have HPG := zh hpg
    rw [hpg]
    have hpo := bytesV_one pg
    have hps : (bytesV pg).size = 256 := by rw [bytesV_size, hpl]
    have HB4 := zh (HB3.out.keep hk4 (fun q => q))
    have t4 : w4.there (s0 + 1 + 1) 0 256 := HB4.out.thereAll 256 (by rw [zero256_eq, bytesV_size]; rfl)
    have HK4 := zh (HK3.out.trans hk4 (fun _ _ q => q))
    have HPS := zh hps
    clear hk4 hpg hpl t3
    go_wp2_with fail
    refine bodyPost_ret (ret_cell1 rfl _ _ _ _ _ _ rfl (HB4.out.whole (bytesV pg) (by rw [HPS.out, zero256_eq, bytesV_size]; rfl)) Tryz.underlying46 rfl (by rw [HPS.out]; exact info26)) rfl ⟨by rw [HWP.out, HPZ.out, HPG.out], ?_⟩
    exact Kp.setCells (.inl (by have := HS0.out; omega)) _ _ _ (HW.out.trans HK4.out (fun _ _ q => q))
  ·obtain rfl : z = (k : Int) := by omega
   have hz1 : (0 : Int) ≤ (k : Int) := by omega
   have hkl : k < fs.length := by have := HLEN.out; have := HM.out; omega
   obtain ⟨f, hf⟩ : ∃ f, fs[k]? = some f := ⟨_, List.getElem?_eq_getElem hkl⟩
   have hfo := HOK.out f (List.mem_of_getElem? hf)
   obtain ⟨g, o, rfl, hg, d0, d1, ⟨d2, d3⟩, -, -⟩ := HFW.out.full hf hfo.len
   have hnx := lastFr_next fs k N hf
   have hki : (k : Int) < (n : Int) := by have := HM.out; omega
   have HNX := zh hnx
   obtain ⟨fn, hfn⟩ : ∃ fn, f.n = fn := ⟨_, rfl⟩
   rw [hfn] at d0
   have HFN := zh hfn
   have HFO := zh hfo
   clear hnx hfo hf hfn hz d1
   by_cases he : fn = N
   ·have HWP : Hid (wpage p fs (m : Int) N = f.b) := zh (by unfold wpage; rw [Int.toNat_natCast, HLK.out, HNX.out, if_pos (by rw [HFN.out, he])])
    subst he
    have hpo := bytesV_one f.b
    have hps : (bytesV f.b).size = 256 := by rw [bytesV_size, HFO.out.len]
    have HPS := zh hps
    go_wp2_with fail
    refine bodyPost_ret (ret_cell1 rfl _ _ _ _ _ _ rfl (HB2.out.whole (bytesV f.b) (by rw [HPS.out, zero256_eq, bytesV_size]; rfl)) Tryz.underlying46 rfl (by rw [HPS.out]; exact info26)) rfl ⟨by rw [HWP.out], ?_⟩
    exact Kp.setCells (.inl (by have := HS0.out; omega)) _ _ _ HW.out
   ·have he2 : (fn == N) = false := by simpa using he
    have HN2 : Hid (lastFr (fs.take m) N = lastFr (fs.take k) N) := zh (by rw [HLK.out, HNX.out, if_neg (by rw [HFN.out]; exact he)])
    have hwk : IntKind.i64.wrap ((k : Int) - 1) = (k : Int) - 1 := by have := HM.out; rw [IntKind.wrap_i64]; omega
    clear he
    go_wp2_with fail
    go_round
    case rel => exact ⟨k, _, rfl, rfl, by omega, HN2.out⟩
    case measure => simp [intOf] <;> omega
end
end Go.Proofs.YtegcbdfilkecpaaGreat
