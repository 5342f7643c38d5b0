/- Texts of this proof, one behind the other: lemmas and contracts; each says its own conditions. -/
import Derived.Test.YtegcbdfilkecpaaGreatQ2
import Derived.Lib.SliceRun
namespace Go.Proofs.YtegcbdfilkecpaaGreat
section
open Go.RowKit
theorem put_len {l d : List Int} {a : Nat} (h : a + d.length ≤ l.length) : (Pl.put l a d).length = l.length := by unfold Pl.put; simp; omega
theorem put_rng {l d : List Int} {a : Nat} (h : ∀ x ∈ l, 0 ≤ x ∧ x < 256) (hd : ∀ x ∈ d, 0 ≤ x ∧ x < 256) : ∀ x ∈ Pl.put l a d, 0 ≤ x ∧ x < 256 := by
 intro x hx
 unfold Pl.put at hx
 rcases List.mem_append.1 hx with q | q
 ·rcases List.mem_append.1 q with q | q
  ·exact h x (List.mem_of_mem_take q)
  ·exact hd x q
 ·exact h x (List.mem_of_mem_drop q)
theorem strI_rng (s : ByteArray) : ∀ x ∈ strI s, 0 ≤ x ∧ x < 256 := by
 intro x hx
 unfold strI at hx
 obtain ⟨b, _, rfl⟩ := List.mem_map.1 hx
 have := b.toNat_lt
 omega
theorem bq_write {w : World} {n0 g n cap : Nat} {l : List Int} (h : Bq w n0 (.slice (some ⟨g, 0, none⟩) n cap) l) (hn : l.length = n) (a : Nat) (d : List Int) (ha : a + d.length ≤ l.length) (hd : ∀ x ∈ d, 0 ≤ x ∧ x < 256) :
  Bq (w.setCells g a (d.map (Value.int .u8))) n0 (.slice (some ⟨g, 0, none⟩) n cap) (Pl.put l a d) := by
 subst hn
 refine ⟨?_, put_rng h.rng hd⟩
 rw [put_len ha]
 refine ⟨by simp [put_len ha], ?_⟩
 rcases h.own.2 with ⟨e, h0⟩ | ⟨g', cap', cur, hv, hb, hh, h1, h2, h3, h4⟩
 ·cases e
 ·simp only [Value.slice.injEq, Option.some.injEq, Addr.mk.injEq] at hv
  obtain ⟨⟨rfl, _⟩, _, rfl⟩ := hv
  rw [Nat.mul_one] at h3 h4
  have hcur : cur = (((l.take a).map (Value.int .u8)) ++ (((l.drop a).take d.length).map (Value.int .u8)) ++ ((l.drop (a + d.length)).map (Value.int .u8) ++ cur.toList.drop l.length)).toArray := by
   rw [← List.append_assoc, ← List.map_append, ← List.map_append]
   have e1 : l.take a ++ (l.drop a).take d.length ++ l.drop (a + d.length) = l := by
    rw [List.append_assoc, show l.drop (a + d.length) = (l.drop a).drop d.length by rw [List.drop_drop], List.take_append_drop, List.take_append_drop]
   rw [e1, ← h4, List.take_append_drop]
  have hB : Blk w g 5 (((l.take a).map (Value.int .u8)) ++ (((l.drop a).take d.length).map (Value.int .u8)) ++ ((l.drop (a + d.length)).map (Value.int .u8) ++ cur.toList.drop l.length)).toArray := by
   rw [← hcur]; exact hh
  have hB2 := hB.cellsL (xs := d.map (Value.int .u8)) a (by simp; omega) (by simp; omega)
  refine .inr ⟨g, cap, _, rfl, hb, hB2, h1, h2, ?_, ?_⟩
  ·simp; omega
  ·rw [Nat.mul_one]
   unfold Pl.put
   rw [List.map_append, List.map_append, ← List.append_assoc]
   refine List.take_left' ?_
   simp; omega
theorem step_copyC {P : Program} {ops : Array Oper} {o : Oper} {a : Act} {w : World} {K : Act → World → Prop} {Q : Exit → Act → World → Prop} {E : Prop} (hgd : o.guard = none) (x y : Operand) (dT sT : TypeId)
  (ho : o.op = .call { callee := .builtin .copy, args := #[x, y], argTypes := #[dT, sT] }) (elem : TypeId) (hu : P.underlying dT = some (.slice elem)) (hsz : (P.info? elem).map (·.size) = some 1)
  (b o' dLen dCap : Nat) (ad : Addr) (sLen sCap : Nat) (cs : List Value) (hx : a.eval x = .slice (some ⟨b, o', none⟩) dLen dCap) (hy : a.eval y = .slice (some ad) sLen sCap) (hn : cs.length = Nat.min sLen dLen)
  (hsrc : ∀ j v, cs[j]? = some v → w.cell? (ad.add j) = some v) (hc : w.there b o' cs.length) (h1 : ∀ v ∈ cs, v.oneCell' = true)
  (h : K (a.put o.dst (goInt cs.length)) (w.setCells b o' cs)) :
  if Region.wanted o (yielded ops a.tmps) = true then Oper.wp P o a w K Q else E := by
 have hw : Region.wanted o (yielded ops a.tmps) = true := by simp [Region.wanted, hgd]
 rw [if_pos hw]
 have hrun := run_copy_cells (P := P) w dT sT o.type elem b o' dLen dCap ad sLen sCap cs hu hsz hn hsrc (fun j hj => (hc j hj).1) (fun j hj => (hc j hj).2) h1
 unfold Oper.wp
 simp [execOp, ho, resolve, invoke, builtin, hx, hy, hrun, Result.andThen]
 exact h
theorem step_append_ownB {P : Program} {ops : Array Oper} {w : World} {o : Oper} {a : Act} {K : Act → World → Prop} {Q : Exit → Act → World → Prop} {E : Prop} (hgd : o.guard = none) (s x : Operand) (t : TypeId)
  (ho : o.op = .call { callee := .builtin .append, args := #[s, x], argTypes := #[t, t] })
  (base : Nat) (e : TypeId) (i : TypeInfo) (z : Value) (size bytes : Nat) (ht : P.underlying t = some (.slice e)) (hi : P.info? e = some i) (hz : i.zero = some z)
  (hsize : i.size = size) (hby : i.bytes = bytes) (hzs : z.cells.size = size) (hsz : 0 < size)
  (v : Value) (n : Nat) (xs : List Value) (hs : a.eval s = v) (hown : w.ownsRow base e size v n xs)
  (ad : Addr) (m c : Nat) (news : List Value) (hx : a.eval x = .slice (some ad) m c) (hl : news.length = m * size) (hnews : ∀ j u, news[j]? = some u → w.cell? (ad.add j) = some u) (h1 : ∀ u ∈ news, u.oneCell' = true)
  (h63 : n + m ≤ maxLen) (hbytes : (n + m) * bytes ≤ 140737488355328) (hbase : base ≤ w.heap.size)
  (h : ∀ v' w', w'.ownsRow base e size v' (n + m) (xs ++ news) → w.grownBy w' v.ownBlock → (∀ b, v'.ownBlock = some b → v.ownBlock = some b ∨ w.heap.size ≤ b) → K (a.put o.dst v') w') :
  if Region.wanted o (yielded ops a.tmps) = true then Oper.wp P o a w K Q else E := by
 have hw : Region.wanted o (yielded ops a.tmps) = true := by simp [Region.wanted, hgd]
 rw [if_pos hw]
 exact wp_append_ownB s x t ho base e i z size bytes ht hi hz hsize hby hzs hsz v n xs hs hown ad m c news hx hl hnews h1 h63 hbytes hbase h
def secs (s : ByteArray) (l : List Int) (k0 k : Nat) : List Cg := (List.range' k0 (k - k0)).map fun (k : Nat) => ⟨s, (k : Int), 0, sizedF (l.drop (k * 64)) 64⟩
theorem secs_next (s : ByteArray) (l : List Int) {k0 k : Nat} (h : k0 ≤ k) : secs s l k0 (k + 1) = secs s l k0 k ++ [⟨s, (k : Int), 0, sizedF (l.drop (k * 64)) 64⟩] := by
 unfold secs
 rw [show k + 1 - k0 = (k - k0) + 1 by omega, List.range'_concat, List.map_append]
 simp only [List.map_cons, List.map_nil, Nat.one_mul]
 rw [Nat.add_sub_cancel' h]
theorem secs_all (s : ByteArray) (l : List Int) (a e : Nat) : secs s l (a / 64) ((e + 63) / 64) = Pl.sectors s l a e := rfl
theorem secs_len (s : ByteArray) (l : List Int) (k0 k : Nat) : (secs s l k0 k).length = k - k0 := by simp [secs]
theorem Dk.fb_ne {n0 : Nat} {w : World} {x : Dd} (h : Dk n0 w x) {e : Fe} (he : e ∈ x.fs) : ¬ (e.fb = x.db ∨ x.pv.ownBlock = some e.fb) := by
 obtain ⟨u, v, hb, _⟩ := (h.fls e he).blk
 rintro (q | q)
 ·rw [q] at hb
  exact blk_ne h.blk hb (by decide) rfl
 ·obtain ⟨cs, hc⟩ := own_type h.pend q
  exact blk_ne hb hc (by decide) rfl
theorem undrew {w w' : World} {r : Option Nat} (h : w.drew.grownBy w' r) : w.grownBy w' r := ⟨h.os, h.tape, h.output, h.size, h.block⟩
theorem cgA_copy {w : World} {g : Nat} {s : ByteArray} {K : Int} {l : List Int} (h : Blk w g 121 (cgA s K 0 (zeros 64))) :
  Blk (w.setCells g 3 ((l.take 64).map (Value.int .u8))) g 121 (cgA s K 0 (sizedF l 64)) := by
 have hl : (l.take 64).length ≤ 64 := by simp; omega
 have e1 : cgA s K 0 (zeros 64) = ([Value.string s, .int .i64 K, .int .i64 0] ++ (zeros (l.take 64).length).map (Value.int .u8) ++ (zeros (64 - (l.take 64).length)).map (Value.int .u8)).toArray := by
  unfold cgA cgL
  congr 1
  simp only [List.append_assoc, ← List.map_append]
  have : zeros (l.take 64).length ++ zeros (64 - (l.take 64).length) = zeros 64 := by
   unfold zeros
   rw [List.replicate_append_replicate]
   congr 1
   omega
  rw [this]
  rfl
 rw [e1] at h
 have h2 := h.cellsL (xs := (l.take 64).map (Value.int .u8)) 3 rfl (by simp [zeros])
 have e2 : cgA s K 0 (sizedF l 64) = ([Value.string s, .int .i64 K, .int .i64 0] ++ (l.take 64).map (Value.int .u8) ++ (zeros (64 - (l.take 64).length)).map (Value.int .u8)).toArray := by
  unfold cgA cgL
  congr 1
  simp only [List.append_assoc, ← List.map_append]
  have : sizedF l 64 = l.take 64 ++ zeros (64 - (l.take 64).length) := by
   unfold sizedF zeros
   split
   ·rw [List.length_take, Nat.min_eq_left (by omega)]; simp
   ·rw [List.take_of_length_le (by omega)]
  rw [this]
  rfl
 rw [e2]
 exact h2
def WrRel (n0 : Nat) (w7 : World) (x3 : Dd) (s : ByteArray) (l7 : List Int) (fb : Nat) (sv : Value) (k0 ke : Nat) (v12 : Value) (wr : World) : Prop :=
 ∃ (k : Nat) (pv : Value), v12 = .int .i64 (k : Int) ∧ k0 ≤ k ∧ k ≤ ke ∧ Dk n0 wr { x3 with pv := pv, pd := x3.pd ++ secs s l7 k0 k } ∧ wr.cell? ⟨fb, 0, none⟩ = some sv ∧ Kp (fun b => b = x3.db ∨ x3.pv.ownBlock = some b) w7 wr ∧ (∀ b, pv.ownBlock = some b → x3.pv.ownBlock = some b ∨ w7.heap.size ≤ b)
attribute [local go_sem ↓] exBuildCg2 exSliceCg loadCg storeCg allocCg
set_option maxRecDepth 100000 in
set_option maxHeartbeats 800000 in
theorem write_main (w : World) (n0 : Nat) (x : Dd) (p : Pl) (s : ByteArray) (A : Int) (a : Nat) (d : ByteArray) (h : Dk n0 w x) (hp : Of x p) (hs : s.size ≤ maxLen) (hd : p.down = false) (hA : A = a) (ha2 : a + d.size ≤ 1048576) (hz : 0 < d.size) (hn0 : n0 ≤ w.heap.size)
  (hm : p.nf < 1099511627776 - 10) (hpd : p.pd.length < 1099511627776 - 20000) (hf : p.fits s (max (A + d.size) (p.seen s).length) = 0) :
  Calls Tryz.prog 25 #[ptrV x.db, .string s, .int .i64 A, .string d] w (WrPost n0 w x p s A (strI d)) := by
 have H := zh h
 have HP := zh hp
 have HD := zh hd
 have HS := zh hs
 have HN0 := zh hn0
 have HM := zh hm
 have HPD := zh hpd
 have HAA := zh hA
 obtain ⟨db, hdb⟩ : ∃ db, x.db = db := ⟨_, rfl⟩
 have HX := zh hdb
 rw [hdb]
 have ha0 : 0 ≤ A := by omega
 have ha2' : A + d.size ≤ 1048576 := by omega
 have hna : ¬ A < 0 := by omega
 have ha3 : ¬ 1048576 < A := by omega
 have ha4 : ¬ 1048576 - A < d.size := by omega
 have HF := zh hf
 obtain ⟨was, hwas⟩ : ∃ m, (seenOf x.fs s).length = m := ⟨_, rfl⟩
 have hwl := seen_le h s
 rw [hwas] at hwl
 have HW := zh hwas
 have hne := str_empty0 hz
 obtain ⟨en, hen⟩ : ∃ en : Int, A + d.size = en := ⟨_, rfl⟩
 have HEN := zh hen
 have HMX := zh (show (en < was → p.fits s was = 0) ∧ (was ≤ en → p.fits s en = 0) by
  rw [← HP.out.seen_eq, HW.out, hen] at HF
  exact ⟨fun q => by rw [← HF.out, Int.max_eq_right (by omega)], fun q => by rw [← HF.out, Int.max_eq_left (by omega)]⟩)
 have he0 : 0 ≤ en := by omega
 have he1 : en ≤ 1048576 := by omega
 have hw1 : IntKind.i64.wrap (A + (d.size : Int)) = en := by rw [IntKind.wrap_i64]; omega
 have HA2 := zh ha2
 obtain ⟨p1, hp1⟩ : ∃ p1, (if (p.seen s).length < a + d.size then p.length s (a + d.size) else p) = p1 := ⟨_, rfl⟩
 have HP1 := zh hp1
 clear h hp hd hdb hf hs hwas hn0 hm hpd hA hen hp1 ha2
 unfold ptrV
 go_enter Tryz.func25, Tryz.ntmps25
 go_upto_region 11 with (go_at_call 28; go_must (refine (show Calls _ _ #[ptrV db] _ _ by rw [← HX.out]; exact wrong_p _ n0 x p H.out HP.out false HD.out).mono ?_); rintro e w2 ⟨rfl, rfl⟩)
 go_cut [9] (fun s9 wx => s9 = .int .i64 0 ∧ Kp NoB w wx)
 case first =>
  go_wp2_with (first
   | (go_at_call 29; go_must (refine (show Calls _ _ #[ptrV db, .string s] _ _ by rw [← HX.out]; exact bytes_ok _ _ _ _ HS.out H.out).mono ?_); rintro e w3 ⟨B, cap, rfl, _, rfl⟩; rw [HW.out])
   | (go_at_call 67; go_must (refine (show Calls _ _ #[ptrV db, .string s, .int .i64 _] _ _ by rw [← HX.out]; exact fits_ok _ n0 x p s _ HS.out (by omega) H.out HP.out).mono ?_); rintro e w4 ⟨rfl, hk4⟩; (first | rw [HMX.out.1 (by omega)] | rw [HMX.out.2 (by omega)]); have HK4 := zh hk4; clear hk4))
  all_goals
   go_meet
   case rel => exact ⟨rfl, HK4.out⟩
 case rest =>
  obtain ⟨rfl, hkc⟩ := hcut
  have HKC := zh hkc
  have HC := zh (H.out.keep hkc (fun _ _ q => q) (fun _ _ _ q => q))
  clear hkc
  go_upto_if 58 with (go_at_call 29; go_must (refine (show Calls _ _ #[ptrV db, .string s] _ _ by rw [← HX.out]; exact bytes_ok _ _ _ _ HS.out HC.out).mono ?_); rintro e w3 ⟨B, cap, rfl, _, rfl⟩; rw [HW.out])
  go_cut [] (fun wx => To n0 w x p1 wx)
  case first =>
   by_cases hg : (was : Int) < en
   ·go_wp2_with (go_at_call 68; go_must (refine (show Calls _ _ #[ptrV db, .string s, .int .i64 en] _ _ by rw [← HX.out, ← HEN.out, HAA.out]; exact length_ok _ n0 x p s (a + d.size) HS.out (by have := HM.out; omega) (by have := HPD.out; omega) HA2.out (Nat.le_trans HN0.out HKC.out.size) HC.out HP.out).mono ?_); rintro e w5 ⟨rfl, ht5⟩; have HT5 := zh ht5; clear ht5)
    go_meet
    case rel =>
     rw [← HP1.out, if_pos (by rw [← HP.out.seen_eq, HW.out]; have := HEN.out; have := HAA.out; omega)]
     exact HT5.out.quiet HKC.out H.out
   ·go_wp2_with fail
    go_meet
    case rel =>
     rw [← HP1.out, if_neg (by rw [← HP.out.seen_eq, HW.out]; have := HEN.out; have := HAA.out; omega)]
     exact (To.refl HC.out HP.out).quiet HKC.out H.out
  case rest =>
   obtain ⟨x1, hd1, hq1, hdb1, hk1, ho1⟩ := hcut
   have HD1 := zh hd1
   have HQ1 := zh hq1
   have HK1 := zh hk1
   have HO1 := zh ho1
   have HX1 : Hid (x1.db = db) := zh (hdb1.trans HX.out)
   have hl1 : en ≤ ((p1.seen s).length : Int) := by
    rw [← HP1.out]
    have e1 := HEN.out
    have e2 := HAA.out
    split
    ·unfold Pl.length
     rw [if_neg (by omega)]
     simp only [Pl.pend, Pl.setSeen, upd_same, sizedF_len]
     omega
    ·omega
   have hl2 : (p1.seen s).length ≤ 1048576 := by rw [← hq1.seen_eq]; exact seen_le hd1 s
   have hm1 : Hid (x1.mn < 1099511627776) := zh (by
    have e1 := hq1.nf
    have e2 : p1.nf ≤ p.nf + 1 := by
     rw [← HP1.out]
     split
     ·unfold Pl.length
      split <;> simp [Pl.at_, Pl.pend, Pl.setSeen]
     ·omega
    have := HM.out
    omega)
   have hpd1 : Hid (x1.pd.length < 1099511627776 - 19000) := zh (by
    rw [← hq1.pd]
    have e2 : p1.pd.length ≤ p.pd.length + 1 := by
     rw [← HP1.out]
     split
     ·unfold Pl.length
      split <;> simp [Pl.at_, Pl.pend, Pl.setSeen]
     ·omega
    have := HPD.out
    omega)
   obtain ⟨l1, hl⟩ : ∃ l1, p1.seen s = l1 := ⟨_, rfl⟩
   rw [hl] at hl1 hl2
   have HL := zh hl
   obtain ⟨L, hL⟩ : ∃ L, l1.length = L := ⟨_, rfl⟩
   rw [hL] at hl1 hl2
   have HLL := zh hL
   have hn1 : Hid (n0 ≤ wc.heap.size) := zh (Nat.le_trans HN0.out hk1.size)
   clear hd1 hq1 hk1 ho1 hdb1 hl hL
   go_wp2_with fail
   refine (show Calls _ _ #[ptrV db, .string s] _ _ by rw [← HX1.out]; exact at_ok _ n0 x1 s HS.out hm1.out hn1.out HD1.out).mono ?_
   rintro e w5 ⟨e0, m2, rfl, hd5, hm5, hnm5, hsn5, hkp5, hk5, hfb5⟩
   have HD5 := zh hd5
   have HE5 := zh (show e0.nm = s ∧ e0.seen = l1 ∧ e0.kept = p1.kept s from ⟨hnm5, by rw [hsn5, HQ1.out.seen_eq, HL.out], by rw [hkp5, HQ1.out.kept_eq]⟩)
   have HK5 := zh hk5
   have HF0 := zh (findF_some (show findF (putF x1.fs e0) (kOf e0.nm) = some e0 by rw [putF_find, if_pos rfl])).1
   have HO5 := zh (O_at (m := m2) HD1.out hk5 hfb5)
   have HQ5 := zh (HQ1.out.at_ e0 m2 hm5 (by rw [hsn5, hnm5]) (by rw [hkp5, hnm5]))
   obtain ⟨u, v, hb, hu, hv⟩ := (hd5.fls e0 HF0.out).blk
   obtain ⟨A5, cap5, rfl⟩ := hu.form
   rw [HE5.out.2.1, HLL.out] at hu hb
   have HB5 := zh hb
   have HU5 := zh hu
   have HV5 := zh hv
   have c5 : w5.cell? ⟨e0.fb, 0, none⟩ = some (.slice A5 L cap5) := by rw [hb.cell]; rfl
   obtain ⟨fb, hfb⟩ : ∃ fb, e0.fb = fb := ⟨_, rfl⟩
   have HFB := zh hfb
   rw [hfb] at c5
   rw [show ptrV e0.fb = .pointer (some ⟨fb, 0, none⟩) by rw [hfb]; rfl]
   clear hb hu hv hd5 hm5 hnm5 hsn5 hkp5 hk5 hfb5 hfb
   go_wp2_with fail
   have hL0 : 0 < L := by have := HEN.out; have := HAA.out; omega
   refine (clone_ok w5 n0 A5 L cap5 l1 HLL.out.symm (by rw [HLL.out]; omega) HU5.out).mono ?_
   rintro e w6 ⟨B6, c6, rfl, hq6, hk6⟩
   rw [HLL.out] at hq6 ⊢
   obtain ⟨g6, ds6, rfl, hg6, hB6⟩ := own_blk1 (by have := hq6.own; rw [HLL.out] at this; exact this) hL0
   have hcap6 : L ≤ c6 := own_cap (by have := hq6.own; rw [HLL.out] at this; exact this)
   have HQ6 := zh hq6
   have HK6 := zh hk6
   have HB6 := zh hB6
   have HG6 := zh hg6
   have hfl : fb < w5.heap.size := by rw [← HFB.out]; exact HB5.out.lt
   have z60 : w6.frozen? ⟨fb, 0, none⟩ = false := by rw [← HFB.out]; exact (HB5.out.keep hk6 (fun q => q)).frozen 0
   have c60 : w6.cell? ⟨fb, 0, none⟩ = some (.slice A5 L cap5) := by rw [hk6.cell hfl (fun q => q)]; exact c5
   have HGF : Hid (g6 ≠ fb) := zh (by omega)
   have HFL := zh hfl
   have hAt : A.toNat = a := by have := HAA.out; omega
   have hac : ¬ c6 = a := by have := HEN.out; have := HAA.out; omega
   have haL : A ≤ (L : Int) := by have := HEN.out; omega
   have haL2 : a ≤ L := by have := HEN.out; have := HAA.out; omega
   have haL3 : a ≤ c6 := by omega
   clear hq6 hk6 hB6 hg6 c5 hfl
   have hth : (w6.setCell ⟨fb, 0, none⟩ (.slice (some ⟨g6, 0, none⟩) L c6)).there g6 a d.size := by
    have := HB6.out.far (p := ⟨fb, 0, none⟩) HGF.out (.slice (some ⟨g6, 0, none⟩) L c6)
    exact this.there (by simp [HLL.out]; have := HEN.out; have := HAA.out; omega)
   have HTH := zh hth
   have hld : a + (strI d).length ≤ l1.length := by rw [strI_len, HLL.out]; have := HEN.out; have := HAA.out; omega
   have HLD := zh hld
   clear hth hld
   go_wp2_with (show wpList _ _ _ (⟨some 84, _, _, _, _, _⟩ :: _) _ _; go_loud (refine wpList_copyS rfl (.tmp 82) (.tmp 83) 68 9 5 rfl Tryz.underlying68 sizeU8 g6 a (L - a) (c6 - a) d rfl rfl (by have := HEN.out; have := HAA.out; omega) HTH.out ?_); generalize hw7 : (w6.setCell ⟨fb, 0, none⟩ (.slice (some ⟨g6, 0, none⟩) L c6)).setCells g6 a ((strI d).map (Value.int .u8)) = w7; have HW7 := zh hw7; clear hw7)
   obtain ⟨l7, hl7⟩ : ∃ l7, Pl.put l1 a (strI d) = l7 := ⟨_, rfl⟩
   obtain ⟨sv, hsv⟩ : ∃ sv, Value.slice (some ⟨g6, 0, none⟩) L c6 = sv := ⟨_, rfl⟩
   have hb6 : Blk (w6.setCell ⟨fb, 0, none⟩ sv) fb 128 #[sv, v] := by
    have := (HB5.out.keep HK6.out (fun q => q)).set_ 0 sv
    rw [HFB.out] at this
    exact this
   have hk56 : Kp (OnB fb) w5 (w6.setCell ⟨fb, 0, none⟩ sv) := (HK6.out.mono (S' := OnB fb) (fun _ _ q => q.elim)).setAt rfl _ _
   have hk57 : Kp (OnB fb) w5 w7 := by rw [← HW7.out, hsv]; exact Kp.setCells (.inl HG6.out) _ _ _ hk56
   have hb7 : Blk w7 fb 128 #[sv, v] := by rw [← HW7.out, hsv]; exact Blk.farCells HGF.out.symm _ _ _ hb6
   have hl7L : l7.length = L := by rw [← hl7, put_len HLD.out, HLL.out]
   have hq7 : Bq w7 n0 sv l7 := by
    rw [← HW7.out, hsv, ← hl7, ← hsv]
    refine bq_write ((HQ6.out.mono (Nat.le_trans hn1.out HK5.out.size)).keep ((Kp.refl (OnB fb) w6).setAt rfl 0 _) (fun g cs' hc q => onb_cells (HB5.out.keep HK6.out (fun q => q)) hc (by decide) (by rw [HFB.out]; exact q))) HLL.out a (strI d) HLD.out (strI_rng d)
   have hd7 := HD5.out.refile HF0.out (by rw [HFB.out]; exact hk57) { e0 with seen := l7 } rfl rfl ⟨⟨sv, v, by rw [← HFB.out] at hb7; exact hb7, hq7, HV5.out.keep hk57 (fun g cs' hc q => onb_cells HB5.out hc (by decide) (by rw [HFB.out]; exact q))⟩, by simp only [hl7L]; exact hl2, (HD5.out.fls e0 HF0.out).lk⟩
   obtain ⟨x3, hx3⟩ : ∃ x3 : Dd, ({ x1 with fs := putF (putF x1.fs e0) { e0 with seen := l7 }, mn := m2 } : Dd) = x3 := ⟨_, rfl⟩
   have HX3 : Hid (x3.db = db ∧ x3.pv = x1.pv ∧ x3.pd = x1.pd) := zh (by rw [← hx3]; exact ⟨HX1.out, rfl, rfl⟩)
   have HE3 : Hid (({ e0 with seen := l7 } : Fe) ∈ x3.fs) := zh (by
    rw [← hx3]
    exact (findF_some (show findF (putF (putF x1.fs e0) { e0 with seen := l7 }) (kOf e0.nm) = some { e0 with seen := l7 } by rw [putF_find, if_pos rfl])).1)
   have HQ3 : Hid (Of x3 (p1.at_.setSeen s l7)) := zh (by
    have := HQ5.out.setSeen { e0 with seen := l7 } (by simp only [keptOf_put, upd_same])
    rw [hx3] at this
    have e2 := HE5.out.1
    simp only [e2] at this
    exact this)
   have HD3 : Hid (Dk n0 w7 x3) := zh (by rw [← hx3]; exact hd7)
   have HO3 : Hid (Kp x.O w w7 ∧ ∀ b, x3.O b → x.O b ∨ w.heap.size ≤ b) := zh (by
    have o3 : ∀ b, x3.O b → x1.O b ∨ wc.heap.size ≤ b := fun b hb => HO5.out.2 b (O_put (x := { x1 with fs := putF x1.fs e0, mn := m2 }) (e := { e0 with seen := l7 }) ⟨e0, HF0.out, rfl⟩ b (by rw [hx3]; exact hb))
    have up : ∀ b, x1.O b ∨ wc.heap.size ≤ b → x.O b ∨ w.heap.size ≤ b := fun b q => by
     rcases q with q | q
     ·exact HO1.out b q
     ·exact .inr (Nat.le_trans HK1.out.size q)
    have k5 : Kp x1.O wc w7 := HO5.out.1.trans hk57 (fun i hi q => by
     rcases HO5.out.2 i (.inr (.inr (.inr ⟨e0, HF0.out, by rw [HFB.out]; exact q⟩))) with q | q
     ·exact q
     ·omega)
    refine ⟨HK1.out.trans k5 (fun i hi q => ?_), fun b hb => up b (o3 b hb)⟩
    rcases HO1.out i q with q | q
    ·exact q
    ·omega)
   have HB7 := zh hb7
   have HSV := zh hsv
   have HL7 := zh hl7
   have HL7L := zh hl7L
   clear hl7 hsv hb6 hk56 hk57 hb7 hq7 hd7 hx3 z60 c60 hl7L
   have hk0 : A / 64 = ((a / 64 : Nat) : Int) := by have := HAA.out; omega
   go_loopw [12] (fun v12 wr => WrRel n0 w7 x3 s l7 fb sv (a / 64) ((a + d.size + 63) / 64) v12 wr) (fun v12 _ => 100000 - (intOf v12).toNat)
   case atStart => exact ⟨a / 64, x3.pv, by rw [← hk0], Nat.le_refl _, by omega, by unfold secs; rw [Nat.sub_self]; simpa using HD3.out, by rw [HB7.out.cell]; rfl, Kp.refl _ _, fun b hb => .inl hb⟩
   case round =>
    obtain ⟨k, pv, rfl, hka, hke, hdr, hcr, hkr, hpr⟩ := hrel
    obtain ⟨pl, hpl⟩ : ∃ pl, (x3.pd ++ secs s l7 (a / 64) k).length = pl := ⟨_, rfl⟩
    have HPL2 := zh hpl
    have hpf := own_slice hdr.pend
    simp only [hpl] at hpf
    obtain ⟨Ap, kp, hpv⟩ := hpf
    subst hpv
    clear hpl
    have HDR := zh hdr
    have HKR := zh hkr
    have HPR := zh hpr
    have HKA := zh hka
    have HKE := zh hke
    obtain ⟨K, hK⟩ : ∃ K : Int, (k : Int) = K := ⟨_, rfl⟩
    have HKK := zh hK
    have hK0 : 0 ≤ K := by omega
    have hK1 : K ≤ 16385 := by have := HEN.out; have := HAA.out; omega
    have HQR : Hid (Of { x3 with pv := .slice Ap pl kp, pd := x3.pd ++ secs s l7 (a / 64) k } ((p1.at_.setSeen s l7).pend (secs s l7 (a / 64) k))) := zh { HQ3.out with pd := by simp only [Pl.pend, HQ3.out.pd] }
    rw [hK]
    clear hdr hkr hpr hka hke hK
    by_cases hlt : K * 64 < en
    ·have HLT := zh hlt
     have hcr2 : wr.cell? ⟨fb, 0, none⟩ = some (.slice (some ⟨g6, 0, none⟩) L c6) := by rw [HSV.out]; exact hcr
     have hbz : Blk (wr.alloc (.cells (cgA ⟨#[]⟩ 0 0 (zeros 64)) 121)) wr.heap.size 121 (cgA ⟨#[]⟩ 0 0 (zeros 64)) := Blk.new _ _ _
     have t0 := hbz.thereAll 67 (by rw [cgA_size]; rfl)
     have on1 : ones (cgA s K 0 (zeros 64)) := cgA_ones _ _ _ _
     have sz1 : (cgA s K 0 (zeros 64)).size = 67 := by rw [cgA_size]; rfl
     have HCR := zh hcr2
     clear hcr hbz
     go_upto_region 23 with fail
     obtain ⟨g8, hg8⟩ : ∃ g8, wr.heap.size = g8 := ⟨_, rfl⟩
     have HG8 := zh hg8
     have hb8 : Blk ((wr.alloc (.cells (cgA ⟨#[]⟩ 0 0 (zeros 64)) 121)).setCells wr.heap.size 0 (cgA s K 0 (zeros 64)).toList) wr.heap.size 121 (cgA s K 0 (zeros 64)) := (Blk.new wr 121 _).whole _ (by rw [cgA_size, cgA_size])
     have hk8 : Kp NoB wr ((wr.alloc (.cells (cgA ⟨#[]⟩ 0 0 (zeros 64)) 121)).setCells wr.heap.size 0 (cgA s K 0 (zeros 64)).toList) := Kp.setCells (.inl (Nat.le_refl _)) _ _ _ ((Kp.refl NoB wr).alloc _)
     rw [hg8] at hb8 hk8 ⊢
     generalize (wr.alloc (.cells (cgA ⟨#[]⟩ 0 0 (zeros 64)) 121)).setCells g8 0 (cgA s K 0 (zeros 64)).toList = w8 at hb8 hk8 ⊢
     have HB8 := zh hb8
     have HK8 := zh hk8
     have hfr : fb < wr.heap.size := by
      obtain ⟨u', v', hb', _⟩ := (HDR.out.fls _ HE3.out).blk
      have := hb'.lt
      rw [← HFB.out]; exact this
     have c8 : w8.cell? ⟨fb, 0, none⟩ = some (.slice (some ⟨g6, 0, none⟩) L c6) := by rw [hk8.cell hfr (fun q => q)]; exact hcr2
     clear hg8 hb8 hk8 hcr2 t0 on1 sz1
     have hwm : IntKind.i64.wrap (K * 64) = K * 64 := by rw [IntKind.wrap_i64]; omega
     have hkt : (K * 64).toNat = k * 64 := by have := HKK.out; omega
     have hkL : K * 64 ≤ (L : Int) := by omega
     have hkL2 : k * 64 ≤ L := by have := HKK.out; omega
     have hkc : ¬ c6 = k * 64 := by have := HKK.out; omega
     have hkc2 : k * 64 ≤ c6 := by omega
     have hk64 : 0 ≤ K * 64 := by omega
     obtain ⟨kk, hkk⟩ : ∃ kk, k * 64 = kk := ⟨_, rfl⟩
     rw [hkk] at hkt hkL2 hkc hkc2
     have HKK2 := zh hkk
     obtain ⟨cs, hcs⟩ : ∃ cs, ((l7.drop kk).take 64).map (Value.int .u8) = cs := ⟨_, rfl⟩
     have HCS : Hid (cs.length = Nat.min (L - kk) 64) := zh (by rw [← hcs, List.length_map, List.length_take, List.length_drop, HL7L.out]; exact Nat.min_comm _ _)
     have HCS2 := zh hcs
     clear hkk hcs
     have HQ8 : Hid (Bq w8 n0 (.slice (some ⟨g6, 0, none⟩) L c6) l7) := zh (by
      obtain ⟨u', v', hb', hu', _⟩ := (HDR.out.fls _ HE3.out).blk
      have hc' : wr.cell? ⟨fb, 0, none⟩ = some u' := by rw [← HFB.out, hb'.cell]; rfl
      have : u' = .slice (some ⟨g6, 0, none⟩) L c6 := by
       have q := HK8.out.cell hfr (fun q => q) (o := 0)
       rw [c8, hc'] at q
       exact (Option.some.inj q).symm
      rw [this] at hu'
      exact hu'.keep HK8.out (fun _ _ _ q => q))
     have HSRC : Hid (∀ j v, cs[j]? = some v → w8.drew.cell? ((⟨g6, kk, none⟩ : Addr).add j) = some v) := zh (by
      intro j v hj
      obtain ⟨g', o', e', hc'⟩ := bq_src HQ8.out HL7L.out.symm (by have := HLT.out; have := HKK.out; have := HKK2.out; have := HL7L.out; omega)
      simp only [Option.some.injEq, Addr.mk.injEq] at e'
      obtain ⟨rfl, rfl, _⟩ := e'
      rw [add_mk]
      have := hc' (kk + j) v (by
       rw [← HCS2.out] at hj
       rw [List.getElem?_map, List.getElem?_take] at hj
       split at hj
       ·rw [List.getElem?_drop] at hj
        rw [List.getElem?_map]; exact hj
       ·cases hj)
      rw [Nat.zero_add] at this
      exact this)
     have HTH8 : Hid (w8.drew.there g8 3 cs.length) := zh (HB8.out.drew.there (by rw [cgA_size, HCS.out]; have := Nat.min_le_right (L - kk) 64; simp only [zeros, List.length_replicate]; unfold Nat.min at *; omega))
     have HONE : Hid (∀ v ∈ cs, v.oneCell' = true) := zh (by rw [← HCS2.out]; exact u8_one _)
     go_region_law (first
      | (refine step_copyC rfl (.tmp 97) (.tmp 105) 68 68 rfl 5 Tryz.underlying68 infoU8 g8 3 64 64 ⟨g6, kk, none⟩ (L - kk) (c6 - kk) cs (by go_simp) (by go_simp) HCS.out HSRC.out HTH8.out HONE.out ?_)
      | go_simp)
     have hb9 := cgA_copy (l := l7.drop kk) HB8.out.drew
     rw [HCS2.out] at hb9
     have hk9 : Kp NoB wr (w8.drew.setCells g8 3 cs) := Kp.setCells (.inl (by have := HG8.out; omega)) _ _ _ HK8.out.drew
     generalize w8.drew.setCells g8 3 cs = w9 at hb9 hk9 ⊢
     obtain ⟨ll, hll⟩ : ∃ ll, sizedF (l7.drop kk) 64 = ll := ⟨_, rfl⟩
     rw [hll] at hb9
     have HLL2 := zh hll
     have HB9 := zh hb9
     have HK9 := zh hk9
     have hll64 : ll.length = 64 := by rw [← hll, sizedF_len]
     have HL64 := zh hll64
     have t9 := hb9.thereAll 67 (by rw [cgA_size, hll64])
     have r9 := hb9.readAll 67 (by rw [cgA_size, hll64])
     have sz9 : (cgA s K 0 ll).size = 67 := by rw [cgA_size, hll64]
     have HD9 := zh (HDR.out.keep hk9 (fun _ _ q => q) (fun _ _ _ q => q))
     have c9 : w9.cell? ⟨db, 1, none⟩ = some (.slice Ap pl kp) := by rw [← HX3.out.1, HD9.out.blk.cell]; rfl
     have z9 : w9.frozen? ⟨db, 1, none⟩ = false := by rw [← HX3.out.1]; exact HD9.out.blk.frozen 1
     clear hb9 hk9 hll hll64 c8 hwm hkt hkL hkL2 hkc hkc2 hk64 hfr
     obtain ⟨j0, hj0, hy0, hy1, hy2⟩ := info_parts infoCg
     have HJ0 := zh hj0
     have HY0 := zh hy0
     have HY1 := zh hy1
     have HY2 := zh hy2
     have HN9 : Hid (n0 ≤ w9.heap.size) := zh (Nat.le_trans HN0.out (Nat.le_trans HO3.out.1.size (Nat.le_trans HKR.out.size HK9.out.size)))
     have HPL : Hid (pl < 1099511627776 - 1000) := zh (by rw [← HPL2.out, HX3.out.2.2, List.length_append, secs_len]; have := hpd1.out; have := HKK.out; omega)
     have HPV : Hid (w9.ownsRow n0 121 67 (.slice Ap pl kp) pl (cgCells (x3.pd ++ secs s l7 (a / 64) k))) := zh (by have := HD9.out.pend; simp only [HPL2.out] at this; exact this)
     have HCG : Hid (CgOk ⟨s, K, 0, ll⟩) := zh ⟨.inr ⟨HL64.out, hK0, (by show K ≤ 16384; have := HLT.out; omega), rfl⟩, by rw [← HLL2.out]; exact sizedF_rng (fun x hx => HQ8.out.rng x (List.mem_of_mem_drop hx)) 64, HS.out⟩
     clear hj0 hy0 hy1 hy2
     have hpw := HPV.out.kept (World.grownBy_alloc w9 (.cells (cgA s K 0 ll) 121) none) (Classical.em _)
     have HPW : Hid ((w9.alloc (.cells (cgA s K 0 ll) 121)).drew.ownsRow n0 121 67 (.slice Ap pl kp) pl (cgCells (x3.pd ++ secs s l7 (a / 64) k))) := zh hpw
     clear hpw
     have c9a : (w9.alloc (.cells (cgA s K 0 ll) 121)).cell? ⟨db, 1, none⟩ = some (.slice Ap pl kp) := by rw [← HX3.out.1, (HD9.out.blk.alloc _).cell]; rfl
     have HLEN : Hid ((cgL s K 0 ll).length = 1 * 67) := zh (by unfold cgL; simp only [List.length_cons, List.length_map, HL64.out])
     go_upto_region 24 with fail
     go_region_law (first
      | (go_loud (refine step_append_ownB rfl (.tmp 111) (.tmp 113) 53 rfl n0 121 j0 _ 67 96 Tryz.underlying53 HJ0.out HY0.out HY1.out HY2.out rfl (by omega) (.slice Ap pl kp) pl (cgCells (x3.pd ++ secs s l7 (a / 64) k)) rfl HPW.out ⟨w9.heap.size, 0, none⟩ 1 1 (cgL s K 0 ll) rfl HLEN.out (cgA_new w9 _ _ _ _) (cgA_one _ _ _ _) (by have := HPL.out; unfold maxLen; omega) (by have := HPL.out; omega) (by first | exact Nat.le_trans HN9.out ((Kp.refl NoB w9).drew.alloc _).size | exact Nat.le_trans HN9.out ((Kp.refl NoB w9).alloc _).drew.size | exact Nat.le_trans HN9.out ((Kp.refl NoB w9).alloc _).size) ?_); intro v10 w10 hown10 hgrow11 hb10; have hgrow10 := undrew hgrow11; have hpx := HD9.out.pendX (s := s) (sec := K) (n := 0) (l := ll) HCG.out (pv := v10) (by rw [HPL2.out, pad64_full HL64.out]; exact hown10) hgrow10 hb10; have c10 : w10.cell? ⟨db, 1, none⟩ = some (.slice Ap pl kp) := (by rw [← HX3.out.1, (HD9.out.blk1 hgrow10).cell]; rfl); have z10 : w10.frozen? ⟨db, 1, none⟩ = false := (by rw [← HX3.out.1]; exact (HD9.out.blk1 hgrow10).frozen 1); obtain ⟨A10, k10, rfl⟩ := own_slice hown10; have HPX := zh hpx; clear hown10 hgrow10 hgrow11 hb10 hpx)
      | go_simp)
     all_goals
      go_wp2_with fail
      have hpx := HPX.out
      have hK := HKK.out
      rw [← hK, ← HLL2.out, ← HKK2.out] at hpx
      have hne : ¬ (fb = x3.db ∨ (Value.slice Ap pl kp).ownBlock = some fb) := by
       rw [← HFB.out]; exact HD9.out.fb_ne (e := { e0 with seen := l7 }) HE3.out
      have h79 : w7.heap.size ≤ w9.heap.size := Nat.le_trans HKR.out.size HK9.out.size
      refine ⟨⟨k + 1, .slice A10 (pl + 1) k10, by rw [← hK]; rfl, by have := HKA.out; omega, by have := HLT.out; have := HEN.out; have := HAA.out; have := HKK.out; omega, ?_, ?_, ?_, ?_⟩, by simp [intOf]; omega⟩
      ·rw [secs_next _ _ HKA.out, ← List.append_assoc, ← HX3.out.1]
       exact hpx.1
      ·rw [← HX3.out.1, hpx.2.1.cell (by rw [← HFB.out]; obtain ⟨u', v', hb', _⟩ := (HD9.out.fls _ HE3.out).blk; exact hb'.lt) hne, ← HSV.out]
       exact (HK9.out.cell (by rw [← HFB.out]; obtain ⟨u', v', hb', _⟩ := (HDR.out.fls _ HE3.out).blk; exact hb'.lt) (fun q => q)).trans HCR.out
      ·rw [← HX3.out.1]
       refine (HKR.out.trans HK9.out (fun _ _ q => q.elim)).trans hpx.2.1 (fun i hi q => ?_)
       rcases q with q | q
       ·exact .inl q
       ·rcases HPR.out i q with q | q
        ·exact .inr q
        ·omega
      ·intro b hb
       rcases hpx.2.2 b hb with q | q
       ·exact HPR.out b q
       ·exact .inr (by omega)
    ·have HEX := zh hlt
     go_wp2_with (go_at_call 66; go_must (refine (show Calls _ _ #[ptrV db] _ _ by rw [← HX3.out.1]; exact step_p _ n0 { x3 with pv := .slice Ap pl kp, pd := x3.pd ++ secs s l7 (a / 64) k } _ HDR.out HQR.out).mono ?_); rintro e w9 ⟨rfl, ht9⟩; have HT9 := zh ht9; clear ht9)
     go_ret
     have ek : k = (a + d.size + 63) / 64 := by have := HEX.out; have := HKK.out; have := HEN.out; have := HAA.out; have := HKE.out; omega
     have hkw : Kp x.O w wr := HO3.out.1.trans HKR.out.pendO (fun i hi q => by
      rcases HO3.out.2 i q with q | q
      ·exact q
      ·omega)
     have hT := HT9.out.trans (w := w) (x := x) (HX3.out.1.trans HX.out.symm) hkw (fun b hb => by
      rcases O_pend (w := w7) HPR.out b hb with q | q
      ·exact HO3.out.2 b q
      ·exact .inr (Nat.le_trans HO3.out.1.size q))
     have ecr : p1.crash = p.crash := by
      rw [← HP1.out]
      split
      ·unfold Pl.length
       split <;> rfl
      ·rfl
     refine ⟨?_, ?_⟩
     ·unfold Pl.writeE
      simp only [HD.out, strI_len]
      rw [if_neg (by simp), if_neg (by omega), if_neg (by omega), if_neg (by rw [← List.length_eq_zero_iff, strI_len]; omega), if_neg (by rw [HF.out]; simp)]
      simp only [Pl.stepE, Pl.pend, Pl.setSeen, Pl.at_, ecr]
      rfl
     ·unfold Pl.write
      simp only [HD.out, strI_len]
      rw [if_neg (by simp; omega), if_neg (by rw [← List.length_eq_zero_iff, strI_len]; omega), if_neg (by rw [HF.out]; simp), hAt]
      unfold Pl.write1
      simp only [strI_len, HP1.out, HL.out, HL7.out]
      rw [← secs_all, ← ek]
      exact hT
end
section
open Go.RowKit
theorem write_ok (w : World) (n0 : Nat) (x : Dd) (p : Pl) (s : ByteArray) (a : Int) (d : ByteArray) (h : Dk n0 w x) (hp : Of x p) (hs : s.size ≤ maxLen) (hds : d.size ≤ maxLen) (hn0 : n0 ≤ w.heap.size)
  (hm : p.nf < 1099511627776 - 10) (hpd : p.pd.length < 1099511627776 - 20000) :
  Calls Tryz.prog 25 #[ptrV x.db, .string s, .int .i64 a, .string d] w (WrPost n0 w x p s a (strI d)) := by
 rcases hd : p.down with _ | _
 ·by_cases ha : a < 0
  ·exact write_neg w n0 x p s a d h hp hd ha
  ·by_cases hl : 1048576 < a ∨ 1048576 - a < d.size
   ·exact write_long w n0 x p s a d h hp hd (by omega) hds hl
   ·by_cases hz : d.size = 0
    ·exact write_none w n0 x p s a d h hp hd (by omega) (by omega) hz
    ·by_cases hf : p.fits s (max (a + d.size) (p.seen s).length) = 0
     ·exact write_main w n0 x p s a a.toNat d h hp hs hd (by omega) (by omega) (by omega) hn0 hm hpd hf
     ·exact write_full w n0 x p s a d h hp hs hd (by omega) (by omega) (by omega) hf
 ·exact write_down w n0 x p s a d h hp hd
set_option maxRecDepth 100000 in
theorem len_ok (w : World) (n0 : Nat) (x : Dd) (p : Pl) (s : ByteArray) (h : Dk n0 w x) (hp : Of x p) (hs : s.size ≤ maxLen) :
  Calls Tryz.prog 109 #[ptrV x.db, .string s] w fun e w' => e = .returned (.int .i64 (p.len s)) ∧ w = w' := by
 have H := zh h
 have HP := zh hp
 have HS := zh hs
 have hd := h.blk
 have c5 : w.cell? ⟨x.db, 5, none⟩ = some (.bool p.down) := by rw [h.blk.cell, hp.down]; rfl
 obtain ⟨db, hdb⟩ : ∃ db, x.db = db := ⟨_, rfl⟩
 have HX := zh hdb
 obtain ⟨m, hm⟩ : ∃ m, (seenOf x.fs s).length = m := ⟨_, rfl⟩
 have HM := zh hm
 rw [hdb] at c5 ⊢
 rcases hdn : p.down with _ | _
 ·have HDN := zh hdn
  rw [hdn] at c5
  clear h hp hs hd hdb hdn hm
  unfold ptrV
  go_enter Tryz.func109, Tryz.ntmps109
  go_wp2_with (first
   | (go_at_call 27; go_must (refine (show Calls _ _ #[ptrV db] _ _ by rw [← HX.out]; exact is_ok _ _ _ H.out).mono ?_); rintro e w2 ⟨rfl, rfl⟩)
   | (go_at_call 29; go_must (refine (show Calls _ _ #[ptrV db, .string s] _ _ by rw [← HX.out]; exact bytes_ok _ _ _ _ HS.out H.out).mono ?_); rintro e w3 ⟨B, cap, rfl, _, rfl⟩; rw [HM.out]))
  go_ret
  exact ⟨by unfold Pl.len; rw [HDN.out, ← HP.out.seen_eq, HM.out]; rfl, rfl⟩
 ·have HDN := zh hdn
  rw [hdn] at c5
  clear h hp hs hd hdb hdn hm
  unfold ptrV
  go_enter Tryz.func109, Tryz.ntmps109
  go_wp2_with (go_at_call 27; go_must (refine (show Calls _ _ #[ptrV db] _ _ by rw [← HX.out]; exact is_ok _ _ _ H.out).mono ?_); rintro e w2 ⟨rfl, rfl⟩)
  go_ret
  exact ⟨by unfold Pl.len; rw [HDN.out]; rfl, rfl⟩
set_option maxRecDepth 100000 in
theorem setroom_ok (w : World) (n0 : Nat) (x : Dd) (p : Pl) (n : Int) (hn : -9223372036854775808 ≤ n ∧ n ≤ 9223372036854775807) (h : Dk n0 w x) (hp : Of x p) :
  Calls Tryz.prog 20 #[ptrV x.db, .int .i64 n] w fun e w' => e = .returned (.tuple #[]) ∧ To n0 w x (p.setRoom n) w' := by
 have H := zh h
 have HP := zh hp
 obtain ⟨db, hdb⟩ : ∃ db, x.db = db := ⟨_, rfl⟩
 have HX := zh hdb
 have c : w.cell? ⟨x.db, 2, none⟩ = some (.int .i64 x.room) := by rw [h.blk.cell]; rfl
 have z : w.frozen? ⟨x.db, 2, none⟩ = false := h.blk.frozen 2
 rw [hdb] at c z ⊢
 have fin : Hid (∀ m, max 0 n = m → To n0 w x (p.setRoom n) (w.setCell ⟨db, 2, none⟩ (.int .i64 m))) := zh (by
  rintro m hm
  have k : Kp (OnB x.db) w (w.setCell ⟨x.db, 2, none⟩ (.int .i64 m)) := (Kp.refl (OnB x.db) w).setAt rfl _ _
  have hb := H.out.blk.set_ 2 (.int .i64 m)
  rw [← HX.out]
  have hd := H.out.numbers k m x.steps x.crash x.down x.starts (by simpa [diskCells] using hb) (by omega) H.out.c0
  exact ⟨_, hd, { HP.out with room := by simp only [Pl.setRoom, hm] }, rfl, k.mono (fun _ _ q => .inl q), fun b hb => .inl hb⟩)
 clear h hp hdb
 unfold ptrV
 rcases (show n < 0 ∨ n = 0 ∨ 0 < n by omega) with h0 | rfl | h0
 ·have hh : ¬ 0 ≤ n := by omega
  go_enter Tryz.func20, Tryz.ntmps20
  go_wp2_with (go_at_call 27; go_must (refine (show Calls _ _ #[ptrV db] _ _ by rw [← HX.out]; exact is_ok _ _ _ H.out).mono ?_); rintro e w2 ⟨rfl, rfl⟩)
  all_goals exact bodyPost_end (results_none rfl _ _ _) rfl ⟨rfl, fin.out _ (by omega)⟩
 ·go_enter Tryz.func20, Tryz.ntmps20
  go_wp2_with (go_at_call 27; go_must (refine (show Calls _ _ #[ptrV db] _ _ by rw [← HX.out]; exact is_ok _ _ _ H.out).mono ?_); rintro e w2 ⟨rfl, rfl⟩)
  all_goals exact bodyPost_end (results_none rfl _ _ _) rfl ⟨rfl, fin.out _ (by omega)⟩
 ·have hh : 0 ≤ n := by omega
  go_enter Tryz.func20, Tryz.ntmps20
  go_wp2_with (go_at_call 27; go_must (refine (show Calls _ _ #[ptrV db] _ _ by rw [← HX.out]; exact is_ok _ _ _ H.out).mono ?_); rintro e w2 ⟨rfl, rfl⟩)
  all_goals exact bodyPost_end (results_none rfl _ _ _) rfl ⟨rfl, fin.out _ (by omega)⟩
set_option maxRecDepth 100000 in
theorem crashin_ok (w : World) (n0 : Nat) (x : Dd) (p : Pl) (n : Int) (hn : -9223372036854775808 ≤ n ∧ n ≤ 9223372036854775807) (h : Dk n0 w x) (hp : Of x p) :
  Calls Tryz.prog 21 #[ptrV x.db, .int .i64 n] w fun e w' => e = .returned (.tuple #[]) ∧ To n0 w x (p.crashIn n) w' := by
 have H := zh h
 have HP := zh hp
 obtain ⟨db, hdb⟩ : ∃ db, x.db = db := ⟨_, rfl⟩
 have HX := zh hdb
 have c : w.cell? ⟨x.db, 4, none⟩ = some (.int .i64 x.crash) := by rw [h.blk.cell]; rfl
 have z : w.frozen? ⟨x.db, 4, none⟩ = false := h.blk.frozen 4
 rw [hdb] at c z ⊢
 have fin : Hid (∀ m, max 0 n = m → To n0 w x (p.crashIn n) (w.setCell ⟨db, 4, none⟩ (.int .i64 m))) := zh (by
  rintro m hm
  have k : Kp (OnB x.db) w (w.setCell ⟨x.db, 4, none⟩ (.int .i64 m)) := (Kp.refl (OnB x.db) w).setAt rfl _ _
  have hb := H.out.blk.set_ 4 (.int .i64 m)
  rw [← HX.out]
  have hd := H.out.numbers k x.room x.steps m x.down x.starts (by simpa [diskCells] using hb) H.out.r0 (by omega)
  exact ⟨_, hd, { HP.out with crash := by simp only [Pl.crashIn, hm] }, rfl, k.mono (fun _ _ q => .inl q), fun b hb => .inl hb⟩)
 clear h hp hdb
 unfold ptrV
 rcases (show n < 0 ∨ n = 0 ∨ 0 < n by omega) with h0 | rfl | h0
 ·have hh : ¬ 0 ≤ n := by omega
  go_enter Tryz.func21, Tryz.ntmps21
  go_wp2_with (go_at_call 27; go_must (refine (show Calls _ _ #[ptrV db] _ _ by rw [← HX.out]; exact is_ok _ _ _ H.out).mono ?_); rintro e w2 ⟨rfl, rfl⟩)
  all_goals exact bodyPost_end (results_none rfl _ _ _) rfl ⟨rfl, fin.out _ (by omega)⟩
 ·go_enter Tryz.func21, Tryz.ntmps21
  go_wp2_with (go_at_call 27; go_must (refine (show Calls _ _ #[ptrV db] _ _ by rw [← HX.out]; exact is_ok _ _ _ H.out).mono ?_); rintro e w2 ⟨rfl, rfl⟩)
  all_goals exact bodyPost_end (results_none rfl _ _ _) rfl ⟨rfl, fin.out _ (by omega)⟩
 ·have hh : 0 ≤ n := by omega
  go_enter Tryz.func21, Tryz.ntmps21
  go_wp2_with (go_at_call 27; go_must (refine (show Calls _ _ #[ptrV db] _ _ by rw [← HX.out]; exact is_ok _ _ _ H.out).mono ?_); rintro e w2 ⟨rfl, rfl⟩)
  all_goals exact bodyPost_end (results_none rfl _ _ _) rfl ⟨rfl, fin.out _ (by omega)⟩
set_option maxRecDepth 100000 in
theorem crash_ok (w : World) (n0 : Nat) (x : Dd) (p : Pl) (h : Dk n0 w x) (hp : Of x p) :
  Calls Tryz.prog 22 #[ptrV x.db] w fun e w' => e = .returned (.tuple #[]) ∧ To n0 w x p.crashNow w' := by
 have H := zh h
 have HP := zh hp
 obtain ⟨db, hdb⟩ : ∃ db, x.db = db := ⟨_, rfl⟩
 have HX := zh hdb
 have c : w.cell? ⟨x.db, 5, none⟩ = some (.bool x.down) := by rw [h.blk.cell]; rfl
 have z : w.frozen? ⟨x.db, 5, none⟩ = false := h.blk.frozen 5
 rw [hdb] at c z ⊢
 have fin : Hid (To n0 w x p.crashNow (w.setCell ⟨db, 5, none⟩ (.bool true))) := zh (by
  have k : Kp (OnB x.db) w (w.setCell ⟨x.db, 5, none⟩ (.bool true)) := (Kp.refl (OnB x.db) w).setAt rfl _ _
  have hb := H.out.blk.set_ 5 (.bool true)
  rw [← HX.out]
  have hd := H.out.numbers k x.room x.steps x.crash true x.starts (by simpa [diskCells] using hb) H.out.r0 H.out.c0
  exact ⟨_, hd, { HP.out with down := rfl }, rfl, k.mono (fun _ _ q => .inl q), fun b hb => .inl hb⟩)
 clear h hp hdb
 unfold ptrV
 go_enter Tryz.func22, Tryz.ntmps22
 go_wp2_with (go_at_call 27; go_must (refine (show Calls _ _ #[ptrV db] _ _ by rw [← HX.out]; exact is_ok _ _ _ H.out).mono ?_); rintro e w2 ⟨rfl, rfl⟩)
 exact bodyPost_end (results_none rfl _ _ _) rfl ⟨rfl, fin.out⟩
set_option maxRecDepth 100000 in
theorem down_ok (w : World) (n0 : Nat) (x : Dd) (p : Pl) (h : Dk n0 w x) (hp : Of x p) :
  Calls Tryz.prog 8 #[ptrV x.db] w fun e w' => e = .returned (.bool p.down) ∧ w = w' := by
 have H := zh h
 obtain ⟨db, hdb⟩ : ∃ db, x.db = db := ⟨_, rfl⟩
 have HX := zh hdb
 have c : w.cell? ⟨x.db, 5, none⟩ = some (.bool p.down) := by rw [h.blk.cell, hp.down]; rfl
 rw [hdb] at c ⊢
 generalize p.down = dn at c ⊢
 clear h hp hdb
 unfold ptrV
 go_enter Tryz.func8, Tryz.ntmps8
 go_wp2_with (go_at_call 27; go_must (refine (show Calls _ _ #[ptrV db] _ _ by rw [← HX.out]; exact is_ok _ _ _ H.out).mono ?_); rintro e w2 ⟨rfl, rfl⟩)
 go_ret
 exact ⟨rfl, rfl⟩
set_option maxRecDepth 100000 in
theorem steps_ok (w : World) (n0 : Nat) (x : Dd) (p : Pl) (h : Dk n0 w x) (hp : Of x p) :
  Calls Tryz.prog 11 #[ptrV x.db] w fun e w' => e = .returned (.int .i64 p.steps) ∧ w = w' := by
 have H := zh h
 obtain ⟨db, hdb⟩ : ∃ db, x.db = db := ⟨_, rfl⟩
 have HX := zh hdb
 have c : w.cell? ⟨x.db, 3, none⟩ = some (.int .i64 p.steps) := by rw [h.blk.cell, hp.steps]; rfl
 rw [hdb] at c ⊢
 generalize p.steps = dn at c ⊢
 clear h hp hdb
 unfold ptrV
 go_enter Tryz.func11, Tryz.ntmps11
 go_wp2_with (go_at_call 27; go_must (refine (show Calls _ _ #[ptrV db] _ _ by rw [← HX.out]; exact is_ok _ _ _ H.out).mono ?_); rintro e w2 ⟨rfl, rfl⟩)
 go_ret
 exact ⟨rfl, rfl⟩
set_option maxRecDepth 100000 in
theorem pending_ok (w : World) (n0 : Nat) (x : Dd) (p : Pl) (h : Dk n0 w x) (hp : Of x p) :
  Calls Tryz.prog 12 #[ptrV x.db] w fun e w' => e = .returned (.int .i64 (p.pd.length : Nat)) ∧ w = w' := by
 have H := zh h
 obtain ⟨db, hdb⟩ : ∃ db, x.db = db := ⟨_, rfl⟩
 have HX := zh hdb
 obtain ⟨A, cap, hpv⟩ := own_slice h.pend
 have c : w.cell? ⟨x.db, 1, none⟩ = some (.slice A p.pd.length cap) := by rw [h.blk.cell, hp.pd, ← hpv]; rfl
 rw [hdb] at c ⊢
 generalize p.pd.length = dn at c ⊢
 clear h hp hdb hpv
 unfold ptrV
 go_enter Tryz.func12, Tryz.ntmps12
 go_wp2_with (go_at_call 27; go_must (refine (show Calls _ _ #[ptrV db] _ _ by rw [← HX.out]; exact is_ok _ _ _ H.out).mono ?_); rintro e w2 ⟨rfl, rfl⟩)
 go_ret
 exact ⟨rfl, rfl⟩
end
section
open Go.RowKit
attribute [local go_sem ↓] conv64
theorem by_of {w : World} {n0 : Nat} {g n cap : Nat} {l : List Int} (h : Bq w n0 (.slice (some ⟨g, 0, none⟩) n cap) l) (hn : l.length = n) (o k : Nat) (hk : o + k ≤ n) : byAt w g o k ∧ byRd w g o k = (l.drop o).take k := by
 subst hn
 have hc : ∀ j, j < k → w.cell? ⟨g, o + j, none⟩ = some (.int .u8 (l[o + j]?.getD 0)) := by
  intro j hj
  obtain ⟨g', o', e', hc'⟩ := bq_src h rfl (by omega)
  simp only [Option.some.injEq, Addr.mk.injEq] at e'
  obtain ⟨rfl, rfl, _⟩ := e'
  have := hc' (o + j) (.int .u8 (l[o + j]?.getD 0)) (by rw [List.getElem?_map, List.getElem?_eq_getElem (by omega)]; rfl)
  rw [Nat.zero_add] at this
  exact this
 refine ⟨fun j hj => ⟨_, hc j hj⟩, ?_⟩
 unfold byRd
 apply List.ext_getElem
 ·simp; omega
 ·intro j h1 h2
  have hj : j < k := by simpa using h1
  simp only [List.getElem_map, List.getElem_range, List.getElem_take, List.getElem_drop]
  rw [hc j hj, List.getElem?_eq_getElem (by omega)]
  rfl
theorem convNil (w : World) : (convert 68 9 (.slice none 0 0)).run Tryz.prog w = .ok (.string ⟨#[]⟩) w := by kernel_rfl
def RdPost (w : World) (p : Pl) (s : ByteArray) (a n : Int) (e : Ending) (w' : World) : Prop := e = .returned (.tuple #[.string (strOf (p.read s a n)), .int .i64 (p.readE a n)]) ∧ Kp NoB w w'
set_option maxRecDepth 100000 in
set_option maxHeartbeats 800000 in
theorem read_ok (w : World) (n0 : Nat) (x : Dd) (p : Pl) (s : ByteArray) (a n : Int) (ha : -9223372036854775808 ≤ a ∧ a ≤ 9223372036854775807) (hn : -9223372036854775808 ≤ n ∧ n ≤ 9223372036854775807) (h : Dk n0 w x) (hp : Of x p) (hs : s.size ≤ maxLen) :
  Calls Tryz.prog 9 #[ptrV x.db, .string s, .int .i64 a, .int .i64 n] w (RdPost w p s a n) := by
 have H := zh h
 have HP := zh hp
 have HS := zh hs
 obtain ⟨db, hdb⟩ : ∃ db, x.db = db := ⟨_, rfl⟩
 have HX := zh hdb
 obtain ⟨l, hl⟩ : ∃ l, seenOf x.fs s = l := ⟨_, rfl⟩
 have HL := zh hl
 have hsl := seen_le h s
 rw [hl] at hsl
 obtain ⟨L, hLL⟩ : ∃ L, l.length = L := ⟨_, rfl⟩
 have HLL := zh hLL
 rw [hLL] at hsl
 rw [hdb]
 rcases hdn : p.down with _ | _
 ·have HDN := zh hdn
  clear h hp hs hdb hl hLL hdn
  unfold ptrV
  by_cases hneg : a < 0 ∨ n < 0
  ·have HNG := zh hneg
   have fin : Hid (RdPost w p s a n (.returned (.tuple #[.string ⟨#[]⟩, .int .i64 2])) w) := zh (by
    have e1 : p.readE a n = 2 := by unfold Pl.readE; rw [HDN.out, if_neg (by simp), if_pos hneg]
    refine ⟨?_, Kp.refl _ _⟩
    unfold Pl.read
    rw [e1]
    rfl)
   rcases Int.lt_or_le a 0 with h1 | h1
   ·clear hneg
    go_enter Tryz.func9, Tryz.ntmps9
    go_wp2_with (go_at_call 28; go_must (refine (show Calls _ _ #[ptrV db] _ _ by rw [← HX.out]; exact wrong_p _ n0 x p H.out HP.out false HDN.out).mono ?_); rintro e w2 ⟨rfl, rfl⟩)
    go_ret2
    exact fin.out
   ·have h2 : n < 0 := by omega
    have h1' : ¬ a < 0 := by omega
    clear hneg
    go_enter Tryz.func9, Tryz.ntmps9
    go_wp2_with (go_at_call 28; go_must (refine (show Calls _ _ #[ptrV db] _ _ by rw [← HX.out]; exact wrong_p _ n0 x p H.out HP.out false HDN.out).mono ?_); rintro e w2 ⟨rfl, rfl⟩)
    go_ret2
    exact fin.out
  ·have h1 : ¬ a < 0 := by omega
   have h2 : ¬ n < 0 := by omega
   have g1 : 0 ≤ a := by omega
   have g2 : 0 ≤ n := by omega
   have e1 : Hid (p.readE a n = 0) := zh (by unfold Pl.readE; rw [HDN.out, if_neg (by simp), if_neg hneg])
   have fin : Hid (∀ (W : World) t, w = W → t = (l.drop a.toNat).take n.toNat → RdPost w p s a n (.returned (.tuple #[.string (strOf t), .int .i64 0])) W) := zh (by
    rintro W t rfl rfl
    refine ⟨?_, Kp.refl _ _⟩
    unfold Pl.read
    rw [e1.out, if_pos rfl, ← HP.out.seen_eq, HL.out])
   clear hneg
   go_enter Tryz.func9, Tryz.ntmps9
   go_wp2_with (go_at_call 28; go_must (refine (show Calls _ _ #[ptrV db] _ _ by rw [← HX.out]; exact wrong_p _ n0 x p H.out HP.out false HDN.out).mono ?_); rintro e w2 ⟨rfl, rfl⟩)
   refine (show Calls _ _ #[ptrV db, .string s] _ _ by rw [← HX.out]; exact bytes_ok _ _ _ _ HS.out H.out).mono ?_
   rintro e w3 ⟨B, cap, rfl, hq, rfl⟩
   rw [HL.out] at hq
   rw [HL.out, HLL.out]
   rw [HLL.out] at hq
   have hcap : L ≤ cap := own_cap (by have := hq.own; rw [HLL.out] at this; exact this)
   rcases own_form (by have := hq.own; rw [HLL.out] at this; exact this) with ⟨rfl, rfl, rfl⟩ | ⟨g, rfl⟩
   ·have hcn := convNil
    have hl0 : l = [] := List.eq_nil_of_length_eq_zero HLL.out
    have HL0 := zh hl0
    clear hq hl0
    have FIN0 := zh (fin.out w3 [] rfl (by rw [HL0.out]; simp))
    rcases (show 0 < a ∨ a = 0 by omega) with q | rfl
    ·rcases (show 0 < n ∨ n = 0 by omega) with q2 | rfl
     all_goals
      go_wp2_with fail
      go_ret2
      exact FIN0.out
    ·rcases (show 0 < n ∨ n = 0 by omega) with q2 | rfl
     all_goals
      go_wp2_with fail
      go_ret2
      exact FIN0.out
   ·have HQ := zh hq
    clear hq
    by_cases haL : a < L
    ·obtain ⟨F, hF⟩ : ∃ F : Nat, a = F := ⟨a.toNat, by omega⟩
     have HF := zh hF
     have hFt : a.toNat = F := by omega
     have hFc : ¬ cap = F := by omega
     have hFL : F < L := by omega
     have hFcap : F ≤ cap := by omega
     have haL2 : a ≤ (L : Int) := by omega
     by_cases hnk : n ≤ (L : Int) - a
     ·obtain ⟨K, hK⟩ : ∃ K : Nat, n = K := ⟨n.toNat, by omega⟩
      have HK := zh hK
      have hw1 : IntKind.i64.wrap (a + n) = a + n := by rw [IntKind.wrap_i64]; omega
      have hh1 : 0 ≤ a + n := by omega
      have hh2 : a ≤ a + n := by omega
      have hh3 : (a + n).toNat = F + K := by omega
      have hh4 : a + n ≤ (cap : Int) := by omega
      have hh5 : F + K ≤ cap := by omega
      have hh6 : F + K - F = K := by omega
      have hby := by_of HQ.out HLL.out F K (by omega)
      have hb1 := hby.1
      have HB2 := zh hby.2
      clear hby hF hK
      go_wp2_with fail
      go_ret2
      have e2 : n.toNat = K := by have := HK.out; omega
      have := fin.out w3 _ rfl (show byRd w3 g F K = _ by rw [HB2.out, hFt, e2])
      exact this
     ·obtain ⟨K, hK⟩ : ∃ K : Nat, (L : Int) - a = K := ⟨(L - a).toNat, by omega⟩
      have HK := zh hK
      have hw1 : IntKind.i64.wrap ((L : Int) - a) = (L : Int) - a := by rw [IntKind.wrap_i64]; omega
      have hw2 : IntKind.i64.wrap (a + ((L : Int) - a)) = (L : Int) := by rw [IntKind.wrap_i64]; omega
      have hw3 : a + ((L : Int) - a) = (L : Int) := by omega
      have hh6 : L - F = K := by omega
      have hby := by_of HQ.out HLL.out F K (by omega)
      have hb1 := hby.1
      have HB2 := zh hby.2
      have hcap2 : (L : Int) ≤ (cap : Int) := by omega
      clear hby hF hK
      go_wp2_with fail
      all_goals
       go_ret2
       have := fin.out w3 _ rfl (show byRd w3 g F K = _ by rw [HB2.out, hFt]; rw [List.take_of_length_le (by simp [HLL.out]; have := HF.out; omega), List.take_of_length_le (by simp [HLL.out]; have := HF.out; have := HK.out; omega)])
       exact this
    ·have haL2 : (L : Int) ≤ a := by omega
     have hcap2 : (L : Int) ≤ (cap : Int) := by omega
     have hw1 : IntKind.i64.wrap ((L : Int) - (L : Int)) = 0 := by rw [IntKind.wrap_i64]; omega
     have hb1 : byAt w3 g 0 0 := fun j hj => absurd hj (by omega)
     have hb2 : byAt w3 g L 0 := fun j hj => absurd hj (by omega)
     have hsub : L - L = 0 := by omega
     have fin2 := fin.out w3 [] rfl (by rw [List.drop_eq_nil_of_le (by rw [HLL.out]; omega)]; simp)
     have FIN2 := zh fin2
     clear fin2
     rcases (show (L : Int) < a ∨ a = L by omega) with q | rfl
     ·by_cases hcl : cap = L
      ·subst hcl
       rcases (show 0 < n ∨ n = 0 by omega) with q2 | rfl
       all_goals
        go_wp2_with fail
        go_ret2
        exact FIN2.out
      ·rcases (show 0 < n ∨ n = 0 by omega) with q2 | rfl
       all_goals
        go_wp2_with fail
        go_ret2
        exact FIN2.out
     ·by_cases hcl : cap = L
      ·subst hcl
       rcases (show 0 < n ∨ n = 0 by omega) with q2 | rfl
       all_goals
        go_wp2_with fail
        go_ret2
        exact FIN2.out
      ·rcases (show 0 < n ∨ n = 0 by omega) with q2 | rfl
       all_goals
        go_wp2_with fail
        go_ret2
        exact FIN2.out
 ·have HDN := zh hdn
  have fin : Hid (RdPost w p s a n (.returned (.tuple #[.string ⟨#[]⟩, .int .i64 7])) w) := zh (by
   have e1 : p.readE a n = 7 := by unfold Pl.readE; rw [HDN.out]; rfl
   refine ⟨?_, Kp.refl _ _⟩
   unfold Pl.read
   rw [e1]
   rfl)
  clear h hp hs hdb hl hLL hdn
  unfold ptrV
  go_enter Tryz.func9, Tryz.ntmps9
  go_wp2_with (go_at_call 28; go_must (refine (show Calls _ _ #[ptrV db] _ _ by rw [← HX.out]; exact wrong_p _ n0 x p H.out HP.out true HDN.out).mono ?_); rintro e w2 ⟨rfl, rfl⟩)
  go_ret2
  exact fin.out
end
section
open Go.RowKit
def TrPost (n0 : Nat) (w : World) (x : Dd) (p : Pl) (s : ByteArray) (n : Int) (e : Ending) (w' : World) : Prop := e = .returned (.int .i64 (p.truncE s n)) ∧ To n0 w x (p.trunc s n) w'
theorem To.step {n0 : Nat} {w w1 w2 : World} {x x1 : Dd} {p2 : Pl} (h1 : To n0 w1 x1 p2 w2) (d1 : x1.db = x.db) (k : Kp x.O w w1) (o : ∀ b, x1.O b → x.O b ∨ w.heap.size ≤ b) : To n0 w x p2 w2 := h1.trans d1 k o
set_option maxRecDepth 100000 in
set_option maxHeartbeats 800000 in
theorem trunc_ok (w : World) (n0 : Nat) (x : Dd) (p : Pl) (s : ByteArray) (n : Int) (hnn : -9223372036854775808 ≤ n ∧ n ≤ 9223372036854775807) (h : Dk n0 w x) (hp : Of x p) (hs : s.size ≤ maxLen) (hn0 : n0 ≤ w.heap.size)
  (hm : p.nf < 1099511627776 - 10) (hpd : p.pd.length < 1099511627776 - 20000) :
  Calls Tryz.prog 50 #[ptrV x.db, .string s, .int .i64 n] w (TrPost n0 w x p s n) := by
 have H := zh h
 have HP := zh hp
 have HS := zh hs
 have HN0 := zh hn0
 have HM := zh hm
 have HPD := zh hpd
 obtain ⟨db, hdb⟩ : ∃ db, x.db = db := ⟨_, rfl⟩
 have HX := zh hdb
 rw [hdb]
 rcases hdn : p.down with _ | _
 ·have HDN := zh hdn
  clear h hp hs hn0 hm hpd hdb hdn
  unfold ptrV
  by_cases hneg : n < 0
  ·have fin : Hid (TrPost n0 w x p s n (.returned (.int .i64 2)) w) := zh (by
    refine ⟨?_, ?_⟩
    ·unfold Pl.truncE; rw [HDN.out, if_neg (by simp), if_pos hneg]
    ·unfold Pl.trunc; rw [if_pos (.inr (.inl hneg))]; exact To.refl H.out HP.out)
   go_enter Tryz.func50, Tryz.ntmps50
   go_wp2_with (go_at_call 28; go_must (refine (show Calls _ _ #[ptrV db] _ _ by rw [← HX.out]; exact wrong_p _ n0 x p H.out HP.out false HDN.out).mono ?_); rintro e w2 ⟨rfl, rfl⟩)
   go_ret
   exact fin.out
  ·have h0 : 0 ≤ n := by omega
   obtain ⟨f, hf⟩ : ∃ f, p.fits s n = f := ⟨_, rfl⟩
   have HF := zh hf
   by_cases hfz : f = 0
   ·subst hfz
    have hle : n ≤ 1048576 := by
     have := HF.out
     unfold Pl.fits at this
     split at this
     ·omega
     ·omega
    obtain ⟨m, hm⟩ : ∃ m : Nat, n = m := ⟨n.toNat, by omega⟩
    have HMM := zh hm
    have h1 : Hid (m ≤ 1048576) := zh (by omega)
    clear hf hm
    go_enter Tryz.func50, Tryz.ntmps50
    go_wp2_with (first
     | (go_at_call 28; go_must (refine (show Calls _ _ #[ptrV db] _ _ by rw [← HX.out]; exact wrong_p _ n0 x p H.out HP.out false HDN.out).mono ?_); rintro e w2 ⟨rfl, rfl⟩)
     | (go_at_call 67; go_must (refine (show Calls _ _ #[ptrV db, .string s, .int .i64 _] _ _ by rw [← HX.out]; exact fits_ok _ n0 x p s n HS.out (by omega) H.out HP.out).mono ?_); rintro e w4 ⟨rfl, hk4⟩; rw [HF.out]; have HK4 := zh hk4; have HD4 := zh (H.out.keep hk4 (fun _ _ q => q) (fun _ _ _ q => q)); clear hk4)
     | (go_at_call 68; go_must (refine (show Calls _ _ #[ptrV db, .string s, .int .i64 n] _ _ by rw [← HX.out, HMM.out]; exact length_ok _ n0 x p s m HS.out (by have := HM.out; omega) (by have := HPD.out; omega) h1.out (Nat.le_trans HN0.out HK4.out.size) HD4.out HP.out).mono ?_); rintro e w5 ⟨rfl, x5, hd5, hp5, hx5, hk5, ho5⟩; have HD5 := zh hd5; have HP5 := zh hp5; have HX5 := zh hx5; have HK5 := zh hk5; have HO5 := zh ho5; clear hd5 hp5 hx5 hk5 ho5)
     | (go_at_call 66; go_must (refine (show Calls _ _ #[ptrV db] _ _ by rw [← HX.out, ← HX5.out]; exact step_p _ n0 x5 _ HD5.out HP5.out).mono ?_); rintro e w6 ⟨rfl, ht6⟩; have HT6 := zh ht6; clear ht6))
    go_ret
    have ecr : (p.length s m).crash = p.crash := by unfold Pl.length; split <;> rfl
    have hT := (HT6.out.trans HX5.out HK5.out HO5.out).quiet HK4.out H.out
    refine ⟨?_, ?_⟩
    ·unfold Pl.truncE
     rw [HDN.out, if_neg (by simp), if_neg (by omega), HF.out, if_neg (by simp)]
     simp only [Pl.stepE, ecr]
     rfl
    ·unfold Pl.trunc
     rw [HDN.out, HF.out, if_neg (by simp; omega), show n.toNat = m by have := HMM.out; omega]
     exact hT
   ·have HFZ := zh hfz
    have hfb : (f != 0) = true := by simpa using hfz
    have hfb2 : (f == 0) = false := by simpa using hfz
    clear hf hfz
    go_enter Tryz.func50, Tryz.ntmps50
    go_wp2_with (first
     | (go_at_call 28; go_must (refine (show Calls _ _ #[ptrV db] _ _ by rw [← HX.out]; exact wrong_p _ n0 x p H.out HP.out false HDN.out).mono ?_); rintro e w2 ⟨rfl, rfl⟩)
     | (go_at_call 67; go_must (refine (show Calls _ _ #[ptrV db, .string s, .int .i64 _] _ _ by rw [← HX.out]; exact fits_ok _ n0 x p s n HS.out (by omega) H.out HP.out).mono ?_); rintro e w4 ⟨rfl, hk4⟩; rw [HF.out]; have HK4 := zh hk4; have HD4 := zh (H.out.keep hk4 (fun _ _ q => q) (fun _ _ _ q => q)); clear hk4))
    go_ret
    refine ⟨?_, ?_⟩
    ·unfold Pl.truncE
     rw [HDN.out, if_neg (by simp), if_neg (by omega), HF.out, if_pos HFZ.out]
     rfl
    ·unfold Pl.trunc
     rw [HF.out, if_pos (.inr (.inr HFZ.out))]
     exact (To.refl HD4.out HP.out).quiet HK4.out H.out
 ·have HDN := zh hdn
  have fin : Hid (TrPost n0 w x p s n (.returned (.int .i64 7)) w) := zh (by
   refine ⟨?_, ?_⟩
   ·unfold Pl.truncE; rw [HDN.out]; rfl
   ·unfold Pl.trunc; rw [HDN.out, if_pos (.inl rfl)]; exact To.refl H.out HP.out)
  clear h hp hs hn0 hm hpd hdb hdn
  unfold ptrV
  go_enter Tryz.func50, Tryz.ntmps50
  go_wp2_with (go_at_call 28; go_must (refine (show Calls _ _ #[ptrV db] _ _ by rw [← HX.out]; exact wrong_p _ n0 x p H.out HP.out true HDN.out).mono ?_); rintro e w2 ⟨rfl, rfl⟩)
  go_ret
  exact fin.out
end
section
open Go.RowKit
theorem cgCells_split (pd : List Cg) (i : Nat) (hi : i < pd.length) : cgCells pd = cgCells (pd.take i) ++ cgL pd[i].nm pd[i].sec pd[i].n (pad64 pd[i].s) ++ cgCells (pd.drop (i + 1)) := by
 have e : pd = pd.take i ++ pd[i] :: pd.drop (i + 1) := by simp
 conv => lhs; rw [e]
 unfold cgCells cgL
 rw [List.flatMap_append, List.flatMap_cons]
 simp only [List.append_assoc, List.cons_append]
theorem cgL_len (c : Cg) (h : CgOk c) : (cgL c.nm c.sec c.n (pad64 c.s)).length = 67 := by unfold cgL; simp [h.pad]
theorem cg_at {w : World} {g : Nat} {pd : List Cg} {ds : List Value} (h : Blk w g 121 (cgCells pd ++ ds).toArray) (hok : ∀ c ∈ pd, CgOk c) (i : Nat) (hi : i < pd.length) :
  w.there g (i * 67) 67 ∧ readRow w g (i * 67) 67 = cgA pd[i].nm pd[i].sec pd[i].n (pad64 pd[i].s) := by
 have hl : (cgCells (pd.take i)).length = i * 67 := by
  rw [cgCells_len _ (fun c hc => hok c (List.mem_of_mem_take hc)), List.length_take, Nat.min_eq_left (by omega)]
 have hc := cgL_len pd[i] (hok _ (List.getElem_mem hi))
 rw [cgCells_split pd i hi, List.append_assoc] at h
 refine ⟨h.there (by simp [hl, hc]), ?_⟩
 rw [h.read (i * 67) 67 hl hc]
 rfl
theorem cgA_toList (s : ByteArray) (sec n : Int) (l : List Int) : (cgA s sec n l).toList = cgL s sec n l := rfl
theorem cg_put {w : World} {g : Nat} {pd : List Cg} {ds : List Value} (h : Blk w g 121 (cgCells pd ++ ds).toArray) (hok : ∀ c ∈ pd, CgOk c) (i : Nat) (hi : i < pd.length) (c : Cg) (hc : CgOk c) :
  Blk (w.setCells g (i * 67) (cgA c.nm c.sec c.n (pad64 c.s)).toList) g 121 (cgCells (pd.set i c) ++ ds).toArray := by
 have hl : (cgCells (pd.take i)).length = i * 67 := by
  rw [cgCells_len _ (fun c hc => hok c (List.mem_of_mem_take hc)), List.length_take, Nat.min_eq_left (by omega)]
 have hc1 := cgL_len pd[i] (hok _ (List.getElem_mem hi))
 rw [cgCells_split pd i hi, List.append_assoc] at h
 have h2 := h.cellsL (xs := (cgA c.nm c.sec c.n (pad64 c.s)).toList) (i * 67) hl (by rw [cgA_toList, cgL_len c hc, hc1])
 have e : cgCells (pd.set i c) = cgCells (pd.take i) ++ cgL c.nm c.sec c.n (pad64 c.s) ++ cgCells (pd.drop (i + 1)) := by
  rw [cgCells_split (pd.set i c) i (by simpa using hi)]
  simp [List.take_set_of_le, List.drop_set]
 rw [e, List.append_assoc]
 exact h2
def CClPost (w : World) (pd : List Cg) (e : Ending) (w' : World) : Prop := ∃ A cap, e = .returned (.slice A pd.length cap) ∧ w'.ownsRow w.heap.size 121 67 (.slice A pd.length cap) pd.length (cgCells pd) ∧ Kp NoB w w'
theorem cgEqN (w : World) : (binOp .eql 53 (.slice none 0 0) (.slice none 0 0)).run Tryz.prog w = .ok (.bool true) w := by kernel_rfl
theorem cgEqS (a : Addr) (m c : Nat) (w : World) : (binOp .eql 53 (.slice (some a) m c) (.slice none 0 0)).run Tryz.prog w = .ok (.bool false) w := by kernel_rfl
theorem cg_one (pd : List Cg) : ∀ u ∈ cgCells pd, u.oneCell' = true := by
 intro u hu
 unfold cgCells at hu
 obtain ⟨c, _, hc⟩ := List.mem_flatMap.1 hu
 exact cgA_one c.nm c.sec c.n (pad64 c.s) u hc
set_option maxRecDepth 100000 in
set_option maxHeartbeats 800000 in
theorem cloneCg_ok (w : World) (n0 : Nat) (A : Option Addr) (m cap : Nat) (pd : List Cg) (hm : pd.length = m) (hl : m < 1099511627776) (hok : ∀ c ∈ pd, CgOk c) (h : w.ownsRow n0 121 67 (.slice A m cap) m (cgCells pd)) :
  Calls Tryz.prog 103 #[.slice A m cap] w (CClPost w pd) := by
 obtain ⟨j0, hj0, hy0, hy1, hy2⟩ := info_parts infoCg
 have HJ0 := zh hj0
 have HY0 := zh hy0
 have HY1 := zh hy1
 have HY2 := zh hy2
 have H := zh h
 have HL := zh hl
 have HM := zh hm
 have HOK := zh hok
 have qn := cgEqN
 have qs := cgEqS
 rcases own_form h with ⟨rfl, rfl, rfl⟩ | ⟨g, rfl⟩
 ·obtain rfl : pd = [] := List.eq_nil_of_length_eq_zero hm
  clear h hl hj0 hy0 hy1 hy2 hm hok
  go_enter Tryz.func103, Tryz.ntmps103
  go_wp2_with fail
  go_ret
  exact ⟨none, 0, rfl, World.ownsRow_nil _ _ _ _, Kp.refl _ _⟩
 ·have HOWN : Hid ((w.alloc (.cells #[] 121)).ownsRow w.heap.size 121 67 (.slice (some ⟨w.heap.size, 0, none⟩) 0 0) 0 []) := zh ⟨rfl, .inr ⟨w.heap.size, 0, #[], rfl, Nat.le_refl _, heap_alloc_new _ _, Nat.le_refl _, by simp, rfl, rfl⟩⟩
  have HLEN : Hid ((cgCells pd).length = m * 67) := zh (by rw [cgCells_len pd hok, hm])
  have HSRC : Hid (∀ j u, (cgCells pd)[j]? = some u → (w.alloc (.cells #[] 121)).cell? ⟨g, 0 + j, none⟩ = some u) := zh (by
   intro j u hj
   have hc := h.cells (g := g) rfl j u hj
   rw [add_mk] at hc
   have hlt : g < w.heap.size := (h.lt g rfl).2
   rw [← hc]
   exact ((Kp.refl NoB w).alloc _).cell hlt (fun q => q))
  clear h hl hj0 hy0 hy1 hy2 hm hok
  go_enter Tryz.func103, Tryz.ntmps103
  go_wp2_with (at_builtin; refine wpList_append_srcN rfl _ _ 53 rfl w.heap.size 121 j0 _ 67 96 Tryz.underlying53 HJ0.out HY0.out HY1.out HY2.out rfl (by omega) _ 0 [] rfl HOWN.out (some ⟨g, 0, none⟩) m cap (cgCells pd) rfl (by simp) HLEN.out (fun _ => ⟨g, 0, rfl, HSRC.out⟩) (cg_one pd) (by have := HL.out; unfold maxLen; omega) (by have := HL.out; omega) (by simp) ?_; intro v1 w1 hown1 hgrow1; rw [Nat.zero_add, List.nil_append] at hown1; obtain ⟨B, c, rfl⟩ := own_slice hown1; have HO1 := zh hown1; have HK1 := zh (((Kp.refl NoB w).alloc _).own (v := .slice (some ⟨w.heap.size, 0, none⟩) 0 0) hgrow1 rfl HOWN.out); clear hown1 hgrow1)
  go_ret
  exact ⟨B, c, by rw [HM.out]; rfl, by rw [HM.out]; exact HO1.out, HK1.out⟩
def notB (s : ByteArray) (c : Cg) : Bool := !decide (c.nm = s)
theorem str_eqB (a b : ByteArray) : (a.toList == b.toList) = decide (a = b) := by
 by_cases h : a = b
 ·subst h; simp
 ·rw [decide_eq_false h]
  have h2 : a.toList ≠ b.toList := by
   rw [ByteArray.toList_eq, ByteArray.toList_eq]
   intro q
   apply h
   cases a; cases b
   simp at q
   rw [q]
  simpa using h2
attribute [local go_sem ↓] exBuildCg2 exSliceCg loadCg storeCg allocCg
set_option maxRecDepth 100000 in
set_option maxHeartbeats 800000 in
theorem sync1_ok (w : World) (B : Nat) (s nm : ByteArray) (sec n : Int) (l : List Int) (hl : l.length = 64) (hB : w.cell? ⟨B, 0, none⟩ = some (.string s)) :
  Calls Tryz.prog 104 #[.agg (cgA nm sec n l), .pointer (some ⟨B, 0, none⟩)] w fun e w' => e = .returned (.bool (decide (nm = s))) ∧ Kp NoB w w' := by
 have hb := Blk.new w 121 (cgA nm sec n l)
 have c0 : (w.alloc (.cells (cgA nm sec n l) 121)).cell? ⟨w.heap.size, 0, none⟩ = some (.string nm) := by rw [hb.cell]; rfl
 have c1 : (w.alloc (.cells (cgA nm sec n l) 121)).cell? ⟨B, 0, none⟩ = some (.string s) := by
  rw [((Kp.refl NoB w).alloc _).cell (block_lt_of_cell hB) (fun q => q)]; exact hB
 have sb := str_eqB nm s
 clear hb hB hl
 go_enter Tryz.func104, Tryz.ntmps104
 go_wp2_with fail
 go_ret
 exact ⟨rfl, (Kp.refl NoB w).alloc _⟩
end
section
open Go.RowKit
attribute [local go_sem ↓] loadCg storeCg allocCg
def IdxR (pd : List Cg) (s : ByteArray) (r : Int) : Prop := (r = -1 ∧ ∀ c ∈ pd, c.nm ≠ s) ∨ ∃ i : Nat, r = i ∧ ∃ h : i < pd.length, (∀ c ∈ pd.take i, c.nm ≠ s) ∧ pd[i].nm = s
def IdxPost (w : World) (pd : List Cg) (s : ByteArray) (e : Ending) (w' : World) : Prop := ∃ r : Int, e = .returned (.int .i64 r) ∧ IdxR pd s r ∧ Kp NoB w w'
def IdxRel (w : World) (pd : List Cg) (s : ByteArray) (v : Value) (wr : World) : Prop := ∃ i : Nat, v = .int .i64 (i : Int) ∧ i ≤ pd.length ∧ (∀ c ∈ pd.take i, c.nm ≠ s) ∧ Kp NoB w wr
theorem cg_eta (pd : List Cg) (i : Nat) (hi : i < pd.length) : ∃ c, pd[i] = c ∧ c ∈ pd := ⟨_, rfl, List.getElem_mem hi⟩
set_option maxRecDepth 100000 in
set_option maxHeartbeats 800000 in
theorem idx_ok (w : World) (n0 B : Nat) (s : ByteArray) (A : Option Addr) (m cap : Nat) (pd : List Cg) (hm : pd.length = m) (hl : m < 1099511627776) (hok : ∀ c ∈ pd, CgOk c) (h : w.ownsRow n0 121 67 (.slice A m cap) m (cgCells pd)) (hB : w.cell? ⟨B, 0, none⟩ = some (.string s)) :
  Calls Tryz.prog 116 #[.slice A m cap, .func (.func 104) #[] #[.pointer (some ⟨B, 0, none⟩)]] w (IdxPost w pd s) := by
 have H := zh h
 have HM := zh hm
 have HL := zh hl
 have HOK := zh hok
 have HB := zh hB
 have hbl := block_lt_of_cell hB
 have HBL := zh hbl
 clear h hm hok hB hbl
 go_enter Tryz.func116, Tryz.ntmps116
 go_wp2_with fail
 go_loopw [8] (fun v wr => IdxRel w pd s v wr) (fun v _ => m - (intOf v).toNat)
 case atStart => exact ⟨0, rfl, Nat.zero_le _, by simp, Kp.refl _ _⟩
 case round =>
  obtain ⟨i, rfl, hi, hno, hk⟩ := hrel
  have HK := zh hk
  have HNO := zh hno
  have HI := zh hi
  clear hk hno hi
  by_cases hlt : i < m
  ·obtain ⟨g, ds, rfl, hg, hb⟩ := own_blkN H.out (by omega)
   have hbr := hb.keep HK.out (fun q => q)
   obtain ⟨t0, r0⟩ := cg_at hbr HOK.out i (by have := HM.out; omega)
   obtain ⟨c, hc, hcm⟩ := cg_eta pd i (by have := HM.out; omega)
   rw [hc] at r0
   have HC := zh hc
   have cB : wr.cell? ⟨B, 0, none⟩ = some (.string s) := by rw [HK.out.cell HBL.out (fun q => q)]; exact HB.out
   have HCB := zh cB
   have hp64 := (HOK.out c hcm).pad
   have HP64 := zh hp64
   have hii : (i : Int) < (m : Int) := by omega
   clear hb hbr hc hcm cB hp64
   by_cases he : c.nm = s
   ·have hd : decide (c.nm = s) = true := decide_eq_true he
    have HE := zh he
    clear he
    go_wp2_with (go_at_call 104; refine (sync1_ok wr B s c.nm c.sec c.n (pad64 c.s) HP64.out HCB.out).mono ?_; rintro e w3 ⟨rfl, hk3⟩; rw [hd]; have HK3 := zh hk3; clear hk3)
    go_ret
    exact ⟨i, rfl, .inr ⟨i, rfl, by have := HM.out; omega, HNO.out, by rw [HC.out]; exact HE.out⟩, HK.out.trans HK3.out (fun _ _ q => q)⟩
   ·have hd : decide (c.nm = s) = false := decide_eq_false he
    have HE := zh he
    clear he
    go_wp2_with (go_at_call 104; refine (sync1_ok wr B s c.nm c.sec c.n (pad64 c.s) HP64.out HCB.out).mono ?_; rintro e w3 ⟨rfl, hk3⟩; rw [hd]; have HK3 := zh hk3; clear hk3)
    go_roundw
    case rel =>
     refine ⟨i + 1, by go_num, by have := HM.out; omega, ?_, HK.out.trans HK3.out (fun _ _ q => q)⟩
     intro c' hc'
     rw [List.take_succ_eq_append_getElem (by have := HM.out; omega)] at hc'
     rcases List.mem_append.1 hc' with q | q
     ·exact HNO.out c' q
     ·rw [List.mem_singleton.1 q, HC.out]; exact HE.out
    case measure => simp [intOf]; omega
  ·have hii : ¬ (i : Int) < (m : Int) := by omega
   go_wp2_with fail
   go_ret
   exact ⟨-1, rfl, .inl ⟨rfl, fun c hc => HNO.out c (by rw [List.take_of_length_le (by have := HM.out; omega)]; exact hc)⟩, HK.out⟩
theorem run_clear_sliceN {P : Program} (w : World) (t e ty : TypeId) (z : Value) (ht : P.underlying t = some (.slice e)) (hv : ∀ w, (zeroValue e).run P w = .ok z w) (b o n c : Nat) (hn : 0 < n)
  (hc : w.there b o (Builtin.zeroCells z.cells n).toList.length) (h1 : ∀ v ∈ (Builtin.zeroCells z.cells n).toList, v.oneCell' = true) :
  (Builtin.clear_ #[t] ty #[.slice (some ⟨b, o, none⟩) n c]).run P w = .ok (.tuple #[]) (w.setCells b o (Builtin.zeroCells z.cells n).toList) := by
 have hst := run_storeCells_cells (P := P) b o (Builtin.zeroCells z.cells n).toList 0 w (fun j hj => (hc j (by simpa using hj)).1) (fun j hj => (hc j (by simpa using hj)).2) h1
 simp only [Nat.add_zero] at hst
 obtain ⟨m, rfl⟩ : ∃ m, n = m + 1 := ⟨n - 1, by omega⟩
 simp [Builtin.clear_, run_underlying ht, hv, hst]
def DelPost (n0 : Nat) (w : World) (A : Option Addr) (m cap : Nat) (pd : List Cg) (s : ByteArray) (e : Ending) (w' : World) : Prop :=
 ∃ C k cap', e = .returned (.slice C k cap') ∧ w'.ownsRow n0 121 67 (.slice C k cap') k (cgCells (pd.filter (notB s))) ∧ (pd.filter (notB s)).length = k ∧ Kp (fun b => (Value.slice A m cap).ownBlock = some b) w w' ∧ ∀ b, (Value.slice C k cap').ownBlock = some b → (Value.slice A m cap).ownBlock = some b
def DelRel (w : World) (g : Nat) (pd : List Cg) (ds : List Value) (s : ByteArray) (v5 v6 : Value) (wr : World) : Prop :=
 ∃ (i j : Nat) (q : List Cg), v5 = .int .i64 (i : Int) ∧ v6 = .int .i64 (j : Int) ∧ i < j ∧ j ≤ pd.length ∧ q.length = pd.length ∧ q.take i = (pd.take j).filter (notB s) ∧ q.drop j = pd.drop j ∧ (∀ c ∈ q, CgOk c) ∧ Blk wr g 121 (cgCells q ++ ds).toArray ∧ Kp (OnB g) w wr
theorem notB_all {pd : List Cg} {s : ByteArray} (h : ∀ c ∈ pd, c.nm ≠ s) : pd.filter (notB s) = pd := by
 rw [List.filter_eq_self]
 intro c hc
 unfold notB
 simp [h c hc]
theorem own_full {w : World} {base n cap size : Nat} {e : TypeId} {A : Option Addr} {xs : List Value} (h : w.ownsRow base e size (.slice A n cap) n xs) (hn : 0 < n) : ∃ g ds, A = some ⟨g, 0, none⟩ ∧ base ≤ g ∧ Blk w g e (xs ++ ds).toArray ∧ (xs ++ ds).length = cap * size ∧ cap ≤ maxLen := by
 rcases h.2 with ⟨h0, _⟩ | ⟨g, cap', cur, hv, hb, hh, h1, h2, h3, h4⟩
 ·cases h0; omega
 ·simp only [Value.slice.injEq] at hv
  obtain ⟨hA, _, rfl⟩ := hv
  have e1 : xs ++ cur.toList.drop (n * size) = cur.toList := by rw [← h4, List.take_append_drop]
  refine ⟨g, cur.toList.drop (n * size), hA, hb, ?_, by rw [e1]; simpa using h3, h2⟩
  rw [e1]
  exact hh
theorem own_of {w : World} {base g n cap size : Nat} {e : TypeId} {xs ds : List Value} (hb : base ≤ g) (h : Blk w g e (xs ++ ds).toArray) (hx : xs.length = n * size) (hl : (xs ++ ds).length = cap * size) (hn : n ≤ cap) (hc : cap ≤ maxLen) : w.ownsRow base e size (.slice (some ⟨g, 0, none⟩) n cap) n xs :=
 ⟨hx, .inr ⟨g, cap, _, rfl, hb, h, hn, hc, by simpa using hl, by rw [← hx]; simp⟩⟩
theorem del_step {q pd : List Cg} {j : Nat} {c : Cg} (hqd : q.drop j = pd.drop j) (hc : q[j]? = some c) : pd.take (j + 1) = pd.take j ++ [c] ∧ q.drop (j + 1) = pd.drop (j + 1) := by
 have h1 : pd[j]? = some c := by
  have := congrArg (fun l => l[0]?) hqd
  simp only [List.getElem?_drop, Nat.add_zero] at this
  rw [← this, hc]
 refine ⟨?_, ?_⟩
 ·rw [List.take_add_one, h1]; rfl
 ·have := congrArg (List.drop 1) hqd
  simpa [List.drop_drop] using this
theorem zeroCg_one (n : Nat) : ∀ v ∈ (Builtin.zeroCells (Value.agg (cgA ⟨#[]⟩ 0 0 (zeros 64))).cells n).toList, v.oneCell' = true := by
 intro v hv
 have e : (Value.agg (cgA ⟨#[]⟩ 0 0 (zeros 64))).cells = cgA ⟨#[]⟩ 0 0 (zeros 64) := rfl
 rw [e] at hv
 unfold Builtin.zeroCells at hv
 simp only [Array.toList_map, List.mem_map, Array.toList_range] at hv
 obtain ⟨k, _, rfl⟩ := hv
 have hsz : (cgA ⟨#[]⟩ 0 0 (zeros 64)).size = 67 := by rw [cgA_size]; rfl
 have hlt : k % (cgA ⟨#[]⟩ 0 0 (zeros 64)).size < (cgA ⟨#[]⟩ 0 0 (zeros 64)).size := Nat.mod_lt _ (by rw [hsz]; omega)
 rw [getElem!_pos (cgA ⟨#[]⟩ 0 0 (zeros 64)) (k % (cgA ⟨#[]⟩ 0 0 (zeros 64)).size) hlt]
 exact cgA_one ⟨#[]⟩ 0 0 (zeros 64) _ (by rw [← cgA_toList]; exact Array.getElem_mem_toList hlt)
theorem zeroCg_len (n : Nat) : (Builtin.zeroCells (Value.agg (cgA ⟨#[]⟩ 0 0 (zeros 64))).cells n).toList.length = n * 67 := by
 have e : (Value.agg (cgA ⟨#[]⟩ 0 0 (zeros 64))).cells = cgA ⟨#[]⟩ 0 0 (zeros 64) := rfl
 have hsz : (cgA ⟨#[]⟩ 0 0 (zeros 64)).size = 67 := by rw [cgA_size]; rfl
 rw [e]
 unfold Builtin.zeroCells
 simp [hsz]
set_option maxRecDepth 100000 in
set_option maxHeartbeats 800000 in
theorem del_ok (w : World) (n0 B : Nat) (s : ByteArray) (A : Option Addr) (m cap : Nat) (pd : List Cg) (hm : pd.length = m) (hl : m < 1099511627776) (hok : ∀ c ∈ pd, CgOk c) (h : w.ownsRow n0 121 67 (.slice A m cap) m (cgCells pd)) (hB : Blk w B 9 #[.string s]) :
  Calls Tryz.prog 102 #[.slice A m cap, .func (.func 104) #[] #[.pointer (some ⟨B, 0, none⟩)]] w (DelPost n0 w A m cap pd s) := by
 have H := zh h
 have HM := zh hm
 have HL := zh hl
 have HOK := zh hok
 have HB := zh hB
 clear h hm hok hB
 go_enter Tryz.func102, Tryz.ntmps102
 go_wp2_with fail
 refine (idx_ok w n0 B s A m cap pd HM.out HL.out HOK.out H.out (by rw [HB.out.cell]; rfl)).mono ?_
 rintro e w2 ⟨r, rfl, hr, hk2⟩
 have HK2 := zh hk2
 clear hk2
 rcases hr with ⟨rfl, hno⟩ | ⟨i0, rfl, hi0, hno, hE⟩
 ·have HNO := zh hno
  clear hno
  go_wp2_with fail
  go_ret
  refine ⟨A, m, cap, rfl, ?_, ?_, HK2.out.mono (fun _ _ q => q.elim), fun b q => q⟩
  ·rw [notB_all HNO.out]
   exact own_keepB H.out HK2.out (fun _ _ q => q)
  ·rw [notB_all HNO.out]; exact HM.out
 ·obtain ⟨g, ds, rfl, hg, hb, hfl, hcm⟩ := own_full H.out (by have := HM.out; omega)
  have HFL := zh hfl
  have HCX := zh hcm
  clear hfl hcm
  have HNO := zh hno
  have HE := zh hE
  have HB2 := zh (hb.keep HK2.out (fun q => q))
  have HBL := zh hb.lt
  have him : i0 < m := by have := HM.out; omega
  have hib : ((i0 : Int) == -1) = false := by simp
  have hw1 : IntKind.i64.wrap ((i0 : Int) + 1) = ((i0 + 1 : Nat) : Int) := by rw [IntKind.wrap_i64]; omega
  clear hno hE hb
  go_wp2_with fail
  go_loopw [5, 6] (fun v5 v6 wr => DelRel w g pd ds s v5 v6 wr) (fun _ v6 _ => m - (intOf v6).toNat)
  case atStart =>
   refine ⟨i0, i0 + 1, pd, rfl, rfl, by omega, by omega, rfl, ?_, rfl, HOK.out, HB2.out, HK2.out.mono (fun _ _ q => q.elim)⟩
   rw [List.take_succ_eq_append_getElem hi0, List.filter_append, notB_all HNO.out]
   simp [notB, HE.out]
  case round =>
   obtain ⟨i, j, q, rfl, rfl, hij, hj, hql, hqt, hqd, hqo, hbq, hkq⟩ := hrel
   have HQT := zh hqt
   have HQD := zh hqd
   have HQO := zh hqo
   have HBQ := zh hbq
   have HKQ := zh hkq
   have HQL := zh hql
   have HJ := zh hj
   clear hqt hqd hqo hbq hkq hj
   by_cases hlt : j < m
   ·obtain ⟨t0, r0⟩ := cg_at HBQ.out HQO.out j (by have := HM.out; omega)
    obtain ⟨c, hc, hcm⟩ := cg_eta q j (by have := HM.out; omega)
    rw [hc] at r0
    have HC : Hid (q[j]? = some c) := zh (by rw [List.getElem?_eq_getElem (by have := HM.out; omega), hc])
    have HCM := zh hcm
    have hp64 := (HQO.out c hcm).pad
    have HP64 := zh hp64
    have hjj : (j : Int) < (m : Int) := by omega
    have hzb : Blk (wr.alloc (.cells (cgA ⟨#[]⟩ 0 0 (zeros 64)) 121)) wr.heap.size 121 (cgA ⟨#[]⟩ 0 0 (zeros 64)) := Blk.new _ _ _
    have t1 := hzb.thereAll 67 (by rw [cgA_size]; rfl)
    have on1 : ones (cgA c.nm c.sec c.n (pad64 c.s)) := cgA_ones _ _ _ _
    have sz1 : (cgA c.nm c.sec c.n (pad64 c.s)).size = 67 := by rw [cgA_size, hp64]
    clear hc hcm hp64 hql hzb
    go_upto_region 8 with fail
    obtain ⟨g8, hg8⟩ : ∃ g8, wr.heap.size = g8 := ⟨_, rfl⟩
    have HG8 := zh hg8
    have hb8 : Blk ((wr.alloc (.cells (cgA ⟨#[]⟩ 0 0 (zeros 64)) 121)).setCells wr.heap.size 0 (cgA c.nm c.sec c.n (pad64 c.s)).toList) wr.heap.size 121 (cgA c.nm c.sec c.n (pad64 c.s)) := (Blk.new wr 121 _).whole _ (by rw [cgA_size, cgA_size, HP64.out]; rfl)
    have hk8 : Kp NoB wr ((wr.alloc (.cells (cgA ⟨#[]⟩ 0 0 (zeros 64)) 121)).setCells wr.heap.size 0 (cgA c.nm c.sec c.n (pad64 c.s)).toList) := Kp.setCells (.inl (Nat.le_refl _)) _ _ _ ((Kp.refl NoB wr).alloc _)
    rw [hg8] at hb8 hk8 ⊢
    generalize (wr.alloc (.cells (cgA ⟨#[]⟩ 0 0 (zeros 64)) 121)).setCells g8 0 (cgA c.nm c.sec c.n (pad64 c.s)).toList = w8 at hb8 hk8 ⊢
    have HB8 := zh hb8
    have HK8 := zh hk8
    have t8 := hb8.thereAll 67 (by rw [cgA_size, HP64.out])
    have r8 := hb8.readAll 67 (by rw [cgA_size, HP64.out])
    have hBn : ¬ OnB g B := fun e => by
     have h1 := (HBQ.out)
     have h2 := HB.out.keep HK2.out (fun q => q)
     have h3 := HB2.out
     rw [← show B = g from e] at h3
     exact blk_ne h3 h2 (by decide) rfl
    have HB9 := zh ((HB.out.keep HKQ.out hBn).keep hk8 (fun q => q))
    have hm8 : i < m := by omega
    clear hg8 hb8 hk8 t0 r0 t1 on1 sz1 hBn
    by_cases he : c.nm = s
    ·have hd : decide (c.nm = s) = true := decide_eq_true he
     have HE2 := zh he
     clear he
     go_wp2_with (go_at_call 104; refine (sync1_ok w8 B s c.nm c.sec c.n (pad64 c.s) HP64.out (by rw [HB9.out.cell]; rfl)).mono ?_; rintro e w3 ⟨rfl, hk3⟩; rw [hd]; have HK3 := zh hk3; clear hk3)
     go_roundw
     case rel =>
      have k3 : Kp NoB wr w3 := HK8.out.trans HK3.out (fun _ _ q => q)
      refine ⟨i, j + 1, q, rfl, by go_num, by omega, by have := HM.out; omega, HQL.out, ?_, ?_, HQO.out, HBQ.out.keep k3 (fun q => q), HKQ.out.trans k3 (fun _ _ q => q.elim)⟩
      ·rw [(del_step HQD.out HC.out).1, List.filter_append, HQT.out]
       simp [notB, HE2.out]
      ·exact (del_step HQD.out HC.out).2
     case measure => simp [intOf]; omega
    ·have hd : decide (c.nm = s) = false := decide_eq_false he
     have HE2 := zh he
     clear he
     go_wp2_with (go_at_call 104; refine (sync1_ok w8 B s c.nm c.sec c.n (pad64 c.s) HP64.out (by rw [HB9.out.cell]; rfl)).mono ?_; rintro e w3 ⟨rfl, hk3⟩; rw [hd]; have HK3 := zh hk3; have hb4 := HB8.out.keep hk3 (fun q => q); have t4 := hb4.thereAll 67 (by rw [cgA_size, HP64.out]); have r4 := hb4.readAll 67 (by rw [cgA_size, HP64.out]); have hbg := (HBQ.out.keep HK8.out (fun q => q)).keep hk3 (fun q => q); have t5 := (cg_at hbg HQO.out i (by have := HM.out; have := HQL.out; omega)).1; have HBG := zh hbg; have on4 : ones (cgA c.nm c.sec c.n (pad64 c.s)) := cgA_ones _ _ _ _; have sz4 : (cgA c.nm c.sec c.n (pad64 c.s)).size = 67 := (by rw [cgA_size, HP64.out]); clear hk3 hb4 hbg t8 r8)
     have hql := HQL.out
     have hiq : i < q.length := by have := HM.out; omega
     have k3 : Kp NoB wr w3 := HK8.out.trans HK3.out (fun _ _ q => q)
     refine ⟨⟨i + 1, j + 1, q.set i c, rfl, rfl, by omega, by have := HM.out; omega, by rw [List.length_set]; exact hql, ?_, ?_, ?_, cg_put HBG.out HQO.out i hiq c (HQO.out c HCM.out), ?_⟩, by simp [intOf]; omega⟩
     ·rw [(del_step HQD.out HC.out).1, List.filter_append, ← HQT.out, List.take_succ_eq_append_getElem (by simpa using hiq)]
      simp [notB, HE2.out, List.take_set_of_le]
     ·rw [List.drop_set, if_pos (by omega), (del_step HQD.out HC.out).2]
     ·intro c' hc'
      rcases List.mem_or_eq_of_mem_set hc' with q' | q'
      ·exact HQO.out c' q'
      ·rw [q']; exact HQO.out c HCM.out
     ·exact Kp.setCells (.inr (show OnB g g from rfl)) _ _ _ (HKQ.out.trans k3 (fun _ _ q => q.elim))
   ·have hjj : ¬ (j : Int) < (m : Int) := by omega
    have ejm : j = pd.length := by have := HM.out; have := HJ.out; omega
    have him2 : i < m := by have := HM.out; have := HJ.out; omega
    have hcap : m ≤ cap := own_cap H.out
    have hic : ¬ cap = i := by omega
    have hic2 : i ≤ cap := by omega
    have hiN : (i : Int) ≤ (m : Int) := by omega
    have hiC : (i : Int) ≤ (cap : Int) := by omega
    obtain ⟨zs, hzs⟩ : ∃ zs, (Builtin.zeroCells (Value.agg (cgA ⟨#[]⟩ 0 0 (zeros 64))).cells (m - i)).toList = zs := ⟨_, rfl⟩
    have hzl : zs.length = (m - i) * 67 := by rw [← hzs]; exact zeroCg_len _
    have hcl0 : (cgCells q).length = m * 67 := by rw [cgCells_len q HQO.out, HQL.out, HM.out]
    have hth : wr.there g (i * 67) zs.length := HBQ.out.there (by simp [hcl0, hzl]; omega)
    have hcl : ∀ ty, (Builtin.clear_ #[53] ty #[.slice (some ⟨g, i * 67, none⟩) (m - i) (cap - i)]).run Tryz.prog wr = .ok (.tuple #[]) (wr.setCells g (i * 67) zs) := fun ty => by
     rw [← hzs]
     exact run_clear_sliceN wr _ _ ty _ Tryz.underlying53 zeroCg g (i * 67) _ _ (by omega) (by rw [hzs]; exact hth) (zeroCg_one _)
    have HZL := zh hzl
    have HCL0 := zh hcl0
    clear hzs hzl hcl0 hth hql ejm
    go_wp2_with fail
    go_ret
    have ejm : j = pd.length := by have := HM.out; have := HJ.out; omega
    have eq1 : q.take i = pd.filter (notB s) := by rw [HQT.out, ejm, List.take_length]
    have hiq : i ≤ q.length := by have := HM.out; have := HQL.out; omega
    have hlen : (pd.filter (notB s)).length = i := by rw [← eq1, List.length_take, Nat.min_eq_left hiq]
    have hsp : cgCells q = cgCells (q.take i) ++ cgCells (q.drop i) := by
     unfold cgCells
     rw [← List.flatMap_append, List.take_append_drop]
    have hl1 : (cgCells (q.take i)).length = i * 67 := by rw [cgCells_len _ (fun c hc => HQO.out c (List.mem_of_mem_take hc)), List.length_take, Nat.min_eq_left hiq]
    have hl2 : (cgCells (q.drop i)).length = (m - i) * 67 := by rw [cgCells_len _ (fun c hc => HQO.out c (List.mem_of_mem_drop hc)), List.length_drop, HQL.out, HM.out]
    have hbk := HBQ.out
    rw [hsp] at hbk
    have hb2 := hbk.cellsL (xs := zs) (i * 67) hl1 (by rw [hl2, HZL.out])
    have hpl : (cgCells pd).length = m * 67 := by rw [cgCells_len pd HOK.out, HM.out]
    have hfl := HFL.out
    rw [List.length_append, hpl] at hfl
    refine ⟨some ⟨g, 0, none⟩, i, cap, rfl, ?_, hlen, ?_, fun b q => q⟩
    ·rw [← eq1]
     rw [List.append_assoc] at hb2
     refine own_of hg hb2 hl1 ?_ hic2 HCX.out
     rw [List.length_append, List.length_append, hl1, HZL.out, Nat.sub_mul]
     have : i * 67 ≤ m * 67 := Nat.mul_le_mul_right _ (by omega)
     omega
    ·have hk : Kp (OnB g) w (wr.setCells g (i * 67) zs) := Kp.setCells (.inr (show OnB g g from rfl)) _ _ _ HKQ.out
     exact hk.mono (fun b _ q => by show some g = some b; rw [show b = g from q])
end
end Go.Proofs.YtegcbdfilkecpaaGreat
