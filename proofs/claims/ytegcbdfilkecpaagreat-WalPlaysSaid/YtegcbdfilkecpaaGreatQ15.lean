/- Texts of this proof, one behind the other: lemmas and contracts; each says its own conditions. -/
import Derived.Test.YtegcbdfilkecpaaGreatQ6
import Derived.Test.YtegcbdfilkecpaaGreatQ7
import Derived.Test.YtegcbdfilkecpaaGreatQ10
import Derived.Test.YtegcbdfilkecpaaGreatQ14
namespace Go.Proofs.YtegcbdfilkecpaaGreat
section
open Go.RowKit
def FnsAt (w : World) (A : Option Addr) (n : Nat) (l : List Fr) : Prop := RowsC w A n 259 (l.map fnL)
theorem FnsAt.len {w : World} {A : Option Addr} {n : Nat} {l : List Fr} (h : FnsAt w A n l) : l.length = n := by have := h.1; simpa using this
theorem FnsAt.at_ {w : World} {A : Option Addr} {n : Nat} {l : List Fr} (h : FnsAt w A n l) (k : Nat) (hk : k < n) : ∃ g o, A = some ⟨g, o, none⟩ ∧ g < w.heap.size ∧ w.there g (o + k * 259) 259 ∧ readRow w g (o + k * 259) 259 = (fnL (l[k]'(by rw [h.len]; exact hk))).toArray := by
 have hkl : k < (l.map fnL).length := by have := h.1; omega
 obtain ⟨g, o, e, hg, hc⟩ := h.2.2 (by omega)
 have hl : ((l.map fnL)[k]).length = 259 := h.2.1 _ (List.getElem_mem hkl)
 have h2 : k * 259 + 259 ≤ n * 259 := by omega
 have ht : w.there g (o + k * 259) 259 := fun j hj => by
  obtain ⟨h5, h6⟩ := hc k hkl j hj
  refine ⟨?_, h6⟩
  rw [h5, List.getElem?_eq_getElem (by omega)]
  rfl
 refine ⟨g, o, e, hg, ht, ?_⟩
 unfold readRow
 refine congrArg List.toArray ?_
 apply List.ext_getElem
 ·simp only [List.getElem_map] at hl
  simp [hl]
 ·intro j h1 h3
  have hj : j < 259 := by simpa using h1
  simp only [List.getElem_map, List.getElem_range]
  rw [(hc k hkl j hj).1]
  simp only [List.getElem_map]
  rw [List.getElem?_eq_getElem (by simpa using h3)]
  rfl
def wrR : Nat → List Fr → Pl → Pl × Int
 | _, [], p => (p.sync nmWal, p.syncE)
 | k, f :: r, p => if 1048576 < 64 + 320 * (k : Int) + 320 then (p, 5) else
   if p.writeE nmWal (64 + 320 * (k : Int)) (frB f) = 0 then wrR (k + 1) r (p.write nmWal (64 + 320 * (k : Int)) (frB f)) else (p.write nmWal (64 + 320 * (k : Int)) (frB f), p.writeE nmWal (64 + 320 * (k : Int)) (frB f))
theorem wrR_cons (k : Nat) (f : Fr) (r : List Fr) (p : Pl) : wrR k (f :: r) p = if 1048576 < 64 + 320 * (k : Int) + 320 then (p, 5) else
      if p.writeE nmWal (64 + 320 * (k : Int)) (frB f) = 0 then wrR (k + 1) r (p.write nmWal (64 + 320 * (k : Int)) (frB f)) else (p.write nmWal (64 + 320 * (k : Int)) (frB f), p.writeE nmWal (64 + 320 * (k : Int)) (frB f)) := rfl
theorem wrR_nil (k : Nat) (p : Pl) : wrR k [] p = (p.sync nmWal, p.syncE) := rfl
theorem sm_wrR (l : List Fr) : ∀ (k : Nat) {p : Pl} {m M : Nat}, M = m + 20000 * (l.length + 1) → p.sm M → (wrR k l p).1.sm m := by
 induction l with
 | nil =>
  intro k p m M hM h
  rw [wrR_nil]
  rw [List.length_nil] at hM
  exact sm_sync _ (sm_mono h (by omega))
 | cons x r ih =>
  intro k p m M hM h
  rw [List.length_cons] at hM
  obtain ⟨M2, hM2⟩ : ∃ M2, M2 = m + 20000 * (r.length + 1) := ⟨_, rfl⟩
  have h1 : (p.write nmWal (64 + 320 * (k : Int)) (frB x)).sm M2 := sm_write _ _ _ (sm_mono h (by omega))
  rw [wrR_cons]
  generalize 64 + 320 * (k : Int) = a at h1 ⊢
  generalize p.write nmWal a (frB x) = q at h1 ⊢
  split
  ·exact sm_mono h (by omega)
  ·split
   ·exact ih (k + 1) hM2 h1
   ·exact sm_mono h1 (by omega)
theorem exLoadFr {w : World} {g : Nat} {t : TypeId} {FV : Array Value} (hb : Blk w g t FV) (hs : FV.size = 259) (ev : Operand → Value) {x : Operand} {ds : Option Tmp} {ty : TypeId} {ps : String} {af : Array Edge} {gd : Option (Nat × Bool)} (hx : ev x = .pointer (some ⟨g, 0, none⟩)) :
  (execOp ev ⟨ds, .load 85 x, ty, ps, af, gd⟩).run Tryz.prog w = .ok (.value (.agg FV)) w := by
 rw [loadFr w ev ds x ty ps af gd (by rw [hx]; exact hb.thereAll 259 hs), hx]
 show Result.ok (Next.value (.agg (readRow w g 0 259))) w = _
 rw [hb.readAll 259 hs]
section
variable {S : Nat → Prop} {w : World} {db lb : Nat} {p : Pl} {Hd : W4} {A : Option Addr} {c : Nat}
theorem lg_hd {k0 : Nat} (h : Blk w lb 83 (lgC db Hd A k0 c)) : w.there lb 1 4 ∧ readRow w lb 1 4 = w4A Hd := ⟨h.there (by show 1 + 4 ≤ 6; omega), (show Blk w lb 83 ([Value.pointer (some ⟨db, 0, none⟩)] ++ (w4A Hd).toList ++ [Value.slice A k0 c]).toArray from h).read 1 4 rfl rfl⟩
attribute [local go_sem ↓] loadW4 storeW4
set_option maxRecDepth 100000 in
theorem wheal_q {k0 : Nat} (h : Dq S w w db p) (hl : Blk w lb 83 (lgC db Hd A k0 c)) (hlb : ¬ S lb) (hm : p.sm 40000) :
  Calls Tryz.prog 35 #[.pointer (some ⟨lb, 0, none⟩)] w fun e w' => e = .returned (.int .i64 (p.runS (headS nmWal Hd)).2) ∧ Dq S w w' db (p.runS (headS nmWal Hd)).1 := by
 have H := zh h
 have HM := zh hm
 have HLB := zh hlb
 obtain ⟨t0, r0⟩ := lg_hd hl
 have HC := zh (show w.cell? ⟨lb, 0, none⟩ = some (.pointer (some ⟨db, 0, none⟩)) from hl.cell 0)
 clear h hm hl hlb
 go_enter Tryz.func35, Tryz.ntmps35
 go_wp2_with fail
 refine (wseal_q H.out HC.out HLB.out Hd HM.out).mono ?_
 rintro e w4 ⟨rfl, h4⟩
 have H4 := zh h4
 clear h4
 go_wp2_with fail
 go_ret
 exact ⟨rfl, H4.out⟩
theorem wat_q2 (w : World) (k : Nat) (hk : k ≤ 2199023255552) : Calls Tryz.prog 78 #[.int .i64 (k : Int)] w fun e w' => e = .returned (.int .i64 (64 + 320 * (k : Int))) ∧ w = w' := by
 have h1 : IntKind.i64.wrap ((k : Int) * 320) = (k : Int) * 320 := by rw [IntKind.wrap_i64]; omega
 have h2 : IntKind.i64.wrap (64 + (k : Int) * 320) = 64 + 320 * (k : Int) := by rw [IntKind.wrap_i64]; omega
 go_enter Tryz.func78, Tryz.ntmps78
 go_wp2_with fail
 go_ret
 exact ⟨rfl, rfl⟩
def WwRel (S : Nat → Prop) (w : World) (db : Nat) (p : Pl) (k0 : Nat) (l : List Fr) (v : Value) (wr : World) : Prop :=
 ∃ (k : Nat) (q : Pl), v = .int .i64 (k : Int) ∧ k ≤ l.length ∧ wrR k0 l p = wrR (k0 + k) (l.drop k) q ∧ q.sm (20000 * (l.length - k + 1)) ∧ Dq S w wr db q
attribute [local go_sem ↓] loadFr storeFr allocFr
attribute [local go_sem] size_setCells
set_option maxRecDepth 100000 in
set_option maxHeartbeats 1600000 in
theorem wwrite_q (h : Dq S w w db p) (k0 : Nat) (hl : Blk w lb 83 (lgC db Hd A k0 c)) (hlb : ¬ S lb) (hfl : k0 ≤ 1048576) (A2 : Option Addr) (n cap : Nat) (new : List Fr) (hnw : FnsAt w A2 n new) (hA : Apart S A2 n) (hok : ∀ f ∈ new, FrOk f) (hm : p.sm (20000 * (n + 1))) (hnn : n < 1099511627776) :
  Calls Tryz.prog 37 #[.pointer (some ⟨lb, 0, none⟩), .slice A2 n cap] w fun e w' => e = .returned (.int .i64 (wrR k0 new p).2) ∧ Dq S w w' db (wrR k0 new p).1 := by
 have H := zh h
 have HM := zh hm
 have HL := zh hl
 have HLB := zh hlb
 have HNW := zh hnw
 have HA := zh hA
 have HOK := zh hok
 have HLN := zh hnw.len
 clear h hm hl hlb hnw hA hok
 go_enter Tryz.func37, Tryz.ntmps37
 go_wp2_with fail
 go_loopw [11] (fun v wr => WwRel S w db p k0 new v wr) (fun v _ => n - (intOf v).toNat)
 case atStart => exact ⟨0, p, rfl, Nat.zero_le _, rfl, sm_mono HM.out (by rw [HLN.out]; omega), H.out⟩
 case round =>
  obtain ⟨wq, rfl⟩ : ∃ wq, wq = wr := ⟨_, rfl⟩
  obtain ⟨k, q, rfl, hk, hr0, hqm, hq⟩ := hrel
  have HQ := zh hq
  have HR0 := zh hr0
  have HQM := zh hqm
  have hlr : FnsAt wq A2 n new := RowsC.keepS HNW.out hq.kp (fun g o e hn => HA.out g o e hn)
  have hlq : Blk wq lb 83 (lgC db Hd A k0 c) := HL.out.keep hq.kp HLB.out
  by_cases hlt : k < n
  ·have hkk : (k : Int) < (n : Int) := by omega
   obtain ⟨g, o, rfl, hg, t1, r1⟩ := hlr.at_ k hlt
   obtain ⟨x, hx⟩ : ∃ x, new[k]? = some x := ⟨_, List.getElem?_eq_getElem (by rw [HLN.out]; exact hlt)⟩
   have hxe : new[k]'(by rw [HLN.out]; exact hlt) = x := (List.getElem?_eq_some_iff.1 hx).2
   rw [hxe] at r1
   have hxm : x ∈ new := List.mem_of_getElem? hx
   have hxo := HOK.out x hxm
   have hdr : new.drop k = x :: new.drop (k + 1) := by rw [← hxe]; exact List.drop_eq_getElem_cons (by rw [HLN.out]; exact hlt)
   have HDR := zh hdr
   have o1 : ones (fnL x).toArray := ones_of (fnL_one x)
   have s1 : (fnL x).toArray.size = 259 := by rw [List.size_toArray, fnL_len hxo.len]
   have hcall := fun W => wbytes_q W x hxo
   have HXO := zh hxo
   obtain ⟨FV, hFV⟩ : ∃ FV, (fnL x).toArray = FV := ⟨_, rfl⟩
   rw [hFV] at r1 o1 s1
   have HFV := zh hFV
   have hb := Blk.new wq 85 fr0
   have hb2 := hb.whole FV (by rw [s1]; kernel_rfl)
   have t2 := hb.thereAll 259 (by kernel_rfl)
   have hk3 : Kp NoB wq ((wq.alloc (.cells fr0 85)).setCells wq.heap.size 0 FV.toList) := Kp.setCells (.inl (Nat.le_refl _)) _ _ _ ((Kp.refl _ _).alloc _)
   have c5 : ((wq.alloc (.cells fr0 85)).setCells wq.heap.size 0 FV.toList).cell? ⟨lb, 5, none⟩ = some (.slice A k0 c) := (hlq.keep hk3 (fun q => q)).cell 5
   have c0 : ((wq.alloc (.cells fr0 85)).setCells wq.heap.size 0 FV.toList).cell? ⟨lb, 0, none⟩ = some (.pointer (some ⟨db, 0, none⟩)) := (hlq.keep hk3 (fun q => q)).cell 0
   have HB2 := zh hb2
   have HK3 := zh hk3
   have HC0 := zh c0
   have HCALL := zh hcall
   have HS1 := zh s1
   have hw1 : IntKind.i64.wrap ((k0 : Int) + (k : Int)) = ((k0 + k : Nat) : Int) := by rw [IntKind.wrap_i64]; omega
   clear hFV hxo hq hr0 hqm hlr hx hxe hxm hdr hb hb2 hk3 hlq hcall
   go_wp2_with fail
   refine (show Calls _ _ #[.int .i64 ((k0 + k : Nat) : Int)] _ _ from wat_q2 _ (k0 + k) (by omega)).mono ?_
   rintro e w3 ⟨rfl, hw3⟩
   have HW3 := zh hw3
   have hw2 : IntKind.i64.wrap (64 + 320 * ((k0 + k : Nat) : Int) + 320) = 64 + 320 * ((k0 + k : Nat) : Int) + 320 := by rw [IntKind.wrap_i64]; omega
   obtain ⟨a, ha⟩ : ∃ a : Int, 64 + 320 * ((k0 + k : Nat) : Int) = a := ⟨_, rfl⟩
   rw [ha] at hw2 ⊢
   have HAA := zh ha
   rw [hw3] at HB2 HK3 HC0
   obtain ⟨g0, hg0⟩ : ∃ g0, wq.heap.size = g0 := ⟨_, rfl⟩
   rw [hg0] at HB2 ⊢
   have HG0 := zh hg0
   clear ha hw1 t1 t2 r1 c5 c0 hw3 hg0
   by_cases hbig : 1048576 < a + 320
   ·have HBG := zh hbig
    go_wp2_with fail
    go_ret
    have e5 : wrR k0 new p = (q, 5) := by
     rw [HR0.out, HDR.out, wrR_cons, if_pos (by rw [HAA.out]; exact HBG.out)]
    rw [e5]
    exact ⟨rfl, HQ.out.keep HK3.out⟩
   ·have HBG := zh hbig
    obtain ⟨S2, hq2, hS2⟩ := HQ.out.base
    have HS2 := zh hS2
    have H3 := zh (hq2.base1 HK3.out)
    have HSZ : Hid ((strOf (frB x)).size ≤ maxLen) := zh (by rw [strOf_size, frB_len HXO.out]; decide)
    have HSI : Hid (strI (strOf (frB x)) = frB x) := zh (strI_strOf _ (frB_rng HXO.out))
    have HM2 := zh (sm_mono HQM.out (show 20000 ≤ 20000 * (new.length - k + 1) by omega))
    obtain ⟨rb, hrb⟩ : ∃ rb, frB x = rb := ⟨_, rfl⟩
    have HRB := zh hrb
    rw [hrb] at HSZ HSI HCALL
    rw [HFV.out] at HCALL
    have HLW : Hid (lb < w3.heap.size) := zh (block_lt_of_cell HC0.out)
    have HN2 : Hid (¬ S2 lb) := zh (fun z => by
     rcases HS2.out lb z with y | y
     ·exact HLB.out y
     ·have hh : lb < w.heap.size := HL.out.lt; omega)
    have HLT2 : Hid (¬ S2 g0) := zh (fun z => by have := hq2.lt _ z; have := HG0.out; omega)
    clear hq2 hS2 hrb
    dsimp only
    go_upto_region 7 with fail
    obtain ⟨WE, hWE⟩ : ∃ WE, q.writeE nmWal a rb = WE := ⟨_, rfl⟩
    obtain ⟨WQ, hWQ⟩ : ∃ WQ, q.write nmWal a rb = WQ := ⟨_, rfl⟩
    have HWE := zh hWE
    have HWQ := zh hWQ
    clear hWE hWQ
    apply wp_into (G := fun V (g : Nat) => g = g0 ∧ Dq S2 w3 V db WQ)
    ·refine wp_region_held_drew (S := fun V => Kp S2 w3 V) (by kernel_rfl) (Kp.refl S2 w3).drew (fun hHeld => ?_)
     have k0' : Kp NoB w3 w3.drew := (Kp.refl NoB w3).drew
     generalize w3.drew = V0 at k0' hHeld ⊢
     have kS0 : Kp S2 w3 V0 := k0'.mono (fun _ _ z => z.elim)
     refine tkJ (i := 0) (v := (.pointer (some ⟨lb, 0, none⟩))) rfl kS0 ?_
     simp only [Act.put, sA, sB, sC]
     refine tkJ (i := 1) (v := (.pointer (some ⟨lb, 0, none⟩))) rfl kS0 ?_
     simp only [Act.put, sA, sB, sC]
     refine tkJ (i := 2) (v := (.pointer (some ⟨lb, 0, none⟩))) rfl kS0 ?_
     simp only [Act.put, sA, sB, sC]
     refine tkS (i := 3) (v := (.pointer (some ⟨db, 0, none⟩))) rfl (Or.inl ⟨by rfl, fun w' hq => by have cc := (hq.cell HLW.out HN2.out).trans HC0.out; go_simp⟩) kS0 ?_
     simp only [Act.put, sA, sB, sC]
     refine tkJ (i := 4) (v := (.int .i64 a)) rfl kS0 ?_
     simp only [Act.put, sA, sB, sC]
     refine tkS (i := 5) (v := .agg FV) rfl (Or.inl ⟨by rfl, fun w' hq => exLoadFr (HB2.out.keep hq HLT2.out) HS1.out _ rfl⟩) kS0 ?_
     simp only [Act.put, sA, sB, sC]
     refine tkR [6] ?_
     refine AllReadyH.callR (fun y W' => y = .string (strOf rb) ∧ Kp NoB V0 W') rfl (by rfl) 80 #[.agg FV] (by first | (go_simp; done) | (go_simp; rfl)) (fun _ _ z => kS0.trans (z.2.mono (fun _ _ y => y.elim)) (fun _ _ y => y)) ((HCALL.out V0).mono (by rintro e w19 ⟨rfl, hk⟩; exact ⟨_, rfl, rfl, hk⟩)) ?_ AllReadyH.nil
     rintro y V1 ⟨rfl, kk1⟩
     have k1 := k0'.trans kk1 (fun _ _ z => z)
     simp only [Act.put, sA, sB, sC]
     refine tkR [7] ?_
     refine AllReadyH.callR (fun y W' => y = .int .i64 WE ∧ Dq S2 w3 W' db WQ) rfl (by rfl) 25 #[.pointer (some ⟨db, 0, none⟩), .string ⟨#[119, 97, 108]⟩, .int .i64 a, .string (strOf rb)] (by first | (go_simp; done) | (go_simp; rfl)) (fun _ _ z => z.2.kp) ((write_q (H3.out.keep k1) nmWal a (strOf rb) nmW_le HSZ.out HM2.out).mono (by rintro e w19 ⟨rfl, hk⟩; rw [HSI.out] at hk; exact ⟨_, rfl, by rw [HSI.out, HWE.out], by rw [← HWQ.out]; exact hk⟩)) ?_ AllReadyH.nil
     rintro y V2 ⟨rfl, hd2⟩
     simp only [Act.put, sA, sB, sC]
     refine tkJ (i := 8) (v := (.int .i64 WE)) rfl hd2.kp ?_
     simp only [Act.put, sA, sB, sC]
     refine wpAnyH_done (by kernel_rfl) ?_ _
     generalize g0 = z
     exact into_of z ⟨rfl, hd2⟩ rfl
    intro gz w6 hz6
    obtain ⟨hz, h6⟩ := hz6
    subst hz
    have h61 := Dq.tr (w0 := w) h6 (HQ.out.kp.trans (HK3.out.mono (fun _ _ z => z.elim)) (fun _ _ z => z)) HS2.out HQ.out.lt
    have H61 := zh h61
    have HLE : Hid (k + 1 ≤ new.length) := zh (by have := HLN.out; omega)
    have HWX : Hid (wrR (k0 + k) (x :: new.drop (k + 1)) q = if WE = 0 then wrR (k0 + k + 1) (new.drop (k + 1)) WQ else (WQ, WE)) := zh (by
     rw [wrR_cons, HAA.out, HRB.out, HWE.out, HWQ.out, if_neg HBG.out])
    have HMW : Hid (WQ.sm (20000 * (new.length - (k + 1) + 1))) := zh (by
     rw [← HWQ.out]
     exact sm_write _ _ _ (sm_mono HQM.out (by have := HLE.out; omega)))
    clear h6 h61
    by_cases he : WE = 0
    ·have HWY := zh (HWX.out.trans (if_pos he))
     subst he
     go_wp2_with fail
     go_roundw
     case rel => exact ⟨k + 1, WQ, by go_num, HLE.out, by rw [HR0.out, HDR.out, HWY.out, Nat.add_assoc], HMW.out, H61.out⟩
     case measure => simp [intOf]; omega
    ·have HWY := zh (HWX.out.trans (if_neg he))
     have he1 : (WE == 0) = false := by simpa using he
     have he2 : (WE != 0) = true := by simpa using he
     clear he
     go_wp2_with fail
     go_ret
     rw [HR0.out, HDR.out, HWY.out]
     exact ⟨rfl, H61.out⟩
  ·have hkk : ¬ (k : Int) < (n : Int) := by omega
   obtain rfl : k = n := by have := HLN.out; omega
   have hdr : new.drop k = [] := by rw [List.drop_eq_nil_iff]; have := HLN.out; omega
   have HDR := zh hdr
   have c0 : wq.cell? ⟨lb, 0, none⟩ = some (.pointer (some ⟨db, 0, none⟩)) := hlq.cell 0
   have HC0 := zh c0
   obtain ⟨S2, hq2, hS2⟩ := HQ.out.base
   have HQ2 := zh hq2
   have HS2 := zh hS2
   clear hq hr0 hqm hlr hlq hdr c0 hq2 hS2
   go_wp2_with fail
   refine (wsync_q HQ2.out HC0.out (sm_mono HQM.out (by omega))).mono ?_
   rintro e w6 ⟨rfl, h6⟩
   have H61 := zh (Dq.tr (w0 := w) h6 HQ.out.kp HS2.out HQ.out.lt)
   clear h6
   go_wp2_with fail
   go_ret
   rw [HR0.out, HDR.out, wrR_nil]
   exact ⟨rfl, H61.out⟩
end
end
section
open Go.RowKit
theorem fill_pg (n : Int) (l : List Int) (hl : l.length = 256) : Instr.fill (fun i => (#[(0, 1), (1, 256)] : Array (Nat × Nat))[i]?) (pgA ⟨0, zeros 256⟩) [(0, .int .i64 n), (1, .agg (bytesV l))] = some (pgA ⟨n, l⟩) := by
 have hz : (pgA ⟨0, zeros 256⟩).size = 257 := by
  unfold pgA pgL
  rw [List.size_toArray, List.length_cons, List.length_map]
  unfold zeros
  rw [List.length_replicate]
 have c1 : (Value.int .i64 n).cells = #[.int .i64 n] := rfl
 have c2 : (Value.agg (bytesV l)).cells = bytesV l := rfl
 have s2 : (bytesV l).size = 256 := by rw [bytesV_size, hl]
 obtain ⟨g1, g2⟩ := Go.Great.foldl_set 0 [.int .i64 n] 0 (pgA ⟨0, zeros 256⟩)
 obtain ⟨h1, h2⟩ := Go.Great.foldl_set 1 (bytesV l).toList 0 (([Value.int .i64 n].zipIdx 0).foldl (fun cs (x : Value × Nat) => cs.setIfInBounds (0 + x.2) x.1) (pgA ⟨0, zeros 256⟩))
 have e1 : (#[Value.int .i64 n] : Array Value).zipIdx.foldl (fun cs (x : Value × Nat) => cs.setIfInBounds (0 + x.2) x.1) (pgA ⟨0, zeros 256⟩) = ([Value.int .i64 n].zipIdx 0).foldl (fun cs (x : Value × Nat) => cs.setIfInBounds (0 + x.2) x.1) (pgA ⟨0, zeros 256⟩) := by
  rw [← Array.foldl_toList, Array.toList_zipIdx]
 unfold Instr.fill
 simp only [List.getElem?_toArray, List.getElem?_cons_zero, c1]
 rw [if_neg (by rw [hz]; simp), e1]
 generalize hA : ([Value.int .i64 n].zipIdx 0).foldl (fun cs (x : Value × Nat) => cs.setIfInBounds (0 + x.2) x.1) (pgA ⟨0, zeros 256⟩) = X at g1 g2 h1 h2 ⊢
 unfold Instr.fill
 simp only [List.getElem?_toArray, List.getElem?_cons_zero, List.getElem?_cons_succ, c2]
 rw [if_neg (by rw [g1, hz, s2]; simp)]
 have e2 : (bytesV l).zipIdx.foldl (fun cs (x : Value × Nat) => cs.setIfInBounds (1 + x.2) x.1) X = ((bytesV l).toList.zipIdx 0).foldl (fun cs (x : Value × Nat) => cs.setIfInBounds (1 + x.2) x.1) X := by
  rw [← Array.foldl_toList, Array.toList_zipIdx]
 rw [e2]
 unfold Instr.fill
 refine congrArg some ?_
 apply Array.ext_getElem?
 intro k
 rw [h2 k, g1, hz, g2 k, hz]
 simp only [Array.length_toList, s2, List.length_cons, List.length_nil, Nat.add_zero, Nat.zero_add]
 rcases (show k = 0 ∨ (1 ≤ k ∧ k < 257) ∨ 257 ≤ k by omega) with rfl | hk | hk
 ·rw [if_neg (by omega), if_pos (by omega)]
  rfl
 ·rw [if_pos (by omega)]
  unfold pgA pgL bytesV
  obtain ⟨j, rfl⟩ : ∃ j, k = j + 1 := ⟨k - 1, by omega⟩
  rw [List.getElem?_toArray, List.getElem?_cons_succ, Nat.add_sub_cancel]
 ·rw [if_neg (by omega), if_neg (by omega), Array.getElem?_eq_none (by rw [hz]; exact hk), Array.getElem?_eq_none (by unfold pgA pgL; rw [List.size_toArray, List.length_cons, List.length_map, hl]; exact hk)]
theorem built_pg (parts : List (Nat × Value)) : Tryz.prog.built 49 parts = Instr.fill (fun i => (#[(0, 1), (1, 256)] : Array (Nat × Nat))[i]?) (pgA ⟨0, zeros 256⟩) parts := by kernel_rfl
theorem buildPg2 (w : World) (n : Int) (l : List Int) (hl : l.length = 256) : (Instr.build 49 #[(0, .int .i64 n), (1, .agg (bytesV l))]).run Tryz.prog w = .ok (.agg (pgA ⟨n, l⟩)) w :=
 run_build w 49 _ _ ((built_pg _).trans (fill_pg n l hl))
theorem exBuildPg2 (w : World) (ev : Operand → Value) (x y : Operand) (n : Int) (l : List Int) (hl : l.length = 256) (ds : Option Tmp) (ty : TypeId) (ps : String) (af : Array Edge) (g : Option (Nat × Bool)) (hx : ev x = .int .i64 n) (hy : ev y = .agg (bytesV l)) :
  (execOp ev ⟨ds, .build 49 #[(0, x), (1, y)], ty, ps, af, g⟩).run Tryz.prog w = .ok (.value (.agg (pgA ⟨n, l⟩))) w := by
 simp only [execOp, List.map_toArray, List.map_cons, List.map_nil, hx, hy, Sem.run_bind, buildPg2 _ _ _ hl, Result.andThen_ok]
 rfl
section
variable {S : Nat → Prop} {w : World} {db : Nat} {p : Pl}
end
section
variable {S : Nat → Prop} {w : World} {db : Nat} {p : Pl}
end
section
variable {S : Nat → Prop} {w : World} {db : Nat} {p : Pl}
attribute [local go_sem ↓] loadPg storePg allocPg
end
end
section
open Go.RowKit
theorem wall_steps {db g n cap : Nat} {t : TypeId} {K : (Nat → Prop) → World → Prop} (hK : Kept K) (l : List Stpr) (S : Nat → Prop) (w : World) (p : Pl) (hs : ∀ s ∈ l, StepC db K s.f s.a s.c s.R s.cost) (hl : l.length = n) (hn : n < 1099511627776)
  (hb : Blk w g t (l.map Stpr.v).toArray) (hS : ¬ S g) (h : Dq S w w db p) (hk : K S w) (hm : p.sm (costs l)) :
  Calls Tryz.prog 34 #[.slice (some ⟨g, 0, none⟩) n cap] w fun e w' => e = .returned (.int .i64 (seqR (l.map (·.R)) p).2) ∧ Dq S w w' db (seqR (l.map (·.R)) p).1 := by
 have hc := chain_steps (o := 0) hK l 0 S w p hs (fun j hj => by
  simp [hj]) hb hS h hk hm
 refine (wsteps_ok w g 0 n cap _ _ (by simpa using hl) hn hc).mono ?_
 rintro e w' ⟨x, rfl, rfl, h2⟩
 exact ⟨rfl, h2⟩
theorem wr_run : ∀ (l : List Fr) (k : Nat) (p : Pl), p.down = false → p.le → (∀ x ∈ l, FrOk x) →
  wrR k l p = ((p.runS (frW k l ++ [⟨2, nmWal, 0, []⟩])).1, fullE (p.runS (frW k l ++ [⟨2, nmWal, 0, []⟩])).2) := by
 intro l
 induction l with
 | nil =>
  intro k p hd hle hl
  rw [wrR_nil]
  show _ = ((p.runS [⟨2, nmWal, 0, []⟩]).1, fullE (p.runS [⟨2, nmWal, 0, []⟩]).2)
  rw [runS_cons, stE2, stP2]
  split
  ·rename_i h0
   rw [runS_nil, h0]
   rfl
  ·rw [fullE_id (sync_ne3 p)]
 | cons x r ih =>
  intro k p hd hle hl
  have hb : (frB x).length = 320 := frB_len (hl x (List.mem_cons_self ..))
  rw [wrR_cons]
  show _ = ((p.runS (⟨0, nmWal, 64 + 320 * (k : Int), frB x⟩ :: (frW (k + 1) r ++ [⟨2, nmWal, 0, []⟩]))).1, fullE (p.runS (⟨0, nmWal, 64 + 320 * (k : Int), frB x⟩ :: (frW (k + 1) r ++ [⟨2, nmWal, 0, []⟩]))).2)
  rw [runS_cons, stE0, stP0]
  by_cases hbig : 1048576 < 64 + 320 * (k : Int) + 320
  ·have e3 : p.writeE nmWal (64 + 320 * (k : Int)) (frB x) = 3 := by
    unfold Pl.writeE
    rw [hd, if_neg (by simp), if_neg (by omega), if_pos (by rw [hb]; omega)]
   have ep : p.write nmWal (64 + 320 * (k : Int)) (frB x) = p := by
    unfold Pl.write
    rw [if_pos (by rw [hb]; omega)]
   rw [if_pos hbig, e3, if_neg (by decide), ep]
   rfl
  ·rw [if_neg hbig]
   split
   ·rename_i h0
    exact ih (k + 1) _ (up_st hd ⟨0, nmWal, 64 + 320 * (k : Int), frB x⟩ h0) (le_write hle _ _ _) (fun y hy => hl y (List.mem_cons_of_mem _ hy))
   ·rw [fullE_id (write_ne3 hle _ _ _ (by omega) (by rw [hb]; omega))]
theorem wcommit_run (p : Pl) (hd : p.down = false) (hle : p.le) (fs : List Fr) (k0 n : Nat) (new : List Fr) (hk0 : fs.length = k0) (hn : new.length = n) (hl : ∀ x ∈ new, FrOk x) :
  seqR [fun p' => p'.runS (headS nmWal p.whead), fun p' => wrR k0 new p', fun p' => p'.runS (headS nmWal ⟨((k0 + n : Nat) : Int), 0, 0, 0⟩)] p = ((p.runS (p.wcommitS fs new)).1, fullE (p.runS (p.wcommitS fs new)).2) := by
 subst hk0 hn
 unfold Pl.wcommitS
 rw [runS_append, seqR_cons]
 split
 ·rename_i h0
  have hd1 := up_run _ hd h0
  have hle1 := le_run (headS nmWal p.whead) hle
  generalize (p.runS (headS nmWal p.whead)).1 = q at hd1 hle1 ⊢
  rw [runS_append, seqR_cons, seqR_one, wr_run new fs.length q hd1 hle1 hl]
  simp only [fullE_0]
  split
  ·rename_i h1
   have hle2 := le_run (frW fs.length new ++ [⟨2, nmWal, 0, []⟩]) hle1
   rw [fullE_id (by first | exact head_ne3 hle2 _ _ | (push_cast; exact head_ne3 hle2 _ _))]
   push_cast
   rfl
  ·rfl
 ·rw [fullE_id (head_ne3 hle _ _)]
theorem kept_fns (A : Option Addr) (n : Nat) (l : List Fr) : Kept fun S w => FnsAt w A n l ∧ Apart S A n := fun S S' w w' h k hS => by
 refine ⟨RowsC.keepS h.1 k (fun g o e hn => h.2 g o e hn), fun g o e hn q => ?_⟩
 rcases hS g q with q | q
 ·exact h.2 g o e hn q
 ·obtain ⟨g', o', e', hg, hc⟩ := h.1.2.2 hn
  rw [e] at e'
  injection e' with e'
  injection e' with e1
  omega
section
variable {S : Nat → Prop} {w : World} {db lb : Nat} {p : Pl} {Hd : W4} {A : Option Addr} {c : Nat}
attribute [local go_sem ↓] loadW4 storeW4
set_option maxRecDepth 100000 in
theorem wcw_q (h : Dq S w w db p) (k0 : Nat) (B8 B10 : Nat) (hl : Blk w lb 83 (lgC db Hd A k0 c)) (hlb : ¬ S lb) (hfl : k0 ≤ 1048576) (A2 : Option Addr) (n cap : Nat) (new : List Fr) (h8 : Blk w B8 73 #[.pointer (some ⟨lb, 0, none⟩)]) (h10 : Blk w B10 81 #[.slice A2 n cap]) (hnw : FnsAt w A2 n new) (hA : Apart S A2 n) (hok : ∀ f ∈ new, FrOk f) (hm : p.sm (20000 * (n + 1))) (hnn : n < 1099511627776) :
  Calls Tryz.prog 36 #[.pointer (some ⟨B8, 0, none⟩), .pointer (some ⟨B10, 0, none⟩)] w fun e w' => e = .returned (.int .i64 (wrR k0 new p).2) ∧ Dq S w w' db (wrR k0 new p).1 := by
 have H := zh h
 have HM := zh hm
 have HL := zh hl
 have HLB := zh hlb
 have HNW := zh hnw
 have HA := zh hA
 have HOK := zh hok
 have c8 : w.cell? ⟨B8, 0, none⟩ = some (.pointer (some ⟨lb, 0, none⟩)) := h8.cell 0
 have c10 : w.cell? ⟨B10, 0, none⟩ = some (.slice A2 n cap) := h10.cell 0
 clear h hm hl hlb hnw hA hok h8 h10
 go_enter Tryz.func36, Tryz.ntmps36
 go_wp2_with fail
 refine (wwrite_q H.out k0 HL.out HLB.out hfl A2 n cap new HNW.out HA.out HOK.out HM.out hnn).mono ?_
 rintro e w4 ⟨rfl, h4⟩
 have H4 := zh h4
 clear h4
 go_wp2_with fail
 go_ret
 exact ⟨rfl, H4.out⟩
set_option maxRecDepth 100000 in
theorem wcs_q (h : Dq S w w db p) (B8 B13 : Nat) (hc : w.cell? ⟨lb, 0, none⟩ = some (.pointer (some ⟨db, 0, none⟩))) (hlb : ¬ S lb) (N : Nat) (hN : N < 4294967296) (h8 : Blk w B8 73 #[.pointer (some ⟨lb, 0, none⟩)]) (h13 : Blk w B13 3 #[.int .i64 (N : Int)]) (hm : p.sm 40000) :
  Calls Tryz.prog 38 #[.pointer (some ⟨B8, 0, none⟩), .pointer (some ⟨B13, 0, none⟩)] w fun e w' => e = .returned (.int .i64 (p.runS (headS nmWal ⟨(N : Int), 0, 0, 0⟩)).2) ∧ Dq S w w' db (p.runS (headS nmWal ⟨(N : Int), 0, 0, 0⟩)).1 := by
 have H := zh h
 have HM := zh hm
 have HC := zh hc
 have HLB := zh hlb
 have c8 : w.cell? ⟨B8, 0, none⟩ = some (.pointer (some ⟨lb, 0, none⟩)) := h8.cell 0
 have c13 : w.cell? ⟨B13, 0, none⟩ = some (.int .i64 (N : Int)) := h13.cell 0
 have hw1 : IntKind.u32.wrap (N : Int) = (N : Int) := by rw [IntKind.wrap_u32]; omega
 clear h hm hc hlb h8 h13
 go_enter Tryz.func38, Tryz.ntmps38
 go_wp2_with fail
 refine (show Calls _ _ #[_, .agg (w4A ⟨(N : Int), 0, 0, 0⟩)] _ _ from wseal_q H.out HC.out HLB.out ⟨(N : Int), 0, 0, 0⟩ HM.out).mono ?_
 rintro e w4 ⟨rfl, h4⟩
 have H4 := zh h4
 clear h4
 go_wp2_with fail
 go_ret
 exact ⟨rfl, H4.out⟩
def CmK (db lb : Nat) (Hd : W4) (A : Option Addr) (c k0 B8 B10 B13 : Nat) (A2 : Option Addr) (n cap : Nat) (new : List Fr) (S : Nat → Prop) (w : World) : Prop :=
 (Blk w lb 83 (lgC db Hd A k0 c) ∧ ¬ S lb) ∧ ((Blk w B8 73 #[.pointer (some ⟨lb, 0, none⟩)] ∧ ¬ S B8) ∧ ((Blk w B10 81 #[.slice A2 n cap] ∧ ¬ S B10) ∧ ((Blk w B13 3 #[.int .i64 ((k0 + n : Nat) : Int)] ∧ ¬ S B13) ∧ (FnsAt w A2 n new ∧ Apart S A2 n))))
theorem cmK_kept (k0 B8 B10 B13 : Nat) (A2 : Option Addr) (n cap : Nat) (new : List Fr) : Kept (CmK db lb Hd A c k0 B8 B10 B13 A2 n cap new) :=
 (kept_blk lb 83 (lgC db Hd A k0 c)).and ((kept_blk B8 73 #[.pointer (some ⟨lb, 0, none⟩)]).and ((kept_blk B10 81 #[.slice A2 n cap]).and ((kept_blk B13 3 #[.int .i64 ((k0 + n : Nat) : Int)]).and (kept_fns A2 n new))))
set_option maxRecDepth 100000 in
theorem wcommit_all (h : Dq S w w db p) (hdn : p.down = false) (fs : List Fr) (k0 : Nat) (hk0 : fs.length = k0) (hfl : k0 ≤ 1048576) (B8 B10 B13 : Nat) (A2 : Option Addr) (n cap : Nat) (new : List Fr)
  (hk : CmK db lb p.whead A c k0 B8 B10 B13 A2 n cap new S w) (hok : ∀ f ∈ new, FrOk f) (hn : n ≤ 4097) (hm : p.sm 100000000) :
  Calls Tryz.prog 34 #[.slice (some ⟨w.heap.size, 0, none⟩) 3 3] (w.alloc (.cells #[.func (.func 35) #[.pointer (some ⟨lb, 0, none⟩)] #[], .func (.func 36) #[] #[.pointer (some ⟨B8, 0, none⟩), .pointer (some ⟨B10, 0, none⟩)], .func (.func 38) #[] #[.pointer (some ⟨B8, 0, none⟩), .pointer (some ⟨B13, 0, none⟩)]] 67))
   fun e w' => e = .returned (.int .i64 (fullE (p.runS (p.wcommitS fs new)).2)) ∧ Dq S w w' db (p.runS (p.wcommitS fs new)).1 := by
 have hka := (Kp.refl NoB w).alloc (.cells #[.func (.func 35) #[.pointer (some ⟨lb, 0, none⟩)] #[], .func (.func 36) #[] #[.pointer (some ⟨B8, 0, none⟩), .pointer (some ⟨B10, 0, none⟩)], .func (.func 38) #[] #[.pointer (some ⟨B8, 0, none⟩), .pointer (some ⟨B13, 0, none⟩)]] 67)
 have hb := Blk.new w 67 #[.func (.func 35) #[.pointer (some ⟨lb, 0, none⟩)] #[], .func (.func 36) #[] #[.pointer (some ⟨B8, 0, none⟩), .pointer (some ⟨B10, 0, none⟩)], .func (.func 38) #[] #[.pointer (some ⟨B8, 0, none⟩), .pointer (some ⟨B13, 0, none⟩)]]
 generalize w.alloc (.cells #[.func (.func 35) #[.pointer (some ⟨lb, 0, none⟩)] #[], .func (.func 36) #[] #[.pointer (some ⟨B8, 0, none⟩), .pointer (some ⟨B10, 0, none⟩)], .func (.func 38) #[] #[.pointer (some ⟨B8, 0, none⟩), .pointer (some ⟨B13, 0, none⟩)]] 67) = w9 at hka hb ⊢
 have hlt := h.lt
 have hln := hk.2.2.2.2.1.len
 have hKK : CmK db lb p.whead A c k0 B8 B10 B13 A2 n cap new S w9 :=
  ⟨⟨hk.1.1.keep hka (fun q => q), hk.1.2⟩, ⟨hk.2.1.1.keep hka (fun q => q), hk.2.1.2⟩, ⟨hk.2.2.1.1.keep hka (fun q => q), hk.2.2.1.2⟩, ⟨hk.2.2.2.1.1.keep hka (fun q => q), hk.2.2.2.1.2⟩, RowsC.keep hk.2.2.2.2.1 hka, hk.2.2.2.2.2⟩
 have hcost : p.sm (40000 + (20000 * (n + 1) + (40000 + 0))) := sm_mono hm (by omega)
 refine (wall_steps (n := 3) (cap := 3) (cmK_kept (db := db) (lb := lb) (Hd := p.whead) (A := A) (c := c) k0 B8 B10 B13 A2 n cap new)
  [⟨35, #[.pointer (some ⟨lb, 0, none⟩)], #[], fun p' => p'.runS (headS nmWal p.whead), 40000⟩,
   ⟨36, #[], #[.pointer (some ⟨B8, 0, none⟩), .pointer (some ⟨B10, 0, none⟩)], fun p' => wrR k0 new p', 20000 * (n + 1)⟩,
   ⟨38, #[], #[.pointer (some ⟨B8, 0, none⟩), .pointer (some ⟨B13, 0, none⟩)], fun p' => p'.runS (headS nmWal ⟨((k0 + n : Nat) : Int), 0, 0, 0⟩), 40000⟩]
  S w9 p ?_ rfl (by omega) hb (fun q => by have := hlt _ q; omega) (h.base1 hka) hKK hcost).mono ?_
 ·intro s hs
  simp only [List.mem_cons, List.not_mem_nil, or_false] at hs
  rcases hs with rfl | rfl | rfl
  ·exact ⟨enters_of Tryz.func35 (by kernel_rfl) rfl, fun S w p' h hk hm => wheal_q h hk.1.1 hk.1.2 hm, fun p' k hm => sm_run _ (by exact hm)⟩
  ·exact ⟨enters_of Tryz.func36 (by kernel_rfl) rfl, fun S w p' h hk hm => wcw_q h k0 B8 B10 hk.1.1 hk.1.2 hfl A2 n cap new hk.2.1.1 hk.2.2.1.1 hk.2.2.2.2.1 hk.2.2.2.2.2 hok hm (by omega), fun p' k hm => sm_wrR new k0 (m := k) rfl (by rw [hln]; exact hm)⟩
  ·exact ⟨enters_of Tryz.func38 (by kernel_rfl) rfl, fun S w p' h hk hm => wcs_q h B8 B13 (hk.1.1.cell 0) hk.1.2 (k0 + n) (by omega) hk.2.1.1 hk.2.2.2.1.1 hm, fun p' k hm => sm_run _ (by exact hm)⟩
 ·rintro e w10 ⟨he, h10⟩
  have hz := wcommit_run p hdn (fun s => h.seen_le s) fs k0 n new hk0 hln hok
  change Dq S w9 w10 db (seqR [fun p' => p'.runS (headS nmWal p.whead), fun p' => wrR k0 new p', fun p' => p'.runS (headS nmWal ⟨((k0 + n : Nat) : Int), 0, 0, 0⟩)] p).1 at h10
  rw [hz] at h10
  refine ⟨he.trans ?_, Dq.up (h.base1 hka) hka hlt h10⟩
  show Ending.returned (.int .i64 (seqR [fun p' => p'.runS (headS nmWal p.whead), fun p' => wrR k0 new p', fun p' => p'.runS (headS nmWal ⟨((k0 + n : Nat) : Int), 0, 0, 0⟩)] p).2) = _
  rw [hz]
end
end
section
open Go.RowKit
theorem isMark_len {p : Pl} (he : p.wopen.1 = 0) (hok : ∀ f ∈ p.wopen.2, FrOk f) : isMark p.wopen.2 (p.wopen.2.length : Int) = true := by
 have hl : lastEn p.wopen.2 ≠ 0 := by
  revert he
  unfold Pl.wopen
  split
  ·intro he; cases he
  ·split
   ·intro he; cases he
   ·cases hf : frsAt (p.seen nmWal) p.whead.a.toNat with
    | none => intro he; cases he
    | some g =>
     dsimp only
     split
     ·intro he; cases he
     ·rename_i h
      intro _
      exact h
 generalize p.wopen.2 = fs at hl hok ⊢
 cases hn : fs.length with
 | zero => rfl
 | succ k =>
  rw [isMark_at fs k (by omega)]
  have h1 : fs.getLast? = some (fs[k]'(by omega)) := List.getLast?_eq_getElem?.trans (by rw [show fs.length - 1 = k by omega]; exact List.getElem?_eq_getElem (by omega))
  unfold lastEn at hl
  rw [h1] at hl
  dsimp only at hl
  have := (hok _ (List.getElem_mem (by omega : k < fs.length))).e0
  rw [decide_eq_true]
  omega
theorem wcount_rng {p : Pl} {fs : List Fr} (hok : ∀ f ∈ fs, FrOk f) (hj : p.jcount ≤ 4096) {m : Int} (hm : isMark fs m = true) : 0 ≤ wcount p fs m ∧ wcount p fs m ≤ 4096 := by
 rcases mark_cases fs m with rfl | q | q | ⟨i, hi, rfl⟩
 ·unfold wcount; rw [if_pos rfl]; omega
 ·unfold isMark at hm
  rw [decide_eq_false (by omega), decide_eq_false (by omega)] at hm
  cases hm
 ·unfold isMark at hm
  rw [decide_eq_false (by omega), decide_eq_false (by omega)] at hm
  cases hm
 ·rw [isMark_at fs i hi] at hm
  have h0 := of_decide_eq_true hm
  have h1 := (hok _ (List.getElem_mem hi)).e0
  unfold wcount
  rw [if_neg (by omega), show (((i + 1 : Nat) : Int)).toNat - 1 = i by omega, List.getElem?_eq_getElem hi]
  dsimp only
  omega
theorem jcount_le {S : Nat → Prop} {W0 w : World} {db : Nat} {p : Pl} (h : Dq S W0 w db p) : p.jcount ≤ 4096 := by
 have h1 : p.len nmDb ≤ 1048576 := by
  unfold Pl.len
  split
  ·omega
  ·exact h.seen_le nmDb
 unfold Pl.jcount
 omega
def rawFr (l : List Pg) : List Fr := l.map fun x => ⟨x.n, 0, x.b⟩
def fnCells (l : List Fr) : List Value := l.flatMap fnL
theorem fnCells_len {l : List Fr} (h : ∀ f ∈ l, f.b.length = 256) : (fnCells l).length = l.length * 259 := by
 induction l with
 | nil => rfl
 | cons f r ih =>
  have h1 := fnL_len (h f (List.mem_cons_self ..))
  have h2 := ih (fun x hx => h x (List.mem_cons_of_mem _ hx))
  unfold fnCells at *
  rw [List.flatMap_cons, List.length_append, h1, h2, List.length_cons]
  omega
theorem fn_new (w : World) (f : Fr) : ∀ j u, (fnL f)[j]? = some u → (w.alloc (.cells (fnL f).toArray 85)).cell? ((⟨w.heap.size, 0, none⟩ : Addr).add j) = some u := by
 intro j u hj
 rw [add_mk, Nat.zero_add, (Blk.new w 85 (fnL f).toArray).cell, List.getElem?_toArray]
 exact hj
theorem wpList_valW {P : Program} {ops : Array Oper} {rest : List Oper} {ds : Option Tmp} {op : Op} {ty : TypeId} {ps : String} {af : Array Edge} {a : Act} {w w' : World} {Q : Exit → Act → World → Prop} (v : Value) (hr : (execOp a.eval ⟨ds, op, ty, ps, af, none⟩).run P w = .ok (.value v) w')
  (h : wpList P ops Q rest (a.put ds v) w') : wpList P ops Q (⟨ds, op, ty, ps, af, none⟩ :: rest) a w := wpList_plain rfl fun K hK => by
 unfold Oper.wp
 rw [hr, Oper.upon_value]
 exact hK _ _ h
theorem newFr_ok {count : Int} (hc : 0 ≤ count ∧ count ≤ 4096) {l : List Pg} (h : PgsOk l) : ∀ y ∈ newFr count l, FrOk y := by
 have h1 : ∀ y ∈ (if l = [] then [⟨0, 0, zeros 256⟩] else l.map fun x => (⟨x.n, 0, x.b⟩ : Fr)), FrOk y := by
  intro y hy
  split at hy
  ·rw [List.mem_singleton.1 hy]
   exact ⟨⟨by decide, by decide⟩, ⟨by decide, by decide⟩, zeros256, zeros_rng 256⟩
  ·obtain ⟨x, hx, rfl⟩ := List.mem_map.1 hy
   have h2 := h.n x hx
   exact ⟨⟨by dsimp only; omega, by dsimp only; omega⟩, ⟨by dsimp only; omega, by dsimp only; omega⟩, (h.ok x hx).len, (h.ok x hx).rng⟩
 unfold newFr
 dsimp only
 generalize (if l = [] then [⟨0, 0, zeros 256⟩] else l.map fun x => (⟨x.n, 0, x.b⟩ : Fr)) = fs at h1 ⊢
 cases hl : fs.getLast? with
 | none => exact h1
 | some f =>
  intro y hy
  rcases List.mem_append.1 hy with q | q
  ·exact h1 y (List.dropLast_subset _ q)
  ·rw [List.mem_singleton.1 q]
   have h2 := h1 f (List.mem_of_getLast? hl)
   exact ⟨h2.n0, ⟨by dsimp only; omega, by dsimp only; omega⟩, h2.len, h2.rng⟩
theorem fnCells_app (a b : List Fr) : fnCells (a ++ b) = fnCells a ++ fnCells b := by unfold fnCells; rw [List.flatMap_append]
theorem fn_last {init : List Fr} {f : Fr} {ds : List Value} {M : Nat} (hM : init.length = M) (h : ∀ y ∈ init, y.b.length = 256) (hf : f.b.length = 256) : (fnCells init ++ fnL f ++ ds)[M * 259 + 257]? = some (.int .i64 f.en) := by
 have h1 := fnCells_len h
 rw [hM] at h1
 have h2 := fnL_len hf
 rw [List.getElem?_append_left (by rw [List.length_append, h1, h2]; omega), List.getElem?_append_right (by rw [h1]; omega), h1, show M * 259 + 257 - M * 259 = 257 by omega]
 unfold fnL
 rw [List.getElem?_cons_succ, List.getElem?_append_right (by rw [List.length_map, hf]; omega), List.length_map, hf]
 rfl
theorem fn_set {init : List Fr} {f : Fr} {ds : List Value} {M : Nat} {v : Int} (hM : init.length = M) (h : ∀ y ∈ init, y.b.length = 256) (hf : f.b.length = 256) : (fnCells init ++ fnL f ++ ds).toArray.setIfInBounds (M * 259 + 257) (.int .i64 v) = (fnCells (init ++ [{ f with en := v }]) ++ ds).toArray := by
 have h1 := fnCells_len h
 rw [hM] at h1
 have h2 := fnL_len hf
 rw [List.setIfInBounds_toArray]
 refine congrArg List.toArray ?_
 rw [List.append_assoc, List.set_append_right _ _ (by rw [h1]; omega), h1, show M * 259 + 257 - M * 259 = 257 by omega, List.set_append_left _ _ (by rw [h2]; omega), fnCells_app]
 have e : (fnL f).set 257 (.int .i64 v) = fnCells [{ f with en := v }] := by
  unfold fnCells fnL
  rw [List.flatMap_cons, List.flatMap_nil, List.append_nil, List.set_cons_succ, List.set_append_right _ _ (by rw [List.length_map, hf]; omega), List.length_map, hf]
  rfl
 rw [e, List.append_assoc]
theorem fns_blk {w : World} {g : Nat} {t : TypeId} {l : List Fr} {ds : List Value} {n : Nat} (h : Blk w g t (fnCells l ++ ds).toArray) (hn : l.length = n) (hl : ∀ y ∈ l, y.b.length = 256) : FnsAt w (some ⟨g, 0, none⟩) n l := by
 refine ⟨by rw [List.length_map, hn], fun x hx => ?_, fun _ => ⟨g, 0, rfl, h.lt, fun k hk j hj => ⟨?_, h.frozen _⟩⟩⟩
 ·obtain ⟨y, hy, rfl⟩ := List.mem_map.1 hx
  exact fnL_len (hl y hy)
 ·have hk' : k < l.length := by simpa using hk
  have h1 := fnCells_len (l := l.take k) (fun y hy => hl y (List.mem_of_mem_take hy))
  rw [List.length_take, Nat.min_eq_left (by omega)] at h1
  have e : l = l.take k ++ l[k] :: l.drop (k + 1) := by rw [List.getElem_cons_drop, List.take_append_drop]
  have h2 := fnL_len (hl _ (List.getElem_mem hk'))
  have e2 : fnCells l = fnCells (l.take k) ++ (fnL l[k] ++ fnCells (l.drop (k + 1))) := by
   conv => lhs; rw [e]
   rw [fnCells_app]
   unfold fnCells
   rw [List.flatMap_cons]
  rw [h.cell, List.getElem?_toArray, e2, List.append_assoc, List.getElem?_append_right (by rw [h1]; omega), h1, show 0 + k * 259 + j - k * 259 = j by omega, List.append_assoc, List.getElem?_append_left (by rw [h2]; exact hj), List.getElem_map]
theorem zeroIntW (w : World) : (zeroValue 3).run Tryz.prog w = .ok (.int .i64 0) w := by kernel_rfl
theorem allocIntW (w : World) (ev : Operand → Value) (ds : Option Tmp) (ty : TypeId) (ps : String) (af : Array Edge) (g : Option (Nat × Bool)) :
  (execOp ev ⟨ds, .alloc 3, ty, ps, af, g⟩).run Tryz.prog w = .ok (.value (.pointer (some ⟨w.heap.size, 0, none⟩))) (w.alloc (.cells #[.int .i64 0] 3)) := by
 simp only [execOp, Instr.alloc, Sem.run_bind, zeroIntW, Result.andThen_ok]
 rfl
theorem stIntW {w : World} {g : Nat} {v0 : Value} (h : Blk w g 3 #[v0]) (ev : Operand → Value) {x y : Operand} {z : Int} {ty : TypeId} {ps : String} {af : Array Edge} {gd : Option (Nat × Bool)} (hx : ev x = .pointer (some ⟨g, 0, none⟩)) (hy : ev y = .int .i64 z) :
  (execOp ev ⟨none, .store 3 x y, ty, ps, af, gd⟩).run Tryz.prog w = .ok .skip (w.setCell ⟨g, 0, none⟩ (.int .i64 z)) := by
 have hc : w.cell? ⟨g, 0, none⟩ = some v0 := h.cell 0
 have hf : w.frozen? ⟨g, 0, none⟩ = false := h.frozen 0
 simp only [execOp, hx, hy]
 go_simp
theorem wpList_skipW {P : Program} {ops : Array Oper} {rest : List Oper} {op : Op} {ty : TypeId} {ps : String} {af : Array Edge} {a : Act} {w w' : World} {Q : Exit → Act → World → Prop} (hr : (execOp a.eval ⟨none, op, ty, ps, af, none⟩).run P w = .ok .skip w')
  (h : wpList P ops Q rest a w') : wpList P ops Q (⟨none, op, ty, ps, af, none⟩ :: rest) a w := wpList_plain rfl fun K hK => by
 unfold Oper.wp
 rw [hr, Oper.upon_skip]
 exact hK _ _ h
theorem ldSlF {w : World} {g : Nat} {A : Option Addr} {n c : Nat} (hc : w.cell? ⟨g, 0, none⟩ = some (.slice A n c)) (ev : Operand → Value) {x : Operand} {ds : Option Tmp} {ty : TypeId} {ps : String} {af : Array Edge} {gd : Option (Nat × Bool)} (hx : ev x = .pointer (some ⟨g, 0, none⟩)) :
  (execOp ev ⟨ds, .load 81 x, ty, ps, af, gd⟩).run Tryz.prog w = .ok (.value (.slice A n c)) w := by
 simp only [execOp, hx]
 go_simp
theorem stSlF {w : World} {g : Nat} {v0 : Value} (h : Blk w g 81 #[v0]) (ev : Operand → Value) {x y : Operand} {A : Option Addr} {n c : Nat} {ty : TypeId} {ps : String} {af : Array Edge} {gd : Option (Nat × Bool)} (hx : ev x = .pointer (some ⟨g, 0, none⟩)) (hy : ev y = .slice A n c) :
  (execOp ev ⟨none, .store 81 x y, ty, ps, af, gd⟩).run Tryz.prog w = .ok .skip (w.setCell ⟨g, 0, none⟩ (.slice A n c)) := by
 have hc : w.cell? ⟨g, 0, none⟩ = some v0 := h.cell 0
 have hf : w.frozen? ⟨g, 0, none⟩ = false := h.frozen 0
 simp only [execOp, hx, hy]
 go_simp
theorem exLoadPgA {w : World} {g : Nat} {t : TypeId} {FV : Array Value} (hb : Blk w g t FV) (hs : FV.size = 257) (ev : Operand → Value) {x : Operand} {ds : Option Tmp} {ty : TypeId} {ps : String} {af : Array Edge} {gd : Option (Nat × Bool)} (hx : ev x = .pointer (some ⟨g, 0, none⟩)) :
  (execOp ev ⟨ds, .load 49 x, ty, ps, af, gd⟩).run Tryz.prog w = .ok (.value (.agg FV)) w := by
 rw [loadPg w ev ds x ty ps af gd (by rw [hx]; exact hb.thereAll 257 hs), hx]
 show Result.ok (Next.value (.agg (readRow w g 0 257))) w = _
 rw [hb.readAll 257 hs]
def GaRel (wL : World) (B10 n : Nat) (l : List Pg) (v : Value) (wr : World) : Prop :=
 ∃ (k : Nat) (v10 : Value), v = .int .i64 (k : Int) ∧ k ≤ n ∧ Blk wr B10 81 #[v10] ∧ wr.ownsRow wL.heap.size 85 259 v10 k (fnCells (rawFr (l.take k))) ∧ Kp (OnB B10) wL wr
def WcPost (S : Nat → Prop) (w : World) (db : Nat) (p : Pl) (count : Int) (l : List Pg) (e : Ending) (w' : World) : Prop := e = .returned (.tuple #[.int .i64 (p.wcommit count l).2.1, .int .i64 (p.wcommit count l).2.2]) ∧ Dq S w w' db (p.wcommit count l).1
section
variable {S : Nat → Prop} {w : World} {db : Nat} {p : Pl}
attribute [local go_sem ↓] loadPg storePg allocPg loadFr storeFr allocFr
attribute [local go_sem] size_setCells
set_option maxRecDepth 100000 in
set_option maxHeartbeats 1600000 in
theorem wcommit_q (h : Dq S w w db p) (count : Int) (hc : -9223372036854775808 ≤ count ∧ count ≤ 9223372036854775807) (A : Option Addr) (n cap : Nat) (l : List Pg) (hl : PgsAt w A n l) (hA : Apart S A n) (hok : ∀ x ∈ l, PgOk x) (hnn : n < 1099511627776) (hm : p.sm 100000000) :
  Calls Tryz.prog 13 #[ptrV db, .int .i64 count, .slice A n cap] w (WcPost S w db p count l) := by
 have H := zh h
 have HL := zh hl
 have HA := zh hA
 have HOK := zh hok
 have HC := zh hc
 have HM := zh hm
 have HLN := zh hl.len
 have HPST : Hid (∀ x y q w', p.wcommit count l = (q, x, y) → Dq S w w' db q → WcPost S w db p count l (.returned (.tuple #[.int .i64 x, .int .i64 y])) w') := zh (fun x y q w' e hd => by unfold WcPost; rw [e]; exact ⟨rfl, hd⟩)
 clear h hl hA hok hc hm
 obtain ⟨PP, hPP⟩ : ∃ PP, WcPost S w db p count l = PP := ⟨_, rfl⟩
 rw [hPP] at HPST ⊢
 clear hPP
 unfold ptrV
 go_enter Tryz.func13, Tryz.ntmps13
 go_wp2_with fail
 refine (show Calls _ _ #[ptrV db] _ _ from wopen_q H.out).mono ?_
 rintro e w1 (⟨he, rfl, hk⟩ | ⟨he, lb, Af, c, rfl, hb, ho, hg, hk⟩)
 ·have HK := zh hk
  have he1 : (p.wopen.1 == 0) = false := by simpa using he
  have he2 : (p.wopen.1 != 0) = true := by simpa using he
  have HR : Hid (p.wcommit count l = (p, 0, p.wopen.1)) := zh (by unfold Pl.wcommit; rw [if_pos he])
  obtain ⟨e0, q0⟩ : ∃ e0, p.wopen.1 = e0 := ⟨_, rfl⟩
  rw [q0] at he1 he2 HR ⊢
  clear hk he q0
  dsimp only
  go_upto_region 2 with fail
  go_quiet (fail)
  go_wp2_with fail
  exact HPST.out 0 e0 p _ HR.out (H.out.keep (HK.out.trans (((Kp.refl NoB w1).alloc _).drewN _) (fun _ _ q => q)))
 ·have hls := lg_of (H.out.seen_rng nmWal) he hb ho
  have hfl := wopen_len he
  have hmk := isMark_len he (hls.ok)
  have hrg := wcount_rng hls.ok (jcount_le H.out) hmk
  have hdn : p.down = false := by
   cases hd : p.down with
   | false => rfl
   | true => unfold Pl.wopen at he; rw [hd] at he; cases he
  have HLBS : Hid (¬ S lb) := zh (fun q => by have := H.out.lt _ q; omega)
  have HLS := zh hls
  have HFL := zh hfl
  have HMK := zh hmk
  have HRG := zh hrg
  have HDN := zh hdn
  have HE := zh he
  have HK := zh hk
  obtain ⟨old, hold⟩ : ∃ old, wcount p p.wopen.2 (p.wopen.2.length : Int) = old := ⟨_, rfl⟩
  have HOLD := zh hold
  have HWC : Hid (p.wcommit count l = if fitPg old count l = false then (p, 0, 2) else if (p.runS (p.wcommitS p.wopen.2 (newFr count l))).2 ≠ 0 then ((p.runS (p.wcommitS p.wopen.2 (newFr count l))).1, 0, fullE (p.runS (p.wcommitS p.wopen.2 (newFr count l))).2) else ((p.runS (p.wcommitS p.wopen.2 (newFr count l))).1, (p.wopen.2.length : Int) + ((newFr count l).length : Int), 0)) := zh (by
   unfold Pl.wcommit
   rw [if_neg (by rw [he]; simp), ← hold])
  clear hk he hb ho hg hls hfl hmk hrg hdn hold
  dsimp only
  go_upto_region 2 with fail
  have hkL : Kp NoB w1 (w1.alloc (.cells #[.pointer (some ⟨lb, 0, none⟩)] 73)) := (Kp.refl NoB w1).alloc _
  have hbL : Blk (w1.alloc (.cells #[.pointer (some ⟨lb, 0, none⟩)] 73)) w1.heap.size 73 #[.pointer (some ⟨lb, 0, none⟩)] := Blk.new w1 73 #[.pointer (some ⟨lb, 0, none⟩)]
  generalize w1.alloc (.cells #[.pointer (some ⟨lb, 0, none⟩)] 73) = w2 at hkL hbL ⊢
  have hB8 : w1.heap.size < w2.heap.size := hbL.lt
  have HKW : Hid (Kp NoB w w2) := zh (HK.out.trans hkL (fun _ _ q => q))
  have HL2 : Hid (LgS w2 db lb p.whead Af c p.wopen.2) := zh (HLS.out.keep hkL)
  obtain ⟨B8, hb8⟩ : ∃ B8, w1.heap.size = B8 := ⟨_, rfl⟩
  rw [hb8] at hbL hB8 ⊢
  have HB8W : Hid (w.heap.size ≤ B8) := zh (by have := HK.out.size; omega)
  have HBL := zh hbL
  clear hkL hbL hb8
  obtain ⟨k0, hk0⟩ : ∃ k0, p.wopen.2.length = k0 := ⟨_, rfl⟩
  have HK0 := zh hk0
  have HCL : Hid (w2.cell? ⟨lb, 5, none⟩ = some (.slice Af k0 c)) := zh (by rw [← hk0]; exact HL2.out.cl.2)
  have HLT : Hid (lb < w2.heap.size) := zh HL2.out.b.lt
  clear hk0
  obtain ⟨FB, hFB⟩ : ∃ FB, fitPg old count l = FB := ⟨_, rfl⟩
  have HFB := zh hFB
  clear hFB
  apply wp_into (G := fun V (g : Nat) => g = B8 ∧ Kp NoB w2 V)
  ·refine wp_region_held_drew (S := fun V => Kp NoB w2 V) (by kernel_rfl) (Kp.refl NoB w2).drew (fun hHeld => ?_)
   have k0' : Kp NoB w2 w2.drew := (Kp.refl NoB w2).drew
   generalize w2.drew = V0 at k0' hHeld ⊢
   refine tkJ (i := 0) (v := (.int .i64 0)) rfl k0' ?_
   simp only [Act.put, sA, sB, sC]
   refine tkJ (i := 1) (v := (.bool true)) rfl k0' ?_
   simp only [Act.put, sA, sB, sC]
   refine tkJ (i := 2) (v := (.bool true)) rfl k0' ?_
   simp only [Act.put, sA, sB, sC]
   refine tkS (i := 3) (v := (.pointer (some ⟨lb, 0, none⟩))) rfl (Or.inl ⟨by rfl, fun w' hq => by have cc := (hq.cell HBL.out.lt (fun q => q)).trans (HBL.out.cell 0); go_simp⟩) k0' ?_
   simp only [Act.put, sA, sB, sC]
   refine tkS (i := 4) (v := (.pointer (some ⟨lb, 0, none⟩))) rfl (Or.inl ⟨by rfl, fun w' hq => by have cc := (hq.cell HBL.out.lt (fun q => q)).trans (HBL.out.cell 0); go_simp⟩) k0' ?_
   simp only [Act.put, sA, sB, sC]
   refine tkJ (i := 5) (v := (.pointer (some ⟨lb, 0, none⟩))) rfl k0' ?_
   simp only [Act.put, sA, sB, sC]
   refine tkJ (i := 6) (v := (.pointer (some ⟨lb, 5, none⟩))) rfl k0' ?_
   simp only [Act.put, sA, sB, sC]
   refine tkS (i := 7) (v := (.slice Af k0 c)) rfl (Or.inl ⟨by rfl, fun w' hq => by have cc := (hq.cell HLT.out (fun q => q)).trans HCL.out; go_simp⟩) k0' ?_
   simp only [Act.put, sA, sB, sC]
   refine tkJ (i := 8) (v := (.int .i64 (k0 : Int))) rfl k0' ?_
   simp only [Act.put, sA, sB, sC]
   refine tkJ (i := 10) (v := (.int .i64 count)) rfl k0' ?_
   simp only [Act.put, sA, sB, sC]
   refine tkJ (i := 11) (v := (.slice A n cap)) rfl k0' ?_
   simp only [Act.put, sA, sB, sC]
   refine tkR [9] ?_
   refine AllReadyH.callR (fun y W' => y = .int .i64 old ∧ W' = V0) rfl (by rfl) 33 #[.pointer (some ⟨lb, 0, none⟩), .int .i64 (k0 : Int)] (by first | (go_simp; done) | (go_simp; rfl)) (fun _ _ z => by rw [z.2]; exact k0') ((show Calls _ _ #[_, .int .i64 (k0 : Int)] _ _ by rw [← HK0.out]; exact wcount_q (H.out.keep (HKW.out.trans k0' (fun _ _ q => q))) (HL2.out.keep k0') _ HMK.out).mono (by rintro e w19 ⟨rfl, hw⟩; exact ⟨_, rfl, by rw [HOLD.out], hw.symm⟩)) ?_ AllReadyH.nil
   rintro y V1 ⟨rfl, rfl⟩
   simp only [Act.put, sA, sB, sC]
   refine tkR [12] ?_
   refine AllReadyH.callR (fun y W' => y = .bool FB ∧ Kp NoB V1 W') rfl (by rfl) 32 #[.int .i64 old, .int .i64 count, .slice A n cap] (by first | (go_simp; done) | (go_simp; rfl)) (fun _ _ z => k0'.trans z.2 (fun _ _ q => q)) ((wfit_q V1 old count (by have := HRG.out; rw [HOLD.out] at this; exact this) HC.out A n cap l (HL.out.keep (HKW.out.trans k0' (fun _ _ q => q))) HOK.out hnn).mono (by rintro e w19 ⟨rfl, hw⟩; exact ⟨_, rfl, by rw [HFB.out], hw⟩)) ?_ AllReadyH.nil
   rintro y V2 ⟨rfl, kk2⟩
   have k2 := k0'.trans kk2 (fun _ _ q => q)
   simp only [Act.put, sA, sB, sC]
   refine tkJ (i := 13) (v := (.bool (!FB))) rfl k2 ?_
   simp only [Act.put, sA, sB, sC]
   refine tkJ (i := 14) (v := (.bool (!FB))) rfl k2 ?_
   simp only [Act.put, sA, sB, sC]
   refine wpAnyH_done (by kernel_rfl) ?_ _
   generalize B8 = z
   exact into_of z ⟨rfl, k2⟩ rfl
  intro gz w3 hz6
  obtain ⟨hz, hk3⟩ := hz6
  subst hz
  have HK3 := zh hk3
  clear hk3
  cases FB with
  | false =>
   have HR : Hid (p.wcommit count l = (p, 0, 2)) := zh (by rw [HWC.out, HFB.out]; rfl)
   go_wp2_with fail
   exact HPST.out 0 2 p _ HR.out (H.out.keep (HKW.out.trans HK3.out (fun _ _ q => q)))
  | true =>
   obtain ⟨hc4, hln, hpo, hri⟩ := fit_facts HFB.out HOK.out
   have HC4 := zh hc4
   have HLE : Hid (n ≤ 4096) := zh (by rw [← HLN.out]; exact hln)
   have HPO := zh hpo
   have HWD : Hid (p.wcommit count l = if (p.runS (p.wcommitS p.wopen.2 (newFr count l))).2 ≠ 0 then ((p.runS (p.wcommitS p.wopen.2 (newFr count l))).1, 0, fullE (p.runS (p.wcommitS p.wopen.2 (newFr count l))).2) else ((p.runS (p.wcommitS p.wopen.2 (newFr count l))).1, (p.wopen.2.length : Int) + ((newFr count l).length : Int), 0)) := zh (by rw [HWC.out, HFB.out]; rfl)
   clear hc4 hln hpo hri
   go_wp2_with fail
   have hkL : Kp NoB w3 (w3.alloc (.cells #[.slice none 0 0] 81)) := (Kp.refl NoB w3).alloc _
   have hbL : Blk (w3.alloc (.cells #[.slice none 0 0] 81)) w3.heap.size 81 #[.slice none 0 0] := Blk.new _ _ _
   generalize w3.alloc (.cells #[.slice none 0 0] 81) = wL at hkL hbL ⊢
   obtain ⟨B10, hb10⟩ : ∃ B10, w3.heap.size = B10 := ⟨_, rfl⟩
   rw [hb10] at hbL ⊢
   have HB10 : Hid (gz < B10 ∧ lb < B10 ∧ w.heap.size ≤ B10 ∧ B10 < wL.heap.size) := zh (by have h1 := HK3.out.size; have h2 := HLT.out; have h3 := HB8W.out; have h4 := hbL.lt; omega)
   have HKL : Hid (Kp NoB w wL) := zh ((HKW.out.trans HK3.out (fun _ _ q => q)).trans hkL (fun _ _ q => q))
   have HLL : Hid (LgS wL db lb p.whead Af c p.wopen.2) := zh (HL2.out.keep (HK3.out.trans hkL (fun _ _ q => q)))
   have HBLL : Hid (Blk wL gz 73 #[.pointer (some ⟨lb, 0, none⟩)]) := zh (HBL.out.keep (HK3.out.trans hkL (fun _ _ q => q)) (fun q => q))
   have HST := zh hbL
   obtain ⟨j0, hj0, hy0, hy1, hy2⟩ := info_parts infoFr
   have HJ0 := zh hj0
   have HY0 := zh hy0
   have HY1 := zh hy1
   have HY2 := zh hy2
   clear hkL hbL hb10 hj0 hy0 hy1 hy2 hB8
   go_loopw [39] (fun v wr => GaRel wL B10 n l v wr) (fun v _ => n - (intOf v).toNat)
   case atStart => exact ⟨0, .slice none 0 0, rfl, Nat.zero_le _, HST.out, World.ownsRow_nil _ _ _ _, Kp.refl _ _⟩
   case round =>
    obtain ⟨wq, rfl⟩ : ∃ wq, wq = wr := ⟨_, rfl⟩
    obtain ⟨k, v10, rfl, hk, hbq, how, hkq⟩ := hrel
    have HKQ := zh hkq
    have HOW := zh how
    have HBQ := zh hbq
    obtain ⟨A10, c10, rfl⟩ := own_slice how
    have hlq : PgsAt wq A n l := RowsC.keepS (HL.out.keep HKL.out) hkq (fun g o e hn => by
     have := HL.out.lt e hn
     have := HB10.out
     unfold OnB
     omega)
    by_cases hlt : k < n
    ·have hkk : (k : Int) < (n : Int) := by omega
     obtain ⟨g, o, rfl, hg, t1, r1⟩ := hlq.at_ k hlt
     obtain ⟨x, hx⟩ : ∃ x, l[k]? = some x := ⟨_, List.getElem?_eq_getElem (by rw [HLN.out]; exact hlt)⟩
     have hxe : l[k]'(by rw [HLN.out]; exact hlt) = x := (List.getElem?_eq_some_iff.1 hx).2
     rw [hxe] at r1
     have hxo := HOK.out x (List.mem_of_getElem? hx)
     have o1 := pgA_ones x
     have s1 := pgA_size hxo
     have hl256 := hxo.len
     have HTK : Hid (fnCells (rawFr (l.take (k + 1))) = fnCells (rawFr (l.take k)) ++ fnL ⟨x.n, 0, x.b⟩) := zh (by
      have e1 : l.take (k + 1) = l.take k ++ [x] := by rw [List.take_succ_eq_append_getElem (by rw [HLN.out]; exact hlt), hxe]
      rw [e1]
      unfold rawFr fnCells
      rw [List.map_append, List.flatMap_append]
      simp)
     have hb := Blk.new wq 49 (pgA ⟨0, zeros 256⟩)
     have hb2 := hb.whole (pgA x) (by rw [pgA_size hxo]; rfl)
     have t2 := hb.thereAll 257 rfl
     have hk3 : Kp NoB wq ((wq.alloc (.cells (pgA ⟨0, zeros 256⟩) 49)).setCells wq.heap.size 0 (pgA x).toList) := Kp.setCells (.inl (Nat.le_refl _)) _ _ _ ((Kp.refl _ _).alloc _)
     have cs10 := hbq.keep hk3 (fun q => q)
     have HK3b := zh hk3
     obtain ⟨xn, hxn⟩ : ∃ xn, x.n = xn := ⟨_, rfl⟩
     obtain ⟨xb, hxb⟩ : ∃ xb, x.b = xb := ⟨_, rfl⟩
     have hpx : pgA x = pgA ⟨xn, xb⟩ := by rw [← hxn, ← hxb]
     rw [hxb] at hl256
     rw [hxn, hxb] at HTK
     rw [hpx] at hb2 r1 o1 s1 cs10 HK3b
     have HB2 := zh hb2
     have HS1 := zh s1
     have HC10 := zh cs10
     have HL256 := zh hl256
     have hfl : (fnL ⟨xn, 0, xb⟩).toArray.size = 259 := by rw [List.size_toArray, fnL_len hl256]
     clear hlq hx hxe hxo hb hb2 hk3 hxn hxb hpx how hbq hkq cs10
     have HFL := zh hfl
     clear hfl
     go_upto_region 10 with fail
     refine wp_region_lit ?_
     refine wpList_valW _ (ldSlF (HC10.out.cell 0) _ rfl) ?_
     refine wpList_valW _ (exLoadPgA HB2.out HS1.out _ rfl) ?_
     refine wpList_valW _ (exBuildFr1 _ _ _ xn xb HL256.out _ _ _ _ _ rfl) ?_
     refine wpList_valW _ (exSliceFr _ _ _ (fnL ⟨xn, 0, xb⟩).toArray _ _ _ _ _ rfl HFL.out) ?_
     refine wpList_append_ownB rfl _ _ 81 rfl wL.heap.size 85 j0 _ 259 288 Tryz.underlying81 HJ0.out HY0.out HY1.out HY2.out rfl (by omega) (.slice A10 k c10) k (fnCells (rawFr (l.take k))) rfl (own_keepB HOW.out (HK3b.out.alloc _) (fun _ _ q => q)) ⟨((wq.alloc (.cells (pgA ⟨0, zeros 256⟩) 49)).setCells wq.heap.size 0 (pgA ⟨xn, xb⟩).toList).heap.size, 0, none⟩ 1 1 (fnL ⟨xn, 0, xb⟩) rfl (fnL_len HL256.out) (fn_new _ ⟨xn, 0, xb⟩) (fnL_one ⟨xn, 0, xb⟩) (by have := HLE.out; unfold maxLen; omega) (by have := HLE.out; omega) (by have h1 := HKQ.out.size; have h2 := (HK3b.out.alloc (.cells (fnL ⟨xn, 0, xb⟩).toArray 85)).size; omega) ?_
     intro v7 w7 hown7 hgrow7 hb7
     have hka := HK3b.out.alloc (.cells (fnL ⟨xn, 0, xb⟩).toArray 85)
     have hk7 : Kp (fun b => (Value.slice A10 k c10).ownBlock = some b) _ w7 := (Kp.refl _ _).grown hgrow7 (fun b hb => .inr hb)
     have hge := own_ge HOW.out
     have hb17 : Blk w7 B10 81 #[.slice A10 k c10] := (HBQ.out.keep hka (fun q => q)).keep hk7 (fun q => by have := hge _ q; have := HB10.out; omega)
     obtain ⟨A7, c7, rfl⟩ := own_slice hown7
     have cc7 := hb17.cell 0
     have cf7 := hb17.frozen 0
     have HREL : Hid (GaRel wL B10 n l (.int .i64 ((k : Int) + 1)) (w7.setCell ⟨B10, 0, none⟩ (.slice A7 (k + 1) c7))) := zh (by
      have hks : Kp (OnB B10) w7 (w7.setCell ⟨B10, 0, none⟩ (.slice A7 (k + 1) c7)) := (Kp.refl (OnB B10) w7).setCell (p := ⟨B10, 0, none⟩) (.inr rfl) _
      refine ⟨k + 1, (.slice A7 (k + 1) c7), rfl, by omega, hb17.set_ 0 (.slice A7 (k + 1) c7), ?_, ?_⟩
      ·rw [HTK.out]
       exact own_keepB hown7 hks (fun g hg q => by have := own_ge hown7 _ hg; have := HB10.out; unfold OnB at q; omega)
      ·exact (((HKQ.out.trans (hka.mono (fun _ _ q => q.elim)) (fun _ _ q => q)).own hgrow7 rfl HOW.out)).trans hks (fun _ _ q => q))
     clear hown7 hgrow7 hb7 hka hk7 hge hb17
     go_wp2_with fail
     refine ⟨⟨_, _, _, _, _, _, _, _, _, _, _, HREL.out, rfl⟩, ?_⟩
     simp [intOf]
     omega
    ·have hkk : ¬ (k : Int) < (n : Int) := by omega
     obtain rfl : k = n := by omega
     have hlt4 : l.take k = l := List.take_of_length_le (by have := HLN.out; omega)
     rw [hlt4] at HOW
     have HBK : Hid (Blk wq lb 83 (lgC db p.whead Af k0 c) ∧ Blk wq gz 73 #[.pointer (some ⟨lb, 0, none⟩)] ∧ Kp NoB w wq) := zh ⟨by
      have := HLL.out.b.keep hkq (fun q => by have := HB10.out; unfold OnB at q; omega)
      rw [HK0.out] at this
      exact this, HBLL.out.keep hkq (fun q => by have := HB10.out; unfold OnB at q; omega), HKL.out.trans hkq (fun b hb q => by have := HB10.out; unfold OnB at q; omega)⟩
     have HWLS : Hid (wL.heap.size ≤ wq.heap.size) := zh hkq.size
     have HBQ2 := zh hbq
     have cs10 := hbq.cell 0
     clear hlq hlt4 hlt how hbq hkq
     by_cases hz : k = 0
     ·subst hz
      have hl0 : l = [] := List.length_eq_zero_iff.1 HLN.out
      go_upto_region 13 with fail
      refine wp_region_lit ?_
      refine wpList_valW _ (buildFr0 _ _ _ _ _ _ _) ?_
      refine wpList_valW _ (exSliceFr _ _ _ fr0 _ _ _ _ _ rfl (by kernel_rfl)) ?_
      have hbA := HBQ2.out.alloc (.cells fr0 85)
      refine wpList_skipW (stSlF hbA _ rfl rfl) ?_
      have hk8 : Kp (OnB B10) wq ((wq.alloc (.cells fr0 85)).setCell ⟨B10, 0, none⟩ (.slice (some ⟨wq.heap.size, 0, none⟩) 1 1)) := ((Kp.refl (OnB B10) wq).alloc _).setCell (p := ⟨B10, 0, none⟩) (.inr rfl) _
      have HGG : Hid (B10 ≠ wq.heap.size ∧ lb ≠ wq.heap.size ∧ gz ≠ wq.heap.size ∧ w.heap.size ≤ wq.heap.size) := zh (by have h1 := HB10.out; have h2 := HWLS.out; omega)
      have HBW : Hid (Blk ((wq.alloc (.cells fr0 85)).setCell ⟨B10, 0, none⟩ (.slice (some ⟨wq.heap.size, 0, none⟩) 1 1)) B10 81 #[.slice (some ⟨wq.heap.size, 0, none⟩) (0 + 1) 1]) := zh (hbA.set_ 0 _)
      have HGW : Hid (Blk ((wq.alloc (.cells fr0 85)).setCell ⟨B10, 0, none⟩ (.slice (some ⟨wq.heap.size, 0, none⟩) 1 1)) wq.heap.size 85 (fnCells [] ++ fnL ⟨0, 0, zeros 256⟩ ++ []).toArray) := zh (by
       rw [List.append_nil]
       exact (Blk.new wq 85 fr0).far (p := ⟨B10, 0, none⟩) (fun e => HGG.out.1 e.symm) _)
      have HLW : Hid (Blk ((wq.alloc (.cells fr0 85)).setCell ⟨B10, 0, none⟩ (.slice (some ⟨wq.heap.size, 0, none⟩) 1 1)) lb 83 (lgC db p.whead Af k0 c)) := zh (HBK.out.1.keep hk8 (fun q => by have := HB10.out; unfold OnB at q; omega))
      have HZW : Hid (Blk ((wq.alloc (.cells fr0 85)).setCell ⟨B10, 0, none⟩ (.slice (some ⟨wq.heap.size, 0, none⟩) 1 1)) gz 73 #[.pointer (some ⟨lb, 0, none⟩)]) := zh (HBK.out.2.1.keep hk8 (fun q => by have := HB10.out; unfold OnB at q; omega))
      have HKW2 : Hid (Kp NoB w ((wq.alloc (.cells fr0 85)).setCell ⟨B10, 0, none⟩ (.slice (some ⟨wq.heap.size, 0, none⟩) 1 1))) := zh (HBK.out.2.2.trans hk8 (fun b hb q => by have := HB10.out; unfold OnB at q; omega))
      have HINI : Hid (([] : List Fr).length = 0 ∧ (∀ y ∈ ([] : List Fr), y.b.length = 256) ∧ (⟨0, 0, zeros 256⟩ : Fr).b.length = 256) := zh ⟨rfl, (fun y q => by cases q), zeros256⟩
      have HM4 : Hid (0 + 1 ≤ 4097) := zh (by omega)
      obtain ⟨g, hgg⟩ : ∃ g, wq.heap.size = g := ⟨_, rfl⟩
      rw [hgg] at hk8 HGG HBW HGW HLW HZW HKW2
      simp only [Act.put, sA, sB, sC]
      rw [hgg]
      clear hgg hbA cs10 hk8
      generalize (wq.alloc (.cells fr0 85)).setCell ⟨B10, 0, none⟩ (.slice (some ⟨g, 0, none⟩) 1 1) = W at HBW HGW HLW HZW HKW2 ⊢
      have HNEW : Hid (newFr count l = [] ++ [{ (⟨0, 0, zeros 256⟩ : Fr) with en := count + 1 }]) := zh (by rw [hl0]; rfl)
      obtain ⟨M, c2, init, f, ds, HBW, HGW, HINI, HM4, HNEW⟩ : ∃ (M c2 : Nat) (init : List Fr) (f : Fr) (ds : List Value), Hid (Blk W B10 81 #[.slice (some ⟨g, 0, none⟩) (M + 1) c2]) ∧ Hid (Blk W g 85 (fnCells init ++ fnL f ++ ds).toArray) ∧ Hid (init.length = M ∧ (∀ y ∈ init, y.b.length = 256) ∧ f.b.length = 256) ∧ Hid (M + 1 ≤ 4097) ∧ Hid (newFr count l = init ++ [{ f with en := count + 1 }]) := ⟨0, 1, [], ⟨0, 0, zeros 256⟩, [], HBW, HGW, HINI, HM4, HNEW⟩
      have cW := HBW.out.cell 0
      have ce : W.cell? ⟨g, M * 259 + 257, none⟩ = some (.int .i64 f.en) := by
       rw [HGW.out.cell, List.getElem?_toArray]
       exact fn_last HINI.out.1 HINI.out.2.1 HINI.out.2.2
      have fe : W.frozen? ⟨g, M * 259 + 257, none⟩ = false := HGW.out.frozen _
      have hw1 : IntKind.i64.wrap (M : Int) = (M : Int) := by have := HM4.out; rw [IntKind.wrap_i64]; omega
      have hw3 : M ≤ 4097 := by have := HM4.out; omega
      have hw2 : IntKind.i64.wrap (count + 1) = count + 1 := by have := HC4.out; rw [IntKind.wrap_i64]; omega
      rw [show (#[Value.slice (some ⟨g, 0, none⟩) (M + 1) c2] : Array Value)[0]? = some (.slice (some ⟨g, 0, none⟩) (M + 1) c2) from rfl] at cW
      go_upto_region 15 with fail
      have hgs := HGW.out.set_ (M * 259 + 257) (.int .i64 (count + 1))
      rw [fn_set HINI.out.1 HINI.out.2.1 HINI.out.2.2] at hgs
      have hbs := HBW.out.far (p := ⟨g, M * 259 + 257, none⟩) (show B10 ≠ g from HGG.out.1) (.int .i64 (count + 1))
      have hls := HLW.out.far (p := ⟨g, M * 259 + 257, none⟩) (show lb ≠ g from HGG.out.2.1) (.int .i64 (count + 1))
      have hzs := HZW.out.far (p := ⟨g, M * 259 + 257, none⟩) (show gz ≠ g from HGG.out.2.2.1) (.int .i64 (count + 1))
      have hks : Kp NoB w (W.setCell ⟨g, M * 259 + 257, none⟩ (.int .i64 (count + 1))) := HKW2.out.setCell (p := ⟨g, M * 259 + 257, none⟩) (.inl HGG.out.2.2.2) _
      have hss : (W.setCell ⟨g, M * 259 + 257, none⟩ (.int .i64 (count + 1))).heap.size = W.heap.size := by simp
      generalize W.setCell ⟨g, M * 259 + 257, none⟩ (.int .i64 (count + 1)) = W5 at hgs hbs hls hzs hks hss ⊢
      have HGS := zh hgs
      have HBS := zh hbs
      have HLS5 := zh hls
      have HZS := zh hzs
      have HKS := zh hks
      have HSUM : Hid (IntKind.i64.wrap ((k0 : Int) + ((M : Int) + 1)) = (k0 : Int) + ((M : Int) + 1)) := zh (by have := HM4.out; have := HFL.out; have := HK0.out; rw [IntKind.wrap_i64]; omega)
      clear cW ce fe hw1 hw2 hw3 hgs hbs hls hzs hks
      apply wp_intoG (G := fun V q => Blk V q 3 #[.int .i64 ((k0 + (M + 1) : Nat) : Int)] ∧ W5.heap.size ≤ q ∧ Kp NoB W5 V)
      ·refine wp_region_held_drew (S := fun V => Kp NoB W5 V) (by kernel_rfl) (Kp.refl NoB W5).drew (fun hHeld => ?_)
       have k0' : Kp NoB W5 W5.drew := (Kp.refl NoB W5).drew
       generalize W5.drew = V0 at k0' hHeld ⊢
       refine tkS (i := 0) (v := (.pointer (some ⟨lb, 0, none⟩))) rfl (Or.inl ⟨by rfl, fun w' hq => by have cc : w'.cell? ⟨gz, 0, none⟩ = some (.pointer (some ⟨lb, 0, none⟩)) := (hq.cell HZS.out.lt (fun q => q)).trans (HZS.out.cell 0); go_simp⟩) k0' ?_
       simp only [Act.put, sA, sB, sC]
       refine tkJ (i := 1) (v := (.pointer (some ⟨lb, 0, none⟩))) rfl k0' ?_
       simp only [Act.put, sA, sB, sC]
       refine tkJ (i := 2) (v := (.pointer (some ⟨lb, 5, none⟩))) rfl k0' ?_
       simp only [Act.put, sA, sB, sC]
       refine tkS (i := 3) (v := (.slice Af k0 c)) rfl (Or.inl ⟨by rfl, fun w' hq => by have cc : w'.cell? ⟨lb, 5, none⟩ = some (.slice Af k0 c) := (hq.cell HLS5.out.lt (fun q => q)).trans (HLS5.out.cell 5); go_simp⟩) k0' ?_
       simp only [Act.put, sA, sB, sC]
       refine tkJ (i := 4) (v := (.int .i64 (k0 : Int))) rfl k0' ?_
       simp only [Act.put, sA, sB, sC]
       refine tkS (i := 5) (v := (.slice (some ⟨g, 0, none⟩) (M + 1) c2)) rfl (Or.inl ⟨by rfl, fun w' hq => by have cc : w'.cell? ⟨B10, 0, none⟩ = some (.slice (some ⟨g, 0, none⟩) (M + 1) c2) := (hq.cell HBS.out.lt (fun q => q)).trans (HBS.out.cell 0); go_simp⟩) k0' ?_
       simp only [Act.put, sA, sB, sC]
       refine tkJ (i := 6) (v := (.int .i64 ((M + 1 : Nat) : Int))) rfl k0' ?_
       simp only [Act.put, sA, sB, sC]
       refine tkS (i := 7) (v := (.int .i64 ((k0 + (M + 1) : Nat) : Int))) rfl (Or.inl ⟨by rfl, fun w' hq => by have cc := HSUM.out; go_simp⟩) k0' ?_
       simp only [Act.put, sA, sB, sC]
       refine tkR [8] ?_
       refine AllReadyH.valR (fun W' => W' = V0.alloc (.cells #[.int .i64 0] 3)) rfl (by rfl) _ _ (allocIntW V0 _ _ _ _ _ _) (fun W' e => by rw [e]; exact k0'.alloc _) rfl ?_ AllReadyH.nil
       rintro _ rfl
       have hb4 : Blk (V0.alloc (.cells #[.int .i64 0] 3)) V0.heap.size 3 #[.int .i64 0] := Blk.new _ _ _
       have k1 : Kp NoB W5 (V0.alloc (.cells #[.int .i64 0] 3)) := k0'.alloc _
       have hg4 : W5.heap.size ≤ V0.heap.size := k0'.size
       generalize V0.alloc (.cells #[.int .i64 0] 3) = V1 at hb4 k1 ⊢
       generalize V0.heap.size = g4 at hb4 hg4 ⊢
       simp only [Act.put, sA, sB, sC]
       refine tkR [9] ?_
       have k2 : Kp NoB W5 (V1.setCell ⟨g4, 0, none⟩ (.int .i64 ((k0 + (M + 1) : Nat) : Int))) := k1.setCell (p := ⟨g4, 0, none⟩) (.inl hg4) _
       refine AllReadyH.skipR rfl (by rfl) _ (stIntW hb4 _ rfl rfl) k2 ?_ AllReadyH.nil
       refine wpAnyH_done (by kernel_rfl) ?_ _
       exact intoG_of g4 ⟨hb4.set_ 0 _, hg4, k2⟩ rfl
      rintro B13 W6 ⟨hb13, hg13, hk6⟩
      have HB13 := zh hb13
      have HK6 := zh hk6
      have HG13 : Hid (w.heap.size ≤ B13 ∧ w.heap.size ≤ W6.heap.size) := zh (by have h1 := HKS.out.size; have h2 := hk6.size; omega)
      have hK : CmK db lb p.whead Af c k0 gz B10 B13 (some ⟨g, 0, none⟩) (M + 1) c2 (init ++ [{ f with en := count + 1 }]) S W6 := by
       have hlt := H.out.lt
       have hw := HB10.out
       have hz8 := HB8W.out
       have hgg := HGG.out
       have h13 := HG13.out
       exact ⟨⟨HLS5.out.keep hk6 (fun q => q), fun q => HLBS.out q⟩, ⟨HZS.out.keep hk6 (fun q => q), fun q => by have := hlt _ q; omega⟩, ⟨HBS.out.keep hk6 (fun q => q), fun q => by have := hlt _ q; omega⟩, ⟨hb13, fun q => by have := hlt _ q; omega⟩, RowsC.keep (fns_blk HGS.out (by rw [List.length_append, HINI.out.1]; rfl) (fun y hy => by
        rcases List.mem_append.1 hy with z | z
        ·exact HINI.out.2.1 y z
        ·rw [List.mem_singleton.1 z]; exact HINI.out.2.2)) hk6, fun g' o' e hn q => by
         injection e with e
         injection e with e1
         have := hlt _ q
         omega⟩
      have HCK := zh hK
      have HD6 : Hid (Dq S w W6 db p) := zh (H.out.keep (HKS.out.trans hk6 (fun _ _ q => q)))
      have c8 := (HZS.out.keep hk6 (fun q => q)).cell 0
      have HOKN : Hid (∀ y ∈ init ++ [{ f with en := count + 1 }], FrOk y) := zh (by rw [← HNEW.out]; exact newFr_ok HC4.out HPO.out)
      clear hb13 hg13 hk6 hK
      go_wp2_with fail
      refine (wcommit_all (H.out.base1 (HKS.out.trans HK6.out (fun _ _ q => q))) HDN.out p.wopen.2 k0 HK0.out (by have := HFL.out; rw [HK0.out] at this; exact this) gz B10 B13 (some ⟨g, 0, none⟩) (M + 1) c2 (init ++ [{ f with en := count + 1 }]) HCK.out HOKN.out (by have := HM4.out; omega) HM.out).mono ?_
      rintro e W7 ⟨rfl, h7⟩
      have H7 : Hid (Dq S w W7 db (p.runS (p.wcommitS p.wopen.2 (init ++ [{ f with en := count + 1 }]))).1) := zh (Dq.up (H.out.base1 (HKS.out.trans HK6.out (fun _ _ q => q))) (HKS.out.trans HK6.out (fun _ _ q => q)) H.out.lt h7)
      have c13 : W7.cell? ⟨B13, 0, none⟩ = some (.int .i64 ((k0 + (M + 1) : Nat) : Int)) := (HB13.out.keep h7.kp HCK.out.2.2.2.1.2).cell 0
      have HLNN : Hid (((p.wopen.2.length : Int) + ((newFr count l).length : Int)) = ((k0 + (M + 1) : Nat) : Int)) := zh (by rw [HNEW.out, HK0.out, List.length_append, HINI.out.1]; rfl)
      have HWE := HWD.out
      rw [HNEW.out] at HWE
      rw [HNEW.out] at HLNN
      rw [HLNN.out] at HWE
      obtain ⟨RR, hRR⟩ : ∃ RR, p.runS (p.wcommitS p.wopen.2 (init ++ [{ f with en := count + 1 }])) = RR := ⟨_, rfl⟩
      rw [hRR] at H7 HWE ⊢
      have HWF := zh HWE
      clear h7 HWE hRR HLNN
      obtain ⟨RP, RE⟩ := RR
      by_cases hre : RE = 0
      ·have hfe : fullE RE = 0 := by rw [hre]; rfl
       have HR : Hid (p.wcommit count l = (RP, ((k0 + (M + 1) : Nat) : Int), 0)) := zh (by rw [HWF.out, if_neg (by simpa using hre)])
       rw [hfe]
       clear hfe hre
       go_wp2_with fail
       exact HPST.out _ _ _ _ HR.out H7.out
      ·have HR : Hid (p.wcommit count l = (RP, 0, fullE RE)) := zh (by rw [HWF.out, if_pos (by simpa using hre)])
       have hfe : fullE RE ≠ 0 := fun z => hre (fullE_0.1 z)
       dsimp only
       obtain ⟨ZE, hZE⟩ : ∃ ZE, fullE RE = ZE := ⟨_, rfl⟩
       rw [hZE] at HR hfe ⊢
       have hz1 : (ZE == 0) = false := by simpa using hfe
       have hz2 : (ZE != 0) = true := by simpa using hfe
       clear hfe hre hZE c13
       go_wp2_with fail
       exact HPST.out _ _ _ _ HR.out H7.out
     ·have hz1 : ((k : Int) == 0) = false := by simpa using hz
      obtain ⟨g, ds, rfl, hgL, hgb⟩ := own_blkN HOW.out (by omega)
      have hne : l ≠ [] := fun e => by have := HLN.out; rw [e] at this; exact hz this.symm
      obtain ⟨M, hM⟩ : ∃ M, k = M + 1 := ⟨k - 1, by omega⟩
      have hlast : l = l.dropLast ++ [l.getLast hne] := (List.dropLast_concat_getLast hne).symm
      have hrw : rawFr l = rawFr l.dropLast ++ [⟨(l.getLast hne).n, 0, (l.getLast hne).b⟩] := by
       conv => lhs; rw [hlast]
       unfold rawFr
       rw [List.map_append]
       rfl
      have HNEW : Hid (newFr count l = rawFr l.dropLast ++ [{ (⟨(l.getLast hne).n, 0, (l.getLast hne).b⟩ : Fr) with en := count + 1 }]) := zh (by
       unfold newFr
       rw [if_neg hne]
       have e : (l.map fun x => (⟨x.n, 0, x.b⟩ : Fr)) = rawFr l.dropLast ++ [⟨(l.getLast hne).n, 0, (l.getLast hne).b⟩] := hrw
       rw [e]
       simp)
      have HGW : Hid (Blk wq g 85 (fnCells (rawFr l.dropLast) ++ fnL ⟨(l.getLast hne).n, 0, (l.getLast hne).b⟩ ++ ds).toArray) := zh (by
       rw [hrw, fnCells_app] at hgb
       have e : fnCells [(⟨(l.getLast hne).n, 0, (l.getLast hne).b⟩ : Fr)] = fnL ⟨(l.getLast hne).n, 0, (l.getLast hne).b⟩ := by unfold fnCells; simp
       rw [e] at hgb
       exact hgb)
      have HINI : Hid ((rawFr l.dropLast).length = M ∧ (∀ y ∈ rawFr l.dropLast, y.b.length = 256) ∧ (⟨(l.getLast hne).n, 0, (l.getLast hne).b⟩ : Fr).b.length = 256) := zh ⟨by unfold rawFr; rw [List.length_map, List.length_dropLast, HLN.out, hM]; omega, fun y hy => by
       unfold rawFr at hy
       obtain ⟨x, hx, rfl⟩ := List.mem_map.1 hy
       exact (HOK.out x (List.dropLast_subset _ hx)).len, (HOK.out _ (List.getLast_mem hne)).len⟩
      have HM4 : Hid (M + 1 ≤ 4097) := zh (by have := HLE.out; omega)
      have HBW : Hid (Blk wq B10 81 #[.slice (some ⟨g, 0, none⟩) (M + 1) c10]) := zh (by rw [← hM]; exact HBQ2.out)
      have HGG : Hid (B10 ≠ g ∧ lb ≠ g ∧ gz ≠ g ∧ w.heap.size ≤ g) := zh (by have h1 := HB10.out; omega)
      have HLW := zh HBK.out.1
      have HZW := zh HBK.out.2.1
      have HKW2 := zh HBK.out.2.2
      clear hgb hlast hrw hgL
      go_upto_region 14 with fail
      obtain ⟨W, hW⟩ : ∃ W, wq = W := ⟨_, rfl⟩
      rw [hW] at HBW HGW HLW HZW HKW2 ⊢
      clear cs10 hW
      obtain ⟨M, c2, init, f, ds, HBW, HGW, HINI, HM4, HNEW⟩ : ∃ (M c2 : Nat) (init : List Fr) (f : Fr) (ds : List Value), Hid (Blk W B10 81 #[.slice (some ⟨g, 0, none⟩) (M + 1) c2]) ∧ Hid (Blk W g 85 (fnCells init ++ fnL f ++ ds).toArray) ∧ Hid (init.length = M ∧ (∀ y ∈ init, y.b.length = 256) ∧ f.b.length = 256) ∧ Hid (M + 1 ≤ 4097) ∧ Hid (newFr count l = init ++ [{ f with en := count + 1 }]) := ⟨M, c10, _, _, _, HBW, HGW, HINI, HM4, HNEW⟩
      have cW := HBW.out.cell 0
      have ce : W.cell? ⟨g, M * 259 + 257, none⟩ = some (.int .i64 f.en) := by
       rw [HGW.out.cell, List.getElem?_toArray]
       exact fn_last HINI.out.1 HINI.out.2.1 HINI.out.2.2
      have fe : W.frozen? ⟨g, M * 259 + 257, none⟩ = false := HGW.out.frozen _
      have hw1 : IntKind.i64.wrap (M : Int) = (M : Int) := by have := HM4.out; rw [IntKind.wrap_i64]; omega
      have hw3 : M ≤ 4097 := by have := HM4.out; omega
      have hw2 : IntKind.i64.wrap (count + 1) = count + 1 := by have := HC4.out; rw [IntKind.wrap_i64]; omega
      rw [show (#[Value.slice (some ⟨g, 0, none⟩) (M + 1) c2] : Array Value)[0]? = some (.slice (some ⟨g, 0, none⟩) (M + 1) c2) from rfl] at cW
      go_upto_region 15 with fail
      have hgs := HGW.out.set_ (M * 259 + 257) (.int .i64 (count + 1))
      rw [fn_set HINI.out.1 HINI.out.2.1 HINI.out.2.2] at hgs
      have hbs := HBW.out.far (p := ⟨g, M * 259 + 257, none⟩) (show B10 ≠ g from HGG.out.1) (.int .i64 (count + 1))
      have hls := HLW.out.far (p := ⟨g, M * 259 + 257, none⟩) (show lb ≠ g from HGG.out.2.1) (.int .i64 (count + 1))
      have hzs := HZW.out.far (p := ⟨g, M * 259 + 257, none⟩) (show gz ≠ g from HGG.out.2.2.1) (.int .i64 (count + 1))
      have hks : Kp NoB w (W.setCell ⟨g, M * 259 + 257, none⟩ (.int .i64 (count + 1))) := HKW2.out.setCell (p := ⟨g, M * 259 + 257, none⟩) (.inl HGG.out.2.2.2) _
      have hss : (W.setCell ⟨g, M * 259 + 257, none⟩ (.int .i64 (count + 1))).heap.size = W.heap.size := by simp
      generalize W.setCell ⟨g, M * 259 + 257, none⟩ (.int .i64 (count + 1)) = W5 at hgs hbs hls hzs hks hss ⊢
      have HGS := zh hgs
      have HBS := zh hbs
      have HLS5 := zh hls
      have HZS := zh hzs
      have HKS := zh hks
      have HSUM : Hid (IntKind.i64.wrap ((k0 : Int) + ((M : Int) + 1)) = (k0 : Int) + ((M : Int) + 1)) := zh (by have := HM4.out; have := HFL.out; have := HK0.out; rw [IntKind.wrap_i64]; omega)
      clear cW ce fe hw1 hw2 hw3 hgs hbs hls hzs hks
      apply wp_intoG (G := fun V q => Blk V q 3 #[.int .i64 ((k0 + (M + 1) : Nat) : Int)] ∧ W5.heap.size ≤ q ∧ Kp NoB W5 V)
      ·refine wp_region_held_drew (S := fun V => Kp NoB W5 V) (by kernel_rfl) (Kp.refl NoB W5).drew (fun hHeld => ?_)
       have k0' : Kp NoB W5 W5.drew := (Kp.refl NoB W5).drew
       generalize W5.drew = V0 at k0' hHeld ⊢
       refine tkS (i := 0) (v := (.pointer (some ⟨lb, 0, none⟩))) rfl (Or.inl ⟨by rfl, fun w' hq => by have cc : w'.cell? ⟨gz, 0, none⟩ = some (.pointer (some ⟨lb, 0, none⟩)) := (hq.cell HZS.out.lt (fun q => q)).trans (HZS.out.cell 0); go_simp⟩) k0' ?_
       simp only [Act.put, sA, sB, sC]
       refine tkJ (i := 1) (v := (.pointer (some ⟨lb, 0, none⟩))) rfl k0' ?_
       simp only [Act.put, sA, sB, sC]
       refine tkJ (i := 2) (v := (.pointer (some ⟨lb, 5, none⟩))) rfl k0' ?_
       simp only [Act.put, sA, sB, sC]
       refine tkS (i := 3) (v := (.slice Af k0 c)) rfl (Or.inl ⟨by rfl, fun w' hq => by have cc : w'.cell? ⟨lb, 5, none⟩ = some (.slice Af k0 c) := (hq.cell HLS5.out.lt (fun q => q)).trans (HLS5.out.cell 5); go_simp⟩) k0' ?_
       simp only [Act.put, sA, sB, sC]
       refine tkJ (i := 4) (v := (.int .i64 (k0 : Int))) rfl k0' ?_
       simp only [Act.put, sA, sB, sC]
       refine tkS (i := 5) (v := (.slice (some ⟨g, 0, none⟩) (M + 1) c2)) rfl (Or.inl ⟨by rfl, fun w' hq => by have cc : w'.cell? ⟨B10, 0, none⟩ = some (.slice (some ⟨g, 0, none⟩) (M + 1) c2) := (hq.cell HBS.out.lt (fun q => q)).trans (HBS.out.cell 0); go_simp⟩) k0' ?_
       simp only [Act.put, sA, sB, sC]
       refine tkJ (i := 6) (v := (.int .i64 ((M + 1 : Nat) : Int))) rfl k0' ?_
       simp only [Act.put, sA, sB, sC]
       refine tkS (i := 7) (v := (.int .i64 ((k0 + (M + 1) : Nat) : Int))) rfl (Or.inl ⟨by rfl, fun w' hq => by have cc := HSUM.out; go_simp⟩) k0' ?_
       simp only [Act.put, sA, sB, sC]
       refine tkR [8] ?_
       refine AllReadyH.valR (fun W' => W' = V0.alloc (.cells #[.int .i64 0] 3)) rfl (by rfl) _ _ (allocIntW V0 _ _ _ _ _ _) (fun W' e => by rw [e]; exact k0'.alloc _) rfl ?_ AllReadyH.nil
       rintro _ rfl
       have hb4 : Blk (V0.alloc (.cells #[.int .i64 0] 3)) V0.heap.size 3 #[.int .i64 0] := Blk.new _ _ _
       have k1 : Kp NoB W5 (V0.alloc (.cells #[.int .i64 0] 3)) := k0'.alloc _
       have hg4 : W5.heap.size ≤ V0.heap.size := k0'.size
       generalize V0.alloc (.cells #[.int .i64 0] 3) = V1 at hb4 k1 ⊢
       generalize V0.heap.size = g4 at hb4 hg4 ⊢
       simp only [Act.put, sA, sB, sC]
       refine tkR [9] ?_
       have k2 : Kp NoB W5 (V1.setCell ⟨g4, 0, none⟩ (.int .i64 ((k0 + (M + 1) : Nat) : Int))) := k1.setCell (p := ⟨g4, 0, none⟩) (.inl hg4) _
       refine AllReadyH.skipR rfl (by rfl) _ (stIntW hb4 _ rfl rfl) k2 ?_ AllReadyH.nil
       refine wpAnyH_done (by kernel_rfl) ?_ _
       exact intoG_of g4 ⟨hb4.set_ 0 _, hg4, k2⟩ rfl
      rintro B13 W6 ⟨hb13, hg13, hk6⟩
      have HB13 := zh hb13
      have HK6 := zh hk6
      have HG13 : Hid (w.heap.size ≤ B13 ∧ w.heap.size ≤ W6.heap.size) := zh (by have h1 := HKS.out.size; have h2 := hk6.size; omega)
      have hK : CmK db lb p.whead Af c k0 gz B10 B13 (some ⟨g, 0, none⟩) (M + 1) c2 (init ++ [{ f with en := count + 1 }]) S W6 := by
       have hlt := H.out.lt
       have hw := HB10.out
       have hz8 := HB8W.out
       have hgg := HGG.out
       have h13 := HG13.out
       exact ⟨⟨HLS5.out.keep hk6 (fun q => q), fun q => HLBS.out q⟩, ⟨HZS.out.keep hk6 (fun q => q), fun q => by have := hlt _ q; omega⟩, ⟨HBS.out.keep hk6 (fun q => q), fun q => by have := hlt _ q; omega⟩, ⟨hb13, fun q => by have := hlt _ q; omega⟩, RowsC.keep (fns_blk HGS.out (by rw [List.length_append, HINI.out.1]; rfl) (fun y hy => by
        rcases List.mem_append.1 hy with z | z
        ·exact HINI.out.2.1 y z
        ·rw [List.mem_singleton.1 z]; exact HINI.out.2.2)) hk6, fun g' o' e hn q => by
         injection e with e
         injection e with e1
         have := hlt _ q
         omega⟩
      have HCK := zh hK
      have HD6 : Hid (Dq S w W6 db p) := zh (H.out.keep (HKS.out.trans hk6 (fun _ _ q => q)))
      have c8 := (HZS.out.keep hk6 (fun q => q)).cell 0
      have HOKN : Hid (∀ y ∈ init ++ [{ f with en := count + 1 }], FrOk y) := zh (by rw [← HNEW.out]; exact newFr_ok HC4.out HPO.out)
      clear hb13 hg13 hk6 hK
      go_wp2_with fail
      refine (wcommit_all (H.out.base1 (HKS.out.trans HK6.out (fun _ _ q => q))) HDN.out p.wopen.2 k0 HK0.out (by have := HFL.out; rw [HK0.out] at this; exact this) gz B10 B13 (some ⟨g, 0, none⟩) (M + 1) c2 (init ++ [{ f with en := count + 1 }]) HCK.out HOKN.out (by have := HM4.out; omega) HM.out).mono ?_
      rintro e W7 ⟨rfl, h7⟩
      have H7 : Hid (Dq S w W7 db (p.runS (p.wcommitS p.wopen.2 (init ++ [{ f with en := count + 1 }]))).1) := zh (Dq.up (H.out.base1 (HKS.out.trans HK6.out (fun _ _ q => q))) (HKS.out.trans HK6.out (fun _ _ q => q)) H.out.lt h7)
      have c13 : W7.cell? ⟨B13, 0, none⟩ = some (.int .i64 ((k0 + (M + 1) : Nat) : Int)) := (HB13.out.keep h7.kp HCK.out.2.2.2.1.2).cell 0
      have HLNN : Hid (((p.wopen.2.length : Int) + ((newFr count l).length : Int)) = ((k0 + (M + 1) : Nat) : Int)) := zh (by rw [HNEW.out, HK0.out, List.length_append, HINI.out.1]; rfl)
      have HWE := HWD.out
      rw [HNEW.out] at HWE
      rw [HNEW.out] at HLNN
      rw [HLNN.out] at HWE
      obtain ⟨RR, hRR⟩ : ∃ RR, p.runS (p.wcommitS p.wopen.2 (init ++ [{ f with en := count + 1 }])) = RR := ⟨_, rfl⟩
      rw [hRR] at H7 HWE ⊢
      have HWF := zh HWE
      clear h7 HWE hRR HLNN
      obtain ⟨RP, RE⟩ := RR
      by_cases hre : RE = 0
      ·have hfe : fullE RE = 0 := by rw [hre]; rfl
       have HR : Hid (p.wcommit count l = (RP, ((k0 + (M + 1) : Nat) : Int), 0)) := zh (by rw [HWF.out, if_neg (by simpa using hre)])
       rw [hfe]
       clear hfe hre
       go_wp2_with fail
       exact HPST.out _ _ _ _ HR.out H7.out
      ·have HR : Hid (p.wcommit count l = (RP, 0, fullE RE)) := zh (by rw [HWF.out, if_pos (by simpa using hre)])
       have hfe : fullE RE ≠ 0 := fun z => hre (fullE_0.1 z)
       dsimp only
       obtain ⟨ZE, hZE⟩ : ∃ ZE, fullE RE = ZE := ⟨_, rfl⟩
       rw [hZE] at HR hfe ⊢
       have hz1 : (ZE == 0) = false := by simpa using hfe
       have hz2 : (ZE != 0) = true := by simpa using hfe
       clear hfe hre hZE c13
       go_wp2_with fail
       exact HPST.out _ _ _ _ HR.out H7.out
end
end
end Go.Proofs.YtegcbdfilkecpaaGreat
