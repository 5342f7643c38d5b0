/- Texts of this proof, one behind the other: lemmas and contracts; each says its own conditions. -/
import Derived.Test.YtegcbdfilkecpaaM7
import Derived.Test.YtegcbdfilkecpaaM11
/- The reference's journal: Home; condition: page numbers below 2^40. -/
namespace Go.Proofs.Ytegcbdfilkecpaa
open Go.RowKit

theorem st_cells (w : World) (s : Stp) (t : TypeId) : ∀ j u, (stC s)[j]? = some u → (w.alloc (.cells #[.int .i64 (s.k : Int), .string s.nm, .int .i64 s.at_, .string (strOf s.d)] t)).cell? ((⟨w.heap.size, 0, none⟩ : Addr).add j) = some u := fun j u hj => by
  rw [add_mk, Nat.zero_add, (Blk.new w t _).cell]
  show (stC s).toArray[j]? = some u
  rw [List.getElem?_toArray]
  exact hj
theorem OwnSt.app {w : World} {n0 : Nat} {v : Value} {l : List Stp} {s : Stp} (h : w.ownsRow n0 221 4 v (l.length + 1) ((l.map stC).flatten ++ stC s)) : OwnSt w n0 v (l ++ [s]) := by
  unfold OwnSt
  rw [List.length_append, List.map_append, List.flatten_append]
  have e : ([s].map stC).flatten = stC s := by simp
  rw [e]
  exact h
def HoRel (w1 : World) (l : List Pg) (m : Nat) (v5 v6 : Value) (wr : World) : Prop :=
  ∃ k : Nat, v6 = .int .i64 (k : Int) ∧ k ≤ m ∧ OwnSt wr w1.heap.size v5 (homeW (l.take k)) ∧ Kp NoB w1 wr
theorem homeW_len (l : List Pg) : (homeW l).length = l.length := by unfold homeW; rw [List.length_map]
set_option maxRecDepth 100000 in
set_option maxHeartbeats 1600000 in
theorem home_rok (w : World) (count : Int) (A : Option Addr) (m c : Nat) (l : List Pg) (hl : PgsAt w A m l) (hok : ∀ x ∈ l, PgOk x ∧ 1 ≤ x.n ∧ x.n ≤ 1099511627776) (hm : m ≤ 1099511627776) (hc : -1099511627776 ≤ count ∧ count ≤ 1099511627776) :
    Calls Try.prog 125 #[.int .i64 count, .slice A m c] w fun e w' => ∃ v', e = .returned v' ∧ OwnSt w' w.heap.size v' (homeS count l) ∧ Kp NoB w w' := by
  have HL := Lib.hid hl
  have hlen : l.length = m := hl.len
  have HLEN := Lib.hid hlen
  have HOK := Lib.hid hok
  have HM := Lib.hid hm
  obtain ⟨j0, hj0, hj1⟩ := Option.map_eq_some_iff.1 infoSt
  simp only [Prod.mk.injEq] at hj1
  have HJ0 := Lib.hid hj0
  have HY0 := Lib.hid hj1.1
  have HY1 := Lib.hid hj1.2.1
  have HY2 := Lib.hid hj1.2.2
  have hwc : IntKind.i64.wrap (count * 256) = count * 256 := by rw [IntKind.wrap_i64]; omega
  clear hl hlen hok hj0 hj1
  go_enter Try.func125, Try.ntmps125
  go_wp2_with fail
  go_loopw [5, 6] (fun v5 v6 wr => HoRel w l m v5 v6 wr) (fun _ v _ => m - (intOf v).toNat)
  case atStart => exact ⟨0, rfl, Nat.zero_le _, World.ownsRow_nil _ _ _ _, Kp.refl _ _⟩
  case round =>
    obtain ⟨wq, rfl⟩ : ∃ wq, wq = wr := ⟨_, rfl⟩
    obtain ⟨k, rfl, hk, how, hkp⟩ := hrel
    have HKP := Lib.hid hkp
    obtain ⟨A5, c5, rfl⟩ := own_slice how
    have hkl0 : (homeW (l.take k)).length = k := by rw [homeW_len, List.length_take]; have := HLEN.out; omega
    have HOW : Hid (wq.ownsRow w.heap.size 221 4 (.slice A5 k c5) k ((homeW (l.take k)).map stC).flatten) := Lib.hid (by have := how; unfold OwnSt at this; rwa [hkl0] at this)
    rw [hkl0]
    by_cases hlt : k < m
    · have hkl : k < l.length := by have := HLEN.out; omega
      obtain ⟨x, hx⟩ : ∃ x, l[k] = x := ⟨_, rfl⟩
      have hxk : l[k]? = some x := by rw [List.getElem?_eq_getElem hkl, hx]
      have hxo := HOK.out x (List.mem_of_getElem? hxk)
      have HXO := Lib.hid hxo
      have hnx : homeW (l.take (k + 1)) = homeW (l.take k) ++ [⟨0, nmDb, (x.n - 1) * 256, x.b⟩] := by
        unfold homeW
        rw [List.take_add_one, hxk, List.map_append]
        rfl
      have HNX := Lib.hid hnx
      obtain ⟨g, o, rfl, hg, hcc⟩ := (show RowsC w A m 257 (l.map pgL) from HL.out).cell (k := k) (x := pgL x) (by rw [List.getElem?_map, hxk]; rfl)
      have HC0 : Hid (∀ V, Kp NoB w V → V.cell? ⟨g, o + k * 257, none⟩ = some (.int .i64 x.n)) := Lib.hid (fun V q => (q.cell hg (fun z => z)).trans (hcc 0 _ rfl))
      have HCB : Hid (∀ V, Kp NoB w V → V.rangeAt g (o + k * 257 + 1) (x.b.map (Value.int .u8))) := Lib.hid (fun V q j u hj => (q.cell hg (fun z => z)).trans (by
        have := hcc (j + 1) u (by show (x.b.map (Value.int .u8))[j]? = some u; exact hj)
        rwa [show o + k * 257 + (j + 1) = o + k * 257 + 1 + j by omega] at this))
      have hkk : (k : Int) < (m : Int) := by omega
      have hm63 : m ≤ 9223372036854775807 := by have := HM.out; omega
      have hw1 : IntKind.i64.wrap (x.n - 1) = x.n - 1 := by rw [IntKind.wrap_i64]; omega
      have hw2 : IntKind.i64.wrap ((x.n - 1) * 256) = (x.n - 1) * 256 := by rw [IntKind.wrap_i64]; omega
      clear hx hxk hkl hcc hnx hxo how
      go_upto_region 5 with fail
      refine wp_region_held_drew (S := fun V => Kp NoB w V) (by kernel_rfl) hkp.drew (fun hHeld => ?_)
      have k0 : Kp NoB w wq.drew := hkp.drew
      have HOD := Lib.hid (own_keepB HOW.out (Kp.refl NoB wq).drew (fun _ _ q => q))
      generalize wq.drew = V0 at k0 hHeld HOD ⊢
      have huw := Try.underlying24
      have hiw : (Try.prog.info? 24).map (·.size) = some (x.b.map (Value.int .u8)).length := by rw [List.length_map, HXO.out.1.len]; exact info26
      refine tkS (i := 0) (v := (.slice A5 k c5)) rfl (Or.inl ⟨by rfl, fun w' hq => by go_simp⟩) k0 ?_
      simp only [Act.put, skA, skB, skC]
      refine tkS (i := 1) (v := (.slice (some ⟨g, o, none⟩) m c)) rfl (Or.inl ⟨by rfl, fun w' hq => by go_simp⟩) k0 ?_
      simp only [Act.put, skA, skB, skC]
      refine tkS (i := 2) (v := (.int .i64 (k : Int))) rfl (Or.inl ⟨by rfl, fun w' hq => by go_simp⟩) k0 ?_
      simp only [Act.put, skA, skB, skC]
      refine tkS (i := 3) (v := (.pointer (some ⟨g, o + k * 257, none⟩))) rfl (Or.inl ⟨by rfl, fun w' hq => by go_simp⟩) k0 ?_
      simp only [Act.put, skA, skB, skC]
      refine tkS (i := 4) (v := (.pointer (some ⟨g, o + k * 257, none⟩))) rfl (Or.inl ⟨by rfl, fun w' hq => by go_simp⟩) k0 ?_
      simp only [Act.put, skA, skB, skC]
      refine tkS (i := 5) (v := (.int .i64 x.n)) rfl (Or.inl ⟨by rfl, fun w' hq => by (have := HC0.out w' hq); go_simp⟩) k0 ?_
      simp only [Act.put, skA, skB, skC]
      refine tkS (i := 6) (v := (.int .i64 (x.n - 1))) rfl (Or.inl ⟨by rfl, fun w' hq => by go_simp⟩) k0 ?_
      simp only [Act.put, skA, skB, skC]
      refine tkS (i := 7) (v := (.int .i64 ((x.n - 1) * 256))) rfl (Or.inl ⟨by rfl, fun w' hq => by go_simp⟩) k0 ?_
      simp only [Act.put, skA, skB, skC]
      refine tkS (i := 8) (v := (.slice (some ⟨g, o, none⟩) m c)) rfl (Or.inl ⟨by rfl, fun w' hq => by go_simp⟩) k0 ?_
      simp only [Act.put, skA, skB, skC]
      refine tkS (i := 9) (v := (.int .i64 (k : Int))) rfl (Or.inl ⟨by rfl, fun w' hq => by go_simp⟩) k0 ?_
      simp only [Act.put, skA, skB, skC]
      refine tkS (i := 10) (v := (.pointer (some ⟨g, o + k * 257, none⟩))) rfl (Or.inl ⟨by rfl, fun w' hq => by go_simp⟩) k0 ?_
      simp only [Act.put, skA, skB, skC]
      refine tkS (i := 11) (v := (.pointer (some ⟨g, o + k * 257 + 1, none⟩))) rfl (Or.inl ⟨by rfl, fun w' hq => by go_simp⟩) k0 ?_
      simp only [Act.put, skA, skB, skC]
      refine tkS (i := 12) (v := .agg ((x.b.map (Value.int .u8))).toArray) rfl (yieldsIf_load_mid (by rfl) _ _ rfl _ _ rfl (x.b.map (Value.int .u8)) _ (fun V q => HCB.out V q) huw rfl hiw) k0 ?_
      simp only [Act.put, skA, skB, skC]
      refine wpAnyH_ready (rs := [13]) (by kernel_rfl) (by simp) ?_
      refine AllReadyH.callR (fun y W' => y = .string (strOf x.b) ∧ Kp NoB V0 W') rfl (by rfl) 160 #[.agg (bytesV x.b)] (by first | (go_simp; done) | (go_simp; rfl)) (fun _ _ q => k0.trans q.2 (fun _ _ q => q)) ((text_rok V0 x.b HXO.out.1.len HXO.out.1.rng).mono (by rintro e w' ⟨rfl, hk⟩; exact ⟨_, rfl, rfl, hk⟩)) ?_ AllReadyH.nil
      rintro y V1 ⟨rfl, k1⟩
      simp only [Act.put, skA, skB, skC]
      obtain ⟨s9, hs9⟩ : ∃ s9 : Stp, (⟨0, nmDb, (x.n - 1) * 256, x.b⟩ : Stp) = s9 := ⟨_, rfl⟩
      have HS9 := Lib.hid hs9
      have k01 := k0.trans k1 (fun _ _ q => q)
      have HO1 := Lib.hid (own_keepB HOD.out k1 (fun _ _ q => q))
      refine tkS (i := 14) (v := (.agg #[.int .i64 0, .string ⟨#[100, 98]⟩, .int .i64 ((x.n - 1) * 256), .string (strOf x.b)])) rfl (Or.inl ⟨by rfl, fun w' hq => by go_simp⟩) k01 ?_
      simp only [Act.put, skA, skB, skC]
      refine wpAnyH_ready (rs := [15]) (by kernel_rfl) (by simp) ?_
      refine AllReadyH.valR (fun W' => W' = V1.alloc (.cells #[.int .i64 0, .string ⟨#[100, 98]⟩, .int .i64 ((x.n - 1) * 256), .string (strOf x.b)] 221)) rfl (by rfl) (.slice (some ⟨V1.heap.size, 0, none⟩) 1 1) _ (by first | (go_simp; done) | (go_simp; rfl)) (fun W' e => by rw [e]; exact k01.alloc _) rfl ?_ AllReadyH.nil
      rintro _ rfl
      simp only [Act.put, skA, skB, skC]
      have hcl := st_cells V1 ⟨0, nmDb, (x.n - 1) * 256, x.b⟩ 221
      have ka : Kp NoB w (V1.alloc (.cells #[.int .i64 0, .string ⟨#[100, 98]⟩, .int .i64 ((x.n - 1) * 256), .string (strOf x.b)] 221)) := k01.alloc _
      have HOA := Lib.hid (own_keepB HO1.out ((Kp.refl NoB V1).alloc (.cells #[.int .i64 0, .string ⟨#[100, 98]⟩, .int .i64 ((x.n - 1) * 256), .string (strOf x.b)] 221)) (fun _ _ q => q))
      refine wpAnyH_ready (rs := [16]) (by kernel_rfl) (by simp) ?_
      refine AllReadyH.appendB rfl (by rfl) w.heap.size 221 j0 _ 4 48 Try.underlying181 HJ0.out HY0.out HY1.out HY2.out rfl (by omega) (.slice A5 k c5) k ((homeW (l.take k)).map stC).flatten rfl HOA.out ⟨V1.heap.size, 0, none⟩ 1 1 (stC ⟨0, nmDb, (x.n - 1) * 256, x.b⟩) rfl rfl hcl (fun u hu => st_one [⟨0, nmDb, (x.n - 1) * 256, x.b⟩] u (by simpa using hu)) (by have := HM.out; unfold maxLen; omega) (by have := HM.out; omega) ka.size (fun v' w' q1 q2 _ => ka.own q2 rfl HOA.out) ?_ AllReadyH.nil
      intro v7 w7 hown7 hgrow7 _
      simp only [Act.put, skA, skB, skC]
      have k7 := ka.own hgrow7 rfl HOA.out
      obtain ⟨A7, c7, rfl⟩ := own_slice hown7
      refine tkS (i := 17) (v := (.slice A7 (k + 1) c7)) rfl (Or.inl ⟨by rfl, fun w' hq => by go_simp⟩) k7 ?_
      simp only [Act.put, skA, skB, skC]
      refine wpAnyH_done (by kernel_rfl) ?_ _
      have HN : Hid (HoRel w l m (.slice A7 (k + 1) c7) (.int .i64 ((k + 1 : Nat) : Int)) w7) := Lib.hid ⟨k + 1, rfl, by omega, by rw [HNX.out]; exact OwnSt.app (by rw [hkl0]; exact hown7), k7⟩
      clear hHeld HOD k0 k1 k01 ka hcl hown7 hgrow7 k7 hkl0
      go_wp2_with fail
      go_roundw
      case rel => exact HN.out
      case measure => simp [intOf]; omega
    · have hkk : ¬ (k : Int) < (m : Int) := by omega
      obtain rfl : k = m := by omega
      have hmm := HM.out
      have hall : l.take k = l := List.take_of_length_le (by have := HLEN.out; omega)
      rw [hall] at HOW hkl0
      have HKL := Lib.hid hkl0
      clear how hkl0 hall hkp
      go_upto_region 7 with (at_builtin; refine wpList_append_ownB rfl _ _ 181 rfl w.heap.size 221 j0 _ 4 48 Try.underlying181 HJ0.out HY0.out HY1.out HY2.out rfl (by omega) _ k ((homeW l).map stC).flatten rfl (own_keepB HOW.out ((Kp.refl NoB wq).alloc _) (fun _ _ q => q)) ⟨wq.heap.size, 0, none⟩ 1 1 (stC ⟨1, nmDb, count * 256, []⟩) rfl rfl (st_cells wq ⟨1, nmDb, count * 256, []⟩ _) (fun u hu => st_one [⟨1, nmDb, count * 256, []⟩] u (by simpa using hu)) (by have := HM.out; unfold maxLen; omega) (by have := HM.out; omega) (by have := HKP.out.size; simp; omega) ?_; intro v3 w3 hown3 hgrow3 _; have HO3 := Lib.hid hown3; have hk3 := (HKP.out.alloc _).own hgrow3 rfl HOW.out; have HK3 := Lib.hid hk3; obtain ⟨A3, c3, rfl⟩ := own_slice hown3; clear hown3 hgrow3 hk3)
      go_wp2_with (at_builtin; refine wpList_append_ownB rfl _ _ 181 rfl w.heap.size 221 j0 _ 4 48 Try.underlying181 HJ0.out HY0.out HY1.out HY2.out rfl (by omega) _ (k + 1) (((homeW l).map stC).flatten ++ stC ⟨1, nmDb, count * 256, []⟩) rfl (own_keepB HO3.out ((Kp.refl NoB w3).alloc _) (fun _ _ q => q)) ⟨w3.heap.size, 0, none⟩ 1 1 (stC ⟨2, nmDb, 0, []⟩) rfl rfl (st_cells w3 ⟨2, nmDb, 0, []⟩ _) (fun u hu => st_one [⟨2, nmDb, 0, []⟩] u (by simpa using hu)) (by have := HM.out; unfold maxLen; omega) (by have := HM.out; omega) (by have := HK3.out.size; simp; omega) ?_; intro v4 w4 hown4 hgrow4 _; have HO4 := Lib.hid hown4; have hk4 := (HK3.out.alloc _).own hgrow4 rfl HO3.out; have HK4 := Lib.hid hk4; obtain ⟨A4, c4, rfl⟩ := own_slice hown4; clear hown4 hgrow4 hk4)
      go_ret
      refine ⟨_, rfl, ?_, HK4.out⟩
      have h9 : OwnSt w4 w.heap.size (.slice A4 (k + 1 + 1) c4) ((homeW l ++ [⟨1, nmDb, count * 256, []⟩]) ++ [⟨2, nmDb, 0, []⟩]) := by
        refine OwnSt.app ?_
        rw [List.length_append, HKL.out, List.map_append, List.flatten_append]
        have e1 : ([⟨1, nmDb, count * 256, []⟩].map stC).flatten = stC ⟨1, nmDb, count * 256, []⟩ := by simp
        rw [e1]
        exact HO4.out
      rw [List.append_assoc] at h9
      exact h9
end Go.Proofs.Ytegcbdfilkecpaa
/- The reference's journal: Aside; condition: page numbers below 2^40. -/
namespace Go.Proofs.Ytegcbdfilkecpaa
open Go.RowKit

theorem asideW_app : ∀ (a b : List Pg) (j : Nat), asideW j (a ++ b) = asideW j a ++ asideW (j + a.length) b
  | [], b, j => rfl
  | x :: r, b, j => by
    show _ :: asideW (j + 1) (r ++ b) = _ :: (asideW (j + 1) r ++ asideW (j + (r.length + 1)) b)
    rw [asideW_app r b (j + 1), show j + 1 + r.length = j + (r.length + 1) by omega]
theorem asideW_len2 : ∀ (l : List Pg) (k : Nat), (asideW k l).length = l.length
  | [], _ => rfl
  | x :: r, k => by
    unfold asideW
    rw [List.length_cons, List.length_cons, asideW_len2 r (k + 1)]
theorem aside_inR {y : Stp} : ∀ {l : List Pg} {k : Nat}, y ∈ asideW k l → ∃ (j : Nat) (x : Pg), j < k + l.length ∧ x ∈ l ∧ y = ⟨0, nmJn, 64 + 320 * (j : Int), recB x⟩
  | [], k, h => by cases h
  | x :: r, k, h => by
    rcases List.mem_cons.1 h with e | e
    · exact ⟨k, x, by simp, List.mem_cons_self .., e⟩
    · obtain ⟨j, z, h1, h2, h3⟩ := aside_inR e
      exact ⟨j, z, by rw [List.length_cons]; omega, List.mem_cons_of_mem _ h2, h3⟩
def AsRel (w1 : World) (l : List Pg) (m : Nat) (v5 v6 : Value) (wr : World) : Prop :=
  ∃ k : Nat, v6 = .int .i64 (k : Int) ∧ k ≤ m ∧ OwnSt wr w1.heap.size v5 (asideW 0 (l.take k)) ∧ Kp NoB w1 wr
set_option maxRecDepth 100000 in
set_option maxHeartbeats 1600000 in
theorem aside_rok (w : World) (A : Option Addr) (m c : Nat) (l : List Pg) (hl : PgsAt w A m l) (hok : ∀ x ∈ l, PgOk x ∧ 1 ≤ x.n ∧ x.n ≤ 1099511627776) (hm : m ≤ 1099511627776) :
    Calls Try.prog 123 #[.slice A m c] w fun e w' => ∃ v', e = .returned v' ∧ OwnSt w' w.heap.size v' (asideS l) ∧ Kp NoB w w' := by
  have HL := Lib.hid hl
  have hlen : l.length = m := hl.len
  have HLEN := Lib.hid hlen
  have HOK := Lib.hid hok
  have HM := Lib.hid hm
  obtain ⟨j0, hj0, hj1⟩ := Option.map_eq_some_iff.1 infoSt
  simp only [Prod.mk.injEq] at hj1
  have HJ0 := Lib.hid hj0
  have HY0 := Lib.hid hj1.1
  have HY1 := Lib.hid hj1.2.1
  have HY2 := Lib.hid hj1.2.2
  clear hl hlen hok hj0 hj1
  go_enter Try.func123, Try.ntmps123
  go_wp2_with fail
  go_loopw [3, 4] (fun v5 v6 wr => AsRel w l m v5 v6 wr) (fun _ v _ => m - (intOf v).toNat)
  case atStart => exact ⟨0, rfl, Nat.zero_le _, World.ownsRow_nil _ _ _ _, Kp.refl _ _⟩
  case round =>
    obtain ⟨wq, rfl⟩ : ∃ wq, wq = wr := ⟨_, rfl⟩
    obtain ⟨k, rfl, hk, how, hkp⟩ := hrel
    have HKP := Lib.hid hkp
    obtain ⟨A5, c5, rfl⟩ := own_slice how
    have hkl0 : (asideW 0 (l.take k)).length = k := by rw [asideW_len2, List.length_take]; have := HLEN.out; omega
    have HOW : Hid (wq.ownsRow w.heap.size 221 4 (.slice A5 k c5) k ((asideW 0 (l.take k)).map stC).flatten) := Lib.hid (by have := how; unfold OwnSt at this; rwa [hkl0] at this)
    rw [hkl0]
    by_cases hlt : k < m
    · have hkl : k < l.length := by have := HLEN.out; omega
      obtain ⟨x, hx⟩ : ∃ x, l[k] = x := ⟨_, rfl⟩
      have hxk : l[k]? = some x := by rw [List.getElem?_eq_getElem hkl, hx]
      have hxo := HOK.out x (List.mem_of_getElem? hxk)
      have HXO := Lib.hid hxo
      have hnx : asideW 0 (l.take (k + 1)) = asideW 0 (l.take k) ++ [⟨0, nmJn, 64 + 320 * (k : Int), recB x⟩] := by
        rw [List.take_add_one, hxk, asideW_app, Nat.zero_add, List.length_take, Nat.min_eq_left (by omega)]
        rfl
      have HNX := Lib.hid hnx
      obtain ⟨g, o, rfl, hg, hcc⟩ := (show RowsC w A m 257 (l.map pgL) from HL.out).cell (k := k) (x := pgL x) (by rw [List.getElem?_map, hxk]; rfl)
      have HC0 : Hid (∀ V, Kp NoB w V → V.cell? ⟨g, o + k * 257, none⟩ = some (.int .i64 x.n)) := Lib.hid (fun V q => (q.cell hg (fun z => z)).trans (hcc 0 _ rfl))
      have HCB : Hid (∀ V, Kp NoB w V → V.rangeAt g (o + k * 257 + 1) (x.b.map (Value.int .u8))) := Lib.hid (fun V q j u hj => (q.cell hg (fun z => z)).trans (by
        have := hcc (j + 1) u (by show (x.b.map (Value.int .u8))[j]? = some u; exact hj)
        rwa [show o + k * 257 + (j + 1) = o + k * 257 + 1 + j by omega] at this))
      have hkk : (k : Int) < (m : Int) := by omega
      have hm63 : m ≤ 9223372036854775807 := by have := HM.out; omega
      have hw1 : IntKind.i64.wrap (320 * (k : Int)) = 320 * (k : Int) := by rw [IntKind.wrap_i64]; have := HM.out; omega
      have hw2 : IntKind.i64.wrap (64 + 320 * (k : Int)) = 64 + 320 * (k : Int) := by rw [IntKind.wrap_i64]; have := HM.out; omega
      clear hx hxk hkl hcc hnx hxo how
      go_upto_region 5 with fail
      refine wp_region_held_drew (S := fun V => Kp NoB w V) (by kernel_rfl) hkp.drew (fun hHeld => ?_)
      have k0 : Kp NoB w wq.drew := hkp.drew
      have HOD := Lib.hid (own_keepB HOW.out (Kp.refl NoB wq).drew (fun _ _ q => q))
      generalize wq.drew = V0 at k0 hHeld HOD ⊢
      have huw := Try.underlying24
      have hiw : (Try.prog.info? 24).map (·.size) = some (x.b.map (Value.int .u8)).length := by rw [List.length_map, HXO.out.1.len]; exact info26
      refine tkS (i := 0) (v := (.slice A5 k c5)) rfl (Or.inl ⟨by rfl, fun w' hq => by go_simp⟩) k0 ?_
      simp only [Act.put, skA, skB, skC]
      refine tkS (i := 1) (v := (.int .i64 (k : Int))) rfl (Or.inl ⟨by rfl, fun w' hq => by go_simp⟩) k0 ?_
      simp only [Act.put, skA, skB, skC]
      refine tkS (i := 2) (v := (.int .i64 (320 * (k : Int)))) rfl (Or.inl ⟨by rfl, fun w' hq => by go_simp⟩) k0 ?_
      simp only [Act.put, skA, skB, skC]
      refine tkS (i := 3) (v := (.int .i64 (64 + 320 * (k : Int)))) rfl (Or.inl ⟨by rfl, fun w' hq => by go_simp⟩) k0 ?_
      simp only [Act.put, skA, skB, skC]
      refine tkS (i := 4) (v := (.slice (some ⟨g, o, none⟩) m c)) rfl (Or.inl ⟨by rfl, fun w' hq => by go_simp⟩) k0 ?_
      simp only [Act.put, skA, skB, skC]
      refine tkS (i := 5) (v := (.int .i64 (k : Int))) rfl (Or.inl ⟨by rfl, fun w' hq => by go_simp⟩) k0 ?_
      simp only [Act.put, skA, skB, skC]
      refine tkS (i := 6) (v := (.pointer (some ⟨g, o + k * 257, none⟩))) rfl (Or.inl ⟨by rfl, fun w' hq => by go_simp⟩) k0 ?_
      simp only [Act.put, skA, skB, skC]
      refine tkS (i := 7) (v := (.pointer (some ⟨g, o + k * 257, none⟩))) rfl (Or.inl ⟨by rfl, fun w' hq => by go_simp⟩) k0 ?_
      simp only [Act.put, skA, skB, skC]
      refine tkS (i := 8) (v := (.int .i64 x.n)) rfl (Or.inl ⟨by rfl, fun w' hq => by (have := HC0.out w' hq); go_simp⟩) k0 ?_
      simp only [Act.put, skA, skB, skC]
      refine tkS (i := 12) (v := (.slice (some ⟨g, o, none⟩) m c)) rfl (Or.inl ⟨by rfl, fun w' hq => by go_simp⟩) k0 ?_
      simp only [Act.put, skA, skB, skC]
      refine tkS (i := 13) (v := (.int .i64 (k : Int))) rfl (Or.inl ⟨by rfl, fun w' hq => by go_simp⟩) k0 ?_
      simp only [Act.put, skA, skB, skC]
      refine tkS (i := 14) (v := (.pointer (some ⟨g, o + k * 257, none⟩))) rfl (Or.inl ⟨by rfl, fun w' hq => by go_simp⟩) k0 ?_
      simp only [Act.put, skA, skB, skC]
      refine tkS (i := 15) (v := (.pointer (some ⟨g, o + k * 257 + 1, none⟩))) rfl (Or.inl ⟨by rfl, fun w' hq => by go_simp⟩) k0 ?_
      simp only [Act.put, skA, skB, skC]
      refine tkS (i := 16) (v := .agg ((x.b.map (Value.int .u8))).toArray) rfl (yieldsIf_load_mid (by rfl) _ _ rfl _ _ rfl (x.b.map (Value.int .u8)) _ (fun V q => HCB.out V q) huw rfl hiw) k0 ?_
      simp only [Act.put, skA, skB, skC]
      refine wpAnyH_ready (rs := [9]) (by kernel_rfl) (by simp) ?_
      refine AllReadyH.callR (fun y W' => y = .string (strOf (four x.n)) ∧ Kp NoB V0 W') rfl (by rfl) 158 #[.int .i64 x.n] (by first | (go_simp; done) | (go_simp; rfl)) (fun _ _ q => k0.trans q.2 (fun _ _ q => q)) ((four_rok V0 x.n (by have := HXO.out; omega)).mono (by rintro e w' ⟨rfl, hk⟩; exact ⟨_, rfl, rfl, hk⟩)) ?_ AllReadyH.nil
      rintro y Va ⟨rfl, ka1⟩
      simp only [Act.put, skA, skB, skC]
      refine wpAnyH_ready (rs := [10]) (by kernel_rfl) (by simp) ?_
      refine AllReadyH.callR (fun y W' => y = .string (strOf (zeros 60)) ∧ Kp NoB V0 W') rfl (by rfl) 159 #[.int .i64 60] (by first | (go_simp; done) | (go_simp; rfl)) (fun _ _ q => k0.trans q.2 (fun _ _ q => q)) ((zeros_rok Va 60 (by omega)).mono (by rintro e w' ⟨rfl, hk⟩; exact ⟨_, rfl, rfl, ka1.trans hk (fun _ _ q => q)⟩)) ?_ AllReadyH.nil
      rintro y Vb ⟨rfl, kb1⟩
      simp only [Act.put, skA, skB, skC]
      have sz1 : (strOf (four x.n)).size = 4 := strOf_size _
      have sz2 : (strOf (zeros 60)).size = 60 := strOf_size _
      have sz3 : (strOf x.b).size = 256 := by rw [strOf_size]; exact HXO.out.1.len
      have sz4 : (strOf (four x.n) ++ strOf (zeros 60)).size = 64 := by rw [ByteArray.size_append, sz1, sz2]
      refine tkS (i := 11) (v := (.string (strOf (four x.n) ++ strOf (zeros 60)))) rfl (Or.inl ⟨by rfl, fun w' hq => by go_simp⟩) (k0.trans kb1 (fun _ _ q => q)) ?_
      simp only [Act.put, skA, skB, skC]
      refine wpAnyH_ready (rs := [17]) (by kernel_rfl) (by simp) ?_
      refine AllReadyH.callR (fun y W' => y = .string (strOf x.b) ∧ Kp NoB V0 W') rfl (by rfl) 160 #[.agg (bytesV x.b)] (by first | (go_simp; done) | (go_simp; rfl)) (fun _ _ q => k0.trans q.2 (fun _ _ q => q)) ((text_rok Vb x.b HXO.out.1.len HXO.out.1.rng).mono (by rintro e w' ⟨rfl, hk⟩; exact ⟨_, rfl, rfl, kb1.trans hk (fun _ _ q => q)⟩)) ?_ AllReadyH.nil
      rintro y V1 ⟨rfl, k1⟩
      simp only [Act.put, skA, skB, skC]
      refine tkS (i := 18) (v := (.string (strOf (four x.n) ++ strOf (zeros 60) ++ strOf x.b))) rfl (Or.inl ⟨by rfl, fun w' hq => by go_simp⟩) (k0.trans k1 (fun _ _ q => q)) ?_
      simp only [Act.put, skA, skB, skC]
      have hrec : strOf (four x.n) ++ strOf (zeros 60) ++ strOf x.b = strOf (recB x) := by unfold recB; rw [strOf_app, strOf_app]
      rw [hrec]
      clear hrec sz1 sz2 sz3 sz4 ka1 kb1
      obtain ⟨s9, hs9⟩ : ∃ s9 : Stp, (⟨0, nmJn, 64 + 320 * (k : Int), recB x⟩ : Stp) = s9 := ⟨_, rfl⟩
      have HS9 := Lib.hid hs9
      have k01 := k0.trans k1 (fun _ _ q => q)
      have HO1 := Lib.hid (own_keepB HOD.out k1 (fun _ _ q => q))
      refine tkS (i := 19) (v := (.agg #[.int .i64 0, .string ⟨#[106, 111, 117, 114, 110, 97, 108]⟩, .int .i64 (64 + 320 * (k : Int)), .string (strOf (recB x))])) rfl (Or.inl ⟨by rfl, fun w' hq => by go_simp⟩) k01 ?_
      simp only [Act.put, skA, skB, skC]
      refine wpAnyH_ready (rs := [20]) (by kernel_rfl) (by simp) ?_
      refine AllReadyH.valR (fun W' => W' = V1.alloc (.cells #[.int .i64 0, .string ⟨#[106, 111, 117, 114, 110, 97, 108]⟩, .int .i64 (64 + 320 * (k : Int)), .string (strOf (recB x))] 221)) rfl (by rfl) (.slice (some ⟨V1.heap.size, 0, none⟩) 1 1) _ (by first | (go_simp; done) | (go_simp; rfl)) (fun W' e => by rw [e]; exact k01.alloc _) rfl ?_ AllReadyH.nil
      rintro _ rfl
      simp only [Act.put, skA, skB, skC]
      have hcl := st_cells V1 ⟨0, nmJn, 64 + 320 * (k : Int), recB x⟩ 221
      have ka : Kp NoB w (V1.alloc (.cells #[.int .i64 0, .string ⟨#[106, 111, 117, 114, 110, 97, 108]⟩, .int .i64 (64 + 320 * (k : Int)), .string (strOf (recB x))] 221)) := k01.alloc _
      have HOA := Lib.hid (own_keepB HO1.out ((Kp.refl NoB V1).alloc (.cells #[.int .i64 0, .string ⟨#[106, 111, 117, 114, 110, 97, 108]⟩, .int .i64 (64 + 320 * (k : Int)), .string (strOf (recB x))] 221)) (fun _ _ q => q))
      refine wpAnyH_ready (rs := [21]) (by kernel_rfl) (by simp) ?_
      refine AllReadyH.appendB rfl (by rfl) w.heap.size 221 j0 _ 4 48 Try.underlying181 HJ0.out HY0.out HY1.out HY2.out rfl (by omega) (.slice A5 k c5) k ((asideW 0 (l.take k)).map stC).flatten rfl HOA.out ⟨V1.heap.size, 0, none⟩ 1 1 (stC ⟨0, nmJn, 64 + 320 * (k : Int), recB x⟩) rfl rfl hcl (fun u hu => st_one [⟨0, nmJn, 64 + 320 * (k : Int), recB x⟩] u (by simpa using hu)) (by have := HM.out; unfold maxLen; omega) (by have := HM.out; omega) ka.size (fun v' w' q1 q2 _ => ka.own q2 rfl HOA.out) ?_ AllReadyH.nil
      intro v7 w7 hown7 hgrow7 _
      simp only [Act.put, skA, skB, skC]
      have k7 := ka.own hgrow7 rfl HOA.out
      obtain ⟨A7, c7, rfl⟩ := own_slice hown7
      refine tkS (i := 22) (v := (.slice A7 (k + 1) c7)) rfl (Or.inl ⟨by rfl, fun w' hq => by go_simp⟩) k7 ?_
      simp only [Act.put, skA, skB, skC]
      refine wpAnyH_done (by kernel_rfl) ?_ _
      have HN : Hid (AsRel w l m (.slice A7 (k + 1) c7) (.int .i64 ((k + 1 : Nat) : Int)) w7) := Lib.hid ⟨k + 1, rfl, by omega, by rw [HNX.out]; exact OwnSt.app (by rw [hkl0]; exact hown7), k7⟩
      clear hHeld HOD k0 k1 k01 ka hcl hown7 hgrow7 k7 hkl0
      go_wp2_with fail
      go_roundw
      case rel => exact HN.out
      case measure => simp [intOf]; omega
    · have hkk : ¬ (k : Int) < (m : Int) := by omega
      obtain rfl : k = m := by omega
      have hmm := HM.out
      have hall : l.take k = l := List.take_of_length_le (by have := HLEN.out; omega)
      rw [hall] at HOW hkl0
      have HKL := Lib.hid hkl0
      clear how hkl0 hall hkp
      go_wp2_with (at_builtin; refine wpList_append_ownB rfl _ _ 181 rfl w.heap.size 221 j0 _ 4 48 Try.underlying181 HJ0.out HY0.out HY1.out HY2.out rfl (by omega) _ k ((asideW 0 l).map stC).flatten rfl (own_keepB HOW.out ((Kp.refl NoB wq).alloc _) (fun _ _ q => q)) ⟨wq.heap.size, 0, none⟩ 1 1 (stC ⟨2, nmJn, 0, []⟩) rfl rfl (st_cells wq ⟨2, nmJn, 0, []⟩ _) (fun u hu => st_one [⟨2, nmJn, 0, []⟩] u (by simpa using hu)) (by have := HM.out; unfold maxLen; omega) (by have := HM.out; omega) (by have := HKP.out.size; simp; omega) ?_; intro v4 w4 hown4 hgrow4 _; have HO4 := Lib.hid hown4; have hk4 := (HKP.out.alloc _).own hgrow4 rfl HOW.out; have HK4 := Lib.hid hk4; obtain ⟨A4, c4, rfl⟩ := own_slice hown4; clear hown4 hgrow4 hk4)
      go_ret
      refine ⟨_, rfl, ?_, HK4.out⟩
      show OwnSt w4 w.heap.size (.slice A4 (k + 1) c4) (asideW 0 l ++ [⟨2, nmJn, 0, []⟩])
      refine OwnSt.app ?_
      rw [HKL.out]
      exact HO4.out
end Go.Proofs.Ytegcbdfilkecpaa
/- The reference's journal: Make: steps on the reference's disk; condition: fewer than 2^40 files and changes. -/
namespace Go.Proofs.Ytegcbdfilkecpaa
open Go.RowKit

theorem results_cell_tmp2 {fn : Func} {p u v : Tmp} {ty : TypeId} (h : fn.results = #[.cell p ty, .tmp u, .tmp v]) (tmps : Array Value) (P : Program) (w : World) :
    (results fn tmps).run P w =
      ((asAddr (tmps.getD p undef)).run P w).andThen fun a w₁ => ((loadVar ty a).run P w₁).andThen fun x w₂ => .ok (.tuple #[x, tmps.getD u undef, tmps.getD v undef]) w₂ := by
  simp only [results, h]
  simp [Sem.run_bind, Result.andThen]
theorem ret_cell_tmp2 {P : Program} {fn : Func} {p u v : Tmp} {ty : TypeId} (h : fn.results = #[.cell p ty, .tmp u, .tmp v]) (tmps : Array Value) (w : World) (g : Nat) (t : TypeId) (cs : Array Value) (d : TypeDesc)
    (hp : tmps.getD p undef = .pointer (some ⟨g, 0, none⟩)) (hg : Blk w g t cs)
    (hu : P.underlying ty = some d) (hd : (match d with | .struct _ | .array _ _ => true | _ => false) = true) (hi : (P.info? ty).map (·.size) = some cs.size) (x y : Value) (hx : tmps.getD u undef = x) (hy : tmps.getD v undef = y) :
    (results fn tmps).run P w = .ok (.tuple #[.agg cs, x, y]) w := by
  rw [results_cell_tmp2 h, hp]
  simp only [asAddr, Sem.run_pure, Result.andThen_ok, run_loadVar_row w g t ty cs (0, 0) d hg hu hd hi, hx, hy]
structure StOk (s : Stp) : Prop where
  nl : s.nm.size ≤ maxLen
  at_ : -9223372036854775808 ≤ s.at_ ∧ s.at_ ≤ 9223372036854775807
  rng : ∀ y ∈ s.d, 0 ≤ y ∧ y < 256
  dl : s.d.length ≤ maxLen
  k : s.k ≤ 2
def MkRel (w : World) (s0 : Nat) (p : Pl) (l : List Stp) (v7 : Value) (wr : World) : Prop :=
  ∃ (k : Nat) (dk : Rd) (pk : Pl), v7 = .int .i64 (k : Int) ∧ k ≤ l.length ∧ p.runS l = pk.runS (l.drop k) ∧ Blk wr s0 56 (rdC dk pk) ∧ Rf wr dk pk ∧ Blk wr (s0 + 1) 56 rdZ ∧ pk.sm (20000 * (l.length - k) + 30000) ∧ Kp NoB w wr
set_option maxRecDepth 100000 in
set_option maxHeartbeats 1600000 in
theorem make_rok (w : World) (d : Rd) (p : Pl) (A : Option Addr) (n c : Nat) (l : List Stp) (h : Rf w d p) (hl : RowsC w A n 4 (l.map stC)) (hok : ∀ s ∈ l, StOk s) (hn : n ≤ 1099511627776) (hsm : p.sm (20000 * l.length + 30000)) :
    Calls Try.prog 124 #[rdV d p, .slice A n c] w fun e w' => ∃ d' i, e = .returned (.tuple #[rdV d' (p.runS l).1, .int .i64 i, .int .i64 (p.runS l).2]) ∧ Rf w' d' (p.runS l).1 ∧ Kp NoB w w' := by
  have H := Lib.hid h
  have HL := Lib.hid hl
  have hlen : l.length = n := by have := hl.1; simpa using this
  have HLEN := Lib.hid hlen
  have HOK := Lib.hid hok
  have HN := Lib.hid hn
  have HSM := Lib.hid hsm
  have hb0 : Blk ((w.alloc (.cells (rdC d p) 56)).alloc (.cells rdZ 56)) w.heap.size 56 (rdC d p) := (Blk.new w _ _).alloc _
  have hb2 : Blk ((w.alloc (.cells (rdC d p) 56)).alloc (.cells rdZ 56)) (w.heap.size + 1) 56 rdZ := Blk.top (by simp)
  have hk : Kp NoB w ((w.alloc (.cells (rdC d p) 56)).alloc (.cells rdZ 56)) := ((Kp.refl NoB w).alloc _).alloc _
  clear h hl hlen hok hn hsm
  unfold rdV
  go_enter Try.func124, Try.ntmps124
  go_upto_region 1 with fail
  unfold rdC rdZ at hb0 hb2 hk
  generalize (w.alloc (.cells #[.bool true, .bool p.down, .slice d.fA d.fn d.fc, .slice d.pA d.pn d.pc, .int .i64 p.room, .int .i64 p.steps, .int .i64 p.crash, .int .i64 p.starts] 56)).alloc (.cells #[.bool false, .bool false, .slice none 0 0, .slice none 0 0, .int .i64 0, .int .i64 0, .int .i64 0, .int .i64 0] 56) = w2 at hb0 hb2 hk ⊢
  generalize hs0 : w.heap.size = s0 at hb0 hb2 ⊢
  have HS0 := Lib.hid hs0
  have HB0 : Hid (Blk w2 s0 56 (rdC d p)) := Lib.hid hb0
  have HB2 : Hid (Blk w2 (s0 + 1) 56 rdZ) := Lib.hid hb2
  have HK := Lib.hid hk
  clear hs0 hb0 hb2 hk
  go_wp2_with fail
  go_loopw [7, 8] (fun v7 v8 wr => MkRel w s0 p l v7 wr) (fun v _ _ => n - (intOf v).toNat)
  case atStart => exact ⟨0, d, p, rfl, Nat.zero_le _, rfl, HB0.out, H.out.keep HK.out, HB2.out, by rw [Nat.sub_zero]; exact HSM.out, HK.out⟩
  case round =>
    obtain ⟨wq, rfl⟩ : ∃ wq, wq = wr := ⟨_, rfl⟩
    obtain ⟨k, dk, pk, rfl, hk, hru, hb0, hr, hb2, hsm, hkp⟩ := hrel
    clear HB0 HB2 HK
    have HB0 := Lib.hid hb0
    have HB2 := Lib.hid hb2
    have HK := Lib.hid hkp
    have HR := Lib.hid hr
    have HRU := Lib.hid hru
    have HSMK := Lib.hid hsm
    clear hb0 hb2 hkp hr hru hsm
    by_cases hlt : k < n
    · have hkl : k < l.length := by have := HLEN.out; omega
      obtain ⟨st, hst⟩ : ∃ s, l[k] = s := ⟨_, rfl⟩
      have hsk : l[k]? = some st := by rw [List.getElem?_eq_getElem hkl, hst]
      have hso := HOK.out st (List.mem_of_getElem? hsk)
      have HSO := Lib.hid hso
      have hdr : l.drop k = st :: l.drop (k + 1) := by rw [List.drop_eq_getElem_cons hkl, hst]
      have HDR := Lib.hid hdr
      obtain ⟨g, o, rfl, hg, hcc⟩ := HL.out.cell (k := k) (x := stC st) (by rw [List.getElem?_map, hsk]; rfl)
      have hgs : g ≠ s0 := by have := HS0.out; omega
      have hgq : g < wq.heap.size := Nat.lt_of_lt_of_le hg HK.out.size
      have HCC : Hid (∀ V, Kp (OnB s0) wq V → ∀ j v, (stC st)[j]? = some v → V.cell? ⟨g, o + k * 4 + j, none⟩ = some v) := Lib.hid (fun V q j v hj => (q.cell hgq hgs).trans ((HK.out.cell hg (fun z => z)).trans (hcc j v hj)))
      have hkk : (k : Int) < (n : Int) := by omega
      have hn63 : n ≤ 9223372036854775807 := by have := HN.out; omega
      have hsm1 : pk.nf + pk.pd.length + 50000 ≤ 1099511627776 := by
        have h1 := HSMK.out
        unfold Pl.sm at h1
        have : 20000 * (l.length - k) ≥ 20000 := by omega
        omega
      obtain ⟨sk, snm, sat, sd⟩ := st
      have q0 : wq.cell? ⟨g, o + k * 4, none⟩ = some (.int .i64 (sk : Int)) := by have := HCC.out wq (Kp.refl _ wq) 0 _ rfl; rwa [Nat.add_zero] at this
      clear hst hsk hso hdr hcc hkl hg
      by_cases hs0 : sk = 0
      · subst hs0
        go_upto_region 8 with fail
        have hl0 := HB0.out.lt
        refine wp_region_held_drew (S := fun V => Kp (OnB s0) wq V) (by kernel_rfl) (Kp.refl (OnB s0) wq).drew (fun hHeld => ?_)
        have k0 : Kp (OnB s0) wq wq.drew := (Kp.refl (OnB s0) wq).drew
        have kn : Kp NoB wq wq.drew := (Kp.refl NoB wq).drew
        generalize wq.drew = V0 at k0 kn hHeld ⊢
        refine tkS (i := 1) (v := (.slice (some ⟨g, o, none⟩) n c)) rfl (Or.inl ⟨by rfl, fun w' hq => by go_simp⟩) k0 ?_
        simp only [Act.put, skA, skB, skC]
        refine tkS (i := 2) (v := (.int .i64 (k : Int))) rfl (Or.inl ⟨by rfl, fun w' hq => by go_simp⟩) k0 ?_
        simp only [Act.put, skA, skB, skC]
        refine tkS (i := 3) (v := (.pointer (some ⟨g, o + k * 4, none⟩))) rfl (Or.inl ⟨by rfl, fun w' hq => by go_simp⟩) k0 ?_
        simp only [Act.put, skA, skB, skC]
        refine tkS (i := 4) (v := (.pointer (some ⟨g, o + k * 4 + 1, none⟩))) rfl (Or.inl ⟨by rfl, fun w' hq => by go_simp⟩) k0 ?_
        simp only [Act.put, skA, skB, skC]
        refine tkS (i := 5) (v := (.string snm)) rfl (Or.inl ⟨by rfl, fun w' hq => by (have := HCC.out w' hq 1 _ rfl); go_simp⟩) k0 ?_
        simp only [Act.put, skA, skB, skC]
        refine tkS (i := 6) (v := (.slice (some ⟨g, o, none⟩) n c)) rfl (Or.inl ⟨by rfl, fun w' hq => by go_simp⟩) k0 ?_
        simp only [Act.put, skA, skB, skC]
        refine tkS (i := 7) (v := (.int .i64 (k : Int))) rfl (Or.inl ⟨by rfl, fun w' hq => by go_simp⟩) k0 ?_
        simp only [Act.put, skA, skB, skC]
        refine tkS (i := 8) (v := (.pointer (some ⟨g, o + k * 4, none⟩))) rfl (Or.inl ⟨by rfl, fun w' hq => by go_simp⟩) k0 ?_
        simp only [Act.put, skA, skB, skC]
        refine tkS (i := 9) (v := (.pointer (some ⟨g, o + k * 4 + 2, none⟩))) rfl (Or.inl ⟨by rfl, fun w' hq => by go_simp⟩) k0 ?_
        simp only [Act.put, skA, skB, skC]
        refine tkS (i := 10) (v := (.int .i64 sat)) rfl (Or.inl ⟨by rfl, fun w' hq => by (have := HCC.out w' hq 2 _ rfl); go_simp⟩) k0 ?_
        simp only [Act.put, skA, skB, skC]
        refine tkS (i := 11) (v := (.slice (some ⟨g, o, none⟩) n c)) rfl (Or.inl ⟨by rfl, fun w' hq => by go_simp⟩) k0 ?_
        simp only [Act.put, skA, skB, skC]
        refine tkS (i := 12) (v := (.int .i64 (k : Int))) rfl (Or.inl ⟨by rfl, fun w' hq => by go_simp⟩) k0 ?_
        simp only [Act.put, skA, skB, skC]
        refine tkS (i := 13) (v := (.pointer (some ⟨g, o + k * 4, none⟩))) rfl (Or.inl ⟨by rfl, fun w' hq => by go_simp⟩) k0 ?_
        simp only [Act.put, skA, skB, skC]
        refine tkS (i := 14) (v := (.pointer (some ⟨g, o + k * 4 + 3, none⟩))) rfl (Or.inl ⟨by rfl, fun w' hq => by go_simp⟩) k0 ?_
        simp only [Act.put, skA, skB, skC]
        refine tkS (i := 15) (v := (.string (strOf sd))) rfl (Or.inl ⟨by rfl, fun w' hq => by (have := HCC.out w' hq 3 _ rfl); go_simp⟩) k0 ?_
        simp only [Act.put, skA, skB, skC]
        refine wpAnyH_ready (rs := [0]) (by kernel_rfl) (by simp) ?_
        refine AllReadyH.valR (fun W' => V0 = W') rfl (by rfl) (rdV dk pk) _ (by (obtain ⟨c0, c1, c2, c3, c4, c5, c6, c7⟩ := (HB0.out.keep kn (fun q => q)).rdc; unfold rdV; go_simp)) (fun _ e => by rw [← e]; exact k0) rfl ?_ AllReadyH.nil
        rintro _ rfl
        simp only [Act.put, skA, skB, skC]
        obtain ⟨q, hq⟩ : ∃ q, pk.write snm sat sd = q := ⟨_, rfl⟩
        obtain ⟨E, hE⟩ : ∃ E, pk.writeE snm sat sd = E := ⟨_, rfl⟩
        have HQE : Hid (pk.stE ⟨0, snm, sat, sd⟩ = E ∧ pk.stP ⟨0, snm, sat, sd⟩ = q) := Lib.hid ⟨hE, hq⟩
        have HSQ : Hid (q.sm (20000 * (l.length - (k + 1)) + 30000)) := Lib.hid (by rw [← hq]; exact sm_write _ _ _ (sm_mono HSMK.out (by have := HLEN.out; omega)))
        have HCALL : Hid (Calls Try.prog 79 #[rdV dk pk, .string snm, .int .i64 sat, .string (strOf sd)] V0 fun e w' => ∃ d', e = .returned (.tuple #[rdV d' q, .int .i64 E]) ∧ Rf w' d' q ∧ Kp NoB V0 w') := Lib.hid (by
          have hsd := strI_strOf sd HSO.out.rng
          have h9 := write_okR V0 dk pk snm sat (strOf sd) (HR.out.keep kn) HSO.out.nl (by rw [strOf_size]; exact HSO.out.dl) HSO.out.at_ (by omega) (by omega)
          rw [hsd, hq, hE] at h9
          exact h9)
        clear hq hE
        refine wpAnyH_ready (rs := [16]) (by kernel_rfl) (by simp) ?_
        refine AllReadyH.callR (fun y W' => ∃ d', y = .tuple #[rdV d' q, .int .i64 E] ∧ Rf W' d' q ∧ Kp NoB wq W') rfl (by rfl) 79 #[rdV dk pk, .string snm, .int .i64 sat, .string (strOf sd)] (by first | (go_simp; done) | (go_simp; rfl)) (fun _ _ q => (by obtain ⟨d', _, _, q3⟩ := q; exact q3.mono (fun _ _ z => z.elim))) (HCALL.out.mono (by rintro e w' ⟨d', rfl, h2, hk⟩; exact ⟨_, rfl, d', rfl, h2, kn.trans hk (fun _ _ q => q)⟩)) ?_ AllReadyH.nil
        rintro y V1 ⟨d', rfl, h2, k1⟩
        simp only [Act.put, skA, skB, skC]
        have k1' : Kp (OnB s0) wq V1 := k1.mono (fun _ _ z => z.elim)
        refine tkS (i := 17) (v := (.tuple #[rdV d' q, .int .i64 E])) rfl (Or.inl ⟨by rfl, fun w' hq => by go_simp⟩) k1' ?_
        simp only [Act.put, skA, skB, skC]
        refine tkS (i := 18) (v := (rdV d' q)) rfl (Or.inl ⟨by rfl, fun w' hq => by go_simp⟩) k1' ?_
        simp only [Act.put, skA, skB, skC]
        refine tkS (i := 19) (v := (.int .i64 E)) rfl (Or.inl ⟨by rfl, fun w' hq => by go_simp⟩) k1' ?_
        simp only [Act.put, skA, skB, skC]
        refine wpAnyH_ready (rs := [20]) (by kernel_rfl) (by simp) ?_
        refine AllReadyH.skipR rfl (by rfl) (((((((((V1.setCell ⟨s0, 0, none⟩ (.bool true)).setCell ⟨s0, 1, none⟩ (.bool q.down)).setCell ⟨s0, 2, none⟩ (.slice d'.fA d'.fn d'.fc)).setCell ⟨s0, 3, none⟩ (.slice d'.pA d'.pn d'.pc)).setCell ⟨s0, 4, none⟩ (.int .i64 q.room)).setCell ⟨s0, 5, none⟩ (.int .i64 q.steps)).setCell ⟨s0, 6, none⟩ (.int .i64 q.crash)).setCell ⟨s0, 7, none⟩ (.int .i64 q.starts))) (by (obtain ⟨c0, c1, c2, c3, c4, c5, c6, c7⟩ := (HB0.out.keep k1 (fun q => q)).rdc; obtain ⟨z0, z1, z2, z3, z4, z5, z6, z7⟩ := (HB0.out.keep k1 (fun q => q)).z8; unfold rdV; go_simp)) (kp8 k1' (.inr rfl)) ?_ AllReadyH.nil
        refine tkS (i := 21) (v := (.int .i64 E)) rfl (Or.inl ⟨by rfl, fun w' hq => by go_simp⟩) (kp8 k1' (.inr rfl)) ?_
        simp only [Act.put, skA, skB, skC]
        refine wpAnyH_done (by kernel_rfl) ?_ _
        clear k1'
        have hb0' := HB0.out.keep k1 (fun q => q)
        have hV0 : Blk (((((((((V1.setCell ⟨s0, 0, none⟩ (.bool true)).setCell ⟨s0, 1, none⟩ (.bool q.down)).setCell ⟨s0, 2, none⟩ (.slice d'.fA d'.fn d'.fc)).setCell ⟨s0, 3, none⟩ (.slice d'.pA d'.pn d'.pc)).setCell ⟨s0, 4, none⟩ (.int .i64 q.room)).setCell ⟨s0, 5, none⟩ (.int .i64 q.steps)).setCell ⟨s0, 6, none⟩ (.int .i64 q.crash)).setCell ⟨s0, 7, none⟩ (.int .i64 q.starts))) s0 56 (rdC d' q) := blk8 hb0' rfl
        have hq8 : Kp (OnB s0) V1 (((((((((V1.setCell ⟨s0, 0, none⟩ (.bool true)).setCell ⟨s0, 1, none⟩ (.bool q.down)).setCell ⟨s0, 2, none⟩ (.slice d'.fA d'.fn d'.fc)).setCell ⟨s0, 3, none⟩ (.slice d'.pA d'.pn d'.pc)).setCell ⟨s0, 4, none⟩ (.int .i64 q.room)).setCell ⟨s0, 5, none⟩ (.int .i64 q.steps)).setCell ⟨s0, 6, none⟩ (.int .i64 q.crash)).setCell ⟨s0, 7, none⟩ (.int .i64 q.starts))) := kp8 (Kp.refl _ V1) (.inr rfl)
        have hVR : Rf (((((((((V1.setCell ⟨s0, 0, none⟩ (.bool true)).setCell ⟨s0, 1, none⟩ (.bool q.down)).setCell ⟨s0, 2, none⟩ (.slice d'.fA d'.fn d'.fc)).setCell ⟨s0, 3, none⟩ (.slice d'.pA d'.pn d'.pc)).setCell ⟨s0, 4, none⟩ (.int .i64 q.room)).setCell ⟨s0, 5, none⟩ (.int .i64 q.steps)).setCell ⟨s0, 6, none⟩ (.int .i64 q.crash)).setCell ⟨s0, 7, none⟩ (.int .i64 q.starts))) d' q := h2.keepB hq8 hb0' (rdC_str _ _)
        have hV2 : Blk (((((((((V1.setCell ⟨s0, 0, none⟩ (.bool true)).setCell ⟨s0, 1, none⟩ (.bool q.down)).setCell ⟨s0, 2, none⟩ (.slice d'.fA d'.fn d'.fc)).setCell ⟨s0, 3, none⟩ (.slice d'.pA d'.pn d'.pc)).setCell ⟨s0, 4, none⟩ (.int .i64 q.room)).setCell ⟨s0, 5, none⟩ (.int .i64 q.steps)).setCell ⟨s0, 6, none⟩ (.int .i64 q.crash)).setCell ⟨s0, 7, none⟩ (.int .i64 q.starts))) (s0 + 1) 56 rdZ := (HB2.out.keep k1 (fun q => q)).keep hq8 (fun q => by have q' : s0 + 1 = s0 := q; omega)
        have hVK : Kp NoB w (((((((((V1.setCell ⟨s0, 0, none⟩ (.bool true)).setCell ⟨s0, 1, none⟩ (.bool q.down)).setCell ⟨s0, 2, none⟩ (.slice d'.fA d'.fn d'.fc)).setCell ⟨s0, 3, none⟩ (.slice d'.pA d'.pn d'.pc)).setCell ⟨s0, 4, none⟩ (.int .i64 q.room)).setCell ⟨s0, 5, none⟩ (.int .i64 q.steps)).setCell ⟨s0, 6, none⟩ (.int .i64 q.crash)).setCell ⟨s0, 7, none⟩ (.int .i64 q.starts))) := kp8 (HK.out.trans k1 (fun _ _ q => q)) (.inl (by have := HS0.out; omega))
        generalize ((((((((V1.setCell ⟨s0, 0, none⟩ (.bool true)).setCell ⟨s0, 1, none⟩ (.bool q.down)).setCell ⟨s0, 2, none⟩ (.slice d'.fA d'.fn d'.fc)).setCell ⟨s0, 3, none⟩ (.slice d'.pA d'.pn d'.pc)).setCell ⟨s0, 4, none⟩ (.int .i64 q.room)).setCell ⟨s0, 5, none⟩ (.int .i64 q.steps)).setCell ⟨s0, 6, none⟩ (.int .i64 q.crash)).setCell ⟨s0, 7, none⟩ (.int .i64 q.starts)) = V at hV0 hVR hV2 hVK ⊢
        have XB0 := Lib.hid hV0
        have XR := Lib.hid hVR
        have XB2 := Lib.hid hV2
        have XK := Lib.hid hVK
        clear hHeld k0 kn k1 h2 hb0' hV0 hq8 hVR hV2 hVK q0
        have hrun : p.runS l = if E = 0 then q.runS (l.drop (k + 1)) else (q, E) := by rw [HRU.out, HDR.out, runS_cons, HQE.out.1, HQE.out.2]
        by_cases hE : E = 0
        · subst hE
          rw [if_pos rfl] at hrun
          have HN9 : Hid (MkRel w s0 p l (.int .i64 ((k + 1 : Nat) : Int)) V) := Lib.hid ⟨k + 1, d', q, rfl, by have := HLEN.out; omega, hrun, XB0.out, XR.out, XB2.out, HSQ.out, XK.out⟩
          clear hrun
          go_wp2_with fail
          go_roundw
          case rel => exact HN9.out
          case measure => simp [intOf]; omega
        · rw [if_neg hE] at hrun
          have HRUN := Lib.hid hrun
          have hE2 : (E != 0) = true := by simpa using hE
          have hE3 : (E == 0) = false := by simpa using hE
          clear hrun hE
          obtain ⟨c0, c1, c2, c3, c4, c5, c6, c7⟩ := XB0.out.rdc
          obtain ⟨y0, y1, y2, y3, y4, y5, y6, y7⟩ := XB2.out.c8
          obtain ⟨z0, z1, z2, z3, z4, z5, z6, z7⟩ := XB2.out.z8
          have hl0 := XB0.out.lt
          have hl2 := XB2.out.lt
          go_wp2_with fail
          have kz9 : w.heap.size ≤ s0 + 1 := by have := HS0.out; omega
          have hRX : Rf (((((((((V.setCell ⟨(s0 + 1), 0, none⟩ (.bool true)).setCell ⟨(s0 + 1), 1, none⟩ (.bool q.down)).setCell ⟨(s0 + 1), 2, none⟩ (.slice d'.fA d'.fn d'.fc)).setCell ⟨(s0 + 1), 3, none⟩ (.slice d'.pA d'.pn d'.pc)).setCell ⟨(s0 + 1), 4, none⟩ (.int .i64 q.room)).setCell ⟨(s0 + 1), 5, none⟩ (.int .i64 q.steps)).setCell ⟨(s0 + 1), 6, none⟩ (.int .i64 q.crash)).setCell ⟨(s0 + 1), 7, none⟩ (.int .i64 q.starts))) d' q := XR.out.keepB (kp8 (Kp.refl _ V) (.inr rfl)) XB2.out rdZ_str
          first
            | exact bodyPost_ret (ret_cell_tmp2 rfl _ _ _ _ _ _ rfl (blk8 XB2.out rfl) Try.underlying56 rfl (by exact infoRd) _ _ rfl rfl) rfl ⟨d', _, by rw [HRUN.out]; rfl, by rw [HRUN.out]; exact hRX, kp8 XK.out (.inl kz9)⟩
            | exact bodyPost_ret (ret_cell_tmp2 rfl _ _ _ _ _ _ rfl (blk8 XB2.out rfl) Try.underlying56 rfl (by exact infoRd) _ _ rfl rfl) rfl ⟨d', ⟨_, by rw [HRUN.out]; rfl⟩, by rw [HRUN.out]; exact hRX, kp8 XK.out (.inl kz9)⟩
      · rcases (show sk = 1 ∨ sk = 2 by have h9 := HSO.out.k; have h8 : sk ≤ 2 := h9; omega) with hs1 | hs1
        · subst hs1
          clear hs0
          go_upto_region 10 with fail
          have hl0 := HB0.out.lt
          refine wp_region_held_drew (S := fun V => Kp (OnB s0) wq V) (by kernel_rfl) (Kp.refl (OnB s0) wq).drew (fun hHeld => ?_)
          have k0 : Kp (OnB s0) wq wq.drew := (Kp.refl (OnB s0) wq).drew
          have kn : Kp NoB wq wq.drew := (Kp.refl NoB wq).drew
          generalize wq.drew = V0 at k0 kn hHeld ⊢
          refine tkS (i := 1) (v := (.slice (some ⟨g, o, none⟩) n c)) rfl (Or.inl ⟨by rfl, fun w' hq => by go_simp⟩) k0 ?_
          simp only [Act.put, skA, skB, skC]
          refine tkS (i := 2) (v := (.int .i64 (k : Int))) rfl (Or.inl ⟨by rfl, fun w' hq => by go_simp⟩) k0 ?_
          simp only [Act.put, skA, skB, skC]
          refine tkS (i := 3) (v := (.pointer (some ⟨g, o + k * 4, none⟩))) rfl (Or.inl ⟨by rfl, fun w' hq => by go_simp⟩) k0 ?_
          simp only [Act.put, skA, skB, skC]
          refine tkS (i := 4) (v := (.pointer (some ⟨g, o + k * 4 + 1, none⟩))) rfl (Or.inl ⟨by rfl, fun w' hq => by go_simp⟩) k0 ?_
          simp only [Act.put, skA, skB, skC]
          refine tkS (i := 5) (v := (.string snm)) rfl (Or.inl ⟨by rfl, fun w' hq => by (have := HCC.out w' hq 1 _ rfl); go_simp⟩) k0 ?_
          simp only [Act.put, skA, skB, skC]
          refine tkS (i := 6) (v := (.slice (some ⟨g, o, none⟩) n c)) rfl (Or.inl ⟨by rfl, fun w' hq => by go_simp⟩) k0 ?_
          simp only [Act.put, skA, skB, skC]
          refine tkS (i := 7) (v := (.int .i64 (k : Int))) rfl (Or.inl ⟨by rfl, fun w' hq => by go_simp⟩) k0 ?_
          simp only [Act.put, skA, skB, skC]
          refine tkS (i := 8) (v := (.pointer (some ⟨g, o + k * 4, none⟩))) rfl (Or.inl ⟨by rfl, fun w' hq => by go_simp⟩) k0 ?_
          simp only [Act.put, skA, skB, skC]
          refine tkS (i := 9) (v := (.pointer (some ⟨g, o + k * 4 + 2, none⟩))) rfl (Or.inl ⟨by rfl, fun w' hq => by go_simp⟩) k0 ?_
          simp only [Act.put, skA, skB, skC]
          refine tkS (i := 10) (v := (.int .i64 sat)) rfl (Or.inl ⟨by rfl, fun w' hq => by (have := HCC.out w' hq 2 _ rfl); go_simp⟩) k0 ?_
          simp only [Act.put, skA, skB, skC]
          refine wpAnyH_ready (rs := [0]) (by kernel_rfl) (by simp) ?_
          refine AllReadyH.valR (fun W' => V0 = W') rfl (by rfl) (rdV dk pk) _ (by (obtain ⟨c0, c1, c2, c3, c4, c5, c6, c7⟩ := (HB0.out.keep kn (fun q => q)).rdc; unfold rdV; go_simp)) (fun _ e => by rw [← e]; exact k0) rfl ?_ AllReadyH.nil
          rintro _ rfl
          simp only [Act.put, skA, skB, skC]
          obtain ⟨q, hq⟩ : ∃ q, pk.trunc snm sat = q := ⟨_, rfl⟩
          obtain ⟨E, hE⟩ : ∃ E, pk.truncE snm sat = E := ⟨_, rfl⟩
          have HQE : Hid (pk.stE ⟨1, snm, sat, sd⟩ = E ∧ pk.stP ⟨1, snm, sat, sd⟩ = q) := Lib.hid ⟨hE, hq⟩
          have HSQ : Hid (q.sm (20000 * (l.length - (k + 1)) + 30000)) := Lib.hid (by rw [← hq]; exact sm_trunc _ _ (sm_mono HSMK.out (by have := HLEN.out; omega)))
          have HCALL : Hid (Calls Try.prog 87 #[rdV dk pk, .string snm, .int .i64 sat] V0 fun e w' => ∃ d', e = .returned (.tuple #[rdV d' q, .int .i64 E]) ∧ Rf w' d' q ∧ Kp NoB V0 w') := Lib.hid (by
            have h9 := trunc_okR V0 dk pk snm sat (HR.out.keep kn) HSO.out.nl HSO.out.at_ (by omega) (by omega)
            rw [hq, hE] at h9
            exact h9)
          clear hq hE
          refine wpAnyH_ready (rs := [11]) (by kernel_rfl) (by simp) ?_
          refine AllReadyH.callR (fun y W' => ∃ d', y = .tuple #[rdV d' q, .int .i64 E] ∧ Rf W' d' q ∧ Kp NoB wq W') rfl (by rfl) 87 #[rdV dk pk, .string snm, .int .i64 sat] (by first | (go_simp; done) | (go_simp; rfl)) (fun _ _ q => (by obtain ⟨d', _, _, q3⟩ := q; exact q3.mono (fun _ _ z => z.elim))) (HCALL.out.mono (by rintro e w' ⟨d', rfl, h2, hk⟩; exact ⟨_, rfl, d', rfl, h2, kn.trans hk (fun _ _ q => q)⟩)) ?_ AllReadyH.nil
          rintro y V1 ⟨d', rfl, h2, k1⟩
          simp only [Act.put, skA, skB, skC]
          have k1' : Kp (OnB s0) wq V1 := k1.mono (fun _ _ z => z.elim)
          refine tkS (i := 12) (v := (.tuple #[rdV d' q, .int .i64 E])) rfl (Or.inl ⟨by rfl, fun w' hq => by go_simp⟩) k1' ?_
          simp only [Act.put, skA, skB, skC]
          refine tkS (i := 13) (v := (rdV d' q)) rfl (Or.inl ⟨by rfl, fun w' hq => by go_simp⟩) k1' ?_
          simp only [Act.put, skA, skB, skC]
          refine tkS (i := 14) (v := (.int .i64 E)) rfl (Or.inl ⟨by rfl, fun w' hq => by go_simp⟩) k1' ?_
          simp only [Act.put, skA, skB, skC]
          refine wpAnyH_ready (rs := [15]) (by kernel_rfl) (by simp) ?_
          refine AllReadyH.skipR rfl (by rfl) (((((((((V1.setCell ⟨s0, 0, none⟩ (.bool true)).setCell ⟨s0, 1, none⟩ (.bool q.down)).setCell ⟨s0, 2, none⟩ (.slice d'.fA d'.fn d'.fc)).setCell ⟨s0, 3, none⟩ (.slice d'.pA d'.pn d'.pc)).setCell ⟨s0, 4, none⟩ (.int .i64 q.room)).setCell ⟨s0, 5, none⟩ (.int .i64 q.steps)).setCell ⟨s0, 6, none⟩ (.int .i64 q.crash)).setCell ⟨s0, 7, none⟩ (.int .i64 q.starts))) (by (obtain ⟨c0, c1, c2, c3, c4, c5, c6, c7⟩ := (HB0.out.keep k1 (fun q => q)).rdc; obtain ⟨z0, z1, z2, z3, z4, z5, z6, z7⟩ := (HB0.out.keep k1 (fun q => q)).z8; unfold rdV; go_simp)) (kp8 k1' (.inr rfl)) ?_ AllReadyH.nil
          refine tkS (i := 16) (v := (.int .i64 E)) rfl (Or.inl ⟨by rfl, fun w' hq => by go_simp⟩) (kp8 k1' (.inr rfl)) ?_
          simp only [Act.put, skA, skB, skC]
          refine wpAnyH_done (by kernel_rfl) ?_ _
          clear k1'
          have hb0' := HB0.out.keep k1 (fun q => q)
          have hV0 : Blk (((((((((V1.setCell ⟨s0, 0, none⟩ (.bool true)).setCell ⟨s0, 1, none⟩ (.bool q.down)).setCell ⟨s0, 2, none⟩ (.slice d'.fA d'.fn d'.fc)).setCell ⟨s0, 3, none⟩ (.slice d'.pA d'.pn d'.pc)).setCell ⟨s0, 4, none⟩ (.int .i64 q.room)).setCell ⟨s0, 5, none⟩ (.int .i64 q.steps)).setCell ⟨s0, 6, none⟩ (.int .i64 q.crash)).setCell ⟨s0, 7, none⟩ (.int .i64 q.starts))) s0 56 (rdC d' q) := blk8 hb0' rfl
          have hq8 : Kp (OnB s0) V1 (((((((((V1.setCell ⟨s0, 0, none⟩ (.bool true)).setCell ⟨s0, 1, none⟩ (.bool q.down)).setCell ⟨s0, 2, none⟩ (.slice d'.fA d'.fn d'.fc)).setCell ⟨s0, 3, none⟩ (.slice d'.pA d'.pn d'.pc)).setCell ⟨s0, 4, none⟩ (.int .i64 q.room)).setCell ⟨s0, 5, none⟩ (.int .i64 q.steps)).setCell ⟨s0, 6, none⟩ (.int .i64 q.crash)).setCell ⟨s0, 7, none⟩ (.int .i64 q.starts))) := kp8 (Kp.refl _ V1) (.inr rfl)
          have hVR : Rf (((((((((V1.setCell ⟨s0, 0, none⟩ (.bool true)).setCell ⟨s0, 1, none⟩ (.bool q.down)).setCell ⟨s0, 2, none⟩ (.slice d'.fA d'.fn d'.fc)).setCell ⟨s0, 3, none⟩ (.slice d'.pA d'.pn d'.pc)).setCell ⟨s0, 4, none⟩ (.int .i64 q.room)).setCell ⟨s0, 5, none⟩ (.int .i64 q.steps)).setCell ⟨s0, 6, none⟩ (.int .i64 q.crash)).setCell ⟨s0, 7, none⟩ (.int .i64 q.starts))) d' q := h2.keepB hq8 hb0' (rdC_str _ _)
          have hV2 : Blk (((((((((V1.setCell ⟨s0, 0, none⟩ (.bool true)).setCell ⟨s0, 1, none⟩ (.bool q.down)).setCell ⟨s0, 2, none⟩ (.slice d'.fA d'.fn d'.fc)).setCell ⟨s0, 3, none⟩ (.slice d'.pA d'.pn d'.pc)).setCell ⟨s0, 4, none⟩ (.int .i64 q.room)).setCell ⟨s0, 5, none⟩ (.int .i64 q.steps)).setCell ⟨s0, 6, none⟩ (.int .i64 q.crash)).setCell ⟨s0, 7, none⟩ (.int .i64 q.starts))) (s0 + 1) 56 rdZ := (HB2.out.keep k1 (fun q => q)).keep hq8 (fun q => by have q' : s0 + 1 = s0 := q; omega)
          have hVK : Kp NoB w (((((((((V1.setCell ⟨s0, 0, none⟩ (.bool true)).setCell ⟨s0, 1, none⟩ (.bool q.down)).setCell ⟨s0, 2, none⟩ (.slice d'.fA d'.fn d'.fc)).setCell ⟨s0, 3, none⟩ (.slice d'.pA d'.pn d'.pc)).setCell ⟨s0, 4, none⟩ (.int .i64 q.room)).setCell ⟨s0, 5, none⟩ (.int .i64 q.steps)).setCell ⟨s0, 6, none⟩ (.int .i64 q.crash)).setCell ⟨s0, 7, none⟩ (.int .i64 q.starts))) := kp8 (HK.out.trans k1 (fun _ _ q => q)) (.inl (by have := HS0.out; omega))
          generalize ((((((((V1.setCell ⟨s0, 0, none⟩ (.bool true)).setCell ⟨s0, 1, none⟩ (.bool q.down)).setCell ⟨s0, 2, none⟩ (.slice d'.fA d'.fn d'.fc)).setCell ⟨s0, 3, none⟩ (.slice d'.pA d'.pn d'.pc)).setCell ⟨s0, 4, none⟩ (.int .i64 q.room)).setCell ⟨s0, 5, none⟩ (.int .i64 q.steps)).setCell ⟨s0, 6, none⟩ (.int .i64 q.crash)).setCell ⟨s0, 7, none⟩ (.int .i64 q.starts)) = V at hV0 hVR hV2 hVK ⊢
          have XB0 := Lib.hid hV0
          have XR := Lib.hid hVR
          have XB2 := Lib.hid hV2
          have XK := Lib.hid hVK
          clear hHeld k0 kn k1 h2 hb0' hV0 hq8 hVR hV2 hVK q0
          have hrun : p.runS l = if E = 0 then q.runS (l.drop (k + 1)) else (q, E) := by rw [HRU.out, HDR.out, runS_cons, HQE.out.1, HQE.out.2]
          by_cases hE : E = 0
          · subst hE
            rw [if_pos rfl] at hrun
            have HN9 : Hid (MkRel w s0 p l (.int .i64 ((k + 1 : Nat) : Int)) V) := Lib.hid ⟨k + 1, d', q, rfl, by have := HLEN.out; omega, hrun, XB0.out, XR.out, XB2.out, HSQ.out, XK.out⟩
            clear hrun
            go_wp2_with fail
            go_roundw
            case rel => exact HN9.out
            case measure => simp [intOf]; omega
          · rw [if_neg hE] at hrun
            have HRUN := Lib.hid hrun
            have hE2 : (E != 0) = true := by simpa using hE
            have hE3 : (E == 0) = false := by simpa using hE
            clear hrun hE
            obtain ⟨c0, c1, c2, c3, c4, c5, c6, c7⟩ := XB0.out.rdc
            obtain ⟨y0, y1, y2, y3, y4, y5, y6, y7⟩ := XB2.out.c8
            obtain ⟨z0, z1, z2, z3, z4, z5, z6, z7⟩ := XB2.out.z8
            have hl0 := XB0.out.lt
            have hl2 := XB2.out.lt
            go_wp2_with fail
            have kz9 : w.heap.size ≤ s0 + 1 := by have := HS0.out; omega
            have hRX : Rf (((((((((V.setCell ⟨(s0 + 1), 0, none⟩ (.bool true)).setCell ⟨(s0 + 1), 1, none⟩ (.bool q.down)).setCell ⟨(s0 + 1), 2, none⟩ (.slice d'.fA d'.fn d'.fc)).setCell ⟨(s0 + 1), 3, none⟩ (.slice d'.pA d'.pn d'.pc)).setCell ⟨(s0 + 1), 4, none⟩ (.int .i64 q.room)).setCell ⟨(s0 + 1), 5, none⟩ (.int .i64 q.steps)).setCell ⟨(s0 + 1), 6, none⟩ (.int .i64 q.crash)).setCell ⟨(s0 + 1), 7, none⟩ (.int .i64 q.starts))) d' q := XR.out.keepB (kp8 (Kp.refl _ V) (.inr rfl)) XB2.out rdZ_str
            first
              | exact bodyPost_ret (ret_cell_tmp2 rfl _ _ _ _ _ _ rfl (blk8 XB2.out rfl) Try.underlying56 rfl (by exact infoRd) _ _ rfl rfl) rfl ⟨d', _, by rw [HRUN.out]; rfl, by rw [HRUN.out]; exact hRX, kp8 XK.out (.inl kz9)⟩
              | exact bodyPost_ret (ret_cell_tmp2 rfl _ _ _ _ _ _ rfl (blk8 XB2.out rfl) Try.underlying56 rfl (by exact infoRd) _ _ rfl rfl) rfl ⟨d', ⟨_, by rw [HRUN.out]; rfl⟩, by rw [HRUN.out]; exact hRX, kp8 XK.out (.inl kz9)⟩
        · subst hs1
          clear hs0
          go_upto_region 6 with fail
          have hl0 := HB0.out.lt
          refine wp_region_held_drew (S := fun V => Kp (OnB s0) wq V) (by kernel_rfl) (Kp.refl (OnB s0) wq).drew (fun hHeld => ?_)
          have k0 : Kp (OnB s0) wq wq.drew := (Kp.refl (OnB s0) wq).drew
          have kn : Kp NoB wq wq.drew := (Kp.refl NoB wq).drew
          generalize wq.drew = V0 at k0 kn hHeld ⊢
          refine tkS (i := 1) (v := (.slice (some ⟨g, o, none⟩) n c)) rfl (Or.inl ⟨by rfl, fun w' hq => by go_simp⟩) k0 ?_
          simp only [Act.put, skA, skB, skC]
          refine tkS (i := 2) (v := (.int .i64 (k : Int))) rfl (Or.inl ⟨by rfl, fun w' hq => by go_simp⟩) k0 ?_
          simp only [Act.put, skA, skB, skC]
          refine tkS (i := 3) (v := (.pointer (some ⟨g, o + k * 4, none⟩))) rfl (Or.inl ⟨by rfl, fun w' hq => by go_simp⟩) k0 ?_
          simp only [Act.put, skA, skB, skC]
          refine tkS (i := 4) (v := (.pointer (some ⟨g, o + k * 4 + 1, none⟩))) rfl (Or.inl ⟨by rfl, fun w' hq => by go_simp⟩) k0 ?_
          simp only [Act.put, skA, skB, skC]
          refine tkS (i := 5) (v := (.string snm)) rfl (Or.inl ⟨by rfl, fun w' hq => by (have := HCC.out w' hq 1 _ rfl); go_simp⟩) k0 ?_
          simp only [Act.put, skA, skB, skC]
          refine wpAnyH_ready (rs := [0]) (by kernel_rfl) (by simp) ?_
          refine AllReadyH.valR (fun W' => V0 = W') rfl (by rfl) (rdV dk pk) _ (by (obtain ⟨c0, c1, c2, c3, c4, c5, c6, c7⟩ := (HB0.out.keep kn (fun q => q)).rdc; unfold rdV; go_simp)) (fun _ e => by rw [← e]; exact k0) rfl ?_ AllReadyH.nil
          rintro _ rfl
          simp only [Act.put, skA, skB, skC]
          obtain ⟨q, hq⟩ : ∃ q, pk.sync snm = q := ⟨_, rfl⟩
          obtain ⟨E, hE⟩ : ∃ E, pk.syncE = E := ⟨_, rfl⟩
          have HQE : Hid (pk.stE ⟨2, snm, sat, sd⟩ = E ∧ pk.stP ⟨2, snm, sat, sd⟩ = q) := Lib.hid ⟨hE, hq⟩
          have HSQ : Hid (q.sm (20000 * (l.length - (k + 1)) + 30000)) := Lib.hid (by rw [← hq]; exact sm_sync _ (sm_mono HSMK.out (by have := HLEN.out; omega)))
          have HCALL : Hid (Calls Try.prog 89 #[rdV dk pk, .string snm] V0 fun e w' => ∃ d', e = .returned (.tuple #[rdV d' q, .int .i64 E]) ∧ Rf w' d' q ∧ Kp NoB V0 w') := Lib.hid (by
            have h9 := sync_okR V0 dk pk snm (HR.out.keep kn) HSO.out.nl (by omega) (by omega)
            rw [hq, hE] at h9
            exact h9)
          clear hq hE
          refine wpAnyH_ready (rs := [6]) (by kernel_rfl) (by simp) ?_
          refine AllReadyH.callR (fun y W' => ∃ d', y = .tuple #[rdV d' q, .int .i64 E] ∧ Rf W' d' q ∧ Kp NoB wq W') rfl (by rfl) 89 #[rdV dk pk, .string snm] (by first | (go_simp; done) | (go_simp; rfl)) (fun _ _ q => (by obtain ⟨d', _, _, q3⟩ := q; exact q3.mono (fun _ _ z => z.elim))) (HCALL.out.mono (by rintro e w' ⟨d', rfl, h2, hk⟩; exact ⟨_, rfl, d', rfl, h2, kn.trans hk (fun _ _ q => q)⟩)) ?_ AllReadyH.nil
          rintro y V1 ⟨d', rfl, h2, k1⟩
          simp only [Act.put, skA, skB, skC]
          have k1' : Kp (OnB s0) wq V1 := k1.mono (fun _ _ z => z.elim)
          refine tkS (i := 7) (v := (.tuple #[rdV d' q, .int .i64 E])) rfl (Or.inl ⟨by rfl, fun w' hq => by go_simp⟩) k1' ?_
          simp only [Act.put, skA, skB, skC]
          refine tkS (i := 8) (v := (rdV d' q)) rfl (Or.inl ⟨by rfl, fun w' hq => by go_simp⟩) k1' ?_
          simp only [Act.put, skA, skB, skC]
          refine tkS (i := 9) (v := (.int .i64 E)) rfl (Or.inl ⟨by rfl, fun w' hq => by go_simp⟩) k1' ?_
          simp only [Act.put, skA, skB, skC]
          refine wpAnyH_ready (rs := [10]) (by kernel_rfl) (by simp) ?_
          refine AllReadyH.skipR rfl (by rfl) (((((((((V1.setCell ⟨s0, 0, none⟩ (.bool true)).setCell ⟨s0, 1, none⟩ (.bool q.down)).setCell ⟨s0, 2, none⟩ (.slice d'.fA d'.fn d'.fc)).setCell ⟨s0, 3, none⟩ (.slice d'.pA d'.pn d'.pc)).setCell ⟨s0, 4, none⟩ (.int .i64 q.room)).setCell ⟨s0, 5, none⟩ (.int .i64 q.steps)).setCell ⟨s0, 6, none⟩ (.int .i64 q.crash)).setCell ⟨s0, 7, none⟩ (.int .i64 q.starts))) (by (obtain ⟨c0, c1, c2, c3, c4, c5, c6, c7⟩ := (HB0.out.keep k1 (fun q => q)).rdc; obtain ⟨z0, z1, z2, z3, z4, z5, z6, z7⟩ := (HB0.out.keep k1 (fun q => q)).z8; unfold rdV; go_simp)) (kp8 k1' (.inr rfl)) ?_ AllReadyH.nil
          refine tkS (i := 11) (v := (.int .i64 E)) rfl (Or.inl ⟨by rfl, fun w' hq => by go_simp⟩) (kp8 k1' (.inr rfl)) ?_
          simp only [Act.put, skA, skB, skC]
          refine wpAnyH_done (by kernel_rfl) ?_ _
          clear k1'
          have hb0' := HB0.out.keep k1 (fun q => q)
          have hV0 : Blk (((((((((V1.setCell ⟨s0, 0, none⟩ (.bool true)).setCell ⟨s0, 1, none⟩ (.bool q.down)).setCell ⟨s0, 2, none⟩ (.slice d'.fA d'.fn d'.fc)).setCell ⟨s0, 3, none⟩ (.slice d'.pA d'.pn d'.pc)).setCell ⟨s0, 4, none⟩ (.int .i64 q.room)).setCell ⟨s0, 5, none⟩ (.int .i64 q.steps)).setCell ⟨s0, 6, none⟩ (.int .i64 q.crash)).setCell ⟨s0, 7, none⟩ (.int .i64 q.starts))) s0 56 (rdC d' q) := blk8 hb0' rfl
          have hq8 : Kp (OnB s0) V1 (((((((((V1.setCell ⟨s0, 0, none⟩ (.bool true)).setCell ⟨s0, 1, none⟩ (.bool q.down)).setCell ⟨s0, 2, none⟩ (.slice d'.fA d'.fn d'.fc)).setCell ⟨s0, 3, none⟩ (.slice d'.pA d'.pn d'.pc)).setCell ⟨s0, 4, none⟩ (.int .i64 q.room)).setCell ⟨s0, 5, none⟩ (.int .i64 q.steps)).setCell ⟨s0, 6, none⟩ (.int .i64 q.crash)).setCell ⟨s0, 7, none⟩ (.int .i64 q.starts))) := kp8 (Kp.refl _ V1) (.inr rfl)
          have hVR : Rf (((((((((V1.setCell ⟨s0, 0, none⟩ (.bool true)).setCell ⟨s0, 1, none⟩ (.bool q.down)).setCell ⟨s0, 2, none⟩ (.slice d'.fA d'.fn d'.fc)).setCell ⟨s0, 3, none⟩ (.slice d'.pA d'.pn d'.pc)).setCell ⟨s0, 4, none⟩ (.int .i64 q.room)).setCell ⟨s0, 5, none⟩ (.int .i64 q.steps)).setCell ⟨s0, 6, none⟩ (.int .i64 q.crash)).setCell ⟨s0, 7, none⟩ (.int .i64 q.starts))) d' q := h2.keepB hq8 hb0' (rdC_str _ _)
          have hV2 : Blk (((((((((V1.setCell ⟨s0, 0, none⟩ (.bool true)).setCell ⟨s0, 1, none⟩ (.bool q.down)).setCell ⟨s0, 2, none⟩ (.slice d'.fA d'.fn d'.fc)).setCell ⟨s0, 3, none⟩ (.slice d'.pA d'.pn d'.pc)).setCell ⟨s0, 4, none⟩ (.int .i64 q.room)).setCell ⟨s0, 5, none⟩ (.int .i64 q.steps)).setCell ⟨s0, 6, none⟩ (.int .i64 q.crash)).setCell ⟨s0, 7, none⟩ (.int .i64 q.starts))) (s0 + 1) 56 rdZ := (HB2.out.keep k1 (fun q => q)).keep hq8 (fun q => by have q' : s0 + 1 = s0 := q; omega)
          have hVK : Kp NoB w (((((((((V1.setCell ⟨s0, 0, none⟩ (.bool true)).setCell ⟨s0, 1, none⟩ (.bool q.down)).setCell ⟨s0, 2, none⟩ (.slice d'.fA d'.fn d'.fc)).setCell ⟨s0, 3, none⟩ (.slice d'.pA d'.pn d'.pc)).setCell ⟨s0, 4, none⟩ (.int .i64 q.room)).setCell ⟨s0, 5, none⟩ (.int .i64 q.steps)).setCell ⟨s0, 6, none⟩ (.int .i64 q.crash)).setCell ⟨s0, 7, none⟩ (.int .i64 q.starts))) := kp8 (HK.out.trans k1 (fun _ _ q => q)) (.inl (by have := HS0.out; omega))
          generalize ((((((((V1.setCell ⟨s0, 0, none⟩ (.bool true)).setCell ⟨s0, 1, none⟩ (.bool q.down)).setCell ⟨s0, 2, none⟩ (.slice d'.fA d'.fn d'.fc)).setCell ⟨s0, 3, none⟩ (.slice d'.pA d'.pn d'.pc)).setCell ⟨s0, 4, none⟩ (.int .i64 q.room)).setCell ⟨s0, 5, none⟩ (.int .i64 q.steps)).setCell ⟨s0, 6, none⟩ (.int .i64 q.crash)).setCell ⟨s0, 7, none⟩ (.int .i64 q.starts)) = V at hV0 hVR hV2 hVK ⊢
          have XB0 := Lib.hid hV0
          have XR := Lib.hid hVR
          have XB2 := Lib.hid hV2
          have XK := Lib.hid hVK
          clear hHeld k0 kn k1 h2 hb0' hV0 hq8 hVR hV2 hVK q0
          have hrun : p.runS l = if E = 0 then q.runS (l.drop (k + 1)) else (q, E) := by rw [HRU.out, HDR.out, runS_cons, HQE.out.1, HQE.out.2]
          by_cases hE : E = 0
          · subst hE
            rw [if_pos rfl] at hrun
            have HN9 : Hid (MkRel w s0 p l (.int .i64 ((k + 1 : Nat) : Int)) V) := Lib.hid ⟨k + 1, d', q, rfl, by have := HLEN.out; omega, hrun, XB0.out, XR.out, XB2.out, HSQ.out, XK.out⟩
            clear hrun
            go_wp2_with fail
            go_roundw
            case rel => exact HN9.out
            case measure => simp [intOf]; omega
          · rw [if_neg hE] at hrun
            have HRUN := Lib.hid hrun
            have hE2 : (E != 0) = true := by simpa using hE
            have hE3 : (E == 0) = false := by simpa using hE
            clear hrun hE
            obtain ⟨c0, c1, c2, c3, c4, c5, c6, c7⟩ := XB0.out.rdc
            obtain ⟨y0, y1, y2, y3, y4, y5, y6, y7⟩ := XB2.out.c8
            obtain ⟨z0, z1, z2, z3, z4, z5, z6, z7⟩ := XB2.out.z8
            have hl0 := XB0.out.lt
            have hl2 := XB2.out.lt
            go_wp2_with fail
            have kz9 : w.heap.size ≤ s0 + 1 := by have := HS0.out; omega
            have hRX : Rf (((((((((V.setCell ⟨(s0 + 1), 0, none⟩ (.bool true)).setCell ⟨(s0 + 1), 1, none⟩ (.bool q.down)).setCell ⟨(s0 + 1), 2, none⟩ (.slice d'.fA d'.fn d'.fc)).setCell ⟨(s0 + 1), 3, none⟩ (.slice d'.pA d'.pn d'.pc)).setCell ⟨(s0 + 1), 4, none⟩ (.int .i64 q.room)).setCell ⟨(s0 + 1), 5, none⟩ (.int .i64 q.steps)).setCell ⟨(s0 + 1), 6, none⟩ (.int .i64 q.crash)).setCell ⟨(s0 + 1), 7, none⟩ (.int .i64 q.starts))) d' q := XR.out.keepB (kp8 (Kp.refl _ V) (.inr rfl)) XB2.out rdZ_str
            first
              | exact bodyPost_ret (ret_cell_tmp2 rfl _ _ _ _ _ _ rfl (blk8 XB2.out rfl) Try.underlying56 rfl (by exact infoRd) _ _ rfl rfl) rfl ⟨d', _, by rw [HRUN.out]; rfl, by rw [HRUN.out]; exact hRX, kp8 XK.out (.inl kz9)⟩
              | exact bodyPost_ret (ret_cell_tmp2 rfl _ _ _ _ _ _ rfl (blk8 XB2.out rfl) Try.underlying56 rfl (by exact infoRd) _ _ rfl rfl) rfl ⟨d', ⟨_, by rw [HRUN.out]; rfl⟩, by rw [HRUN.out]; exact hRX, kp8 XK.out (.inl kz9)⟩
    · have hkk : ¬ (k : Int) < (n : Int) := by omega
      have hrun : p.runS l = (pk, 0) := by rw [HRU.out, List.drop_eq_nil_of_le (by have := HLEN.out; omega), runS_nil]
      have HRUN := Lib.hid hrun
      clear hrun
      have hl0 := HB0.out.lt
      have hl2 := HB2.out.lt
      obtain ⟨c0, c1, c2, c3, c4, c5, c6, c7⟩ := HB0.out.rdc
      obtain ⟨y0, y1, y2, y3, y4, y5, y6, y7⟩ := HB2.out.c8
      obtain ⟨z0, z1, z2, z3, z4, z5, z6, z7⟩ := HB2.out.z8
      go_wp2_with fail
      have kz9 : w.heap.size ≤ s0 + 1 := by have := HS0.out; omega
      have hRX : Rf (((((((((wq.setCell ⟨(s0 + 1), 0, none⟩ (.bool true)).setCell ⟨(s0 + 1), 1, none⟩ (.bool pk.down)).setCell ⟨(s0 + 1), 2, none⟩ (.slice dk.fA dk.fn dk.fc)).setCell ⟨(s0 + 1), 3, none⟩ (.slice dk.pA dk.pn dk.pc)).setCell ⟨(s0 + 1), 4, none⟩ (.int .i64 pk.room)).setCell ⟨(s0 + 1), 5, none⟩ (.int .i64 pk.steps)).setCell ⟨(s0 + 1), 6, none⟩ (.int .i64 pk.crash)).setCell ⟨(s0 + 1), 7, none⟩ (.int .i64 pk.starts))) dk pk := HR.out.keepB (kp8 (Kp.refl _ wq) (.inr rfl)) HB2.out rdZ_str
      first
        | exact bodyPost_ret (ret_cell_tmp2 rfl _ _ _ _ _ _ rfl (blk8 HB2.out rfl) Try.underlying56 rfl (by exact infoRd) _ _ rfl rfl) rfl ⟨dk, _, by rw [HRUN.out]; rfl, by rw [HRUN.out]; exact hRX, kp8 HK.out (.inl kz9)⟩
        | exact bodyPost_ret (ret_cell_tmp2 rfl _ _ _ _ _ _ rfl (blk8 HB2.out rfl) Try.underlying56 rfl (by exact infoRd) _ _ rfl rfl) rfl ⟨dk, ⟨_, by rw [HRUN.out]; rfl⟩, by rw [HRUN.out]; exact hRX, kp8 HK.out (.inl kz9)⟩
end Go.Proofs.Ytegcbdfilkecpaa
/- The journal in plain Lean on a disk that does not crash: what each step makes of the two files; no condition. -/
namespace Go.Proofs.Ytegcbdfilkecpaa
open Go

end Go.Proofs.Ytegcbdfilkecpaa
/- The journal in plain Lean: files as pages, sealed heads and records read back; no condition. -/
namespace Go.Proofs.Ytegcbdfilkecpaa
open Go

/-! ### the database as pages -/
end Go.Proofs.Ytegcbdfilkecpaa
/- The journal in plain Lean: pages that fit, said as the reference says it. -/
namespace Go.Proofs.Ytegcbdfilkecpaa

theorem chain_iff (c : Int) : ∀ (l : List Pg) (last : Int), chainPg c last l = true ↔ ∀ i x, l[i]? = some x → x.n ≤ c ∧ (i = 0 → last < x.n) ∧ ∀ y, 0 < i → l[i - 1]? = some y → y.n < x.n
  | [], last => by simp [chainPg]
  | x :: r, last => by
    have ih := chain_iff c r x.n
    rw [chainPg_cons, Bool.and_eq_true, decide_eq_true_iff, ih]
    constructor
    · rintro ⟨⟨h1, h2⟩, h3⟩ i y hy
      rcases i with _ | i
      · simp at hy
        subst hy
        exact ⟨h2, fun _ => h1, fun _ q => absurd q (by omega)⟩
      · have hy' : r[i]? = some y := hy
        obtain ⟨k1, k2, k3⟩ := h3 i y hy'
        refine ⟨k1, fun q => absurd q (by omega), fun z _ hz => ?_⟩
        rcases i with _ | i
        · have hz' : some x = some z := hz
          injection hz' with hz'
          rw [← hz']
          exact k2 rfl
        · exact k3 z (by omega) hz
    · intro h
      have h0 := h 0 x rfl
      refine ⟨⟨h0.2.1 rfl, h0.1⟩, fun i y hy => ?_⟩
      obtain ⟨k1, k2, k3⟩ := h (i + 1) y hy
      refine ⟨k1, fun q => ?_, fun z hz0 hz => ?_⟩
      · subst q
        exact k3 x (by omega) rfl
      · refine k3 z (by omega) ?_
        obtain ⟨j, rfl⟩ : ∃ j, i = j + 1 := ⟨i - 1, by omega⟩
        exact hz
theorem cover_iff (old count : Int) : ∀ (l : List Pg) (last : Int), chainPg count last l = true → last ≤ count →
    ((∀ n, max old last < n → n ≤ count → hasPg l n = true) ↔ (above old l : Int) = max 0 (count - max old last))
  | [], last, _, h => by
    constructor
    · intro q
      have h0 : above old [] = 0 := rfl
      rw [h0]
      rcases Int.lt_or_le (max old last) count with z | z
      · have := q count z (Int.le_refl _)
        simp [hasPg] at this
      · omega
    · intro q n h1 h2
      have h0 : above old [] = 0 := rfl
      rw [h0] at q
      omega
  | x :: r, last, hc, h => by
    rw [chainPg_cons, Bool.and_eq_true, decide_eq_true_iff] at hc
    have ih := cover_iff old count r x.n hc.2 hc.1.2
    obtain ⟨h1, h2⟩ := chain_len count r x.n hc.2 hc.1.2
    have hh : ∀ n, hasPg (x :: r) n = true ↔ x.n = n ∨ hasPg r n = true := fun n => by
      rw [hasPg_iff, hasPg_iff]
      constructor
      · rintro ⟨y, hy, e⟩
        rcases List.mem_cons.1 hy with q | q
        · exact .inl (by rw [← q]; exact e)
        · exact .inr ⟨y, q, e⟩
      · rintro (q | ⟨y, hy, e⟩)
        · exact ⟨x, List.mem_cons_self .., q⟩
        · exact ⟨y, List.mem_cons_of_mem _ hy, e⟩
    rw [above_cons]
    by_cases hx : old < x.n
    · rw [if_pos hx]
      have hle := above_le old r
      constructor
      · intro q
        have hx1 : x.n = max old last + 1 := by
          rcases (show x.n = max old last + 1 ∨ max old last + 1 < x.n by omega) with z | z
          · exact z
          · exfalso
            have := q (max old last + 1) (by omega) (by omega)
            rcases (hh _).1 this with e | e
            · omega
            · obtain ⟨y, hy, e⟩ := (hasPg_iff r _).1 e
              have := (h2 y hy).1
              omega
        have := ih.1 (fun n n1 n2 => by
          rcases (hh n).1 (q n (by omega) n2) with e | e
          · omega
          · exact e)
        omega
      · intro q
        have hx1 : x.n = max old last + 1 := by omega
        have := ih.2 (by omega)
        intro n n1 n2
        rcases (show n = x.n ∨ x.n < n by omega) with e | e
        · exact (hh n).2 (.inl e.symm)
        · exact (hh n).2 (.inr (this n (by omega) n2))
    · rw [if_neg hx]
      have e : max old x.n = max old last := by omega
      rw [e] at ih
      rw [Nat.add_zero, ← ih]
      constructor
      · intro q n n1 n2
        rcases (hh n).1 (q n n1 n2) with z | z
        · omega
        · exact z
      · intro q n n1 n2
        exact (hh n).2 (.inr (q n n1 n2))
theorem fit_iff (old count : Int) (l : List Pg) (h0 : 0 ≤ old) : fitPg old count l = true ↔ (0 ≤ count ∧ count ≤ 4096) ∧ chainPg count 0 l = true ∧ ∀ n, old < n → n ≤ count → hasPg l n = true := by
  unfold fitPg
  rw [Bool.and_eq_true, Bool.and_eq_true, decide_eq_true_iff, decide_eq_true_iff]
  constructor
  · rintro ⟨h1, h2, h3⟩
    have := (cover_iff old count l 0 h2 h1.1).2 (by rw [show max old 0 = old by omega]; exact h3)
    rw [show max old 0 = old by omega] at this
    exact ⟨h1, h2, this⟩
  · rintro ⟨h1, h2, h3⟩
    have := (cover_iff old count l 0 h2 h1.1).1 (by rw [show max old 0 = old by omega]; exact h3)
    rw [show max old 0 = old by omega] at this
    exact ⟨h1, h2, this⟩
end Go.Proofs.Ytegcbdfilkecpaa
/- The reference's journal: Fit; condition: an old count of at most 2^40. -/
namespace Go.Proofs.Ytegcbdfilkecpaa
open Go.RowKit

/-- the first k pages are in order -/
def UpTo (l : List Pg) (count : Int) (k : Nat) : Prop := ∀ i x, i < k → l[i]? = some x → 1 ≤ x.n ∧ x.n ≤ count ∧ ∀ y, 0 < i → l[i - 1]? = some y → y.n < x.n
theorem chain_of_up {l : List Pg} {count : Int} (h : UpTo l count l.length) : chainPg count 0 l = true := by
  rw [chain_iff]
  intro i x hx
  have := h i x (List.getElem?_eq_some_iff.1 hx).1 hx
  exact ⟨this.2.1, fun _ => by omega, this.2.2⟩
theorem up_of_chain {l : List Pg} {count : Int} (h0 : 0 ≤ count) (h : chainPg count 0 l = true) (k : Nat) : UpTo l count k := by
  intro i x _ hx
  have h1 := (chain_iff count l 0).1 h i x hx
  have h2 := (chain_len count l 0 h h0).2 x (List.mem_of_getElem? hx)
  exact ⟨by omega, by omega, h1.2.2⟩
set_option maxRecDepth 100000 in
set_option maxHeartbeats 1600000 in
theorem fit_rok (w : World) (old count : Int) (A : Option Addr) (m c : Nat) (l : List Pg) (hl : PgsAt w A m l) (hok : ∀ x ∈ l, -9223372036854775808 ≤ x.n ∧ x.n ≤ 9223372036854775807) (hm : m ≤ 1099511627776) (ho : 0 ≤ old ∧ old ≤ 1099511627776) (hc : -9223372036854775808 ≤ count ∧ count ≤ 9223372036854775807) :
    Calls Try.prog 119 #[.int .i64 old, .int .i64 count, .slice A m c] w fun e w' => e = .returned (.bool (fitPg old count l)) ∧ Kp NoB w w' := by
  have HL := Lib.hid hl
  have hlen : l.length = m := hl.len
  have HLEN := Lib.hid hlen
  have HOK := Lib.hid hok
  have HM := Lib.hid hm
  have HO := Lib.hid ho
  have FI := fit_iff old count l ho.1
  have HFI := Lib.hid FI
  have bad : Hid ((¬ (0 ≤ count ∧ count ≤ 4096) ∨ ¬ chainPg count 0 l = true ∨ ∃ n, old < n ∧ n ≤ count ∧ hasPg l n = false) → fitPg old count l = false) := Lib.hid (fun q => by
    rcases hq : fitPg old count l with _ | _
    · rfl
    · obtain ⟨h1, h2, h3⟩ := FI.1 hq
      rcases q with q | q | ⟨n, n1, n2, n3⟩
      · exact absurd h1 q
      · exact absurd h2 q
      · rw [h3 n n1 n2] at n3
        cases n3)
  clear hl hlen hok hm ho FI
  by_cases hneg : count < 0
  · have hF := bad.out (.inl (by omega))
    rw [hF]
    go_enter Try.func119, Try.ntmps119
    go_wp2_with fail
    go_ret
    exact ⟨rfl, Kp.refl NoB w⟩
  by_cases hbig : 4096 < count
  · have hF := bad.out (.inl (by omega))
    rw [hF]
    go_enter Try.func119, Try.ntmps119
    go_wp2_with fail
    go_ret
    exact ⟨rfl, Kp.refl NoB w⟩
  have HCN := Lib.hid (show 0 ≤ count ∧ count ≤ 4096 by omega)
  go_enter Try.func119, Try.ntmps119
  go_wp2_with fail
  go_loopw [7] (fun v wr => ∃ k : Nat, v = .int .i64 (k : Int) ∧ k ≤ m ∧ UpTo l count k ∧ Kp NoB w wr) (fun v _ => m - (intOf v).toNat)
  case atStart => exact ⟨0, rfl, Nat.zero_le _, fun i x q => absurd q (by omega), Kp.refl _ _⟩
  case round =>
    obtain ⟨wq, rfl⟩ : ∃ wq, wq = wr := ⟨_, rfl⟩
    obtain ⟨k, rfl, hk, hup, hkp⟩ := hrel
    have HUP := Lib.hid hup
    have HKP := Lib.hid hkp
    clear hup
    by_cases hlt : k < m
    · have hkl : k < l.length := by have := HLEN.out; omega
      obtain ⟨x, hx⟩ : ∃ x, l[k] = x := ⟨_, rfl⟩
      have hxk : l[k]? = some x := by rw [List.getElem?_eq_getElem hkl, hx]
      have HXK := Lib.hid hxk
      have hxr := HOK.out x (List.mem_of_getElem? hxk)
      have hrows : RowsC wq A m 257 (l.map pgL) := HL.out.keep hkp
      obtain ⟨g, o, rfl, hg, hcc⟩ := hrows.cell (k := k) (x := pgL x) (by rw [List.getElem?_map, hxk]; rfl)
      have c0 := hcc 0 _ rfl
      rw [Nat.add_zero] at c0
      have hkk : (k : Int) < (m : Int) := by omega
      have hm63 : m ≤ 9223372036854775807 := by have := HM.out; omega
      obtain ⟨xn, hxn⟩ : ∃ y, x.n = y := ⟨_, rfl⟩
      rw [hxn] at c0 hxr
      have HXN := Lib.hid hxn
      have HBADX : Hid (¬ (1 ≤ xn ∧ xn ≤ count) → fitPg old count l = false) := Lib.hid (fun q => bad.out (.inr (.inl (fun z => q (by
        have := up_of_chain HCN.out.1 z (k + 1) k x (by omega) hxk
        rw [hxn] at this
        exact ⟨this.1, this.2.1⟩)))))
      by_cases hx1 : xn < 1
      · have HF := Lib.hid (HBADX.out (by omega))
        clear hx hxk hkl hcc hxn hrows
        go_upto_region 6 with fail
        go_quiet (fail)
        go_wp2_with fail
        go_ret
        exact ⟨by rw [HF.out]; rfl, HKP.out.drewN nq⟩
      · by_cases hx2 : count < xn
        · have HF := Lib.hid (HBADX.out (by omega))
          clear hx hxk hkl hcc hxn hrows
          go_upto_region 6 with fail
          go_quiet (fail)
          go_wp2_with fail
          go_ret
          exact ⟨by rw [HF.out]; rfl, HKP.out.drewN nq⟩
        · rcases k with _ | k
          · have HU : Hid (UpTo l count 1) := Lib.hid (fun i z hi hz => by
              obtain rfl : i = 0 := by omega
              rw [HXK.out] at hz
              injection hz with hz
              rw [← hz, HXN.out]
              exact ⟨by omega, by omega, fun y q => absurd q (by omega)⟩)
            clear hx hxk hkl hcc hxn hrows
            rw [Nat.zero_mul, Nat.add_zero] at c0
            have hm0 : 0 < m := hlt
            have hm1 : (0 : Int) < (m : Int) := by omega
            go_upto_region 6 with fail
            go_quiet (fail)
            go_wp2_with fail
            go_roundw
            case rel => exact ⟨1, by go_num, by omega, HU.out, HKP.out.drewN nq⟩
            case measure => simp [intOf]; omega
          · have hkl2 : k < l.length := by omega
            obtain ⟨y, hy⟩ : ∃ y, l[k] = y := ⟨_, rfl⟩
            have hyk : l[k]? = some y := by rw [List.getElem?_eq_getElem hkl2, hy]
            have HYK := Lib.hid hyk
            obtain ⟨g', o', e', _, hcy⟩ := hrows.cell (k := k) (x := pgL y) (by rw [List.getElem?_map, hyk]; rfl)
            injection e' with e'
            injection e' with e1 e2
            subst e1 e2
            have d0 := hcy 0 _ rfl
            rw [Nat.add_zero] at d0
            obtain ⟨yn, hyn⟩ : ∃ z, y.n = z := ⟨_, rfl⟩
            rw [hyn] at d0
            have HYN := Lib.hid hyn
            have hwk : IntKind.i64.wrap (((k + 1 : Nat) : Int) - 1) = (k : Int) := by rw [IntKind.wrap_i64]; omega
            have hkp1 : (0 : Int) < ((k + 1 : Nat) : Int) := by omega
            have hkm : (k : Int) < (m : Int) := by omega
            have HBADY : Hid (xn ≤ yn → fitPg old count l = false) := Lib.hid (fun q => bad.out (.inr (.inl (fun z => by
              have := up_of_chain HCN.out.1 z (k + 2) (k + 1) x (by omega) HXK.out
              have := this.2.2 y (by omega) (by rw [show k + 1 - 1 = k by omega]; exact HYK.out)
              rw [HXN.out, HYN.out] at this
              omega))))
            clear hx hxk hkl hcc hxn hrows hy hyk hkl2 hcy hyn
            by_cases hxy : xn ≤ yn
            · have HF := Lib.hid (HBADY.out hxy)
              go_upto_region 6 with fail
              go_quiet (fail)
              go_wp2_with fail
              go_ret
              exact ⟨by rw [HF.out]; rfl, HKP.out.drewN nq⟩
            · have HU : Hid (UpTo l count (k + 2)) := Lib.hid (fun i z hi hz => by
                rcases (show i < k + 1 ∨ i = k + 1 by omega) with q | q
                · exact HUP.out i z q hz
                · subst q
                  rw [HXK.out] at hz
                  injection hz with hz
                  rw [← hz, HXN.out]
                  refine ⟨by omega, by omega, fun y' _ hy' => ?_⟩
                  rw [show k + 1 - 1 = k by omega, HYK.out] at hy'
                  injection hy' with hy'
                  rw [← hy', HYN.out]
                  omega)
              go_upto_region 6 with fail
              go_quiet (fail)
              go_wp2_with fail
              go_roundw
              case rel => exact ⟨k + 2, by go_num, by omega, HU.out, HKP.out.drewN nq⟩
              case measure => simp [intOf]; omega
    · have hkk : ¬ (k : Int) < (m : Int) := by omega
      have HCH : Hid (chainPg count 0 l = true) := Lib.hid (chain_of_up (fun i x hi hx => HUP.out i x (by have := HLEN.out; omega) hx))
      have hwo : IntKind.i64.wrap (old + 1) = old + 1 := by have := HO.out; rw [IntKind.wrap_i64]; omega
      clear hkp
      go_wp2_with fail
      go_loopw [8] (fun v wr => ∃ j : Nat, v = .int .i64 (old + 1 + (j : Int)) ∧ (j : Int) ≤ max 0 (count - old) ∧ (∀ n, old < n → n < old + 1 + (j : Int) → hasPg l n = true) ∧ Kp NoB w wr) (fun v _ => (count + 1 - intOf v).toNat)
      case atStart => exact ⟨0, by simp, by omega, fun n h1 h2 => by exfalso; omega, HKP.out⟩
      case round =>
        obtain ⟨wz, rfl⟩ : ∃ wz, wz = wr := ⟨_, rfl⟩
        obtain ⟨j, rfl, hj, hall, hkz⟩ := hrel
        have HALL := Lib.hid hall
        have HKZ := Lib.hid hkz
        clear hall
        obtain ⟨N, hN⟩ : ∃ N : Int, old + 1 + (j : Int) = N := ⟨_, rfl⟩
        have HNN := Lib.hid hN
        rw [hN]
        have hwn : IntKind.i64.wrap (N + 1) = N + 1 := by have := HO.out; rw [IntKind.wrap_i64]; omega
        clear hN
        by_cases hle : N ≤ count
        · go_wp2_with fail
          refine (has_rok wz A m c l N (HL.out.keep hkz) (by have := HM.out; omega)).mono ?_
          rintro e w3 ⟨rfl, hk3⟩
          have HK3 := Lib.hid (HKZ.out.trans hk3 (fun _ _ q => q))
          clear hk3 hkz
          obtain ⟨b, hb⟩ : ∃ b, hasPg l N = b := ⟨_, rfl⟩
          have HB := Lib.hid hb
          rw [hb]
          clear hb
          rcases b with _ | _
          · have HF := Lib.hid (bad.out (.inr (.inr ⟨N, by have := HNN.out; omega, hle, HB.out⟩)))
            go_wp2_with fail
            go_ret
            exact ⟨by rw [HF.out]; rfl, HK3.out⟩
          · go_wp2_with fail
            go_roundw
            case rel => exact ⟨j + 1, by have := HNN.out; rw [show old + 1 + ((j + 1 : Nat) : Int) = N + 1 by omega], by have := HNN.out; omega, fun n h1 h2 => by
              rcases (show n < old + 1 + (j : Int) ∨ n = N by have := HNN.out; omega) with q | q
              · exact HALL.out n h1 q
              · rw [q]; exact HB.out, HK3.out⟩
            case measure => simp [intOf]; omega
        · have HF : Hid (fitPg old count l = true) := Lib.hid (HFI.out.2 ⟨HCN.out, HCH.out, fun n h1 h2 => HALL.out n h1 (by have := HNN.out; omega)⟩)
          go_wp2_with fail
          go_ret
          exact ⟨by rw [HF.out]; rfl, HKZ.out⟩
end Go.Proofs.Ytegcbdfilkecpaa
