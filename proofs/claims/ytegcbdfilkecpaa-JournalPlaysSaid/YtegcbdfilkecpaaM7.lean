/- Texts of this proof, one behind the other: lemmas and contracts; each says its own conditions. -/
import Derived.Test.YtegcbdfilkecpaaM2
import Derived.Test.YtegcbdfilkecpaaM4
import Derived.Test.YtegcbdfilkecpaaM5
import Derived.Test.YtegcbdfilkecpaaM6
/- The journal: may pages be changed; no condition but on the counts. -/
namespace Go.Proofs.Ytegcbdfilkecpaa
open Go.RowKit

theorem chainPg_cons (count last : Int) (x : Pg) (r : List Pg) : chainPg count last (x :: r) = (decide (last < x.n ∧ x.n ≤ count) && chainPg count x.n r) := rfl
theorem above_cons (old : Int) (x : Pg) (r : List Pg) : above old (x :: r) = above old r + if old < x.n then 1 else 0 := by
  unfold above
  rw [List.countP_cons]
  simp
theorem above_le (old : Int) (l : List Pg) : above old l ≤ l.length := List.countP_le_length
section
attribute [local go_sem ↓] loadPg storePg allocPg
def FiRel (w : World) (old count : Int) (l : List Pg) (v7 v8 v19 : Value) (wr : World) : Prop :=
  ∃ (last : Int) (ab k : Nat), v7 = .int .i64 last ∧ v8 = .int .i64 (ab : Int) ∧ v19 = .int .i64 (k : Int) ∧ k ≤ l.length ∧ ab ≤ k ∧ chainPg count 0 l = chainPg count last (l.drop k) ∧ above old l = ab + above old (l.drop k) ∧ Kp NoB w wr
set_option maxRecDepth 100000 in
set_option maxHeartbeats 1600000 in
theorem fit_q (w : World) (old count : Int) (ho : 0 ≤ old ∧ old ≤ 4096) (hc : -9223372036854775808 ≤ count ∧ count ≤ 9223372036854775807) (A : Option Addr) (n cap : Nat) (l : List Pg) (hl : PgsAt w A n l) (hok : ∀ x ∈ l, PgOk x) (hnn : n < 1099511627776) :
    Calls Try.prog 58 #[.int .i64 old, .int .i64 count, .slice A n cap] w fun e w' => e = .returned (.bool (fitPg old count l)) ∧ Kp NoB w w' := by
  have HL := Lib.hid hl
  have HOK := Lib.hid hok
  have HLN := Lib.hid hl.len
  have HO := Lib.hid ho
  clear hl hok ho
  by_cases h1 : count < 0
  · have e1 : fitPg old count l = false := by unfold fitPg; rw [decide_eq_false (by omega)]; rfl
    rw [e1]
    clear e1
    go_enter Try.func58, Try.ntmps58
    go_wp2_with fail
    go_ret
    exact ⟨rfl, Kp.refl _ _⟩
  · by_cases h2 : 4096 < count
    · have e1 : fitPg old count l = false := by unfold fitPg; rw [decide_eq_false (by omega)]; rfl
      rw [e1]
      clear e1
      go_enter Try.func58, Try.ntmps58
      go_wp2_with fail
      go_ret
      exact ⟨rfl, Kp.refl _ _⟩
    · have e1 : fitPg old count l = (chainPg count 0 l && decide ((above old l : Int) = max 0 (count - old))) := by unfold fitPg; rw [decide_eq_true (by omega)]; rfl
      obtain ⟨B, hB⟩ : ∃ B, fitPg old count l = B := ⟨_, rfl⟩
      rw [hB] at e1 ⊢
      have HE := Lib.hid e1
      have HC := Lib.hid (show 0 ≤ count ∧ count ≤ 4096 by omega)
      clear e1 hB
      go_enter Try.func58, Try.ntmps58
      go_wp2_with fail
      go_loopw [7, 8, 19] (fun v7 v8 v19 wr => FiRel w old count l v7 v8 v19 wr) (fun _ _ v _ => n - (intOf v).toNat)
      case atStart => exact ⟨0, 0, 0, rfl, rfl, rfl, Nat.zero_le _, Nat.le_refl _, rfl, by simp, Kp.refl _ _⟩
      case round =>
        obtain ⟨last, ab, k, rfl, rfl, rfl, hk, hab, hch, habv, hkp⟩ := hrel
        have HCH := Lib.hid hch
        have HAV := Lib.hid habv
        have HKP := Lib.hid hkp
        have hlr := HL.out.keep hkp
        clear hch habv hkp
        by_cases hlt : k < n
        · have hkk : (k : Int) < (n : Int) := by omega
          obtain ⟨g, o, rfl, hg, t1, r1⟩ := hlr.at_ k hlt
          obtain ⟨x, hx⟩ : ∃ x, l[k]? = some x := ⟨_, List.getElem?_eq_getElem (by rw [HLN.out]; exact hlt)⟩
          have hxe : l[k]'(by rw [HLN.out]; exact hlt) = x := (List.getElem?_eq_some_iff.1 hx).2
          rw [hxe] at r1
          have hxo := HOK.out x (List.mem_of_getElem? hx)
          have hdr : l.drop k = x :: l.drop (k + 1) := by rw [← hxe]; exact List.drop_eq_getElem_cons (by rw [HLN.out]; exact hlt)
          have HDR := Lib.hid hdr
          have hb := Blk.new wr 113 (pgA ⟨0, zeros 256⟩)
          have hb2 := hb.whole (pgA x) (by rw [pgA_size hxo]; rfl)
          have t2 := hb.thereAll 257 rfl
          have o1 := pgA_ones x
          have s1 := pgA_size hxo
          have hc0 := hb2.cell 0
          rw [show (pgA x)[0]? = some (.int .i64 x.n) from rfl] at hc0
          have HK3 := Lib.hid (show Kp NoB wr ((wr.alloc (.cells (pgA ⟨0, zeros 256⟩) 113)).setCells wr.heap.size 0 (pgA x).toList) from Kp.setCells (.inl (Nat.le_refl _)) _ _ _ ((Kp.refl _ _).alloc _))
          obtain ⟨RR, hRR⟩ : ∃ RR, pgA x = RR := ⟨_, rfl⟩
          rw [hRR] at r1 o1 s1 hc0 HK3
          have hch2 : chainPg count last (l.drop k) = (decide (last < x.n ∧ x.n ≤ count) && chainPg count x.n (l.drop (k + 1))) := by rw [hdr]; rfl
          have hav2 : above old (l.drop k) = above old (l.drop (k + 1)) + if old < x.n then 1 else 0 := by rw [hdr]; exact above_cons _ _ _
          rw [hch2] at HCH
          rw [hav2] at HAV
          obtain ⟨xn, hxn⟩ : ∃ xn, x.n = xn := ⟨_, rfl⟩
          rw [hxn] at hc0 HCH HAV
          clear hRR hlr hb hb2 hx hxe hxo hdr hch2 hav2 hxn HDR
          by_cases hle : xn ≤ last
          · have hnl : ¬ last < xn := by omega
            rw [decide_eq_false (by omega)] at HCH
            go_wp2_with fail
            go_ret
            rw [HE.out, HCH.out]
            exact ⟨rfl, HKP.out.trans HK3.out (fun _ _ q => q)⟩
          · have hnl : last < xn := by omega
            by_cases hgt : count < xn
            · rw [decide_eq_false (by omega)] at HCH
              go_wp2_with fail
              go_ret
              rw [HE.out, HCH.out]
              exact ⟨rfl, HKP.out.trans HK3.out (fun _ _ q => q)⟩
            · rw [decide_eq_true (by omega), Bool.true_and] at HCH
              by_cases hol : old < xn
              · rw [if_pos hol] at HAV
                go_wp2_with fail
                go_roundw
                case rel => exact ⟨xn, ab + 1, k + 1, rfl, by go_num, by go_num, by have := HLN.out; omega, by omega, HCH.out, by rw [HAV.out]; omega, HKP.out.trans HK3.out (fun _ _ q => q)⟩
                case measure => simp [intOf]; omega
              · rw [if_neg hol] at HAV
                go_wp2_with fail
                go_roundw
                case rel => exact ⟨xn, ab, k + 1, rfl, rfl, by go_num, by have := HLN.out; omega, by omega, HCH.out, by rw [HAV.out]; omega, HKP.out.trans HK3.out (fun _ _ q => q)⟩
                case measure => simp [intOf]; omega
        · have hkk : ¬ (k : Int) < (n : Int) := by omega
          obtain rfl : k = n := by have := HLN.out; omega
          have hd0 : l.drop k = [] := List.drop_eq_nil_of_le (by rw [HLN.out]; omega)
          rw [hd0] at HCH HAV
          have HF : Hid (B = decide ((ab : Int) = max 0 (count - old))) := Lib.hid (by
            rw [HE.out, HCH.out, HAV.out]
            rfl)
          have hw1 : IntKind.i64.wrap (count - old) = count - old := by have := HO.out; have := HC.out; rw [IntKind.wrap_i64]; omega
          clear hlr hd0 HCH HAV
          rcases (show count - old < 0 ∨ count - old = 0 ∨ 0 < count - old by omega) with hs | hs | hs
          all_goals
            go_wp2_with fail
            go_ret
            rw [HF.out]
            refine ⟨?_, HKP.out⟩
            show Ending.returned (Value.bool _) = _
            congr 2
            rw [Bool.eq_iff_iff, beq_iff_eq, decide_eq_true_iff]
            omega
end
end Go.Proofs.Ytegcbdfilkecpaa
/- The journal: a page's number searched among pages in order; no condition but on the counts. -/
namespace Go.Proofs.Ytegcbdfilkecpaa
open Go.RowKit

section
attribute [local go_sem ↓] loadPg storePg allocPg
set_option maxRecDepth 100000 in
theorem commit1_q (w : World) (x : Pg) (n : Int) (hn : 1 ≤ n ∧ n ≤ 4096) (hx : 1 ≤ x.n ∧ x.n ≤ 4096) :
    Calls Try.prog 60 #[.agg (pgA x), .int .i64 n] w fun e w' => e = .returned (.int .i64 (x.n - n)) ∧ Kp NoB w w' := by
  have hw : IntKind.i64.wrap (x.n - n) = x.n - n := by rw [IntKind.wrap_i64]; omega
  have hc0 : (w.alloc (.cells (pgA x) 113)).cell? ⟨w.heap.size, 0, none⟩ = some (.int .i64 x.n) := (Blk.new w 113 (pgA x)).cell 0
  go_enter Try.func60, Try.ntmps60
  go_wp2_with fail
  go_ret
  exact ⟨rfl, (Kp.refl _ _).alloc _⟩
/-- pages whose numbers rise -/
def Rises (l : List Pg) : Prop := ∀ (i j : Nat) (x y : Pg), i < j → l[i]? = some x → l[j]? = some y → x.n < y.n
def BsRel (w : World) (l : List Pg) (n : Int) (v9 v10 : Value) (wr : World) : Prop :=
  ∃ lo hi : Nat, v9 = .int .i64 (lo : Int) ∧ v10 = .int .i64 (hi : Int) ∧ lo ≤ hi ∧ hi ≤ l.length ∧ (∀ (t : Nat) (x : Pg), t < lo → l[t]? = some x → x.n < n) ∧ (∀ (t : Nat) (x : Pg), hi ≤ t → l[t]? = some x → n ≤ x.n) ∧ Kp NoB w wr
def BsPost (w : World) (l : List Pg) (n : Int) (e : Ending) (w' : World) : Prop := (∃ i : Int, e = .returned (.tuple #[.int .i64 i, .bool (hasPg l n)])) ∧ Kp NoB w w'
theorem hasPg_iff (l : List Pg) (n : Int) : hasPg l n = true ↔ ∃ x ∈ l, x.n = n := by
  unfold hasPg
  rw [List.any_eq_true]
  simp
set_option maxRecDepth 100000 in
set_option maxHeartbeats 1600000 in
theorem bsearch_q (w : World) (n : Int) (hn : 1 ≤ n ∧ n ≤ 4096) (A : Option Addr) (m cap : Nat) (l : List Pg) (hl : PgsAt w A m l) (hok : PgsOk l) (hr : Rises l) (hnn : m < 1099511627776) :
    Calls Try.prog 59 #[.slice A m cap, .int .i64 n, .func (.func 60) #[] #[]] w (BsPost w l n) := by
  have HL := Lib.hid hl
  have HOK := Lib.hid hok
  have HR := Lib.hid hr
  have HLN := Lib.hid hl.len
  have HN := Lib.hid hn
  clear hl hok hr hn
  go_enter Try.func59, Try.ntmps59
  go_wp2_with fail
  go_loopw [9, 10] (fun v9 v10 wr => BsRel w l n v9 v10 wr) (fun v9 v10 _ => (intOf v10).toNat - (intOf v9).toNat)
  case atStart => exact ⟨0, m, rfl, rfl, Nat.zero_le _, by rw [HLN.out]; omega, fun t x ht => absurd ht (by omega), fun t x h1 h2 => by
    have := (List.getElem?_eq_some_iff.1 h2).1
    have := HLN.out
    omega, Kp.refl _ _⟩
  case round =>
    obtain ⟨lo, hi, rfl, rfl, hlh, hhi, hlow, hhigh, hkp⟩ := hrel
    have HKP := Lib.hid hkp
    have HLOW := Lib.hid hlow
    have HHIGH := Lib.hid hhigh
    have hlr := HL.out.keep hkp
    clear hlow hhigh hkp
    by_cases hlt : lo < hi
    · have hii : (lo : Int) < (hi : Int) := by omega
      obtain ⟨k, hk⟩ : ∃ k, (lo + hi) / 2 = k := ⟨_, rfl⟩
      have HK := Lib.hid hk
      have hkm : k < m := by have := HLN.out; omega
      have hkk : (k : Int) < (m : Int) := by omega
      obtain ⟨g, o, rfl, hg, t1, r1⟩ := hlr.at_ k hkm
      obtain ⟨x, hx⟩ : ∃ x, l[k]? = some x := ⟨_, List.getElem?_eq_getElem (by rw [HLN.out]; exact hkm)⟩
      have hxe : l[k]'(by rw [HLN.out]; exact hkm) = x := (List.getElem?_eq_some_iff.1 hx).2
      rw [hxe] at r1
      have HX := Lib.hid hx
      have hxm := List.mem_of_getElem? hx
      have hxn := HOK.out.n x hxm
      have HXN := Lib.hid hxn
      have hkd : ((lo : Int) + (hi : Int)) / 2 = (k : Int) := by omega
      have hw1 : IntKind.i64.wrap ((lo : Int) + (hi : Int)) = (lo : Int) + (hi : Int) := by rw [IntKind.wrap_i64]; omega
      clear hlr hk hx hxe hxm hxn
      go_wp2_with fail
      refine (commit1_q wr x n HN.out HXN.out).mono ?_
      rintro e w2 ⟨rfl, hk2⟩
      have HK2 := Lib.hid (HKP.out.trans hk2 (fun _ _ q => q))
      have HXL := Lib.hid (fun t y (ht : t ≤ k) (hy : l[t]? = some y) (hlt : x.n < n) => show y.n < n by
        rcases Nat.lt_or_ge t k with q | q
        · have := HR.out t k y x q hy HX.out; omega
        · obtain rfl : t = k := by omega
          have := HX.out
          rw [hy] at this
          injection this with this
          rw [this]; exact hlt)
      have HXG := Lib.hid (fun t y (ht : k ≤ t) (hy : l[t]? = some y) (hge : n ≤ x.n) => show n ≤ y.n by
        rcases Nat.lt_or_ge k t with q | q
        · have := HR.out k t x y q HX.out hy; omega
        · obtain rfl : t = k := by omega
          have := HX.out
          rw [hy] at this
          injection this with this
          rw [this]; exact hge)
      obtain ⟨xn, hxn⟩ : ∃ xn, x.n = xn := ⟨_, rfl⟩
      rw [hxn] at HXL HXG ⊢
      clear hk2 hxn
      by_cases hlt2 : xn < n
      · have hd : xn - n < 0 := by omega
        have hw2 : IntKind.i64.wrap ((k : Int) + 1) = (k : Int) + 1 := by rw [IntKind.wrap_i64]; omega
        go_wp2_with fail
        go_roundw
        case rel => exact ⟨k + 1, hi, by go_num, rfl, by have := HK.out; omega, hhi, fun t y ht hy => HXL.out t y (by omega) hy hlt2, HHIGH.out, HK2.out⟩
        case measure =>
          have := HK.out
          have e1 : (intOf (Value.int .i64 ((k : Int) + 1))).toNat = k + 1 := by simp [intOf]
          simp only [intOf] at e1 ⊢
          omega
      · have hd : ¬ xn - n < 0 := by omega
        go_wp2_with fail
        go_roundw
        case rel => exact ⟨lo, k, rfl, rfl, by have := HK.out; omega, by have := HK.out; omega, HLOW.out, fun t y ht hy => HXG.out t y ht hy (by omega), HK2.out⟩
        case measure =>
          have := HK.out
          simp only [intOf]
          omega
    · have hii : ¬ (lo : Int) < (hi : Int) := by omega
      obtain rfl : lo = hi := by omega
      by_cases hlm : lo < m
      · have hkk : (lo : Int) < (m : Int) := by omega
        obtain ⟨g, o, rfl, hg, t1, r1⟩ := hlr.at_ lo hlm
        obtain ⟨x, hx⟩ : ∃ x, l[lo]? = some x := ⟨_, List.getElem?_eq_getElem (by rw [HLN.out]; exact hlm)⟩
        have hxe : l[lo]'(by rw [HLN.out]; exact hlm) = x := (List.getElem?_eq_some_iff.1 hx).2
        rw [hxe] at r1
        have hxm := List.mem_of_getElem? hx
        have hxn := HOK.out.n x hxm
        have HXN := Lib.hid hxn
        have HF : Hid (hasPg l n = decide (x.n - n = 0)) := Lib.hid (by
          rw [Bool.eq_iff_iff, hasPg_iff, decide_eq_true_iff]
          constructor
          · rintro ⟨y, hy, hyn⟩
            obtain ⟨t, ht⟩ := List.getElem?_of_mem hy
            rcases Nat.lt_or_ge t lo with q | q
            · have := HLOW.out t y q ht; omega
            · rcases Nat.lt_or_ge lo t with q2 | q2
              · have h1 := HR.out lo t x y q2 hx ht
                have h2 := HHIGH.out lo x (Nat.le_refl _) hx
                omega
              · obtain rfl : t = lo := by omega
                rw [hx] at ht
                injection ht with ht
                rw [ht]; omega
          · intro h
            exact ⟨x, hxm, by omega⟩)
        clear hlr hx hxe hxm hxn
        go_wp2_with fail
        refine (commit1_q wr x n HN.out HXN.out).mono ?_
        rintro e w2 ⟨rfl, hk2⟩
        have HK2 := Lib.hid (HKP.out.trans hk2 (fun _ _ q => q))
        obtain ⟨dd, hdd⟩ : ∃ dd, x.n - n = dd := ⟨_, rfl⟩
        rw [hdd] at HF ⊢
        obtain ⟨hb, hhb⟩ : ∃ hb, hasPg l n = hb := ⟨_, rfl⟩
        rw [hhb] at HF
        have HHB := Lib.hid hhb
        clear hk2 hdd hhb
        rcases Int.lt_trichotomy dd 0 with h0 | h0 | h0
        · have hne : ¬ dd = 0 := by omega
          have hb0 : (dd == 0) = false := by simpa using hne
          rw [decide_eq_false hne] at HF
          go_wp2_with fail
          go_ret2
          exact ⟨⟨(lo : Int), by rw [HHB.out, HF.out]; rfl⟩, HK2.out⟩
        · subst h0
          go_wp2_with fail
          go_ret2
          exact ⟨⟨(lo : Int), by rw [HHB.out, HF.out]; rfl⟩, HK2.out⟩
        · have hne : ¬ dd = 0 := by omega
          have hb0 : (dd == 0) = false := by simpa using hne
          rw [decide_eq_false hne] at HF
          go_wp2_with fail
          go_ret2
          exact ⟨⟨(lo : Int), by rw [HHB.out, HF.out]; rfl⟩, HK2.out⟩
      · have hkk : ¬ (lo : Int) < (m : Int) := by omega
        have HF : Hid (hasPg l n = false) := Lib.hid (by
          rw [Bool.eq_false_iff]
          intro h
          obtain ⟨y, hy, hyn⟩ := (hasPg_iff l n).1 h
          obtain ⟨t, ht⟩ := List.getElem?_of_mem hy
          have h1 := (List.getElem?_eq_some_iff.1 ht).1
          have := HLN.out
          have := HLOW.out t y (by omega) ht
          omega)
        clear hlr
        go_wp2_with fail
        go_ret2
        exact ⟨⟨(lo : Int), by rw [HF.out]; rfl⟩, HKP.out⟩
end
end Go.Proofs.Ytegcbdfilkecpaa
/- The journal: the function values of Recover and Commit; no condition but on the counts. -/
namespace Go.Proofs.Ytegcbdfilkecpaa
open Go.RowKit

theorem kept_pgs (A : Option Addr) (n : Nat) (l : List Pg) : Kept fun S w => PgsAt w A n l ∧ Apart S A n := fun S S' w w' h k hS => by
  refine ⟨RowsC.keepS h.1 k (fun g o e hn => h.2 g o e hn), fun g o e hn q => ?_⟩
  rcases hS g q with q | q
  · exact h.2 g o e hn q
  · have := h.1.lt e hn
    omega
section
variable {S : Nat → Prop} {w : World} {db : Nat} {p : Pl}
attribute [local go_sem ↓] loadW4 storeW4
set_option maxRecDepth 100000 in
theorem sealAt_q (h : Dq S w w db p) (v : W4) (Bd Bw : Nat) (hd : Blk w Bd 98 #[ptrV db]) (hw : Blk w Bw 102 (w4A v)) (hm : p.sm 40000) :
    Calls Try.prog 53 #[.pointer (some ⟨Bd, 0, none⟩), .pointer (some ⟨Bw, 0, none⟩)] w fun e w' => e = .returned (.int .i64 (p.runS (headS nmJn v)).2) ∧ Dq S w w' db (p.runS (headS nmJn v)).1 := by
  have H := Lib.hid h
  have HM := Lib.hid hm
  have cd : w.cell? ⟨Bd, 0, none⟩ = some (.pointer (some ⟨db, 0, none⟩)) := hd.cell 0
  have t0 : w.there Bw 0 4 := hw.thereAll 4 rfl
  have r0 : readRow w Bw 0 4 = w4A v := hw.readAll 4 rfl
  clear h hm hd hw
  go_enter Try.func53, Try.ntmps53
  go_wp2_with fail
  refine (show Calls _ _ #[.agg #[ptrV db], _] _ _ from jseal_q H.out v HM.out).mono ?_
  rintro e w4 ⟨rfl, h4⟩
  have H4 := Lib.hid h4
  clear h4
  go_wp2_with fail
  go_ret
  exact ⟨rfl, H4.out⟩
set_option maxRecDepth 100000 in
theorem putAt_q (h : Dq S w w db p) (v : W4) (hb : 0 ≤ v.b ∧ v.b ≤ 4096) (Bd Bw Bp : Nat) (A : Option Addr) (n cap : Nat) (l : List Pg) (hd : Blk w Bd 98 #[ptrV db]) (hw : Blk w Bw 102 (w4A v)) (hp : Blk w Bp 22 #[.slice A n cap])
    (hl : PgsAt w A n l) (hA : Apart S A n) (hok : PgsOk l) (hm : p.sm (20000 * (n + 3))) (hnn : n < 1099511627776) :
    Calls Try.prog 55 #[.pointer (some ⟨Bd, 0, none⟩), .pointer (some ⟨Bw, 0, none⟩), .pointer (some ⟨Bp, 0, none⟩)] w fun e w' => e = .returned (.int .i64 (p.runS (homeS v.b l)).2) ∧ Dq S w w' db (p.runS (homeS v.b l)).1 := by
  have H := Lib.hid h
  have HM := Lib.hid hm
  have HL := Lib.hid hl
  have HA := Lib.hid hA
  have HOK := Lib.hid hok
  have HB := Lib.hid hb
  have cd : w.cell? ⟨Bd, 0, none⟩ = some (.pointer (some ⟨db, 0, none⟩)) := hd.cell 0
  have cb : w.cell? ⟨Bw, 1, none⟩ = some (.int .u32 v.b) := hw.cell 1
  have cp : w.cell? ⟨Bp, 0, none⟩ = some (.slice A n cap) := hp.cell 0
  have hwb : IntKind.i64.wrap v.b = v.b := by rw [IntKind.wrap_i64]; omega
  clear h hm hd hw hp hl hA hok
  go_enter Try.func55, Try.ntmps55
  go_wp2_with fail
  refine (show Calls _ _ #[.agg #[ptrV db], _, _] _ _ from jput_q H.out v.b HB.out A n cap l HL.out HA.out HOK.out HM.out hnn).mono ?_
  rintro e w4 ⟨rfl, h4⟩
  have H4 := Lib.hid h4
  clear h4
  go_wp2_with fail
  go_ret
  exact ⟨rfl, H4.out⟩
set_option maxRecDepth 100000 in
theorem seal0_q (h : Dq S w w db p) (Bd : Nat) (hd : Blk w Bd 98 #[ptrV db]) (hm : p.sm 40000) :
    Calls Try.prog 57 #[.pointer (some ⟨Bd, 0, none⟩)] w fun e w' => e = .returned (.int .i64 (p.runS (headS nmJn ⟨0, 0, 0, 0⟩)).2) ∧ Dq S w w' db (p.runS (headS nmJn ⟨0, 0, 0, 0⟩)).1 := by
  have H := Lib.hid h
  have HM := Lib.hid hm
  have cd : w.cell? ⟨Bd, 0, none⟩ = some (.pointer (some ⟨db, 0, none⟩)) := hd.cell 0
  clear h hm hd
  go_enter Try.func57, Try.ntmps57
  go_wp2_with fail
  refine (show Calls _ _ #[.agg #[ptrV db], .agg (w4A ⟨0, 0, 0, 0⟩)] _ _ from jseal_q H.out ⟨0, 0, 0, 0⟩ HM.out).mono ?_
  rintro e w4 ⟨rfl, h4⟩
  have H4 := Lib.hid h4
  clear h4
  go_wp2_with fail
  go_ret
  exact ⟨rfl, H4.out⟩
set_option maxRecDepth 100000 in
theorem cseal0_q (h : Dq S w w db p) (Bd : Nat) (hd : Blk w Bd 98 #[ptrV db]) (hm : p.sm 40000) :
    Calls Try.prog 66 #[.pointer (some ⟨Bd, 0, none⟩)] w fun e w' => e = .returned (.int .i64 (p.runS (headS nmJn ⟨0, 0, 0, 0⟩)).2) ∧ Dq S w w' db (p.runS (headS nmJn ⟨0, 0, 0, 0⟩)).1 := by
  have H := Lib.hid h
  have HM := Lib.hid hm
  have cd : w.cell? ⟨Bd, 0, none⟩ = some (.pointer (some ⟨db, 0, none⟩)) := hd.cell 0
  clear h hm hd
  go_enter Try.func66, Try.ntmps66
  go_wp2_with fail
  refine (show Calls _ _ #[.agg #[ptrV db], .agg (w4A ⟨0, 0, 0, 0⟩)] _ _ from jseal_q H.out ⟨0, 0, 0, 0⟩ HM.out).mono ?_
  rintro e w4 ⟨rfl, h4⟩
  have H4 := Lib.hid h4
  clear h4
  go_wp2_with fail
  go_ret
  exact ⟨rfl, H4.out⟩
set_option maxRecDepth 100000 in
theorem cput_q (h : Dq S w w db p) (count : Int) (hb : 0 ≤ count ∧ count ≤ 4096) (Bd Bc Bp : Nat) (A : Option Addr) (n cap : Nat) (l : List Pg) (hd : Blk w Bd 98 #[ptrV db]) (hw : Blk w Bc 3 #[.int .i64 count]) (hp : Blk w Bp 22 #[.slice A n cap])
    (hl : PgsAt w A n l) (hA : Apart S A n) (hok : PgsOk l) (hm : p.sm (20000 * (n + 3))) (hnn : n < 1099511627776) :
    Calls Try.prog 65 #[.pointer (some ⟨Bd, 0, none⟩), .pointer (some ⟨Bc, 0, none⟩), .pointer (some ⟨Bp, 0, none⟩)] w fun e w' => e = .returned (.int .i64 (p.runS (homeS count l)).2) ∧ Dq S w w' db (p.runS (homeS count l)).1 := by
  have H := Lib.hid h
  have HM := Lib.hid hm
  have HL := Lib.hid hl
  have HA := Lib.hid hA
  have HOK := Lib.hid hok
  have HB := Lib.hid hb
  have cd : w.cell? ⟨Bd, 0, none⟩ = some (.pointer (some ⟨db, 0, none⟩)) := hd.cell 0
  have cb : w.cell? ⟨Bc, 0, none⟩ = some (.int .i64 count) := hw.cell 0
  have cp : w.cell? ⟨Bp, 0, none⟩ = some (.slice A n cap) := hp.cell 0
  clear h hm hd hw hp hl hA hok
  go_enter Try.func65, Try.ntmps65
  go_wp2_with fail
  refine (show Calls _ _ #[.agg #[ptrV db], _, _] _ _ from jput_q H.out count HB.out A n cap l HL.out HA.out HOK.out HM.out hnn).mono ?_
  rintro e w4 ⟨rfl, h4⟩
  have H4 := Lib.hid h4
  clear h4
  go_wp2_with fail
  go_ret
  exact ⟨rfl, H4.out⟩
set_option maxRecDepth 100000 in
theorem clay_q (h : Dq S w w db p) (Bd Bp : Nat) (A : Option Addr) (n cap : Nat) (l : List Pg) (hd : Blk w Bd 98 #[ptrV db]) (hp : Blk w Bp 22 #[.slice A n cap])
    (hl : PgsAt w A n l) (hA : Apart S A n) (hok : PgsOk l) (hm : p.sm (20000 * (n + 1))) (hnn : n < 1099511627776) :
    Calls Try.prog 62 #[.pointer (some ⟨Bd, 0, none⟩), .pointer (some ⟨Bp, 0, none⟩)] w fun e w' => e = .returned (.int .i64 (aslR 0 l p).2) ∧ Dq S w w' db (aslR 0 l p).1 := by
  have H := Lib.hid h
  have HM := Lib.hid hm
  have HL := Lib.hid hl
  have HA := Lib.hid hA
  have HOK := Lib.hid hok
  have cd : w.cell? ⟨Bd, 0, none⟩ = some (.pointer (some ⟨db, 0, none⟩)) := hd.cell 0
  have cp : w.cell? ⟨Bp, 0, none⟩ = some (.slice A n cap) := hp.cell 0
  clear h hm hd hp hl hA hok
  go_enter Try.func62, Try.ntmps62
  go_wp2_with fail
  refine (show Calls _ _ #[.agg #[ptrV db], _] _ _ from jlay_q H.out A n cap l HL.out HA.out HOK.out HM.out hnn).mono ?_
  rintro e w4 ⟨rfl, h4⟩
  have H4 := Lib.hid h4
  clear h4
  go_wp2_with fail
  go_ret
  exact ⟨rfl, H4.out⟩
set_option maxRecDepth 100000 in
theorem cseal_q (h : Dq S w w db p) (Bd Bp Bo : Nat) (A : Option Addr) (n cap : Nat) (old : Nat) (hd : Blk w Bd 98 #[ptrV db]) (hp : Blk w Bp 22 #[.slice A n cap]) (ho : Blk w Bo 3 #[.int .i64 (old : Int)])
    (hn : n ≤ 4096) (hold : old ≤ 4096) (hm : p.sm 40000) :
    Calls Try.prog 64 #[.pointer (some ⟨Bd, 0, none⟩), .pointer (some ⟨Bp, 0, none⟩), .pointer (some ⟨Bo, 0, none⟩)] w fun e w' => e = .returned (.int .i64 (p.runS (headS nmJn ⟨(n : Int) + 1, old, 0, 0⟩)).2) ∧ Dq S w w' db (p.runS (headS nmJn ⟨(n : Int) + 1, old, 0, 0⟩)).1 := by
  have H := Lib.hid h
  have HM := Lib.hid hm
  have cd : w.cell? ⟨Bd, 0, none⟩ = some (.pointer (some ⟨db, 0, none⟩)) := hd.cell 0
  have cp : w.cell? ⟨Bp, 0, none⟩ = some (.slice A n cap) := hp.cell 0
  have co : w.cell? ⟨Bo, 0, none⟩ = some (.int .i64 (old : Int)) := ho.cell 0
  have hw1 : IntKind.u32.wrap ((n : Int) + 1) = (n : Int) + 1 := by rw [IntKind.wrap_u32]; omega
  have hw2 : IntKind.u32.wrap (old : Int) = (old : Int) := by rw [IntKind.wrap_u32]; omega
  clear h hm hd hp ho
  go_enter Try.func64, Try.ntmps64
  go_wp2_with fail
  refine (show Calls _ _ #[.agg #[ptrV db], .agg (w4A ⟨(n : Int) + 1, old, 0, 0⟩)] _ _ from jseal_q H.out ⟨(n : Int) + 1, old, 0, 0⟩ HM.out).mono ?_
  rintro e w4 ⟨rfl, h4⟩
  have H4 := Lib.hid h4
  clear h4
  go_wp2_with fail
  go_ret
  exact ⟨rfl, H4.out⟩
end
end Go.Proofs.Ytegcbdfilkecpaa
/- The journal: taken back; no condition but on the counts. -/
namespace Go.Proofs.Ytegcbdfilkecpaa
open Go.RowKit

theorem seqR_one (r : Pl → Pl × Int) (p : Pl) : seqR [r] p = r p := by
  unfold seqR
  split
  · rename_i h
    unfold seqR
    rw [← h]
  · rfl
theorem seqR_cons (r : Pl → Pl × Int) (rs : List (Pl → Pl × Int)) (p : Pl) : seqR (r :: rs) p = if (r p).2 = 0 then seqR rs (r p).1 else r p := rfl
theorem seqR3 (a b c : List Stp) (p : Pl) : seqR [fun p => p.runS a, fun p => p.runS b, fun p => p.runS c] p = p.runS (a ++ (b ++ c)) := by
  rw [runS_append, seqR_cons]
  split
  · rw [runS_append, seqR_cons]
    split
    · rw [seqR_one]
    · rfl
  · rfl
theorem seqR2 (a b : List Stp) (p : Pl) : seqR [fun p => p.runS a, fun p => p.runS b] p = p.runS (a ++ b) := by
  rw [runS_append, seqR_cons]
  split
  · rw [seqR_one]
  · rfl
theorem recsPg_ok {jl : List Int} {top : Int} : ∀ (i k : Nat) (last : Int) (l : List Pg), recsPg jl top i k last = some l → 0 ≤ last → l.length = i ∧ ∀ x ∈ l, last < x.n ∧ x.n ≤ top
  | 0, k, last, l, h, _ => by
    have : l = [] := by
      have h2 : some [] = some l := h
      injection h2 with h2
      exact h2.symm
    subst this
    simp
  | i + 1, k, last, l, h, h0 => by
    rw [recsPg_succ] at h
    generalize (jl.drop (64 + 320 * k)).take 320 = b at h
    split at h
    · cases h
    · split at h
      · rename_i hb
        cases hr : recsPg jl top i (k + 1) (num b 0) with
        | none => rw [hr] at h; cases h
        | some r =>
          rw [hr] at h
          injection h with h
          subst h
          obtain ⟨h1, h2⟩ := recsPg_ok i (k + 1) (num b 0) r hr (by omega)
          refine ⟨by simp [h1], fun x hx => ?_⟩
          rcases List.mem_cons.1 hx with rfl | hx
          · exact hb.2
          · have := h2 x hx
            omega
      · cases h
theorem recordsPg_ok {jl : List Int} {v : W4} {l : List Pg} (hv : W4Ok v) (ha : 1 ≤ v.a) (h : recordsPg jl v = some l) : l.length ≤ 4096 ∧ (∀ x ∈ l, 1 ≤ x.n ∧ x.n ≤ 4096) ∧ v.b ≤ 4096 := by
  unfold recordsPg at h
  split at h
  · cases h
  · rename_i hb
    obtain ⟨h1, h2⟩ := recsPg_ok _ _ _ _ h (by omega)
    refine ⟨by omega, fun x hx => ?_, by omega⟩
    have := h2 x hx
    omega
theorem wordsAt_ok {l : List Int} (h : ∀ y ∈ l, 0 ≤ y ∧ y < 256) (a : Nat) : W4Ok (wordsAt l a) := ⟨num_rng h _, num_rng h _, num_rng h _, num_rng h _⟩
theorem says_ok {l : List Int} (h : ∀ y ∈ l, 0 ≤ y ∧ y < 256) : W4Ok (says l) := by
  have h64 : ∀ y ∈ l.take 64, 0 ≤ y ∧ y < 256 := fun y hy => h y (List.mem_of_mem_take hy)
  unfold says
  split
  · constructor <;> constructor <;> decide
  · unfold openB
    split
    · exact wordsAt_ok h64 _
    · exact wordsAt_ok h64 _
theorem pgs_own {w : World} {n0 n cap : Nat} {A : Option Addr} {l : List Pg} (h : OwnPgs w n0 (.slice A n cap) l) (hn : l.length = n) : PgsAt w A n l := by
  subst hn
  refine RowsC.own (base := n0) (cap := cap) (e := 113) ?_ (by simp) ?_
  · have h1 := h.1
    unfold pgsCells at h1
    rw [List.flatMap_def] at h1
    exact h1
  · intro x hx
    obtain ⟨y, hy, rfl⟩ := List.mem_map.1 hx
    exact pgL_len (h.2 y hy)
def BkPost (S : Nat → Prop) (w : World) (db : Nat) (p : Pl) (e : Ending) (w' : World) : Prop := e = .returned (.tuple #[.bool p.jrecover.2.1, .int .i64 p.jrecover.2.2]) ∧ Dq S w w' db p.jrecover.1
section
variable {S : Nat → Prop} {w : World} {db : Nat} {p : Pl}
attribute [local go_sem ↓] loadW4 storeW4
set_option maxRecDepth 100000 in
set_option maxHeartbeats 1600000 in
theorem recover_q (h : Dq S w w db p) (hm : p.sm 90000000) :
    Calls Try.prog 12 #[ptrV db] w (BkPost S w db p) := by
  have H := Lib.hid h
  have HM := Lib.hid hm
  rcases hdn : p.down with _ | _
  · have HD := Lib.hid hdn
    have hw0 : p.wrong = 0 := by unfold Pl.wrong; rw [hdn]; rfl
    have HW0 := Lib.hid hw0
    rcases hhot : p.jhot with _ | _
    · have e1 : p.jrecover = (p, false, 0) := by unfold Pl.jrecover; rw [hdn, hhot]; rfl
      have HE1 := Lib.hid e1
      have HH := Lib.hid hhot
      clear h hm hdn hw0 hhot e1
      unfold ptrV
      go_enter Try.func12, Try.ntmps12
      go_wp2_with fail
      refine (show Calls _ _ #[ptrV db] _ _ from ready_q H.out).mono ?_
      rintro e w2 ⟨rfl, hk⟩
      rw [HW0.out]
      have HK := Lib.hid hk
      clear hk
      go_wp2_with fail
      refine (show Calls _ _ #[ptrV db] _ _ from hot_q (H.out.keep HK.out)).mono ?_
      rintro e w3 ⟨rfl, hk3⟩
      rw [HH.out]
      have HK3 := Lib.hid (HK.out.trans hk3 (fun _ _ q => q))
      clear hk3
      go_wp2_with fail
      go_ret2
      unfold BkPost
      rw [HE1.out]
      exact ⟨rfl, H.out.keep HK3.out⟩
    · have HH := Lib.hid hhot
      have hok := says_ok (H.out.seen_rng nmJn)
      have HOK := Lib.hid (show W4Ok p.jhead from hok)
      have hne : (p.jhead).a ≠ 0 := by
        unfold Pl.jhot at hhot
        rw [hdn] at hhot
        simpa using hhot
      have HA1 := Lib.hid (show 1 ≤ (p.jhead).a by have := (show W4Ok p.jhead from hok).a; omega)
      have hjd : p.jheadD = p.jhead := by unfold Pl.jheadD; rw [hdn]; rfl
      have HJD := Lib.hid hjd
      have e1 : p.jrecover = match recordsPg (p.seen nmJn) p.jhead with | none => (p, false, 8) | some l => ((p.runS (Pl.recS p.jhead l)).1, decide ((p.runS (Pl.recS p.jhead l)).2 = 0), (p.runS (Pl.recS p.jhead l)).2) := by
        unfold Pl.jrecover; rw [hdn, hhot]; rfl
      have HE1 := Lib.hid e1
      clear h hm hdn hw0 hhot e1 hok hne hjd
      unfold ptrV
      go_enter Try.func12, Try.ntmps12
      go_wp2_with fail
      refine (show Calls _ _ #[ptrV db] _ _ from ready_q H.out).mono ?_
      rintro e w2 ⟨rfl, hk⟩
      rw [HW0.out]
      have HK := Lib.hid hk
      clear hk
      go_wp2_with fail
      refine (show Calls _ _ #[ptrV db] _ _ from hot_q (H.out.keep HK.out)).mono ?_
      rintro e w3 ⟨rfl, hk3⟩
      rw [HH.out]
      have HK3 := Lib.hid (HK.out.trans hk3 (fun _ _ q => q))
      clear hk3
      go_wp2_with fail
      have hbd : Blk (w3.alloc (.cells #[ptrV db] 98)) w3.heap.size 98 #[ptrV db] := Blk.new _ _ _
      have hk4 : Kp NoB w (w3.alloc (.cells #[ptrV db] 98)) := HK3.out.alloc _
      have HBD := Lib.hid hbd
      have HK4 := Lib.hid hk4
      clear hbd hk4
      refine (show Calls _ _ #[.agg #[ptrV db]] _ _ from head_q (H.out.keep HK4.out)).mono ?_
      rintro e w4 ⟨rfl, hk4⟩
      rw [HJD.out]
      have hbd4 := HBD.out.keep hk4 (fun q => q)
      have hlt4 := hbd4.lt
      have hk5 := HK4.out.trans hk4 (fun _ _ q => q)
      have hb := Blk.new w4 102 #[.int .u32 0, .int .u32 0, .int .u32 0, .int .u32 0]
      have hbw := hb.whole (w4A p.jhead) rfl
      have tb := hb.thereAll 4 rfl
      have o1 := w4A_ones p.jhead
      have s1 : (w4A p.jhead).size = 4 := rfl
      have hk6 : Kp NoB w4 ((w4.alloc (.cells #[.int .u32 0, .int .u32 0, .int .u32 0, .int .u32 0] 102)).setCells w4.heap.size 0 (w4A p.jhead).toList) := Kp.setCells (.inl (Nat.le_refl _)) _ _ _ ((Kp.refl _ _).alloc _)
      have hbd6 := hbd4.keep hk6 (fun q => q)
      have cd6 := hbd6.cell 0
      have tw6 := hbw.thereAll 4 rfl
      have rw6 := hbw.readAll 4 rfl
      have HK6 := Lib.hid (hk5.trans hk6 (fun _ _ q => q))
      have HBW := Lib.hid hbw
      have HBD6 := Lib.hid hbd6
      have HNE : Hid (w3.heap.size < w4.heap.size) := Lib.hid hlt4
      obtain ⟨RR, hRR⟩ : ∃ RR, w4A p.jhead = RR := ⟨_, rfl⟩
      rw [hRR] at o1 s1 HK6 HBW HBD6 cd6 tw6 rw6 ⊢
      have HRR := Lib.hid hRR
      unfold ptrV at cd6
      rw [show (#[Value.pointer (some ⟨db, 0, none⟩)] : Array Value)[0]? = some (Value.pointer (some ⟨db, 0, none⟩)) from rfl] at cd6
      clear hk4 hbd4 hk5 hb hbw hk6 hbd6 hRR hlt4
      go_wp2_with fail
      generalize (w4.alloc (.cells #[.int .u32 0, .int .u32 0, .int .u32 0, .int .u32 0] 102)).setCells w4.heap.size 0 RR.toList = w5 at HK6 HBW HBD6 cd6 tw6 rw6 ⊢
      obtain ⟨Bd, hBd⟩ : ∃ Bd, w3.heap.size = Bd := ⟨_, rfl⟩
      obtain ⟨Bw, hBw⟩ : ∃ Bw, w4.heap.size = Bw := ⟨_, rfl⟩
      have HSB : Hid (w.heap.size ≤ Bd ∧ w.heap.size ≤ Bw) := Lib.hid (by
        have h1 := HK3.out.size
        have h2 := HNE.out
        omega)
      rw [hBd] at HBD6 cd6 ⊢
      rw [hBw] at HBW tw6 rw6 ⊢
      clear hBd hBw
      rw [← HRR.out]
      refine (show Calls _ _ #[.agg #[ptrV db], _] _ _ from records_q (H.out.base1 HK6.out) HD.out p.jhead HOK.out HA1.out).mono ?_
      rintro e w6 ⟨hk7, hr⟩
      rcases hr with ⟨hrn, rfl⟩ | ⟨l, vv, hrs, rfl, how⟩
      · have e2 : p.jrecover = (p, false, 8) := by rw [HE1.out, hrn]
        have HE2 := Lib.hid e2
        have HK7 := Lib.hid (HK6.out.trans hk7 (fun _ _ q => q))
        clear hk7 hrn e2
        go_wp2_with fail
        go_ret2
        unfold BkPost
        rw [HE2.out]
        exact ⟨rfl, H.out.keep (HK7.out.alloc _)⟩
      · obtain ⟨A, cap, rfl⟩ := own_slice how.1
        obtain ⟨n, hn⟩ : ∃ n, l.length = n := ⟨_, rfl⟩
        have how2 : OwnPgs w6 w5.heap.size (.slice A n cap) l := by rw [← hn]; exact how
        have hpg := pgs_own how2 hn
        obtain ⟨hl1, hl2, hl3⟩ := recordsPg_ok HOK.out HA1.out hrs
        have hpo : PgsOk l := ⟨how.2, hl2⟩
        have e2 : p.jrecover = ((p.runS (Pl.recS p.jhead l)).1, decide ((p.runS (Pl.recS p.jhead l)).2 = 0), (p.runS (Pl.recS p.jhead l)).2) := by rw [HE1.out, hrs]
        have HE2 := Lib.hid e2
        have hAp : ∀ g o, A = some ⟨g, o, none⟩ → 0 < n → w5.heap.size ≤ g := fun g o e hn0 => by
          have h1 := how2.1
          rw [hn] at h1
          obtain ⟨g', hg, hb, _⟩ := own_at h1 hn0
          rw [e] at hg
          injection hg with hg
          injection hg with hg
          omega
        have HPG := Lib.hid hpg
        have HPO := Lib.hid hpo
        have HAP := Lib.hid hAp
        have HN := Lib.hid hn
        have HL4 := Lib.hid hl1
        have HVB := Lib.hid (show 0 ≤ p.jhead.b ∧ p.jhead.b ≤ 4096 from ⟨HOK.out.b.1, hl3⟩)
        have HK7 := Lib.hid (HK6.out.trans hk7 (fun _ _ q => q))
        have HBD7 := Lib.hid (HBD6.out.keep hk7 (fun q => q))
        have HBW7 := Lib.hid (HBW.out.keep hk7 (fun q => q))
        rw [hn]
        clear hk7 hrs how how2 hpg hpo hl1 hl2 hl3 e2 hAp hn cd6 tw6 rw6 o1 s1
        go_wp2_with fail
        have hka : Kp NoB w6 (w6.alloc (.cells #[.slice A n cap] 22)) := (Kp.refl _ _).alloc _
        have hbp : Blk (w6.alloc (.cells #[.slice A n cap] 22)) w6.heap.size 22 #[.slice A n cap] := Blk.new _ _ _
        have hs8 : (w6.alloc (.cells #[.slice A n cap] 22)).heap.size = w6.heap.size + 1 := by simp
        generalize w6.alloc (.cells #[.slice A n cap] 22) = w8 at hka hbp hs8 ⊢
        have hb9 := Blk.newAt w8 178 #[.func (.func 53) #[] #[.pointer (some ⟨Bd, 0, none⟩), .pointer (some ⟨Bw, 0, none⟩)], .func (.func 55) #[] #[.pointer (some ⟨Bd, 0, none⟩), .pointer (some ⟨Bw, 0, none⟩), .pointer (some ⟨w6.heap.size, 0, none⟩)], .func (.func 57) #[] #[.pointer (some ⟨Bd, 0, none⟩)]] _ hs8
        have hkb := (Kp.refl NoB w8).alloc (.cells #[.func (.func 53) #[] #[.pointer (some ⟨Bd, 0, none⟩), .pointer (some ⟨Bw, 0, none⟩)], .func (.func 55) #[] #[.pointer (some ⟨Bd, 0, none⟩), .pointer (some ⟨Bw, 0, none⟩), .pointer (some ⟨w6.heap.size, 0, none⟩)], .func (.func 57) #[] #[.pointer (some ⟨Bd, 0, none⟩)]] 178)
        generalize w8.alloc (.cells #[.func (.func 53) #[] #[.pointer (some ⟨Bd, 0, none⟩), .pointer (some ⟨Bw, 0, none⟩)], .func (.func 55) #[] #[.pointer (some ⟨Bd, 0, none⟩), .pointer (some ⟨Bw, 0, none⟩), .pointer (some ⟨w6.heap.size, 0, none⟩)], .func (.func 57) #[] #[.pointer (some ⟨Bd, 0, none⟩)]] 178) = w9 at hb9 hkb ⊢
        have hkab := hka.trans hkb (fun _ _ q => q)
        have hk9 := HK7.out.trans hkab (fun _ _ q => q)
        have hlt := H.out.lt
        have h6s := HK7.out.size
        have hnS : ∀ g, w.heap.size ≤ g → ¬ S g := fun g hg q => by have := hlt g q; omega
        have hKK : (fun S w => ((Blk w Bd 98 #[ptrV db] ∧ ¬ S Bd) ∧ (Blk w Bw 102 (w4A p.jhead) ∧ ¬ S Bw)) ∧ ((Blk w w6.heap.size 22 #[.slice A n cap] ∧ ¬ S w6.heap.size) ∧ (PgsAt w A n l ∧ Apart S A n))) S w9 :=
          ⟨⟨⟨HBD7.out.keep hkab (fun q => q), hnS _ HSB.out.1⟩, ⟨by rw [HRR.out]; exact HBW7.out.keep hkab (fun q => q), hnS _ HSB.out.2⟩⟩,
           ⟨⟨hbp.keep hkb (fun q => q), hnS _ h6s⟩, ⟨HPG.out.keep hkab, fun g o e hn0 => hnS _ (by have h1 := HAP.out g o e hn0; have h2 := HK6.out.size; omega)⟩⟩⟩
        have hcost : p.sm (40000 + (20000 * (n + 3) + (40000 + 0))) := sm_mono HM.out (by have h1 := HL4.out; have h2 := HN.out; omega)
        refine (all_steps (n := 3) (cap := 3) (((kept_blk Bd 98 #[ptrV db]).and (kept_blk Bw 102 (w4A p.jhead))).and ((kept_blk w6.heap.size 22 #[.slice A n cap]).and (kept_pgs A n l)))
          [⟨53, #[], #[.pointer (some ⟨Bd, 0, none⟩), .pointer (some ⟨Bw, 0, none⟩)], fun p' => p'.runS (headS nmJn p.jhead), 40000⟩,
           ⟨55, #[], #[.pointer (some ⟨Bd, 0, none⟩), .pointer (some ⟨Bw, 0, none⟩), .pointer (some ⟨w6.heap.size, 0, none⟩)], fun p' => p'.runS (homeS p.jhead.b l), 20000 * (n + 3)⟩,
           ⟨57, #[], #[.pointer (some ⟨Bd, 0, none⟩)], fun p' => p'.runS (headS nmJn ⟨0, 0, 0, 0⟩), 40000⟩]
          S w9 p ?_ rfl (by omega) hb9 (hnS _ (by omega)) (H.out.base1 hk9) hKK hcost).mono ?_
        · intro s hs
          simp only [List.mem_cons, List.not_mem_nil, or_false] at hs
          rcases hs with rfl | rfl | rfl
          · exact ⟨enters_of Try.func53 (by kernel_rfl) rfl, fun S w p' h hk hm => sealAt_q h p.jhead Bd Bw hk.1.1.1 hk.1.2.1 hm, fun p' k hm => sm_run _ (by exact hm)⟩
          · exact ⟨enters_of Try.func55 (by kernel_rfl) rfl, fun S w p' h hk hm => putAt_q h p.jhead HVB.out Bd Bw _ A n cap l hk.1.1.1 hk.1.2.1 hk.2.1.1 hk.2.2.1 hk.2.2.2 HPO.out hm (by have h1 := HL4.out; have h2 := HN.out; omega), fun p' k hm => sm_run _ (sm_mono hm (by have h2 := HN.out; simp only [homeS, homeW, List.length_append, List.length_map, List.length_cons, List.length_nil]; omega))⟩
          · exact ⟨enters_of Try.func57 (by kernel_rfl) rfl, fun S w p' h hk hm => seal0_q h Bd hk.1.1.1 hm, fun p' k hm => sm_run _ (by exact hm)⟩
        · rintro e w10 ⟨he, h10⟩
          have hz : seqR [fun p' => p'.runS (headS nmJn p.jhead), fun p' => p'.runS (homeS p.jhead.b l), fun p' => p'.runS (headS nmJn ⟨0, 0, 0, 0⟩)] p = p.runS (Pl.recS p.jhead l) := seqR3 _ _ _ p
          obtain ⟨Z, hZ⟩ : ∃ Z, p.runS (Pl.recS p.jhead l) = Z := ⟨_, rfl⟩
          rw [hZ] at hz HE2
          change Dq S w9 w10 db (seqR [fun p' => p'.runS (headS nmJn p.jhead), fun p' => p'.runS (homeS p.jhead.b l), fun p' => p'.runS (headS nmJn ⟨0, 0, 0, 0⟩)] p).1 at h10
          rw [hz] at h10
          have H10 := Lib.hid (Dq.up (H.out.base1 hk9) hk9 hlt h10)
          have HFIN : Hid (∀ b, b = decide (Z.2 = 0) → BkPost S w db p (.returned (.tuple #[.bool b, .int .i64 Z.2])) w10) := Lib.hid (fun b hb => by
            unfold BkPost
            rw [HE2.out, hb]
            exact ⟨rfl, H10.out⟩)
          have he2 : e = .returned (.int .i64 Z.2) := he.trans (by rw [← hz]; rfl)
          subst he2
          generalize Z.2 = z2 at HFIN ⊢
          clear hka hbp hs8 hb9 hkb hkab hk9 hlt h6s hnS hKK hcost he h10 hz hZ
          by_cases h0 : z2 = 0
          · subst h0
            go_wp2_with fail
            go_ret2
            exact HFIN.out true rfl
          · have hb0 : (z2 == 0) = false := by simpa using h0
            have hb1 : (z2 != 0) = true := by simpa using h0
            have H0 := Lib.hid h0
            go_wp2_with fail
            go_ret2
            exact HFIN.out false (by rw [decide_eq_false H0.out])
  · have HD := Lib.hid hdn
    have hw0 : p.wrong = 7 := by unfold Pl.wrong; rw [hdn]; rfl
    have HW0 := Lib.hid hw0
    have e1 : p.jrecover = (p, false, 7) := by unfold Pl.jrecover; rw [hdn]; rfl
    have HE1 := Lib.hid e1
    clear h hm hdn hw0 e1
    unfold ptrV
    go_enter Try.func12, Try.ntmps12
    go_wp2_with fail
    refine (show Calls _ _ #[ptrV db] _ _ from ready_q H.out).mono ?_
    rintro e w2 ⟨rfl, hk⟩
    rw [HW0.out]
    have HK := Lib.hid hk
    clear hk
    go_wp2_with fail
    go_ret2
    unfold BkPost
    rw [HE1.out]
    exact ⟨rfl, H.out.keep HK.out⟩
end
end Go.Proofs.Ytegcbdfilkecpaa
/- The journal in plain Lean: what the steps laid aside answer; no condition. -/
namespace Go.Proofs.Ytegcbdfilkecpaa
open Go

theorem chain_len (count : Int) : ∀ (l : List Pg) (last : Int), chainPg count last l = true → last ≤ count → last + l.length ≤ count ∧ ∀ x ∈ l, last < x.n ∧ x.n ≤ count
  | [], last, _, h => by simp; exact h
  | x :: r, last, h, _ => by
    rw [chainPg_cons, Bool.and_eq_true, decide_eq_true_iff] at h
    obtain ⟨h1, h2⟩ := chain_len count r x.n h.2 h.1.2
    refine ⟨by simp only [List.length_cons]; omega, fun y hy => ?_⟩
    rcases List.mem_cons.1 hy with rfl | hy
    · exact h.1
    · have := h2 y hy
      omega
theorem chain_rises (count : Int) : ∀ (l : List Pg) (last : Int), chainPg count last l = true → last ≤ count → Rises l
  | [], _, _, _ => fun i j x y _ h => by simp at h
  | z :: r, last, h, hlc => by
    rw [chainPg_cons, Bool.and_eq_true, decide_eq_true_iff] at h
    have ih := chain_rises count r z.n h.2 h.1.2
    have hl := (chain_len count r z.n h.2 h.1.2).2
    intro i j x y hij hx hy
    cases j with
    | zero => omega
    | succ j =>
      rw [List.getElem?_cons_succ] at hy
      cases i with
      | zero =>
        rw [List.getElem?_cons_zero] at hx
        injection hx with hx
        subst hx
        exact (hl y (List.mem_of_getElem? hy)).1
      | succ i =>
        rw [List.getElem?_cons_succ] at hx
        exact ih i j x y (by omega) hx hy
theorem fit_facts {old count : Int} {l : List Pg} (h : fitPg old count l = true) (hok : ∀ x ∈ l, PgOk x) : (0 ≤ count ∧ count ≤ 4096) ∧ l.length ≤ 4096 ∧ PgsOk l ∧ Rises l := by
  unfold fitPg at h
  rw [Bool.and_eq_true, Bool.and_eq_true, decide_eq_true_iff] at h
  obtain ⟨h1, h2⟩ := chain_len count l 0 h.2.1 h.1.1
  refine ⟨h.1, by omega, ⟨hok, fun x hx => ?_⟩, chain_rises count l 0 h.2.1 h.1.1⟩
  have := h2 x hx
  omega
/-- no file is longer than may be -/
def Pl.le (p : Pl) : Prop := ∀ s, (p.seen s).length ≤ 1048576
theorem le_step {p : Pl} (h : p.le) : p.step.le := h
theorem fits_0 {p : Pl} {s : ByteArray} {n : Int} (h : ¬ p.fits s n ≠ 0) : n ≤ 1048576 := by
  have h2 : p.fits s n = 0 := by omega
  unfold Pl.fits at h2
  split at h2
  · omega
  · omega
theorem fits_3 {p : Pl} {s : ByteArray} {n : Int} (h : n ≤ 1048576) : p.fits s n = 0 ∨ p.fits s n = 5 := by
  unfold Pl.fits
  rw [if_neg (by omega)]
  split
  · exact .inr rfl
  · exact .inl rfl
theorem le_upd {p : Pl} (h : p.le) (s : ByteArray) (l : List Int) (hl : l.length ≤ 1048576) : ∀ t, (upd p.seen s l t).length ≤ 1048576 := fun t => by
  unfold upd
  split
  · exact hl
  · exact h t
theorem put_le {l d : List Int} {a M : Nat} (hl : l.length ≤ M) (hd : a + d.length ≤ M) (ha : a ≤ l.length) : (Pl.put l a d).length ≤ M := by
  unfold Pl.put
  simp
  omega
theorem le_length {p : Pl} (h : p.le) (s : ByteArray) (n : Nat) (hn : n ≤ 1048576) : (p.length s n).le := by
  unfold Pl.length
  split
  · exact h
  · intro t
    exact le_upd (p := p.at_) h s _ (by rw [sizedF_len]; exact hn) t
theorem len_seen (p : Pl) (s : ByteArray) (n : Nat) : ((p.length s n).seen s).length = n := by
  unfold Pl.length
  split
  · rename_i e
    show (p.seen s).length = n
    exact e.symm
  · show (upd p.seen s (sizedF (p.seen s) n) s).length = n
    rw [upd_same, sizedF_len]
theorem le_write {p : Pl} (h : p.le) (s : ByteArray) (a : Int) (d : List Int) : (p.write s a d).le := by
  unfold Pl.write
  split
  · exact h
  · rename_i h1
    split
    · exact h
    · split
      · exact h
      · rename_i h3
        have hm := fits_0 h3
        unfold Pl.write1
        intro t
        show (upd _ s _ t).length ≤ 1048576
        have hal : (a.toNat : Int) = a := by omega
        split
        · refine le_upd (p := p.length s (a.toNat + d.length)) (le_length h s _ (by omega)) s _ ?_ t
          refine put_le (M := 1048576) ?_ (by omega) ?_
          · rw [len_seen]; omega
          · rw [len_seen]; omega
        · refine le_upd (p := p) h s _ ?_ t
          refine put_le (h s) (by omega) (by omega)
theorem le_trunc {p : Pl} (h : p.le) (s : ByteArray) (n : Int) : (p.trunc s n).le := by
  unfold Pl.trunc
  split
  · exact h
  · rename_i h1
    have hm := fits_0 (p := p) (s := s) (n := n) (by omega)
    exact le_step (le_length h s _ (by omega))
theorem le_sync {p : Pl} (h : p.le) (s : ByteArray) : (p.sync s).le := by
  unfold Pl.sync
  split
  · exact h
  · split
    · exact h
    · exact h
theorem le_st {p : Pl} (h : p.le) (s : Stp) : (p.stP s).le := by
  unfold Pl.stP
  split
  · exact le_write h _ _ _
  · split
    · exact le_trunc h _ _
    · exact le_sync h _
theorem le_run : ∀ (l : List Stp) {p : Pl}, p.le → (p.runS l).1.le
  | [], _, h => h
  | s :: r, p, h => by
    rw [runS_cons]
    split
    · exact le_run r (le_st h s)
    · exact le_st h s
theorem stepE_cases (p : Pl) : p.stepE = 0 ∨ p.stepE = 7 := by
  unfold Pl.stepE
  split
  · exact .inr rfl
  · exact .inl rfl
/-- a step that is answered OK leaves the disk up -/
theorem up_st {p : Pl} (hd : p.down = false) (s : Stp) (h : p.stE s = 0) : (p.stP s).down = false := by
  have hs : ∀ q : Pl, q.down = false → p.crash = q.crash → p.stepE = 0 → q.step.down = false := fun q hq hc h0 => by
    unfold Pl.stepE at h0
    unfold Pl.step
    simp only [← hc]
    split at h0
    · omega
    · rename_i hne
      rw [if_neg hne]
      exact hq
  have hlen : ∀ s n, (p.length s n).down = false ∧ p.crash = (p.length s n).crash := fun s n => by
    unfold Pl.length
    split <;> exact ⟨hd, rfl⟩
  unfold Pl.stE at h
  unfold Pl.stP
  split
  · rename_i hk
    rw [if_pos hk] at h
    unfold Pl.writeE at h
    unfold Pl.write
    rw [hd] at h
    simp only [Bool.false_eq_true, if_false] at h
    split
    · exact hd
    · rename_i h1
      rw [if_neg (by omega), if_neg (by omega)] at h
      split
      · rename_i h2
        rw [if_pos h2] at h
        exact hs p hd rfl h
      · rename_i h2
        rw [if_neg h2] at h
        split
        · exact hd
        · rename_i h3
          rw [if_neg h3] at h
          unfold Pl.write1
          refine hs _ ?_ ?_ h
          · show Pl.down _ = false
            simp only [Pl.pend, Pl.setSeen, Pl.at_]
            split
            · exact (hlen _ _).1
            · exact hd
          · simp only [Pl.pend, Pl.setSeen, Pl.at_]
            split
            · exact (hlen _ _).2
            · rfl
  · rename_i hk
    rw [if_neg hk] at h
    split
    · rename_i hk1
      rw [if_pos hk1] at h
      unfold Pl.truncE at h
      unfold Pl.trunc
      rw [hd] at h
      simp only [Bool.false_eq_true, if_false] at h
      split
      · exact hd
      · rename_i h1
        rw [if_neg (by omega), if_neg (by omega)] at h
        exact hs _ (hlen _ _).1 (hlen _ _).2 h
    · rename_i hk1
      rw [if_neg hk1] at h
      unfold Pl.syncE at h
      rw [hd] at h
      simp only [Bool.false_eq_true, if_false] at h
      unfold Pl.sync
      rw [if_neg (by rw [hd]; simp), if_neg (by omega)]
      show p.step.down = false
      exact hs p hd rfl h
theorem up_run : ∀ (l : List Stp) {p : Pl}, p.down = false → (p.runS l).2 = 0 → (p.runS l).1.down = false
  | [], _, h, _ => h
  | s :: r, p, h, h2 => by
    rw [runS_cons] at h2 ⊢
    by_cases q : p.stE s = 0
    · rw [if_pos q] at h2 ⊢
      exact up_run r (up_st h s q) h2
    · rw [if_neg q] at h2
      exact absurd h2 q
theorem write_ne3 {p : Pl} (h : p.le) (s : ByteArray) (a : Int) (d : List Int) (h0 : 0 ≤ a) (h1 : a + d.length ≤ 1048576) : p.writeE s a d ≠ 3 := by
  unfold Pl.writeE
  split
  · decide
  · rw [if_neg (by omega), if_neg (by omega)]
    split
    · rcases stepE_cases p with e | e <;> rw [e] <;> decide
    · have hm : (max (a + d.length) (p.seen s).length : Int) ≤ 1048576 := by have := h s; omega
      split
      · rcases fits_3 (p := p) (s := s) hm with e | e <;> rw [e] <;> decide
      · rcases stepE_cases p with e | e <;> rw [e] <;> decide
theorem sync_ne3 (p : Pl) : p.syncE ≠ 3 := by
  unfold Pl.syncE
  split
  · decide
  · rcases stepE_cases p with e | e <;> rw [e] <;> decide
theorem head_ne3 {p : Pl} (h : p.le) (nm : ByteArray) (w : W4) : (p.runS (headS nm w)).2 ≠ 3 := by
  unfold headS
  rw [runS_cons]
  split
  · rw [runS_cons]
    split
    · rw [runS_nil]; show (0 : Int) ≠ 3; decide
    · exact sync_ne3 _
  · exact write_ne3 h nm 0 (sealB w) (by omega) (by rw [seal_len]; omega)
theorem fullE_id {e : Int} (h : e ≠ 3) : fullE e = e := by unfold fullE; rw [if_neg h]
theorem fullE_0 {e : Int} : fullE e = 0 ↔ e = 0 := by
  unfold fullE
  split <;> omega
theorem asl_run : ∀ (l : List Pg) (k : Nat) (p : Pl), p.down = false → p.le → (∀ x ∈ l, x.b.length = 256) →
    aslR k l p = ((p.runS (asideW k l ++ [⟨2, nmJn, 0, []⟩])).1, fullE (p.runS (asideW k l ++ [⟨2, nmJn, 0, []⟩])).2) := by
  intro l
  induction l with
  | nil =>
    intro k p hd hle hl
    rw [aslR_nil]
    show _ = ((p.runS [⟨2, nmJn, 0, []⟩]).1, fullE (p.runS [⟨2, nmJn, 0, []⟩]).2)
    rw [runS_cons, stE2, stP2]
    split
    · rename_i h0
      rw [runS_nil, h0]
      rfl
    · rw [fullE_id (sync_ne3 p)]
  | cons x r ih =>
    intro k p hd hle hl
    have hb : (recB x).length = 320 := by
      unfold recB
      rw [List.length_append, List.length_append, hl x (List.mem_cons_self ..)]
      unfold zeros
      rw [List.length_replicate]
      rfl
    rw [aslR_cons]
    show _ = ((p.runS (⟨0, nmJn, 64 + 320 * (k : Int), recB x⟩ :: (asideW (k + 1) r ++ [⟨2, nmJn, 0, []⟩]))).1, fullE (p.runS (⟨0, nmJn, 64 + 320 * (k : Int), recB x⟩ :: (asideW (k + 1) r ++ [⟨2, nmJn, 0, []⟩]))).2)
    rw [runS_cons, stE0, stP0]
    by_cases hbig : 1048576 < 64 + 320 * (k : Int) + 320
    · have e3 : p.writeE nmJn (64 + 320 * (k : Int)) (recB x) = 3 := by
        unfold Pl.writeE
        rw [hd, if_neg (by simp), if_neg (by omega), if_pos (by rw [hb]; omega)]
      have ep : p.write nmJn (64 + 320 * (k : Int)) (recB x) = p := by
        unfold Pl.write
        rw [if_pos (by rw [hb]; omega)]
      rw [if_pos hbig, e3, if_neg (by decide), ep]
      rfl
    · rw [if_neg hbig]
      split
      · rename_i h0
        exact ih (k + 1) _ (up_st hd ⟨0, nmJn, 64 + 320 * (k : Int), recB x⟩ h0) (le_write hle _ _ _) (fun y hy => hl y (List.mem_cons_of_mem _ hy))
      · rw [fullE_id (write_ne3 hle _ _ _ (by omega) (by rw [hb]; omega))]
theorem first_run (p : Pl) (hd : p.down = false) (hle : p.le) (old : Nat) (ao : List Pg) (hl : ∀ x ∈ ao, x.b.length = 256) :
    seqR [fun p => p.runS (headS nmJn p.jheadD), fun p => aslR 0 ao p, fun p => p.runS (headS nmJn ⟨(ao.length : Int) + 1, old, 0, 0⟩)] p = ((p.runS (firstS p.jhead old ao)).1, fullE (p.runS (firstS p.jhead old ao)).2) := by
  have hj : p.jheadD = p.jhead := by unfold Pl.jheadD; rw [hd]; rfl
  unfold firstS
  rw [runS_append, seqR_cons, hj]
  split
  · rename_i h0
    have hd1 := up_run _ hd h0
    have hle1 := le_run (headS nmJn p.jhead) hle
    generalize (p.runS (headS nmJn p.jhead)).1 = q at hd1 hle1 ⊢
    rw [runS_append, seqR_cons, seqR_one, asl_run ao 0 q hd1 hle1 hl]
    unfold asideS
    simp only [fullE_0]
    split
    · rename_i h1
      have hle2 := le_run (asideW 0 ao ++ [⟨2, nmJn, 0, []⟩]) hle1
      rw [fullE_id (head_ne3 hle2 _ _)]
    · rfl
  · rw [fullE_id (head_ne3 hle _ _)]
end Go.Proofs.Ytegcbdfilkecpaa
/- The journal: pages gathered that are to be laid aside: rules of the region that gathers; no condition. -/
namespace Go.Proofs.Ytegcbdfilkecpaa
open Go Go.RowKit

section
variable {P : Program} {ops : Array Oper} {Q : Exit → Act → World → Prop} {md : Region.Mode} {S : World → Prop} {fuel : Nat} {listed : Array Bool} {a : Act} {w : World} {i : Nat} {rs : List Nat}
variable {ds : Option Tmp} {op : Op} {ty : TypeId} {ps : String} {af : Array Edge}
/-- an operation that yields nothing -/
theorem AllReadyH.skipR {gd : Option (Nat × Bool)} (ho : ops[i]? = some ⟨none, op, ty, ps, af, gd⟩) (hw : Region.wanted ⟨none, op, ty, ps, af, gd⟩ (yielded ops a.tmps) = true) (w' : World)
    (hr : (execOp a.eval ⟨none, op, ty, ps, af, gd⟩).run P w = .ok .skip w') (hS : S w')
    (hn : wpAnyH P md ops Q S fuel (listed.setIfInBounds i true) a w')
    (hs : AllReadyH P md ops Q S fuel listed a w rs) : AllReadyH P md ops Q S fuel listed a w (i :: rs) :=
  AllReadyH.cons ho (fun K hK => by
    rw [if_pos hw]
    unfold Oper.wp
    rw [hr, Oper.upon_skip]
    exact hK.out _ _ hS (fun _ => hn)) hs
/-- an append to a row of the caller's own -/
theorem AllReadyH.appendB {s x : Operand} {t : TypeId} (ho : ops[i]? = some ⟨ds, .call { callee := .builtin .append, args := #[s, x], argTypes := #[t, t] }, ty, ps, af, none⟩) (hw : Region.wanted ⟨ds, .call { callee := .builtin .append, args := #[s, x], argTypes := #[t, t] }, ty, ps, af, none⟩ (yielded ops a.tmps) = true)
    (base : Nat) (e : TypeId) (j : TypeInfo) (z : Value) (size bytes : Nat) (ht : P.underlying t = some (.slice e)) (hi : P.info? e = some j) (hz : j.zero = some z)
    (hsize : j.size = size) (hby : j.bytes = bytes) (hzs : z.cells.size = size) (hsz : 0 < size)
    (v : Value) (n : Nat) (xs : List Value) (hsv : a.eval s = v) (hown : w.ownsRow base e size v n xs)
    (ad : Addr) (m c : Nat) (news : List Value) (hx : a.eval x = .slice (some ad) m c) (hl : news.length = m * size) (hnews : ∀ j u, news[j]? = some u → w.cell? (ad.add j) = some u) (h1 : ∀ u ∈ news, u.oneCell' = true)
    (h63 : n + m ≤ maxLen) (hbytes : (n + m) * bytes ≤ 140737488355328) (hbase : base ≤ w.heap.size)
    (hS : ∀ v' w', w'.ownsRow base e size v' (n + m) (xs ++ news) → w.grownBy w' v.ownBlock → (∀ b, v'.ownBlock = some b → v.ownBlock = some b ∨ w.heap.size ≤ b) → S w')
    (hn : ∀ v' w', w'.ownsRow base e size v' (n + m) (xs ++ news) → w.grownBy w' v.ownBlock → (∀ b, v'.ownBlock = some b → v.ownBlock = some b ∨ w.heap.size ≤ b) → wpAnyH P md ops Q S fuel (listed.setIfInBounds i true) (a.put ds v') w')
    (hs : AllReadyH P md ops Q S fuel listed a w rs) : AllReadyH P md ops Q S fuel listed a w (i :: rs) :=
  AllReadyH.cons ho (fun K hK => by
    rw [if_pos hw]
    exact wp_append_ownB s x t rfl base e j z size bytes ht hi hz hsize hby hzs hsz v n xs hsv hown ad m c news hx hl hnews h1 h63 hbytes hbase
      (fun v' w' q1 q2 q3 => hK.out _ _ (hS v' w' q1 q2 q3) (fun _ => hn v' w' q1 q2 q3))) hs
end
theorem stSl {w : World} {g : Nat} {v0 : Value} (h : Blk w g 22 #[v0]) (ev : Operand → Value) {x y : Operand} {A : Option Addr} {n c : Nat} {ty : TypeId} {ps : String} {af : Array Edge} {gd : Option (Nat × Bool)} (hx : ev x = .pointer (some ⟨g, 0, none⟩)) (hy : ev y = .slice A n c) :
    (execOp ev ⟨none, .store 22 x y, ty, ps, af, gd⟩).run Try.prog w = .ok .skip (w.setCell ⟨g, 0, none⟩ (.slice A n c)) := by
  have hc : w.cell? ⟨g, 0, none⟩ = some v0 := h.cell 0
  have hf : w.frozen? ⟨g, 0, none⟩ = false := h.frozen 0
  simp only [execOp, hx, hy]
  go_simp
theorem asideW_len : ∀ (l : List Pg) (k : Nat), (asideW k l).length = l.length
  | [], _ => rfl
  | x :: r, k => by
    unfold asideW
    rw [List.length_cons, List.length_cons, asideW_len r (k + 1)]
theorem ldSl {w : World} {g : Nat} {A : Option Addr} {n c : Nat} (hc : w.cell? ⟨g, 0, none⟩ = some (.slice A n c)) (ev : Operand → Value) {x : Operand} {ds : Option Tmp} {ty : TypeId} {ps : String} {af : Array Edge} {gd : Option (Nat × Bool)} (hx : ev x = .pointer (some ⟨g, 0, none⟩)) :
    (execOp ev ⟨ds, .load 22 x, ty, ps, af, gd⟩).run Try.prog w = .ok (.value (.slice A n c)) w := by
  simp only [execOp, hx]
  go_simp
/-- in the midst of the region -/
structure CoT (wL : World) (Ba Bd db : Nat) (v10 : Value) (W : World) : Prop where
  kl : Kp (OnB Ba) wL W
  ba : Blk W Ba 22 #[v10]
  bd : Blk W Bd 98 #[ptrV db]
structure CoS (wL : World) (Ba Bd db : Nat) (v10 : Value) (W0 W : World) : Prop extends CoT wL Ba Bd db v10 W where
  kp : Kp NoB W0 W
section
variable {wL : World} {Ba Bd db : Nat} {v10 : Value} {W0 W W' : World}
theorem CoT.sp (h : CoT wL Ba Bd db v10 W) : W.rangeAt Bd 0 [ptrV db] := Blk.range (xa := []) (xb := [ptrV db]) (xd := []) h.bd 0 rfl
theorem CoS.sp (h : CoS wL Ba Bd db v10 W0 W) : W.rangeAt Bd 0 [ptrV db] := h.toCoT.sp
theorem CoT.keep (h : CoT wL Ba Bd db v10 W) (k : Kp NoB W W') : CoT wL Ba Bd db v10 W' := ⟨h.kl.trans k (fun _ _ q => q.elim), h.ba.keep k (fun q => q), h.bd.keep k (fun q => q)⟩
theorem CoS.keep (h : CoS wL Ba Bd db v10 W0 W) (k : Kp NoB W W') : CoS wL Ba Bd db v10 W0 W' := ⟨h.toCoT.keep k, h.kp.trans k (fun _ _ q => q)⟩
theorem CoS.alloc (h : CoS wL Ba Bd db v10 W0 W) (o : Obj) : CoS wL Ba Bd db v10 W0 (W.alloc o) := h.keep ((Kp.refl _ _).alloc o)
theorem CoS.grown (h : CoS wL Ba Bd db v10 W0 W) {o : Obj} {w' : World} (hg : (W.alloc o).grownBy w' v10.ownBlock) {e : TypeId} {size n : Nat} {xs : List Value} {wx : World} (ho : wx.ownsRow wL.heap.size e size v10 n xs) (hBa : Ba < wL.heap.size := by omega) (hBd : Bd < wL.heap.size := by omega) : CoT wL Ba Bd db v10 w' := by
  have h2 := (h.alloc o).toCoT
  have hk : Kp (fun k => v10.ownBlock = some k) (W.alloc o) w' := (Kp.refl _ _).grown hg (fun k hk => .inr hk)
  have hge := own_ge ho
  exact ⟨h2.kl.own hg rfl ho, h2.ba.keep hk (fun q => by have := hge _ q; omega), h2.bd.keep hk (fun q => by have := hge _ q; omega)⟩
theorem CoT.put_ (h : CoT wL Ba Bd db v10 W) (hne : Bd ≠ Ba) (v' : Value) : CoT wL Ba Bd db v' (W.setCell ⟨Ba, 0, none⟩ v') :=
  ⟨h.kl.setCell (p := ⟨Ba, 0, none⟩) (.inr rfl) _, h.ba.set_ 0 v', h.bd.far (p := ⟨Ba, 0, none⟩) hne _⟩
end
/-- a disk behind a change of one block that is none of its own -/
theorem Dq.keepOn {S : Nat → Prop} {w w' : World} {db : Nat} {p : Pl} {Ba : Nat} {t : TypeId} {cs : Array Value} (h : Dq S w w db p) (k : Kp (OnB Ba) w w') (hn : ¬ S Ba) (hb : Blk w Ba t cs) (ht : t ≠ 5) : Dq S w' w' db p := by
  obtain ⟨x, e, hd, hp, hk, ho, hs⟩ := h
  have hS : ∀ b, x.O b → S b := fun b hb => by
    rcases ho b hb with q | q
    · exact q
    · have := hd.lt b hb
      omega
  refine ⟨x, e, hd.keep k (fun b hb q => hn (by rw [← show b = Ba from q]; exact hS b hb)) (fun g cs' hg q => ?_), hp, Kp.refl _ _, fun b hb => .inl (hS b hb), fun b hb => Nat.lt_of_lt_of_le (hs b hb) k.size⟩
  rw [show g = Ba from q] at hg
  exact blk_ne hb hg ht rfl
end Go.Proofs.Ytegcbdfilkecpaa
/- An append of what lies behind a slice that may be nil, among the ready operations; no condition. -/
namespace Go.Proofs.Ytegcbdfilkecpaa
open Go.RowKit

theorem wp_append_srcN {P : Program} {w : World} {o : Oper} {a : Act} {K : Act → World → Prop} {Q : Exit → Act → World → Prop} (s x : Operand) (t : TypeId)
    (ho : o.op = .call { callee := .builtin .append, args := #[s, x], argTypes := #[t, t] })
    (base : Nat) (e : TypeId) (i : TypeInfo) (z : Value) (size bytes : Nat) (ht : P.underlying t = some (.slice e)) (hi : P.info? e = some i) (hz : i.zero = some z)
    (hsize : i.size = size) (hby : i.bytes = bytes) (hzs : z.cells.size = size) (hsz : 0 < size)
    (v : Value) (n : Nat) (xs : List Value) (hs : a.eval s = v) (hown : w.ownsRow base e size v n xs)
    (A : Option Addr) (m c : Nat) (news : List Value) (hx : a.eval x = .slice A m c) (hA : A = none → m = 0 ∧ c = 0) (hl : news.length = m * size)
    (hnews : 0 < m → ∃ g o, A = some ⟨g, o, none⟩ ∧ ∀ j u, news[j]? = some u → w.cell? ⟨g, o + j, none⟩ = some u) (h1 : ∀ u ∈ news, u.oneCell' = true)
    (h63 : n + m ≤ maxLen) (hbytes : (n + m) * bytes ≤ 140737488355328) (hbase : base ≤ w.heap.size)
    (h : ∀ v' w', w'.ownsRow base e size v' (n + m) (xs ++ news) → w.grownBy w' v.ownBlock → K (a.put o.dst v') w') : o.wp P a w K Q := by
  rcases A with _ | ad
  · obtain ⟨rfl, rfl⟩ := hA rfl
    obtain rfl : news = [] := List.eq_nil_of_length_eq_zero (by omega)
    have hrun := run_append_owned_none (P := P) (w := w) base t o.type e i size ht hi v n xs hown
    unfold Oper.wp
    simp [execOp, ho, resolve, invoke, builtin, hs, hx, hrun, Result.andThen]
    exact h v w (by simpa using hown) ⟨rfl, rfl, rfl, Nat.le_refl _, fun _ _ _ => rfl⟩
  · refine wp_append_ownB s x t ho base e i z size bytes ht hi hz hsize hby hzs hsz v n xs hs hown ad m c news hx hl ?_ h1 h63 hbytes hbase (fun v' w' q1 q2 _ => h v' w' q1 q2)
    intro j u hj
    have hm : 0 < m := by
      rcases Nat.eq_zero_or_pos m with q | q
      · rw [q] at hl
        have := (List.getElem?_eq_some_iff.1 hj).1
        omega
      · exact q
    obtain ⟨g, o', e', hc⟩ := hnews hm
    injection e' with e'
    subst e'
    rw [add_mk]
    exact hc j u hj
section
variable {P : Program} {ops : Array Oper} {Q : Exit → Act → World → Prop} {md : Region.Mode} {S : World → Prop} {fuel : Nat} {listed : Array Bool} {a : Act} {w : World} {i : Nat} {rs : List Nat}
variable {ds : Option Tmp} {ty : TypeId} {ps : String} {af : Array Edge}
theorem AllReadyH.appendN {s x : Operand} {t : TypeId} (ho : ops[i]? = some ⟨ds, .call { callee := .builtin .append, args := #[s, x], argTypes := #[t, t] }, ty, ps, af, none⟩) (hw : Region.wanted ⟨ds, .call { callee := .builtin .append, args := #[s, x], argTypes := #[t, t] }, ty, ps, af, none⟩ (yielded ops a.tmps) = true)
    (base : Nat) (e : TypeId) (j : TypeInfo) (z : Value) (size bytes : Nat) (ht : P.underlying t = some (.slice e)) (hi : P.info? e = some j) (hz : j.zero = some z)
    (hsize : j.size = size) (hby : j.bytes = bytes) (hzs : z.cells.size = size) (hsz : 0 < size)
    (v : Value) (n : Nat) (xs : List Value) (hsv : a.eval s = v) (hown : w.ownsRow base e size v n xs)
    (A : Option Addr) (m c : Nat) (news : List Value) (hx : a.eval x = .slice A m c) (hA : A = none → m = 0 ∧ c = 0) (hl : news.length = m * size)
    (hnews : 0 < m → ∃ g o, A = some ⟨g, o, none⟩ ∧ ∀ j u, news[j]? = some u → w.cell? ⟨g, o + j, none⟩ = some u) (h1 : ∀ u ∈ news, u.oneCell' = true)
    (h63 : n + m ≤ maxLen) (hbytes : (n + m) * bytes ≤ 140737488355328) (hbase : base ≤ w.heap.size)
    (hS : ∀ v' w', w'.ownsRow base e size v' (n + m) (xs ++ news) → w.grownBy w' v.ownBlock → S w')
    (hn : ∀ v' w', w'.ownsRow base e size v' (n + m) (xs ++ news) → w.grownBy w' v.ownBlock → wpAnyH P md ops Q S fuel (listed.setIfInBounds i true) (a.put ds v') w')
    (hs : AllReadyH P md ops Q S fuel listed a w rs) : AllReadyH P md ops Q S fuel listed a w (i :: rs) :=
  AllReadyH.cons ho (fun K hK => by
    rw [if_pos hw]
    exact wp_append_srcN s x t rfl base e j z size bytes ht hi hz hsize hby hzs hsz v n xs hsv hown A m c news hx hA hl hnews h1 h63 hbytes hbase
      (fun v' w' q1 q2 => hK.out _ _ (hS v' w' q1 q2) (fun _ => hn v' w' q1 q2))) hs
end
theorem Blk.sp {w : World} {g : Nat} {t : TypeId} {cs : List Value} (h : Blk w g t cs.toArray) : w.rangeAt g 0 cs := fun j u hj => by
  rw [Nat.zero_add, h.cell, List.getElem?_toArray]
  exact hj
theorem Blk.past {w w' : World} {g : Nat} {t : TypeId} {cs : Array Value} {row : Option Nat} (h : Blk w g t cs) (hg : w.grownBy w' row) (hr : ∀ k, row = some k → k ≠ g) : Blk w' g t cs :=
  h.keep ((Kp.refl (fun b => b ≠ g) w).grown hg (fun k hk => .inr (hr k hk))) (fun q => q rfl)
theorem Blk.rc {w : World} {g : Nat} {t : TypeId} {x : Cg} (h : Blk w g t #[.string x.nm, .int .i64 x.sec, .int .i64 x.n, .string (strOf x.s)]) : ∀ j u, (rcCells x)[j]? = some u → w.cell? ((⟨g, 0, none⟩ : Addr).add j) = some u := fun j u hj => by
  rw [add_mk, Nat.zero_add, h.cell]
  show (rcCells x).toArray[j]? = some u
  rw [List.getElem?_toArray]
  exact hj
theorem infoRch : (Try.prog.info? 192).map (fun i => (i.zero, i.size, i.bytes)) = some (some (.agg #[.string ⟨#[]⟩, .int .i64 0, .int .i64 0, .string ⟨#[]⟩]), 4, 48) := by kernel_rfl
theorem infoRch4 : (Try.prog.info? 192).map (·.size) = some 4 := by kernel_rfl
theorem rc_len (cs : List Cg) : ∀ x ∈ cs.map rcCells, x.length = 4 := by
  intro x hx
  obtain ⟨c, _, rfl⟩ := List.mem_map.1 hx
  rfl
theorem rc_one (cs : List Cg) : ∀ u ∈ (cs.map rcCells).flatten, u.oneCell' = true := by
  intro u hu
  obtain ⟨l, hl, h2⟩ := List.mem_flatten.1 hu
  obtain ⟨c, _, rfl⟩ := List.mem_map.1 hl
  unfold rcCells at h2
  simp at h2
  rcases h2 with rfl | rfl | rfl | rfl <;> rfl
end Go.Proofs.Ytegcbdfilkecpaa
