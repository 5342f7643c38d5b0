/- Texts of this proof, one behind the other: lemmas and contracts; each says its own conditions. -/
import Derived.Test.YtegcbdfilkecpaaM4
import Derived.Test.YtegcbdfilkecpaaM5
import Derived.RangeFuncNested
import Derived.RangeFuncBound
import Derived.RangeFuncCalls
import Derived.RangeFuncLeaves
import Derived.RangeFuncBox
import Derived.Shelf.Abstract
import Derived.Shelf.RegionOpen
import Derived.WalkKit
import Derived.OwnWalkIn
import Derived.TacticsInMore
import Derived.LoopNIn
import Derived.LoopIn
import Derived.Maps.AppendAt
/- The log's frames gone over, the last one first; condition: a log in memory. -/
namespace Go.Proofs.Ytegcbdfilkecpaa
open Go.RowKit Go.Shelf
attribute [local go_sem] Oper.semAt_some

theorem Blk.below {w w' : World} {g : Nat} {t : TypeId} {cs : Array Value} (h : Blk w g t cs) (k : Below w.heap.size w w') : Blk w' g t cs := (k.block g h.lt).trans h
theorem LgS.below {w w' : World} {db lb : Nat} {H : W4} {A : Option Addr} {c : Nat} {fs : List Fr} (h : LgS w db lb H A c fs) (k : Below w.heap.size w w') : LgS w' db lb H A c fs :=
  ⟨h.b.below k, ⟨h.o.1, h.o.2.elim .inl (fun ⟨g, cap, cur, e, hb, hg, r⟩ => .inr ⟨g, cap, cur, e, hb, (k.block g (lt_of_heap hg)).trans hg, r⟩)⟩, h.ok⟩
theorem loadFrI (r : Option Nat) (w : World) (ev : Operand → Value) (ds : Option Tmp) (x : Operand) (ty : TypeId) (ps : String) (af : Array Edge) (g : Option (Nat × Bool)) (h : thereP w (ev x) 259) :
    (Oper.semAt r ev ⟨ds, .load 171 x, ty, ps, af, g⟩).run Try.prog w = .ok (.value (.agg (readP w (ev x) 259))) w := by
  rw [Oper.semAt_eq _ _ _ (by intro c h; cases h)]
  exact loadFr w ev ds x ty ps af g h
attribute [local go_sem ↓] loadFrI
theorem frCells_split (fs : List Fr) (i : Nat) (hi : i < fs.length) : frCells fs = frCells (fs.take i) ++ frL (fs.getD i ⟨0, 0, []⟩) ++ frCells (fs.drop (i + 1)) := by
  have e : fs = fs.take i ++ fs[i]'hi :: fs.drop (i + 1) := by rw [List.getElem_cons_drop, List.take_append_drop]
  have h1 : fs.getD i ⟨0, 0, []⟩ = fs[i]'hi := by rw [List.getD_eq_getElem?_getD, List.getElem?_eq_getElem hi]; rfl
  rw [h1]
  conv => lhs; rw [e]
  unfold frCells
  rw [List.flatMap_append, List.flatMap_cons, List.append_assoc]
theorem LgS.row {w : World} {db lb : Nat} {H : W4} {A : Option Addr} {c : Nat} {fs : List Fr} (h : LgS w db lb H A c fs) (i : Nat) (hi : i < fs.length) : ∃ g, A = some ⟨g, 0, none⟩ ∧ w.there g (i * 259) 259 ∧ readRow w g (i * 259) 259 = (frL (fs.getD i ⟨0, 0, []⟩)).toArray := by
  obtain ⟨g, ds, hA, -, hb⟩ := own_blkN h.o (by omega)
  refine ⟨g, hA, hb.there ?_, ?_⟩
  · rw [List.size_toArray, List.length_append, frCells_len]
    have : (i + 1) * 259 ≤ fs.length * 259 := Nat.mul_le_mul_right _ hi
    omega
  · rw [frCells_split fs i hi, List.append_assoc] at hb
    exact hb.read (i * 259) 259 (by rw [frCells_len, List.length_take]; congr 1; omega) (frL_len _)
/-- what a round is handed -/
def encF (fs : List Fr) (m k : Nat) : Array Value := #[.agg (frL (fs.getD (m - 1 - k) ⟨0, 0, []⟩)).toArray]
set_option maxRecDepth 100000 in
set_option maxHeartbeats 2000000 in
theorem up1_in (F : Fence) (n : Nat) (h7 : F.fn 167) (hro : F.round = none) (hn : 1 ≤ n) (l B C n₀ db lb : Nat) (H : W4) (A : Option Addr) (c : Nat) (fs : List Fr) (m : Nat) (hm : m ≤ fs.length)
    (J Jx : List Nat → World → Prop)
    (hY : ∀ pre (x : Nat) W, J pre W → pre.length < m → YieldAt F (n - 1) Try.prog l (encF fs m x) W fun e W' =>
      (e = .returned (.bool true) ∧ J (pre ++ [x]) W' ∧ Below n₀ W W') ∨ (e = .returned (.bool false) ∧ Jx (pre ++ [x]) W'))
    (w W : World) (hw : w.heap.size = n₀) (hL : LgS w db lb H A c fs) (hB : Blk w B 3 #[.int .i64 (m : Int)]) (hC : Blk w C 158 #[.pointer (some ⟨lb, 0, none⟩)]) (hBel : Below n₀ w W) (h0 : J [] W) :
    CallsIn F n Try.prog 167 #[.func (.yield l) #[] #[], .pointer (some ⟨B, 0, none⟩), .pointer (some ⟨C, 0, none⟩)] W fun e W' => (∃ v, e = .returned v) ∧
      ((∃ ys, ys = List.range m ∧ J ys W') ∨ (∃ pre, (∃ k, k ≤ m ∧ pre = List.range k) ∧ Jx pre W')) := by
  subst hw
  have HL := Lib.hid hL
  have HB := Lib.hid hB
  have HC := Lib.hid hC
  have hlen := hL.len
  have c1 : W.cell? ⟨B, 0, none⟩ = some (.int .i64 (m : Int)) := (hB.below hBel).cell 0
  have hw1 : IntKind.i64.wrap ((m : Int) - 1) = (m : Int) - 1 := by rw [IntKind.wrap_i64]; omega
  clear hL hB hC
  refine callsIn_of_wp Try.func167 rfl h7 ?_ hro
  simp only [Try.ntmps167, List.size_toArray, List.length_cons, List.length_nil, Nat.reduceAdd, Nat.reduceSub, Array.replicate_succ, Array.replicate_zero, List.push_toArray, List.append_toArray, List.nil_append, List.cons_append]
  gi_wp2
  gi_loopw [4] (fun i wr => ∃ k : Nat, k ≤ m ∧ i = .int .i64 ((m : Int) - 1 - (k : Int)) ∧ J (List.range k) wr ∧ Below w.heap.size w wr)
    (fun i _ => (intOf i + 1).toNat)
  case atStart => exact ⟨0, Nat.zero_le _, by simp, h0, hBel⟩
  case round =>
    obtain ⟨k, hk, rfl, hJs, hnx⟩ := hrel
    by_cases hlt : k < m
    · have hl2 := HL.out.below hnx
      have c0 : wr.cell? ⟨C, 0, none⟩ = some (.pointer (some ⟨lb, 0, none⟩)) := (HC.out.below hnx).cell 0
      have c5 := hl2.cl.2
      obtain ⟨q, hq⟩ : ∃ q : Nat, m - 1 - k = q := ⟨_, rfl⟩
      have hqi : (m : Int) - 1 - (k : Int) = (q : Int) := by omega
      rw [hqi]
      have hql : q < fs.length := by omega
      obtain ⟨g, hA, hth, hrd⟩ := hl2.row q hql
      subst hA
      obtain ⟨fn, tmps, assign, body, hy, hR⟩ := hY _ k wr hJs (by rw [List.length_range]; exact hlt)
      unfold encF at hy
      rw [hq] at hy
      obtain ⟨fv, hfv⟩ : ∃ fv, (frL (fs.getD q ⟨0, 0, []⟩)).toArray = fv := ⟨_, rfl⟩
      rw [hfv] at hrd hy
      clear hl2 hql
      gi_wp2
      refine hR.mono ?_
      rintro e W3 (⟨rfl, hJ3, hk3⟩ | ⟨rfl, hJx3⟩)
      · have hw2 : IntKind.i64.wrap ((q : Int) - 1) = (q : Int) - 1 := by rw [IntKind.wrap_i64]; omega
        gi_wp2
        go_roundw
        case rel => exact ⟨k + 1, by omega, by first | (congr 1; done) | (congr 1; omega), by rw [List.range_succ]; exact hJ3, hnx.trans hk3⟩
        case measure => first | (simp [intOf]; done) | (simp [intOf]; omega)
      · gi_wp2
        refine bodyPost_ret (results_none rfl _ _ _) rfl ?_
        exact ⟨⟨_, rfl⟩, .inr ⟨_, ⟨k + 1, by omega, by rw [List.range_succ]⟩, hJx3⟩⟩
    · obtain rfl : k = m := by omega
      have hqi : (k : Int) - 1 - (k : Int) = -1 := by omega
      rw [hqi]
      gi_wp2
      go_end0
      exact ⟨⟨_, rfl⟩, .inl ⟨_, rfl, hJs⟩⟩
theorem up_stops (F : Fence) (n : Nat) (h7 : F.fn 167) (hro : F.round = none) (hn : 1 ≤ n) (B C db lb : Nat) (H : W4) (A : Option Addr) (c : Nat) (fs : List Fr) (m : Nat) (hm : m ≤ fs.length) (w : World) (hL : LgS w db lb H A c fs) (hB : Blk w B 3 #[.int .i64 (m : Int)]) (hC : Blk w C 158 #[.pointer (some ⟨lb, 0, none⟩)]) :
    SeqStopsK F n Try.prog 167 #[.pointer (some ⟨B, 0, none⟩), .pointer (some ⟨C, 0, none⟩)] (encF fs m) (Below w.heap.size) (fun ys => ys = List.range m)
      (fun pre => ∃ k, k ≤ m ∧ pre = List.range k) m w := fun l J Jx W hW _ _ hY h0 =>
  up1_in F n h7 hro hn l B C w.heap.size db lb H A c fs m hm J Jx hY w W rfl hL hB hC hW h0
end Go.Proofs.Ytegcbdfilkecpaa
/- The log: all its marks; condition: a disk. -/
namespace Go.Proofs.Ytegcbdfilkecpaa
open Go.RowKit
theorem wopen_len {p : Pl} (he : p.wopen.1 = 0) : p.wopen.2.length ≤ 1048576 := by
  revert he
  unfold Pl.wopen
  split
  · intro he; cases he
  · split
    · intro he; cases he
    · rename_i hb
      cases hf : frsAt (p.seen nmWal) p.whead.a.toNat with
      | none => intro he; cases he
      | some g =>
        dsimp only
        split
        · intro he; cases he
        · intro _
          show g.length ≤ _
          rw [frsAt_len hf]
          omega
end Go.Proofs.Ytegcbdfilkecpaa
/- The log: may pages be changed; no condition but on the counts. -/
namespace Go.Proofs.Ytegcbdfilkecpaa
open Go.RowKit

section
attribute [local go_sem ↓] loadPg storePg allocPg
def WFiRel (w : World) (old count : Int) (l : List Pg) (v7 v8 v19 : Value) (wr : World) : Prop :=
  ∃ (last : Int) (ab k : Nat), v7 = .int .i64 last ∧ v8 = .int .i64 (ab : Int) ∧ v19 = .int .i64 (k : Int) ∧ k ≤ l.length ∧ ab ≤ k ∧ chainPg count 0 l = chainPg count last (l.drop k) ∧ above old l = ab + above old (l.drop k) ∧ Kp NoB w wr
set_option maxRecDepth 100000 in
set_option maxHeartbeats 1600000 in
theorem wfit_q (w : World) (old count : Int) (ho : 0 ≤ old ∧ old ≤ 4096) (hc : -9223372036854775808 ≤ count ∧ count ≤ 9223372036854775807) (A : Option Addr) (n cap : Nat) (l : List Pg) (hl : PgsAt w A n l) (hok : ∀ x ∈ l, PgOk x) (hnn : n < 1099511627776) :
    Calls Try.prog 107 #[.int .i64 old, .int .i64 count, .slice A n cap] w fun e w' => e = .returned (.bool (fitPg old count l)) ∧ Kp NoB w w' := by
  have HL := Lib.hid hl
  have HOK := Lib.hid hok
  have HLN := Lib.hid hl.len
  have HO := Lib.hid ho
  clear hl hok ho
  by_cases h1 : count < 0
  · have e1 : fitPg old count l = false := by unfold fitPg; rw [decide_eq_false (by omega)]; rfl
    rw [e1]
    clear e1
    go_enter Try.func107, Try.ntmps107
    go_wp2_with fail
    go_ret
    exact ⟨rfl, Kp.refl _ _⟩
  · by_cases h2 : 4096 < count
    · have e1 : fitPg old count l = false := by unfold fitPg; rw [decide_eq_false (by omega)]; rfl
      rw [e1]
      clear e1
      go_enter Try.func107, Try.ntmps107
      go_wp2_with fail
      go_ret
      exact ⟨rfl, Kp.refl _ _⟩
    · have e1 : fitPg old count l = (chainPg count 0 l && decide ((above old l : Int) = max 0 (count - old))) := by unfold fitPg; rw [decide_eq_true (by omega)]; rfl
      obtain ⟨B, hB⟩ : ∃ B, fitPg old count l = B := ⟨_, rfl⟩
      rw [hB] at e1 ⊢
      have HE := Lib.hid e1
      have HC := Lib.hid (show 0 ≤ count ∧ count ≤ 4096 by omega)
      clear e1 hB
      go_enter Try.func107, Try.ntmps107
      go_wp2_with fail
      go_loopw [7, 8, 19] (fun v7 v8 v19 wr => WFiRel w old count l v7 v8 v19 wr) (fun _ _ v _ => n - (intOf v).toNat)
      case atStart => exact ⟨0, 0, 0, rfl, rfl, rfl, Nat.zero_le _, Nat.le_refl _, rfl, by simp, Kp.refl _ _⟩
      case round =>
        obtain ⟨last, ab, k, rfl, rfl, rfl, hk, hab, hch, habv, hkp⟩ := hrel
        have HCH := Lib.hid hch
        have HAV := Lib.hid habv
        have HKP := Lib.hid hkp
        have hlr := HL.out.keep hkp
        clear hch habv hkp
        by_cases hlt : k < n
        · have hkk : (k : Int) < (n : Int) := by omega
          obtain ⟨g, o, rfl, hg, t1, r1⟩ := hlr.at_ k hlt
          obtain ⟨x, hx⟩ : ∃ x, l[k]? = some x := ⟨_, List.getElem?_eq_getElem (by rw [HLN.out]; exact hlt)⟩
          have hxe : l[k]'(by rw [HLN.out]; exact hlt) = x := (List.getElem?_eq_some_iff.1 hx).2
          rw [hxe] at r1
          have hxo := HOK.out x (List.mem_of_getElem? hx)
          have hdr : l.drop k = x :: l.drop (k + 1) := by rw [← hxe]; exact List.drop_eq_getElem_cons (by rw [HLN.out]; exact hlt)
          have HDR := Lib.hid hdr
          have hb := Blk.new wr 113 (pgA ⟨0, zeros 256⟩)
          have hb2 := hb.whole (pgA x) (by rw [pgA_size hxo]; rfl)
          have t2 := hb.thereAll 257 rfl
          have o1 := pgA_ones x
          have s1 := pgA_size hxo
          have hc0 := hb2.cell 0
          rw [show (pgA x)[0]? = some (.int .i64 x.n) from rfl] at hc0
          have HK3 := Lib.hid (show Kp NoB wr ((wr.alloc (.cells (pgA ⟨0, zeros 256⟩) 113)).setCells wr.heap.size 0 (pgA x).toList) from Kp.setCells (.inl (Nat.le_refl _)) _ _ _ ((Kp.refl _ _).alloc _))
          obtain ⟨RR, hRR⟩ : ∃ RR, pgA x = RR := ⟨_, rfl⟩
          rw [hRR] at r1 o1 s1 hc0 HK3
          have hch2 : chainPg count last (l.drop k) = (decide (last < x.n ∧ x.n ≤ count) && chainPg count x.n (l.drop (k + 1))) := by rw [hdr]; rfl
          have hav2 : above old (l.drop k) = above old (l.drop (k + 1)) + if old < x.n then 1 else 0 := by rw [hdr]; exact above_cons _ _ _
          rw [hch2] at HCH
          rw [hav2] at HAV
          obtain ⟨xn, hxn⟩ : ∃ xn, x.n = xn := ⟨_, rfl⟩
          rw [hxn] at hc0 HCH HAV
          clear hRR hlr hb hb2 hx hxe hxo hdr hch2 hav2 hxn HDR
          by_cases hle : xn ≤ last
          · have hnl : ¬ last < xn := by omega
            rw [decide_eq_false (by omega)] at HCH
            go_wp2_with fail
            go_ret
            rw [HE.out, HCH.out]
            exact ⟨rfl, HKP.out.trans HK3.out (fun _ _ q => q)⟩
          · have hnl : last < xn := by omega
            by_cases hgt : count < xn
            · rw [decide_eq_false (by omega)] at HCH
              go_wp2_with fail
              go_ret
              rw [HE.out, HCH.out]
              exact ⟨rfl, HKP.out.trans HK3.out (fun _ _ q => q)⟩
            · rw [decide_eq_true (by omega), Bool.true_and] at HCH
              by_cases hol : old < xn
              · rw [if_pos hol] at HAV
                go_wp2_with fail
                go_roundw
                case rel => exact ⟨xn, ab + 1, k + 1, rfl, by go_num, by go_num, by have := HLN.out; omega, by omega, HCH.out, by rw [HAV.out]; omega, HKP.out.trans HK3.out (fun _ _ q => q)⟩
                case measure => simp [intOf]; omega
              · rw [if_neg hol] at HAV
                go_wp2_with fail
                go_roundw
                case rel => exact ⟨xn, ab, k + 1, rfl, rfl, by go_num, by have := HLN.out; omega, by omega, HCH.out, by rw [HAV.out]; omega, HKP.out.trans HK3.out (fun _ _ q => q)⟩
                case measure => simp [intOf]; omega
        · have hkk : ¬ (k : Int) < (n : Int) := by omega
          obtain rfl : k = n := by have := HLN.out; omega
          have hd0 : l.drop k = [] := List.drop_eq_nil_of_le (by rw [HLN.out]; omega)
          rw [hd0] at HCH HAV
          have HF : Hid (B = decide ((ab : Int) = max 0 (count - old))) := Lib.hid (by
            rw [HE.out, HCH.out, HAV.out]
            rfl)
          have hw1 : IntKind.i64.wrap (count - old) = count - old := by have := HO.out; have := HC.out; rw [IntKind.wrap_i64]; omega
          clear hlr hd0 HCH HAV
          rcases (show count - old < 0 ∨ count - old = 0 ∨ 0 < count - old by omega) with hs | hs | hs
          all_goals
            go_wp2_with fail
            go_ret
            rw [HF.out]
            refine ⟨?_, HKP.out⟩
            show Ending.returned (Value.bool _) = _
            congr 2
            rw [Bool.eq_iff_iff, beq_iff_eq, decide_eq_true_iff]
            omega
end
end Go.Proofs.Ytegcbdfilkecpaa
/- The log: steps one behind the other, till one is refused; no condition. -/
namespace Go.Proofs.Ytegcbdfilkecpaa
open Go.RowKit

def WChRel (g o n : Nat) (Q : Int → World → Prop) (v : Value) (wr : World) : Prop := ∃ (i : Nat) (l : List (Nat × Array Value × Array Value)), v = .int .i64 (i : Int) ∧ i + l.length = n ∧ Chain g o i l Q wr
set_option maxRecDepth 100000 in
set_option maxHeartbeats 800000 in
theorem wsteps_ok (w : World) (g o n cap : Nat) (l : List (Nat × Array Value × Array Value)) (Q : Int → World → Prop) (hl : l.length = n) (hn : n < 1099511627776) (h : Chain g o 0 l Q w) :
    Calls Try.prog 102 #[.slice (some ⟨g, o, none⟩) n cap] w fun e w' => ∃ x : Int, e = .returned (.int .i64 x) ∧ Q x w' := by
  have H := Lib.hid h
  have HL := Lib.hid hl
  clear h hl
  go_enter Try.func102, Try.ntmps102
  go_wp2_with fail
  go_loopw [8] (fun v wr => WChRel g o n Q v wr) (fun v _ => n - (intOf v).toNat)
  case atStart => exact ⟨0, l, rfl, by have := HL.out; omega, H.out⟩
  case round =>
    obtain ⟨i, l', rfl, hi, hc⟩ := hrel
    cases l' with
    | nil =>
      have hii : ¬ (i : Int) < (n : Int) := by simp at hi; omega
      have HC := Lib.hid (show Q 0 wr from hc)
      clear hc hi
      go_wp2_with fail
      go_ret
      exact ⟨0, rfl, HC.out⟩
    | cons x r =>
      obtain ⟨f, a, c⟩ := x
      obtain ⟨h1, h2, h3⟩ := hc
      have hii : (i : Int) < (n : Int) := by simp at hi; omega
      have HI := Lib.hid hi
      clear hi
      have H3 := Lib.hid h3
      clear h3
      go_wp2_with fail
      refine H3.out.mono ?_
      rintro e w' ⟨x, rfl, hx0, hx1⟩
      have HX0 := Lib.hid hx0
      have HX1 := Lib.hid hx1
      clear hx0 hx1
      by_cases hx : x = 0
      · subst hx
        have HX := Lib.hid (HX1.out rfl)
        go_wp2_with fail
        go_roundw
        case rel => exact ⟨i + 1, r, by go_num, by have := HI.out; simp at this; omega, HX.out⟩
        case measure => simp [intOf]; omega
      · have HX := Lib.hid (HX0.out hx)
        go_wp2_with fail
        go_ret
        exact ⟨x, rfl, HX.out⟩
end Go.Proofs.Ytegcbdfilkecpaa
/- The log: a head sealed and synced; condition: a log in memory on a disk. -/
namespace Go.Proofs.Ytegcbdfilkecpaa
open Go.RowKit

section
variable {S : Nat → Prop} {W0 w : World} {db lb : Nat} {p : Pl}
attribute [local go_sem ↓] loadSec storeSec allocSec loadW4 storeW4 conv64
set_option maxRecDepth 100000 in
set_option maxHeartbeats 800000 in
theorem wseal1_q (h : Dq S w w db p) (v : W4) (Bl Bs : Nat) (hn : ¬ S Bl) (hnl : ¬ S lb) (hns : ¬ S Bs) (hs : Blk w Bs 146 (bytesV (sealB v))) (hl : w.cell? ⟨Bl, 0, none⟩ = some (.pointer (some ⟨lb, 0, none⟩))) (hd : w.cell? ⟨lb, 0, none⟩ = some (.pointer (some ⟨db, 0, none⟩))) (hm : p.sm 20000) :
    Calls Try.prog 151 #[.pointer (some ⟨Bl, 0, none⟩), .pointer (some ⟨Bs, 0, none⟩)] w fun e w' => e = .returned (.int .i64 (p.writeE nmWal 0 (sealB v))) ∧ Dq S w w' db (p.write nmWal 0 (sealB v)) := by
  have H := Lib.hid h
  have HN := Lib.hid hn
  have HNL := Lib.hid hnl
  have HNS := Lib.hid hns
  have HM := Lib.hid hm
  have hby := hs.byAt 0 64 (by show _ ≤ 64; omega)
  have hrd := hs.byRd 0 64 (by show _ ≤ 64; omega)
  rw [List.drop_zero, List.take_of_length_le (by show 64 ≤ 64; omega)] at hrd
  have hlt1 := block_lt_of_cell hl
  have hlt2 := block_lt_of_cell hd
  have hlt3 := hs.lt
  have HD := Lib.hid hd
  have HL := Lib.hid hl
  have HLT1 := Lib.hid hlt1
  have HLT2 := Lib.hid hlt2
  have HLT3 := Lib.hid hlt3
  have hsz : (strOf (sealB v)).size ≤ maxLen := by rw [strOf_size, seal_len]; decide
  have HSZ := Lib.hid hsz
  have HSI := Lib.hid (strI_seal v (seal_rng v))
  obtain ⟨sb, hsb⟩ : ∃ sb, sealB v = sb := ⟨_, rfl⟩
  have HSB := Lib.hid hsb
  rw [hsb] at hrd HSI HSZ
  have HBY := Lib.hid hby
  have HRD := Lib.hid hrd
  clear h hm hs hd hl hlt1 hlt2 hlt3 hn hnl hns hsz hsb
  go_enter Try.func151, Try.ntmps151
  go_upto_region 1 with fail
  have hl0 := HL.out
  have hd0 := HD.out
  go_region_held3 (fun w' => w'.cell? ⟨Bl, 0, none⟩ = some (.pointer (some ⟨lb, 0, none⟩)) ∧ w'.cell? ⟨lb, 0, none⟩ = some (.pointer (some ⟨db, 0, none⟩)) ∧ byAt w' Bs 0 64 ∧ byRd w' Bs 0 64 = sb)
    (first | exact ⟨hl0, hd0, hby, hrd⟩ | exact ⟨he0, he3, he1, he2⟩ | go_keep)
    (first
      | (go_at_call 78; go_must (refine (show Calls _ _ #[ptrV db, .string nmWal, .int .i64 0, .string (strOf sb)] _ _ from write_q (H.out.base1 ((Kp.refl NoB w).drew)) nmWal 0 (strOf sb) nmW_le HSZ.out HM.out).mono ?_); rintro e w4 ⟨rfl, h4⟩; rw [HSI.out] at h4; rw [HSI.out]; have H4 := Lib.hid h4; have he0 := (h4.kp.cell HLT1.out HN.out).trans HL.out; have he3 := (h4.kp.cell HLT2.out HNL.out).trans HD.out; have he1 := by_keep h4.kp HLT3.out HNS.out HBY.out HRD.out; clear h4))
  go_wp2_with fail
  go_ret
  rw [HSB.out]
  exact ⟨rfl, Dq.up (H.out.base1 (Kp.refl NoB w).drew) (Kp.refl NoB w).drew H.out.lt H4.out⟩
set_option maxRecDepth 100000 in
set_option maxHeartbeats 800000 in
theorem wseal_q (h : Dq S w w db p) (hc : w.cell? ⟨lb, 0, none⟩ = some (.pointer (some ⟨db, 0, none⟩))) (hlb : ¬ S lb) (v : W4) (hm : p.sm 40000) :
    Calls Try.prog 105 #[.pointer (some ⟨lb, 0, none⟩), .agg (w4A v)] w fun e w' => e = .returned (.int .i64 (p.runS (headS nmWal v)).2) ∧ Dq S w w' db (p.runS (headS nmWal v)).1 := by
  have H := Lib.hid h
  have HM := Lib.hid hm
  have HC := Lib.hid hc
  have HLB := Lib.hid hlb
  have HLT := Lib.hid (block_lt_of_cell hc)
  have hbw : Blk ((w.alloc (.cells #[.pointer (some ⟨lb, 0, none⟩)] 158)).alloc (.cells (w4A v) 102)) (w.heap.size + 1) 102 (w4A v) := Blk.newAt _ _ _ _ (by simp)
  have hbl : Blk ((w.alloc (.cells #[.pointer (some ⟨lb, 0, none⟩)] 158)).alloc (.cells (w4A v) 102)) w.heap.size 158 #[.pointer (some ⟨lb, 0, none⟩)] := (Blk.new _ _ _).alloc _
  have hkb : Kp NoB w ((w.alloc (.cells #[.pointer (some ⟨lb, 0, none⟩)] 158)).alloc (.cells (w4A v) 102)) := ((Kp.refl _ _).alloc _).alloc _
  have t0 := hbw.thereAll 4 rfl
  have r0 := hbw.readAll 4 rfl
  have HBL := Lib.hid hbl
  have HKB := Lib.hid hkb
  clear h hm hc hlb hbw hbl hkb
  go_enter Try.func105, Try.ntmps105
  go_wp2_with fail
  refine (seal_ok _ v).mono ?_
  rintro e w2 ⟨rfl, hk⟩
  have hks := HKB.out.size
  have hk2 := HKB.out.trans hk (fun _ _ q => q)
  have hbl2 := HBL.out.keep hk (fun q => q)
  have hb := Blk.new w2 146 (bytesV (zeros 64))
  have hb2 := hb.whole (bytesV (sealB v)) (by rw [bytesV_size, bytesV_size]; rfl)
  have t1 := hb.thereAll 64 (by rw [bytesV_size]; rfl)
  have o1 := bytesV_one (sealB v)
  have s1 : (bytesV (sealB v)).size = 64 := by rw [bytesV_size]; rfl
  have hk3 : Kp NoB w ((w2.alloc (.cells (bytesV (zeros 64)) 146)).setCells w2.heap.size 0 (bytesV (sealB v)).toList) := Kp.setCells (.inl hk2.size) _ _ _ (hk2.alloc _)
  have hk23 : Kp NoB w2 ((w2.alloc (.cells (bytesV (zeros 64)) 146)).setCells w2.heap.size 0 (bytesV (sealB v)).toList) := Kp.setCells (.inl (Nat.le_refl _)) _ _ _ ((Kp.refl _ _).alloc _)
  have hbl3 := hbl2.keep hk23 (fun q => q)
  have cl := hbl3.cell 0
  have HB2 := Lib.hid hb2
  have HBL3 := Lib.hid hbl3
  have HK3 := Lib.hid hk3
  have HS2 : Hid (w.heap.size < w2.heap.size ∧ w.heap.size + 2 ≤ w2.heap.size) := Lib.hid (by have := hk.size; simp at this; omega)
  clear hk hk2 hb hb2 hk3 hk23 hbl2 hbl3 HBL HKB hks
  generalize hRR : bytesV (sealB v) = RR at t1 o1 s1 HB2 HBL3 HK3 cl ⊢
  have HRR := Lib.hid hRR
  clear hRR
  go_upto_region 2 with fail
  generalize hW3 : (w2.alloc (.cells (bytesV (zeros 64)) 146)).setCells w2.heap.size 0 RR.toList = w3 at HB2 HBL3 HK3 cl ⊢
  generalize hg : w2.heap.size = g at HB2 HS2 ⊢
  have hs3 : Hid (w3.heap.size = g + 1) := Lib.hid (by rw [← hW3, size_setCells, ← hg]; simp)
  clear hW3
  go_wp2_with fail
  refine (wsteps_ok _ w3.heap.size 0 2 2 [(151, #[], #[.pointer (some ⟨w.heap.size, 0, none⟩), .pointer (some ⟨g, 0, none⟩)]), (152, #[.pointer (some ⟨lb, 0, none⟩)], #[])]
    (fun x w' => x = (p.runS (headS nmWal v)).2 ∧ Dq S w w' db (p.runS (headS nmWal v)).1) rfl (by omega) ?_).mono ?_
  · have hb3 := Blk.new w3 108 #[.func (.func 151) #[] #[.pointer (some ⟨w.heap.size, 0, none⟩), .pointer (some ⟨g, 0, none⟩)], .func (.func 152) #[.pointer (some ⟨lb, 0, none⟩)] #[]]
    generalize hw4 : w3.alloc (.cells #[.func (.func 151) #[] #[.pointer (some ⟨w.heap.size, 0, none⟩), .pointer (some ⟨g, 0, none⟩)], .func (.func 152) #[.pointer (some ⟨lb, 0, none⟩)] #[]] 108) = w4 at hb3 ⊢
    have hk4 : Kp NoB w3 w4 := by rw [← hw4]; exact (Kp.refl _ _).alloc _
    have hk := HK3.out.trans hk4 (fun _ _ q => q)
    have h3 := H.out.base1 hk
    have hlt := H.out.lt
    have hs2 := HS2.out
    refine ⟨by rw [hb3.cell]; rfl, enters_of Try.func151 (by kernel_rfl) rfl, ?_⟩
    have hcl4 := (hk.cell HLT.out (fun q => q)).trans HC.out
    refine (wseal1_q h3 v w.heap.size g (fun q => by have := hlt _ q; omega) HLB.out (fun q => by have := hlt _ q; omega) (by rw [HRR.out]; exact HB2.out.keep hk4 (fun q => q)) ((HBL3.out.keep hk4 (fun q => q)).cell 0) hcl4 (sm_mono HM.out (by omega))).mono ?_
    rintro e w5 ⟨rfl, h4⟩
    refine ⟨_, rfl, fun hx => ?_, fun hx => ?_⟩
    · unfold headS
      rw [runS_cons, stE0, if_neg hx]
      exact ⟨rfl, Dq.up h3 hk hlt h4⟩
    · have hs4 := hk.size
      refine ⟨by rw [(hb3.keep h4.kp (fun q => by have := hlt _ q; have := HK3.out.size; omega)).cell]; rfl, enters_of Try.func152 (by kernel_rfl) rfl, ?_⟩
      obtain ⟨S5, h5, hS5⟩ := h4.base
      refine (wsync_q h5 ((h4.kp.cell (Nat.lt_of_lt_of_le HLT.out hs4) HLB.out).trans hcl4) (sm_write _ _ _ (sm_mono HM.out (by omega)))).mono ?_
      rintro e w6 ⟨rfl, h6⟩
      have hz : (p.runS (headS nmWal v)) = (((p.write nmWal 0 (sealB v)).sync nmWal), (p.write nmWal 0 (sealB v)).syncE) := by
        unfold headS
        rw [runS_cons, stE0, if_pos hx, runS_cons, stE2, stP0, stP2]
        split
        · rename_i h0
          rw [runS_nil, h0]
        · rfl
      rw [hz]
      have h7 := Dq.up h3 hk hlt (Dq.tr (w0 := w4) h6 h4.kp hS5 h4.lt)
      exact ⟨_, rfl, fun _ => ⟨rfl, h7⟩, fun hx2 => ⟨hx2.symm, h7⟩⟩
  · rintro e w5 ⟨x, rfl, rfl, h4⟩
    have H4 := Lib.hid h4
    clear h4
    go_wp2_with fail
    go_ret
    exact ⟨rfl, H4.out⟩
end
end Go.Proofs.Ytegcbdfilkecpaa
/- The log: the bytes of a frame that is made; condition: a frame that may be. -/
namespace Go.Proofs.Ytegcbdfilkecpaa
open Go.RowKit

/-- the first i bytes of both numbers are there -/
def upB (f : Fr) (i : Nat) : List Int := (four f.n).take i ++ zeros (4 - i) ++ ((four f.en).take i ++ zeros (4 - i)) ++ zeros 312
/-- .. and one more of the first -/
def upB1 (f : Fr) (i : Nat) : List Int := (four f.n).take (i + 1) ++ zeros (3 - i) ++ ((four f.en).take i ++ zeros (4 - i)) ++ zeros 312
theorem upB_set1 (f : Fr) (i : Nat) (hi : i < 4) : (upB f i).set i (byteK f.n i) = upB1 f i := by
  rcases (show i = 0 ∨ i = 1 ∨ i = 2 ∨ i = 3 by omega) with rfl | rfl | rfl | rfl <;> rfl
theorem upB_set2 (f : Fr) (i : Nat) (hi : i < 4) : (upB1 f i).set (4 + i) (byteK f.en i) = upB f (i + 1) := by
  rcases (show i = 0 ∨ i = 1 ∨ i = 2 ∨ i = 3 by omega) with rfl | rfl | rfl | rfl <;> rfl
theorem upB_at (f : Fr) (i : Nat) (hi : i < 4) : (upB f i)[i]? = some 0 := by
  rcases (show i = 0 ∨ i = 1 ∨ i = 2 ∨ i = 3 by omega) with rfl | rfl | rfl | rfl <;> rfl
theorem upB_all (f : Fr) : upB f 4 = (four f.n ++ four f.en ++ zeros 56) ++ zeros 256 := rfl
theorem upB_len (f : Fr) : (upB f 4).length = 320 := by
  rw [upB_all, List.length_append, List.length_append, List.length_append, zeros256, show (zeros 56).length = 56 from List.length_replicate ..]
  rfl
/-- in the midst of a frame's bytes -/
structure BtS (w : World) (f : Fr) (l : List Int) (W : World) : Prop where
  kp : Kp NoB w W
  b1 : Blk W w.heap.size 171 (fnL f).toArray
  b2 : Blk W (w.heap.size + 1) 5 (bytesV l)
theorem BtS.set_ {w : World} {f : Fr} {l : List Int} {W : World} (h : BtS w f l W) (i : Nat) (y : Int) : BtS w f (l.set i y) (W.setCell ⟨w.heap.size + 1, i, none⟩ (.int .u8 y)) := by
  refine ⟨h.kp.setCell (p := ⟨w.heap.size + 1, i, none⟩) (.inl (by show _ ≤ w.heap.size + 1; omega)) _, h.b1.far (p := ⟨w.heap.size + 1, i, none⟩) (by simp) _, ?_⟩
  have := h.b2.set_ i (.int .u8 y)
  rwa [bytesV_setJ] at this
theorem BtS.drew {w : World} {f : Fr} {l : List Int} {W : World} (h : BtS w f l W) : BtS w f l W.drew := ⟨h.kp.drew, h.b1, h.b2⟩
set_option maxRecDepth 100000 in
theorem BtS.copy {w : World} {f : Fr} {W : World} (h : BtS w f (upB f 4) W) (hf : FrOk f) : Kp NoB w (W.setCells (w.heap.size + 1) 64 (f.b.map (Value.int .u8))) ∧ Blk (W.setCells (w.heap.size + 1) 64 (f.b.map (Value.int .u8))) (w.heap.size + 1) 5 (bytesV (frB f)) := by
  refine ⟨Kp.setCells (.inl (by omega)) _ _ _ h.kp, ?_⟩
  have b := h.b2
  rw [upB_all] at b
  have := Blk.bytes (la := four f.n ++ four f.en ++ zeros 56) (lb := zeros 256) (ld := []) (lx := f.b) (by rw [List.append_nil]; exact b) 64 (by simp [four, zeros]) (by rw [hf.len]; simp [zeros])
  rw [List.append_nil] at this
  exact this
theorem frB_len {f : Fr} (hf : FrOk f) : (frB f).length = 320 := by unfold frB; simp [four, zeros, hf.len]
theorem frB_rng {f : Fr} (hf : FrOk f) : ∀ y ∈ frB f, 0 ≤ y ∧ y < 256 := by
  intro y hy
  unfold frB at hy
  rcases List.mem_append.1 hy with h | h
  · rcases List.mem_append.1 h with h | h
    · rcases List.mem_append.1 h with h | h
      · exact four_rng _ y h
      · exact four_rng _ y h
    · exact zeros_rng _ y h
  · exact hf.rng y h
theorem fn_cells {w : World} {g : Nat} {t : TypeId} {f : Fr} (h : Blk w g t (fnL f).toArray) : ∀ j v, (f.b.map (Value.int .u8))[j]? = some v → w.cell? ((⟨g, 1, none⟩ : Addr).add j) = some v := by
  intro j v hj
  have hlt : j < (f.b.map (Value.int .u8)).length := (List.getElem?_eq_some_iff.1 hj).1
  rw [add_mk, h.cell]
  unfold fnL
  rw [List.getElem?_toArray, Nat.add_comm 1 j, List.getElem?_cons_succ, List.getElem?_append_left hlt]
  exact hj
theorem fn_en {w : World} {g : Nat} {t : TypeId} {f : Fr} (h : Blk w g t (fnL f).toArray) (hf : f.b.length = 256) : w.cell? ⟨g, 257, none⟩ = some (.int .i64 f.en) := by
  rw [h.cell]
  unfold fnL
  rw [List.getElem?_toArray, List.getElem?_cons_succ, List.getElem?_append_right (by rw [List.length_map, hf]; omega), List.length_map, hf]
  rfl
attribute [local go_sem ↓] conv64
attribute [local go_sem] size_setCells
set_option maxRecDepth 100000 in
set_option maxHeartbeats 1600000 in
theorem wbytes_q (w : World) (f : Fr) (hf : FrOk f) : Calls Try.prog 153 #[.agg (fnL f).toArray] w fun e w' => e = .returned (.string (strOf (frB f))) ∧ Kp NoB w w' := by
  have HF := Lib.hid hf
  have HB0 : Hid (BtS w f (upB f 0) ((w.alloc (.cells (fnL f).toArray 171)).alloc (.cells (bytesV (zeros 320)) 5))) := Lib.hid ⟨((Kp.refl _ _).alloc _).alloc _, (Blk.new _ _ _).alloc _, Blk.newAt _ _ _ _ (by simp)⟩
  have hmk := fun W => make320 W
  obtain ⟨FV, hFV⟩ : ∃ FV, (fnL f).toArray = FV := ⟨_, rfl⟩
  rw [hFV] at HB0 ⊢
  obtain ⟨rb, hrb⟩ : ∃ rb, frB f = rb := ⟨_, rfl⟩
  rw [hrb]
  have HRB := Lib.hid hrb
  clear hf hFV hrb
  go_enter Try.func153, Try.ntmps153
  go_wp2_with fail
  refine forget (p := fun wx => Code.wp _ _ _ _ wx) (BtS w f (upB f 0)) HB0.out ?_
  intro W hW
  have HW := Lib.hid hW
  clear hW HB0
  go_loopw [6] (fun v W => ∃ i : Nat, v = .int .i64 (i : Int) ∧ i ≤ 4 ∧ BtS w f (upB f i) W) (fun v _ => 4 - (intOf v).toNat)
  case atStart => exact ⟨0, rfl, by omega, HW.out⟩
  case round =>
    obtain ⟨i, rfl, hi, hs⟩ := hrel
    have HS := Lib.hid hs
    by_cases hi4 : i < 4
    · have hii : (i : Int) < 4 := by omega
      have c0 : wr.cell? ⟨w.heap.size, 0, none⟩ = some (.int .i64 f.n) := by rw [hs.b1.cell]; rfl
      have c257 := fn_en hs.b1 HF.out.len
      have c2 : wr.cell? ⟨w.heap.size + 1, i, none⟩ = some (.int .u8 0) := by
        rw [hs.b2.cell]
        unfold bytesV
        rw [List.getElem?_toArray, List.getElem?_map, upB_at _ _ hi4]
        rfl
      have z2 : wr.frozen? ⟨w.heap.size + 1, i, none⟩ = false := hs.b2.frozen i
      have z3 : wr.frozen? ⟨w.heap.size + 1, 4 + i, none⟩ = false := hs.b2.frozen (4 + i)
      have c3 : wr.cell? ⟨w.heap.size + 1, 4 + i, none⟩ = some (.int .u8 0) := by
        rw [hs.b2.cell]
        unfold bytesV
        rw [List.getElem?_toArray, List.getElem?_map, show (upB f i)[4 + i]? = some 0 from by rcases (show i = 0 ∨ i = 1 ∨ i = 2 ∨ i = 3 by omega) with rfl | rfl | rfl | rfl <;> rfl]
        rfl
      have hwu : IntKind.u32.wrap f.n = f.n := by have := HF.out.n0; rw [IntKind.wrap_u32]; omega
      have hwe : IntKind.u32.wrap f.en = f.en := by have := HF.out.e0; rw [IntKind.wrap_u32]; omega
      have FIN : Hid (∀ W' (y z : Int) (q m : Nat), W' = (wr.setCell ⟨w.heap.size + 1, i, none⟩ (.int .u8 y)).setCell ⟨w.heap.size + 1, q, none⟩ (.int .u8 z) → q = 4 + i → y = byteK f.n i → z = byteK f.en i → m = i + 1 → BtS w f (upB f m) W') := Lib.hid (by
        rintro W' y z q m rfl rfl rfl rfl rfl
        have h1 := HS.out.set_ i (byteK f.n i)
        rw [upB_set1 f i hi4] at h1
        have h2 := h1.set_ (4 + i) (byteK f.en i)
        rw [upB_set2 f i hi4] at h2
        exact h2)
      obtain ⟨xn, hxn⟩ : ∃ xn, f.n = xn := ⟨_, rfl⟩
      obtain ⟨xe, hxe⟩ : ∃ xe, f.en = xe := ⟨_, rfl⟩
      have HXN3 := Lib.hid hxn
      have HXE3 := Lib.hid hxe
      rw [hxn] at c0 hwu
      rw [hxe] at c257 hwe
      clear hs hxn hxe
      rcases (show i = 0 ∨ i = 1 ∨ i = 2 ∨ i = 3 by omega) with rfl | rfl | rfl | rfl
      · go_wp2_with fail
        exact ⟨⟨1, rfl, by omega, FIN.out _ _ _ _ _ rfl rfl (by rw [HXN3.out]; rfl) (by rw [HXE3.out]; rfl) rfl⟩, by simp [intOf]⟩
      · go_wp2_with fail
        exact ⟨⟨2, rfl, by omega, FIN.out _ _ _ _ _ rfl rfl (by rw [HXN3.out]; rfl) (by rw [HXE3.out]; rfl) rfl⟩, by simp [intOf]⟩
      · go_wp2_with fail
        exact ⟨⟨3, rfl, by omega, FIN.out _ _ _ _ _ rfl rfl (by rw [HXN3.out]; rfl) (by rw [HXE3.out]; rfl) rfl⟩, by simp [intOf]⟩
      · go_wp2_with fail
        exact ⟨⟨4, rfl, by omega, FIN.out _ _ _ _ _ rfl rfl (by rw [HXN3.out]; rfl) (by rw [HXE3.out]; rfl) rfl⟩, by simp [intOf]⟩
    · have hii : ¬ (i : Int) < 4 := by omega
      obtain rfl : i = 4 := by omega
      have hl256 := HF.out.len
      clear hs
      go_upto_region 8 with fail
      refine wp_region_held_drew (S := fun _ => True) (by kernel_rfl) trivial (fun hHeld => ?_)
      have hs := HS.out.drew
      generalize wr.drew = w4 at hs ⊢
      have ht5 : w4.there (w.heap.size + 1) 64 (f.b.map (Value.int .u8)).length := by
        have := hs.b2
        refine this.there ?_
        rw [bytesV_size, upB_len, List.length_map, hl256]
        omega
      have hcp := run_copy_cells (P := Try.prog) w4 42 42 3 5 (w.heap.size + 1) 64 256 256 ⟨w.heap.size, 1, none⟩ 256 256 (f.b.map (Value.int .u8)) Try.underlying42 infoU8 (by rw [List.length_map, hl256]; rfl) (fn_cells hs.b1) (fun j hj => (ht5 j hj).1) (fun j hj => (ht5 j hj).2) (u8_one f.b)
      obtain ⟨hk5, hb5⟩ := hs.copy HF.out
      refine tkS (i := 0) (v := (.slice (some ⟨w.heap.size + 1, 0, none⟩) 320 320)) rfl (Or.inl ⟨by rfl, fun w' hq => by go_simp⟩) trivial ?_
      simp only [Act.put, skA, skB, skC]
      refine tkS (i := 1) (v := (.slice (some ⟨w.heap.size + 1, 64, none⟩) 256 256)) rfl (Or.inl ⟨by rfl, fun w' hq => by go_simp⟩) trivial ?_
      simp only [Act.put, skA, skB, skC]
      refine tkS (i := 2) (v := (.pointer (some ⟨w.heap.size, 0, none⟩))) rfl (Or.inl ⟨by rfl, fun w' hq => by go_simp⟩) trivial ?_
      simp only [Act.put, skA, skB, skC]
      refine tkS (i := 3) (v := (.pointer (some ⟨w.heap.size, 1, none⟩))) rfl (Or.inl ⟨by rfl, fun w' hq => by go_simp⟩) trivial ?_
      simp only [Act.put, skA, skB, skC]
      refine tkS (i := 4) (v := (.slice (some ⟨w.heap.size, 1, none⟩) 256 256)) rfl (Or.inl ⟨by rfl, fun w' hq => by go_simp⟩) trivial ?_
      simp only [Act.put, skA, skB, skC]
      refine wpAnyH_ready (rs := [5]) (by kernel_rfl) (by simp) ?_
      refine AllReadyH.valR (fun W' => W' = w4.setCells (w.heap.size + 1) 64 (f.b.map (Value.int .u8))) rfl (by rfl) _ _ (copy_exec hcp _ rfl rfl) (fun _ _ => trivial) rfl ?_ AllReadyH.nil
      rintro _ rfl
      simp only [Act.put, skA, skB, skC]
      refine wpAnyH_done (by kernel_rfl) ?_ _
      generalize w4.setCells (w.heap.size + 1) 64 (f.b.map (Value.int .u8)) = w5 at hk5 hb5 ⊢
      have hrl := frB_len HF.out
      have hby := hb5.byAt 0 320 (by rw [hrl]; omega)
      have hrd := hb5.byRd 0 320 (by rw [hrl]; omega)
      rw [List.drop_zero, List.take_of_length_le (by rw [hrl]; omega)] at hrd
      have HK5 := Lib.hid hk5
      have HB5 := Lib.hid hb5
      rw [HRB.out] at hrd
      clear hs hk5 hb5 ht5 hcp hHeld hrl hl256
      go_wp2_with fail
      go_ret
      exact ⟨rfl, HK5.out⟩
end Go.Proofs.Ytegcbdfilkecpaa
/- The log: frames written behind those that count; condition: a log in memory on a disk. -/
namespace Go.Proofs.Ytegcbdfilkecpaa
open Go.RowKit

/-- made frames in memory -/
def FnsAt (w : World) (A : Option Addr) (n : Nat) (l : List Fr) : Prop := RowsC w A n 259 (l.map fnL)
theorem FnsAt.len {w : World} {A : Option Addr} {n : Nat} {l : List Fr} (h : FnsAt w A n l) : l.length = n := by have := h.1; simpa using this
theorem FnsAt.at_ {w : World} {A : Option Addr} {n : Nat} {l : List Fr} (h : FnsAt w A n l) (k : Nat) (hk : k < n) : ∃ g o, A = some ⟨g, o, none⟩ ∧ g < w.heap.size ∧ w.there g (o + k * 259) 259 ∧ readRow w g (o + k * 259) 259 = (fnL (l[k]'(by rw [h.len]; exact hk))).toArray := by
  have hkl : k < (l.map fnL).length := by have := h.1; omega
  obtain ⟨g, o, e, hg, hc⟩ := h.2.2 (by omega)
  have hl : ((l.map fnL)[k]).length = 259 := h.2.1 _ (List.getElem_mem hkl)
  have h2 : k * 259 + 259 ≤ n * 259 := by omega
  have ht : w.there g (o + k * 259) 259 := fun j hj => by
    obtain ⟨h5, h6⟩ := hc k hkl j hj
    refine ⟨?_, h6⟩
    rw [h5, List.getElem?_eq_getElem (by omega)]
    rfl
  refine ⟨g, o, e, hg, ht, ?_⟩
  unfold readRow
  refine congrArg List.toArray ?_
  apply List.ext_getElem
  · simp only [List.getElem_map] at hl
    simp [hl]
  · intro j h1 h3
    have hj : j < 259 := by simpa using h1
    simp only [List.getElem_map, List.getElem_range]
    rw [(hc k hkl j hj).1]
    simp only [List.getElem_map]
    rw [List.getElem?_eq_getElem (by simpa using h3)]
    rfl
/-- frames written, the first at the k-th place -/
def wrR : Nat → List Fr → Pl → Pl × Int
  | _, [], p => (p.sync nmWal, p.syncE)
  | k, f :: r, p => if 1048576 < 64 + 320 * (k : Int) + 320 then (p, 5) else
      if p.writeE nmWal (64 + 320 * (k : Int)) (frB f) = 0 then wrR (k + 1) r (p.write nmWal (64 + 320 * (k : Int)) (frB f)) else (p.write nmWal (64 + 320 * (k : Int)) (frB f), p.writeE nmWal (64 + 320 * (k : Int)) (frB f))
theorem wrR_cons (k : Nat) (f : Fr) (r : List Fr) (p : Pl) : wrR k (f :: r) p = if 1048576 < 64 + 320 * (k : Int) + 320 then (p, 5) else
      if p.writeE nmWal (64 + 320 * (k : Int)) (frB f) = 0 then wrR (k + 1) r (p.write nmWal (64 + 320 * (k : Int)) (frB f)) else (p.write nmWal (64 + 320 * (k : Int)) (frB f), p.writeE nmWal (64 + 320 * (k : Int)) (frB f)) := rfl
theorem wrR_nil (k : Nat) (p : Pl) : wrR k [] p = (p.sync nmWal, p.syncE) := rfl
theorem sm_wrR (l : List Fr) : ∀ (k : Nat) {p : Pl} {m M : Nat}, M = m + 20000 * (l.length + 1) → p.sm M → (wrR k l p).1.sm m := by
  induction l with
  | nil =>
    intro k p m M hM h
    rw [wrR_nil]
    rw [List.length_nil] at hM
    exact sm_sync _ (sm_mono h (by omega))
  | cons x r ih =>
    intro k p m M hM h
    rw [List.length_cons] at hM
    obtain ⟨M2, hM2⟩ : ∃ M2, M2 = m + 20000 * (r.length + 1) := ⟨_, rfl⟩
    have h1 : (p.write nmWal (64 + 320 * (k : Int)) (frB x)).sm M2 := sm_write _ _ _ (sm_mono h (by omega))
    rw [wrR_cons]
    generalize 64 + 320 * (k : Int) = a at h1 ⊢
    generalize p.write nmWal a (frB x) = q at h1 ⊢
    split
    · exact sm_mono h (by omega)
    · split
      · exact ih (k + 1) hM2 h1
      · exact sm_mono h1 (by omega)
theorem exLoadFr {w : World} {g : Nat} {t : TypeId} {FV : Array Value} (hb : Blk w g t FV) (hs : FV.size = 259) (ev : Operand → Value) {x : Operand} {ds : Option Tmp} {ty : TypeId} {ps : String} {af : Array Edge} {gd : Option (Nat × Bool)} (hx : ev x = .pointer (some ⟨g, 0, none⟩)) :
    (execOp ev ⟨ds, .load 171 x, ty, ps, af, gd⟩).run Try.prog w = .ok (.value (.agg FV)) w := by
  rw [loadFr w ev ds x ty ps af gd (by rw [hx]; exact hb.thereAll 259 hs), hx]
  show Result.ok (Next.value (.agg (readRow w g 0 259))) w = _
  rw [hb.readAll 259 hs]
section
variable {S : Nat → Prop} {w : World} {db lb : Nat} {p : Pl} {Hd : W4} {A : Option Addr} {c : Nat}
/-- the log's cells -/
theorem lg_hd {k0 : Nat} (h : Blk w lb 163 (lgC db Hd A k0 c)) : w.there lb 1 4 ∧ readRow w lb 1 4 = w4A Hd := ⟨h.there (by show 1 + 4 ≤ 6; omega), (show Blk w lb 163 ([Value.pointer (some ⟨db, 0, none⟩)] ++ (w4A Hd).toList ++ [Value.slice A k0 c]).toArray from h).read 1 4 rfl rfl⟩
attribute [local go_sem ↓] loadW4 storeW4
set_option maxRecDepth 100000 in
theorem wheal_q {k0 : Nat} (h : Dq S w w db p) (hl : Blk w lb 163 (lgC db Hd A k0 c)) (hlb : ¬ S lb) (hm : p.sm 40000) :
    Calls Try.prog 101 #[.pointer (some ⟨lb, 0, none⟩)] w fun e w' => e = .returned (.int .i64 (p.runS (headS nmWal Hd)).2) ∧ Dq S w w' db (p.runS (headS nmWal Hd)).1 := by
  have H := Lib.hid h
  have HM := Lib.hid hm
  have HLB := Lib.hid hlb
  obtain ⟨t0, r0⟩ := lg_hd hl
  have HC := Lib.hid (show w.cell? ⟨lb, 0, none⟩ = some (.pointer (some ⟨db, 0, none⟩)) from hl.cell 0)
  clear h hm hl hlb
  go_enter Try.func101, Try.ntmps101
  go_wp2_with fail
  refine (wseal_q H.out HC.out HLB.out Hd HM.out).mono ?_
  rintro e w4 ⟨rfl, h4⟩
  have H4 := Lib.hid h4
  clear h4
  go_wp2_with fail
  go_ret
  exact ⟨rfl, H4.out⟩
theorem wat_q2 (w : World) (k : Nat) (hk : k ≤ 2199023255552) : Calls Try.prog 146 #[.int .i64 (k : Int)] w fun e w' => e = .returned (.int .i64 (64 + 320 * (k : Int))) ∧ w = w' := by
  have h1 : IntKind.i64.wrap ((k : Int) * 320) = (k : Int) * 320 := by rw [IntKind.wrap_i64]; omega
  have h2 : IntKind.i64.wrap (64 + (k : Int) * 320) = 64 + 320 * (k : Int) := by rw [IntKind.wrap_i64]; omega
  go_enter Try.func146, Try.ntmps146
  go_wp2_with fail
  go_ret
  exact ⟨rfl, rfl⟩
def WwRel (S : Nat → Prop) (w : World) (db : Nat) (p : Pl) (k0 : Nat) (l : List Fr) (v : Value) (wr : World) : Prop :=
  ∃ (k : Nat) (q : Pl), v = .int .i64 (k : Int) ∧ k ≤ l.length ∧ wrR k0 l p = wrR (k0 + k) (l.drop k) q ∧ q.sm (20000 * (l.length - k + 1)) ∧ Dq S w wr db q
attribute [local go_sem ↓] loadFr storeFr allocFr
attribute [local go_sem] size_setCells
set_option maxRecDepth 100000 in
set_option maxHeartbeats 1600000 in
theorem wwrite_q (h : Dq S w w db p) (k0 : Nat) (hl : Blk w lb 163 (lgC db Hd A k0 c)) (hlb : ¬ S lb) (hfl : k0 ≤ 1048576) (A2 : Option Addr) (n cap : Nat) (new : List Fr) (hnw : FnsAt w A2 n new) (hA : Apart S A2 n) (hok : ∀ f ∈ new, FrOk f) (hm : p.sm (20000 * (n + 1))) (hnn : n < 1099511627776) :
    Calls Try.prog 109 #[.pointer (some ⟨lb, 0, none⟩), .slice A2 n cap] w fun e w' => e = .returned (.int .i64 (wrR k0 new p).2) ∧ Dq S w w' db (wrR k0 new p).1 := by
  have H := Lib.hid h
  have HM := Lib.hid hm
  have HL := Lib.hid hl
  have HLB := Lib.hid hlb
  have HNW := Lib.hid hnw
  have HA := Lib.hid hA
  have HOK := Lib.hid hok
  have HLN := Lib.hid hnw.len
  clear h hm hl hlb hnw hA hok
  go_enter Try.func109, Try.ntmps109
  go_wp2_with fail
  go_loopw [11] (fun v wr => WwRel S w db p k0 new v wr) (fun v _ => n - (intOf v).toNat)
  case atStart => exact ⟨0, p, rfl, Nat.zero_le _, rfl, sm_mono HM.out (by rw [HLN.out]; omega), H.out⟩
  case round =>
    obtain ⟨wq, rfl⟩ : ∃ wq, wq = wr := ⟨_, rfl⟩
    obtain ⟨k, q, rfl, hk, hr0, hqm, hq⟩ := hrel
    have HQ := Lib.hid hq
    have HR0 := Lib.hid hr0
    have HQM := Lib.hid hqm
    have hlr : FnsAt wq A2 n new := RowsC.keepS HNW.out hq.kp (fun g o e hn => HA.out g o e hn)
    have hlq : Blk wq lb 163 (lgC db Hd A k0 c) := HL.out.keep hq.kp HLB.out
    by_cases hlt : k < n
    · have hkk : (k : Int) < (n : Int) := by omega
      obtain ⟨g, o, rfl, hg, t1, r1⟩ := hlr.at_ k hlt
      obtain ⟨x, hx⟩ : ∃ x, new[k]? = some x := ⟨_, List.getElem?_eq_getElem (by rw [HLN.out]; exact hlt)⟩
      have hxe : new[k]'(by rw [HLN.out]; exact hlt) = x := (List.getElem?_eq_some_iff.1 hx).2
      rw [hxe] at r1
      have hxm : x ∈ new := List.mem_of_getElem? hx
      have hxo := HOK.out x hxm
      have hdr : new.drop k = x :: new.drop (k + 1) := by rw [← hxe]; exact List.drop_eq_getElem_cons (by rw [HLN.out]; exact hlt)
      have HDR := Lib.hid hdr
      have o1 : ones (fnL x).toArray := ones_of (fnL_one x)
      have s1 : (fnL x).toArray.size = 259 := by rw [List.size_toArray, fnL_len hxo.len]
      have hcall := fun W => wbytes_q W x hxo
      have HXO := Lib.hid hxo
      obtain ⟨FV, hFV⟩ : ∃ FV, (fnL x).toArray = FV := ⟨_, rfl⟩
      rw [hFV] at r1 o1 s1
      have HFV := Lib.hid hFV
      have hb := Blk.new wq 171 fr0
      have hb2 := hb.whole FV (by rw [s1]; kernel_rfl)
      have t2 := hb.thereAll 259 (by kernel_rfl)
      have hk3 : Kp NoB wq ((wq.alloc (.cells fr0 171)).setCells wq.heap.size 0 FV.toList) := Kp.setCells (.inl (Nat.le_refl _)) _ _ _ ((Kp.refl _ _).alloc _)
      have c5 : ((wq.alloc (.cells fr0 171)).setCells wq.heap.size 0 FV.toList).cell? ⟨lb, 5, none⟩ = some (.slice A k0 c) := (hlq.keep hk3 (fun q => q)).cell 5
      have c0 : ((wq.alloc (.cells fr0 171)).setCells wq.heap.size 0 FV.toList).cell? ⟨lb, 0, none⟩ = some (.pointer (some ⟨db, 0, none⟩)) := (hlq.keep hk3 (fun q => q)).cell 0
      have HB2 := Lib.hid hb2
      have HK3 := Lib.hid hk3
      have HC0 := Lib.hid c0
      have HCALL := Lib.hid hcall
      have HS1 := Lib.hid s1
      have hw1 : IntKind.i64.wrap ((k0 : Int) + (k : Int)) = ((k0 + k : Nat) : Int) := by rw [IntKind.wrap_i64]; omega
      clear hFV hxo hq hr0 hqm hlr hx hxe hxm hdr hb hb2 hk3 hlq hcall
      go_wp2_with fail
      refine (show Calls _ _ #[.int .i64 ((k0 + k : Nat) : Int)] _ _ from wat_q2 _ (k0 + k) (by omega)).mono ?_
      rintro e w3 ⟨rfl, hw3⟩
      have HW3 := Lib.hid hw3
      have hw2 : IntKind.i64.wrap (64 + 320 * ((k0 + k : Nat) : Int) + 320) = 64 + 320 * ((k0 + k : Nat) : Int) + 320 := by rw [IntKind.wrap_i64]; omega
      obtain ⟨a, ha⟩ : ∃ a : Int, 64 + 320 * ((k0 + k : Nat) : Int) = a := ⟨_, rfl⟩
      rw [ha] at hw2 ⊢
      have HAA := Lib.hid ha
      rw [hw3] at HB2 HK3 HC0
      obtain ⟨g0, hg0⟩ : ∃ g0, wq.heap.size = g0 := ⟨_, rfl⟩
      rw [hg0] at HB2 ⊢
      have HG0 := Lib.hid hg0
      clear ha hw1 t1 t2 r1 c5 c0 hw3 hg0
      by_cases hbig : 1048576 < a + 320
      · have HBG := Lib.hid hbig
        go_wp2_with fail
        go_ret
        have e5 : wrR k0 new p = (q, 5) := by
          rw [HR0.out, HDR.out, wrR_cons, if_pos (by rw [HAA.out]; exact HBG.out)]
        rw [e5]
        exact ⟨rfl, HQ.out.keep HK3.out⟩
      · have HBG := Lib.hid hbig
        obtain ⟨S2, hq2, hS2⟩ := HQ.out.base
        have HS2 := Lib.hid hS2
        have H3 := Lib.hid (hq2.base1 HK3.out)
        have HSZ : Hid ((strOf (frB x)).size ≤ maxLen) := Lib.hid (by rw [strOf_size, frB_len HXO.out]; decide)
        have HSI : Hid (strI (strOf (frB x)) = frB x) := Lib.hid (strI_strOf _ (frB_rng HXO.out))
        have HM2 := Lib.hid (sm_mono HQM.out (show 20000 ≤ 20000 * (new.length - k + 1) by omega))
        obtain ⟨rb, hrb⟩ : ∃ rb, frB x = rb := ⟨_, rfl⟩
        have HRB := Lib.hid hrb
        rw [hrb] at HSZ HSI HCALL
        rw [HFV.out] at HCALL
        have HLW : Hid (lb < w3.heap.size) := Lib.hid (block_lt_of_cell HC0.out)
        have HN2 : Hid (¬ S2 lb) := Lib.hid (fun z => by
          rcases HS2.out lb z with y | y
          · exact HLB.out y
          · have hh : lb < w.heap.size := HL.out.lt; omega)
        have HLT2 : Hid (¬ S2 g0) := Lib.hid (fun z => by have := hq2.lt _ z; have := HG0.out; omega)
        clear hq2 hS2 hrb
        dsimp only
        go_upto_region 7 with fail
        obtain ⟨WE, hWE⟩ : ∃ WE, q.writeE nmWal a rb = WE := ⟨_, rfl⟩
        obtain ⟨WQ, hWQ⟩ : ∃ WQ, q.write nmWal a rb = WQ := ⟨_, rfl⟩
        have HWE := Lib.hid hWE
        have HWQ := Lib.hid hWQ
        clear hWE hWQ
        apply wp_into (G := fun V (g : Nat) => g = g0 ∧ Dq S2 w3 V db WQ)
        · refine wp_region_held_drew (S := fun V => Kp S2 w3 V) (by kernel_rfl) (Kp.refl S2 w3).drew (fun hHeld => ?_)
          have k0' : Kp NoB w3 w3.drew := (Kp.refl NoB w3).drew
          generalize w3.drew = V0 at k0' hHeld ⊢
          have kS0 : Kp S2 w3 V0 := k0'.mono (fun _ _ z => z.elim)
          refine tkS (i := 0) (v := (.pointer (some ⟨lb, 0, none⟩))) rfl (Or.inl ⟨by rfl, fun w' hq => by go_simp⟩) kS0 ?_
          simp only [Act.put, skA, skB, skC]
          refine tkS (i := 1) (v := (.pointer (some ⟨lb, 0, none⟩))) rfl (Or.inl ⟨by rfl, fun w' hq => by go_simp⟩) kS0 ?_
          simp only [Act.put, skA, skB, skC]
          refine tkS (i := 2) (v := (.pointer (some ⟨lb, 0, none⟩))) rfl (Or.inl ⟨by rfl, fun w' hq => by go_simp⟩) kS0 ?_
          simp only [Act.put, skA, skB, skC]
          refine tkS (i := 3) (v := (.pointer (some ⟨db, 0, none⟩))) rfl (Or.inl ⟨by rfl, fun w' hq => by have cc := (hq.cell HLW.out HN2.out).trans HC0.out; go_simp⟩) kS0 ?_
          simp only [Act.put, skA, skB, skC]
          refine tkS (i := 4) (v := (.int .i64 a)) rfl (Or.inl ⟨by rfl, fun w' hq => by go_simp⟩) kS0 ?_
          simp only [Act.put, skA, skB, skC]
          refine tkS (i := 5) (v := .agg FV) rfl (Or.inl ⟨by rfl, fun w' hq => exLoadFr (HB2.out.keep hq HLT2.out) HS1.out _ rfl⟩) kS0 ?_
          simp only [Act.put, skA, skB, skC]
          refine wpAnyH_ready (rs := [6]) (by kernel_rfl) (by simp) ?_
          refine AllReadyH.callR (fun y W' => y = .string (strOf rb) ∧ Kp NoB V0 W') rfl (by rfl) 153 #[.agg FV] (by first | (go_simp; done) | (go_simp; rfl)) (fun _ _ z => kS0.trans (z.2.mono (fun _ _ y => y.elim)) (fun _ _ y => y)) ((HCALL.out V0).mono (by rintro e w19 ⟨rfl, hk⟩; exact ⟨_, rfl, rfl, hk⟩)) ?_ AllReadyH.nil
          rintro y V1 ⟨rfl, kk1⟩
          have k1 := k0'.trans kk1 (fun _ _ z => z)
          simp only [Act.put, skA, skB, skC]
          refine wpAnyH_ready (rs := [7]) (by kernel_rfl) (by simp) ?_
          refine AllReadyH.callR (fun y W' => y = .int .i64 WE ∧ Dq S2 w3 W' db WQ) rfl (by rfl) 78 #[.pointer (some ⟨db, 0, none⟩), .string ⟨#[119, 97, 108]⟩, .int .i64 a, .string (strOf rb)] (by first | (go_simp; done) | (go_simp; rfl)) (fun _ _ z => z.2.kp) ((write_q (H3.out.keep k1) nmWal a (strOf rb) nmW_le HSZ.out HM2.out).mono (by rintro e w19 ⟨rfl, hk⟩; rw [HSI.out] at hk; exact ⟨_, rfl, by rw [HSI.out, HWE.out], by rw [← HWQ.out]; exact hk⟩)) ?_ AllReadyH.nil
          rintro y V2 ⟨rfl, hd2⟩
          simp only [Act.put, skA, skB, skC]
          refine tkS (i := 8) (v := (.int .i64 WE)) rfl (Or.inl ⟨by rfl, fun w' hq => by go_simp⟩) hd2.kp ?_
          simp only [Act.put, skA, skB, skC]
          refine wpAnyH_done (by kernel_rfl) ?_ _
          generalize g0 = z
          exact into_of z ⟨rfl, hd2⟩ rfl
        intro gz w6 hz6
        obtain ⟨hz, h6⟩ := hz6
        subst hz
        have h61 := Dq.tr (w0 := w) h6 (HQ.out.kp.trans (HK3.out.mono (fun _ _ z => z.elim)) (fun _ _ z => z)) HS2.out HQ.out.lt
        have H61 := Lib.hid h61
        have HLE : Hid (k + 1 ≤ new.length) := Lib.hid (by have := HLN.out; omega)
        have HWX : Hid (wrR (k0 + k) (x :: new.drop (k + 1)) q = if WE = 0 then wrR (k0 + k + 1) (new.drop (k + 1)) WQ else (WQ, WE)) := Lib.hid (by
          rw [wrR_cons, HAA.out, HRB.out, HWE.out, HWQ.out, if_neg HBG.out])
        have HMW : Hid (WQ.sm (20000 * (new.length - (k + 1) + 1))) := Lib.hid (by
          rw [← HWQ.out]
          exact sm_write _ _ _ (sm_mono HQM.out (by have := HLE.out; omega)))
        clear h6 h61
        by_cases he : WE = 0
        · have HWY := Lib.hid (HWX.out.trans (if_pos he))
          subst he
          go_wp2_with fail
          go_roundw
          case rel => exact ⟨k + 1, WQ, by go_num, HLE.out, by rw [HR0.out, HDR.out, HWY.out, Nat.add_assoc], HMW.out, H61.out⟩
          case measure => simp [intOf]; omega
        · have HWY := Lib.hid (HWX.out.trans (if_neg he))
          have he1 : (WE == 0) = false := by simpa using he
          have he2 : (WE != 0) = true := by simpa using he
          clear he
          go_wp2_with fail
          go_ret
          rw [HR0.out, HDR.out, HWY.out]
          exact ⟨rfl, H61.out⟩
    · have hkk : ¬ (k : Int) < (n : Int) := by omega
      obtain rfl : k = n := by have := HLN.out; omega
      have hdr : new.drop k = [] := by rw [List.drop_eq_nil_iff]; have := HLN.out; omega
      have HDR := Lib.hid hdr
      have c0 : wq.cell? ⟨lb, 0, none⟩ = some (.pointer (some ⟨db, 0, none⟩)) := hlq.cell 0
      have HC0 := Lib.hid c0
      obtain ⟨S2, hq2, hS2⟩ := HQ.out.base
      have HQ2 := Lib.hid hq2
      have HS2 := Lib.hid hS2
      clear hq hr0 hqm hlr hlq hdr c0 hq2 hS2
      go_wp2_with fail
      refine (wsync_q HQ2.out HC0.out (sm_mono HQM.out (by omega))).mono ?_
      rintro e w6 ⟨rfl, h6⟩
      have H61 := Lib.hid (Dq.tr (w0 := w) h6 HQ.out.kp HS2.out HQ.out.lt)
      clear h6
      go_wp2_with fail
      go_ret
      rw [HR0.out, HDR.out, wrR_nil]
      exact ⟨rfl, H61.out⟩
end
end Go.Proofs.Ytegcbdfilkecpaa
/- The journal: pages changed together; no condition but on the counts. -/
namespace Go.Proofs.Ytegcbdfilkecpaa
open Go.RowKit

theorem fill_pg (n : Int) (l : List Int) (hl : l.length = 256) : Instr.fill (fun i => (#[(0, 1), (1, 256)] : Array (Nat × Nat))[i]?) (pgA ⟨0, zeros 256⟩) [(0, .int .i64 n), (1, .agg (bytesV l))] = some (pgA ⟨n, l⟩) := by
  have hz : (pgA ⟨0, zeros 256⟩).size = 257 := by
    unfold pgA pgL
    rw [List.size_toArray, List.length_cons, List.length_map]
    unfold zeros
    rw [List.length_replicate]
  have c1 : (Value.int .i64 n).cells = #[.int .i64 n] := rfl
  have c2 : (Value.agg (bytesV l)).cells = bytesV l := rfl
  have s2 : (bytesV l).size = 256 := by rw [bytesV_size, hl]
  obtain ⟨g1, g2⟩ := Go.Great.foldl_set 0 [.int .i64 n] 0 (pgA ⟨0, zeros 256⟩)
  obtain ⟨h1, h2⟩ := Go.Great.foldl_set 1 (bytesV l).toList 0 (([Value.int .i64 n].zipIdx 0).foldl (fun cs (x : Value × Nat) => cs.setIfInBounds (0 + x.2) x.1) (pgA ⟨0, zeros 256⟩))
  have e1 : (#[Value.int .i64 n] : Array Value).zipIdx.foldl (fun cs (x : Value × Nat) => cs.setIfInBounds (0 + x.2) x.1) (pgA ⟨0, zeros 256⟩) = ([Value.int .i64 n].zipIdx 0).foldl (fun cs (x : Value × Nat) => cs.setIfInBounds (0 + x.2) x.1) (pgA ⟨0, zeros 256⟩) := by
    rw [← Array.foldl_toList, Array.toList_zipIdx]
  unfold Instr.fill
  simp only [List.getElem?_toArray, List.getElem?_cons_zero, c1]
  rw [if_neg (by rw [hz]; simp), e1]
  generalize hA : ([Value.int .i64 n].zipIdx 0).foldl (fun cs (x : Value × Nat) => cs.setIfInBounds (0 + x.2) x.1) (pgA ⟨0, zeros 256⟩) = X at g1 g2 h1 h2 ⊢
  unfold Instr.fill
  simp only [List.getElem?_toArray, List.getElem?_cons_zero, List.getElem?_cons_succ, c2]
  rw [if_neg (by rw [g1, hz, s2]; simp)]
  have e2 : (bytesV l).zipIdx.foldl (fun cs (x : Value × Nat) => cs.setIfInBounds (1 + x.2) x.1) X = ((bytesV l).toList.zipIdx 0).foldl (fun cs (x : Value × Nat) => cs.setIfInBounds (1 + x.2) x.1) X := by
    rw [← Array.foldl_toList, Array.toList_zipIdx]
  rw [e2]
  unfold Instr.fill
  refine congrArg some ?_
  apply Array.ext_getElem?
  intro k
  rw [h2 k, g1, hz, g2 k, hz]
  simp only [Array.length_toList, s2, List.length_cons, List.length_nil, Nat.add_zero, Nat.zero_add]
  rcases (show k = 0 ∨ (1 ≤ k ∧ k < 257) ∨ 257 ≤ k by omega) with rfl | hk | hk
  · rw [if_neg (by omega), if_pos (by omega)]
    rfl
  · rw [if_pos (by omega)]
    unfold pgA pgL bytesV
    obtain ⟨j, rfl⟩ : ∃ j, k = j + 1 := ⟨k - 1, by omega⟩
    rw [List.getElem?_toArray, List.getElem?_cons_succ, Nat.add_sub_cancel]
  · rw [if_neg (by omega), if_neg (by omega), Array.getElem?_eq_none (by rw [hz]; exact hk), Array.getElem?_eq_none (by unfold pgA pgL; rw [List.size_toArray, List.length_cons, List.length_map, hl]; exact hk)]
theorem built_pg (parts : List (Nat × Value)) : Try.prog.built 113 parts = Instr.fill (fun i => (#[(0, 1), (1, 256)] : Array (Nat × Nat))[i]?) (pgA ⟨0, zeros 256⟩) parts := by kernel_rfl
theorem buildPg2 (w : World) (n : Int) (l : List Int) (hl : l.length = 256) : (Instr.build 113 #[(0, .int .i64 n), (1, .agg (bytesV l))]).run Try.prog w = .ok (.agg (pgA ⟨n, l⟩)) w :=
  run_build w 113 _ _ ((built_pg _).trans (fill_pg n l hl))
theorem exBuildPg2 (w : World) (ev : Operand → Value) (x y : Operand) (n : Int) (l : List Int) (hl : l.length = 256) (ds : Option Tmp) (ty : TypeId) (ps : String) (af : Array Edge) (g : Option (Nat × Bool)) (hx : ev x = .int .i64 n) (hy : ev y = .agg (bytesV l)) :
    (execOp ev ⟨ds, .build 113 #[(0, x), (1, y)], ty, ps, af, g⟩).run Try.prog w = .ok (.value (.agg (pgA ⟨n, l⟩))) w := by
  simp only [execOp, List.map_toArray, List.map_cons, List.map_nil, hx, hy, Sem.run_bind, buildPg2 _ _ _ hl, Result.andThen_ok]
  rfl
section
variable {S : Nat → Prop} {w : World} {db : Nat} {p : Pl}
end
section
variable {S : Nat → Prop} {w : World} {db : Nat} {p : Pl}
end
section
variable {S : Nat → Prop} {w : World} {db : Nat} {p : Pl}
attribute [local go_sem ↓] loadPg storePg allocPg
end
end Go.Proofs.Ytegcbdfilkecpaa
/- The log: the steps of a commit, all of them; condition: what the steps want lies in memory. -/
namespace Go.Proofs.Ytegcbdfilkecpaa
open Go.RowKit

/-- the steps made by 'steps' -/
theorem wall_steps {db g n cap : Nat} {t : TypeId} {K : (Nat → Prop) → World → Prop} (hK : Kept K) (l : List Stpr) (S : Nat → Prop) (w : World) (p : Pl) (hs : ∀ s ∈ l, StepC db K s.f s.a s.c s.R s.cost) (hl : l.length = n) (hn : n < 1099511627776)
    (hb : Blk w g t (l.map Stpr.v).toArray) (hS : ¬ S g) (h : Dq S w w db p) (hk : K S w) (hm : p.sm (costs l)) :
    Calls Try.prog 102 #[.slice (some ⟨g, 0, none⟩) n cap] w fun e w' => e = .returned (.int .i64 (seqR (l.map (·.R)) p).2) ∧ Dq S w w' db (seqR (l.map (·.R)) p).1 := by
  have hc := chain_steps (o := 0) hK l 0 S w p hs (fun j hj => by
    simp [hj]) hb hS h hk hm
  refine (wsteps_ok w g 0 n cap _ _ (by simpa using hl) hn hc).mono ?_
  rintro e w' ⟨x, rfl, rfl, h2⟩
  exact ⟨rfl, h2⟩
theorem wr_run : ∀ (l : List Fr) (k : Nat) (p : Pl), p.down = false → p.le → (∀ x ∈ l, FrOk x) →
    wrR k l p = ((p.runS (frW k l ++ [⟨2, nmWal, 0, []⟩])).1, fullE (p.runS (frW k l ++ [⟨2, nmWal, 0, []⟩])).2) := by
  intro l
  induction l with
  | nil =>
    intro k p hd hle hl
    rw [wrR_nil]
    show _ = ((p.runS [⟨2, nmWal, 0, []⟩]).1, fullE (p.runS [⟨2, nmWal, 0, []⟩]).2)
    rw [runS_cons, stE2, stP2]
    split
    · rename_i h0
      rw [runS_nil, h0]
      rfl
    · rw [fullE_id (sync_ne3 p)]
  | cons x r ih =>
    intro k p hd hle hl
    have hb : (frB x).length = 320 := frB_len (hl x (List.mem_cons_self ..))
    rw [wrR_cons]
    show _ = ((p.runS (⟨0, nmWal, 64 + 320 * (k : Int), frB x⟩ :: (frW (k + 1) r ++ [⟨2, nmWal, 0, []⟩]))).1, fullE (p.runS (⟨0, nmWal, 64 + 320 * (k : Int), frB x⟩ :: (frW (k + 1) r ++ [⟨2, nmWal, 0, []⟩]))).2)
    rw [runS_cons, stE0, stP0]
    by_cases hbig : 1048576 < 64 + 320 * (k : Int) + 320
    · have e3 : p.writeE nmWal (64 + 320 * (k : Int)) (frB x) = 3 := by
        unfold Pl.writeE
        rw [hd, if_neg (by simp), if_neg (by omega), if_pos (by rw [hb]; omega)]
      have ep : p.write nmWal (64 + 320 * (k : Int)) (frB x) = p := by
        unfold Pl.write
        rw [if_pos (by rw [hb]; omega)]
      rw [if_pos hbig, e3, if_neg (by decide), ep]
      rfl
    · rw [if_neg hbig]
      split
      · rename_i h0
        exact ih (k + 1) _ (up_st hd ⟨0, nmWal, 64 + 320 * (k : Int), frB x⟩ h0) (le_write hle _ _ _) (fun y hy => hl y (List.mem_cons_of_mem _ hy))
      · rw [fullE_id (write_ne3 hle _ _ _ (by omega) (by rw [hb]; omega))]
theorem wcommit_run (p : Pl) (hd : p.down = false) (hle : p.le) (fs : List Fr) (k0 n : Nat) (new : List Fr) (hk0 : fs.length = k0) (hn : new.length = n) (hl : ∀ x ∈ new, FrOk x) :
    seqR [fun p' => p'.runS (headS nmWal p.whead), fun p' => wrR k0 new p', fun p' => p'.runS (headS nmWal ⟨((k0 + n : Nat) : Int), 0, 0, 0⟩)] p = ((p.runS (p.wcommitS fs new)).1, fullE (p.runS (p.wcommitS fs new)).2) := by
  subst hk0 hn
  unfold Pl.wcommitS
  rw [runS_append, seqR_cons]
  split
  · rename_i h0
    have hd1 := up_run _ hd h0
    have hle1 := le_run (headS nmWal p.whead) hle
    generalize (p.runS (headS nmWal p.whead)).1 = q at hd1 hle1 ⊢
    rw [runS_append, seqR_cons, seqR_one, wr_run new fs.length q hd1 hle1 hl]
    simp only [fullE_0]
    split
    · rename_i h1
      have hle2 := le_run (frW fs.length new ++ [⟨2, nmWal, 0, []⟩]) hle1
      rw [fullE_id (by first | exact head_ne3 hle2 _ _ | (push_cast; exact head_ne3 hle2 _ _))]
      push_cast
      rfl
    · rfl
  · rw [fullE_id (head_ne3 hle _ _)]
theorem kept_fns (A : Option Addr) (n : Nat) (l : List Fr) : Kept fun S w => FnsAt w A n l ∧ Apart S A n := fun S S' w w' h k hS => by
  refine ⟨RowsC.keepS h.1 k (fun g o e hn => h.2 g o e hn), fun g o e hn q => ?_⟩
  rcases hS g q with q | q
  · exact h.2 g o e hn q
  · obtain ⟨g', o', e', hg, hc⟩ := h.1.2.2 hn
    rw [e] at e'
    injection e' with e'
    injection e' with e1
    omega
section
variable {S : Nat → Prop} {w : World} {db lb : Nat} {p : Pl} {Hd : W4} {A : Option Addr} {c : Nat}
attribute [local go_sem ↓] loadW4 storeW4
set_option maxRecDepth 100000 in
theorem wcw_q (h : Dq S w w db p) (k0 : Nat) (B8 B10 : Nat) (hl : Blk w lb 163 (lgC db Hd A k0 c)) (hlb : ¬ S lb) (hfl : k0 ≤ 1048576) (A2 : Option Addr) (n cap : Nat) (new : List Fr) (h8 : Blk w B8 158 #[.pointer (some ⟨lb, 0, none⟩)]) (h10 : Blk w B10 161 #[.slice A2 n cap]) (hnw : FnsAt w A2 n new) (hA : Apart S A2 n) (hok : ∀ f ∈ new, FrOk f) (hm : p.sm (20000 * (n + 1))) (hnn : n < 1099511627776) :
    Calls Try.prog 108 #[.pointer (some ⟨B8, 0, none⟩), .pointer (some ⟨B10, 0, none⟩)] w fun e w' => e = .returned (.int .i64 (wrR k0 new p).2) ∧ Dq S w w' db (wrR k0 new p).1 := by
  have H := Lib.hid h
  have HM := Lib.hid hm
  have HL := Lib.hid hl
  have HLB := Lib.hid hlb
  have HNW := Lib.hid hnw
  have HA := Lib.hid hA
  have HOK := Lib.hid hok
  have c8 : w.cell? ⟨B8, 0, none⟩ = some (.pointer (some ⟨lb, 0, none⟩)) := h8.cell 0
  have c10 : w.cell? ⟨B10, 0, none⟩ = some (.slice A2 n cap) := h10.cell 0
  clear h hm hl hlb hnw hA hok h8 h10
  go_enter Try.func108, Try.ntmps108
  go_wp2_with fail
  refine (wwrite_q H.out k0 HL.out HLB.out hfl A2 n cap new HNW.out HA.out HOK.out HM.out hnn).mono ?_
  rintro e w4 ⟨rfl, h4⟩
  have H4 := Lib.hid h4
  clear h4
  go_wp2_with fail
  go_ret
  exact ⟨rfl, H4.out⟩
set_option maxRecDepth 100000 in
theorem wcs_q (h : Dq S w w db p) (B8 B13 : Nat) (hc : w.cell? ⟨lb, 0, none⟩ = some (.pointer (some ⟨db, 0, none⟩))) (hlb : ¬ S lb) (N : Nat) (hN : N < 4294967296) (h8 : Blk w B8 158 #[.pointer (some ⟨lb, 0, none⟩)]) (h13 : Blk w B13 3 #[.int .i64 (N : Int)]) (hm : p.sm 40000) :
    Calls Try.prog 110 #[.pointer (some ⟨B8, 0, none⟩), .pointer (some ⟨B13, 0, none⟩)] w fun e w' => e = .returned (.int .i64 (p.runS (headS nmWal ⟨(N : Int), 0, 0, 0⟩)).2) ∧ Dq S w w' db (p.runS (headS nmWal ⟨(N : Int), 0, 0, 0⟩)).1 := by
  have H := Lib.hid h
  have HM := Lib.hid hm
  have HC := Lib.hid hc
  have HLB := Lib.hid hlb
  have c8 : w.cell? ⟨B8, 0, none⟩ = some (.pointer (some ⟨lb, 0, none⟩)) := h8.cell 0
  have c13 : w.cell? ⟨B13, 0, none⟩ = some (.int .i64 (N : Int)) := h13.cell 0
  have hw1 : IntKind.u32.wrap (N : Int) = (N : Int) := by rw [IntKind.wrap_u32]; omega
  clear h hm hc hlb h8 h13
  go_enter Try.func110, Try.ntmps110
  go_wp2_with fail
  refine (show Calls _ _ #[_, .agg (w4A ⟨(N : Int), 0, 0, 0⟩)] _ _ from wseal_q H.out HC.out HLB.out ⟨(N : Int), 0, 0, 0⟩ HM.out).mono ?_
  rintro e w4 ⟨rfl, h4⟩
  have H4 := Lib.hid h4
  clear h4
  go_wp2_with fail
  go_ret
  exact ⟨rfl, H4.out⟩
/-- what a commit's steps want -/
def CmK (db lb : Nat) (Hd : W4) (A : Option Addr) (c k0 B8 B10 B13 : Nat) (A2 : Option Addr) (n cap : Nat) (new : List Fr) (S : Nat → Prop) (w : World) : Prop :=
  (Blk w lb 163 (lgC db Hd A k0 c) ∧ ¬ S lb) ∧ ((Blk w B8 158 #[.pointer (some ⟨lb, 0, none⟩)] ∧ ¬ S B8) ∧ ((Blk w B10 161 #[.slice A2 n cap] ∧ ¬ S B10) ∧ ((Blk w B13 3 #[.int .i64 ((k0 + n : Nat) : Int)] ∧ ¬ S B13) ∧ (FnsAt w A2 n new ∧ Apart S A2 n))))
theorem cmK_kept (k0 B8 B10 B13 : Nat) (A2 : Option Addr) (n cap : Nat) (new : List Fr) : Kept (CmK db lb Hd A c k0 B8 B10 B13 A2 n cap new) :=
  (kept_blk lb 163 (lgC db Hd A k0 c)).and ((kept_blk B8 158 #[.pointer (some ⟨lb, 0, none⟩)]).and ((kept_blk B10 161 #[.slice A2 n cap]).and ((kept_blk B13 3 #[.int .i64 ((k0 + n : Nat) : Int)]).and (kept_fns A2 n new))))
set_option maxRecDepth 100000 in
theorem wcommit_all (h : Dq S w w db p) (hdn : p.down = false) (fs : List Fr) (k0 : Nat) (hk0 : fs.length = k0) (hfl : k0 ≤ 1048576) (B8 B10 B13 : Nat) (A2 : Option Addr) (n cap : Nat) (new : List Fr)
    (hk : CmK db lb p.whead A c k0 B8 B10 B13 A2 n cap new S w) (hok : ∀ f ∈ new, FrOk f) (hn : n ≤ 4097) (hm : p.sm 100000000) :
    Calls Try.prog 102 #[.slice (some ⟨w.heap.size, 0, none⟩) 3 3] (w.alloc (.cells #[.func (.func 101) #[.pointer (some ⟨lb, 0, none⟩)] #[], .func (.func 108) #[] #[.pointer (some ⟨B8, 0, none⟩), .pointer (some ⟨B10, 0, none⟩)], .func (.func 110) #[] #[.pointer (some ⟨B8, 0, none⟩), .pointer (some ⟨B13, 0, none⟩)]] 108))
      fun e w' => e = .returned (.int .i64 (fullE (p.runS (p.wcommitS fs new)).2)) ∧ Dq S w w' db (p.runS (p.wcommitS fs new)).1 := by
  have hka := (Kp.refl NoB w).alloc (.cells #[.func (.func 101) #[.pointer (some ⟨lb, 0, none⟩)] #[], .func (.func 108) #[] #[.pointer (some ⟨B8, 0, none⟩), .pointer (some ⟨B10, 0, none⟩)], .func (.func 110) #[] #[.pointer (some ⟨B8, 0, none⟩), .pointer (some ⟨B13, 0, none⟩)]] 108)
  have hb := Blk.new w 108 #[.func (.func 101) #[.pointer (some ⟨lb, 0, none⟩)] #[], .func (.func 108) #[] #[.pointer (some ⟨B8, 0, none⟩), .pointer (some ⟨B10, 0, none⟩)], .func (.func 110) #[] #[.pointer (some ⟨B8, 0, none⟩), .pointer (some ⟨B13, 0, none⟩)]]
  generalize w.alloc (.cells #[.func (.func 101) #[.pointer (some ⟨lb, 0, none⟩)] #[], .func (.func 108) #[] #[.pointer (some ⟨B8, 0, none⟩), .pointer (some ⟨B10, 0, none⟩)], .func (.func 110) #[] #[.pointer (some ⟨B8, 0, none⟩), .pointer (some ⟨B13, 0, none⟩)]] 108) = w9 at hka hb ⊢
  have hlt := h.lt
  have hln := hk.2.2.2.2.1.len
  have hKK : CmK db lb p.whead A c k0 B8 B10 B13 A2 n cap new S w9 :=
    ⟨⟨hk.1.1.keep hka (fun q => q), hk.1.2⟩, ⟨hk.2.1.1.keep hka (fun q => q), hk.2.1.2⟩, ⟨hk.2.2.1.1.keep hka (fun q => q), hk.2.2.1.2⟩, ⟨hk.2.2.2.1.1.keep hka (fun q => q), hk.2.2.2.1.2⟩, RowsC.keep hk.2.2.2.2.1 hka, hk.2.2.2.2.2⟩
  have hcost : p.sm (40000 + (20000 * (n + 1) + (40000 + 0))) := sm_mono hm (by omega)
  refine (wall_steps (n := 3) (cap := 3) (cmK_kept (db := db) (lb := lb) (Hd := p.whead) (A := A) (c := c) k0 B8 B10 B13 A2 n cap new)
    [⟨101, #[.pointer (some ⟨lb, 0, none⟩)], #[], fun p' => p'.runS (headS nmWal p.whead), 40000⟩,
     ⟨108, #[], #[.pointer (some ⟨B8, 0, none⟩), .pointer (some ⟨B10, 0, none⟩)], fun p' => wrR k0 new p', 20000 * (n + 1)⟩,
     ⟨110, #[], #[.pointer (some ⟨B8, 0, none⟩), .pointer (some ⟨B13, 0, none⟩)], fun p' => p'.runS (headS nmWal ⟨((k0 + n : Nat) : Int), 0, 0, 0⟩), 40000⟩]
    S w9 p ?_ rfl (by omega) hb (fun q => by have := hlt _ q; omega) (h.base1 hka) hKK hcost).mono ?_
  · intro s hs
    simp only [List.mem_cons, List.not_mem_nil, or_false] at hs
    rcases hs with rfl | rfl | rfl
    · exact ⟨enters_of Try.func101 (by kernel_rfl) rfl, fun S w p' h hk hm => wheal_q h hk.1.1 hk.1.2 hm, fun p' k hm => sm_run _ (by exact hm)⟩
    · exact ⟨enters_of Try.func108 (by kernel_rfl) rfl, fun S w p' h hk hm => wcw_q h k0 B8 B10 hk.1.1 hk.1.2 hfl A2 n cap new hk.2.1.1 hk.2.2.1.1 hk.2.2.2.2.1 hk.2.2.2.2.2 hok hm (by omega), fun p' k hm => sm_wrR new k0 (m := k) rfl (by rw [hln]; exact hm)⟩
    · exact ⟨enters_of Try.func110 (by kernel_rfl) rfl, fun S w p' h hk hm => wcs_q h B8 B13 (hk.1.1.cell 0) hk.1.2 (k0 + n) (by omega) hk.2.1.1 hk.2.2.2.1.1 hm, fun p' k hm => sm_run _ (by exact hm)⟩
  · rintro e w10 ⟨he, h10⟩
    have hz := wcommit_run p hdn (fun s => h.seen_le s) fs k0 n new hk0 hln hok
    change Dq S w9 w10 db (seqR [fun p' => p'.runS (headS nmWal p.whead), fun p' => wrR k0 new p', fun p' => p'.runS (headS nmWal ⟨((k0 + n : Nat) : Int), 0, 0, 0⟩)] p).1 at h10
    rw [hz] at h10
    refine ⟨he.trans ?_, Dq.up (h.base1 hka) hka hlt h10⟩
    show Ending.returned (.int .i64 (seqR [fun p' => p'.runS (headS nmWal p.whead), fun p' => wrR k0 new p', fun p' => p'.runS (headS nmWal ⟨((k0 + n : Nat) : Int), 0, 0, 0⟩)] p).2) = _
    rw [hz]
end
end Go.Proofs.Ytegcbdfilkecpaa
