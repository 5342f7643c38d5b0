/- Texts of this proof, one behind the other: lemmas and contracts; each says its own conditions. -/
import Derived.Test.YtoeldmkbmnkhkaaGreatP1
import Derived.Test.YtoeldmkbmnkhkaaGreatP2
import Derived.Test.YtoeldmkbmnkhkaaGreatP6
import Derived.Test.YtoeldmkbmnkhkaaGreatP7
import Derived.Test.YtoeldmkbmnkhkaaGreatP8
import Derived.Laws.Cover3
import Derived.RangeFuncNested
import Derived.RangeFuncBound
import Derived.RangeFuncCalls
import Derived.RangeFuncLeaves
import Derived.RangeFuncBox
import Derived.Shelf.Abstract
import Derived.Shelf.RegionOpen
import Derived.WalkKit
import Derived.OwnWalkIn
import Derived.TacticsInMore
import Derived.LoopNIn
import Derived.LoopIn
import Derived.Maps.AppendAt
import Derived.RangeFuncWrites
import Derived.CallsIn
import Derived.OrdersIn
import Derived.Deep.RegionHeld
import Derived.Test.YtoeldmkbmnkhkaaGreatProg
import Derived.Deep.DeepFit
import Derived.Deep.WholeRow
/- A long log opened; condition: a disk that is up and a log of one sector or more. -/
namespace Go.Proofs.YtoeldmkbmnkhkaaGreat
open Go.RowKit

theorem frozen_past (w : World) (g j lo hi : Nat) (cs : Array Value) (t : TypeId) (hg : w.heap[g]? = some (.cells cs t (lo, hi))) (hj : j < lo) : w.frozen? ⟨g, j, none⟩ = false := by
  simp [World.frozen?, hg]
  omega
/-- a sector's text made bytes: an array of its own -/
theorem secOf (w : World) (z : List Int) (hz : ∀ y ∈ z, 0 ≤ y ∧ y < 256) (hl : z.length = 64) : ∃ cap w', (convert 9 50 (.string (strOf z))).run Tryz.prog w = .ok (.slice (some ⟨w.heap.size, 0, none⟩) 64 cap) w' ∧ Kp NoB w w' ∧ w'.there w.heap.size 0 64 ∧ readRow w' w.heap.size 0 64 = bytesV z := by
  have h := run_bytes_of_string w 9 50 5 (strOf z) Tryz.underlying9 Tryz.underlying50 Tryz.underlying5
  have hsz : (strOf z).size = 64 := by rw [strOf_size, hl]
  rw [hsz] at h
  obtain ⟨cap, hcap⟩ : ∃ c, grownCap w 64 0 5 = c := ⟨_, rfl⟩
  rw [hcap] at h
  obtain ⟨fz, hfz⟩ : ∃ fz, ((bytesRow (strOf z) cap).size, (bytesRow (strOf z) cap).size + 1) = fz := ⟨_, rfl⟩
  have hbs : 64 ≤ (bytesRow (strOf z) cap).size := by
    unfold bytesRow
    rw [Array.size_append, Array.size_map]
    have : (strOf z).data.size = 64 := hsz
    omega
  rw [hfz] at h
  have hg : (w.drew.alloc (.cells (bytesRow (strOf z) cap) 5 fz)).heap[w.heap.size]? = some (.cells (bytesRow (strOf z) cap) 5 fz) := heap_alloc_new w.drew (.cells (bytesRow (strOf z) cap) 5 fz)
  have hc : ∀ j, j < 64 → (w.drew.alloc (.cells (bytesRow (strOf z) cap) 5 fz)).cell? ⟨w.heap.size, j, none⟩ = some (.int .u8 (z.getD j 0)) := fun j hj => by
    have hjs : j < (strOf z).data.size := by show j < (strOf z).size; omega
    have hrow := cell_of_row (w.drew.alloc (.cells (bytesRow (strOf z) cap) 5 fz)) w.heap.size j (bytesRow (strOf z) cap) 5 fz hg
    rw [hrow, bytesRow_at _ _ j hjs]
    refine congrArg (fun y : Int => some (Value.int .u8 y)) ?_
    have h1 : z.getD j 0 = (strI (strOf z)).getD j 0 := by rw [strI_strOf z hz]
    rw [h1]
    unfold strI
    rw [List.getD_eq_getElem?_getD, List.getElem?_map, List.getElem?_eq_getElem (by simpa using hjs)]
    simp
  have hkw : Kp NoB w (w.drew.alloc (.cells (bytesRow (strOf z) cap) 5 fz)) := (Kp.refl NoB w).drew.alloc _
  have hfr : ∀ j, j < 64 → (w.drew.alloc (.cells (bytesRow (strOf z) cap) 5 fz)).frozen? ⟨w.heap.size, j, none⟩ = false := fun j hj =>
    frozen_past _ w.heap.size j fz.1 fz.2 _ _ hg (by rw [← hfz]; exact Nat.lt_of_lt_of_le hj hbs)
  clear hfz hbs hcap
  generalize w.drew.alloc (.cells (bytesRow (strOf z) cap) 5 fz) = W at h hg hc hfr hkw
  refine ⟨cap, W, h, hkw, fun j hj => ⟨?_, ?_⟩, ?_⟩
  · rw [Nat.zero_add, hc j hj]; rfl
  · rw [Nat.zero_add]; exact hfr j hj
  · unfold readRow bytesV
    refine congrArg List.toArray ?_
    apply List.ext_getElem
    · simp [hl]
    · intro i h1 h2
      have hi : i < 64 := by simpa using h1
      simp only [List.getElem_map, List.getElem_range, Nat.zero_add]
      rw [hc i hi]
      simp [List.getD_eq_getElem?_getD, List.getElem?_eq_getElem (show i < z.length by omega)]
theorem OpW.head {w : World} {db lb : Nat} {H H' : W4} {A : Option Addr} {n c : Nat} {W : World} (h : OpW w db lb H A n c W) : OpW w db lb H' A n c (W.setCells lb 1 (w4A H').toList) :=
  ⟨Blk.cellsL (xa := [ptrV db]) (xb := [.int .u32 H.a, .int .u32 H.b, .int .u32 H.c, .int .u32 H.d]) (xd := [.slice A n c]) (xs := (w4A H').toList) h.b 1 rfl rfl, h.ge, Kp.setCells (.inl h.ge) _ _ _ h.kp⟩
theorem OpW.slice {w : World} {db lb : Nat} {H : W4} {A A' : Option Addr} {n c n' c' : Nat} {W : World} (h : OpW w db lb H A n c W) : OpW w db lb H A' n' c' (W.setCell ⟨lb, 5, none⟩ (.slice A' n' c')) :=
  ⟨h.b.set_ 5 _, h.ge, h.kp.setCell (.inl h.ge) _⟩
theorem OpW.grown {w : World} {db lb : Nat} {H : W4} {A : Option Addr} {n c : Nat} {W W' W0 : World} {base m : Nat} {v : Value} {xs : List Value} {e : TypeId} (h : OpW w db lb H A n c W) (hg : W.grownBy W' v.ownBlock) (ho : W0.ownsRow base e 259 v m xs) (hb : lb < base) : OpW w db lb H A n c W' :=
  ⟨Blk.past h.b hg (fun k hk => by have := own_ge ho k hk; omega), h.ge, h.kp.own hg rfl (ho.mono (by have := h.ge; omega))⟩
theorem loadFrV {w : World} {g : Nat} {cs : Array Value} (h : Blk w g 236 cs) (hs : cs.size = 259) (ev : Operand → Value) {x : Operand} {ds : Option Tmp} {ty : TypeId} {ps : String} {af : Array Edge} {gd : Option (Nat × Bool)} (hx : ev x = .pointer (some ⟨g, 0, none⟩)) :
    (execOp ev ⟨ds, .load 236 x, ty, ps, af, gd⟩).run Tryz.prog w = .ok (.value (.agg cs)) w := by
  have h1 := loadFr w ev ds x ty ps af gd (by rw [hx]; exact h.thereAll 259 hs)
  rw [hx, readP_mk, h.readAll 259 hs] at h1
  exact h1
theorem stFs {w : World} {g : Nat} {cs : Array Value} (h : Blk w g 204 cs) (hs : cs.size = 6) (ev : Operand → Value) {x y : Operand} {A : Option Addr} {n c : Nat} {ty : TypeId} {ps : String} {af : Array Edge} {gd : Option (Nat × Bool)} (hx : ev x = .pointer (some ⟨g, 5, none⟩)) (hy : ev y = .slice A n c) :
    (execOp ev ⟨none, .store 202 x y, ty, ps, af, gd⟩).run Tryz.prog w = .ok .skip (w.setCell ⟨g, 5, none⟩ (.slice A n c)) := by
  have hc : w.cell? ⟨g, 5, none⟩ = some (cs[5]'(by omega)) := by rw [h.cell]; exact Array.getElem?_eq_getElem _
  have hf : w.frozen? ⟨g, 5, none⟩ = false := h.frozen 5
  simp only [execOp, hx, hy]
  go_simp
theorem ldFs {w : World} {g : Nat} {A : Option Addr} {n c : Nat} (hc : w.cell? ⟨g, 5, none⟩ = some (.slice A n c)) (ev : Operand → Value) {x : Operand} {ds : Option Tmp} {ty : TypeId} {ps : String} {af : Array Edge} {gd : Option (Nat × Bool)} (hx : ev x = .pointer (some ⟨g, 5, none⟩)) :
    (execOp ev ⟨ds, .load 202 x, ty, ps, af, gd⟩).run Tryz.prog w = .ok (.value (.slice A n c)) w := by
  simp only [execOp, hx]
  go_simp
theorem fr_new (w : World) (f : Fr) : ∀ j u, (frL f)[j]? = some u → (w.alloc (.cells (frL f).toArray 236)).cell? ((⟨w.heap.size, 0, none⟩ : Addr).add j) = some u := by
  intro j u hj
  rw [add_mk, Nat.zero_add, (Blk.new w 236 (frL f).toArray).cell, List.getElem?_toArray]
  exact hj
theorem frCells_len : ∀ fs : List Fr, (frCells fs).length = fs.length * 259
  | [] => rfl
  | f :: r => by
    show (frL f ++ frCells r).length = _
    rw [List.length_append, frL_len, frCells_len r, List.length_cons]
    omega
/-- what is known of the log's bytes -/
structure Wlg (p : Pl) (l : List Int) : Prop where
  e : p.seen nmWal = l
  rng : ∀ y ∈ l, 0 ≤ y ∧ y < 256
  le : l.length ≤ 1048576
  ge : 64 ≤ l.length
attribute [local go_sem ↓] loadFr storeFr allocFr loadSec storeSec loadW4 storeW4
set_option maxRecDepth 100000 in
set_option maxHeartbeats 1600000 in
theorem wopen_long {S : Nat → Prop} {W0 w : World} {db : Nat} {p : Pl} (h : Dq S W0 w db p) (hd : p.down = false) (hs : 64 ≤ (p.seen nmWal).length) : Calls Tryz.prog 118 #[ptrV db] w (OpenPost p db w) := by
  have H := Lib.hid h
  obtain ⟨l, hl⟩ : ∃ l, p.seen nmWal = l := ⟨_, rfl⟩
  have hL : Wlg p l := ⟨hl, by rw [← hl]; exact h.seen_rng nmWal, by rw [← hl]; exact h.seen_le nmWal, by rw [← hl]; exact hs⟩
  have HL := Lib.hid hL
  rw [hl] at hs
  have hz64 : (l.take 64).length = 64 := by rw [List.length_take]; omega
  have hzr : ∀ y ∈ l.take 64, 0 ≤ y ∧ y < 256 := fun y hy => hL.rng y (List.mem_of_mem_take hy)
  have hh : p.whead = openB (l.take 64) := by unfold Pl.whead says; rw [hl, if_neg (by omega)]
  have hok : W4Ok p.whead := says_ok (h.seen_rng nmWal)
  have HOK := Lib.hid hok
  have hre : p.readE 0 64 = 0 := by unfold Pl.readE; rw [hd]; decide
  have hrd : p.read nmWal 0 64 = l.take 64 := by unfold Pl.read; rw [if_pos hre, hl]; rfl
  have hre2 : p.readE 0 1048576 = 0 := by unfold Pl.readE; rw [hd]; decide
  have hrd2 : p.read nmWal 0 1048576 = l := by
    unfold Pl.read
    rw [if_pos hre2, hl]
    show (l.drop 0).take 1048576 = l
    rw [List.drop_zero, List.take_of_length_le hL.le]
  have HD := Lib.hid hd
  have HRE := Lib.hid hre
  have HRD := Lib.hid hrd
  have HRE2 := Lib.hid hre2
  have HRD2 := Lib.hid hrd2
  obtain ⟨z, hz⟩ : ∃ z, l.take 64 = z := ⟨_, rfl⟩
  rw [hz] at hz64 hzr hh HRD
  obtain ⟨h4, hh4⟩ : ∃ h4, p.whead = h4 := ⟨_, rfl⟩
  rw [hh4] at HOK
  have HH4 := Lib.hid hh4
  have HOB : Hid (openB z = h4) := Lib.hid (by rw [← hh, hh4])
  have HZ64 := Lib.hid hz64
  have HZR := Lib.hid hzr
  have hsz : (strOf z).size = 64 := by rw [strOf_size, hz64]
  clear hd hre hrd hre2 hrd2 hh h hs hl hL hz hz64 hzr hh4 hok
  unfold ptrV
  go_enter Tryz.func118, Tryz.ntmps118
  go_wp2_with fail
  refine (show Calls _ _ #[ptrV db, .string ⟨#[119, 97, 108]⟩, .int .i64 0, .int .i64 64] _ _ from read_q H.out nmWal 0 64 nmW_le (by omega) (by omega)).mono ?_
  rintro e w1 ⟨rfl, hk1⟩
  rw [HRE.out, HRD.out]
  have HK1 := Lib.hid hk1
  have hs1 : ((strOf z).size : Int) = 64 := by omega
  clear hk1 hsz
  go_upto_region 5 with fail
  refine forget (p := fun wx => Code.wp _ _ _ _ wx) (OpW w db w1.heap.size ⟨0, 0, 0, 0⟩ none 0 0) (OpW.new HK1.out) ?_
  intro w2 h2
  obtain ⟨lb, hlb⟩ : ∃ lb, w1.heap.size = lb := ⟨_, rfl⟩
  rw [hlb] at h2 ⊢
  have HP2 := Lib.hid h2
  obtain ⟨cap, w3, hcv, hk3, ht3, hr3⟩ := secOf w2 z HZR.out HZ64.out
  have hat : ∀ W, (Instr.arrayAt 156 (.slice (some ⟨w2.heap.size, 0, none⟩) 64 cap)).run Tryz.prog W = .ok (.pointer (some ⟨w2.heap.size, 0, none⟩)) W := fun W => run_arrayAt W 156 _ 64 _ 64 cap Tryz.underlying156 (by omega)
  have HP3 := Lib.hid (h2.keep hk3)
  obtain ⟨s, hss⟩ : ∃ s, strOf z = s := ⟨_, rfl⟩
  rw [hss] at hs1 hcv ⊢
  clear h2 hlb hk3 hss
  go_upto_region 6 with fail
  go_wp2_with fail
  refine (open_ok _ z HZ64.out HZR.out).mono ?_
  rintro e w4 ⟨rfl, hk4⟩
  rw [HOB.out]
  have HP4 := Lib.hid (HP3.out.keep hk4)
  have ht4 : w4.there lb 1 4 := HP4.out.b.there (by show _ ≤ 6; omega)
  have hag : aggOK (.agg (w4A h4)) 4 := ⟨rfl, w4A_ones h4⟩
  clear hk4 hcv hat ht3 hr3
  go_upto_region 7 with fail
  refine forget (p := fun wx => Code.wp _ _ _ _ wx) (OpW w db lb h4 none 0 0) HP4.out.head ?_
  intro w5 h5
  have HP5 := Lib.hid h5
  have FB : Hid (1048576 < h4.a ∨ h4.b ≠ 0 ∨ h4.c ≠ 0 ∨ h4.d ≠ 0 → OpenPost p db w (.returned (.tuple #[.pointer none, .int .i64 8])) w5) := Lib.hid (fun hb => by
    have hwo : p.wopen = (8, []) := by
      unfold Pl.wopen
      rw [HD.out, HH4.out, if_neg (by decide), if_pos hb]
    exact .inl ⟨by rw [hwo]; decide, by rw [hwo], HP5.out.kp⟩)
  obtain ⟨va, vb, vc, vd⟩ := h4
  obtain ⟨c0, c1, c2, c3, c4, c5⟩ := h5.cl
  have hra := HOK.out.a
  dsimp only at c1 c2 c3 c4 hra FB
  clear h5 ht4 hag hs1
  by_cases hA : 1048576 < va
  · go_wp2_with fail
    go_ret2
    exact FB.out (.inl hA)
  · by_cases hB : vb = 0
    · subst hB
      by_cases hC : vc = 0
      · subst hC
        by_cases hD : vd = 0
        · subst hD
          clear FB
          go_wp2_with fail
          refine (show Calls _ _ #[ptrV db, .string ⟨#[119, 97, 108]⟩, .int .i64 0, .int .i64 1048576] _ _ from read_q (H.out.keep HP5.out.kp) nmWal 0 1048576 nmW_le (by omega) (by omega)).mono ?_
          rintro e w6 ⟨rfl, hk6⟩
          rw [HRE2.out, HRD2.out]
          have h6 := HP5.out.keep hk6
          have HP6 := Lib.hid h6
          obtain ⟨c0, c1, c2, c3, c4, c5⟩ := h6.cl
          obtain ⟨K, hK⟩ : ∃ K : Nat, va = K := ⟨va.toNat, by omega⟩
          subst hK
          have hK1 : K ≤ 1048576 := by omega
          have hwK : IntKind.i64.wrap (K : Int) = (K : Int) := by rw [IntKind.wrap_i64]; omega
          have hsl := strOf_size l
          have hle := HL.out.le
          obtain ⟨sa, hsa⟩ : ∃ sa, strOf l = sa := ⟨_, rfl⟩
          rw [hsa] at hsl ⊢
          have HSA := Lib.hid hsa
          have hsz2 : sa.size ≤ 1048576 := by omega
          have HSL := Lib.hid hsl
          have HLB := Lib.hid h6.b.lt
          clear hk6 h6 hsa hsl hle
          go_wp2_with fail
          go_loopw [76] (fun v W => ∃ (k : Nat) (fs : List Fr) (A : Option Addr) (c : Nat), v = .int .i64 (k : Int) ∧ k ≤ K ∧ frsAt l k = some fs ∧ OpW w db lb ⟨(K : Int), 0, 0, 0⟩ A k c W ∧ W.ownsRow w6.heap.size 236 259 (.slice A k c) k (frCells fs) ∧ w6.heap.size ≤ W.heap.size) (fun v _ => K - (intOf v).toNat)
          case atStart => exact ⟨0, [], none, 0, rfl, Nat.zero_le _, rfl, HP6.out, World.ownsRow_nil _ _ _ _, Nat.le_refl _⟩
          case round =>
            obtain ⟨wq, rfl⟩ : ∃ wq, wq = wr := ⟨_, rfl⟩
            obtain ⟨k, fs, A, c, rfl, hk, hfs, hop, how, h66⟩ := hrel
            have H66 := Lib.hid h66
            have HFS := Lib.hid hfs
            have HOP := Lib.hid hop
            have HOW := Lib.hid how
            clear c0 c1 c2 c3 c4 c5
            obtain ⟨c0, c1, c2, c3, c4, c5⟩ := hop.cl
            by_cases hlt : k < K
            · have hkk : (k : Int) < (K : Int) := by omega
              clear hop how hfs h66
              go_wp2_with fail
              refine (wat_q _ k (by omega)).mono ?_
              rintro e w7 ⟨rfl, rfl⟩
              obtain ⟨q, hq⟩ : ∃ q, 64 + 320 * k = q := ⟨_, rfl⟩
              rw [hq]
              have HQ := Lib.hid hq
              clear hq
              have FN : Hid (frAt l k = none → ∀ W, Kp NoB w W → OpenPost p db w (.returned (.tuple #[.pointer none, .int .i64 8])) W) := Lib.hid (fun hf W hkp => by
                have hwo : p.wopen = (8, []) := by
                  have hb : ¬ (1048576 < (K : Int) ∨ (0 : Int) ≠ 0 ∨ (0 : Int) ≠ 0 ∨ (0 : Int) ≠ 0) := by omega
                  unfold Pl.wopen
                  rw [HD.out, HH4.out, if_neg (by decide), if_neg hb, HL.out.e]
                  show (match frsAt l K with | none => _ | some fs => _) = _
                  rw [frsAt_none hf hlt]
                exact .inl ⟨by rw [hwo]; decide, by rw [hwo], hkp⟩)
              have hfp := frAt_P l k
              rw [HQ.out] at hfp
              have HFP := Lib.hid hfp
              clear hfp
              by_cases hmn : sa.size ≤ q
              · have hm1 : ((sa.size : Nat) : Int) ≤ ((q : Nat) : Int) := by omega
                go_wp2_with fail
                refine (show Calls _ _ #[.string (strOf [])] _ _ from parse_q wq [] (by simp) (by simp)).mono ?_
                rintro e w8 ⟨cs, rfl, hcs, hcone, -, hk8⟩
                rw [show (frP []).isSome = false from rfl]
                have ht8 : (w8.alloc (.cells fr0 236)).there w8.heap.size 0 259 := (Blk.new _ _ _).thereAll 259 fr0_size
                have hag : aggOK (.agg cs) 259 := ⟨hcs, hcone⟩
                have HK8 : Hid (Kp NoB w ((w8.alloc (.cells fr0 236)).setCells w8.heap.size 0 cs.toList)) := Lib.hid (Kp.setCells (.inl (HOP.out.kp.trans hk8 (fun _ _ q => q)).size) _ _ _ ((HOP.out.kp.trans hk8 (fun _ _ q => q)).alloc _))
                clear hk8 hcs hcone c0 c1 c2 c3 c4 c5
                go_wp2_with fail
                go_ret2
                refine FN.out ?_ _ HK8.out
                rw [HFP.out, List.drop_of_length_le (by have := HSL.out; omega)]
                rfl
              · have hm1 : ¬ ((sa.size : Nat) : Int) ≤ ((q : Nat) : Int) := by omega
                have hex : sa.extract q sa.size = strOf (l.drop q) := by
                  rw [← HSA.out, strOf_sub, strOf_size, List.take_of_length_le (by rw [List.length_drop]; omega)]
                obtain ⟨b, hb⟩ : ∃ b, l.drop q = b := ⟨_, rfl⟩
                rw [hb] at hex
                have hbr : ∀ y ∈ b, 0 ≤ y ∧ y < 256 := fun y hy => HL.out.rng y (List.mem_of_mem_drop (by rw [hb]; exact hy))
                have hbl : b.length ≤ 1048576 := by rw [← hb, List.length_drop]; have := HL.out.le; omega
                have HFB : Hid (frAt l k = frP b) := Lib.hid (by rw [HFP.out, hb])
                have HBR := Lib.hid hbr
                have HBL := Lib.hid hbl
                have HEX := Lib.hid hex
                clear hbr hbl hb hex
                go_wp2_with fail
                rw [HEX.out]
                refine (parse_q wq b HBR.out HBL.out).mono ?_
                rintro e w8 ⟨cs, rfl, hcs, hcone, hcf, hk8⟩
                have ht8 : (w8.alloc (.cells fr0 236)).there w8.heap.size 0 259 := (Blk.new _ _ _).thereAll 259 fr0_size
                have hag : aggOK (.agg cs) 259 := ⟨hcs, hcone⟩
                have hop8 := HOP.out.keep hk8
                have how8 := own_keepB HOW.out hk8 (fun _ _ q => q)
                have hk9 : Kp NoB w8 ((w8.alloc (.cells fr0 236)).setCells w8.heap.size 0 cs.toList) := Kp.setCells (.inl (Nat.le_refl _)) _ _ _ ((Kp.refl NoB w8).alloc _)
                have hb9 : Blk ((w8.alloc (.cells fr0 236)).setCells w8.heap.size 0 cs.toList) w8.heap.size 236 cs := (Blk.new _ _ _).whole cs (by rw [fr0_size, hcs])
                have HK9 := Lib.hid hk9
                have HB9 := Lib.hid hb9
                have HOP8 := Lib.hid hop8
                have HOW8 := Lib.hid how8
                have HCF := Lib.hid hcf
                have H68 : Hid (w6.heap.size ≤ w8.heap.size) := Lib.hid (Nat.le_trans H66.out hk8.size)
                clear hk8 hk9 hb9 hop8 how8 hcf hcone c0 c1 c2 c3 c4 c5
                obtain ⟨of, hof⟩ : ∃ of, frP b = of := ⟨_, rfl⟩
                rw [hof]
                have HOF := Lib.hid hof
                clear hof
                cases of with
                | none =>
                  rw [show (none : Option Fr).isSome = false from rfl]
                  clear hcs
                  go_wp2_with fail
                  go_ret2
                  exact FN.out (by rw [HFB.out, HOF.out]) _ (HOP8.out.keep HK9.out).kp
                | some f =>
                  rw [show (some f).isSome = true from rfl]
                  have hce := HCF.out f HOF.out
                  subst hce
                  clear hcs
                  go_upto_region 16 with fail
                  obtain ⟨j0, hj0, hy0, hy1, hy2⟩ := info_parts infoFr
                  have hop9 := HOP8.out.keep HK9.out
                  have how9 := own_keepB HOW8.out HK9.out (fun _ _ q => q)
                  have h69 : w6.heap.size ≤ ((w8.alloc (.cells fr0 236)).setCells w8.heap.size 0 (frL f).toArray.toList).heap.size := Nat.le_trans H68.out HK9.out.size
                  have hb9 := HB9.out
                  have hlg : ∀ b, (Value.slice A k c).ownBlock = some b → b ≠ w8.heap.size := fun b hb => by have := (HOW8.out.lt b hb).2; omega
                  have h6g := H68.out
                  clear HK9 HB9 HOP8 HOW8 H68 H66 HOP HOW ht8 hag HCF
                  generalize (w8.alloc (.cells fr0 236)).setCells w8.heap.size 0 (frL f).toArray.toList = w9 at hop9 how9 hb9 h69 ⊢
                  obtain ⟨g4, hg4⟩ : ∃ g4, w8.heap.size = g4 := ⟨_, rfl⟩
                  rw [hg4] at hb9 hlg h6g ⊢
                  clear hg4
                  have hs9 : Blk w9.drew g4 236 (frL f).toArray := hb9.drew
                  have hop0 := hop9.keep (Kp.refl NoB w9).drew
                  have how0 := own_keepB how9 (Kp.refl NoB w9).drew (fun _ _ q => q)
                  have h60 : w6.heap.size ≤ w9.drew.heap.size := h69
                  refine wp_region_held_drew (S := fun V => Blk V g4 236 (frL f).toArray) (by kernel_rfl) hs9 (fun hHeld => ?_)
                  generalize w9.drew = V0 at hs9 hop0 how0 h60 hHeld ⊢
                  have hfl : (frL f).toArray.size = 259 := by rw [List.size_toArray, frL_len]
                  have cc : V0.cell? ⟨lb, 5, none⟩ = some (.slice A k c) := hop0.b.cell 5
                  refine tkS (i := 0) (v := (.pointer (some ⟨lb, 0, none⟩))) rfl (Or.inl ⟨by rfl, fun w' hq => by go_simp⟩) hs9 ?_
                  simp only [Act.put, skA, skB, skC]
                  refine tkS (i := 1) (v := (.pointer (some ⟨lb, 0, none⟩))) rfl (Or.inl ⟨by rfl, fun w' hq => by go_simp⟩) hs9 ?_
                  simp only [Act.put, skA, skB, skC]
                  refine tkS (i := 2) (v := (.pointer (some ⟨lb, 0, none⟩))) rfl (Or.inl ⟨by rfl, fun w' hq => by go_simp⟩) hs9 ?_
                  simp only [Act.put, skA, skB, skC]
                  refine tkS (i := 3) (v := (.pointer (some ⟨lb, 5, none⟩))) rfl (Or.inl ⟨by rfl, fun w' hq => by go_simp⟩) hs9 ?_
                  simp only [Act.put, skA, skB, skC]
                  refine tkS (i := 5) (v := .agg (frL f).toArray) rfl (Or.inl ⟨by rfl, fun w' hq => loadFrV hq hfl _ rfl⟩) hs9 ?_
                  simp only [Act.put, skA, skB, skC]
                  have hop1 := hop0.keep ((Kp.refl NoB V0).alloc (.cells (frL f).toArray 236))
                  have how1 := own_keepB how0 ((Kp.refl NoB V0).alloc (.cells (frL f).toArray 236)) (fun _ _ q => q)
                  have hs1 := hs9.alloc (.cells (frL f).toArray 236)
                  have hbase : w6.heap.size ≤ (V0.alloc (.cells (frL f).toArray 236)).heap.size := Nat.le_trans h60 ((Kp.refl NoB V0).alloc (.cells (frL f).toArray 236)).size
                  refine wpAnyH_ready (rs := [4, 6]) (by kernel_rfl) (by simp) ?_
                  refine AllReadyH.valR (fun W' => V0 = W') rfl (by rfl) (.slice A k c) V0 (by go_simp) (fun W' e => by rw [← e]; exact hs9) rfl ?_ (AllReadyH.valR (fun W' => W' = V0.alloc (.cells (frL f).toArray 236)) rfl (by rfl) _ _ (exSliceFr V0 _ _ _ _ _ _ _ _ rfl hfl) (fun W' e => by rw [e]; exact hs1) rfl ?_ AllReadyH.nil)
                  · rintro _ rfl
                    simp only [Act.put, skA, skB, skC]
                    refine wpAnyH_ready (rs := [6]) (by kernel_rfl) (by simp) ?_
                    refine AllReadyH.valR (fun W' => W' = V0.alloc (.cells (frL f).toArray 236)) rfl (by rfl) _ _ (exSliceFr V0 _ _ _ _ _ _ _ _ rfl hfl) (fun W' e => by rw [e]; exact hs1) rfl ?_ AllReadyH.nil
                    rintro _ rfl
                    simp only [Act.put, skA, skB, skC]
                    refine wpAnyH_ready (rs := [7]) (by kernel_rfl) (by simp) ?_
                    refine AllReadyH.appendB rfl (by rfl) w6.heap.size 236 j0 _ 259 288 Tryz.underlying202 hj0 hy0 hy1 hy2 rfl (by omega) (.slice A k c) k (frCells fs) rfl how1 ⟨V0.heap.size, 0, none⟩ 1 1 (frL f) rfl (frL_len f) (fr_new V0 f) (frL_one f) (by unfold maxLen; omega) (by omega) hbase (fun v' w' hown hgrow hb => Blk.past hs1 hgrow hlg) ?_ AllReadyH.nil
                    intro v7 w10 hown7 hgrow7 hb7
                    simp only [Act.put, skA, skB, skC]
                    obtain ⟨A7, c7, rfl⟩ := own_slice hown7
                    have hs7 := Blk.past hs1 hgrow7 hlg
                    have hop10 := hop1.grown hgrow7 how1 HLB.out
                    have h6X : w6.heap.size ≤ w10.heap.size := by
                      obtain ⟨gg, -, q1, q2⟩ := own_at hown7 (by omega)
                      omega
                    refine tkS (i := 8) (v := (.pointer (some ⟨lb, 0, none⟩))) rfl (Or.inl ⟨by rfl, fun w' hq => by go_simp⟩) hs7 ?_
                    simp only [Act.put, skA, skB, skC]
                    refine tkS (i := 9) (v := (.pointer (some ⟨lb, 5, none⟩))) rfl (Or.inl ⟨by rfl, fun w' hq => by go_simp⟩) hs7 ?_
                    simp only [Act.put, skA, skB, skC]
                    refine wpAnyH_ready (rs := [10]) (by kernel_rfl) (by simp) ?_
                    refine AllReadyH.skipR rfl (by rfl) (w10.setCell ⟨lb, 5, none⟩ (.slice A7 (k + 1) c7)) (stFs hop10.b rfl _ rfl rfl) (hs7.far (by have := HLB.out; show g4 ≠ lb; omega) _) ?_ AllReadyH.nil
                    refine wpAnyH_done (by kernel_rfl) ?_ _
                    have HOP11 := Lib.hid (hop10.slice (A' := A7) (n' := k + 1) (c' := c7))
                    have HOW11 := Lib.hid (own_keepB hown7 ((Kp.refl (OnB lb) w10).setAt (g := lb) rfl 5 (.slice A7 (k + 1) c7)) (fun g hg e => by have h1 := own_ge hown7 g hg; have h2 := HLB.out; have h3 : g = lb := e; omega))
                    have H11 : Hid (w6.heap.size ≤ (w10.setCell ⟨lb, 5, none⟩ (.slice A7 (k + 1) c7)).heap.size) := Lib.hid (Nat.le_trans h6X (by simp))
                    generalize w10.setCell ⟨lb, 5, none⟩ (.slice A7 (k + 1) c7) = w11 at HOP11 HOW11 H11 ⊢
                    clear hHeld hown7 hgrow7 hb7 hs7 hop10 hs1 hs9 hop0 hop1 how0 how1 cc h60 h6X hlg h6g hbase hop9 how9 hb9 h69 hj0 hy0 hy1 hy2
                    go_wp2_with fail
                    go_roundw
                    case rel =>
                      refine ⟨k + 1, fs ++ [f], A7, c7, by go_num, by omega, frsAt_next HFS.out (by rw [HFB.out, HOF.out]), HOP11.out, ?_, H11.out⟩
                      have h9 := HOW11.out
                      unfold frCells at h9 ⊢
                      rw [List.flatMap_append]
                      simpa using h9
                    case measure => simp [intOf]; omega
                  · rintro _ rfl
                    simp only [Act.put, skA, skB, skC]
                    have cc1 : (V0.alloc (.cells (frL f).toArray 236)).cell? ⟨lb, 5, none⟩ = some (.slice A k c) := hop1.b.cell 5
                    refine wpAnyH_ready (rs := [4]) (by kernel_rfl) (by simp) ?_
                    refine AllReadyH.valR (fun W' => W' = V0.alloc (.cells (frL f).toArray 236)) rfl (by rfl) (.slice A k c) _ (ldFs cc1 _ rfl) (fun W' e => by rw [e]; exact hs1) rfl ?_ AllReadyH.nil
                    rintro _ rfl
                    simp only [Act.put, skA, skB, skC]
                    clear cc1
                    refine wpAnyH_ready (rs := [7]) (by kernel_rfl) (by simp) ?_
                    refine AllReadyH.appendB rfl (by rfl) w6.heap.size 236 j0 _ 259 288 Tryz.underlying202 hj0 hy0 hy1 hy2 rfl (by omega) (.slice A k c) k (frCells fs) rfl how1 ⟨V0.heap.size, 0, none⟩ 1 1 (frL f) rfl (frL_len f) (fr_new V0 f) (frL_one f) (by unfold maxLen; omega) (by omega) hbase (fun v' w' hown hgrow hb => Blk.past hs1 hgrow hlg) ?_ AllReadyH.nil
                    intro v7 w10 hown7 hgrow7 hb7
                    simp only [Act.put, skA, skB, skC]
                    obtain ⟨A7, c7, rfl⟩ := own_slice hown7
                    have hs7 := Blk.past hs1 hgrow7 hlg
                    have hop10 := hop1.grown hgrow7 how1 HLB.out
                    have h6X : w6.heap.size ≤ w10.heap.size := by
                      obtain ⟨gg, -, q1, q2⟩ := own_at hown7 (by omega)
                      omega
                    refine tkS (i := 8) (v := (.pointer (some ⟨lb, 0, none⟩))) rfl (Or.inl ⟨by rfl, fun w' hq => by go_simp⟩) hs7 ?_
                    simp only [Act.put, skA, skB, skC]
                    refine tkS (i := 9) (v := (.pointer (some ⟨lb, 5, none⟩))) rfl (Or.inl ⟨by rfl, fun w' hq => by go_simp⟩) hs7 ?_
                    simp only [Act.put, skA, skB, skC]
                    refine wpAnyH_ready (rs := [10]) (by kernel_rfl) (by simp) ?_
                    refine AllReadyH.skipR rfl (by rfl) (w10.setCell ⟨lb, 5, none⟩ (.slice A7 (k + 1) c7)) (stFs hop10.b rfl _ rfl rfl) (hs7.far (by have := HLB.out; show g4 ≠ lb; omega) _) ?_ AllReadyH.nil
                    refine wpAnyH_done (by kernel_rfl) ?_ _
                    have HOP11 := Lib.hid (hop10.slice (A' := A7) (n' := k + 1) (c' := c7))
                    have HOW11 := Lib.hid (own_keepB hown7 ((Kp.refl (OnB lb) w10).setAt (g := lb) rfl 5 (.slice A7 (k + 1) c7)) (fun g hg e => by have h1 := own_ge hown7 g hg; have h2 := HLB.out; have h3 : g = lb := e; omega))
                    have H11 : Hid (w6.heap.size ≤ (w10.setCell ⟨lb, 5, none⟩ (.slice A7 (k + 1) c7)).heap.size) := Lib.hid (Nat.le_trans h6X (by simp))
                    generalize w10.setCell ⟨lb, 5, none⟩ (.slice A7 (k + 1) c7) = w11 at HOP11 HOW11 H11 ⊢
                    clear hHeld hown7 hgrow7 hb7 hs7 hop10 hs1 hs9 hop0 hop1 how0 how1 cc h60 h6X hlg h6g hbase hop9 how9 hb9 h69 hj0 hy0 hy1 hy2
                    go_wp2_with fail
                    go_roundw
                    case rel =>
                      refine ⟨k + 1, fs ++ [f], A7, c7, by go_num, by omega, frsAt_next HFS.out (by rw [HFB.out, HOF.out]), HOP11.out, ?_, H11.out⟩
                      have h9 := HOW11.out
                      unfold frCells at h9 ⊢
                      rw [List.flatMap_append]
                      simpa using h9
                    case measure => simp [intOf]; omega
            · have hkk : ¬ (k : Int) < (K : Int) := by omega
              obtain rfl : k = K := by omega
              have hwo : p.wopen = if lastEn fs = 0 then (8, []) else (0, fs) := by
                have hb : ¬ (1048576 < (k : Int) ∨ (0 : Int) ≠ 0 ∨ (0 : Int) ≠ 0 ∨ (0 : Int) ≠ 0) := by omega
                unfold Pl.wopen
                rw [HD.out, HH4.out, if_neg (by decide), if_neg hb, HL.out.e]
                show (match frsAt l k with | none => _ | some fs => _) = _
                rw [HFS.out]
              have HWO := Lib.hid hwo
              have hln := frsAt_len HFS.out
              have HLN := Lib.hid hln
              have HEND : Hid (lastEn fs ≠ 0 → OpenPost p db w (.returned (.tuple #[.pointer (some ⟨lb, 0, none⟩), .int .i64 0])) wq) := Lib.hid (fun he => by
                rw [if_neg he] at hwo
                exact .inr ⟨by rw [hwo], lb, A, c, rfl, by rw [hwo, HH4.out, hln]; exact hop.b, by rw [hwo, hln]; exact how.mono (by have := HP6.out.kp.size; omega), hop.ge, hop.kp⟩)
              have HBD : Hid (lastEn fs = 0 → OpenPost p db w (.returned (.tuple #[.pointer none, .int .i64 8])) wq) := Lib.hid (fun he => by
                rw [if_pos he] at hwo
                exact .inl ⟨by rw [hwo]; decide, by rw [hwo], hop.kp⟩)
              clear hop hwo hln h66
              cases k with
              | zero =>
                have h0 : fs = [] := List.length_eq_zero_iff.1 HLN.out
                subst h0
                clear how hfs
                go_wp2_with fail
                go_ret2
                exact HEND.out (by decide)
              | succ n =>
                obtain ⟨g, hA, hg1, hg2⟩ := own_at how (by omega)
                subst hA
                obtain ⟨gs, f, hgs, hfe⟩ : ∃ gs f, fs = gs ++ [f] ∧ gs.length = n := by
                  rcases List.eq_nil_or_concat fs with q | ⟨gs, f, q⟩
                  · rw [q] at HLN; exact absurd HLN.out (by simp)
                  · refine ⟨gs, f, by rw [q, List.concat_eq_append], ?_⟩
                    have := HLN.out
                    rw [q, List.concat_eq_append, List.length_append] at this
                    simp at this
                    omega
                subst hgs
                have hle : lastEn (gs ++ [f]) = f.en := by unfold lastEn; simp
                rw [hle] at HEND HBD
                have ce : wq.cell? ⟨g, n * 259 + 257, none⟩ = some (.int .i64 f.en) := by
                  rw [how.cellAt (n * 259 + 257) (by omega)]
                  unfold frCells
                  rw [List.flatMap_append, List.getElem?_append_right (by have := frCells_len gs; unfold frCells at this; rw [this, hfe]; omega)]
                  have h2 := frCells_len gs
                  unfold frCells at h2
                  rw [h2, hfe, show n * 259 + 257 - n * 259 = 257 by omega]
                  show ([f].flatMap frL)[257]? = _
                  rw [List.flatMap_cons, List.flatMap_nil, List.append_nil]
                  unfold frL zeros
                  rw [List.getElem?_cons_succ, List.getElem?_append_right (by simp)]
                  simp
                have hw1 : IntKind.i64.wrap (((n + 1 : Nat) : Int) - 1) = (n : Int) := by rw [IntKind.wrap_i64]; omega
                obtain ⟨en, hen⟩ : ∃ en, f.en = en := ⟨_, rfl⟩
                rw [hen] at ce HEND HBD
                clear how hfs hen hle
                by_cases he : en = 0
                · subst he
                  go_wp2_with fail
                  go_ret2
                  first | exact HBD.out rfl | exact HBD.out trivial
                · have he1 : (en == 0) = false := by simpa using he
                  go_wp2_with fail
                  go_ret2
                  exact HEND.out he
        · have hD1 : (vd != 0) = true := by simpa using hD
          have hD2 : (vd == 0) = false := by simpa using hD
          go_wp2_with fail
          go_ret2
          exact FB.out (.inr (.inr (.inr hD)))
      · have hC1 : (vc != 0) = true := by simpa using hC
        have hC2 : (vc == 0) = false := by simpa using hC
        go_wp2_with fail
        go_ret2
        exact FB.out (.inr (.inr (.inl hC)))
    · have hB1 : (vb != 0) = true := by simpa using hB
      have hB2 : (vb == 0) = false := by simpa using hB
      go_wp2_with fail
      go_ret2
      exact FB.out (.inr (.inl hB))
theorem wopen_q {S : Nat → Prop} {W0 w : World} {db : Nat} {p : Pl} (h : Dq S W0 w db p) : Calls Tryz.prog 118 #[ptrV db] w (OpenPost p db w) := by
  by_cases hd : p.down = true
  · exact wopen_down h hd
  · have hd' : p.down = false := by simpa using hd
    by_cases hs : (p.seen nmWal).length < 64
    · exact wopen_short h hd' hs
    · exact wopen_long h hd' (by omega)
end Go.Proofs.YtoeldmkbmnkhkaaGreat
/- The log: is a mark one, the count at a mark, asked; condition: a log in memory. -/
namespace Go.Proofs.YtoeldmkbmnkhkaaGreat
open Go.RowKit

/-- a log opened, in memory -/
structure LgS (w : World) (db lb : Nat) (H : W4) (A : Option Addr) (c : Nat) (fs : List Fr) : Prop where
  b : Blk w lb 204 (lgC db H A fs.length c)
  o : w.ownsRow 0 236 259 (.slice A fs.length c) fs.length (frCells fs)
  ok : ∀ f ∈ fs, FrOk f
section
variable {w w' : World} {db lb : Nat} {H : W4} {A : Option Addr} {c : Nat} {fs : List Fr}
theorem LgS.keep (h : LgS w db lb H A c fs) (k : Kp NoB w w') : LgS w' db lb H A c fs := ⟨h.b.keep k (fun q => q), own_keepB h.o k (fun _ _ q => q), h.ok⟩
theorem LgS.cl (h : LgS w db lb H A c fs) : w.cell? ⟨lb, 0, none⟩ = some (.pointer (some ⟨db, 0, none⟩)) ∧ w.cell? ⟨lb, 5, none⟩ = some (.slice A fs.length c) := ⟨h.b.cell 0, h.b.cell 5⟩
theorem LgS.len (h : LgS w db lb H A c fs) : fs.length ≤ 9223372036854775807 := by
  have h1 := own_cap h.o
  rcases h.o.2 with ⟨q, _⟩ | ⟨g, cap, cur, q, _, _, _, hm, _⟩
  · injection q with _ q1 q2; omega
  · injection q with _ q1 q2
    unfold maxLen at hm
    omega
theorem frCells_at (fs : List Fr) (i : Nat) (hi : i < fs.length) (j : Nat) (hj : j < 259) : (frCells fs)[i * 259 + j]? = (frL (fs[i]'hi))[j]? := by
  have e : fs = fs.take i ++ fs[i]'hi :: fs.drop (i + 1) := by rw [List.getElem_cons_drop, List.take_append_drop]
  have hl : (fs.take i).length = i := by rw [List.length_take]; omega
  have h1 : frCells fs = frCells (fs.take i) ++ (frL (fs[i]'hi) ++ frCells (fs.drop (i + 1))) := by
    conv => lhs; rw [e]
    unfold frCells
    rw [List.flatMap_append, List.flatMap_cons]
  rw [h1, List.getElem?_append_right (by rw [frCells_len, hl]; omega), frCells_len, hl, show i * 259 + j - i * 259 = j by omega, List.getElem?_append_left (by rw [frL_len]; exact hj)]
theorem frL_n (f : Fr) : (frL f)[0]? = some (.int .i64 f.n) := rfl
theorem frL_en (f : Fr) : (frL f)[257]? = some (.int .i64 f.en) := by
  unfold frL zeros
  rw [List.getElem?_cons_succ, List.getElem?_append_right (by rw [List.length_map, List.length_replicate]; omega), List.length_map, List.length_replicate]
  rfl
theorem frL_b (f : Fr) : (frL f)[258]? = some (.string (strOf f.b)) := by
  unfold frL zeros
  rw [List.getElem?_cons_succ, List.getElem?_append_right (by rw [List.length_map, List.length_replicate]; omega), List.length_map, List.length_replicate]
  rfl
theorem LgS.fr (h : LgS w db lb H A c fs) (i : Nat) (hi : i < fs.length) : ∃ g, A = some ⟨g, 0, none⟩ ∧ w.cell? ⟨g, i * 259, none⟩ = some (.int .i64 (fs[i]'hi).n) ∧ w.cell? ⟨g, i * 259 + 257, none⟩ = some (.int .i64 (fs[i]'hi).en) ∧ w.cell? ⟨g, i * 259 + 258, none⟩ = some (.string (strOf (fs[i]'hi).b)) := by
  obtain ⟨g, hA, -, -⟩ := own_at h.o (by omega)
  have ho := h.o
  rw [hA] at ho
  have hc : ∀ j, j < 259 → w.cell? ⟨g, i * 259 + j, none⟩ = (frL (fs[i]'hi))[j]? := fun j hj => by
    rw [ho.cellAt (i * 259 + j) (by omega), frCells_at fs i hi j hj]
  have h0 := hc 0 (by omega)
  rw [Nat.add_zero, frL_n] at h0
  exact ⟨g, hA, h0, (hc 257 (by omega)).trans (frL_en _), (hc 258 (by omega)).trans (frL_b _)⟩
theorem mark_cases (fs : List Fr) (m : Int) : m = 0 ∨ m < 0 ∨ (fs.length : Int) < m ∨ ∃ i, ∃ h : i < fs.length, m = ((i + 1 : Nat) : Int) := by
  rcases Int.lt_trichotomy m 0 with q | q | q
  · exact .inr (.inl q)
  · exact .inl q
  · by_cases q2 : (fs.length : Int) < m
    · exact .inr (.inr (.inl q2))
    · exact .inr (.inr (.inr ⟨m.toNat - 1, by omega, by omega⟩))
theorem isMark_at (fs : List Fr) (i : Nat) (h : i < fs.length) : isMark fs ((i + 1 : Nat) : Int) = decide (0 < (fs[i]'h).en) := by
  unfold isMark
  rw [decide_eq_false (by omega), decide_eq_true (by omega)]
  show (false || (true && _)) = _
  rw [show (((i + 1 : Nat) : Int)).toNat - 1 = i by omega, List.getElem?_eq_getElem h]
  simp
set_option maxRecDepth 100000 in
set_option maxHeartbeats 1600000 in
theorem is_q (h : LgS w db lb H A c fs) (m : Int) : Calls Tryz.prog 154 #[.pointer (some ⟨lb, 0, none⟩), .int .i64 m] w fun e w' => e = .returned (.bool (isMark fs m)) ∧ w = w' := by
  obtain ⟨c0, c5⟩ := h.cl
  have hln := h.len
  rcases mark_cases fs m with rfl | hm | hm | ⟨i, hi, rfl⟩
  · have e : isMark fs 0 = true := by unfold isMark; rfl
    rw [e]
    clear h e
    go_enter Tryz.func154, Tryz.ntmps154
    go_wp2_with fail
    go_ret
    exact ⟨rfl, rfl⟩
  · have e : isMark fs m = false := by
      unfold isMark
      rw [decide_eq_false (by omega), decide_eq_false (by omega)]
      rfl
    rw [e]
    have h1 : (m == 0) = false := by simp; omega
    have h2 : ¬ (0 < m) := by omega
    clear h e hm hln
    go_enter Tryz.func154, Tryz.ntmps154
    go_wp2_with fail
    go_ret
    exact ⟨rfl, rfl⟩
  · have e : isMark fs m = false := by
      unfold isMark
      rw [decide_eq_false (by omega), decide_eq_false (by omega)]
      rfl
    rw [e]
    have h1 : (m == 0) = false := by simp; omega
    have h2 : 0 < m := by omega
    have h3 : ¬ m ≤ (fs.length : Int) := by omega
    clear h e hm
    go_enter Tryz.func154, Tryz.ntmps154
    go_wp2_with fail
    go_ret
    exact ⟨rfl, rfl⟩
  · obtain ⟨g, hA, -, ce, -⟩ := h.fr i hi
    subst hA
    rw [isMark_at fs i hi]
    have hw1 : IntKind.i64.wrap (((i + 1 : Nat) : Int) - 1) = (i : Int) := by rw [IntKind.wrap_i64]; omega
    obtain ⟨en, hen⟩ : ∃ en, (fs[i]'hi).en = en := ⟨_, rfl⟩
    rw [hen] at ce ⊢
    have h3 : ((i + 1 : Nat) : Int) ≤ (fs.length : Int) := by omega
    clear h hen
    by_cases he : 0 < en
    · rw [decide_eq_true he]
      go_enter Tryz.func154, Tryz.ntmps154
      go_wp2_with fail
      go_ret
      exact ⟨rfl, rfl⟩
    · rw [decide_eq_false he]
      go_enter Tryz.func154, Tryz.ntmps154
      go_wp2_with fail
      go_ret
      exact ⟨rfl, rfl⟩
set_option maxRecDepth 100000 in
set_option maxHeartbeats 1600000 in
theorem wcount_q {S : Nat → Prop} {W0 : World} {p : Pl} (hq : Dq S W0 w db p) (h : LgS w db lb H A c fs) (m : Int) (hm : isMark fs m = true) : Calls Tryz.prog 120 #[.pointer (some ⟨lb, 0, none⟩), .int .i64 m] w fun e w' => e = .returned (.int .i64 (wcount p fs m)) ∧ w = w' := by
  obtain ⟨c0, c5⟩ := h.cl
  have hln := h.len
  rcases mark_cases fs m with rfl | hm1 | hm1 | ⟨i, hi, rfl⟩
  · have e : wcount p fs 0 = p.jcount := by unfold wcount; rfl
    rw [e]
    have HQ := Lib.hid hq
    clear h e hq hm
    go_enter Tryz.func120, Tryz.ntmps120
    go_wp2_with fail
    refine (show Calls _ _ #[ptrV db] _ _ from count_q HQ.out).mono ?_
    rintro e w1 ⟨rfl, rfl⟩
    go_wp2_with fail
    go_ret
    exact ⟨rfl, rfl⟩
  · have e : isMark fs m = false := by
      unfold isMark
      rw [decide_eq_false (by omega), decide_eq_false (by omega)]
      rfl
    rw [e] at hm
    cases hm
  · have e : isMark fs m = false := by
      unfold isMark
      rw [decide_eq_false (by omega), decide_eq_false (by omega)]
      rfl
    rw [e] at hm
    cases hm
  · obtain ⟨g, hA, -, ce, -⟩ := h.fr i hi
    subst hA
    have hok := (h.ok _ (List.getElem_mem hi)).e0
    have e : wcount p fs ((i + 1 : Nat) : Int) = (fs[i]'hi).en - 1 := by
      unfold wcount
      rw [if_neg (by omega), show (((i + 1 : Nat) : Int)).toNat - 1 = i by omega, List.getElem?_eq_getElem hi]
    rw [e]
    have hw1 : IntKind.i64.wrap (((i + 1 : Nat) : Int) - 1) = (i : Int) := by rw [IntKind.wrap_i64]; omega
    obtain ⟨en, hen⟩ : ∃ en, (fs[i]'hi).en = en := ⟨_, rfl⟩
    rw [hen] at ce hok ⊢
    have hw2 : IntKind.i64.wrap (en - 1) = en - 1 := by rw [IntKind.wrap_i64]; omega
    clear h hen e hq hm hok
    go_enter Tryz.func120, Tryz.ntmps120
    go_wp2_with fail
    go_ret
    exact ⟨rfl, rfl⟩
theorem lg_of {p : Pl} {base : Nat} (hr : ∀ y ∈ p.seen nmWal, 0 ≤ y ∧ y < 256) (he : p.wopen.1 = 0) (hb : Blk w lb 204 (lgC db p.whead A p.wopen.2.length c)) (ho : w.ownsRow base 236 259 (.slice A p.wopen.2.length c) p.wopen.2.length (frCells p.wopen.2)) : LgS w db lb p.whead A c p.wopen.2 := by
  refine ⟨hb, ho.mono (Nat.zero_le _), ?_⟩
  revert he
  unfold Pl.wopen
  split
  · intro he; cases he
  · split
    · intro he; cases he
    · cases hf : frsAt (p.seen nmWal) p.whead.a.toNat with
      | none => intro he; cases he
      | some g =>
        dsimp only
        split
        · intro he; cases he
        · exact fun _ => frsAt_ok hr hf
/-- what asked answers -/
def AskedPost (p : Pl) (m : Int) (db : Nat) (w : World) (e : Ending) (w' : World) : Prop :=
  (p.wopen.1 ≠ 0 ∧ e = .returned (.tuple #[.pointer none, .int .i64 p.wopen.1]) ∧ Kp NoB w w') ∨
  (p.wopen.1 = 0 ∧ ∃ (lb : Nat) (A : Option Addr) (c : Nat), e = .returned (.tuple #[.pointer (some ⟨lb, 0, none⟩), .int .i64 (if isMark p.wopen.2 m = true then 0 else 4)]) ∧ LgS w' db lb p.whead A c p.wopen.2 ∧ w.heap.size ≤ lb ∧ Kp NoB w w')
set_option maxRecDepth 100000 in
set_option maxHeartbeats 1600000 in
theorem asked_q {S : Nat → Prop} {W0 : World} {p : Pl} (hq : Dq S W0 w db p) (m : Int) : Calls Tryz.prog 119 #[ptrV db, .int .i64 m] w (AskedPost p m db w) := by
  have HQ := Lib.hid hq
  clear hq
  unfold ptrV
  go_enter Tryz.func119, Tryz.ntmps119
  go_wp2_with fail
  refine (show Calls _ _ #[ptrV db] _ _ from wopen_q HQ.out).mono ?_
  rintro e w1 (⟨he, rfl, hk⟩ | ⟨he, lb, A, c, rfl, hb, ho, hg, hk⟩)
  · have HE := Lib.hid he
    have HK := Lib.hid hk
    have he1 : (p.wopen.1 == 0) = false := by simpa using he
    clear hk he
    have HAP : Hid (∀ e0, p.wopen.1 = e0 → AskedPost p m db w (.returned (.tuple #[.pointer none, .int .i64 e0])) w1) := Lib.hid (fun e0 q => .inl ⟨HE.out, by rw [q], HK.out⟩)
    obtain ⟨e0, q0⟩ : ∃ e0, p.wopen.1 = e0 := ⟨_, rfl⟩
    have HP := Lib.hid (HAP.out e0 q0)
    rw [q0] at he1 ⊢
    clear q0 HAP
    go_wp2_with fail
    go_ret2
    exact HP.out
  · have hl := lg_of (HQ.out.seen_rng nmWal) he hb ho
    have HL := Lib.hid hl
    have HP : Hid (AskedPost p m db w (.returned (.tuple #[.pointer (some ⟨lb, 0, none⟩), .int .i64 (if isMark p.wopen.2 m = true then 0 else 4)])) w1) := Lib.hid (.inr ⟨he, lb, A, c, rfl, hl, hg, hk⟩)
    clear hl hb ho hg hk he
    go_wp2_with fail
    refine (is_q HL.out m).mono ?_
    rintro e w2 ⟨rfl, rfl⟩
    cases hmk : isMark p.wopen.2 m with
    | true =>
      rw [hmk] at HP
      clear hmk
      go_wp2_with fail
      go_ret2
      exact HP.out
    | false =>
      rw [hmk] at HP
      clear hmk
      go_wp2_with fail
      go_ret2
      exact HP.out
end
end Go.Proofs.YtoeldmkbmnkhkaaGreat
/- The log: a frame's page; condition: a frame that was read. -/
namespace Go.Proofs.YtoeldmkbmnkhkaaGreat
open Go.RowKit

attribute [local go_sem ↓] load26 store26 alloc26 build26
set_option maxRecDepth 100000 in
set_option maxHeartbeats 1600000 in
theorem frpage_q (w : World) (f : Fr) (h : FrOk f) : Calls Tryz.prog 157 #[.agg (frL f).toArray] w fun e w' => e = .returned (.agg (bytesV f.b)) ∧ Kp NoB w w' := by
  have hlen := h.len
  have hsz : (strOf f.b).size = 256 := by rw [strOf_size, hlen]
  have hsi := strI_strOf f.b h.rng
  have HB1 : Hid (Blk ((w.alloc (.cells (frL f).toArray 236)).alloc (.cells zero256 86)) w.heap.size 236 (frL f).toArray) := Lib.hid ((Blk.new _ _ _).alloc _)
  have HB2 : Hid (Blk ((w.alloc (.cells (frL f).toArray 236)).alloc (.cells zero256 86)) (w.heap.size + 1) 86 zero256) := Lib.hid (Blk.newAt _ _ _ _ (by simp))
  have HK0 : Hid (Kp NoB w ((w.alloc (.cells (frL f).toArray 236)).alloc (.cells zero256 86))) := Lib.hid (((Kp.refl _ _).alloc _).alloc _)
  obtain ⟨C, hC⟩ : ∃ C, (frL f).toArray = C := ⟨_, rfl⟩
  rw [hC] at HB1 HB2 HK0 ⊢
  have HC := Lib.hid hC
  have HLEN := Lib.hid hlen
  have HSI := Lib.hid hsi
  have HSZ := Lib.hid hsz
  clear h hC hlen hsi hsz
  go_enter Tryz.func157, Tryz.ntmps157
  go_upto_region 1 with fail
  have hb1 := HB1.out
  have hb2 := HB2.out
  have hk0 := HK0.out
  generalize (w.alloc (.cells C 236)).alloc (.cells zero256 86) = w1 at hb1 hb2 hk0 ⊢
  clear HB1 HB2 HK0
  have c258 : ∀ V, Blk V w.heap.size 236 C → V.cell? ⟨w.heap.size, 258, none⟩ = some (.string (strOf f.b)) := fun V hV => by
    rw [hV.cell, ← HC.out, List.getElem?_toArray]
    exact frL_b f
  have cs := c258 w1 hb1
  obtain ⟨s, hs⟩ : ∃ s, strOf f.b = s := ⟨_, rfl⟩
  rw [hs] at cs HSI HSZ c258
  have hs0 : s.toList.isEmpty = false := by
    rw [ByteArray.toList_eq]
    cases hl : s.data.toList with
    | nil =>
      have h1 : s.data.size = 0 := by rw [← Array.length_toList, hl]; rfl
      have h2 : s.data.size = 256 := HSZ.out
      omega
    | cons _ _ => rfl
  have HS := Lib.hid hs
  clear hs
  go_upto_region 2 with fail
  have hcf := c258
  refine wp_region_held_drew (S := fun V => V.cell? ⟨w.heap.size, 258, none⟩ = some (.string s)) (by kernel_rfl) cs (fun hHeld => ?_)
  have hb3 : Blk w1.drew w.heap.size 236 C := hb1.drew
  have hb4 : Blk w1.drew (w.heap.size + 1) 86 zero256 := hb2.drew
  have hk3 : Kp NoB w w1.drew := hk0.drew
  generalize w1.drew = V0 at hb3 hb4 hk3 ⊢
  have cs3 := c258 V0 hb3
  have hcsz : C.size = 259 := by rw [← HC.out, List.size_toArray, frL_len]
  have ht5 : V0.there w.heap.size 1 s.size := hb3.there (by rw [HSZ.out, hcsz]; omega)
  have hcp := copyS V0 w.heap.size 1 256 256 s (by rw [HSZ.out]; omega) ht5
  rw [HSI.out] at hcp
  have hz : C = ([Value.int .i64 f.n] ++ (zeros 256).map (Value.int .u8) ++ [Value.int .i64 f.en, Value.string s]).toArray := by
    rw [← HC.out]
    unfold frL
    rw [HS.out, List.append_assoc]
    rfl
  have hb5 : Blk (V0.setCells w.heap.size 1 (f.b.map (Value.int .u8))) w.heap.size 236 ([Value.int .i64 f.n] ++ f.b.map (Value.int .u8) ++ [Value.int .i64 f.en, Value.string s]).toArray :=
    Blk.cellsL (by rw [← hz]; exact hb3) 1 rfl (by rw [List.length_map, List.length_map, HLEN.out]; exact zeros256)
  have hb6 := hb4.farCells (show w.heap.size + 1 ≠ w.heap.size by omega) (f.b.map (Value.int .u8)) 1 V0
  have hk6 : Kp NoB w (V0.setCells w.heap.size 1 (f.b.map (Value.int .u8))) := Kp.setCells (.inl (Nat.le_refl _)) _ _ _ hk3
  have cs6 : (V0.setCells w.heap.size 1 (f.b.map (Value.int .u8))).cell? ⟨w.heap.size, 258, none⟩ = some (.string s) := by
    rw [hb5.cell, List.getElem?_toArray, List.append_assoc, List.getElem?_append_right (by simp), List.getElem?_append_right (by rw [List.length_map, HLEN.out]; simp)]
    rw [List.length_map, HLEN.out]
    rfl
  refine tkS (i := 0) (v := (.pointer (some ⟨w.heap.size, 0, none⟩))) rfl (Or.inl ⟨by rfl, fun w' hq => by go_simp⟩) cs3 ?_
  simp only [Act.put, skA, skB, skC]
  refine tkS (i := 1) (v := (.pointer (some ⟨w.heap.size, 1, none⟩))) rfl (Or.inl ⟨by rfl, fun w' hq => by go_simp⟩) cs3 ?_
  simp only [Act.put, skA, skB, skC]
  refine tkS (i := 2) (v := (.slice (some ⟨w.heap.size, 1, none⟩) 256 256)) rfl (Or.inl ⟨by rfl, fun w' hq => by go_simp⟩) cs3 ?_
  simp only [Act.put, skA, skB, skC]
  refine tkS (i := 3) (v := (.pointer (some ⟨w.heap.size, 258, none⟩))) rfl (Or.inl ⟨by rfl, fun w' hq => by go_simp⟩) cs3 ?_
  simp only [Act.put, skA, skB, skC]
  refine tkS (i := 4) (v := (.string s)) rfl (Or.inl ⟨by rfl, fun w' hq => by have cc := hq; go_simp⟩) cs3 ?_
  simp only [Act.put, skA, skB, skC]
  refine wpAnyH_ready (rs := [5]) (by kernel_rfl) (by simp) ?_
  refine AllReadyH.valR (fun W' => W' = V0.setCells w.heap.size 1 (f.b.map (Value.int .u8))) rfl (by rfl) _ _ (copyS_exec hcp _ rfl rfl) (fun W' e => by rw [e]; exact cs6) rfl ?_ AllReadyH.nil
  rintro _ rfl
  simp only [Act.put, skA, skB, skC]
  refine wpAnyH_done (by kernel_rfl) ?_ _
  have hr7 := hb5.read 1 256 rfl (by rw [List.length_map, HLEN.out])
  have ht7 := Blk.there (n := 256) (o := 1) hb5 (by simp [HLEN.out])
  have t4 := hb6.thereAll 256 (by rw [zero256_eq, bytesV_size]; rfl)
  generalize V0.setCells w.heap.size 1 (f.b.map (Value.int .u8)) = w7 at hr7 ht7 hb6 hk6 t4 ⊢
  have HK7 := Lib.hid hk6
  have HB6 := Lib.hid hb6
  obtain ⟨RR, hRR⟩ : ∃ RR, bytesV f.b = RR := ⟨_, rfl⟩
  have hr8 : readRow w7 w.heap.size 1 256 = RR := by rw [hr7, ← hRR]; rfl
  have o1 : ones RR := by rw [← hRR]; exact bytesV_one f.b
  have s1 : RR.size = 256 := by rw [← hRR, bytesV_size, HLEN.out]
  have HRR := Lib.hid hRR
  have S1 := Lib.hid s1
  clear hHeld hr7 hb5 hb3 hb4 hk3 cs3 cs6 hcp ht5 hcsz hk6 hRR hz c258 hcf hb6
  go_wp2_with fail
  refine bodyPost_ret (ret_cell1 rfl _ _ _ _ _ _ rfl (HB6.out.whole RR (by rw [S1.out, zero256_eq, bytesV_size]; rfl)) Tryz.underlying86 rfl (by rw [S1.out]; exact info26)) rfl ⟨by rw [HRR.out], ?_⟩
  exact Kp.setCells (.inl (by omega)) _ _ _ HK7.out
end Go.Proofs.YtoeldmkbmnkhkaaGreat
/- The log asked: Check, Mark, Count; condition: a disk. -/
namespace Go.Proofs.YtoeldmkbmnkhkaaGreat
open Go.RowKit

namespace Pl
def wmark (p : Pl) : Int × Int := if p.wopen.1 ≠ 0 then (0, p.wopen.1) else ((p.wopen.2.length : Int), 0)
def wcnt (p : Pl) (m : Int) : Int × Int := if p.wopen.1 ≠ 0 then (0, p.wopen.1) else if isMark p.wopen.2 m = true then (wcount p p.wopen.2 m, 0) else (0, 4)
end Pl
section
variable {S : Nat → Prop} {W0 w : World} {db : Nat} {p : Pl}
set_option maxRecDepth 100000 in
theorem wmark_q (hq : Dq S W0 w db p) : Calls Tryz.prog 71 #[ptrV db] w fun e w' => e = .returned (.tuple #[.int .i64 p.wmark.1, .int .i64 p.wmark.2]) ∧ Kp NoB w w' := by
  have HQ := Lib.hid hq
  clear hq
  unfold ptrV
  go_enter Tryz.func71, Tryz.ntmps71
  go_wp2_with fail
  refine (show Calls _ _ #[ptrV db] _ _ from wopen_q HQ.out).mono ?_
  rintro e w1 (⟨he, rfl, hk⟩ | ⟨he, lb, A, c, rfl, hb, ho, hg, hk⟩)
  · have HK := Lib.hid hk
    have e1 : p.wmark = (0, p.wopen.1) := by unfold Pl.wmark; rw [if_pos he]
    have he1 : (p.wopen.1 == 0) = false := by simpa using he
    have he2 : (p.wopen.1 != 0) = true := by simpa using he
    obtain ⟨e0, q0⟩ : ∃ e0, p.wopen.1 = e0 := ⟨_, rfl⟩
    rw [q0] at he1 he2 e1 ⊢
    have HE1 := Lib.hid e1
    clear hk he e1 q0
    go_wp2_with fail
    go_ret2
    exact ⟨(by rw [HE1.out]; rfl), HK.out⟩
  · have HK := Lib.hid hk
    have e1 : p.wmark = ((p.wopen.2.length : Int), 0) := by unfold Pl.wmark; rw [if_neg (by rw [he]; simp)]
    have HE1 := Lib.hid e1
    have c5 : w1.cell? ⟨lb, 5, none⟩ = some (.slice A p.wopen.2.length c) := hb.cell 5
    clear hk he hb ho hg e1
    go_wp2_with fail
    go_ret2
    exact ⟨(by rw [HE1.out]; rfl), HK.out⟩
end
end Go.Proofs.YtoeldmkbmnkhkaaGreat
/- The log: sync, and the frames gone over made ready; condition: a log in memory on a disk. -/
namespace Go.Proofs.YtoeldmkbmnkhkaaGreat
open Go.RowKit
section
variable {S : Nat → Prop} {w : World} {db lb : Nat} {p : Pl}
set_option maxRecDepth 100000 in
theorem wsync_q (h : Dq S w w db p) (hc : w.cell? ⟨lb, 0, none⟩ = some (.pointer (some ⟨db, 0, none⟩))) (hm : p.sm 20000) :
    Calls Tryz.prog 168 #[.pointer (some ⟨lb, 0, none⟩)] w fun e w' => e = .returned (.int .i64 p.syncE) ∧ Dq S w w' db (p.sync nmWal) := by
  have H := Lib.hid h
  have HM := Lib.hid hm
  clear h hm
  go_enter Tryz.func168, Tryz.ntmps168
  go_wp2_with fail
  refine (show Calls _ _ #[ptrV db, .string nmWal] _ _ from sync_q H.out nmWal nmW_le HM.out).mono ?_
  rintro e w4 ⟨rfl, h4⟩
  have H4 := Lib.hid h4
  clear h4
  go_wp2_with fail
  go_ret
  exact ⟨rfl, H4.out⟩
set_option maxRecDepth 100000 in
theorem upto_q (w : World) (lb : Nat) (m : Int) :
    Calls Tryz.prog 156 #[.pointer (some ⟨lb, 0, none⟩), .int .i64 m] w fun e w' => e = .returned (.func (.func 180) #[] #[.pointer (some ⟨w.heap.size + 1, 0, none⟩), .pointer (some ⟨w.heap.size, 0, none⟩)]) ∧ w' = (w.alloc (.cells #[.pointer (some ⟨lb, 0, none⟩)] 199)).alloc (.cells #[.int .i64 m] 3) := by
  go_enter Tryz.func156, Tryz.ntmps156
  go_wp2_with fail
  go_ret
  exact ⟨rfl, rfl⟩
end
end Go.Proofs.YtoeldmkbmnkhkaaGreat
/- The log's frames gone over, the last one first; condition: a log in memory. -/
namespace Go.Proofs.YtoeldmkbmnkhkaaGreat
open Go.RowKit Go.Shelf
attribute [local go_sem] Oper.semAt_some

theorem LgS.below {w w' : World} {db lb : Nat} {H : W4} {A : Option Addr} {c : Nat} {fs : List Fr} (h : LgS w db lb H A c fs) (k : Below w.heap.size w w') : LgS w' db lb H A c fs :=
  ⟨h.b.below k, ⟨h.o.1, h.o.2.elim .inl (fun ⟨g, cap, cur, e, hb, hg, r⟩ => .inr ⟨g, cap, cur, e, hb, (k.block g (lt_of_heap hg)).trans hg, r⟩)⟩, h.ok⟩
theorem loadFrI (r : Option Nat) (w : World) (ev : Operand → Value) (ds : Option Tmp) (x : Operand) (ty : TypeId) (ps : String) (af : Array Edge) (g : Option (Nat × Bool)) (h : thereP w (ev x) 259) :
    (Oper.semAt r ev ⟨ds, .load 236 x, ty, ps, af, g⟩).run Tryz.prog w = .ok (.value (.agg (readP w (ev x) 259))) w := by
  rw [Oper.semAt_eq _ _ _ (by intro c h; cases h)]
  exact loadFr w ev ds x ty ps af g h
attribute [local go_sem ↓] loadFrI
theorem frCells_split (fs : List Fr) (i : Nat) (hi : i < fs.length) : frCells fs = frCells (fs.take i) ++ frL (fs.getD i ⟨0, 0, []⟩) ++ frCells (fs.drop (i + 1)) := by
  have e : fs = fs.take i ++ fs[i]'hi :: fs.drop (i + 1) := by rw [List.getElem_cons_drop, List.take_append_drop]
  have h1 : fs.getD i ⟨0, 0, []⟩ = fs[i]'hi := by rw [List.getD_eq_getElem?_getD, List.getElem?_eq_getElem hi]; rfl
  rw [h1]
  conv => lhs; rw [e]
  unfold frCells
  rw [List.flatMap_append, List.flatMap_cons, List.append_assoc]
theorem LgS.row {w : World} {db lb : Nat} {H : W4} {A : Option Addr} {c : Nat} {fs : List Fr} (h : LgS w db lb H A c fs) (i : Nat) (hi : i < fs.length) : ∃ g, A = some ⟨g, 0, none⟩ ∧ w.there g (i * 259) 259 ∧ readRow w g (i * 259) 259 = (frL (fs.getD i ⟨0, 0, []⟩)).toArray := by
  obtain ⟨g, ds, hA, -, hb⟩ := own_blkN h.o (by omega)
  refine ⟨g, hA, hb.there ?_, ?_⟩
  · rw [List.size_toArray, List.length_append, frCells_len]
    have : (i + 1) * 259 ≤ fs.length * 259 := Nat.mul_le_mul_right _ hi
    omega
  · rw [frCells_split fs i hi, List.append_assoc] at hb
    exact hb.read (i * 259) 259 (by rw [frCells_len, List.length_take]; congr 1; omega) (frL_len _)
/-- what a round is handed -/
def encF (fs : List Fr) (m k : Nat) : Array Value := #[.agg (frL (fs.getD (m - 1 - k) ⟨0, 0, []⟩)).toArray]
end Go.Proofs.YtoeldmkbmnkhkaaGreat
/- Regions that draw their order within a round of a range over a function; no condition. -/
namespace Go.Proofs.YtoeldmkbmnkhkaaGreat
open Go

section
variable {P : Program} {ops : Array Oper} {Q : Exit → Act → World → Prop} {l n : Nat}
theorem rows_round {row : String} {args : Array Value} {w : World} {R : Value → World → Prop} (h : Go.Rows P row args w R) : RowsIn (Fence.wide.inRound l) n P row args w R :=
  fun c cs _ => let ⟨v, w', r, s⟩ := h c cs; ⟨v, w', r, stepsIn_wide.2 s⟩
theorem upon_round {o : Oper} {a : Act} {next next' : Act → World → Prop} {r : Result Next} (h : o.upon P a next Q r) (hn : ∀ a w, next a w → next' a w) (hq : ∀ a w, ¬ Q .outgrown a w) : o.uponIn (Fence.wide.inRound l) n P a next' Q r := by
  cases r with
  | ok x w' =>
    cases x with
    | enter f args =>
      refine ⟨fun q => (by cases q), CallsIn.inRound l (callsIn_wide.2 (Calls.mono h fun e w hx => ?_))⟩
      cases e with
      | returned v => exact hn _ _ hx
      | panicked c => exact hx
      | outgrown => exact hx
    | row row args => exact ⟨fun q => (by cases q), rows_round (Rows.mono h fun v w hx => hn _ _ hx)⟩
    | value v => exact hn _ _ h
    | skip => exact hn _ _ h
    | defer d => exact hn _ _ h
    | _ => exact h.elim
  | halt x w' =>
    cases x with
    | panic v => exact h
    | _ => exact h.elim
/-- no operation defers -/
def noDefer (ops : Array Oper) : Bool := ops.all fun o => match o.op with
  | .defer _ => false
  | _ => true
theorem noDefer_at (h : noDefer ops = true) {i : Nat} {o : Oper} (ho : ops[i]? = some o) (c : Call) : o.op ≠ .defer c := fun e => by
  have hx := (Array.all_eq_true_iff_forall_mem.1 h) o (Array.mem_of_getElem? ho)
  rw [e] at hx
  cases hx
theorem wpOps_round (hd : noDefer ops = true) (hq : ∀ a w, ¬ Q .outgrown a w) : ∀ (li : List Nat) (a : Act) (w : World), wpOps P ops Q li a w → wpOpsIn (Fence.wide.inRound l) n P ops Q li a w
  | [], a, w, h => h
  | i :: r, a, w, h => by
    simp only [wpOps] at h
    simp only [wpOpsIn]
    cases ho : ops[i]? with
    | none =>
      simp only [ho] at h
      exact wpOps_round hd hq r a w h
    | some o =>
      simp only [ho] at h
      dsimp only
      by_cases hw : Region.wanted o (yielded ops a.tmps) = true
      · rw [if_pos hw] at h ⊢
        rcases h with h | h
        · refine ⟨fun _ _ => trivial, ?_⟩
          rw [Oper.semAt_eq _ _ _ (noDefer_at hd ho)]
          exact upon_round h (fun a w q => wpOps_round hd hq r a w q) hq
        · obtain ⟨_, a0, w0, q⟩ := h
          exact absurd q (hq _ _)
      · rw [if_neg hw] at h ⊢
        exact ⟨fun _ _ => trivial, wpOps_round hd hq r _ w h⟩
theorem wpIn_region_held_drew {S : World → Prop} {id : Nat} {a : Act} {w : World} (hm : P.follows .mixedOrders = true) (hd : noDefer ops = true) (hq : ∀ a w, ¬ Q .outgrown a w) (hS : S w.drew)
    (h : S w.drew → wpAnyH P .any ops Q S ops.size (Array.replicate ops.size false) a w.drew) : (Code.region id ops true).wpIn (Fence.wide.inRound l) n P Q a w :=
  wpIn_region_draw fun t => wpOps_round hd hq _ _ _ (by
    simp only [Region.schedule, hm, Bool.true_or, if_true]
    exact wpAny_sound ops.size t _ a _ (wpAny_of_held _ _ _ _ (h hS)))
end
/-- a step that writes only what lay ahead of the loop -/
theorem Kp.from {S : Nat → Prop} {B : Nat} {W W' : World} (k : Kp S W W') (hS : ∀ b, S b → b < B) : KeepsFrom B W W' :=
  ⟨k.size, fun i o hB hi _ => (k.block i (Array.getElem?_eq_some_iff.1 hi).1 (fun q => by have := hS _ q; omega)).trans hi⟩
theorem Kp.grownBy {S : Nat → Prop} {a w w' : World} {row : Option Nat} (k : Kp S a w) (hg : w.grownBy w' row) (hr : ∀ r, row = some r → a.heap.size ≤ r) : Kp S a w' :=
  ⟨hg.os.trans k.os, hg.tape.trans k.tape, hg.output.trans k.output, Nat.le_trans k.size hg.size, fun i hi hn => (hg.block i (Nat.lt_of_lt_of_le hi k.size) (fun e => by have := hr i e.symm; omega)).trans (k.block i hi hn)⟩
end Go.Proofs.YtoeldmkbmnkhkaaGreat
/- The journal: a page told; no condition but on the texts' lengths. -/
namespace Go.Proofs.YtoeldmkbmnkhkaaGreat
open Go.RowKit

section
variable {S : Nat → Prop} {W0 w : World} {db : Nat} {p : Pl}
attribute [local go_sem ↓] load26 store26 alloc26 build26
end
end Go.Proofs.YtoeldmkbmnkhkaaGreat
/- The log: a page at a mark; condition: a log in memory on a disk. -/
namespace Go.Proofs.YtoeldmkbmnkhkaaGreat
open Go.RowKit Go.Shelf
theorem blkOwn {W W' : World} {row : Option Nat} {g : Nat} {t : TypeId} {cs : Array Value} (h : Blk W g t cs) (hg : W.grownBy W' row) (hr : ∀ r, row = some r → ∃ o : Obj, W.heap[r]? = some o ∧ o.isCells = false) : Blk W' g t cs :=
  (hg.block g h.lt (fun e => by
    obtain ⟨o, ho, hc⟩ := hr g e.symm
    rw [show W.heap[g]? = _ from h] at ho
    injection ho with ho
    rw [← ho] at hc
    cases hc)).trans h
theorem storeFrI (r : Option Nat) (w : World) (ev : Operand → Value) (ds : Option Tmp) (x y : Operand) (ty : TypeId) (ps : String) (af : Array Edge) (g : Option (Nat × Bool)) (hv : aggOK (ev y) 259) (h : thereP w (ev x) 259) :
    (Oper.semAt r ev ⟨ds, .store 236 x y, ty, ps, af, g⟩).run Tryz.prog w = .ok .skip (setP w (ev x) (ev y)) := by
  rw [Oper.semAt_eq _ _ _ (by intro c h; cases h)]
  exact storeFr w ev ds x y ty ps af g hv h
theorem store26I (r : Option Nat) (w : World) (ev : Operand → Value) (ds : Option Tmp) (x y : Operand) (ty : TypeId) (ps : String) (af : Array Edge) (g : Option (Nat × Bool)) (hv : aggOK (ev y) 256) (h : thereP w (ev x) 256) :
    (Oper.semAt r ev ⟨ds, .store 86 x y, ty, ps, af, g⟩).run Tryz.prog w = .ok .skip (setP w (ev x) (ev y)) := by
  rw [Oper.semAt_eq _ _ _ (by intro c h; cases h)]
  exact store26 w ev ds x y ty ps af g hv h
theorem allocFrI (r : Option Nat) (w : World) (ev : Operand → Value) (ds : Option Tmp) (ty : TypeId) (ps : String) (af : Array Edge) (g : Option (Nat × Bool)) :
    (Oper.semAt r ev ⟨ds, .alloc 236, ty, ps, af, g⟩).run Tryz.prog w = .ok (.value (.pointer (some ⟨w.heap.size, 0, none⟩))) (w.alloc (.cells fr0 236)) := by
  rw [Oper.semAt_eq _ _ _ (by intro c h; cases h)]
  exact allocFr w ev ds ty ps af g
theorem load26I (r : Option Nat) (w : World) (ev : Operand → Value) (ds : Option Tmp) (x : Operand) (ty : TypeId) (ps : String) (af : Array Edge) (g : Option (Nat × Bool)) (h : thereP w (ev x) 256) :
    (Oper.semAt r ev ⟨ds, .load 86 x, ty, ps, af, g⟩).run Tryz.prog w = .ok (.value (.agg (readP w (ev x) 256))) w := by
  rw [Oper.semAt_eq _ _ _ (by intro c h; cases h)]
  exact load26 w ev ds x ty ps af g h
theorem leaveM {F : Fence} {n : Nat} {P : Program} {fn : Func} {tmps : Array Value} {R : Ending → World → Prop} {w : World} {D : Nat} {v : Value} (hD : w.heap[D]? = some (.deferred (some [])))
    (hr : (results fn tmps).run P (w.putObj D (.deferred none)) = .ok v (w.putObj D (.deferred none))) (h : R (.returned v) (w.putObj D (.deferred none))) : bodyPostM F n P fn R .ret { tmps := tmps, defers := [{ target := .collected D, args := #[] }] } w :=
  ⟨by simp, .inl ⟨_, _, rfl, run_takeDeferred hD, by
    exact ⟨v, hr, h⟩⟩⟩
/-- one frame of the log -/
def frK (fs : List Fr) (m x : Nat) : Fr := fs.getD (m - 1 - x) ⟨0, 0, []⟩
attribute [local go_sem ↓] load26 store26 alloc26 build26 loadFrI loadFr storeFr allocFr storeFrI store26I allocFrI load26I
attribute [local go_sem] Oper.semAt_some
end Go.Proofs.YtoeldmkbmnkhkaaGreat
/- The log asked for a page; condition: a disk. -/
namespace Go.Proofs.YtoeldmkbmnkhkaaGreat
open Go.RowKit

namespace Pl
def wpg (p : Pl) (m n : Int) : List Int × Int := if p.wopen.1 ≠ 0 then (zeros 256, p.wopen.1) else if isMark p.wopen.2 m = false then (zeros 256, 4) else if n < 1 ∨ wcount p p.wopen.2 m < n then (zeros 256, 4) else (wpage p p.wopen.2 m n, 0)
end Pl
theorem mark_nat {fs : List Fr} {m : Int} (h : isMark fs m = true) : ∃ k : Nat, m = k ∧ k ≤ fs.length := by
  rcases mark_cases fs m with rfl | hm | hm | ⟨i, hi, rfl⟩
  · exact ⟨0, rfl, Nat.zero_le _⟩
  · unfold isMark at h
    rw [decide_eq_false (by omega), decide_eq_false (by omega)] at h
    cases h
  · unfold isMark at h
    rw [decide_eq_false (by omega), decide_eq_false (by omega)] at h
    cases h
  · exact ⟨i + 1, rfl, hi⟩
section
variable {S : Nat → Prop} {W0 w : World} {db : Nat} {p : Pl}
attribute [local go_sem ↓] load26 store26 alloc26 build26
end
end Go.Proofs.YtoeldmkbmnkhkaaGreat
/- The table of locks in memory, and what its methods answer; no condition (out of Free and Methods, types by name). -/
namespace Go.Proofs.YtoeldmkbmnkhkaaGreat
open Go.RowKit

/-- the cells of a table: what each connection holds, and that it is ready -/
def lk_tabCells (hs : List Int) : Array Value := ((hs.map (Value.int .i64)) ++ [Value.int .i64 1]).toArray
def Tab (w : World) (b : Nat) (hs : List Int) : Prop := hs.length = 8 ∧ w.heap[b]? = some (.cells (lk_tabCells hs) 214 (0, 0))

theorem Tab.ready {w : World} {b : Nat} {hs : List Int} (h : Tab w b hs) : w.cell? ⟨b, 8, none⟩ = some (.int .i64 1) := by
  rw [cell_of_row w b 8 _ _ _ h.2]; simp [lk_tabCells, h.1]
theorem Tab.cell {w : World} {b : Nat} {hs : List Int} (h : Tab w b hs) (k : Nat) (hk : k < 8) : w.cell? ⟨b, k, none⟩ = some (.int .i64 (hs.getD k 0)) := by
  rw [cell_of_row w b k _ _ _ h.2]; simp [lk_tabCells, List.getElem?_append, h.1, hk]
theorem Tab.sub {w : World} {b : Nat} {hs : List Int} (h : Tab w b hs) : Sub w b 0 (hs.map (Value.int .i64)) := by
  intro j v hj
  have hj8 : j < 8 := by have := (List.getElem?_eq_some_iff.1 hj).1; simp [h.1] at this; exact this
  rw [Nat.zero_add, h.cell j hj8, ← hj]
  simp [h.1, hj8]

theorem lk_is_ok (w : World) (b : Nat) (hc : w.cell? ⟨b, 8, none⟩ = some (.int .i64 1)) : Calls Tryz.prog 169 #[.pointer (some ⟨b, 0, none⟩)] w fun e w' => e = .returned (.bool true) ∧ w = w' := by
  go_enter Tryz.func169, Tryz.ntmps169
  go_wp2
  go_ret
  exact ⟨rfl, rfl⟩

/-- does another one hold that much, among the connections from k on? -/
def lk_others (hs : List Int) (c l : Int) (k : Nat) : Bool := (List.range' k (8 - k)).any fun o => decide ((o : Int) ≠ c) && decide (l ≤ hs.getD o 0)

theorem lk_others_step (hs : List Int) (c l : Int) (k : Nat) (hk : k < 8) : lk_others hs c l k = ((decide ((k : Int) ≠ c) && decide (l ≤ hs.getD k 0)) || lk_others hs c l (k + 1)) := by
  unfold lk_others
  rw [show 8 - k = (8 - (k + 1)) + 1 from by omega, List.range'_succ, List.any_cons]
theorem lk_others_skip (hs : List Int) (c l : Int) (k : Nat) (hk : k < 8) (h : (k : Int) = c ∨ hs[k]?.getD 0 < l) : lk_others hs c l k = lk_others hs c l (k + 1) := by
  rw [lk_others_step _ _ _ _ hk]
  rcases h with h | h <;> simp [h]
  intro _ h2; omega
theorem lk_others_hit (hs : List Int) (c l : Int) (k : Nat) (hk : k < 8) (h : ¬ (k : Int) = c) (h' : l ≤ hs[k]?.getD 0) : lk_others hs c l k = true := by
  rw [lk_others_step _ _ _ _ hk]
  simp [h, h']
theorem lk_others_end (hs : List Int) (c l : Int) : lk_others hs c l 8 = false := rfl

set_option maxHeartbeats 400000 in
theorem lk_others_any (w : World) (b bt bc : Nat) (c l : Int) (hs : List Int) (hT : Tab w b hs)
  (h1 : w.cell? ⟨bt, 0, none⟩ = some (.pointer (some ⟨b, 0, none⟩))) (h2 : w.cell? ⟨bc, 0, none⟩ = some (.int .i64 c)) :
   Calls Tryz.prog 170 #[.int .i64 l, .pointer (some ⟨bt, 0, none⟩), .pointer (some ⟨bc, 0, none⟩)] w fun e w' => e = .returned (.bool (lk_others hs c l 0)) ∧ w = w' := by
  have hix : ∀ (k : Nat), k < 8 → ∀ w, (Instr.index 212 (.agg (hs.map (Value.int .i64)).toArray) (.int .i64 k)).run Tryz.prog w = .ok (.int .i64 (hs.getD k 0)) w := by
    intro k hk w
    obtain ⟨i, hi, hi1⟩ := Option.map_eq_some_iff.1 (show (Tryz.prog.info? 91).map (·.size) = some 1 from by kernel_rfl)
    exact run_index_arr w 212 91 8 _ i Tryz.underlying212 Tryz.underlying91 rfl hi hi1 _ k hk _ (by simp [hT.1, hk])
  have HT := Lib.hid hT
  have Hix := Lib.hid hix
  clear hT hix
  go_enter Tryz.func170, Tryz.ntmps170
  go_wp2_with (refine wpList_load_sub rfl 212 (.tmp 9) rfl b 0 rfl (hs.map (Value.int .i64)) _ HT.out.sub Tryz.underlying212 rfl ?_ ?_)
  case refine_1 => rw [List.length_map, HT.out.1]; kernel_rfl
  go_loop [11] (fun i => ∃ k : Nat, k ≤ 8 ∧ i = .int .i64 k ∧ lk_others hs c l 0 = lk_others hs c l k) (fun i => 8 - (intOf i).toNat)
  case atStart => exact ⟨0, by omega, rfl, rfl⟩
  case round =>
    obtain ⟨k, hk, rfl, ho⟩ := hrel
    have HO := Lib.hid ho
    clear ho
    by_cases hlt : k < 8
    · have hix := Hix.out k hlt
      go_wp2
      · refine ⟨⟨k + 1, by omega, by congr 1; omega, HO.out.trans (lk_others_skip _ _ _ _ hlt (.inl ‹_›))⟩, by simp [intOf]; omega⟩
      · rename_i h _
        go_ret
        exact ⟨by rw [HO.out, lk_others_hit _ _ _ _ hlt ‹_› h.2]; rfl, rfl⟩
      · rename_i hn h
        refine ⟨⟨k + 1, by omega, by congr 1, HO.out.trans (lk_others_skip _ _ _ _ hlt (.inr (h.resolve_left (by simp [hn])))) ⟩, by simp [intOf]; omega⟩
    · obtain rfl : k = 8 := by omega
      go_wp2
      go_ret
      exact ⟨by rw [HO.out, lk_others_end]; rfl, rfl⟩

def lk_wrongI (c l : Int) : Int := if c < 0 ∨ 8 ≤ c ∨ l < 0 ∨ 3 < l then 2 else 0

theorem lk_wrong_ok (w : World) (b : Nat) (hs : List Int) (c l : Int) (hT : Tab w b hs) : Calls Tryz.prog 130 #[.pointer (some ⟨b, 0, none⟩), .int .i64 c, .int .i64 l] w fun e w' => e = .returned (.int .i64 (lk_wrongI c l)) ∧ w = w' := by
  have HT := Lib.hid hT
  clear hT
  go_enter Tryz.func130, Tryz.ntmps130
  go_wp2_with (go_at_call 169; refine (lk_is_ok _ _ HT.out.ready).mono ?_; rintro e w' ⟨rfl, rfl⟩)
  all_goals
    go_ret
    exact ⟨ret_int (by unfold lk_wrongI; first | rw [if_pos (by omega)] | rw [if_neg (by omega)]), rfl⟩

/-- may a connection take a lock? (as the code asks) -/
def lk_freeI (hs : List Int) (c l : Int) : Bool :=
  if l = 3 then !lk_others hs c 1 0 && !lk_others hs c 2 0 && !lk_others hs c 3 0 else if l = 2 then !lk_others hs c 2 0 && !lk_others hs c 3 0 else if l = 1 then !lk_others hs c 3 0 else true

set_option maxHeartbeats 800000 in
theorem lk_free_any (w : World) (b : Nat) (c l : Int) (hs : List Int) (hT : Tab w b hs) :
   Calls Tryz.prog 131 #[.pointer (some ⟨b, 0, none⟩), .int .i64 c, .int .i64 l] w fun e w' => e = .returned (.bool (lk_freeI hs c l)) ∧ Kp NoB w w' := by
  have hmf : ∀ (fn : Fn) (first cap : Array Value) (w : World), (Instr.makeFunc fn first cap).run Tryz.prog w = .ok (.func fn first cap) w := fun _ _ _ _ => rfl
  have HT := Lib.hid hT
  clear hT
  obtain ⟨o1, h1⟩ : ∃ x, x = lk_others hs c 1 0 := ⟨_, rfl⟩
  obtain ⟨o2, h2⟩ : ∃ x, x = lk_others hs c 2 0 := ⟨_, rfl⟩
  obtain ⟨o3, h3⟩ : ∃ x, x = lk_others hs c 3 0 := ⟨_, rfl⟩
  have H1 := Lib.hid h1
  have H2 := Lib.hid h2
  have H3 := Lib.hid h3
  clear h1 h2 h3
  have K : ∀ (l x : Int) (o : Bool), x = l → Hid (o = lk_others hs c l 0) → Calls Tryz.prog 170 #[.int .i64 x, .pointer (some ⟨w.heap.size, 0, none⟩), .pointer (some ⟨w.heap.size + 1, 0, none⟩)] ((w.alloc (.cells #[.pointer (some ⟨b, 0, none⟩)] 134)).alloc (.cells #[.int .i64 c] 3)) fun e w' => e = .returned (.bool o) ∧ ((w.alloc (.cells #[.pointer (some ⟨b, 0, none⟩)] 134)).alloc (.cells #[.int .i64 c] 3)) = w' := by
    intro l x o e ho
    subst e
    rw [ho.out]
    exact lk_others_any _ b w.heap.size (w.heap.size + 1) c x hs ⟨HT.out.1, by rw [Below.heap_alloc _ _ _ (by have := lt_of_heap HT.out.2; simp; omega), Below.heap_alloc _ _ _ (lt_of_heap HT.out.2)]; exact HT.out.2⟩ (by simp) (by simp)
  go_enter Tryz.func131, Tryz.ntmps131
  go_wp2_with (first | (go_at_call_of 170 (Value.int .i64 1); refine (K 1 _ o1 rfl H1).mono ?_; rintro e w' ⟨rfl, rfl⟩) | (go_at_call_of 170 (Value.int .i64 2); refine (K 2 _ o2 rfl H2).mono ?_; rintro e w' ⟨rfl, rfl⟩) | (go_at_call_of 170 (Value.int .i64 3); refine (K 3 _ o3 rfl H3).mono ?_; rintro e w' ⟨rfl, rfl⟩))
  all_goals
    clear K hmf
    go_ret
    refine ⟨ret_bool ?_, ((Kp.refl _ _).alloc _).alloc _⟩
    unfold lk_freeI
    rw [← H1.out, ← H2.out, ← H3.out]
    simp_all

def lk_takeI (hs : List Int) (c l : Int) : Int × List Int :=
  if lk_wrongI c l ≠ 0 then (2, hs) else if l ≤ hs.getD c.toNat 0 then (0, hs) else if lk_freeI hs c l then (0, hs.set c.toNat l) else (6, hs)
def lk_dropI (hs : List Int) (c l : Int) : Int × List Int :=
  if lk_wrongI c l ≠ 0 then (2, hs) else (0, hs.set c.toNat (min (hs.getD c.toNat 0) l))

def lk_StepPost (b : Nat) (r : Int × List Int) (w : World) (e : Ending) (w' : World) : Prop := e = .returned (.int .i64 r.1) ∧ Tab w' b r.2 ∧ Kp (OnB b) w w'

theorem lk_wrongI_cases (c l : Int) : (lk_wrongI c l = 2 ∧ (c < 0 ∨ 8 ≤ c ∨ l < 0 ∨ 3 < l)) ∨ (lk_wrongI c l = 0 ∧ 0 ≤ c ∧ c < 8 ∧ 0 ≤ l ∧ l ≤ 3) := by
  unfold lk_wrongI
  by_cases h : c < 0 ∨ 8 ≤ c ∨ l < 0 ∨ 3 < l
  · left; exact ⟨if_pos h, h⟩
  · right; exact ⟨if_neg h, by omega, by omega, by omega, by omega⟩

theorem lk_wrong_bad (w : World) (b : Nat) (hs : List Int) (c l : Int) (hT : Tab w b hs) (h : lk_wrongI c l = 2) : Calls Tryz.prog 130 #[.pointer (some ⟨b, 0, none⟩), .int .i64 c, .int .i64 l] w fun e w' => e = .returned (.int .i64 2) ∧ w = w' :=
  (lk_wrong_ok w b hs c l hT).mono fun _ _ q => ⟨by rw [q.1, h], q.2⟩
theorem lk_wrong_fine (w : World) (b : Nat) (hs : List Int) (c l : Int) (hT : Tab w b hs) (h : lk_wrongI c l = 0) : Calls Tryz.prog 130 #[.pointer (some ⟨b, 0, none⟩), .int .i64 c, .int .i64 l] w fun e w' => e = .returned (.int .i64 0) ∧ w = w' :=
  (lk_wrong_ok w b hs c l hT).mono fun _ _ q => ⟨by rw [q.1, h], q.2⟩
theorem lk_free_is (w : World) (b : Nat) (c l : Int) (hs : List Int) (hT : Tab w b hs) (x : Bool) (hx : lk_freeI hs c l = x) :
   Calls Tryz.prog 131 #[.pointer (some ⟨b, 0, none⟩), .int .i64 c, .int .i64 l] w fun e w' => e = .returned (.bool x) ∧ Kp NoB w w' :=
  (lk_free_any w b c l hs hT).mono fun _ _ q => ⟨by rw [q.1, hx], q.2⟩

theorem Tab.keep {w w' : World} {S : Nat → Prop} {b : Nat} {hs : List Int} (h : Tab w b hs) (k : Kp S w w') (hn : ¬ S b) : Tab w' b hs := ⟨h.1, k.lift h.2 hn⟩
theorem Tab.lt {w : World} {b : Nat} {hs : List Int} (h : Tab w b hs) : b < w.heap.size := lt_of_heap h.2
theorem Tab.frozen {w : World} {b : Nat} {hs : List Int} (h : Tab w b hs) (k : Nat) : w.frozen? ⟨b, k, none⟩ = false := frozen_of_row w b k _ _ h.2
theorem Tab.set {w : World} {b : Nat} {hs : List Int} (h : Tab w b hs) (k : Nat) (hk : k < 8) (l : Int) : Tab (w.setCell ⟨b, k, none⟩ (.int .i64 l)) b (hs.set k l) := by
  refine ⟨by simp [h.1], ?_⟩
  rw [heap_setCell_same w b k _ _ _ h.2]
  congr 2
  simp only [lk_tabCells]
  rw [List.setIfInBounds_toArray, List.set_append_left _ _ (by simp [h.1]; omega), List.map_set]

set_option maxHeartbeats 800000 in
theorem lk_take_ok (w : World) (b : Nat) (hs : List Int) (c l : Int) (hT : Tab w b hs) :
    Calls Tryz.prog 76 #[.pointer (some ⟨b, 0, none⟩), .int .i64 c, .int .i64 l] w (lk_StepPost b (lk_takeI hs c l) w) := by
  have HT := Lib.hid hT
  clear hT
  rcases lk_wrongI_cases c l with ⟨h, hb⟩ | ⟨h, h0, h1, h2, h3⟩
  · have H := Lib.hid h
    clear h
    go_enter Tryz.func76, Tryz.ntmps76
    go_wp2_with (go_at_call 130; refine (lk_wrong_bad _ _ _ _ _ HT.out H.out).mono ?_; rintro e w' ⟨rfl, rfl⟩)
    go_ret
    exact ⟨by simp [lk_takeI, H.out], by simp [lk_takeI, H.out]; exact HT.out, Kp.refl _ _⟩
  · have H := Lib.hid h
    clear h
    obtain ⟨k, rfl⟩ := Int.eq_ofNat_of_zero_le h0
    have hk : k < 8 := by omega
    have hc := HT.out.cell k hk
    have hfz := HT.out.frozen k
    by_cases hle : l ≤ hs[k]?.getD 0
    · go_enter Tryz.func76, Tryz.ntmps76
      go_wp2_with (go_at_call 130; refine (lk_wrong_fine _ _ _ _ _ HT.out H.out).mono ?_; rintro e w' ⟨rfl, rfl⟩)
      go_ret
      exact ⟨by simp [lk_takeI, H.out, hle], by simp [lk_takeI, H.out, hle]; exact HT.out, Kp.refl _ _⟩
    · cases hf : lk_freeI hs k l
      · have HF := Lib.hid hf
        have HE := Lib.hid (show lk_takeI hs k l = (6, hs) from by simp [lk_takeI, H.out, hle, hf])
        clear hf
        go_enter Tryz.func76, Tryz.ntmps76
        go_wp2_with (first | (go_at_call 130; refine (lk_wrong_fine _ _ _ _ _ HT.out H.out).mono ?_; rintro e w' ⟨rfl, rfl⟩) | (go_at_call 131; refine (lk_free_is _ _ _ _ _ HT.out _ HF.out).mono ?_; rintro e w' ⟨rfl, hk'⟩))
        go_ret
        have e := HE.out
        exact ⟨by rw [e]; rfl, by rw [e]; exact HT.out.keep hk' (fun q => q), hk'.mono (fun _ _ q => q.elim)⟩
      · have HF := Lib.hid hf
        have HE := Lib.hid (show lk_takeI hs k l = (0, hs.set k l) from by simp [lk_takeI, H.out, hle, hf])
        clear hf
        go_enter Tryz.func76, Tryz.ntmps76
        go_wp2_with (first | (go_at_call 130; refine (lk_wrong_fine _ _ _ _ _ HT.out H.out).mono ?_; rintro e w' ⟨rfl, rfl⟩) | (go_at_call 131; refine (lk_free_is _ _ _ _ _ HT.out _ HF.out).mono ?_; rintro e w' ⟨rfl, hk'⟩; have hc' := (HT.out.keep hk' (fun q => q)).cell k hk; have hfz' := (HT.out.keep hk' (fun q => q)).frozen k))
        go_ret
        have e := HE.out
        exact ⟨by rw [e]; rfl, by rw [e]; exact (HT.out.keep hk' (fun q => q)).set k hk l, Kp.setCell (S := OnB b) (p := ⟨b, k, none⟩) (hk'.mono (fun _ _ q => q.elim)) (.inr rfl) _⟩

def lk_hasI (hs : List Int) (c : Int) : Int := if c < 0 ∨ 8 ≤ c then 0 else hs.getD c.toNat 0
theorem lk_has_ok (w : World) (b : Nat) (hs : List Int) (c : Int) (hT : Tab w b hs) : Calls Tryz.prog 78 #[.pointer (some ⟨b, 0, none⟩), .int .i64 c] w fun e w' => e = .returned (.int .i64 (lk_hasI hs c)) ∧ w = w' := by
  have HT := Lib.hid hT
  clear hT
  rcases lk_wrongI_cases c 0 with ⟨h, hb⟩ | ⟨h, h0, h1, h2, h3⟩
  · have H := Lib.hid h
    clear h
    go_enter Tryz.func78, Tryz.ntmps78
    go_wp2_with (go_at_call 130; refine (lk_wrong_bad _ _ _ _ _ HT.out H.out).mono ?_; rintro e w' ⟨rfl, rfl⟩)
    go_ret
    exact ⟨ret_int (by unfold lk_hasI; rw [if_pos (by omega)]), rfl⟩
  · have H := Lib.hid h
    clear h
    obtain ⟨k, rfl⟩ := Int.eq_ofNat_of_zero_le h0
    have hk : k < 8 := by omega
    have hc := HT.out.cell k hk
    go_enter Tryz.func78, Tryz.ntmps78
    go_wp2_with (go_at_call 130; refine (lk_wrong_fine _ _ _ _ _ HT.out H.out).mono ?_; rintro e w' ⟨rfl, rfl⟩)
    go_ret
    exact ⟨ret_int (by unfold lk_hasI; rw [if_neg (by omega)]; simp), rfl⟩

theorem lk_new_ok (w : World) : Calls Tryz.prog 74 #[] w fun e w' => e = .returned (.pointer (some ⟨w.heap.size, 0, none⟩)) ∧ Tab w' w.heap.size (List.replicate 8 0) ∧ Kp NoB w w' := by
  go_enter Tryz.func74, Tryz.ntmps74
  go_wp2
  go_ret
  exact ⟨rfl, ⟨by simp, by rw [heap_alloc_new]; rfl⟩, (Kp.refl _ _).alloc _⟩
end Go.Proofs.YtoeldmkbmnkhkaaGreat
/- The store in plain Lean: its transactions, step by step on the plain disk; no condition. -/
namespace Go.Proofs.YtoeldmkbmnkhkaaGreat
open Go

/-- pages by their numbers -/
def PgM : Type := Nat → Option (List Int)
def PgM.none : PgM := fun _ => Option.none
def PgM.put (f : PgM) (n : Nat) (b : List Int) : PgM := fun k => if k = n then some b else f k
def PgM.cut (f : PgM) (count : Nat) : PgM := fun k => if k ≤ count then f k else Option.none
/-- a transaction: its connection, the mark at which it reads, its count when it began, its count, what it changed, what it has read, does it write, is it over, its savepoints -/
structure TxS where
  c : Nat
  mark : Int
  first : Int
  count : Int
  pg : PgM
  seen : PgM
  w : Bool
  e : Bool
  saves : List (Int × PgM)
/-- a store over a disk: the disk, its starts when the store was opened, by the log, who holds which lock -/
structure SdS where
  p : Pl
  starts : Int
  log : Bool
  hs : List Int
namespace SdS
def over (s : SdS) : Bool := s.p.down || decide (s.p.starts ≠ s.starts)
def mark (s : SdS) : Int × Int := if s.log then s.p.wmark else (0, 0)
def count (s : SdS) (m : Int) : Int := if s.log then (s.p.wcnt m).1 else s.p.jcount
def page (s : SdS) (m n : Int) : List Int × Int := if s.log then s.p.wpg m n else (s.p.jpage n, s.p.jpageE n)
def lock1 (s : SdS) : Int := if s.log then 0 else 1
def lock2 (s : SdS) : Int := if s.log then 2 else 3
def put (s : SdS) (count : Int) (l : List Pg) : SdS × Int :=
  if s.log then ({ s with p := (s.p.wcommit count l).1 }, (s.p.wcommit count l).2.2) else ({ s with p := (s.p.jcommit count l).1 }, (s.p.jcommit count l).2)
def home (s : SdS) (m : Int) : SdS × Bool × Int :=
  if s.log then (if (s.p.wcheck m).2 ≠ 0 then ({ s with p := (s.p.wcheck m).1 }, false, (s.p.wcheck m).2) else ({ s with p := (s.p.wcheck m).1 }, decide ((s.p.wcheck m).1.wmark.1 = 0) && decide ((s.p.wcheck m).1.wmark.2 = 0), (s.p.wcheck m).1.wmark.2)) else (s, false, 0)
def lock (s : SdS) (c : Int) (l : Int) : SdS × Int := ({ s with hs := (lk_takeI s.hs c l).2 }, (lk_takeI s.hs c l).1)
def free (s : SdS) (c : Int) (l : Int) : SdS := { s with hs := (lk_dropI s.hs c l).2 }
/-- a store opened -/
def open_ (p : Pl) (log : Bool) : Pl × Option SdS × Int :=
  if p.jrecover.2.2 ≠ 0 then (p.jrecover.1, none, p.jrecover.2.2) else
    let q := p.jrecover.1
    if q.wmark.2 ≠ 0 then (q, none, q.wmark.2) else if log then (q, some ⟨q, q.starts, true, List.replicate 8 0⟩, 0) else
      let r := q.wcheck q.wmark.1
      if r.2 ≠ 0 then (r.1, none, r.2) else (r.1, some ⟨r.1, r.1.starts, false, List.replicate 8 0⟩, 0)
/-- a transaction begun (its place is free) -/
def begin_ (s : SdS) (c : Nat) : SdS × Option TxS × Int :=
  if s.over then (s, none, 7) else if (s.lock c s.lock1).2 ≠ 0 then ((s.lock c s.lock1).1, none, (s.lock c s.lock1).2) else
    let s1 := (s.lock c s.lock1).1
    if s1.mark.2 ≠ 0 then (s1.free c 0, none, s1.mark.2) else (s1, some ⟨c, s1.mark.1, s1.count s1.mark.1, s1.count s1.mark.1, PgM.none, PgM.none, false, false, []⟩, 0)
end SdS
namespace TxS
def okE (s : SdS) (t : TxS) : Int := if s.over || t.e then 7 else 0
/-- a page as it was when the transaction began -/
def was (s : SdS) (t : TxS) (n : Nat) : (List Int × Int) × TxS :=
  match t.seen n with
  | some b => ((b, 0), t)
  | none => if (s.page t.mark n).2 = 0 then (s.page t.mark n, { t with seen := t.seen.put n (s.page t.mark n).1 }) else (s.page t.mark n, t)
def page (s : SdS) (t : TxS) (n : Int) : (List Int × Int) × TxS :=
  if t.okE s ≠ 0 then ((zeros 256, 7), t) else if n < 1 ∨ t.count < n then ((zeros 256, 4), t) else match t.pg n.toNat with | some b => ((b, 0), t) | none => t.was s n.toNat
def cnt (s : SdS) (t : TxS) : Int := if t.okE s ≠ 0 then 0 else t.count
def write (s : SdS) (t : TxS) : SdS × TxS × Int :=
  if t.okE s ≠ 0 then (s, t, 7) else if t.w then (s, t, 0) else if (s.lock t.c 2).2 ≠ 0 then ((s.lock t.c 2).1, t, (s.lock t.c 2).2) else
    let s1 := (s.lock t.c 2).1
    if s1.mark.2 ≠ 0 then (s1.free t.c (lk_hasI s.hs t.c), t, s1.mark.2) else if s1.mark.1 ≠ t.mark then (s1.free t.c (lk_hasI s.hs t.c), t, 190) else (s1, { t with w := true }, 0)
def writerE (s : SdS) (t : TxS) : Int := if t.okE s ≠ 0 then 7 else if t.w then 0 else 191
def put (s : SdS) (t : TxS) (n : Int) (b : List Int) : TxS × Int :=
  if t.writerE s ≠ 0 then (t, t.writerE s) else if n < 1 ∨ t.count + 1 < n then (t, 4) else if 4096 < n then (t, 5) else ({ t with pg := t.pg.put n.toNat b, count := max t.count n }, 0)
def shrink (s : SdS) (t : TxS) (n : Int) : TxS × Int :=
  if t.writerE s ≠ 0 then (t, t.writerE s) else if n < 0 ∨ t.count < n then (t, 2) else ({ t with pg := t.pg.cut n.toNat, count := n }, 0)
def savedE (s : SdS) (t : TxS) (k : Int) : Int := if t.okE s ≠ 0 then 7 else if k < 1 ∨ (t.saves.length : Int) < k then 4 else 0
def back (s : SdS) (t : TxS) (k : Int) : TxS × Int :=
  if t.savedE s k ≠ 0 then (t, t.savedE s k) else match t.saves[k.toNat - 1]? with | some x => ({ t with saves := t.saves.take k.toNat, count := x.1, pg := x.2 }, 0) | none => (t, 0)
def end_ (s : SdS) (t : TxS) : SdS × TxS := (s.free t.c 0, { t with e := true })
/-- what was changed, by the pages' numbers: pages that are as they were are left out -/
def change (s : SdS) (t : TxS) : List Pg :=
  (List.range' 1 t.count.toNat).filterMap fun n => match t.pg n with | none => none | some b => if (n : Int) ≤ t.first ∧ (t.was s n).1.1 = b then none else some ⟨(n : Int), b⟩
/-- what a commit has read behind it -/
def changeT (s : SdS) (t : TxS) : TxS := { t with seen := fun n => match t.seen n with | some b => some b | none => if (t.pg n).isSome ∧ (n : Int) ≤ t.first ∧ (s.page t.mark n).2 = 0 then some (s.page t.mark n).1 else none }
def commit (s : SdS) (t : TxS) : SdS × TxS × Int :=
  if t.okE s ≠ 0 then (s, t, 7) else if t.w = false then ((t.end_ s).1, (t.end_ s).2, 0) else
    let t1 := t.changeT s
    if (s.lock t.c s.lock2).2 ≠ 0 then ((s.lock t.c s.lock2).1, t1, (s.lock t.c s.lock2).2) else
      let s1 := (s.lock t.c s.lock2).1
      let r := s1.put t.count (t.change s)
      if r.2 ≠ 0 then (r.1.free t.c (lk_hasI s.hs t.c), t1, r.2) else ((t1.end_ r.1).1, (t1.end_ r.1).2, 0)
def rollback (s : SdS) (t : TxS) : SdS × TxS × Int := if t.okE s ≠ 0 then (s, t, 7) else ((t.end_ s).1, (t.end_ s).2, 0)
end TxS
end Go.Proofs.YtoeldmkbmnkhkaaGreat
