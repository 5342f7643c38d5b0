/- Texts of this proof, one behind the other: lemmas and contracts; each says its own conditions. -/
import Derived.Test.YtegcbdfilkecpaaM5
import Derived.Test.YtegcbdfilkecpaaM6
import Derived.Test.YtegcbdfilkecpaaM7
/- The journal: pages changed together; no condition but on the counts. -/
namespace Go.Proofs.Ytegcbdfilkecpaa
open Go.RowKit

theorem infoWr : (Try.prog.info? 98).map (·.size) = some 1 := by kernel_rfl
theorem blk_rg {w : World} {g : Nat} {t : TypeId} {v : Value} (h : Blk w g t #[v]) : w.rangeAt g 0 [v] := Blk.range (xa := []) (xb := [v]) (xd := []) h 0 rfl
theorem fill_pg (n : Int) (l : List Int) (hl : l.length = 256) : Instr.fill (fun i => (#[(0, 1), (1, 256)] : Array (Nat × Nat))[i]?) (pgA ⟨0, zeros 256⟩) [(0, .int .i64 n), (1, .agg (bytesV l))] = some (pgA ⟨n, l⟩) := by
  have hz : (pgA ⟨0, zeros 256⟩).size = 257 := by
    unfold pgA pgL
    rw [List.size_toArray, List.length_cons, List.length_map]
    unfold zeros
    rw [List.length_replicate]
  have c1 : (Value.int .i64 n).cells = #[.int .i64 n] := rfl
  have c2 : (Value.agg (bytesV l)).cells = bytesV l := rfl
  have s2 : (bytesV l).size = 256 := by rw [bytesV_size, hl]
  obtain ⟨g1, g2⟩ := Go.Great.foldl_set 0 [.int .i64 n] 0 (pgA ⟨0, zeros 256⟩)
  obtain ⟨h1, h2⟩ := Go.Great.foldl_set 1 (bytesV l).toList 0 (([Value.int .i64 n].zipIdx 0).foldl (fun cs (x : Value × Nat) => cs.setIfInBounds (0 + x.2) x.1) (pgA ⟨0, zeros 256⟩))
  have e1 : (#[Value.int .i64 n] : Array Value).zipIdx.foldl (fun cs (x : Value × Nat) => cs.setIfInBounds (0 + x.2) x.1) (pgA ⟨0, zeros 256⟩) = ([Value.int .i64 n].zipIdx 0).foldl (fun cs (x : Value × Nat) => cs.setIfInBounds (0 + x.2) x.1) (pgA ⟨0, zeros 256⟩) := by
    rw [← Array.foldl_toList, Array.toList_zipIdx]
  unfold Instr.fill
  simp only [List.getElem?_toArray, List.getElem?_cons_zero, c1]
  rw [if_neg (by rw [hz]; simp), e1]
  generalize hA : ([Value.int .i64 n].zipIdx 0).foldl (fun cs (x : Value × Nat) => cs.setIfInBounds (0 + x.2) x.1) (pgA ⟨0, zeros 256⟩) = X at g1 g2 h1 h2 ⊢
  unfold Instr.fill
  simp only [List.getElem?_toArray, List.getElem?_cons_zero, List.getElem?_cons_succ, c2]
  rw [if_neg (by rw [g1, hz, s2]; simp)]
  have e2 : (bytesV l).zipIdx.foldl (fun cs (x : Value × Nat) => cs.setIfInBounds (1 + x.2) x.1) X = ((bytesV l).toList.zipIdx 0).foldl (fun cs (x : Value × Nat) => cs.setIfInBounds (1 + x.2) x.1) X := by
    rw [← Array.foldl_toList, Array.toList_zipIdx]
  rw [e2]
  unfold Instr.fill
  refine congrArg some ?_
  apply Array.ext_getElem?
  intro k
  rw [h2 k, g1, hz, g2 k, hz]
  simp only [Array.length_toList, s2, List.length_cons, List.length_nil, Nat.add_zero, Nat.zero_add]
  rcases (show k = 0 ∨ (1 ≤ k ∧ k < 257) ∨ 257 ≤ k by omega) with rfl | hk | hk
  · rw [if_neg (by omega), if_pos (by omega)]
    rfl
  · rw [if_pos (by omega)]
    unfold pgA pgL bytesV
    obtain ⟨j, rfl⟩ : ∃ j, k = j + 1 := ⟨k - 1, by omega⟩
    rw [List.getElem?_toArray, List.getElem?_cons_succ, Nat.add_sub_cancel]
  · rw [if_neg (by omega), if_neg (by omega), Array.getElem?_eq_none (by rw [hz]; exact hk), Array.getElem?_eq_none (by unfold pgA pgL; rw [List.size_toArray, List.length_cons, List.length_map, hl]; exact hk)]
theorem built_pg (parts : List (Nat × Value)) : Try.prog.built 113 parts = Instr.fill (fun i => (#[(0, 1), (1, 256)] : Array (Nat × Nat))[i]?) (pgA ⟨0, zeros 256⟩) parts := by kernel_rfl
theorem buildPg2 (w : World) (n : Int) (l : List Int) (hl : l.length = 256) : (Instr.build 113 #[(0, .int .i64 n), (1, .agg (bytesV l))]).run Try.prog w = .ok (.agg (pgA ⟨n, l⟩)) w :=
  run_build w 113 _ _ ((built_pg _).trans (fill_pg n l hl))
theorem exBuildPg2 (w : World) (ev : Operand → Value) (x y : Operand) (n : Int) (l : List Int) (hl : l.length = 256) (ds : Option Tmp) (ty : TypeId) (ps : String) (af : Array Edge) (g : Option (Nat × Bool)) (hx : ev x = .int .i64 n) (hy : ev y = .agg (bytesV l)) :
    (execOp ev ⟨ds, .build 113 #[(0, x), (1, y)], ty, ps, af, g⟩).run Try.prog w = .ok (.value (.agg (pgA ⟨n, l⟩))) w := by
  simp only [execOp, List.map_toArray, List.map_cons, List.map_nil, hx, hy, Sem.run_bind, buildPg2 _ _ _ hl, Result.andThen_ok]
  rfl
section
variable {S : Nat → Prop} {w : World} {db : Nat} {p : Pl}
set_option maxRecDepth 100000 in
theorem cseal1_q (h : Dq S w w db p) (Bd : Nat) (hd : Blk w Bd 98 #[ptrV db]) (hn : ¬ S Bd) (hm : p.sm 40000) :
    Calls Try.prog 61 #[.pointer (some ⟨Bd, 0, none⟩)] w fun e w' => e = .returned (.int .i64 (p.runS (headS nmJn p.jheadD)).2) ∧ Dq S w w' db (p.runS (headS nmJn p.jheadD)).1 := by
  have H := Lib.hid h
  have HM := Lib.hid hm
  have HD := Lib.hid hd
  have hlt := hd.lt
  have HNS := Lib.hid hn
  clear h hm hd hn
  go_enter Try.func61, Try.ntmps61
  go_wp2_with fail
  refine wp_region_held_drew (S := fun W' => W'.rangeAt Bd 0 [ptrV db]) (by kernel_rfl) (blk_rg HD.out) (fun hHeld => ?_)
  have h0 : Blk w.drew Bd 98 #[ptrV db] := HD.out
  have hk0 : Kp NoB w w.drew := (Kp.refl NoB w).drew
  have hi1 : (Try.prog.info? 98).map (·.size) = some ([ptrV db] : List Value).length := infoWr
  have hu := Try.underlying98
  generalize w.drew = W0 at h0 hHeld hk0 ⊢
  refine tkS (i := 0) (v := .agg ([ptrV db]).toArray) rfl (yieldsIf_load_mid (by rfl) _ _ rfl _ _ rfl [ptrV db] _ (fun _ q => q) hu rfl hi1) (blk_rg h0) ?_
  simp only [Act.put, skA, skB, skC]
  refine tkS (i := 1) (v := .agg ([ptrV db]).toArray) rfl (yieldsIf_load_mid (by rfl) _ _ rfl _ _ rfl [ptrV db] _ (fun _ q => q) hu rfl hi1) (blk_rg h0) ?_
  simp only [Act.put, skA, skB, skC]
  refine wpAnyH_ready (rs := [2]) (by kernel_rfl) (by simp) ?_
  refine AllReadyH.callR (fun x W' => x = .agg (w4A p.jheadD) ∧ Blk W' Bd 98 #[ptrV db] ∧ Kp NoB w W') rfl (by rfl) 50 #[.agg #[ptrV db]] (by first | (go_simp; done) | (go_simp; rfl)) (fun _ _ q => (blk_rg q.2.1)) ((head_q (H.out.keep hk0)).mono (by rintro e w19 ⟨rfl, hk⟩; exact ⟨_, rfl, rfl, h0.keep hk (fun q => q), hk0.trans hk (fun _ _ q => q)⟩)) ?_ AllReadyH.nil
  rintro _ W1 ⟨rfl, h1, hk1⟩
  simp only [Act.put, skA, skB, skC]
  refine wpAnyH_ready (rs := [3]) (by kernel_rfl) (by simp) ?_
  refine AllReadyH.callR (fun x W' => x = .int .i64 (p.runS (headS nmJn p.jheadD)).2 ∧ Blk W' Bd 98 #[ptrV db] ∧ Dq S w W' db (p.runS (headS nmJn p.jheadD)).1) rfl (by rfl) 54 #[.agg #[ptrV db], .agg (w4A p.jheadD)] (by first | (go_simp; done) | (go_simp; rfl)) (fun _ _ q => (blk_rg q.2.1)) ((jseal_q (H.out.base1 hk1) p.jheadD HM.out).mono (by rintro e w19 ⟨rfl, hq⟩; exact ⟨_, rfl, rfl, h1.keep hq.kp HNS.out, Dq.up (H.out.base1 hk1) hk1 H.out.lt hq⟩)) ?_ AllReadyH.nil
  rintro _ W2 ⟨rfl, h2, hq2⟩
  simp only [Act.put, skA, skB, skC]
  obtain ⟨zz, hzz⟩ : ∃ zz, (p.runS (headS nmJn p.jheadD)).2 = zz := ⟨_, rfl⟩
  rw [hzz]
  refine tkS (i := 4) (v := (.int .i64 zz)) rfl (Or.inl ⟨by rfl, fun w' hq => by go_simp⟩) (blk_rg h2) ?_
  simp only [Act.put, skA, skB, skC]
  refine wpAnyH_done (by kernel_rfl) ?_ _
  have HQ2 := Lib.hid hq2
  have HZZ := Lib.hid hzz
  clear hHeld h0 hk0 hi1 hu h1 hk1 h2 hq2 hzz
  go_wp2_with fail
  go_ret
  exact ⟨by rw [HZZ.out]; rfl, HQ2.out⟩
end
section
variable {S : Nat → Prop} {w : World} {db : Nat} {p : Pl}
set_option maxRecDepth 100000 in
theorem first_all (h : Dq S w w db p) (hdn : p.down = false) (Bd Ba Bo : Nat) (A : Option Addr) (n cap old : Nat) (l : List Pg)
    (hk : (fun S w => (Blk w Bd 98 #[ptrV db] ∧ ¬ S Bd) ∧ ((Blk w Ba 22 #[.slice A n cap] ∧ ¬ S Ba) ∧ ((Blk w Bo 3 #[.int .i64 (old : Int)] ∧ ¬ S Bo) ∧ (PgsAt w A n l ∧ Apart S A n)))) S w)
    (hok : PgsOk l) (hn : n ≤ 4096) (hold : old ≤ 4096) (hm : p.sm 100000000) :
    Calls Try.prog 52 #[.slice (some ⟨w.heap.size, 0, none⟩) 3 3] (w.alloc (.cells #[.func (.func 61) #[] #[.pointer (some ⟨Bd, 0, none⟩)], .func (.func 62) #[] #[.pointer (some ⟨Bd, 0, none⟩), .pointer (some ⟨Ba, 0, none⟩)], .func (.func 64) #[] #[.pointer (some ⟨Bd, 0, none⟩), .pointer (some ⟨Ba, 0, none⟩), .pointer (some ⟨Bo, 0, none⟩)]] 178))
      fun e w' => e = .returned (.int .i64 (fullE (p.runS (firstS p.jhead old l)).2)) ∧ Dq S w w' db (p.runS (firstS p.jhead old l)).1 := by
  have hka := (Kp.refl NoB w).alloc (.cells #[.func (.func 61) #[] #[.pointer (some ⟨Bd, 0, none⟩)], .func (.func 62) #[] #[.pointer (some ⟨Bd, 0, none⟩), .pointer (some ⟨Ba, 0, none⟩)], .func (.func 64) #[] #[.pointer (some ⟨Bd, 0, none⟩), .pointer (some ⟨Ba, 0, none⟩), .pointer (some ⟨Bo, 0, none⟩)]] 178)
  have hb := Blk.new w 178 #[.func (.func 61) #[] #[.pointer (some ⟨Bd, 0, none⟩)], .func (.func 62) #[] #[.pointer (some ⟨Bd, 0, none⟩), .pointer (some ⟨Ba, 0, none⟩)], .func (.func 64) #[] #[.pointer (some ⟨Bd, 0, none⟩), .pointer (some ⟨Ba, 0, none⟩), .pointer (some ⟨Bo, 0, none⟩)]]
  generalize w.alloc (.cells #[.func (.func 61) #[] #[.pointer (some ⟨Bd, 0, none⟩)], .func (.func 62) #[] #[.pointer (some ⟨Bd, 0, none⟩), .pointer (some ⟨Ba, 0, none⟩)], .func (.func 64) #[] #[.pointer (some ⟨Bd, 0, none⟩), .pointer (some ⟨Ba, 0, none⟩), .pointer (some ⟨Bo, 0, none⟩)]] 178) = w9 at hka hb ⊢
  have hlt := h.lt
  have hln := hk.2.2.2.1.len
  have hKK : (fun S w => (Blk w Bd 98 #[ptrV db] ∧ ¬ S Bd) ∧ ((Blk w Ba 22 #[.slice A n cap] ∧ ¬ S Ba) ∧ ((Blk w Bo 3 #[.int .i64 (old : Int)] ∧ ¬ S Bo) ∧ (PgsAt w A n l ∧ Apart S A n)))) S w9 :=
    ⟨⟨hk.1.1.keep hka (fun q => q), hk.1.2⟩, ⟨hk.2.1.1.keep hka (fun q => q), hk.2.1.2⟩, ⟨hk.2.2.1.1.keep hka (fun q => q), hk.2.2.1.2⟩, hk.2.2.2.1.keep hka, hk.2.2.2.2⟩
  have hcost : p.sm (40000 + (20000 * (n + 1) + (40000 + 0))) := sm_mono hm (by omega)
  have hK : Kept (fun S w => (Blk w Bd 98 #[ptrV db] ∧ ¬ S Bd) ∧ ((Blk w Ba 22 #[.slice A n cap] ∧ ¬ S Ba) ∧ ((Blk w Bo 3 #[.int .i64 (old : Int)] ∧ ¬ S Bo) ∧ (PgsAt w A n l ∧ Apart S A n)))) :=
    (kept_blk Bd 98 #[ptrV db]).and ((kept_blk Ba 22 #[.slice A n cap]).and ((kept_blk Bo 3 #[.int .i64 (old : Int)]).and (kept_pgs A n l)))
  refine (all_steps (n := 3) (cap := 3) hK
    [⟨61, #[], #[.pointer (some ⟨Bd, 0, none⟩)], fun p' => p'.runS (headS nmJn p'.jheadD), 40000⟩,
     ⟨62, #[], #[.pointer (some ⟨Bd, 0, none⟩), .pointer (some ⟨Ba, 0, none⟩)], fun p' => aslR 0 l p', 20000 * (n + 1)⟩,
     ⟨64, #[], #[.pointer (some ⟨Bd, 0, none⟩), .pointer (some ⟨Ba, 0, none⟩), .pointer (some ⟨Bo, 0, none⟩)], fun p' => p'.runS (headS nmJn ⟨(n : Int) + 1, old, 0, 0⟩), 40000⟩]
    S w9 p ?_ rfl (by omega) hb (fun q => by have := hlt _ q; omega) (h.base1 hka) hKK hcost).mono ?_
  · intro s hs
    simp only [List.mem_cons, List.not_mem_nil, or_false] at hs
    rcases hs with rfl | rfl | rfl
    · exact ⟨enters_of Try.func61 (by kernel_rfl) rfl, fun S w p' h hk hm => cseal1_q h Bd hk.1.1 hk.1.2 hm, fun p' k hm => sm_run _ (by exact hm)⟩
    · exact ⟨enters_of Try.func62 (by kernel_rfl) rfl, fun S w p' h hk hm => clay_q h Bd Ba A n cap l hk.1.1 hk.2.1.1 hk.2.2.2.1 hk.2.2.2.2 hok hm (by omega), fun p' k hm => sm_aslR l 0 (m := k) rfl (by rw [hln]; exact hm)⟩
    · exact ⟨enters_of Try.func64 (by kernel_rfl) rfl, fun S w p' h hk hm => cseal_q h Bd Ba Bo A n cap old hk.1.1 hk.2.1.1 hk.2.2.1.1 hn hold hm, fun p' k hm => sm_run _ (by exact hm)⟩
  · rintro e w10 ⟨he, h10⟩
    have hz := first_run p hdn (fun s => h.seen_le s) old l (fun x hx => (hok.ok x hx).len)
    rw [hln] at hz
    change Dq S w9 w10 db (seqR [fun p' => p'.runS (headS nmJn p'.jheadD), fun p' => aslR 0 l p', fun p' => p'.runS (headS nmJn ⟨(n : Int) + 1, old, 0, 0⟩)] p).1 at h10
    rw [hz] at h10
    refine ⟨he.trans ?_, Dq.up (h.base1 hka) hka hlt h10⟩
    show Ending.returned (.int .i64 (seqR [fun p' => p'.runS (headS nmJn p'.jheadD), fun p' => aslR 0 l p', fun p' => p'.runS (headS nmJn ⟨(n : Int) + 1, old, 0, 0⟩)] p).2) = _
    rw [hz]
set_option maxRecDepth 100000 in
theorem second_all (h : Dq S w w db p) (Bd Bc Bp : Nat) (count : Int) (hc : 0 ≤ count ∧ count ≤ 4096) (A : Option Addr) (n cap : Nat) (l : List Pg)
    (hk : (fun S w => (Blk w Bd 98 #[ptrV db] ∧ ¬ S Bd) ∧ ((Blk w Bc 3 #[.int .i64 count] ∧ ¬ S Bc) ∧ ((Blk w Bp 22 #[.slice A n cap] ∧ ¬ S Bp) ∧ (PgsAt w A n l ∧ Apart S A n)))) S w)
    (hok : PgsOk l) (hn : n ≤ 4096) (hm : p.sm 100000000) :
    Calls Try.prog 52 #[.slice (some ⟨w.heap.size, 0, none⟩) 2 2] (w.alloc (.cells #[.func (.func 65) #[] #[.pointer (some ⟨Bd, 0, none⟩), .pointer (some ⟨Bc, 0, none⟩), .pointer (some ⟨Bp, 0, none⟩)], .func (.func 66) #[] #[.pointer (some ⟨Bd, 0, none⟩)]] 178))
      fun e w' => e = .returned (.int .i64 (p.runS (secondS count l)).2) ∧ Dq S w w' db (p.runS (secondS count l)).1 := by
  have hka := (Kp.refl NoB w).alloc (.cells #[.func (.func 65) #[] #[.pointer (some ⟨Bd, 0, none⟩), .pointer (some ⟨Bc, 0, none⟩), .pointer (some ⟨Bp, 0, none⟩)], .func (.func 66) #[] #[.pointer (some ⟨Bd, 0, none⟩)]] 178)
  have hb := Blk.new w 178 #[.func (.func 65) #[] #[.pointer (some ⟨Bd, 0, none⟩), .pointer (some ⟨Bc, 0, none⟩), .pointer (some ⟨Bp, 0, none⟩)], .func (.func 66) #[] #[.pointer (some ⟨Bd, 0, none⟩)]]
  generalize w.alloc (.cells #[.func (.func 65) #[] #[.pointer (some ⟨Bd, 0, none⟩), .pointer (some ⟨Bc, 0, none⟩), .pointer (some ⟨Bp, 0, none⟩)], .func (.func 66) #[] #[.pointer (some ⟨Bd, 0, none⟩)]] 178) = w9 at hka hb ⊢
  have hlt := h.lt
  have hln := hk.2.2.2.1.len
  have hKK : (fun S w => (Blk w Bd 98 #[ptrV db] ∧ ¬ S Bd) ∧ ((Blk w Bc 3 #[.int .i64 count] ∧ ¬ S Bc) ∧ ((Blk w Bp 22 #[.slice A n cap] ∧ ¬ S Bp) ∧ (PgsAt w A n l ∧ Apart S A n)))) S w9 :=
    ⟨⟨hk.1.1.keep hka (fun q => q), hk.1.2⟩, ⟨hk.2.1.1.keep hka (fun q => q), hk.2.1.2⟩, ⟨hk.2.2.1.1.keep hka (fun q => q), hk.2.2.1.2⟩, hk.2.2.2.1.keep hka, hk.2.2.2.2⟩
  have hcost : p.sm (20000 * (n + 3) + (40000 + 0)) := sm_mono hm (by omega)
  have hK : Kept (fun S w => (Blk w Bd 98 #[ptrV db] ∧ ¬ S Bd) ∧ ((Blk w Bc 3 #[.int .i64 count] ∧ ¬ S Bc) ∧ ((Blk w Bp 22 #[.slice A n cap] ∧ ¬ S Bp) ∧ (PgsAt w A n l ∧ Apart S A n)))) :=
    (kept_blk Bd 98 #[ptrV db]).and ((kept_blk Bc 3 #[.int .i64 count]).and ((kept_blk Bp 22 #[.slice A n cap]).and (kept_pgs A n l)))
  refine (all_steps (n := 2) (cap := 2) hK
    [⟨65, #[], #[.pointer (some ⟨Bd, 0, none⟩), .pointer (some ⟨Bc, 0, none⟩), .pointer (some ⟨Bp, 0, none⟩)], fun p' => p'.runS (homeS count l), 20000 * (n + 3)⟩,
     ⟨66, #[], #[.pointer (some ⟨Bd, 0, none⟩)], fun p' => p'.runS (headS nmJn ⟨0, 0, 0, 0⟩), 40000⟩]
    S w9 p ?_ rfl (by omega) hb (fun q => by have := hlt _ q; omega) (h.base1 hka) hKK hcost).mono ?_
  · intro s hs
    simp only [List.mem_cons, List.not_mem_nil, or_false] at hs
    rcases hs with rfl | rfl
    · exact ⟨enters_of Try.func65 (by kernel_rfl) rfl, fun S w p' h hk hm => cput_q h count hc Bd Bc Bp A n cap l hk.1.1 hk.2.1.1 hk.2.2.1.1 hk.2.2.2.1 hk.2.2.2.2 hok hm (by omega), fun p' k hm => sm_run _ (sm_mono hm (by simp only [homeS, homeW, List.length_append, List.length_map, List.length_cons, List.length_nil]; omega))⟩
    · exact ⟨enters_of Try.func66 (by kernel_rfl) rfl, fun S w p' h hk hm => cseal0_q h Bd hk.1.1 hm, fun p' k hm => sm_run _ (by exact hm)⟩
  · rintro e w10 ⟨he, h10⟩
    have hz : seqR [fun p' => p'.runS (homeS count l), fun p' => p'.runS (headS nmJn ⟨0, 0, 0, 0⟩)] p = p.runS (secondS count l) := seqR2 _ _ p
    change Dq S w9 w10 db (seqR [fun p' => p'.runS (homeS count l), fun p' => p'.runS (headS nmJn ⟨0, 0, 0, 0⟩)] p).1 at h10
    rw [hz] at h10
    refine ⟨he.trans ?_, Dq.up (h.base1 hka) hka hlt h10⟩
    show Ending.returned (.int .i64 (seqR [fun p' => p'.runS (homeS count l), fun p' => p'.runS (headS nmJn ⟨0, 0, 0, 0⟩)] p).2) = _
    rw [hz]
end
def CmPost (S : Nat → Prop) (w : World) (db : Nat) (p : Pl) (count : Int) (l : List Pg) (e : Ending) (w' : World) : Prop := e = .returned (.int .i64 (p.jcommit count l).2) ∧ Dq S w w' db (p.jcommit count l).1
/-- the pages to be laid aside, of the first k -/
def asideUp (db : List Int) (count : Nat) (l : List Pg) (k : Nat) : List Pg := ((List.range' 1 k).filter fun n => decide (count < n) || hasPg l n).map fun (n : Nat) => ⟨(n : Int), pageOf db n⟩
theorem asideUp_next (db : List Int) (count : Nat) (l : List Pg) (k : Nat) : asideUp db count l (k + 1) = asideUp db count l k ++ if (decide (count < k + 1) || hasPg l (k + 1 : Nat)) = true then [⟨((k + 1 : Nat) : Int), pageOf db (k + 1)⟩] else [] := by
  unfold asideUp
  rw [List.range'_concat, List.filter_append, List.map_append]
  congr 1
  simp only [Nat.one_mul, Nat.add_comm 1 k]
  rw [List.filter_cons]
  split
  · rw [List.filter_nil]; rfl
  · rw [List.filter_nil]; rfl
theorem asideUp_len (db : List Int) (count : Nat) (l : List Pg) (k : Nat) : (asideUp db count l k).length ≤ k := by
  unfold asideUp
  rw [List.length_map]
  have := List.length_filter_le (fun n => decide (count < n) || hasPg l n) (List.range' 1 k)
  rw [List.length_range'] at this
  exact this
theorem asideUp_mem {db : List Int} {count : Nat} {l : List Pg} {k : Nat} {x : Pg} (h : x ∈ asideUp db count l k) : ∃ n : Nat, 1 ≤ n ∧ n ≤ k ∧ x = ⟨(n : Int), pageOf db n⟩ := by
  unfold asideUp at h
  obtain ⟨n, hn, rfl⟩ := List.mem_map.1 h
  have := List.mem_range'_1.1 (List.mem_filter.1 hn).1
  exact ⟨n, by omega, by omega, rfl⟩
theorem pageOf_len (db : List Int) (n : Nat) : (pageOf db n).length = 256 := sizedF_len _ _
theorem pageOf_rng {db : List Int} (h : ∀ y ∈ db, 0 ≤ y ∧ y < 256) (n : Nat) : ∀ y ∈ pageOf db n, 0 ≤ y ∧ y < 256 := sizedF_rng (fun y hy => h y (List.mem_of_mem_drop hy)) _
section
variable {S : Nat → Prop} {w : World} {db : Nat} {p : Pl}
def CoRel (wL : World) (Ba Bd db : Nat) (sn : List Int) (count : Nat) (l : List Pg) (old : Nat) (v11 : Value) (wr : World) : Prop :=
  ∃ (k : Nat) (v10 : Value), v11 = .int .i64 ((k : Int) + 1) ∧ k ≤ old ∧ CoT wL Ba Bd db v10 wr ∧ OwnPgs wr wL.heap.size v10 (asideUp sn count l k)
attribute [local go_sem ↓] loadPg storePg allocPg
set_option maxRecDepth 100000 in
set_option maxHeartbeats 1600000 in
theorem commit_q (h : Dq S w w db p) (count : Int) (hc : -9223372036854775808 ≤ count ∧ count ≤ 9223372036854775807) (A : Option Addr) (n cap : Nat) (l : List Pg) (hl : PgsAt w A n l) (hA : Apart S A n) (hok : ∀ x ∈ l, PgOk x) (hnn : n < 1099511627776) (hm : p.sm 400000000) :
    Calls Try.prog 13 #[ptrV db, .int .i64 count, .slice A n cap] w (CmPost S w db p count l) := by
  have H := Lib.hid h
  have HL := Lib.hid hl
  have HA := Lib.hid hA
  have HOK := Lib.hid hok
  have HC := Lib.hid hc
  have HM := Lib.hid hm
  have hjc : p.jcount ≤ 4096 := by
    have h1 : p.len nmDb ≤ 1048576 := by
      unfold Pl.len
      split
      · omega
      · exact h.seen_le nmDb
    unfold Pl.jcount
    omega
  have HJC := Lib.hid hjc
  have hkb : Kp NoB w ((w.alloc (.cells #[.int .i64 count] 3)).alloc (.cells #[.slice A n cap] 22)) := ((Kp.refl _ _).alloc _).alloc _
  have hbc : Blk ((w.alloc (.cells #[.int .i64 count] 3)).alloc (.cells #[.slice A n cap] 22)) w.heap.size 3 #[.int .i64 count] := (Blk.new _ _ _).alloc _
  have hbp : Blk ((w.alloc (.cells #[.int .i64 count] 3)).alloc (.cells #[.slice A n cap] 22)) (w.heap.size + 1) 22 #[.slice A n cap] := Blk.newAt _ _ _ _ (by simp)
  obtain ⟨w1, hw1⟩ : ∃ w1, (w.alloc (.cells #[.int .i64 count] 3)).alloc (.cells #[.slice A n cap] 22) = w1 := ⟨_, rfl⟩
  rw [hw1] at hkb hbc hbp
  have HKB := Lib.hid hkb
  have HBC := Lib.hid hbc
  have HBP := Lib.hid hbp
  clear h hl hA hok hc hm hkb hbc hbp hjc
  unfold ptrV
  rcases hdn : p.down with _ | _
  · have HD := Lib.hid hdn
    have HW0 : Hid (p.wrong = 0) := Lib.hid (by unfold Pl.wrong; rw [hdn]; rfl)
    have HE : Hid (p.jcommit count l = if fitPg p.jcount count l = false then (p, 2) else if p.jhot then (p, 6) else
        if (p.runS (p.jfirst count l)).2 ≠ 0 then ((p.runS (p.jfirst count l)).1, fullE (p.runS (p.jfirst count l)).2) else
        if ((p.runS (p.jfirst count l)).1.runS (secondS count l)).2 = 5 then (if (((p.runS (p.jfirst count l)).1.runS (secondS count l)).1.jrecover).2.2 ≠ 0 then ((((p.runS (p.jfirst count l)).1.runS (secondS count l)).1.jrecover).1, (((p.runS (p.jfirst count l)).1.runS (secondS count l)).1.jrecover).2.2) else ((((p.runS (p.jfirst count l)).1.runS (secondS count l)).1.jrecover).1, 5)) else (p.runS (p.jfirst count l)).1.runS (secondS count l)) := Lib.hid (by unfold Pl.jcommit; rw [hdn]; rfl)
    clear hdn
    go_enter Try.func13, Try.ntmps13
    go_wp2_with fail
    refine (show Calls _ _ #[ptrV db] _ _ from ready_q (H.out.keep HKB.out)).mono ?_
    rintro e w2 ⟨rfl, hk⟩
    rw [HW0.out]
    have HK := Lib.hid hk
    clear hk
    go_wp2_with fail
    refine (show Calls _ _ #[ptrV db] _ _ from count_q ((H.out.keep HKB.out).keep HK.out)).mono ?_
    rintro e w3 ⟨rfl, rfl⟩
    have hk3 : Kp NoB w2 (w2.alloc (.cells #[.int .i64 (p.jcount : Int)] 3)) := (Kp.refl _ _).alloc _
    have hb3 : Blk (w2.alloc (.cells #[.int .i64 (p.jcount : Int)] 3)) w2.heap.size 3 #[.int .i64 (p.jcount : Int)] := Blk.new _ _ _
    have hbc3 := (HBC.out.keep HK.out (fun q => q)).keep hk3 (fun q => q)
    have hbp3 := (HBP.out.keep HK.out (fun q => q)).keep hk3 (fun q => q)
    have cc := hbc3.cell 0
    have cp := hbp3.cell 0
    have co := hb3.cell 0
    have HBC3 := Lib.hid hbc3
    have HBP3 := Lib.hid hbp3
    have HBO3 := Lib.hid hb3
    have HK3 := Lib.hid ((HKB.out.trans HK.out (fun _ _ q => q)).trans hk3 (fun _ _ q => q))
    obtain ⟨J, hJ⟩ : ∃ J, p.jcount = J := ⟨_, rfl⟩
    have HJ := Lib.hid hJ
    rw [hJ] at co cc cp HK3 HJC HBC3 HBP3 HBO3 ⊢
    clear hk3 hb3 hbc3 hbp3
    rw [show (#[Value.int .i64 count] : Array Value)[0]? = some (.int .i64 count) from rfl] at cc
    rw [show (#[Value.slice A n cap] : Array Value)[0]? = some (.slice A n cap) from rfl] at cp
    rw [show (#[Value.int .i64 (J : Int)] : Array Value)[0]? = some (.int .i64 (J : Int)) from rfl] at co
    clear hJ
    have HBoS : Hid (w.heap.size + 1 < w2.heap.size ∧ w.heap.size ≤ w2.heap.size) := Lib.hid (by have h1 := HBP.out.lt; have h2 := HK.out.size; omega)
    go_wp2_with fail
    generalize w2.alloc (.cells #[.int .i64 (J : Int)] 3) = w4 at co cc cp HK3 HBC3 HBP3 HBO3 ⊢
    obtain ⟨Bo, hBo⟩ : ∃ Bo, w2.heap.size = Bo := ⟨_, rfl⟩
    rw [hBo] at co HBO3 HBoS ⊢
    clear hBo
    refine (fit_q w4 J count (by have := HJC.out; omega) HC.out A n cap l (HL.out.keep HK3.out) HOK.out hnn).mono ?_
    rintro e w5 ⟨rfl, hk5⟩
    have HK5 := Lib.hid hk5
    clear hk5
    have HFJ := HJ.out
    rcases hf : fitPg J count l with _ | _
    · have HE2 : Hid (p.jcommit count l = (p, 2)) := Lib.hid (by rw [HE.out, HFJ, hf]; rfl)
      clear hf HFJ
      go_wp2_with fail
      go_ret
      unfold CmPost
      rw [HE2.out]
      exact ⟨rfl, H.out.keep (HK3.out.trans HK5.out (fun _ _ q => q))⟩
    · obtain ⟨hc4, hln, hpo, hri⟩ := fit_facts hf HOK.out
      have HE2 := HE.out
      rw [HFJ, hf, if_neg (by simp)] at HE2
      have HE3 := Lib.hid HE2
      have HC4 := Lib.hid hc4
      have HLN := Lib.hid hln
      have HPO := Lib.hid hpo
      have HRI := Lib.hid hri
      clear hf HFJ HE2 hc4 hln hpo hri
      go_wp2_with fail
      refine (show Calls _ _ #[ptrV db] _ _ from hot_q (H.out.keep (HK3.out.trans HK5.out (fun _ _ q => q)))).mono ?_
      rintro e w6 ⟨rfl, hk6⟩
      have HK6 := Lib.hid (HK5.out.trans hk6 (fun _ _ q => q))
      clear hk6
      rcases hhot : p.jhot with _ | _
      · have HE4 := HE3.out
        rw [hhot, if_neg (by simp)] at HE4
        have HE5 := Lib.hid HE4
        clear HE4 hhot
        go_wp2_with fail
        have hbdL : Blk ((w6.alloc (.cells #[ptrV db] 98)).alloc (.cells #[.slice none 0 0] 22)) w6.heap.size 98 #[ptrV db] := (Blk.new _ _ _).alloc _
        have hbaL : Blk ((w6.alloc (.cells #[ptrV db] 98)).alloc (.cells #[.slice none 0 0] 22)) (w6.heap.size + 1) 22 #[.slice none 0 0] := Blk.newAt _ _ _ _ (by simp)
        have hkL : Kp NoB w6 ((w6.alloc (.cells #[ptrV db] 98)).alloc (.cells #[.slice none 0 0] 22)) := ((Kp.refl _ _).alloc _).alloc _
        have hsL : ((w6.alloc (.cells #[ptrV db] 98)).alloc (.cells #[.slice none 0 0] 22)).heap.size = w6.heap.size + 1 + 1 := by simp
        unfold ptrV at hbdL hbaL hkL hsL
        generalize (w6.alloc (.cells #[.pointer (some ⟨db, 0, none⟩)] 98)).alloc (.cells #[.slice none 0 0] 22) = wL at hbdL hbaL hkL hsL ⊢
        obtain ⟨Bd, hBd⟩ : ∃ Bd, w6.heap.size = Bd := ⟨_, rfl⟩
        rw [hBd] at hbdL hbaL hsL ⊢
        obtain ⟨Ba, hBa⟩ : ∃ Ba, Bd + 1 = Ba := ⟨_, rfl⟩
        rw [hBa] at hbaL hsL ⊢
        have HBAD : Hid (Bd ≠ Ba) := Lib.hid (by omega)
        have hBdL : Bd < wL.heap.size := by omega
        have hBaL : Ba < wL.heap.size := by omega
        have hk4L := HK6.out.trans hkL (fun _ _ q => q)
        have HK4L := Lib.hid hk4L
        have HKL := Lib.hid (HK3.out.trans hk4L (fun _ _ q => q))
        have HBDS : Hid (w.heap.size + 1 < Bo ∧ Bo < Bd ∧ w.heap.size ≤ Bo ∧ Bo < w4.heap.size ∧ Bd + 1 = Ba ∧ w4.heap.size ≤ Bd) := Lib.hid (by
          have h1 := HBoS.out
          have h2 := HBO3.out.lt
          have h3 := HK6.out.size
          omega)
        have HBDL := Lib.hid hbdL
        have HBAL := Lib.hid hbaL
        obtain ⟨sn, hsn⟩ : ∃ sn, p.seen nmDb = sn := ⟨_, rfl⟩
        have HSN := Lib.hid hsn
        have HSNR : Hid (∀ y ∈ sn, 0 ≤ y ∧ y < 256) := Lib.hid (by rw [← hsn]; exact H.out.seen_rng nmDb)
        obtain ⟨j0, hj0, hy0, hy1, hy2⟩ := info_parts infoPgA
        have HJ0 := Lib.hid hj0
        have HY0 := Lib.hid hy0
        have HY1 := Lib.hid hy1
        have HY2 := Lib.hid hy2
        have HSTART : Hid (CoT wL Ba Bd db (.slice none 0 0) wL) := Lib.hid ⟨Kp.refl _ _, hbaL, hbdL⟩
        clear hbdL hbaL hkL hsL hBd hBa hk4L hsn hj0 hy0 hy1 hy2 cc cp co
        go_loopw [11] (fun v wr => CoRel wL Ba Bd db sn count.toNat l J v wr) (fun v _ => J + 1 - (intOf v).toNat)
        case atStart => exact ⟨0, .slice none 0 0, rfl, Nat.zero_le _, HSTART.out, ⟨World.ownsRow_nil _ _ _ _, by simp [asideUp]⟩⟩
        case round =>
          obtain ⟨wq, rfl⟩ : ∃ wq, wq = wr := ⟨_, rfl⟩
          obtain ⟨k, v10, rfl, hk, hct, how⟩ := hrel
          have HCT := Lib.hid hct
          have HOW := Lib.hid how
          have hS0 : ∀ g, w.heap.size ≤ g → ¬ S g := fun g hg q => by have := H.out.lt g q; omega
          have HS0 := Lib.hid hS0
          have hd := (H.out.base1 HKL.out).keepOn hct.kl (hS0 _ (by have h1 := HBDS.out; have h2 := HBAD.out; omega)) HBAL.out (by decide)
          have HDQ := Lib.hid hd
          have k4q : Kp (OnB Ba) w4 wq := (HK4L.out.mono (S' := OnB Ba) (fun _ _ q => q.elim)).trans hct.kl (fun _ _ q => q)
          have K4Q := Lib.hid k4q
          have cc : wq.cell? ⟨w.heap.size, 0, none⟩ = some (.int .i64 count) := by
            rw [k4q.cell HBC3.out.lt (fun q => by have h1 := HBDS.out; have h2 := HBAD.out; have := show w.heap.size = Ba from q; omega)]; exact HBC3.out.cell 0
          have cp : wq.cell? ⟨w.heap.size + 1, 0, none⟩ = some (.slice A n cap) := by
            rw [k4q.cell HBP3.out.lt (fun q => by have h1 := HBDS.out; have h2 := HBAD.out; have := show w.heap.size + 1 = Ba from q; omega)]; exact HBP3.out.cell 0
          have co : wq.cell? ⟨Bo, 0, none⟩ = some (.int .i64 (J : Int)) := by
            rw [k4q.cell HBO3.out.lt (fun q => by have h1 := HBDS.out; have h2 := HBAD.out; have := show Bo = Ba from q; omega)]; exact HBO3.out.cell 0
          by_cases hlt : k < J
          · have hkJ : (k : Int) + 1 ≤ (J : Int) := by omega
            have hkJ2 : ¬ (J : Int) < (k : Int) + 1 := by omega
            have hJ4 : J ≤ 4096 := HJC.out
            have hplq : PgsAt wq A n l := RowsC.keepS (HL.out.keep HK3.out) k4q (fun g o e hn q => by
              have h1 := HL.out.lt e hn
              have h2 := HBDS.out
              have h3 := HBAD.out
              have := show g = Ba from q
              omega)
            have HPLQ := Lib.hid hplq
            have HNXT := Lib.hid (asideUp_next sn count.toNat l k)
            clear hct how hd k4q hplq hS0
            obtain ⟨NN, hNN⟩ : ∃ NN, (k : Int) + 1 = NN := ⟨_, rfl⟩
            have HNN := Lib.hid hNN
            rw [hNN] at hkJ hkJ2 ⊢
            have hNNr : 1 ≤ NN ∧ NN ≤ 4096 := by omega
            clear hNN
            go_wp2_with fail
            refine (bsearch_q wq NN hNNr A n cap l HPLQ.out HPO.out HRI.out hnn).mono ?_
            rintro e w2 ⟨⟨ix, rfl⟩, hk2⟩
            have cc2 : w2.cell? ⟨w.heap.size, 0, none⟩ = some (.int .i64 count) := (hk2.cell (block_lt_of_cell cc) (fun q => q)).trans cc
            have HK2 := Lib.hid hk2
            obtain ⟨A10, cap10, rfl⟩ := own_slice HOW.out.1
            obtain ⟨acc, hacc⟩ : ∃ acc, asideUp sn count.toNat l k = acc := ⟨_, rfl⟩
            rw [hacc] at HOW HNXT HCT
            obtain ⟨na, hna⟩ : ∃ na, acc.length = na := ⟨_, rfl⟩
            have HNA : Hid (na ≤ 4096) := Lib.hid (by rw [← hna, ← hacc]; have := asideUp_len sn count.toNat l k; omega)
            have HNE := Lib.hid hna
            have hown := HOW.out.1
            rw [hna] at hown HCT
            have HOWN := Lib.hid hown
            have HACC := Lib.hid HOW.out.2
            obtain ⟨pg, hpg⟩ : ∃ pg, pageOf sn (k + 1) = pg := ⟨_, rfl⟩
            have HPG := Lib.hid hpg
            have HPGL : Hid (pg.length = 256) := Lib.hid (by rw [← hpg]; exact pageOf_len _ _)
            have HPGOK : Hid (PgOk ⟨NN, pg⟩) := Lib.hid ⟨HPGL.out, by rw [← hpg]; exact pageOf_rng HSNR.out _, by show _ ≤ NN ∧ NN ≤ _; omega⟩
            have HCOF : Hid (asideUp sn count.toNat l (k + 1) = acc ++ [⟨NN, pg⟩] → ∀ w7 v7, CoT wL Ba Bd db (.slice A10 na cap10) w7 → w7.ownsRow wL.heap.size 113 257 v7 (na + 1) (pgsCells acc ++ pgL ⟨NN, pg⟩) → CoRel wL Ba Bd db sn count.toNat l J (.int .i64 (NN + 1)) (w7.setCell ⟨Ba, 0, none⟩ v7)) := Lib.hid (fun hup w7 v7 h7 ho7 => by
              refine ⟨k + 1, v7, by rw [← HNN.out]; rfl, by omega, h7.put_ HBAD.out v7, ?_⟩
              rw [hup]
              refine ⟨?_, ?_⟩
              · have e1 : (acc ++ [(⟨NN, pg⟩ : Pg)]).length = na + 1 := by rw [List.length_append, HNE.out]; rfl
                have e2 : pgsCells (acc ++ [⟨NN, pg⟩]) = pgsCells acc ++ pgL ⟨NN, pg⟩ := by unfold pgsCells; rw [List.flatMap_append]; simp
                rw [e1, e2]
                refine own_keepB ho7 ((Kp.refl (OnB Ba) w7).setCell (p := ⟨Ba, 0, none⟩) (.inr rfl) v7) (fun g hg q => ?_)
                have h1 := own_ge ho7 g hg
                have h2 := show g = Ba from q
                omega
              · intro x hx
                rcases List.mem_append.1 hx with q | q
                · exact HACC.out x q
                · rw [List.mem_singleton.1 q]; exact HPGOK.out)
            have HFND : Hid (hasPg l (k + 1 : Nat) = hasPg l NN) := Lib.hid (by rw [← HNN.out]; rfl)
            have HDN : Hid (count.toNat < k + 1 ↔ count < NN) := Lib.hid (by have h1 := HC4.out; have h2 := HNN.out; omega)
            obtain ⟨fnd, hfnd⟩ : ∃ fnd, hasPg l NN = fnd := ⟨_, rfl⟩
            rw [HFND.out, hfnd] at HNXT
            rw [hfnd]
            have HPQ : Hid (∀ W, Kp NoB wq W → Calls Try.prog 49 #[.agg #[ptrV db], .int .i64 NN] W fun e w' => e = .returned (.agg (bytesV pg)) ∧ Kp NoB W w') := Lib.hid (fun W hW => by
              have h1 := wpage_q (HDQ.out.keep hW) (k + 1) (by omega) (by rw [HJ.out]; omega)
              rw [HSN.out, HPG.out] at h1
              rw [← HNN.out]
              exact h1)
            have hct2 := HCT.out.keep hk2
            have HCT2 := Lib.hid hct2
            have HOWB := Lib.hid (own_keepB hown hk2 (fun _ _ q => q))
            clear hk2 hacc hna hown hpg hfnd hct2
            have hcase : (fnd = true ∨ count < NN) ∨ (fnd = false ∧ ¬ count < NN) := by
              cases fnd
              · by_cases q : count < NN
                · exact .inl (.inr q)
                · exact .inr ⟨rfl, q⟩
              · exact .inl (.inl rfl)
            rcases hcase with hyes | ⟨hno, hno2⟩
            · have hup : asideUp sn count.toNat l (k + 1) = acc ++ [⟨NN, pg⟩] := by
                rw [HNXT.out, if_pos ?_, HPG.out]
                · congr 2
                  rw [← HNN.out]
                  rfl
                · rcases hyes with q | q
                  · rw [q, Bool.or_true]
                  · rw [decide_eq_true (HDN.out.2 q), Bool.true_or]
              have HCOF := Lib.hid (HCOF.out hup)
              clear hup
              rcases fnd with _ | _
              · have hlt2 : count < NN := by rcases hyes with q | q; · cases q
                                             · exact q
                clear hyes
                go_upto_region 16 with fail
                refine wp_region_held_drew (S := fun W' => W'.rangeAt Bd 0 [ptrV db]) (by kernel_rfl) HCT2.out.sp (fun hHeld => ?_)
                have h0 : CoS wL Ba Bd db (.slice A10 na cap10) w2.drew w2.drew := ⟨HCT2.out.keep (Kp.refl NoB w2).drew, Kp.refl _ _⟩
                have hkq : Kp NoB wq w2.drew := HK2.out.drew
                have HOWB := Lib.hid (own_keepB HOWB.out (Kp.refl NoB w2).drew (fun _ _ q => q))
                generalize w2.drew = W0 at h0 hkq HOWB hHeld ⊢
                have hiw : (Try.prog.info? 98).map (·.size) = some ([ptrV db] : List Value).length := infoWr
                have huw := Try.underlying98
                refine tkS (i := 1) (v := (.int .i64 NN)) rfl (Or.inl ⟨by rfl, fun w' hq => by go_simp⟩) h0.sp ?_
                simp only [Act.put, skA, skB, skC]
                refine tkS (i := 2) (v := .agg ([ptrV db]).toArray) rfl (yieldsIf_load_mid (by rfl) _ _ rfl _ _ rfl [ptrV db] _ (fun _ q => q) huw rfl hiw) h0.sp ?_
                simp only [Act.put, skA, skB, skC]
                refine tkS (i := 3) (v := (.int .i64 NN)) rfl (Or.inl ⟨by rfl, fun w' hq => by go_simp⟩) h0.sp ?_
                simp only [Act.put, skA, skB, skC]
                have c10 : W0.cell? ⟨Ba, 0, none⟩ = some (.slice A10 na cap10) := h0.ba.cell 0
                have HPQ0 := HPQ.out W0 hkq
                refine wpAnyH_ready (rs := [0, 4]) (by kernel_rfl) (by simp) ?_
                refine AllReadyH.valR (fun W' => W0 = W') rfl (by rfl) (.slice A10 na cap10) W0 (by go_simp) (fun W' e => by rw [← e]; exact h0.sp) rfl ?_ (AllReadyH.callR (fun x W' => x = .agg (bytesV pg) ∧ CoS wL Ba Bd db (.slice A10 na cap10) W0 W') rfl (by rfl) 49 #[.agg #[ptrV db], .int .i64 NN] (by first | (go_simp; done) | (go_simp; rfl)) (fun _ _ q => q.2.sp) (HPQ0.mono (by rintro e w19 ⟨rfl, hk⟩; exact ⟨_, rfl, rfl, h0.keep hk⟩)) ?_ AllReadyH.nil)
                · rintro _ rfl
                  simp only [Act.put, skA, skB, skC]
                  refine wpAnyH_ready (rs := [4]) (by kernel_rfl) (by simp) ?_
                  refine AllReadyH.callR (fun x W' => x = .agg (bytesV pg) ∧ CoS wL Ba Bd db (.slice A10 na cap10) W0 W') rfl (by rfl) 49 #[.agg #[ptrV db], .int .i64 NN] (by first | (go_simp; done) | (go_simp; rfl)) (fun _ _ q => q.2.sp) (HPQ0.mono (by rintro e w19 ⟨rfl, hk⟩; exact ⟨_, rfl, rfl, h0.keep hk⟩)) ?_ AllReadyH.nil
                  rintro _ W2 ⟨rfl, h2⟩
                  simp only [Act.put, skA, skB, skC]
                  refine tkS (i := 5) (v := .agg (pgA ⟨NN, pg⟩)) rfl (Or.inl ⟨by rfl, fun w' hq => exBuildPg2 w' _ _ _ NN pg HPGL.out _ _ _ _ _ rfl rfl⟩) h2.sp ?_
                  simp only [Act.put, skA, skB, skC]
                  refine wpAnyH_ready (rs := [6]) (by kernel_rfl) (by simp) ?_
                  refine AllReadyH.valR (fun W' => W' = W2.alloc (.cells (pgA ⟨NN, pg⟩) 113)) rfl (by rfl) _ _ (exSlicePg W2 _ _ _ _ _ _ _ _ rfl (pgA_size HPGOK.out)) (fun W' e => by rw [e]; exact (h2.alloc _).sp) rfl ?_ AllReadyH.nil
                  rintro _ rfl
                  simp only [Act.put, skA, skB, skC]
                  refine wpAnyH_ready (rs := [7]) (by kernel_rfl) (by simp) ?_
                  refine AllReadyH.appendB rfl (by rfl) wL.heap.size 113 j0 _ 257 264 Try.underlying22 HJ0.out HY0.out HY1.out HY2.out rfl (by omega) (.slice A10 na cap10) na (pgsCells acc) rfl (own_keepB HOWB.out (h2.kp.alloc _) (fun _ _ q => q)) ⟨W2.heap.size, 0, none⟩ 1 1 (pgL ⟨NN, pg⟩) rfl (pgL_len HPGOK.out) (pg_new W2 _) (pgL_one _) (by have := HNA.out; unfold maxLen; omega) (by have := HNA.out; omega) (by have e1 := h2.kl.size; simp; omega) (fun v' w' hown hgrow hb => (h2.grown hgrow HOWB.out).sp) ?_ AllReadyH.nil
                  intro v7 w7 hown7 hgrow7 hb7
                  simp only [Act.put, skA, skB, skC]
                  have h7 := h2.grown hgrow7 HOWB.out
                  obtain ⟨A7, c7, rfl⟩ := own_slice hown7
                  refine wpAnyH_ready (rs := [8]) (by kernel_rfl) (by simp) ?_
                  refine AllReadyH.skipR rfl (by rfl) (w7.setCell ⟨Ba, 0, none⟩ (.slice A7 (na + 1) c7)) (stSl h7.ba _ rfl rfl) (h7.put_ HBAD.out _).sp ?_ AllReadyH.nil
                  refine wpAnyH_done (by kernel_rfl) ?_ _
                  have HF7 := Lib.hid (HCOF.out w7 (.slice A7 (na + 1) c7) h7 hown7)
                  clear hHeld hown7 hgrow7 hb7 h7 h2
                  go_wp2_with fail
                  exact ⟨HF7.out, by simp [intOf]; omega⟩
                · rintro _ W3 ⟨rfl, h3⟩
                  simp only [Act.put, skA, skB, skC]
                  have c13 : W3.cell? ⟨Ba, 0, none⟩ = some (.slice A10 na cap10) := h3.ba.cell 0
                  refine tkS (i := 5) (v := .agg (pgA ⟨NN, pg⟩)) rfl (Or.inl ⟨by rfl, fun w' hq => exBuildPg2 w' _ _ _ NN pg HPGL.out _ _ _ _ _ rfl rfl⟩) h3.sp ?_
                  simp only [Act.put, skA, skB, skC]
                  refine wpAnyH_ready (rs := [0, 6]) (by kernel_rfl) (by simp) ?_
                  refine AllReadyH.valR (fun W' => W3 = W') rfl (by rfl) (.slice A10 na cap10) W3 (by go_simp) (fun W' e => by rw [← e]; exact h3.sp) rfl ?_ (AllReadyH.valR (fun W' => W' = W3.alloc (.cells (pgA ⟨NN, pg⟩) 113)) rfl (by rfl) _ _ (exSlicePg W3 _ _ _ _ _ _ _ _ rfl (pgA_size HPGOK.out)) (fun W' e => by rw [e]; exact (h3.alloc _).sp) rfl ?_ AllReadyH.nil)
                  · rintro _ rfl
                    simp only [Act.put, skA, skB, skC]
                    refine wpAnyH_ready (rs := [6]) (by kernel_rfl) (by simp) ?_
                    refine AllReadyH.valR (fun W' => W' = W3.alloc (.cells (pgA ⟨NN, pg⟩) 113)) rfl (by rfl) _ _ (exSlicePg W3 _ _ _ _ _ _ _ _ rfl (pgA_size HPGOK.out)) (fun W' e => by rw [e]; exact (h3.alloc _).sp) rfl ?_ AllReadyH.nil
                    rintro _ rfl
                    simp only [Act.put, skA, skB, skC]
                    refine wpAnyH_ready (rs := [7]) (by kernel_rfl) (by simp) ?_
                    refine AllReadyH.appendB rfl (by rfl) wL.heap.size 113 j0 _ 257 264 Try.underlying22 HJ0.out HY0.out HY1.out HY2.out rfl (by omega) (.slice A10 na cap10) na (pgsCells acc) rfl (own_keepB HOWB.out (h3.kp.alloc _) (fun _ _ q => q)) ⟨W3.heap.size, 0, none⟩ 1 1 (pgL ⟨NN, pg⟩) rfl (pgL_len HPGOK.out) (pg_new W3 _) (pgL_one _) (by have := HNA.out; unfold maxLen; omega) (by have := HNA.out; omega) (by have e1 := h3.kl.size; simp; omega) (fun v' w' hown hgrow hb => (h3.grown hgrow HOWB.out).sp) ?_ AllReadyH.nil
                    intro v7 w7 hown7 hgrow7 hb7
                    simp only [Act.put, skA, skB, skC]
                    have h7 := h3.grown hgrow7 HOWB.out
                    obtain ⟨A7, c7, rfl⟩ := own_slice hown7
                    refine wpAnyH_ready (rs := [8]) (by kernel_rfl) (by simp) ?_
                    refine AllReadyH.skipR rfl (by rfl) (w7.setCell ⟨Ba, 0, none⟩ (.slice A7 (na + 1) c7)) (stSl h7.ba _ rfl rfl) (h7.put_ HBAD.out _).sp ?_ AllReadyH.nil
                    refine wpAnyH_done (by kernel_rfl) ?_ _
                    have HF7 := Lib.hid (HCOF.out w7 (.slice A7 (na + 1) c7) h7 hown7)
                    clear hHeld hown7 hgrow7 hb7 h7 h3
                    go_wp2_with fail
                    exact ⟨HF7.out, by simp [intOf]; omega⟩
                  · rintro _ rfl
                    simp only [Act.put, skA, skB, skC]
                    have h4 := h3.alloc (.cells (pgA ⟨NN, pg⟩) 113)
                    have c14 : (W3.alloc (.cells (pgA ⟨NN, pg⟩) 113)).cell? ⟨Ba, 0, none⟩ = some (.slice A10 na cap10) := h4.ba.cell 0
                    refine wpAnyH_ready (rs := [0]) (by kernel_rfl) (by simp) ?_
                    refine AllReadyH.valR (fun W' => W' = W3.alloc (.cells (pgA ⟨NN, pg⟩) 113)) rfl (by rfl) (.slice A10 na cap10) _ (ldSl c14 _ rfl) (fun W' e => by rw [e]; exact h4.sp) rfl ?_ AllReadyH.nil
                    rintro _ rfl
                    simp only [Act.put, skA, skB, skC]
                    clear h4 c14
                    refine wpAnyH_ready (rs := [7]) (by kernel_rfl) (by simp) ?_
                    refine AllReadyH.appendB rfl (by rfl) wL.heap.size 113 j0 _ 257 264 Try.underlying22 HJ0.out HY0.out HY1.out HY2.out rfl (by omega) (.slice A10 na cap10) na (pgsCells acc) rfl (own_keepB HOWB.out (h3.kp.alloc _) (fun _ _ q => q)) ⟨W3.heap.size, 0, none⟩ 1 1 (pgL ⟨NN, pg⟩) rfl (pgL_len HPGOK.out) (pg_new W3 _) (pgL_one _) (by have := HNA.out; unfold maxLen; omega) (by have := HNA.out; omega) (by have e1 := h3.kl.size; simp; omega) (fun v' w' hown hgrow hb => (h3.grown hgrow HOWB.out).sp) ?_ AllReadyH.nil
                    intro v7 w7 hown7 hgrow7 hb7
                    simp only [Act.put, skA, skB, skC]
                    have h7 := h3.grown hgrow7 HOWB.out
                    obtain ⟨A7, c7, rfl⟩ := own_slice hown7
                    refine wpAnyH_ready (rs := [8]) (by kernel_rfl) (by simp) ?_
                    refine AllReadyH.skipR rfl (by rfl) (w7.setCell ⟨Ba, 0, none⟩ (.slice A7 (na + 1) c7)) (stSl h7.ba _ rfl rfl) (h7.put_ HBAD.out _).sp ?_ AllReadyH.nil
                    refine wpAnyH_done (by kernel_rfl) ?_ _
                    have HF7 := Lib.hid (HCOF.out w7 (.slice A7 (na + 1) c7) h7 hown7)
                    clear hHeld hown7 hgrow7 hb7 h7 h3
                    go_wp2_with fail
                    exact ⟨HF7.out, by simp [intOf]; omega⟩
              · clear hyes
                go_upto_region 16 with fail
                refine wp_region_held_drew (S := fun W' => W'.rangeAt Bd 0 [ptrV db]) (by kernel_rfl) HCT2.out.sp (fun hHeld => ?_)
                have h0 : CoS wL Ba Bd db (.slice A10 na cap10) w2.drew w2.drew := ⟨HCT2.out.keep (Kp.refl NoB w2).drew, Kp.refl _ _⟩
                have hkq : Kp NoB wq w2.drew := HK2.out.drew
                have HOWB := Lib.hid (own_keepB HOWB.out (Kp.refl NoB w2).drew (fun _ _ q => q))
                generalize w2.drew = W0 at h0 hkq HOWB hHeld ⊢
                have hiw : (Try.prog.info? 98).map (·.size) = some ([ptrV db] : List Value).length := infoWr
                have huw := Try.underlying98
                refine tkS (i := 1) (v := (.int .i64 NN)) rfl (Or.inl ⟨by rfl, fun w' hq => by go_simp⟩) h0.sp ?_
                simp only [Act.put, skA, skB, skC]
                refine tkS (i := 2) (v := .agg ([ptrV db]).toArray) rfl (yieldsIf_load_mid (by rfl) _ _ rfl _ _ rfl [ptrV db] _ (fun _ q => q) huw rfl hiw) h0.sp ?_
                simp only [Act.put, skA, skB, skC]
                refine tkS (i := 3) (v := (.int .i64 NN)) rfl (Or.inl ⟨by rfl, fun w' hq => by go_simp⟩) h0.sp ?_
                simp only [Act.put, skA, skB, skC]
                have c10 : W0.cell? ⟨Ba, 0, none⟩ = some (.slice A10 na cap10) := h0.ba.cell 0
                have HPQ0 := HPQ.out W0 hkq
                refine wpAnyH_ready (rs := [0, 4]) (by kernel_rfl) (by simp) ?_
                refine AllReadyH.valR (fun W' => W0 = W') rfl (by rfl) (.slice A10 na cap10) W0 (by go_simp) (fun W' e => by rw [← e]; exact h0.sp) rfl ?_ (AllReadyH.callR (fun x W' => x = .agg (bytesV pg) ∧ CoS wL Ba Bd db (.slice A10 na cap10) W0 W') rfl (by rfl) 49 #[.agg #[ptrV db], .int .i64 NN] (by first | (go_simp; done) | (go_simp; rfl)) (fun _ _ q => q.2.sp) (HPQ0.mono (by rintro e w19 ⟨rfl, hk⟩; exact ⟨_, rfl, rfl, h0.keep hk⟩)) ?_ AllReadyH.nil)
                · rintro _ rfl
                  simp only [Act.put, skA, skB, skC]
                  refine wpAnyH_ready (rs := [4]) (by kernel_rfl) (by simp) ?_
                  refine AllReadyH.callR (fun x W' => x = .agg (bytesV pg) ∧ CoS wL Ba Bd db (.slice A10 na cap10) W0 W') rfl (by rfl) 49 #[.agg #[ptrV db], .int .i64 NN] (by first | (go_simp; done) | (go_simp; rfl)) (fun _ _ q => q.2.sp) (HPQ0.mono (by rintro e w19 ⟨rfl, hk⟩; exact ⟨_, rfl, rfl, h0.keep hk⟩)) ?_ AllReadyH.nil
                  rintro _ W2 ⟨rfl, h2⟩
                  simp only [Act.put, skA, skB, skC]
                  refine tkS (i := 5) (v := .agg (pgA ⟨NN, pg⟩)) rfl (Or.inl ⟨by rfl, fun w' hq => exBuildPg2 w' _ _ _ NN pg HPGL.out _ _ _ _ _ rfl rfl⟩) h2.sp ?_
                  simp only [Act.put, skA, skB, skC]
                  refine wpAnyH_ready (rs := [6]) (by kernel_rfl) (by simp) ?_
                  refine AllReadyH.valR (fun W' => W' = W2.alloc (.cells (pgA ⟨NN, pg⟩) 113)) rfl (by rfl) _ _ (exSlicePg W2 _ _ _ _ _ _ _ _ rfl (pgA_size HPGOK.out)) (fun W' e => by rw [e]; exact (h2.alloc _).sp) rfl ?_ AllReadyH.nil
                  rintro _ rfl
                  simp only [Act.put, skA, skB, skC]
                  refine wpAnyH_ready (rs := [7]) (by kernel_rfl) (by simp) ?_
                  refine AllReadyH.appendB rfl (by rfl) wL.heap.size 113 j0 _ 257 264 Try.underlying22 HJ0.out HY0.out HY1.out HY2.out rfl (by omega) (.slice A10 na cap10) na (pgsCells acc) rfl (own_keepB HOWB.out (h2.kp.alloc _) (fun _ _ q => q)) ⟨W2.heap.size, 0, none⟩ 1 1 (pgL ⟨NN, pg⟩) rfl (pgL_len HPGOK.out) (pg_new W2 _) (pgL_one _) (by have := HNA.out; unfold maxLen; omega) (by have := HNA.out; omega) (by have e1 := h2.kl.size; simp; omega) (fun v' w' hown hgrow hb => (h2.grown hgrow HOWB.out).sp) ?_ AllReadyH.nil
                  intro v7 w7 hown7 hgrow7 hb7
                  simp only [Act.put, skA, skB, skC]
                  have h7 := h2.grown hgrow7 HOWB.out
                  obtain ⟨A7, c7, rfl⟩ := own_slice hown7
                  refine wpAnyH_ready (rs := [8]) (by kernel_rfl) (by simp) ?_
                  refine AllReadyH.skipR rfl (by rfl) (w7.setCell ⟨Ba, 0, none⟩ (.slice A7 (na + 1) c7)) (stSl h7.ba _ rfl rfl) (h7.put_ HBAD.out _).sp ?_ AllReadyH.nil
                  refine wpAnyH_done (by kernel_rfl) ?_ _
                  have HF7 := Lib.hid (HCOF.out w7 (.slice A7 (na + 1) c7) h7 hown7)
                  clear hHeld hown7 hgrow7 hb7 h7 h2
                  go_wp2_with fail
                  exact ⟨HF7.out, by simp [intOf]; omega⟩
                · rintro _ W3 ⟨rfl, h3⟩
                  simp only [Act.put, skA, skB, skC]
                  have c13 : W3.cell? ⟨Ba, 0, none⟩ = some (.slice A10 na cap10) := h3.ba.cell 0
                  refine tkS (i := 5) (v := .agg (pgA ⟨NN, pg⟩)) rfl (Or.inl ⟨by rfl, fun w' hq => exBuildPg2 w' _ _ _ NN pg HPGL.out _ _ _ _ _ rfl rfl⟩) h3.sp ?_
                  simp only [Act.put, skA, skB, skC]
                  refine wpAnyH_ready (rs := [0, 6]) (by kernel_rfl) (by simp) ?_
                  refine AllReadyH.valR (fun W' => W3 = W') rfl (by rfl) (.slice A10 na cap10) W3 (by go_simp) (fun W' e => by rw [← e]; exact h3.sp) rfl ?_ (AllReadyH.valR (fun W' => W' = W3.alloc (.cells (pgA ⟨NN, pg⟩) 113)) rfl (by rfl) _ _ (exSlicePg W3 _ _ _ _ _ _ _ _ rfl (pgA_size HPGOK.out)) (fun W' e => by rw [e]; exact (h3.alloc _).sp) rfl ?_ AllReadyH.nil)
                  · rintro _ rfl
                    simp only [Act.put, skA, skB, skC]
                    refine wpAnyH_ready (rs := [6]) (by kernel_rfl) (by simp) ?_
                    refine AllReadyH.valR (fun W' => W' = W3.alloc (.cells (pgA ⟨NN, pg⟩) 113)) rfl (by rfl) _ _ (exSlicePg W3 _ _ _ _ _ _ _ _ rfl (pgA_size HPGOK.out)) (fun W' e => by rw [e]; exact (h3.alloc _).sp) rfl ?_ AllReadyH.nil
                    rintro _ rfl
                    simp only [Act.put, skA, skB, skC]
                    refine wpAnyH_ready (rs := [7]) (by kernel_rfl) (by simp) ?_
                    refine AllReadyH.appendB rfl (by rfl) wL.heap.size 113 j0 _ 257 264 Try.underlying22 HJ0.out HY0.out HY1.out HY2.out rfl (by omega) (.slice A10 na cap10) na (pgsCells acc) rfl (own_keepB HOWB.out (h3.kp.alloc _) (fun _ _ q => q)) ⟨W3.heap.size, 0, none⟩ 1 1 (pgL ⟨NN, pg⟩) rfl (pgL_len HPGOK.out) (pg_new W3 _) (pgL_one _) (by have := HNA.out; unfold maxLen; omega) (by have := HNA.out; omega) (by have e1 := h3.kl.size; simp; omega) (fun v' w' hown hgrow hb => (h3.grown hgrow HOWB.out).sp) ?_ AllReadyH.nil
                    intro v7 w7 hown7 hgrow7 hb7
                    simp only [Act.put, skA, skB, skC]
                    have h7 := h3.grown hgrow7 HOWB.out
                    obtain ⟨A7, c7, rfl⟩ := own_slice hown7
                    refine wpAnyH_ready (rs := [8]) (by kernel_rfl) (by simp) ?_
                    refine AllReadyH.skipR rfl (by rfl) (w7.setCell ⟨Ba, 0, none⟩ (.slice A7 (na + 1) c7)) (stSl h7.ba _ rfl rfl) (h7.put_ HBAD.out _).sp ?_ AllReadyH.nil
                    refine wpAnyH_done (by kernel_rfl) ?_ _
                    have HF7 := Lib.hid (HCOF.out w7 (.slice A7 (na + 1) c7) h7 hown7)
                    clear hHeld hown7 hgrow7 hb7 h7 h3
                    go_wp2_with fail
                    exact ⟨HF7.out, by simp [intOf]; omega⟩
                  · rintro _ rfl
                    simp only [Act.put, skA, skB, skC]
                    have h4 := h3.alloc (.cells (pgA ⟨NN, pg⟩) 113)
                    have c14 : (W3.alloc (.cells (pgA ⟨NN, pg⟩) 113)).cell? ⟨Ba, 0, none⟩ = some (.slice A10 na cap10) := h4.ba.cell 0
                    refine wpAnyH_ready (rs := [0]) (by kernel_rfl) (by simp) ?_
                    refine AllReadyH.valR (fun W' => W' = W3.alloc (.cells (pgA ⟨NN, pg⟩) 113)) rfl (by rfl) (.slice A10 na cap10) _ (ldSl c14 _ rfl) (fun W' e => by rw [e]; exact h4.sp) rfl ?_ AllReadyH.nil
                    rintro _ rfl
                    simp only [Act.put, skA, skB, skC]
                    clear h4 c14
                    refine wpAnyH_ready (rs := [7]) (by kernel_rfl) (by simp) ?_
                    refine AllReadyH.appendB rfl (by rfl) wL.heap.size 113 j0 _ 257 264 Try.underlying22 HJ0.out HY0.out HY1.out HY2.out rfl (by omega) (.slice A10 na cap10) na (pgsCells acc) rfl (own_keepB HOWB.out (h3.kp.alloc _) (fun _ _ q => q)) ⟨W3.heap.size, 0, none⟩ 1 1 (pgL ⟨NN, pg⟩) rfl (pgL_len HPGOK.out) (pg_new W3 _) (pgL_one _) (by have := HNA.out; unfold maxLen; omega) (by have := HNA.out; omega) (by have e1 := h3.kl.size; simp; omega) (fun v' w' hown hgrow hb => (h3.grown hgrow HOWB.out).sp) ?_ AllReadyH.nil
                    intro v7 w7 hown7 hgrow7 hb7
                    simp only [Act.put, skA, skB, skC]
                    have h7 := h3.grown hgrow7 HOWB.out
                    obtain ⟨A7, c7, rfl⟩ := own_slice hown7
                    refine wpAnyH_ready (rs := [8]) (by kernel_rfl) (by simp) ?_
                    refine AllReadyH.skipR rfl (by rfl) (w7.setCell ⟨Ba, 0, none⟩ (.slice A7 (na + 1) c7)) (stSl h7.ba _ rfl rfl) (h7.put_ HBAD.out _).sp ?_ AllReadyH.nil
                    refine wpAnyH_done (by kernel_rfl) ?_ _
                    have HF7 := Lib.hid (HCOF.out w7 (.slice A7 (na + 1) c7) h7 hown7)
                    clear hHeld hown7 hgrow7 hb7 h7 h3
                    go_wp2_with fail
                    exact ⟨HF7.out, by simp [intOf]; omega⟩
            · subst hno
              have hup : asideUp sn count.toNat l (k + 1) = acc := by
                rw [HNXT.out, if_neg ?_, List.append_nil]
                rw [decide_eq_false (fun q => hno2 (HDN.out.1 q))]
                simp
              have HUP := Lib.hid hup
              clear hup
              go_wp2_with fail
              refine ⟨⟨k + 1, .slice A10 na cap10, by rw [← HNN.out]; rfl, by omega, HCT2.out, ?_⟩, by simp [intOf]; omega⟩
              rw [HUP.out]
              exact ⟨by rw [HNE.out]; exact HOWB.out, HACC.out⟩
          · have hkJ : ¬ (k : Int) + 1 ≤ (J : Int) := by omega
            obtain rfl : k = J := by omega
            obtain ⟨A10, cap10, rfl⟩ := own_slice how.1
            obtain ⟨acc, hacc⟩ : ∃ acc, asideUp sn count.toNat l k = acc := ⟨_, rfl⟩
            rw [hacc] at how hct
            obtain ⟨na, hna⟩ : ∃ na, acc.length = na := ⟨_, rfl⟩
            have hna4 : na ≤ 4096 := by rw [← hna, ← hacc]; have := asideUp_len sn count.toNat l k; have := HJC.out; omega
            have hpa := pgs_own (n := na) (by rw [← hna]; exact how) hna
            have hok : PgsOk acc := ⟨how.2, fun x hx => by
              rw [← hacc] at hx
              obtain ⟨m, h1, h2, rfl⟩ := asideUp_mem hx
              have := HJC.out
              show 1 ≤ (m : Int) ∧ (m : Int) ≤ 4096
              omega⟩
            have how1 := how.1
            rw [hna] at how1 hct
            have hAp : Apart S A10 na := fun g o e hn0 => by
              obtain ⟨g', hg, hb, _⟩ := own_at how1 hn0
              rw [e] at hg
              injection hg with hg
              injection hg with hg
              exact hS0 g (by have h1 := HKL.out.size; omega)
            have hB := HBDS.out
            have hjf : p.jfirst count l = firstS p.jhead k acc := by
              unfold Pl.jfirst
              rw [HJ.out, HSN.out, ← hacc]
              rfl
            have hJ4 : k ≤ 4096 := HJC.out
            have hblc : Blk wq w.heap.size 3 #[.int .i64 count] := HBC3.out.keep k4q (fun q => by have := show w.heap.size = Ba from q; omega)
            have hblp : Blk wq (w.heap.size + 1) 22 #[.slice A n cap] := HBP3.out.keep k4q (fun q => by have := show w.heap.size + 1 = Ba from q; omega)
            have hblo : Blk wq Bo 3 #[.int .i64 (k : Int)] := HBO3.out.keep k4q (fun q => by have := show Bo = Ba from q; omega)
            have hplq : PgsAt wq A n l := RowsC.keepS (HL.out.keep HK3.out) k4q (fun g o e hn q => by
              have h1 := HL.out.lt e hn
              have := show g = Ba from q
              omega)
            have hsz : w.heap.size ≤ wq.heap.size := by have h1 := HKL.out.size; have h2 := hct.kl.size; omega
            have hK1 : (fun S w => (Blk w Bd 98 #[ptrV db] ∧ ¬ S Bd) ∧ ((Blk w Ba 22 #[.slice A10 na cap10] ∧ ¬ S Ba) ∧ ((Blk w Bo 3 #[.int .i64 (k : Int)] ∧ ¬ S Bo) ∧ (PgsAt w A10 na acc ∧ Apart S A10 na)))) S wq :=
              ⟨⟨hct.bd, hS0 _ (by omega)⟩, ⟨hct.ba, hS0 _ (by omega)⟩, ⟨hblo, hS0 _ (by omega)⟩, hpa, hAp⟩
            have hK2 : (fun S w' => (Blk w' Bd 98 #[ptrV db] ∧ ¬ S Bd) ∧ ((Blk w' w.heap.size 3 #[.int .i64 count] ∧ ¬ S w.heap.size) ∧ ((Blk w' (w.heap.size + 1) 22 #[.slice A n cap] ∧ ¬ S (w.heap.size + 1)) ∧ (PgsAt w' A n l ∧ Apart S A n)))) S wq :=
              ⟨⟨hct.bd, hS0 _ (by omega)⟩, ⟨hblc, hS0 _ (by omega)⟩, ⟨hblp, hS0 _ (by omega)⟩, hplq, HA.out⟩
            have HK1 := Lib.hid hK1
            have HK2 := Lib.hid hK2
            have HJFE := Lib.hid hjf
            have HOKA := Lib.hid hok
            have HNA := Lib.hid hna4
            have HSZ := Lib.hid hsz
            have HJF : Hid ((p.jfirst count l).length ≤ 5000) := Lib.hid (by
              rw [hjf]
              unfold firstS headS asideS
              simp only [List.length_append, List.length_cons, List.length_nil]
              have := asideW_len acc 0
              omega)
            have HKQ : Hid (Kp NoB w wq) := Lib.hid (HKL.out.trans hct.kl (fun i hi q => by have := show i = Ba from q; omega))
            have hdk := (H.out.base1 HKL.out).keepOn hct.kl (hS0 _ (by omega)) HBAL.out (by decide)
            have HDQ := Lib.hid hdk
            have HSS := Lib.hid hS0
            clear hct how how1 hd k4q hplq hS0 hpa hok hAp hblc hblp hblo hK1 hK2 hdk cc cp hacc hna hjf hB
            go_wp2_with fail
            have HFA := first_all HDQ.out HD.out Bd Ba Bo A10 na cap10 k acc HK1.out HOKA.out HNA.out hJ4 (sm_mono HM.out (by omega))
            rw [← HJFE.out] at HFA
            refine HFA.mono ?_
            clear HFA
            rintro e w7 ⟨rfl, h7⟩
            have HM7 := Lib.hid (sm_run (p.jfirst count l) (k := 300000000) (sm_mono HM.out (by have := HJF.out; omega)))
            obtain ⟨Z1, hZ1⟩ : ∃ Z1, p.runS (p.jfirst count l) = Z1 := ⟨_, rfl⟩
            rw [hZ1] at h7 HM7 HE5 ⊢
            have HZ1 := Lib.hid hZ1
            have h7w := Dq.tr (w0 := w) h7 (HKQ.out.mono (S' := S) (fun _ _ q => q.elim)) (fun _ q => .inl q) H.out.lt
            have H7W := Lib.hid h7w
            by_cases h0 : Z1.2 = 0
            · have hE0 : fullE Z1.2 = 0 := fullE_0.2 h0
              rw [hE0]
              obtain ⟨S2, h8, hS2⟩ := h7.base
              have hK2' := ((kept_blk Bd 98 #[ptrV db]).and ((kept_blk w.heap.size 3 #[.int .i64 count]).and ((kept_blk (w.heap.size + 1) 22 #[.slice A n cap]).and (kept_pgs A n l)))) S S2 wq w7 HK2.out h7.kp hS2
              have H8 := Lib.hid h8
              have HK2S := Lib.hid hK2'
              have HS2 := Lib.hid hS2
              have HE6 : Hid (p.jcommit count l = if (Z1.1.runS (secondS count l)).2 = 5 then (if ((Z1.1.runS (secondS count l)).1.jrecover).2.2 ≠ 0 then (((Z1.1.runS (secondS count l)).1.jrecover).1, ((Z1.1.runS (secondS count l)).1.jrecover).2.2) else (((Z1.1.runS (secondS count l)).1.jrecover).1, 5)) else Z1.1.runS (secondS count l)) := Lib.hid (by rw [HE5.out, if_neg (by omega)])
              have HK7 := Lib.hid h7.kp
              clear h7 h7w h8 hK2' hS2 hZ1 hE0 h0
              go_wp2_with fail
              have HSA := second_all H8.out Bd w.heap.size (w.heap.size + 1) count HC4.out A n cap l HK2S.out HPO.out (by have h1 := HL.out.len; have h2 := HLN.out; omega) (sm_mono HM7.out (by omega))
              refine HSA.mono ?_
              clear HSA
              rintro e w8 ⟨rfl, h9⟩
              have HM9 := Lib.hid (sm_run (secondS count l) (k := 90000000) (sm_mono HM7.out (by have h1 := HLN.out; simp only [secondS, headS, homeS, homeW, List.length_append, List.length_map, List.length_cons, List.length_nil]; omega)))
              obtain ⟨Z2, hZ2⟩ : ∃ Z2, Z1.1.runS (secondS count l) = Z2 := ⟨_, rfl⟩
              rw [hZ2] at h9 HM9 HE6 ⊢
              have h9q := Dq.tr (w0 := wq) h9 HK7.out HS2.out (fun b hb => Nat.lt_of_lt_of_le (H.out.lt b hb) HSZ.out)
              have h9w := Dq.tr (w0 := w) h9q (HKQ.out.mono (S' := S) (fun _ _ q => q.elim)) (fun _ q => .inl q) H.out.lt
              have H9W := Lib.hid h9w
              clear h9 h9q h9w hZ2
              by_cases h5 : Z2.2 = 5
              · have HE7 : Hid (p.jcommit count l = if (Z2.1.jrecover).2.2 ≠ 0 then ((Z2.1.jrecover).1, (Z2.1.jrecover).2.2) else ((Z2.1.jrecover).1, 5)) := Lib.hid (by rw [HE6.out, if_pos h5])
                obtain ⟨S3, h10, hS3⟩ := H9W.out.base
                have H10 := Lib.hid h10
                have HS3 := Lib.hid hS3
                rw [h5]
                clear h10 hS3 h5
                go_wp2_with fail
                refine (show Calls _ _ #[ptrV db] _ _ from recover_q H10.out HM9.out).mono ?_
                rintro e w11 ⟨rfl, h11⟩
                have h11w := Dq.tr (w0 := w) h11 H9W.out.kp HS3.out H.out.lt
                have H11W := Lib.hid h11w
                obtain ⟨R3, hR3⟩ : ∃ R3, Z2.1.jrecover = R3 := ⟨_, rfl⟩
                rw [hR3] at H11W HE7 ⊢
                obtain ⟨r1, r2, r3⟩ := R3
                clear h11 h11w hR3
                by_cases h6 : r3 = 0
                · subst h6
                  have HE8 : Hid (p.jcommit count l = (r1, 5)) := Lib.hid (by rw [HE7.out]; rfl)
                  go_wp2_with fail
                  go_ret
                  unfold CmPost
                  rw [HE8.out]
                  exact ⟨rfl, H11W.out⟩
                · have HE8 : Hid (p.jcommit count l = (r1, r3)) := Lib.hid (by rw [HE7.out, if_pos (show r3 ≠ 0 from h6)])
                  have hb0 : (r3 == 0) = false := by simpa using h6
                  have hb1 : (r3 != 0) = true := by simpa using h6
                  go_wp2_with fail
                  go_ret
                  unfold CmPost
                  rw [HE8.out]
                  exact ⟨rfl, H11W.out⟩
              · have HE7 : Hid (p.jcommit count l = Z2) := Lib.hid (by rw [HE6.out, if_neg h5])
                obtain ⟨z1, z2⟩ := Z2
                have hb0 : (z2 == 5) = false := by simpa using h5
                go_wp2_with fail
                go_ret
                unfold CmPost
                rw [HE7.out]
                exact ⟨rfl, H9W.out⟩
            · have hE0 : ¬ fullE Z1.2 = 0 := fun q => h0 (fullE_0.1 q)
              have HE6 : Hid (p.jcommit count l = (Z1.1, fullE Z1.2)) := Lib.hid (by rw [HE5.out, if_pos (show Z1.2 ≠ 0 from h0)])
              obtain ⟨er, her⟩ : ∃ er, fullE Z1.2 = er := ⟨_, rfl⟩
              rw [her] at hE0 HE6 ⊢
              have hb0 : (er == 0) = false := by simpa using hE0
              have hb1 : (er != 0) = true := by simpa using hE0
              clear h7 h7w hZ1 h0 her
              go_wp2_with fail
              go_ret
              unfold CmPost
              rw [HE6.out]
              exact ⟨rfl, H7W.out⟩
      · have HE4 : Hid (p.jcommit count l = (p, 6)) := Lib.hid (by rw [HE3.out, hhot]; rfl)
        clear hhot
        go_wp2_with fail
        go_ret
        unfold CmPost
        rw [HE4.out]
        exact ⟨rfl, H.out.keep (HK3.out.trans HK6.out (fun _ _ q => q))⟩
  · have HD := Lib.hid hdn
    have HW0 : Hid (p.wrong = 7) := Lib.hid (by unfold Pl.wrong; rw [hdn]; rfl)
    have HE : Hid (p.jcommit count l = (p, 7)) := Lib.hid (by unfold Pl.jcommit; rw [hdn]; rfl)
    clear hdn
    go_enter Try.func13, Try.ntmps13
    go_wp2_with fail
    refine (show Calls _ _ #[ptrV db] _ _ from ready_q (H.out.keep HKB.out)).mono ?_
    rintro e w2 ⟨rfl, hk⟩
    rw [HW0.out]
    have HK := Lib.hid hk
    clear hk
    go_wp2_with fail
    refine (show Calls _ _ #[ptrV db] _ _ from count_q ((H.out.keep HKB.out).keep HK.out)).mono ?_
    rintro e w3 ⟨rfl, rfl⟩
    generalize (p.jcount : Int) = J
    have HK3 := Lib.hid ((HKB.out.trans HK.out (fun _ _ q => q)).alloc (.cells #[.int .i64 J] 3))
    go_wp2_with fail
    go_ret
    unfold CmPost
    rw [HE.out]
    exact ⟨rfl, H.out.keep HK3.out⟩
end
end Go.Proofs.Ytegcbdfilkecpaa
/- The journal: a page told; no condition but on the texts' lengths. -/
namespace Go.Proofs.Ytegcbdfilkecpaa
open Go.RowKit

section
variable {S : Nat → Prop} {W0 w : World} {db : Nat} {p : Pl}
attribute [local go_sem ↓] load26 store26 alloc26 build26
set_option maxRecDepth 100000 in
set_option maxHeartbeats 800000 in
theorem page_q (h : Dq S W0 w db p) (n : Int) (hn : -9223372036854775808 ≤ n ∧ n ≤ 9223372036854775807) :
    Calls Try.prog 11 #[ptrV db, .int .i64 n] w fun e w' => e = .returned (.tuple #[.agg (bytesV (p.jpage n)), .int .i64 (p.jpageE n)]) ∧ Kp NoB w w' := by
  have H := Lib.hid h
  have hb0 : Blk (w.alloc (.cells zero256 24)) w.heap.size 24 zero256 := Blk.new _ _ _
  have hk0 : Kp NoB w (w.alloc (.cells zero256 24)) := (Kp.refl _ _).alloc _
  have HB0 := Lib.hid hb0
  have HK0 := Lib.hid hk0
  clear h hb0 hk0
  unfold ptrV
  rcases hdn : p.down with _ | _
  · have HW0 : Hid (p.wrong = 0) := Lib.hid (by unfold Pl.wrong; rw [hdn]; rfl)
    have HE0 : Hid (p.jpageE n = if n < 1 ∨ (p.jcount : Int) < n then 4 else 0) := Lib.hid (by unfold Pl.jpageE; rw [hdn]; rfl)
    clear hdn
    by_cases h1 : n < 1
    · have HE1 : Hid (p.jpageE n = 4) := Lib.hid (by rw [HE0.out, if_pos (.inl h1)])
      have HP1 : Hid (bytesV (p.jpage n) = zero256) := Lib.hid (by unfold Pl.jpage; rw [HE1.out]; rfl)
      go_enter Try.func11, Try.ntmps11
      go_wp2_with fail
      refine (show Calls _ _ #[ptrV db] _ _ from ready_q (H.out.keep HK0.out)).mono ?_
      rintro e w2 ⟨rfl, hk⟩
      rw [HW0.out]
      have HK := Lib.hid hk
      have hb2 := HB0.out.keep hk (fun q => q)
      have HB2 := Lib.hid hb2
      have t2 : w2.there w.heap.size 0 256 := hb2.thereAll 256 (by rw [zero256_eq, bytesV_size]; rfl)
      have oz : ones zero256 := by rw [zero256_eq]; exact bytesV_one _
      have sz : zero256.size = 256 := by rw [zero256_eq, bytesV_size]; rfl
      have HSZ := Lib.hid sz
      clear hk hb2
      go_wp2_with fail
      refine bodyPost_ret (ret_cell_tmp rfl _ _ _ _ _ _ rfl (HB2.out.whole zero256 rfl) Try.underlying24 rfl (by rw [HSZ.out]; exact info26) _ rfl) rfl ⟨by rw [HE1.out, HP1.out]; rfl, ?_⟩
      exact Kp.setCells (.inl (Nat.le_refl _)) _ _ _ (HK0.out.trans HK.out (fun _ _ q => q))
    · by_cases h2 : (p.jcount : Int) < n
      · have HE1 : Hid (p.jpageE n = 4) := Lib.hid (by rw [HE0.out, if_pos (.inr h2)])
        have HP1 : Hid (bytesV (p.jpage n) = zero256) := Lib.hid (by unfold Pl.jpage; rw [HE1.out]; rfl)
        go_enter Try.func11, Try.ntmps11
        go_wp2_with fail
        refine (show Calls _ _ #[ptrV db] _ _ from ready_q (H.out.keep HK0.out)).mono ?_
        rintro e w2 ⟨rfl, hk⟩
        rw [HW0.out]
        have HK := Lib.hid hk
        have hb2 := HB0.out.keep hk (fun q => q)
        have HB2 := Lib.hid hb2
        have t2 : w2.there w.heap.size 0 256 := hb2.thereAll 256 (by rw [zero256_eq, bytesV_size]; rfl)
        have oz : ones zero256 := by rw [zero256_eq]; exact bytesV_one _
        have sz : zero256.size = 256 := by rw [zero256_eq, bytesV_size]; rfl
        have HSZ := Lib.hid sz
        clear hk hb2
        go_wp2_with fail
        refine (show Calls _ _ #[ptrV db] _ _ from count_q ((H.out.keep HK0.out).keep HK.out)).mono ?_
        rintro e w3 ⟨rfl, rfl⟩
        generalize (p.jcount : Int) = J at h2 ⊢
        go_wp2_with fail
        refine bodyPost_ret (ret_cell_tmp rfl _ _ _ _ _ _ rfl (HB2.out.whole zero256 rfl) Try.underlying24 rfl (by rw [HSZ.out]; exact info26) _ rfl) rfl ⟨by rw [HE1.out, HP1.out]; rfl, ?_⟩
        exact Kp.setCells (.inl (Nat.le_refl _)) _ _ _ (HK0.out.trans HK.out (fun _ _ q => q))
      · have HE1 : Hid (p.jpageE n = 0) := Lib.hid (by rw [HE0.out, if_neg (by omega)])
        obtain ⟨m, hm⟩ : ∃ m : Nat, n = m := ⟨n.toNat, by omega⟩
        have HP1 : Hid (p.jpage n = pageOf (p.seen nmDb) m) := Lib.hid (by unfold Pl.jpage; rw [HE1.out, hm]; rfl)
        have hm1 : 1 ≤ m := by omega
        have hm2 : m ≤ p.jcount := by omega
        have HM1 := Lib.hid hm1
        have HM2 := Lib.hid hm2
        have HMM := Lib.hid hm
        have HPL : Hid ((pageOf (p.seen nmDb) m).length = 256) := Lib.hid (sizedF_len _ _)
        clear hm hm1 hm2
        go_enter Try.func11, Try.ntmps11
        go_wp2_with fail
        refine (show Calls _ _ #[ptrV db] _ _ from ready_q (H.out.keep HK0.out)).mono ?_
        rintro e w2 ⟨rfl, hk⟩
        rw [HW0.out]
        have HK := Lib.hid hk
        clear hk
        go_wp2_with fail
        refine (show Calls _ _ #[ptrV db] _ _ from count_q ((H.out.keep HK0.out).keep HK.out)).mono ?_
        rintro e w3 ⟨rfl, rfl⟩
        obtain ⟨J, hJ⟩ : ∃ J : Int, (p.jcount : Int) = J := ⟨_, rfl⟩
        rw [hJ] at h2 ⊢
        clear hJ
        go_wp2_with fail
        have HPQ := wpage_q ((H.out.keep HK0.out).keep HK.out) m HM1.out HM2.out
        rw [← HMM.out] at HPQ
        refine (show Calls _ _ #[.agg #[ptrV db], .int .i64 n] _ _ from HPQ).mono ?_
        clear HPQ
        rintro e w4 ⟨rfl, hk4⟩
        have hk5 := HK.out.trans hk4 (fun _ _ q => q)
        have HK5 := Lib.hid hk5
        have hb2 := HB0.out.keep hk5 (fun q => q)
        have HB2 := Lib.hid hb2
        have t2 : w4.there w.heap.size 0 256 := hb2.thereAll 256 (by rw [zero256_eq, bytesV_size]; rfl)
        obtain ⟨RR, hRR⟩ : ∃ RR, bytesV (pageOf (p.seen nmDb) m) = RR := ⟨_, rfl⟩
        have o1 := bytesV_one (pageOf (p.seen nmDb) m)
        have s1 : (bytesV (pageOf (p.seen nmDb) m)).size = 256 := by rw [bytesV_size, HPL.out]
        rw [hRR] at o1 s1 ⊢
        have HRR := Lib.hid hRR
        have HS1 := Lib.hid s1
        clear hk4 hk5 hb2 hRR
        go_wp2_with fail
        refine bodyPost_ret (ret_cell_tmp rfl _ _ _ _ _ _ rfl (HB2.out.whole RR (by rw [HS1.out, zero256_eq, bytesV_size]; rfl)) Try.underlying24 rfl (by rw [HS1.out]; exact info26) _ rfl) rfl ⟨by rw [HE1.out, HP1.out, HRR.out]; rfl, ?_⟩
        exact Kp.setCells (.inl (Nat.le_refl _)) _ _ _ (HK0.out.trans HK5.out (fun _ _ q => q))
  · have HW0 : Hid (p.wrong = 7) := Lib.hid (by unfold Pl.wrong; rw [hdn]; rfl)
    have HE1 : Hid (p.jpageE n = 7) := Lib.hid (by unfold Pl.jpageE; rw [hdn]; rfl)
    have HP1 : Hid (bytesV (p.jpage n) = zero256) := Lib.hid (by unfold Pl.jpage; rw [HE1.out]; rfl)
    clear hdn
    go_enter Try.func11, Try.ntmps11
    go_wp2_with fail
    refine (show Calls _ _ #[ptrV db] _ _ from ready_q (H.out.keep HK0.out)).mono ?_
    rintro e w2 ⟨rfl, hk⟩
    rw [HW0.out]
    have HK := Lib.hid hk
    have hb2 := HB0.out.keep hk (fun q => q)
    have HB2 := Lib.hid hb2
    have t2 : w2.there w.heap.size 0 256 := hb2.thereAll 256 (by rw [zero256_eq, bytesV_size]; rfl)
    have oz : ones zero256 := by rw [zero256_eq]; exact bytesV_one _
    have sz : zero256.size = 256 := by rw [zero256_eq, bytesV_size]; rfl
    have HSZ := Lib.hid sz
    clear hk hb2
    go_wp2_with fail
    refine bodyPost_ret (ret_cell_tmp rfl _ _ _ _ _ _ rfl (HB2.out.whole zero256 rfl) Try.underlying24 rfl (by rw [HSZ.out]; exact info26) _ rfl) rfl ⟨by rw [HE1.out, HP1.out]; rfl, ?_⟩
    exact Kp.setCells (.inl (Nat.le_refl _)) _ _ _ (HK0.out.trans HK.out (fun _ _ q => q))
end
end Go.Proofs.Ytegcbdfilkecpaa
/- The journal: the answers that every law asks at its end; no condition. -/
namespace Go.Proofs.Ytegcbdfilkecpaa
open Go.RowKit

attribute [local go_sem ↓] load26 store26 alloc26 build26
def fullL (b : Int) : List Int := List.replicate 256 b
def upF (b : Int) (n : Nat) : List Int := List.replicate n b ++ zeros (256 - n)
theorem upF_set (b : Int) (n : Nat) (hn : n < 256) : (upF b n).set n b = upF b (n + 1) := by
  unfold upF zeros
  rw [List.set_append_right _ _ (by rw [List.length_replicate]; omega), List.length_replicate, Nat.sub_self, show 256 - n = (256 - (n + 1)) + 1 by omega, List.replicate_succ, List.set_cons_zero, List.replicate_succ', List.append_assoc]
  rfl
theorem upF_at (b : Int) (n : Nat) (hn : n < 256) : (upF b n)[n]? = some 0 := by
  unfold upF zeros
  rw [List.getElem?_append_right (by rw [List.length_replicate]; omega), List.length_replicate, Nat.sub_self, show 256 - n = (256 - (n + 1)) + 1 by omega, List.replicate_succ]
  rfl
theorem upF_all (b : Int) : upF b 256 = fullL b := by
  unfold upF zeros fullL
  rw [Nat.sub_self, List.replicate_zero, List.append_nil]
structure FuS (w : World) (b : Int) (n : Nat) (W : World) : Prop where
  kp : Kp NoB w W
  b1 : Blk W w.heap.size 24 zero256
  b2 : Blk W (w.heap.size + 1) 24 (bytesV (upF b n))
set_option maxRecDepth 100000 in
set_option maxHeartbeats 800000 in
theorem full_ok (w : World) (b : Int) : Calls Try.prog 68 #[.int .u8 b] w fun e w' => e = .returned (.agg (bytesV (fullL b))) ∧ Kp NoB w w' := by
  have HST : Hid (FuS w b 0 ((w.alloc (.cells zero256 24)).alloc (.cells zero256 24))) := Lib.hid ⟨((Kp.refl _ _).alloc _).alloc _, (Blk.new _ _ _).alloc _, Blk.newAt _ _ _ _ (by simp)⟩
  go_enter Try.func68, Try.ntmps68
  go_wp2_with fail
  refine forget (p := fun wx => Code.wp _ _ _ _ wx) (FuS w b 0) HST.out ?_
  intro W hW
  have HW := Lib.hid hW
  clear hW HST
  go_loopw [4] (fun v wr => ∃ i : Nat, i ≤ 256 ∧ v = .int .i64 i ∧ FuS w b i wr) (fun v _ => 256 - (intOf v).toNat)
  case atStart => exact ⟨0, by omega, rfl, HW.out⟩
  case round =>
    obtain ⟨i, hi, rfl, hs⟩ := hrel
    have HS := Lib.hid hs
    by_cases hlt : i < 256
    · have hii : (i : Int) < 256 := by omega
      have c2 : wr.cell? ⟨w.heap.size + 1, i, none⟩ = some (.int .u8 0) := by
        rw [hs.b2.cell]
        unfold bytesV
        rw [List.getElem?_toArray, List.getElem?_map, upF_at _ _ hlt]
        rfl
      have z2 : wr.frozen? ⟨w.heap.size + 1, i, none⟩ = false := hs.b2.frozen i
      clear hs
      go_wp2_with fail
      refine ⟨⟨i + 1, by omega, by congr 1, ?_⟩, by simp [intOf]; omega⟩
      have h := HS.out
      refine ⟨h.kp.setCell (p := ⟨w.heap.size + 1, i, none⟩) (.inl (by show _ ≤ w.heap.size + 1; omega)) _, h.b1.far (p := ⟨w.heap.size + 1, i, none⟩) (by simp) _, ?_⟩
      have := h.b2.set_ i (.int .u8 b)
      rwa [bytesV_setJ, upF_set _ _ hlt] at this
    · have hii : ¬ (i : Int) < 256 := by omega
      obtain rfl : i = 256 := by omega
      have b2 := hs.b2
      rw [upF_all] at b2
      have sl : (fullL b).length = 256 := List.length_replicate ..
      have t1 : wr.there (w.heap.size + 1) 0 256 := b2.thereAll 256 (by rw [bytesV_size, sl])
      have r1 : readRow wr (w.heap.size + 1) 0 256 = bytesV (fullL b) := b2.readAll 256 (by rw [bytesV_size, sl])
      have t2 : wr.there w.heap.size 0 256 := hs.b1.thereAll 256 (by rw [zero256_eq, bytesV_size]; rfl)
      have o1 := bytesV_one (fullL b)
      have s1 : (bytesV (fullL b)).size = 256 := by rw [bytesV_size, sl]
      obtain ⟨RR, hRR⟩ : ∃ RR, bytesV (fullL b) = RR := ⟨_, rfl⟩
      rw [hRR] at r1 o1 s1
      have HRR := Lib.hid hRR
      have S1 := Lib.hid s1
      clear hs b2 sl hRR
      go_wp2_with fail
      refine bodyPost_ret (ret_cell1 rfl _ _ _ _ _ _ rfl (HS.out.b1.whole RR (by rw [S1.out, zero256_eq, bytesV_size]; rfl)) Try.underlying24 rfl (by rw [S1.out]; exact info26)) rfl ⟨by rw [HRR.out], ?_⟩
      exact Kp.setCells (.inl (by omega)) _ _ _ HS.out.kp
def aw2L : List Pg := [⟨1, fullL 1⟩, ⟨2, fullL 2⟩]
def aw1L : List Pg := [⟨4, zeros 256⟩]
def awP1 : Pl × Int := (Pl.new 5000).jcommit 2 aw2L
def awP2 : Pl × Int := awP1.1.jcommit 4 aw1L
set_option maxRecDepth 100000 in
theorem jawE : awP1.2 = 0 ∧ awP1.1.jpageE 2 = 0 ∧ awP1.1.jpage 2 = fullL 2 ∧ awP2.2 = 2 ∧ awP2.1.jcount = 2 ∧ awP2.1.jhot = false ∧ (Pl.new 5000).nf = 0 ∧ (Pl.new 5000).pd.length = 0 ∧ decide (awP1.1.nf ≤ 1000) = true ∧ decide (awP1.1.pd.length ≤ 1000) = true := by
  refine ⟨?_, ?_, ?_, ?_, ?_, ?_, ?_, ?_, ?_, ?_⟩ <;> kernel_rfl
theorem slicePg2 (w : World) (a b : Array Value) (ha : a.size = 257) (hb : b.size = 257) : (Instr.buildSlice 22 2 #[(0, .agg a), (1, .agg b)]).run Try.prog w = .ok (.slice (some ⟨w.heap.size, 0, none⟩) 2 2) (w.alloc (.cells (a ++ b) 113)) := by
  obtain ⟨i, hi, h0, h1, h2⟩ := info_parts infoPgA
  have hu := Try.underlying22
  have ca : (Value.agg a).cells = a := rfl
  have cb : (Value.agg b).cells = b := rfl
  have hf : ∀ Z : Array Value, Z.size = 514 → Instr.fill (fun i => some (i * 257, 257)) Z [(0, .agg a), (1, .agg b)] = some (a ++ b) := fun Z hZ => by
    have := Go.Great.fill_whole (s := 257) (by omega) [.agg a, .agg b] Z (by simp [ca, cb, ha, hb]) (by simp [hZ])
    have h := this
    simp only [List.zipIdx_cons, List.zipIdx_nil, List.map_cons, List.map_nil, List.flatMap_cons, List.flatMap_nil, ca, cb, List.append_nil] at h
    rw [show a ++ b = (a.toList ++ b.toList).toArray by simp]
    exact h
  simp [Instr.buildSlice, run_underlying hu, sizeOf, typeInfo, hi, h1, zeroPg, newRow, newObj]
  rw [hf _ (by simp)]
  rfl
theorem exSlicePg2 (w : World) (ev : Operand → Value) (x y : Operand) (a b : Array Value) (ds : Option Tmp) (ty : TypeId) (ps : String) (af : Array Edge) (g : Option (Nat × Bool)) (hx : ev x = .agg a) (hy : ev y = .agg b) (ha : a.size = 257) (hb : b.size = 257) :
    (execOp ev ⟨ds, .buildSlice 22 2 #[(0, x), (1, y)], ty, ps, af, g⟩).run Try.prog w = .ok (.value (.slice (some ⟨w.heap.size, 0, none⟩) 2 2)) (w.alloc (.cells (a ++ b) 113)) := by
  simp only [execOp, List.map_toArray, List.map_cons, List.map_nil, hx, hy, Sem.run_bind, slicePg2 w a b ha hb, Result.andThen_ok]
  rfl
theorem full_rng (b : Int) (hb : 0 ≤ b ∧ b < 256) : ∀ y ∈ fullL b, 0 ≤ y ∧ y < 256 := fun y hy => by
  have := List.eq_of_mem_replicate hy
  omega
theorem pgs_blk {w : World} {g n : Nat} {t : TypeId} {l : List Pg} (h : Blk w g t (pgsCells l).toArray) (hn : l.length = n) (hok : ∀ x ∈ l, PgOk x) : PgsAt w (some ⟨g, 0, none⟩) n l := by
  subst hn
  have hfl : pgsCells l = (l.map pgL).flatten := by unfold pgsCells; rw [List.flatMap_def]
  have hx : ∀ x ∈ l.map pgL, x.length = 257 := fun x hx => by
    obtain ⟨y, hy, rfl⟩ := List.mem_map.1 hx
    exact pgL_len (hok y hy)
  have hlen := flat_len 257 (l.map pgL) hx
  refine ⟨by simp, hx, fun hn => ⟨g, 0, rfl, h.lt, fun k hk j hj => ⟨?_, h.frozen _⟩⟩⟩
  rw [h.cell, List.getElem?_toArray, hfl, Nat.zero_add]
  exact flat_at 257 (l.map pgL) hx k j hj hk
theorem blk_rg8 {w : World} {g : Nat} {t : TypeId} {l : List Int} (h : Blk w g t (bytesV l)) : w.rangeAt g 0 (l.map (Value.int .u8)) :=
  Blk.range (xa := []) (xb := l.map (Value.int .u8)) (xd := []) (by unfold bytesV at h; simpa using h) 0 rfl
theorem eqTrue (w : World) (ev : Operand → Value) (ds : Option Tmp) {x y : Operand} {l : List Int} {yt : TypeId} (ty : TypeId) (ps : String) {af : Array Edge} {g : Option (Nat × Bool)} (hx : ev x = .agg (l.map (Value.int .u8)).toArray) (hy : ev y = .agg (bytesV l)) (hl : l.length = 256) :
    (execOp ev ⟨ds, .binOp .eql 24 x y yt, ty, ps, af, g⟩).run Try.prog w = .ok (.value (.bool true)) w := by
  have := eql26 w ev ds x y yt ty ps af g (by rw [hx]; exact pgOK_bytes l hl) (by rw [hy]; exact pgOK_bytes l hl)
  rw [this, hx, hy]
  have e : (l.map (Value.int .u8)).toArray = bytesV l := rfl
  rw [e, valEq_self]
theorem wpList_val {P : Program} {ops : Array Oper} {rest : List Oper} {ds : Option Tmp} {op : Op} {ty : TypeId} {ps : String} {af : Array Edge} {a : Act} {w w' : World} {Q : Exit → Act → World → Prop} (v : Value) (hr : (execOp a.eval ⟨ds, op, ty, ps, af, none⟩).run P w = .ok (.value v) w')
    (h : wpList P ops Q rest (a.put ds v) w') : wpList P ops Q (⟨ds, op, ty, ps, af, none⟩ :: rest) a w := wpList_plain rfl fun K hK => by
  unfold Oper.wp
  rw [hr, Oper.upon_value]
  exact hK _ _ h
attribute [local go_sem ↓] eql26
set_option maxRecDepth 100000 in
set_option maxHeartbeats 1600000 in
theorem jawake_ok (w : World) : Calls Try.prog 16 #[] w fun e w' => e = .returned (.bool true) ∧ Kp NoB w w' := by
  have E := Lib.hid jawE
  have l1 : (fullL 1).length = 256 := List.length_replicate ..
  have l2 : (fullL 2).length = 256 := List.length_replicate ..
  have s1 : (pgA ⟨1, fullL 1⟩).size = 257 := by unfold pgA pgL; rw [List.size_toArray, List.length_cons, List.length_map, l1]
  have s2 : (pgA ⟨2, fullL 2⟩).size = 257 := by unfold pgA pgL; rw [List.size_toArray, List.length_cons, List.length_map, l2]
  have s4 : (pgA ⟨4, zeros 256⟩).size = 257 := by unfold pgA pgL zeros; rw [List.size_toArray, List.length_cons, List.length_map, List.length_replicate]
  go_enter Try.func16, Try.ntmps16
  go_wp2_with fail
  refine (new_q w 5000 (by omega)).mono ?_
  rintro e w1 ⟨db, rfl, h1⟩
  have H1 := Lib.hid h1
  clear h1
  go_wp2_with fail
  refine (full_ok w1 1).mono ?_
  rintro e w2 ⟨rfl, hk2⟩
  have HK2 := Lib.hid hk2
  clear hk2
  go_wp2_with (show wpList _ _ _ (⟨some 9, _, _, _, _, _⟩ :: _) _ _; refine wpList_val _ (exBuildPg2 _ _ _ _ 1 (fullL 1) l1 _ _ _ _ _ rfl rfl) ?_)
  refine (full_ok w2 2).mono ?_
  rintro e w3 ⟨rfl, hk3⟩
  have HK3 := Lib.hid (HK2.out.trans hk3 (fun _ _ q => q))
  clear hk3
  go_wp2_with (first
    | (show wpList _ _ _ (⟨some 11, _, _, _, _, _⟩ :: _) _ _; refine wpList_val _ (exBuildPg2 _ _ _ _ 2 (fullL 2) l2 _ _ _ _ _ rfl rfl) ?_)
    | (show wpList _ _ _ (⟨some 12, _, _, _, _, _⟩ :: _) _ _; refine wpList_val _ (exSlicePg2 _ _ _ _ (pgA ⟨1, fullL 1⟩) (pgA ⟨2, fullL 2⟩) _ _ _ _ _ rfl rfl s1 s2) ?_))
  have hsm : (Pl.new 5000).sm 400000000 := by unfold Pl.sm; rw [E.out.2.2.2.2.2.2.1, E.out.2.2.2.2.2.2.2.1]; omega
  have hsm1 : awP1.1.sm 400000000 := by
    have h1 := of_decide_eq_true E.out.2.2.2.2.2.2.2.2.1
    have h2 := of_decide_eq_true E.out.2.2.2.2.2.2.2.2.2
    unfold Pl.sm
    omega
  have HSM1 := Lib.hid hsm1
  have hok2 : ∀ x ∈ aw2L, PgOk x := by
    intro x hx
    unfold aw2L at hx
    simp only [List.mem_cons, List.not_mem_nil, or_false] at hx
    rcases hx with rfl | rfl
    · exact ⟨l1, full_rng 1 (by omega), by show _ ≤ (1 : Int) ∧ (1 : Int) ≤ _; omega⟩
    · exact ⟨l2, full_rng 2 (by omega), by show _ ≤ (2 : Int) ∧ (2 : Int) ≤ _; omega⟩
  obtain ⟨S2, hq2, hS2⟩ := (H1.out.keep HK3.out).base
  have hka : Kp NoB w3 (w3.alloc (.cells (pgA ⟨1, fullL 1⟩ ++ pgA ⟨2, fullL 2⟩) 113)) := (Kp.refl _ _).alloc _
  have hpg : PgsAt (w3.alloc (.cells (pgA ⟨1, fullL 1⟩ ++ pgA ⟨2, fullL 2⟩) 113)) (some ⟨w3.heap.size, 0, none⟩) 2 aw2L := pgs_blk (t := 113) (by
    have := Blk.new w3 113 (pgA ⟨1, fullL 1⟩ ++ pgA ⟨2, fullL 2⟩)
    have e : pgA ⟨1, fullL 1⟩ ++ pgA ⟨2, fullL 2⟩ = (pgsCells aw2L).toArray := by
      unfold pgsCells aw2L pgA
      simp
    rwa [e] at this ⊢) rfl hok2
  have hlt2 := hq2.lt
  have hcm := commit_q (hq2.base1 hka) 2 (by omega) (some ⟨w3.heap.size, 0, none⟩) 2 2 aw2L hpg (fun g o e hn q => by injection e with e; injection e with e1 e2; have := hlt2 g q; omega) hok2 (by omega) hsm
  clear hpg
  refine hcm.mono ?_
  clear hcm
  rintro e w5 ⟨rfl, h5⟩
  have h5' : Dq S2 (w3.alloc (.cells (pgA ⟨1, fullL 1⟩ ++ pgA ⟨2, fullL 2⟩) 113)) w5 db awP1.1 := h5
  rw [show ((Pl.new 5000).jcommit 2 aw2L).2 = 0 from E.out.1]
  have h6 := Dq.tr (w0 := w) h5' ((H1.out.keep HK3.out).kp.trans hka (fun _ _ q => q.elim)) hS2 (fun b q => q.elim)
  have H6 := Lib.hid h6
  clear h5 h5' h6 hka hq2 hS2 hlt2 hsm hsm1 hok2
  go_wp2_with fail
  refine (page_q H6.out 2 (by omega)).mono ?_
  rintro e w6 ⟨rfl, hk6⟩
  rw [E.out.2.1, E.out.2.2.1]
  have H7 := Lib.hid (H6.out.keep hk6)
  have hbz := Blk.new w6 24 zero256
  have hbf := hbz.whole (bytesV (fullL 2)) (by rw [zero256_eq, bytesV_size, bytesV_size, l2]; rfl)
  have tz := hbz.thereAll 256 (by rw [zero256_eq, bytesV_size]; rfl)
  have of2 := bytesV_one (fullL 2)
  have sf2 : (bytesV (fullL 2)).size = 256 := by rw [bytesV_size, l2]
  have hk7 : Kp NoB w6 ((w6.alloc (.cells zero256 24)).setCells w6.heap.size 0 (bytesV (fullL 2)).toList) := Kp.setCells (.inl (Nat.le_refl _)) _ _ _ ((Kp.refl _ _).alloc _)
  have HBF := Lib.hid hbf
  have HK7 := Lib.hid hk7
  clear hk6 hbz hbf hk7
  go_upto_region 4 with fail
  obtain ⟨Bg, hBg⟩ : ∃ Bg, w6.heap.size = Bg := ⟨_, rfl⟩
  generalize (w6.alloc (.cells zero256 24)).setCells w6.heap.size 0 (bytesV (fullL 2)).toList = w7 at HBF HK7 ⊢
  rw [hBg] at HBF ⊢
  have hBg7 : Hid (w6.heap.size = Bg) := Lib.hid hBg
  clear hBg tz
  go_wp2_with (first
    | (show wpList _ _ _ (⟨some 20, _, _, _, _, _⟩ :: _) _ _; refine wpList_val _ (exBuildPg1 _ _ _ 4 _ _ _ _ _ rfl) ?_)
    | (show wpList _ _ _ (⟨some 21, _, _, _, _, _⟩ :: _) _ _; refine wpList_val _ (exSlicePg _ _ _ (pgA ⟨4, zeros 256⟩) _ _ _ _ _ rfl s4) ?_))
  have hok1 : ∀ x ∈ aw1L, PgOk x := by
    intro x hx
    unfold aw1L at hx
    simp only [List.mem_cons, List.not_mem_nil, or_false] at hx
    subst hx
    exact ⟨List.length_replicate .., zeros_rng 256, by show _ ≤ (4 : Int) ∧ (4 : Int) ≤ _; omega⟩
  obtain ⟨S3, hq3, hS3⟩ := H7.out.base
  have hka : Kp NoB w7 (w7.alloc (.cells (pgA ⟨4, zeros 256⟩) 113)) := (Kp.refl _ _).alloc _
  have hpg : PgsAt (w7.alloc (.cells (pgA ⟨4, zeros 256⟩) 113)) (some ⟨w7.heap.size, 0, none⟩) 1 aw1L := pgs_blk (t := 113) (by
    have := Blk.new w7 113 (pgA ⟨4, zeros 256⟩)
    have e : pgA ⟨4, zeros 256⟩ = (pgsCells aw1L).toArray := by
      unfold pgsCells aw1L pgA
      simp
    rwa [e] at this ⊢) rfl hok1
  have hlt3 := hq3.lt
  have hnBg : Hid (Bg < w7.heap.size ∧ ¬ S3 Bg) := Lib.hid ⟨HBF.out.lt, fun q => by
    have h1 := hlt3 Bg q
    have h2 := hBg7.out
    omega⟩
  have hcm := commit_q (hq3.base1 (HK7.out.trans hka (fun _ _ q => q))) 4 (by omega) (some ⟨w7.heap.size, 0, none⟩) 1 1 aw1L hpg (fun g o e hn q => by injection e with e; injection e with e1 e2; have h1 := hlt3 g q; have h2 := HK7.out.size; omega) hok1 (by omega) HSM1.out
  clear hpg
  refine hcm.mono ?_
  clear hcm
  rintro e w8 ⟨rfl, h8⟩
  have h8' : Dq S3 (w7.alloc (.cells (pgA ⟨4, zeros 256⟩) 113)) w8 db awP2.1 := h8
  rw [show (awP1.1.jcommit 4 aw1L).2 = 2 from E.out.2.2.2.1]
  have hbf8 := (HBF.out.keep hka (fun q => q)).keep h8'.kp hnBg.out.2
  have h9 := Dq.tr (w0 := w) h8' ((H7.out.keep HK7.out).kp.trans hka (fun _ _ q => q.elim)) hS3 (fun b q => q.elim)
  have H9 := Lib.hid h9
  have HB8 := Lib.hid hbf8
  clear h8 h8' h9 hka hq3 hS3 hlt3 hok1 hbf8
  go_wp2_with fail
  have HPX : Hid (Kp NoB w w8) := Lib.hid H9.out.kp
  refine wp_region_held_drew (S := fun W' => W'.rangeAt Bg 0 ((fullL 2).map (Value.int .u8))) (by kernel_rfl) (blk_rg8 HB8.out) (fun hHeld => ?_)
  have h0 : Blk w8.drew Bg 24 (bytesV (fullL 2)) := HB8.out
  have hk0 : Kp NoB w8 w8.drew := (Kp.refl NoB w8).drew
  have hi1 : (Try.prog.info? 24).map (·.size) = some ((fullL 2).map (Value.int .u8)).length := by rw [List.length_map, l2]; exact info26
  have hu := Try.underlying24
  generalize w8.drew = W0 at h0 hk0 hHeld ⊢
  refine tkS (i := 0) (v := (.int .i64 0)) rfl (Or.inl ⟨by rfl, fun w' hq => by go_simp⟩) (blk_rg8 h0) ?_
  simp only [Act.put, skA, skB, skC]
  refine tkS (i := 1) (v := (.bool true)) rfl (Or.inl ⟨by rfl, fun w' hq => by go_simp⟩) (blk_rg8 h0) ?_
  simp only [Act.put, skA, skB, skC]
  refine tkS (i := 2) (v := (.bool true)) rfl (Or.inl ⟨by rfl, fun w' hq => by go_simp⟩) (blk_rg8 h0) ?_
  simp only [Act.put, skA, skB, skC]
  refine tkS (i := 3) (v := (.int .i64 0)) rfl (Or.inl ⟨by rfl, fun w' hq => by go_simp⟩) (blk_rg8 h0) ?_
  simp only [Act.put, skA, skB, skC]
  refine tkS (i := 4) (v := (.bool true)) rfl (Or.inl ⟨by rfl, fun w' hq => by go_simp⟩) (blk_rg8 h0) ?_
  simp only [Act.put, skA, skB, skC]
  refine tkS (i := 5) (v := (.bool true)) rfl (Or.inl ⟨by rfl, fun w' hq => by go_simp⟩) (blk_rg8 h0) ?_
  simp only [Act.put, skA, skB, skC]
  refine tkS (i := 6) (v := (.bool true)) rfl (Or.inl ⟨by rfl, fun w' hq => by go_simp⟩) (blk_rg8 h0) ?_
  simp only [Act.put, skA, skB, skC]
  refine tkS (i := 7) (v := .agg (((fullL 2).map (Value.int .u8))).toArray) rfl (yieldsIf_load_mid (by rfl) _ _ rfl _ _ rfl ((fullL 2).map (Value.int .u8)) _ (fun _ q => q) hu rfl hi1) (blk_rg8 h0) ?_
  simp only [Act.put, skA, skB, skC]
  refine wpAnyH_ready (rs := [8]) (by kernel_rfl) (by simp) ?_
  refine AllReadyH.callR (fun x W' => x = .agg (bytesV (fullL 2)) ∧ Blk W' Bg 24 (bytesV (fullL 2)) ∧ Kp NoB w8 W') rfl (by rfl) 68 #[.int .u8 2] (by first | (go_simp; done) | (go_simp; rfl)) (fun _ _ q => (blk_rg8 q.2.1)) ((full_ok W0 2).mono (by rintro e w19 ⟨rfl, hk⟩; exact ⟨_, rfl, rfl, h0.keep hk (fun q => q), hk0.trans hk (fun _ _ q => q)⟩)) ?_ AllReadyH.nil
  rintro _ W1 ⟨rfl, h1, hk1⟩
  simp only [Act.put, skA, skB, skC]
  refine tkS (i := 9) (v := .bool true) rfl (Or.inl ⟨by rfl, fun w' hq => eqTrue w' _ _ _ _ rfl rfl l2⟩) (blk_rg8 h1) ?_
  simp only [Act.put, skA, skB, skC]
  refine tkS (i := 10) (v := (.bool true)) rfl (Or.inl ⟨by rfl, fun w' hq => by go_simp⟩) (blk_rg8 h1) ?_
  simp only [Act.put, skA, skB, skC]
  refine tkS (i := 11) (v := (.bool true)) rfl (Or.inl ⟨by rfl, fun w' hq => by go_simp⟩) (blk_rg8 h1) ?_
  simp only [Act.put, skA, skB, skC]
  refine tkS (i := 12) (v := (.int .i64 2)) rfl (Or.inl ⟨by rfl, fun w' hq => by go_simp⟩) (blk_rg8 h1) ?_
  simp only [Act.put, skA, skB, skC]
  refine tkS (i := 13) (v := (.bool true)) rfl (Or.inl ⟨by rfl, fun w' hq => by go_simp⟩) (blk_rg8 h1) ?_
  simp only [Act.put, skA, skB, skC]
  refine tkS (i := 14) (v := (.bool true)) rfl (Or.inl ⟨by rfl, fun w' hq => by go_simp⟩) (blk_rg8 h1) ?_
  simp only [Act.put, skA, skB, skC]
  refine tkS (i := 15) (v := (.bool true)) rfl (Or.inl ⟨by rfl, fun w' hq => by go_simp⟩) (blk_rg8 h1) ?_
  simp only [Act.put, skA, skB, skC]
  refine tkS (i := 16) (v := (ptrV db)) rfl (Or.inl ⟨by rfl, fun w' hq => by go_simp⟩) (blk_rg8 h1) ?_
  simp only [Act.put, skA, skB, skC]
  refine wpAnyH_ready (rs := [17]) (by kernel_rfl) (by simp) ?_
  refine AllReadyH.callR (fun x W' => x = .int .i64 2 ∧ Blk W' Bg 24 (bytesV (fullL 2)) ∧ Kp NoB w8 W') rfl (by rfl) 14 #[ptrV db] (by first | (go_simp; done) | (go_simp; rfl)) (fun _ _ q => (blk_rg8 q.2.1)) ((count_q (H9.out.keep hk1)).mono (by rintro e w19 ⟨rfl, rfl⟩; exact ⟨_, rfl, by rw [E.out.2.2.2.2.1]; rfl, h1, hk1⟩)) ?_ AllReadyH.nil
  rintro _ W2 ⟨rfl, h2, hk2⟩
  simp only [Act.put, skA, skB, skC]
  refine tkS (i := 18) (v := (.bool true)) rfl (Or.inl ⟨by rfl, fun w' hq => by go_simp⟩) (blk_rg8 h2) ?_
  simp only [Act.put, skA, skB, skC]
  refine tkS (i := 19) (v := (.bool true)) rfl (Or.inl ⟨by rfl, fun w' hq => by go_simp⟩) (blk_rg8 h2) ?_
  simp only [Act.put, skA, skB, skC]
  refine tkS (i := 20) (v := (.bool true)) rfl (Or.inl ⟨by rfl, fun w' hq => by go_simp⟩) (blk_rg8 h2) ?_
  simp only [Act.put, skA, skB, skC]
  refine tkS (i := 21) (v := (ptrV db)) rfl (Or.inl ⟨by rfl, fun w' hq => by go_simp⟩) (blk_rg8 h2) ?_
  simp only [Act.put, skA, skB, skC]
  refine wpAnyH_ready (rs := [22]) (by kernel_rfl) (by simp) ?_
  refine AllReadyH.callR (fun x W' => x = .bool false ∧ Blk W' Bg 24 (bytesV (fullL 2)) ∧ Kp NoB w8 W') rfl (by rfl) 15 #[ptrV db] (by first | (go_simp; done) | (go_simp; rfl)) (fun _ _ q => (blk_rg8 q.2.1)) ((hot_q (H9.out.keep hk2)).mono (by rintro e w19 ⟨rfl, hk⟩; exact ⟨_, rfl, by rw [E.out.2.2.2.2.2.1], h2.keep hk (fun q => q), hk2.trans hk (fun _ _ q => q)⟩)) ?_ AllReadyH.nil
  rintro _ W3 ⟨rfl, h3, hk3⟩
  simp only [Act.put, skA, skB, skC]
  refine tkS (i := 23) (v := (.bool true)) rfl (Or.inl ⟨by rfl, fun w' hq => by go_simp⟩) (blk_rg8 h3) ?_
  simp only [Act.put, skA, skB, skC]
  refine tkS (i := 24) (v := (.bool true)) rfl (Or.inl ⟨by rfl, fun w' hq => by go_simp⟩) (blk_rg8 h3) ?_
  simp only [Act.put, skA, skB, skC]
  refine tkS (i := 25) (v := (.bool true)) rfl (Or.inl ⟨by rfl, fun w' hq => by go_simp⟩) (blk_rg8 h3) ?_
  simp only [Act.put, skA, skB, skC]
  refine wpAnyH_done (by kernel_rfl) ?_ _
  have HK9 := Lib.hid (HPX.out.trans hk3 (fun _ _ q => q))
  clear hHeld h0 h1 h2 h3 hk0 hk1 hk2 hk3 hi1 hu
  go_wp2_with fail
  go_ret
  exact ⟨rfl, HK9.out⟩
end Go.Proofs.Ytegcbdfilkecpaa
