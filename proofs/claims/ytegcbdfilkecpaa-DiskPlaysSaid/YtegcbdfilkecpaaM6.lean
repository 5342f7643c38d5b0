/- Texts of this proof, one behind the other: lemmas and contracts; each says its own conditions. -/
import Derived.Test.YtegcbdfilkecpaaM4
import Derived.Test.YtegcbdfilkecpaaM5
/- The reference's disk: change; condition: fewer than 2^40 changes. -/
namespace Go.Proofs.Ytegcbdfilkecpaa
open Go.RowKit

set_option maxRecDepth 100000 in
set_option maxHeartbeats 1600000 in
theorem change_raw (w : World) (fA : Option Addr) (fn fc : Nat) (b0 b1 : Bool) (A : Option Addr) (n c : Nat) (x4 x5 x6 x7 : Int) (cs : List Cg) (x : Cg) (hF : Rows w A n 4 (cs.map rcCells)) (hA : A = none → n = 0 ∧ c = 0) (hn : n < 1099511627776) :
    Calls Try.prog 138 #[.agg #[.bool b0, .bool b1, .slice fA fn fc, .slice A n c, .int .i64 x4, .int .i64 x5, .int .i64 x6, .int .i64 x7], .agg #[.string x.nm, .int .i64 x.sec, .int .i64 x.n, .string (strOf x.s)]] w fun e w' =>
      ∃ A' c', e = .returned (.agg #[.bool b0, .bool b1, .slice fA fn fc, .slice A' (n + 1) c', .int .i64 x4, .int .i64 x5, .int .i64 x6, .int .i64 x7]) ∧ Rows w' A' (n + 1) 4 ((cs ++ [x]).map rcCells) ∧ A' ≠ none ∧ Kp NoB w w' := by
  have HF := Lib.hid hF
  have HA := Lib.hid hA
  have HN := Lib.hid hn
  have HFL : Hid (cs.length = n) := Lib.hid (by have := hF.1; simpa using this)
  obtain ⟨j0, hj0, hj1⟩ := Option.map_eq_some_iff.1 infoRch
  simp only [Prod.mk.injEq] at hj1
  have HJ0 := Lib.hid hj0
  have HY0 := Lib.hid hj1.1
  have HY1 := Lib.hid hj1.2.1
  have HY2 := Lib.hid hj1.2.2
  clear hF hA hn hj0 hj1
  go_enter Try.func138, Try.ntmps138
  go_upto_region 1 with fail
  have hB0 : Blk (((w.alloc (.cells #[.bool b0, .bool b1, .slice fA fn fc, .slice A n c, .int .i64 x4, .int .i64 x5, .int .i64 x6, .int .i64 x7] 56)).alloc (.cells #[.string x.nm, .int .i64 x.sec, .int .i64 x.n, .string (strOf x.s)] 192)).alloc (.cells #[.bool false, .bool false, .slice none 0 0, .slice none 0 0, .int .i64 0, .int .i64 0, .int .i64 0, .int .i64 0] 56)) w.heap.size 56 #[.bool b0, .bool b1, .slice fA fn fc, .slice A n c, .int .i64 x4, .int .i64 x5, .int .i64 x6, .int .i64 x7] := ((Blk.new w _ _).alloc _).alloc _
  have hB1 : Blk (((w.alloc (.cells #[.bool b0, .bool b1, .slice fA fn fc, .slice A n c, .int .i64 x4, .int .i64 x5, .int .i64 x6, .int .i64 x7] 56)).alloc (.cells #[.string x.nm, .int .i64 x.sec, .int .i64 x.n, .string (strOf x.s)] 192)).alloc (.cells #[.bool false, .bool false, .slice none 0 0, .slice none 0 0, .int .i64 0, .int .i64 0, .int .i64 0, .int .i64 0] 56)) (w.heap.size + 1) 192 #[.string x.nm, .int .i64 x.sec, .int .i64 x.n, .string (strOf x.s)] := (Blk.top (by simp)).alloc _
  have hB2 : Blk (((w.alloc (.cells #[.bool b0, .bool b1, .slice fA fn fc, .slice A n c, .int .i64 x4, .int .i64 x5, .int .i64 x6, .int .i64 x7] 56)).alloc (.cells #[.string x.nm, .int .i64 x.sec, .int .i64 x.n, .string (strOf x.s)] 192)).alloc (.cells #[.bool false, .bool false, .slice none 0 0, .slice none 0 0, .int .i64 0, .int .i64 0, .int .i64 0, .int .i64 0] 56)) (w.heap.size + 1 + 1) 56 #[.bool false, .bool false, .slice none 0 0, .slice none 0 0, .int .i64 0, .int .i64 0, .int .i64 0, .int .i64 0] := Blk.top (by simp)
  have hKW : Kp NoB w (((w.alloc (.cells #[.bool b0, .bool b1, .slice fA fn fc, .slice A n c, .int .i64 x4, .int .i64 x5, .int .i64 x6, .int .i64 x7] 56)).alloc (.cells #[.string x.nm, .int .i64 x.sec, .int .i64 x.n, .string (strOf x.s)] 192)).alloc (.cells #[.bool false, .bool false, .slice none 0 0, .slice none 0 0, .int .i64 0, .int .i64 0, .int .i64 0, .int .i64 0] 56)) := (((Kp.refl NoB w).alloc _).alloc _).alloc _
  have hsz : (((w.alloc (.cells #[.bool b0, .bool b1, .slice fA fn fc, .slice A n c, .int .i64 x4, .int .i64 x5, .int .i64 x6, .int .i64 x7] 56)).alloc (.cells #[.string x.nm, .int .i64 x.sec, .int .i64 x.n, .string (strOf x.s)] 192)).alloc (.cells #[.bool false, .bool false, .slice none 0 0, .slice none 0 0, .int .i64 0, .int .i64 0, .int .i64 0, .int .i64 0] 56)).heap.size = w.heap.size + 1 + 1 + 1 := by simp
  generalize ((w.alloc (.cells #[.bool b0, .bool b1, .slice fA fn fc, .slice A n c, .int .i64 x4, .int .i64 x5, .int .i64 x6, .int .i64 x7] 56)).alloc (.cells #[.string x.nm, .int .i64 x.sec, .int .i64 x.n, .string (strOf x.s)] 192)).alloc (.cells #[.bool false, .bool false, .slice none 0 0, .slice none 0 0, .int .i64 0, .int .i64 0, .int .i64 0, .int .i64 0] 56) = W at hB0 hB1 hB2 hKW hsz ⊢
  generalize hs0 : w.heap.size = s0 at hB0 hB1 hB2 hsz ⊢
  have HS0 := Lib.hid hs0
  clear hs0
  have HB0 := Lib.hid hB0
  have HB1 := Lib.hid hB1
  have HB2 := Lib.hid hB2
  have HKW := Lib.hid hKW
  have HSZ := Lib.hid hsz
  clear hB0 hB1 hB2 hKW hsz
  have HSP : Hid (∀ V, Kp NoB W V → V.rangeAt (s0 + 1) 0 [.string x.nm, .int .i64 x.sec, .int .i64 x.n, .string (strOf x.s)]) := Lib.hid (fun V k => (HB1.out.keep k (fun q => q)).sp)
  have HSN : Hid (∀ V, Kp NoB W V → 0 < n → ∃ g o, A = some ⟨g, o, none⟩ ∧ ∀ j u, (cs.map rcCells).flatten[j]? = some u → V.cell? ⟨g, o + j, none⟩ = some u) := Lib.hid (fun V k hn => ((HF.out.keep HKW.out).keep k).src hn (by omega))
  have HFLAT : Hid ((cs.map rcCells).flatten.length = n * 4) := Lib.hid (by rw [flat_len 4 _ (rc_len cs), List.length_map, HFL.out])
  apply wp_into4 (G := fun V g h u v => ∃ V0, V = V0.setCell ⟨s0, 3, none⟩ v ∧ V0.ownsRow W.heap.size 192 4 v (n + 1) ((cs.map rcCells).flatten ++ rcCells x) ∧ Kp NoB W V0)
  · refine wp_region_held_drew (S := fun W' => W'.rangeAt (s0 + 1) 0 [.string x.nm, .int .i64 x.sec, .int .i64 x.n, .string (strOf x.s)]) (by kernel_rfl) (HSP.out _ (Kp.refl NoB W).drew) (fun hHeld => ?_)
    have hiw : (Try.prog.info? 192).map (·.size) = some ([.string x.nm, .int .i64 x.sec, .int .i64 x.n, .string (strOf x.s)] : List Value).length := infoRch4
    have huw := Try.underlying192
    have k0 : Kp NoB W W.drew := (Kp.refl NoB W).drew
    generalize W.drew = V0 at k0 hHeld ⊢
    refine tkS (i := 1) (v := (.pointer (some ⟨s0, 3, none⟩))) rfl (Or.inl ⟨by rfl, fun w' hq => by go_simp⟩) (HSP.out _ k0) ?_
    simp only [Act.put, skA, skB, skC]
    refine tkS (i := 4) (v := .agg ([.string x.nm, .int .i64 x.sec, .int .i64 x.n, .string (strOf x.s)]).toArray) rfl (yieldsIf_load_mid (by rfl) _ _ rfl _ _ rfl [.string x.nm, .int .i64 x.sec, .int .i64 x.n, .string (strOf x.s)] _ (fun _ q => q) huw rfl hiw) (HSP.out _ k0) ?_
    simp only [Act.put, skA, skB, skC]
    refine wpAnyH_ready (rs := [0, 2, 5]) (by kernel_rfl) (by simp) ?_
    refine AllReadyH.valR (fun W' => W' = (V0.alloc (.cells #[] 192))) rfl (by rfl) (.slice (some ⟨V0.heap.size, 0, none⟩) 0 0) _ (by go_simp) (fun W' e => by rw [e]; exact HSP.out _ (k0.alloc _)) rfl ?_ ?_
    · rintro _ rfl
      simp only [Act.put, skA, skB, skC]
      have k1 := k0.alloc (.cells #[] 192)
      have ow1 : (V0.alloc (.cells #[] 192)).ownsRow W.heap.size 192 4 (.slice (some ⟨V0.heap.size, 0, none⟩) 0 0) 0 [] := ⟨rfl, .inr ⟨V0.heap.size, 0, #[], rfl, k0.size, heap_alloc_new _ _, Nat.le_refl _, by simp, rfl, rfl⟩⟩
      refine wpAnyH_ready (rs := [2, 5]) (by kernel_rfl) (by simp) ?_
      refine AllReadyH.valR (fun W' => (V0.alloc (.cells #[] 192)) = W') rfl (by rfl) (.slice A n c) _ (by have := (HB0.out.keep k1 (fun q => q)).cell 3; go_simp) (fun W' e => by rw [← e]; exact HSP.out _ k1) rfl ?_ ?_
      · rintro _ rfl
        simp only [Act.put, skA, skB, skC]
        refine wpAnyH_ready (rs := [3, 5]) (by kernel_rfl) (by simp) ?_
        refine AllReadyH.appendN rfl (by rfl) W.heap.size 192 j0 _ 4 48 Try.underlying54 HJ0.out HY0.out HY1.out HY2.out rfl (by omega) (.slice (some ⟨V0.heap.size, 0, none⟩) 0 0) 0 [] rfl ow1 A n c (cs.map rcCells).flatten rfl HA.out HFLAT.out (HSN.out _ k1) (rc_one cs) (by have := HN.out; unfold maxLen; omega) (by have := HN.out; omega) k1.size (fun v' w' q1 q2 => HSP.out _ (k1.own q2 rfl ow1)) ?_ ?_
        · intro v3 w3 ow3 gr3
          simp only [Act.put, skA, skB, skC]
          have k3 := k1.own gr3 rfl ow1
          refine wpAnyH_ready (rs := [5]) (by kernel_rfl) (by simp) ?_
          refine AllReadyH.valR (fun W' => W' = (w3.alloc (.cells #[.string x.nm, .int .i64 x.sec, .int .i64 x.n, .string (strOf x.s)] 192))) rfl (by rfl) (.slice (some ⟨w3.heap.size, 0, none⟩) 1 1) _ (by go_simp) (fun W' e => by rw [e]; exact HSP.out _ (k3.alloc _)) rfl ?_ ?_
          · rintro _ rfl
            simp only [Act.put, skA, skB, skC]
            have k4 := k3.alloc (.cells #[.string x.nm, .int .i64 x.sec, .int .i64 x.n, .string (strOf x.s)] 192)
            have b4 := Blk.new w3 192 #[.string x.nm, .int .i64 x.sec, .int .i64 x.n, .string (strOf x.s)]
            have own8_4 := own_keepB ow3 ((Kp.refl NoB w3).alloc (.cells #[.string x.nm, .int .i64 x.sec, .int .i64 x.n, .string (strOf x.s)] 192)) (fun _ _ q => q)
            refine wpAnyH_ready (rs := [6]) (by kernel_rfl) (by simp) ?_
            refine AllReadyH.appendB rfl (by rfl) W.heap.size 192 j0 _ 4 48 Try.underlying54 HJ0.out HY0.out HY1.out HY2.out rfl (by omega) v3 (0 + n) ([] ++ (cs.map rcCells).flatten) rfl own8_4 ⟨w3.heap.size, 0, none⟩ 1 1 (rcCells x) rfl rfl b4.rc (fun u hu => rc_one [x] u (by simpa using hu)) (by have := HN.out; unfold maxLen; omega) (by have := HN.out; omega) k4.size (fun v' w' q1 q2 _ => HSP.out _ (k4.own q2 rfl own8_4)) ?_ ?_
            · intro v5 w5 ow5 gr5 _
              simp only [Act.put, skA, skB, skC]
              have k5 := k4.own gr5 rfl own8_4
              rw [Nat.zero_add, List.nil_append] at ow5
              obtain ⟨A5, c5, rfl⟩ := own_slice ow5
              refine tkS (i := 7) (v := (.pointer (some ⟨s0, 3, none⟩))) rfl (Or.inl ⟨by rfl, fun w' hq => by go_simp⟩) (HSP.out _ k5) ?_
              simp only [Act.put, skA, skB, skC]
              refine wpAnyH_ready (rs := [8]) (by kernel_rfl) (by simp) ?_
              refine AllReadyH.skipR rfl (by rfl) (w5.setCell ⟨s0, 3, none⟩ (.slice A5 (n + 1) c5)) (by have h1 := (HB0.out.keep k5 (fun q => q)).cell 3; have h2 := (HB0.out.keep k5 (fun q => q)).frozen 3; go_simp) (((HB1.out.keep k5 (fun q => q)).keep ((Kp.refl (OnB s0) _).setAt rfl 3 _) (fun q => by have : s0 + 1 = s0 := q; omega)).sp) ?_ ?_
              · skip
                refine wpAnyH_done (by kernel_rfl) ?_ _
                generalize V0.heap.size = gg
                generalize w3.heap.size = hh
                generalize Value.slice A5 (n + 1) c5 = vv at ow5 ⊢
                exact into4_of gg hh v3 vv ⟨_, rfl, ow5, k5⟩ rfl
              exact AllReadyH.nil
            exact AllReadyH.nil
          exact AllReadyH.nil
        refine AllReadyH.valR (fun W' => W' = ((V0.alloc (.cells #[] 192)).alloc (.cells #[.string x.nm, .int .i64 x.sec, .int .i64 x.n, .string (strOf x.s)] 192))) rfl (by rfl) (.slice (some ⟨(V0.alloc (.cells #[] 192)).heap.size, 0, none⟩) 1 1) _ (by go_simp) (fun W' e => by rw [e]; exact HSP.out _ (k1.alloc _)) rfl ?_ ?_
        · rintro _ rfl
          simp only [Act.put, skA, skB, skC]
          have k7 := k1.alloc (.cells #[.string x.nm, .int .i64 x.sec, .int .i64 x.n, .string (strOf x.s)] 192)
          have b7 := Blk.new (V0.alloc (.cells #[] 192)) 192 #[.string x.nm, .int .i64 x.sec, .int .i64 x.n, .string (strOf x.s)]
          have own5_7 := own_keepB ow1 ((Kp.refl NoB (V0.alloc (.cells #[] 192))).alloc (.cells #[.string x.nm, .int .i64 x.sec, .int .i64 x.n, .string (strOf x.s)] 192)) (fun _ _ q => q)
          have lt7 : V0.heap.size < (V0.alloc (.cells #[] 192)).heap.size := by simp
          refine wpAnyH_ready (rs := [3]) (by kernel_rfl) (by simp) ?_
          refine AllReadyH.appendN rfl (by rfl) W.heap.size 192 j0 _ 4 48 Try.underlying54 HJ0.out HY0.out HY1.out HY2.out rfl (by omega) (.slice (some ⟨V0.heap.size, 0, none⟩) 0 0) 0 [] rfl own5_7 A n c (cs.map rcCells).flatten rfl HA.out HFLAT.out (HSN.out _ k7) (rc_one cs) (by have := HN.out; unfold maxLen; omega) (by have := HN.out; omega) k7.size (fun v' w' q1 q2 => HSP.out _ (k7.own q2 rfl own5_7)) ?_ ?_
          · intro v8 w8 ow8 gr8
            simp only [Act.put, skA, skB, skC]
            have k8 := k7.own gr8 rfl own5_7
            have b8 := b7.past gr8 (fun k e => by simp only [Value.ownBlock] at e; injection e with e; first | omega | (simp at *; omega))
            refine wpAnyH_ready (rs := [6]) (by kernel_rfl) (by simp) ?_
            refine AllReadyH.appendB rfl (by rfl) W.heap.size 192 j0 _ 4 48 Try.underlying54 HJ0.out HY0.out HY1.out HY2.out rfl (by omega) v8 (0 + n) ([] ++ (cs.map rcCells).flatten) rfl ow8 ⟨(V0.alloc (.cells #[] 192)).heap.size, 0, none⟩ 1 1 (rcCells x) rfl rfl b8.rc (fun u hu => rc_one [x] u (by simpa using hu)) (by have := HN.out; unfold maxLen; omega) (by have := HN.out; omega) k8.size (fun v' w' q1 q2 _ => HSP.out _ (k8.own q2 rfl ow8)) ?_ ?_
            · intro v9 w9 ow9 gr9 _
              simp only [Act.put, skA, skB, skC]
              have k9 := k8.own gr9 rfl ow8
              rw [Nat.zero_add, List.nil_append] at ow9
              obtain ⟨A9, c9, rfl⟩ := own_slice ow9
              refine tkS (i := 7) (v := (.pointer (some ⟨s0, 3, none⟩))) rfl (Or.inl ⟨by rfl, fun w' hq => by go_simp⟩) (HSP.out _ k9) ?_
              simp only [Act.put, skA, skB, skC]
              refine wpAnyH_ready (rs := [8]) (by kernel_rfl) (by simp) ?_
              refine AllReadyH.skipR rfl (by rfl) (w9.setCell ⟨s0, 3, none⟩ (.slice A9 (n + 1) c9)) (by have h1 := (HB0.out.keep k9 (fun q => q)).cell 3; have h2 := (HB0.out.keep k9 (fun q => q)).frozen 3; go_simp) (((HB1.out.keep k9 (fun q => q)).keep ((Kp.refl (OnB s0) _).setAt rfl 3 _) (fun q => by have : s0 + 1 = s0 := q; omega)).sp) ?_ ?_
              · skip
                refine wpAnyH_done (by kernel_rfl) ?_ _
                generalize V0.heap.size = gg
                generalize (V0.alloc (.cells #[] 192)).heap.size = hh
                generalize Value.slice A9 (n + 1) c9 = vv at ow9 ⊢
                exact into4_of gg hh v8 vv ⟨_, rfl, ow9, k9⟩ rfl
              exact AllReadyH.nil
            exact AllReadyH.nil
          exact AllReadyH.nil
        exact AllReadyH.nil
      refine AllReadyH.valR (fun W' => W' = ((V0.alloc (.cells #[] 192)).alloc (.cells #[.string x.nm, .int .i64 x.sec, .int .i64 x.n, .string (strOf x.s)] 192))) rfl (by rfl) (.slice (some ⟨(V0.alloc (.cells #[] 192)).heap.size, 0, none⟩) 1 1) _ (by go_simp) (fun W' e => by rw [e]; exact HSP.out _ (k1.alloc _)) rfl ?_ ?_
      · rintro _ rfl
        simp only [Act.put, skA, skB, skC]
        have k11 := k1.alloc (.cells #[.string x.nm, .int .i64 x.sec, .int .i64 x.n, .string (strOf x.s)] 192)
        have b11 := Blk.new (V0.alloc (.cells #[] 192)) 192 #[.string x.nm, .int .i64 x.sec, .int .i64 x.n, .string (strOf x.s)]
        have own5_11 := own_keepB ow1 ((Kp.refl NoB (V0.alloc (.cells #[] 192))).alloc (.cells #[.string x.nm, .int .i64 x.sec, .int .i64 x.n, .string (strOf x.s)] 192)) (fun _ _ q => q)
        have lt11 : V0.heap.size < (V0.alloc (.cells #[] 192)).heap.size := by simp
        refine wpAnyH_ready (rs := [2]) (by kernel_rfl) (by simp) ?_
        refine AllReadyH.valR (fun W' => ((V0.alloc (.cells #[] 192)).alloc (.cells #[.string x.nm, .int .i64 x.sec, .int .i64 x.n, .string (strOf x.s)] 192)) = W') rfl (by rfl) (.slice A n c) _ (by have := (HB0.out.keep k11 (fun q => q)).cell 3; go_simp) (fun W' e => by rw [← e]; exact HSP.out _ k11) rfl ?_ ?_
        · rintro _ rfl
          simp only [Act.put, skA, skB, skC]
          refine wpAnyH_ready (rs := [3]) (by kernel_rfl) (by simp) ?_
          refine AllReadyH.appendN rfl (by rfl) W.heap.size 192 j0 _ 4 48 Try.underlying54 HJ0.out HY0.out HY1.out HY2.out rfl (by omega) (.slice (some ⟨V0.heap.size, 0, none⟩) 0 0) 0 [] rfl own5_11 A n c (cs.map rcCells).flatten rfl HA.out HFLAT.out (HSN.out _ k11) (rc_one cs) (by have := HN.out; unfold maxLen; omega) (by have := HN.out; omega) k11.size (fun v' w' q1 q2 => HSP.out _ (k11.own q2 rfl own5_11)) ?_ ?_
          · intro v13 w13 ow13 gr13
            simp only [Act.put, skA, skB, skC]
            have k13 := k11.own gr13 rfl own5_11
            have b13 := b11.past gr13 (fun k e => by simp only [Value.ownBlock] at e; injection e with e; first | omega | (simp at *; omega))
            refine wpAnyH_ready (rs := [6]) (by kernel_rfl) (by simp) ?_
            refine AllReadyH.appendB rfl (by rfl) W.heap.size 192 j0 _ 4 48 Try.underlying54 HJ0.out HY0.out HY1.out HY2.out rfl (by omega) v13 (0 + n) ([] ++ (cs.map rcCells).flatten) rfl ow13 ⟨(V0.alloc (.cells #[] 192)).heap.size, 0, none⟩ 1 1 (rcCells x) rfl rfl b13.rc (fun u hu => rc_one [x] u (by simpa using hu)) (by have := HN.out; unfold maxLen; omega) (by have := HN.out; omega) k13.size (fun v' w' q1 q2 _ => HSP.out _ (k13.own q2 rfl ow13)) ?_ ?_
            · intro v14 w14 ow14 gr14 _
              simp only [Act.put, skA, skB, skC]
              have k14 := k13.own gr14 rfl ow13
              rw [Nat.zero_add, List.nil_append] at ow14
              obtain ⟨A14, c14, rfl⟩ := own_slice ow14
              refine tkS (i := 7) (v := (.pointer (some ⟨s0, 3, none⟩))) rfl (Or.inl ⟨by rfl, fun w' hq => by go_simp⟩) (HSP.out _ k14) ?_
              simp only [Act.put, skA, skB, skC]
              refine wpAnyH_ready (rs := [8]) (by kernel_rfl) (by simp) ?_
              refine AllReadyH.skipR rfl (by rfl) (w14.setCell ⟨s0, 3, none⟩ (.slice A14 (n + 1) c14)) (by have h1 := (HB0.out.keep k14 (fun q => q)).cell 3; have h2 := (HB0.out.keep k14 (fun q => q)).frozen 3; go_simp) (((HB1.out.keep k14 (fun q => q)).keep ((Kp.refl (OnB s0) _).setAt rfl 3 _) (fun q => by have : s0 + 1 = s0 := q; omega)).sp) ?_ ?_
              · skip
                refine wpAnyH_done (by kernel_rfl) ?_ _
                generalize V0.heap.size = gg
                generalize (V0.alloc (.cells #[] 192)).heap.size = hh
                generalize Value.slice A14 (n + 1) c14 = vv at ow14 ⊢
                exact into4_of gg hh v13 vv ⟨_, rfl, ow14, k14⟩ rfl
              exact AllReadyH.nil
            exact AllReadyH.nil
          exact AllReadyH.nil
        exact AllReadyH.nil
      exact AllReadyH.nil
    refine AllReadyH.valR (fun W' => V0 = W') rfl (by rfl) (.slice A n c) _ (by have := (HB0.out.keep k0 (fun q => q)).cell 3; go_simp) (fun W' e => by rw [← e]; exact HSP.out _ k0) rfl ?_ ?_
    · rintro _ rfl
      simp only [Act.put, skA, skB, skC]
      refine wpAnyH_ready (rs := [0, 5]) (by kernel_rfl) (by simp) ?_
      refine AllReadyH.valR (fun W' => W' = (V0.alloc (.cells #[] 192))) rfl (by rfl) (.slice (some ⟨V0.heap.size, 0, none⟩) 0 0) _ (by go_simp) (fun W' e => by rw [e]; exact HSP.out _ (k0.alloc _)) rfl ?_ ?_
      · rintro _ rfl
        simp only [Act.put, skA, skB, skC]
        have k17 := k0.alloc (.cells #[] 192)
        have ow17 : (V0.alloc (.cells #[] 192)).ownsRow W.heap.size 192 4 (.slice (some ⟨V0.heap.size, 0, none⟩) 0 0) 0 [] := ⟨rfl, .inr ⟨V0.heap.size, 0, #[], rfl, k0.size, heap_alloc_new _ _, Nat.le_refl _, by simp, rfl, rfl⟩⟩
        refine wpAnyH_ready (rs := [3, 5]) (by kernel_rfl) (by simp) ?_
        refine AllReadyH.appendN rfl (by rfl) W.heap.size 192 j0 _ 4 48 Try.underlying54 HJ0.out HY0.out HY1.out HY2.out rfl (by omega) (.slice (some ⟨V0.heap.size, 0, none⟩) 0 0) 0 [] rfl ow17 A n c (cs.map rcCells).flatten rfl HA.out HFLAT.out (HSN.out _ k17) (rc_one cs) (by have := HN.out; unfold maxLen; omega) (by have := HN.out; omega) k17.size (fun v' w' q1 q2 => HSP.out _ (k17.own q2 rfl ow17)) ?_ ?_
        · intro v18 w18 ow18 gr18
          simp only [Act.put, skA, skB, skC]
          have k18 := k17.own gr18 rfl ow17
          refine wpAnyH_ready (rs := [5]) (by kernel_rfl) (by simp) ?_
          refine AllReadyH.valR (fun W' => W' = (w18.alloc (.cells #[.string x.nm, .int .i64 x.sec, .int .i64 x.n, .string (strOf x.s)] 192))) rfl (by rfl) (.slice (some ⟨w18.heap.size, 0, none⟩) 1 1) _ (by go_simp) (fun W' e => by rw [e]; exact HSP.out _ (k18.alloc _)) rfl ?_ ?_
          · rintro _ rfl
            simp only [Act.put, skA, skB, skC]
            have k19 := k18.alloc (.cells #[.string x.nm, .int .i64 x.sec, .int .i64 x.n, .string (strOf x.s)] 192)
            have b19 := Blk.new w18 192 #[.string x.nm, .int .i64 x.sec, .int .i64 x.n, .string (strOf x.s)]
            have own8_19 := own_keepB ow18 ((Kp.refl NoB w18).alloc (.cells #[.string x.nm, .int .i64 x.sec, .int .i64 x.n, .string (strOf x.s)] 192)) (fun _ _ q => q)
            refine wpAnyH_ready (rs := [6]) (by kernel_rfl) (by simp) ?_
            refine AllReadyH.appendB rfl (by rfl) W.heap.size 192 j0 _ 4 48 Try.underlying54 HJ0.out HY0.out HY1.out HY2.out rfl (by omega) v18 (0 + n) ([] ++ (cs.map rcCells).flatten) rfl own8_19 ⟨w18.heap.size, 0, none⟩ 1 1 (rcCells x) rfl rfl b19.rc (fun u hu => rc_one [x] u (by simpa using hu)) (by have := HN.out; unfold maxLen; omega) (by have := HN.out; omega) k19.size (fun v' w' q1 q2 _ => HSP.out _ (k19.own q2 rfl own8_19)) ?_ ?_
            · intro v20 w20 ow20 gr20 _
              simp only [Act.put, skA, skB, skC]
              have k20 := k19.own gr20 rfl own8_19
              rw [Nat.zero_add, List.nil_append] at ow20
              obtain ⟨A20, c20, rfl⟩ := own_slice ow20
              refine tkS (i := 7) (v := (.pointer (some ⟨s0, 3, none⟩))) rfl (Or.inl ⟨by rfl, fun w' hq => by go_simp⟩) (HSP.out _ k20) ?_
              simp only [Act.put, skA, skB, skC]
              refine wpAnyH_ready (rs := [8]) (by kernel_rfl) (by simp) ?_
              refine AllReadyH.skipR rfl (by rfl) (w20.setCell ⟨s0, 3, none⟩ (.slice A20 (n + 1) c20)) (by have h1 := (HB0.out.keep k20 (fun q => q)).cell 3; have h2 := (HB0.out.keep k20 (fun q => q)).frozen 3; go_simp) (((HB1.out.keep k20 (fun q => q)).keep ((Kp.refl (OnB s0) _).setAt rfl 3 _) (fun q => by have : s0 + 1 = s0 := q; omega)).sp) ?_ ?_
              · skip
                refine wpAnyH_done (by kernel_rfl) ?_ _
                generalize V0.heap.size = gg
                generalize w18.heap.size = hh
                generalize Value.slice A20 (n + 1) c20 = vv at ow20 ⊢
                exact into4_of gg hh v18 vv ⟨_, rfl, ow20, k20⟩ rfl
              exact AllReadyH.nil
            exact AllReadyH.nil
          exact AllReadyH.nil
        refine AllReadyH.valR (fun W' => W' = ((V0.alloc (.cells #[] 192)).alloc (.cells #[.string x.nm, .int .i64 x.sec, .int .i64 x.n, .string (strOf x.s)] 192))) rfl (by rfl) (.slice (some ⟨(V0.alloc (.cells #[] 192)).heap.size, 0, none⟩) 1 1) _ (by go_simp) (fun W' e => by rw [e]; exact HSP.out _ (k17.alloc _)) rfl ?_ ?_
        · rintro _ rfl
          simp only [Act.put, skA, skB, skC]
          have k22 := k17.alloc (.cells #[.string x.nm, .int .i64 x.sec, .int .i64 x.n, .string (strOf x.s)] 192)
          have b22 := Blk.new (V0.alloc (.cells #[] 192)) 192 #[.string x.nm, .int .i64 x.sec, .int .i64 x.n, .string (strOf x.s)]
          have own5_22 := own_keepB ow17 ((Kp.refl NoB (V0.alloc (.cells #[] 192))).alloc (.cells #[.string x.nm, .int .i64 x.sec, .int .i64 x.n, .string (strOf x.s)] 192)) (fun _ _ q => q)
          have lt22 : V0.heap.size < (V0.alloc (.cells #[] 192)).heap.size := by simp
          refine wpAnyH_ready (rs := [3]) (by kernel_rfl) (by simp) ?_
          refine AllReadyH.appendN rfl (by rfl) W.heap.size 192 j0 _ 4 48 Try.underlying54 HJ0.out HY0.out HY1.out HY2.out rfl (by omega) (.slice (some ⟨V0.heap.size, 0, none⟩) 0 0) 0 [] rfl own5_22 A n c (cs.map rcCells).flatten rfl HA.out HFLAT.out (HSN.out _ k22) (rc_one cs) (by have := HN.out; unfold maxLen; omega) (by have := HN.out; omega) k22.size (fun v' w' q1 q2 => HSP.out _ (k22.own q2 rfl own5_22)) ?_ ?_
          · intro v23 w23 ow23 gr23
            simp only [Act.put, skA, skB, skC]
            have k23 := k22.own gr23 rfl own5_22
            have b23 := b22.past gr23 (fun k e => by simp only [Value.ownBlock] at e; injection e with e; first | omega | (simp at *; omega))
            refine wpAnyH_ready (rs := [6]) (by kernel_rfl) (by simp) ?_
            refine AllReadyH.appendB rfl (by rfl) W.heap.size 192 j0 _ 4 48 Try.underlying54 HJ0.out HY0.out HY1.out HY2.out rfl (by omega) v23 (0 + n) ([] ++ (cs.map rcCells).flatten) rfl ow23 ⟨(V0.alloc (.cells #[] 192)).heap.size, 0, none⟩ 1 1 (rcCells x) rfl rfl b23.rc (fun u hu => rc_one [x] u (by simpa using hu)) (by have := HN.out; unfold maxLen; omega) (by have := HN.out; omega) k23.size (fun v' w' q1 q2 _ => HSP.out _ (k23.own q2 rfl ow23)) ?_ ?_
            · intro v24 w24 ow24 gr24 _
              simp only [Act.put, skA, skB, skC]
              have k24 := k23.own gr24 rfl ow23
              rw [Nat.zero_add, List.nil_append] at ow24
              obtain ⟨A24, c24, rfl⟩ := own_slice ow24
              refine tkS (i := 7) (v := (.pointer (some ⟨s0, 3, none⟩))) rfl (Or.inl ⟨by rfl, fun w' hq => by go_simp⟩) (HSP.out _ k24) ?_
              simp only [Act.put, skA, skB, skC]
              refine wpAnyH_ready (rs := [8]) (by kernel_rfl) (by simp) ?_
              refine AllReadyH.skipR rfl (by rfl) (w24.setCell ⟨s0, 3, none⟩ (.slice A24 (n + 1) c24)) (by have h1 := (HB0.out.keep k24 (fun q => q)).cell 3; have h2 := (HB0.out.keep k24 (fun q => q)).frozen 3; go_simp) (((HB1.out.keep k24 (fun q => q)).keep ((Kp.refl (OnB s0) _).setAt rfl 3 _) (fun q => by have : s0 + 1 = s0 := q; omega)).sp) ?_ ?_
              · skip
                refine wpAnyH_done (by kernel_rfl) ?_ _
                generalize V0.heap.size = gg
                generalize (V0.alloc (.cells #[] 192)).heap.size = hh
                generalize Value.slice A24 (n + 1) c24 = vv at ow24 ⊢
                exact into4_of gg hh v23 vv ⟨_, rfl, ow24, k24⟩ rfl
              exact AllReadyH.nil
            exact AllReadyH.nil
          exact AllReadyH.nil
        exact AllReadyH.nil
      refine AllReadyH.valR (fun W' => W' = (V0.alloc (.cells #[.string x.nm, .int .i64 x.sec, .int .i64 x.n, .string (strOf x.s)] 192))) rfl (by rfl) (.slice (some ⟨V0.heap.size, 0, none⟩) 1 1) _ (by go_simp) (fun W' e => by rw [e]; exact HSP.out _ (k0.alloc _)) rfl ?_ ?_
      · rintro _ rfl
        simp only [Act.put, skA, skB, skC]
        have k26 := k0.alloc (.cells #[.string x.nm, .int .i64 x.sec, .int .i64 x.n, .string (strOf x.s)] 192)
        have b26 := Blk.new V0 192 #[.string x.nm, .int .i64 x.sec, .int .i64 x.n, .string (strOf x.s)]
        refine wpAnyH_ready (rs := [0]) (by kernel_rfl) (by simp) ?_
        refine AllReadyH.valR (fun W' => W' = ((V0.alloc (.cells #[.string x.nm, .int .i64 x.sec, .int .i64 x.n, .string (strOf x.s)] 192)).alloc (.cells #[] 192))) rfl (by rfl) (.slice (some ⟨(V0.alloc (.cells #[.string x.nm, .int .i64 x.sec, .int .i64 x.n, .string (strOf x.s)] 192)).heap.size, 0, none⟩) 0 0) _ (by go_simp) (fun W' e => by rw [e]; exact HSP.out _ (k26.alloc _)) rfl ?_ ?_
        · rintro _ rfl
          simp only [Act.put, skA, skB, skC]
          have k27 := k26.alloc (.cells #[] 192)
          have ow27 : ((V0.alloc (.cells #[.string x.nm, .int .i64 x.sec, .int .i64 x.n, .string (strOf x.s)] 192)).alloc (.cells #[] 192)).ownsRow W.heap.size 192 4 (.slice (some ⟨(V0.alloc (.cells #[.string x.nm, .int .i64 x.sec, .int .i64 x.n, .string (strOf x.s)] 192)).heap.size, 0, none⟩) 0 0) 0 [] := ⟨rfl, .inr ⟨(V0.alloc (.cells #[.string x.nm, .int .i64 x.sec, .int .i64 x.n, .string (strOf x.s)] 192)).heap.size, 0, #[], rfl, k26.size, heap_alloc_new _ _, Nat.le_refl _, by simp, rfl, rfl⟩⟩
          have b27 := b26.alloc (.cells #[] 192)
          have ne27 := Nat.ne_of_lt b26.lt
          refine wpAnyH_ready (rs := [3]) (by kernel_rfl) (by simp) ?_
          refine AllReadyH.appendN rfl (by rfl) W.heap.size 192 j0 _ 4 48 Try.underlying54 HJ0.out HY0.out HY1.out HY2.out rfl (by omega) (.slice (some ⟨(V0.alloc (.cells #[.string x.nm, .int .i64 x.sec, .int .i64 x.n, .string (strOf x.s)] 192)).heap.size, 0, none⟩) 0 0) 0 [] rfl ow27 A n c (cs.map rcCells).flatten rfl HA.out HFLAT.out (HSN.out _ k27) (rc_one cs) (by have := HN.out; unfold maxLen; omega) (by have := HN.out; omega) k27.size (fun v' w' q1 q2 => HSP.out _ (k27.own q2 rfl ow27)) ?_ ?_
          · intro v28 w28 ow28 gr28
            simp only [Act.put, skA, skB, skC]
            have k28 := k27.own gr28 rfl ow27
            have b28 := b27.past gr28 (fun k e => by simp only [Value.ownBlock] at e; injection e with e; first | omega | (simp at *; omega))
            refine wpAnyH_ready (rs := [6]) (by kernel_rfl) (by simp) ?_
            refine AllReadyH.appendB rfl (by rfl) W.heap.size 192 j0 _ 4 48 Try.underlying54 HJ0.out HY0.out HY1.out HY2.out rfl (by omega) v28 (0 + n) ([] ++ (cs.map rcCells).flatten) rfl ow28 ⟨V0.heap.size, 0, none⟩ 1 1 (rcCells x) rfl rfl b28.rc (fun u hu => rc_one [x] u (by simpa using hu)) (by have := HN.out; unfold maxLen; omega) (by have := HN.out; omega) k28.size (fun v' w' q1 q2 _ => HSP.out _ (k28.own q2 rfl ow28)) ?_ ?_
            · intro v29 w29 ow29 gr29 _
              simp only [Act.put, skA, skB, skC]
              have k29 := k28.own gr29 rfl ow28
              rw [Nat.zero_add, List.nil_append] at ow29
              obtain ⟨A29, c29, rfl⟩ := own_slice ow29
              refine tkS (i := 7) (v := (.pointer (some ⟨s0, 3, none⟩))) rfl (Or.inl ⟨by rfl, fun w' hq => by go_simp⟩) (HSP.out _ k29) ?_
              simp only [Act.put, skA, skB, skC]
              refine wpAnyH_ready (rs := [8]) (by kernel_rfl) (by simp) ?_
              refine AllReadyH.skipR rfl (by rfl) (w29.setCell ⟨s0, 3, none⟩ (.slice A29 (n + 1) c29)) (by have h1 := (HB0.out.keep k29 (fun q => q)).cell 3; have h2 := (HB0.out.keep k29 (fun q => q)).frozen 3; go_simp) (((HB1.out.keep k29 (fun q => q)).keep ((Kp.refl (OnB s0) _).setAt rfl 3 _) (fun q => by have : s0 + 1 = s0 := q; omega)).sp) ?_ ?_
              · skip
                refine wpAnyH_done (by kernel_rfl) ?_ _
                generalize (V0.alloc (.cells #[.string x.nm, .int .i64 x.sec, .int .i64 x.n, .string (strOf x.s)] 192)).heap.size = gg
                generalize V0.heap.size = hh
                generalize Value.slice A29 (n + 1) c29 = vv at ow29 ⊢
                exact into4_of gg hh v28 vv ⟨_, rfl, ow29, k29⟩ rfl
              exact AllReadyH.nil
            exact AllReadyH.nil
          exact AllReadyH.nil
        exact AllReadyH.nil
      exact AllReadyH.nil
    refine AllReadyH.valR (fun W' => W' = (V0.alloc (.cells #[.string x.nm, .int .i64 x.sec, .int .i64 x.n, .string (strOf x.s)] 192))) rfl (by rfl) (.slice (some ⟨V0.heap.size, 0, none⟩) 1 1) _ (by go_simp) (fun W' e => by rw [e]; exact HSP.out _ (k0.alloc _)) rfl ?_ ?_
    · rintro _ rfl
      simp only [Act.put, skA, skB, skC]
      have k31 := k0.alloc (.cells #[.string x.nm, .int .i64 x.sec, .int .i64 x.n, .string (strOf x.s)] 192)
      have b31 := Blk.new V0 192 #[.string x.nm, .int .i64 x.sec, .int .i64 x.n, .string (strOf x.s)]
      refine wpAnyH_ready (rs := [0, 2]) (by kernel_rfl) (by simp) ?_
      refine AllReadyH.valR (fun W' => W' = ((V0.alloc (.cells #[.string x.nm, .int .i64 x.sec, .int .i64 x.n, .string (strOf x.s)] 192)).alloc (.cells #[] 192))) rfl (by rfl) (.slice (some ⟨(V0.alloc (.cells #[.string x.nm, .int .i64 x.sec, .int .i64 x.n, .string (strOf x.s)] 192)).heap.size, 0, none⟩) 0 0) _ (by go_simp) (fun W' e => by rw [e]; exact HSP.out _ (k31.alloc _)) rfl ?_ ?_
      · rintro _ rfl
        simp only [Act.put, skA, skB, skC]
        have k32 := k31.alloc (.cells #[] 192)
        have ow32 : ((V0.alloc (.cells #[.string x.nm, .int .i64 x.sec, .int .i64 x.n, .string (strOf x.s)] 192)).alloc (.cells #[] 192)).ownsRow W.heap.size 192 4 (.slice (some ⟨(V0.alloc (.cells #[.string x.nm, .int .i64 x.sec, .int .i64 x.n, .string (strOf x.s)] 192)).heap.size, 0, none⟩) 0 0) 0 [] := ⟨rfl, .inr ⟨(V0.alloc (.cells #[.string x.nm, .int .i64 x.sec, .int .i64 x.n, .string (strOf x.s)] 192)).heap.size, 0, #[], rfl, k31.size, heap_alloc_new _ _, Nat.le_refl _, by simp, rfl, rfl⟩⟩
        have b32 := b31.alloc (.cells #[] 192)
        have ne32 := Nat.ne_of_lt b31.lt
        refine wpAnyH_ready (rs := [2]) (by kernel_rfl) (by simp) ?_
        refine AllReadyH.valR (fun W' => ((V0.alloc (.cells #[.string x.nm, .int .i64 x.sec, .int .i64 x.n, .string (strOf x.s)] 192)).alloc (.cells #[] 192)) = W') rfl (by rfl) (.slice A n c) _ (by have := (HB0.out.keep k32 (fun q => q)).cell 3; go_simp) (fun W' e => by rw [← e]; exact HSP.out _ k32) rfl ?_ ?_
        · rintro _ rfl
          simp only [Act.put, skA, skB, skC]
          refine wpAnyH_ready (rs := [3]) (by kernel_rfl) (by simp) ?_
          refine AllReadyH.appendN rfl (by rfl) W.heap.size 192 j0 _ 4 48 Try.underlying54 HJ0.out HY0.out HY1.out HY2.out rfl (by omega) (.slice (some ⟨(V0.alloc (.cells #[.string x.nm, .int .i64 x.sec, .int .i64 x.n, .string (strOf x.s)] 192)).heap.size, 0, none⟩) 0 0) 0 [] rfl ow32 A n c (cs.map rcCells).flatten rfl HA.out HFLAT.out (HSN.out _ k32) (rc_one cs) (by have := HN.out; unfold maxLen; omega) (by have := HN.out; omega) k32.size (fun v' w' q1 q2 => HSP.out _ (k32.own q2 rfl ow32)) ?_ ?_
          · intro v34 w34 ow34 gr34
            simp only [Act.put, skA, skB, skC]
            have k34 := k32.own gr34 rfl ow32
            have b34 := b32.past gr34 (fun k e => by simp only [Value.ownBlock] at e; injection e with e; first | omega | (simp at *; omega))
            refine wpAnyH_ready (rs := [6]) (by kernel_rfl) (by simp) ?_
            refine AllReadyH.appendB rfl (by rfl) W.heap.size 192 j0 _ 4 48 Try.underlying54 HJ0.out HY0.out HY1.out HY2.out rfl (by omega) v34 (0 + n) ([] ++ (cs.map rcCells).flatten) rfl ow34 ⟨V0.heap.size, 0, none⟩ 1 1 (rcCells x) rfl rfl b34.rc (fun u hu => rc_one [x] u (by simpa using hu)) (by have := HN.out; unfold maxLen; omega) (by have := HN.out; omega) k34.size (fun v' w' q1 q2 _ => HSP.out _ (k34.own q2 rfl ow34)) ?_ ?_
            · intro v35 w35 ow35 gr35 _
              simp only [Act.put, skA, skB, skC]
              have k35 := k34.own gr35 rfl ow34
              rw [Nat.zero_add, List.nil_append] at ow35
              obtain ⟨A35, c35, rfl⟩ := own_slice ow35
              refine tkS (i := 7) (v := (.pointer (some ⟨s0, 3, none⟩))) rfl (Or.inl ⟨by rfl, fun w' hq => by go_simp⟩) (HSP.out _ k35) ?_
              simp only [Act.put, skA, skB, skC]
              refine wpAnyH_ready (rs := [8]) (by kernel_rfl) (by simp) ?_
              refine AllReadyH.skipR rfl (by rfl) (w35.setCell ⟨s0, 3, none⟩ (.slice A35 (n + 1) c35)) (by have h1 := (HB0.out.keep k35 (fun q => q)).cell 3; have h2 := (HB0.out.keep k35 (fun q => q)).frozen 3; go_simp) (((HB1.out.keep k35 (fun q => q)).keep ((Kp.refl (OnB s0) _).setAt rfl 3 _) (fun q => by have : s0 + 1 = s0 := q; omega)).sp) ?_ ?_
              · skip
                refine wpAnyH_done (by kernel_rfl) ?_ _
                generalize (V0.alloc (.cells #[.string x.nm, .int .i64 x.sec, .int .i64 x.n, .string (strOf x.s)] 192)).heap.size = gg
                generalize V0.heap.size = hh
                generalize Value.slice A35 (n + 1) c35 = vv at ow35 ⊢
                exact into4_of gg hh v34 vv ⟨_, rfl, ow35, k35⟩ rfl
              exact AllReadyH.nil
            exact AllReadyH.nil
          exact AllReadyH.nil
        exact AllReadyH.nil
      refine AllReadyH.valR (fun W' => (V0.alloc (.cells #[.string x.nm, .int .i64 x.sec, .int .i64 x.n, .string (strOf x.s)] 192)) = W') rfl (by rfl) (.slice A n c) _ (by have := (HB0.out.keep k31 (fun q => q)).cell 3; go_simp) (fun W' e => by rw [← e]; exact HSP.out _ k31) rfl ?_ ?_
      · rintro _ rfl
        simp only [Act.put, skA, skB, skC]
        refine wpAnyH_ready (rs := [0]) (by kernel_rfl) (by simp) ?_
        refine AllReadyH.valR (fun W' => W' = ((V0.alloc (.cells #[.string x.nm, .int .i64 x.sec, .int .i64 x.n, .string (strOf x.s)] 192)).alloc (.cells #[] 192))) rfl (by rfl) (.slice (some ⟨(V0.alloc (.cells #[.string x.nm, .int .i64 x.sec, .int .i64 x.n, .string (strOf x.s)] 192)).heap.size, 0, none⟩) 0 0) _ (by go_simp) (fun W' e => by rw [e]; exact HSP.out _ (k31.alloc _)) rfl ?_ ?_
        · rintro _ rfl
          simp only [Act.put, skA, skB, skC]
          have k38 := k31.alloc (.cells #[] 192)
          have ow38 : ((V0.alloc (.cells #[.string x.nm, .int .i64 x.sec, .int .i64 x.n, .string (strOf x.s)] 192)).alloc (.cells #[] 192)).ownsRow W.heap.size 192 4 (.slice (some ⟨(V0.alloc (.cells #[.string x.nm, .int .i64 x.sec, .int .i64 x.n, .string (strOf x.s)] 192)).heap.size, 0, none⟩) 0 0) 0 [] := ⟨rfl, .inr ⟨(V0.alloc (.cells #[.string x.nm, .int .i64 x.sec, .int .i64 x.n, .string (strOf x.s)] 192)).heap.size, 0, #[], rfl, k31.size, heap_alloc_new _ _, Nat.le_refl _, by simp, rfl, rfl⟩⟩
          have b38 := b31.alloc (.cells #[] 192)
          have ne38 := Nat.ne_of_lt b31.lt
          refine wpAnyH_ready (rs := [3]) (by kernel_rfl) (by simp) ?_
          refine AllReadyH.appendN rfl (by rfl) W.heap.size 192 j0 _ 4 48 Try.underlying54 HJ0.out HY0.out HY1.out HY2.out rfl (by omega) (.slice (some ⟨(V0.alloc (.cells #[.string x.nm, .int .i64 x.sec, .int .i64 x.n, .string (strOf x.s)] 192)).heap.size, 0, none⟩) 0 0) 0 [] rfl ow38 A n c (cs.map rcCells).flatten rfl HA.out HFLAT.out (HSN.out _ k38) (rc_one cs) (by have := HN.out; unfold maxLen; omega) (by have := HN.out; omega) k38.size (fun v' w' q1 q2 => HSP.out _ (k38.own q2 rfl ow38)) ?_ ?_
          · intro v39 w39 ow39 gr39
            simp only [Act.put, skA, skB, skC]
            have k39 := k38.own gr39 rfl ow38
            have b39 := b38.past gr39 (fun k e => by simp only [Value.ownBlock] at e; injection e with e; first | omega | (simp at *; omega))
            refine wpAnyH_ready (rs := [6]) (by kernel_rfl) (by simp) ?_
            refine AllReadyH.appendB rfl (by rfl) W.heap.size 192 j0 _ 4 48 Try.underlying54 HJ0.out HY0.out HY1.out HY2.out rfl (by omega) v39 (0 + n) ([] ++ (cs.map rcCells).flatten) rfl ow39 ⟨V0.heap.size, 0, none⟩ 1 1 (rcCells x) rfl rfl b39.rc (fun u hu => rc_one [x] u (by simpa using hu)) (by have := HN.out; unfold maxLen; omega) (by have := HN.out; omega) k39.size (fun v' w' q1 q2 _ => HSP.out _ (k39.own q2 rfl ow39)) ?_ ?_
            · intro v40 w40 ow40 gr40 _
              simp only [Act.put, skA, skB, skC]
              have k40 := k39.own gr40 rfl ow39
              rw [Nat.zero_add, List.nil_append] at ow40
              obtain ⟨A40, c40, rfl⟩ := own_slice ow40
              refine tkS (i := 7) (v := (.pointer (some ⟨s0, 3, none⟩))) rfl (Or.inl ⟨by rfl, fun w' hq => by go_simp⟩) (HSP.out _ k40) ?_
              simp only [Act.put, skA, skB, skC]
              refine wpAnyH_ready (rs := [8]) (by kernel_rfl) (by simp) ?_
              refine AllReadyH.skipR rfl (by rfl) (w40.setCell ⟨s0, 3, none⟩ (.slice A40 (n + 1) c40)) (by have h1 := (HB0.out.keep k40 (fun q => q)).cell 3; have h2 := (HB0.out.keep k40 (fun q => q)).frozen 3; go_simp) (((HB1.out.keep k40 (fun q => q)).keep ((Kp.refl (OnB s0) _).setAt rfl 3 _) (fun q => by have : s0 + 1 = s0 := q; omega)).sp) ?_ ?_
              · skip
                refine wpAnyH_done (by kernel_rfl) ?_ _
                generalize (V0.alloc (.cells #[.string x.nm, .int .i64 x.sec, .int .i64 x.n, .string (strOf x.s)] 192)).heap.size = gg
                generalize V0.heap.size = hh
                generalize Value.slice A40 (n + 1) c40 = vv at ow40 ⊢
                exact into4_of gg hh v39 vv ⟨_, rfl, ow40, k40⟩ rfl
              exact AllReadyH.nil
            exact AllReadyH.nil
          exact AllReadyH.nil
        exact AllReadyH.nil
      exact AllReadyH.nil
    exact AllReadyH.nil
  · rintro g5 g10 v8 v11 w6 ⟨V, rfl, ho, hk⟩
    obtain ⟨A3, c3, rfl⟩ := own_slice ho
    have HO3 := Lib.hid ho
    have HK3 := Lib.hid hk
    have hb0 := HB0.out.keep hk (fun q => q)
    have hb2 := HB2.out.keep hk (fun q => q)
    have HX2 := Lib.hid hb2
    obtain ⟨c0, c1, c2, c3', c4, c5, c6, c7⟩ := hb0.c8
    obtain ⟨y0, y1, y2, y3, y4, y5, y6, y7⟩ := hb2.c8
    obtain ⟨z0, z1, z2, z3, z4, z5, z6, z7⟩ := hb2.z8
    clear hb0 hb2 ho hk
    go_wp2_with fail
    have kz : w.heap.size ≤ s0 := by have := HS0.out; omega
    have kz2 : w.heap.size ≤ s0 + 1 + 1 := by omega
    refine bodyPost_ret (results_cell_row rfl _ _ _ _ _ _ _ rfl (blk9 HX2.out rfl (by omega)) Try.underlying56 rfl (by exact infoRd)) rfl ⟨A3, c3, rfl, ?_, ?_, kp9 (HKW.out.trans HK3.out (fun _ _ q => q)) (.inl kz) (.inl kz2)⟩
    · have hkp := kp9 (S := fun b => b = s0 ∨ b = s0 + 1 + 1) (s0 := s0) (s2 := s0 + 1 + 1) (i := 3) (y := .slice A3 (n + 1) c3) (a0 := .bool b0) (a1 := .bool b1) (a2 := .slice fA fn fc) (a3 := .slice A3 (n + 1) c3) (a4 := .int .i64 x4) (a5 := .int .i64 x5) (a6 := .int .i64 x6) (a7 := .int .i64 x7) (Kp.refl _ V) (.inr (.inl rfl)) (.inr (.inr rfl))
      have ho := own_keepB HO3.out hkp (fun g hg q => by
        have h1 := own_ge HO3.out g hg
        have h2 := HSZ.out
        rcases q with q | q <;> omega)
      refine Rows.own (base := W.heap.size) (e := 192) (cap := c3) ?_ (by rw [List.length_map, List.length_append, HFL.out]; rfl) (rc_len _)
      rw [List.map_append, List.flatten_append]
      have e1 : ([x].map rcCells).flatten = rcCells x := by simp
      rw [e1]
      exact ho
    · intro q
      subst q
      rcases HO3.out.2 with ⟨q, _⟩ | ⟨g, o, cs', q, _⟩
      · cases q
      · cases q
end Go.Proofs.Ytegcbdfilkecpaa
/- The reference's disk: change and length, on the plain state; conditions: fewer than 2^40 files and changes, at most 1048576 bytes. -/
namespace Go.Proofs.Ytegcbdfilkecpaa
open Go.RowKit

theorem change_okR (w : World) (d : Rd) (p : Pl) (x : Cg) (h : Rf w d p) (hx : CgOk x) (hn : p.pd.length < 1099511627776) :
    Calls Try.prog 138 #[rdV d p, .agg #[.string x.nm, .int .i64 x.sec, .int .i64 x.n, .string (strOf x.s)]] w fun e w' => ∃ d', e = .returned (rdV d' p) ∧ Rf w' d' (p.pend [x]) ∧ Kp NoB w w' := by
  refine (change_raw w d.fA d.fn d.fc true p.down d.pA d.pn d.pc p.room p.steps p.crash p.starts p.pd x h.pend h.pnil (by have := h.pl; omega)).mono ?_
  rintro e w' ⟨A', c', rfl, hr, hne, hk⟩
  refine ⟨{ d with pA := A', pn := d.pn + 1, pc := c' }, rfl, ?_, hk⟩
  exact
    { files := h.files.keep hk, pend := hr, fnil := h.fnil, pnil := fun q => absurd q hne, fok := h.fok
      cok := fun c hc => by
        rcases List.mem_append.1 hc with q | q
        · exact h.cok c q
        · rw [List.mem_singleton.1 q]; exact hx
      names := h.names, seen := h.seen, kept := h.kept, sum := h.sum, ksum := h.ksum, nf := h.nf, room := h.room, steps := h.steps, crash := h.crash, starts := h.starts }
theorem Rf.at_ {w : World} {d : Rd} {p : Pl} (h : Rf w d p) : Rf w d p.at_ := { h with nf := by show d.fn ≤ p.nf + 1; have := h.nf; omega }
theorem kept_same (p : Pl) (s : ByteArray) : p.setKept s (p.kept s) = p := by
  unfold Pl.setKept
  rw [upd_self, Int.sub_add_cancel]
theorem seen_same (p : Pl) (s : ByteArray) : p.setSeen s (p.seen s) = p := by
  unfold Pl.setSeen
  rw [upd_self, Int.sub_add_cancel]
def rdC (d : Rd) (p : Pl) : Array Value := #[.bool true, .bool p.down, .slice d.fA d.fn d.fc, .slice d.pA d.pn d.pc, .int .i64 p.room, .int .i64 p.steps, .int .i64 p.crash, .int .i64 p.starts]
def rdZ : Array Value := #[.bool false, .bool false, .slice none 0 0, .slice none 0 0, .int .i64 0, .int .i64 0, .int .i64 0, .int .i64 0]
theorem Blk.rdc {w : World} {g : Nat} {t : TypeId} {d : Rd} {p : Pl} (h : Blk w g t (rdC d p)) :
    w.cell? ⟨g, 0, none⟩ = some (.bool true) ∧ w.cell? ⟨g, 1, none⟩ = some (.bool p.down) ∧ w.cell? ⟨g, 2, none⟩ = some (.slice d.fA d.fn d.fc) ∧ w.cell? ⟨g, 3, none⟩ = some (.slice d.pA d.pn d.pc) ∧ w.cell? ⟨g, 4, none⟩ = some (.int .i64 p.room) ∧ w.cell? ⟨g, 5, none⟩ = some (.int .i64 p.steps) ∧ w.cell? ⟨g, 6, none⟩ = some (.int .i64 p.crash) ∧ w.cell? ⟨g, 7, none⟩ = some (.int .i64 p.starts) := Blk.c8 h
theorem blk8 {w : World} {s2 : Nat} {t : TypeId} {a0 a1 a2 a3 a4 a5 a6 a7 : Value} {cs : Array Value} (h : Blk w s2 t cs) (hs : cs.size = 8) : Blk ((((((((w.setCell ⟨s2, 0, none⟩ a0).setCell ⟨s2, 1, none⟩ a1).setCell ⟨s2, 2, none⟩ a2).setCell ⟨s2, 3, none⟩ a3).setCell ⟨s2, 4, none⟩ a4).setCell ⟨s2, 5, none⟩ a5).setCell ⟨s2, 6, none⟩ a6).setCell ⟨s2, 7, none⟩ a7) s2 t #[a0, a1, a2, a3, a4, a5, a6, a7] := by
  have := h.whole #[a0, a1, a2, a3, a4, a5, a6, a7] (by rw [hs]; rfl)
  exact this
theorem kp8 {S : Nat → Prop} {a w : World} {s2 : Nat} {a0 a1 a2 a3 a4 a5 a6 a7 : Value} (h : Kp S a w) (h2 : a.heap.size ≤ s2 ∨ S s2) : Kp S a ((((((((w.setCell ⟨s2, 0, none⟩ a0).setCell ⟨s2, 1, none⟩ a1).setCell ⟨s2, 2, none⟩ a2).setCell ⟨s2, 3, none⟩ a3).setCell ⟨s2, 4, none⟩ a4).setCell ⟨s2, 5, none⟩ a5).setCell ⟨s2, 6, none⟩ a6).setCell ⟨s2, 7, none⟩ a7) :=
  (((((((h.setCell (p := ⟨s2, 0, none⟩) h2 a0).setCell (p := ⟨s2, 1, none⟩) h2 a1).setCell (p := ⟨s2, 2, none⟩) h2 a2).setCell (p := ⟨s2, 3, none⟩) h2 a3).setCell (p := ⟨s2, 4, none⟩) h2 a4).setCell (p := ⟨s2, 5, none⟩) h2 a5).setCell (p := ⟨s2, 6, none⟩) h2 a6).setCell (p := ⟨s2, 7, none⟩) h2 a7
/-- cells without a string -/
def NoStr (cs : Array Value) : Prop := ∀ (i : Nat) (s : ByteArray), cs[i]? ≠ some (Value.string s)
theorem rdC_str (d : Rd) (p : Pl) : NoStr (rdC d p) := by
  intro i s
  unfold rdC
  rcases i with _ | _ | _ | _ | _ | _ | _ | _ | i <;> simp
theorem rdZ_str : NoStr rdZ := by
  intro i s
  unfold rdZ
  rcases i with _ | _ | _ | _ | _ | _ | _ | _ | i <;> simp
theorem Rows.keepB {w w' : World} {A : Option Addr} {n sz g : Nat} {T : TypeId} {cs : Array Value} {xs : List (List Value)} (h : Rows w A n sz xs) (hsz : 0 < sz) (hx : ∀ x ∈ xs, ∃ s, x[0]? = some (.string s)) (k : Kp (OnB g) w w') (hb : Blk w g T cs) (hc : NoStr cs) : Rows w' A n sz xs :=
  ⟨h.1, h.2.1, fun hn => by
    obtain ⟨g', o, t, cs', e, hb', hs, hcs⟩ := h.2.2 hn
    refine ⟨g', o, t, cs', e, hb'.keep k (fun q => ?_), hs, hcs⟩
    have q' : g' = g := q
    subst q'
    have hh : some (Obj.cells cs' t.1 (0, 0)) = some (Obj.cells cs T (0, 0)) := hb'.symm.trans hb
    injection hh with hh
    injection hh with h1 h2
    subst h1
    have h0 : 0 < xs.length := by rw [h.1]; exact hn
    obtain ⟨s, hstr⟩ := hx _ (List.getElem_mem h0)
    have := hcs 0 h0 0 hsz
    rw [hstr] at this
    exact hc _ _ this⟩
theorem rf_str (fs : List Rfile) : ∀ x ∈ fs.map rfCells, ∃ s, x[0]? = some (.string s) := by
  intro x hx
  obtain ⟨f, _, rfl⟩ := List.mem_map.1 hx
  exact ⟨_, rfl⟩
theorem rc_str (cs : List Cg) : ∀ x ∈ cs.map rcCells, ∃ s, x[0]? = some (.string s) := by
  intro x hx
  obtain ⟨f, _, rfl⟩ := List.mem_map.1 hx
  exact ⟨_, rfl⟩
theorem Rf.keepB {w w' : World} {d : Rd} {p : Pl} {g : Nat} {T : TypeId} {cs : Array Value} (h : Rf w d p) (k : Kp (OnB g) w w') (hb : Blk w g T cs) (hc : NoStr cs) : Rf w' d p :=
  { h with files := h.files.keepB (by omega) (rf_str _) k hb hc, pend := h.pend.keepB (by omega) (rc_str _) k hb hc }
set_option maxRecDepth 100000 in
set_option maxHeartbeats 800000 in
theorem length_okR (w : World) (d : Rd) (p : Pl) (s : ByteArray) (n : Nat) (h : Rf w d p) (hs : s.size ≤ maxLen) (hn : n ≤ 1048576) (hnf : p.nf < 1099511627776) (hpd : p.pd.length < 1099511627776) :
    Calls Try.prog 137 #[rdV d p, .string s, .int .i64 (n : Int)] w fun e w' => ∃ d', e = .returned (rdV d' p) ∧ Rf w' d' (p.length s n) ∧ Kp NoB w w' := by
  have H := Lib.hid h
  have HS := Lib.hid hs
  have HNF := Lib.hid hnf
  have HPD := Lib.hid hpd
  have HN := Lib.hid hn
  have hll := (h.look s).1.1
  have HLL := Lib.hid hll
  have hlr := (h.look s).1.2
  have hkl := (h.look s).2
  have HLR := Lib.hid hlr
  have HKL := Lib.hid hkl
  have hsz := strOf_size (p.seen s)
  have hb0 : Blk ((w.alloc (.cells (rdC d p) 56)).alloc (.cells rdZ 56)) w.heap.size 56 (rdC d p) := (Blk.new w _ _).alloc _
  have hb2 : Blk ((w.alloc (.cells (rdC d p) 56)).alloc (.cells rdZ 56)) (w.heap.size + 1) 56 rdZ := Blk.top (by simp)
  have hk : Kp NoB w ((w.alloc (.cells (rdC d p) 56)).alloc (.cells rdZ 56)) := ((Kp.refl NoB w).alloc _).alloc _
  clear h hs hnf hpd hn hlr hkl
  unfold rdV
  go_enter Try.func137, Try.ntmps137
  go_wp2_with fail
  refine (show Calls _ _ #[rdV d p, .string s] _ _ from file_ok _ d p s (H.out.keep hk) HNF.out).mono ?_
  rintro e w2 ⟨rfl, hk2⟩
  have HB0 := Lib.hid (hb0.keep hk2 (fun q => q))
  have HB2 := Lib.hid (hb2.keep hk2 (fun q => q))
  have HK := Lib.hid (hk.trans hk2 (fun _ _ q => q))
  clear hb0 hb2 hk hk2
  generalize hs0 : w.heap.size = s0 at HB0 HB2 ⊢
  have HS0 := Lib.hid hs0
  clear hs0
  have hl0 := HB0.out.lt
  have hl2 := HB2.out.lt
  obtain ⟨c0, c1, c2, c3, c4, c5, c6, c7⟩ := HB0.out.rdc
  obtain ⟨y0, y1, y2, y3, y4, y5, y6, y7⟩ := HB2.out.c8
  obtain ⟨z0, z1, z2, z3, z4, z5, z6, z7⟩ := HB2.out.z8
  unfold fileV
  by_cases hq : (p.seen s).length = n
  · have hL : Hid (p.length s n = p.at_) := Lib.hid (by unfold Pl.length; rw [if_pos hq.symm])
    have hq1 : (((p.seen s).length : Int) == (n : Int)) = true := by simp; omega
    clear hq
    go_wp2_with fail
    have kz : w.heap.size ≤ s0 + 1 := by have := HS0.out; omega
    have hk9 : Kp NoB w _ := (kp8 (a0 := .bool true) (a1 := .bool p.down) (a2 := .slice d.fA d.fn d.fc) (a3 := .slice d.pA d.pn d.pc) (a4 := .int .i64 p.room) (a5 := .int .i64 p.steps) (a6 := .int .i64 p.crash) (a7 := .int .i64 p.starts) HK.out (.inl kz)).alloc (.cells #[.string s, .string (strOf (p.seen s)), .string (strOf (p.kept s))] 137)
    refine bodyPost_ret (results_cell_row rfl _ _ _ _ _ _ _ rfl ((blk8 HB2.out rfl).alloc _) Try.underlying56 rfl (by exact infoRd)) rfl ⟨d, rfl, ?_, hk9⟩
    rw [hL.out]
    exact (H.out.keep hk9).at_
  · have hL : Hid (p.length s n = (p.at_.setSeen s (sizedF (p.seen s) n)).pend [⟨s, -1, n, []⟩]) := Lib.hid (by unfold Pl.length; rw [if_neg (fun q => hq q.symm)])
    have hq1 : (((p.seen s).length : Int) == (n : Int)) = false := by simp; omega
    clear hq
    go_wp2_with fail
    refine (sized_ok _ (p.seen s) n HLL.out HN.out).mono ?_
    rintro e w3 ⟨rfl, hk3⟩
    have HF3 := Lib.hid ((Blk.new w2 137 #[.string s, .string (strOf (p.seen s)), .string (strOf (p.kept s))]).keep hk3 (fun q => q))
    have HK3 := Lib.hid (((HK.out.alloc _).trans hk3 (fun _ _ q => q)))
    have hk23 := ((Kp.refl NoB w2).alloc (.cells #[.string s, .string (strOf (p.seen s)), .string (strOf (p.kept s))] 137)).trans hk3 (fun _ _ q => q)
    have HC0 := Lib.hid (HB0.out.keep hk23 (fun q => q))
    have HC2 := Lib.hid (HB2.out.keep hk23 (fun q => q))
    clear hk3 hk23 c0 c1 c2 c3 c4 c5 c6 c7 y0 y1 y2 y3 y4 y5 y6 y7 z0 z1 z2 z3 z4 z5 z6 z7
    obtain ⟨c0, c1, c2, c3, c4, c5, c6, c7⟩ := HC0.out.rdc
    obtain ⟨d0, d1, d2⟩ := HF3.out.c3
    have f1 := HF3.out.frozen 1
    generalize hf : w2.heap.size = f at HF3 d0 d1 d2 f1 ⊢
    have HF := Lib.hid hf
    rw [hf] at hl0 hl2
    clear hf
    go_wp2_with fail
    have hL2 : (sizedF (p.seen s) n).length ≤ 1048576 := by rw [sizedF_len]; exact HN.out
    have hk4 : Kp NoB w (w3.setCell ⟨f, 1, none⟩ (.string (strOf (sizedF (p.seen s) n)))) := HK3.out.setCell (.inl (by have h1 := HF.out; have h2 := HK.out.size; show w.heap.size ≤ f; omega)) _
    refine (show Calls _ _ #[rdV d p, .agg (fileV s (sizedF (p.seen s) n) (p.kept s))] _ _ from with_ok _ d p ⟨s, sizedF (p.seen s) n, p.kept s⟩ (H.out.keep hk4) ⟨HS.out, sizedF_rng HLR.out n, HKL.out.2, hL2, HKL.out.1⟩ HNF.out).mono ?_
    rintro e w5 ⟨d5, rfl, h5, hk5⟩
    have e5 : (p.at_.setSeen s (sizedF (p.seen s) n)).setKept s (p.kept s) = p.at_.setSeen s (sizedF (p.seen s) n) := kept_same (p.at_.setSeen s (sizedF (p.seen s) n)) s
    have h5' : Rf w5 d5 (p.at_.setSeen s (sizedF (p.seen s) n)) := by rw [← e5]; exact h5
    have HK5 := Lib.hid (hk4.trans hk5 (fun _ _ q => q))
    have HR5 := Lib.hid h5'
    have HD2 := Lib.hid ((HC2.out.far (p := ⟨f, 1, none⟩) (by show s0 + 1 ≠ f; omega) (.string (strOf (sizedF (p.seen s) n)))).keep hk5 (fun q => q))
    have HCG : Hid (CgOk ⟨s, -1, (n : Int), []⟩) := Lib.hid ⟨.inl ⟨rfl, rfl, by show (0 : Int) ≤ (n : Int); omega, by show (n : Int) ≤ 1048576; have := HN.out; omega⟩, by simp, HS.out⟩
    clear h5 e5 h5' hk4 hk5 hL2 c0 c1 c2 c3 c4 c5 c6 c7 d0 d1 d2 f1
    go_wp2_with fail
    refine (show Calls _ _ #[rdV d5 (p.at_.setSeen s (sizedF (p.seen s) n)), .agg #[.string s, .int .i64 (-1), .int .i64 (n : Int), .string (strOf [])]] _ _ from change_okR _ d5 (p.at_.setSeen s (sizedF (p.seen s) n)) ⟨s, -1, (n : Int), []⟩ HR5.out HCG.out HPD.out).mono ?_
    rintro e w6 ⟨d6, rfl, h6, hk6⟩
    have HR6 := Lib.hid h6
    have HE2 := Lib.hid (HD2.out.keep hk6 (fun q => q))
    have HK6 := Lib.hid (HK5.out.trans hk6 (fun _ _ q => q))
    clear h6 hk6
    obtain ⟨y0, y1, y2, y3, y4, y5, y6, y7⟩ := HE2.out.c8
    obtain ⟨z0, z1, z2, z3, z4, z5, z6, z7⟩ := HE2.out.z8
    rw [show rdV d6 (p.at_.setSeen s (sizedF (p.seen s) n)) = rdV d6 p from rfl]
    unfold rdV
    go_wp2_with fail
    have kz : w.heap.size ≤ s0 + 1 := by have := HS0.out; omega
    refine bodyPost_ret (results_cell_row rfl _ _ _ _ _ _ _ rfl (blk8 HE2.out rfl) Try.underlying56 rfl (by exact infoRd)) rfl ⟨d6, rfl, ?_, kp8 HK6.out (.inl kz)⟩
    rw [hL.out]
    exact HR6.out.keepB (kp8 (Kp.refl _ w6) (.inr rfl)) HE2.out rdZ_str
end Go.Proofs.Ytegcbdfilkecpaa
/- The reference's disk: Truncate, on the plain state; condition: fewer than 2^40 files and changes. -/
namespace Go.Proofs.Ytegcbdfilkecpaa
open Go.RowKit

theorem len_nums (p : Pl) (s : ByteArray) (n : Nat) : (p.length s n).down = p.down ∧ (p.length s n).room = p.room ∧ (p.length s n).steps = p.steps ∧ (p.length s n).crash = p.crash ∧ (p.length s n).starts = p.starts := by
  unfold Pl.length
  split <;> exact ⟨rfl, rfl, rfl, rfl, rfl⟩
theorem rdV_len (d : Rd) (p : Pl) (s : ByteArray) (n : Nat) : rdV d p = rdV d (p.length s n) := by
  obtain ⟨h1, h2, h3, h4, h5⟩ := len_nums p s n
  unfold rdV
  rw [h1, h2, h3, h4, h5]
set_option maxRecDepth 100000 in
set_option maxHeartbeats 800000 in
theorem trunc_okR (w : World) (d : Rd) (p : Pl) (s : ByteArray) (n : Int) (h : Rf w d p) (hs : s.size ≤ maxLen) (hn : -9223372036854775808 ≤ n ∧ n ≤ 9223372036854775807) (hnf : p.nf < 1099511627776) (hpd : p.pd.length < 1099511627776) :
    Calls Try.prog 87 #[rdV d p, .string s, .int .i64 n] w fun e w' => ∃ d', e = .returned (.tuple #[rdV d' (p.trunc s n), .int .i64 (p.truncE s n)]) ∧ Rf w' d' (p.trunc s n) ∧ Kp NoB w w' := by
  have H := Lib.hid h
  have HS := Lib.hid hs
  have HNF := Lib.hid hnf
  have HPD := Lib.hid hpd
  have HN := Lib.hid hn
  have hb0 : Blk ((w.alloc (.cells (rdC d p) 56)).alloc (.cells rdZ 56)) w.heap.size 56 (rdC d p) := (Blk.new w _ _).alloc _
  have hb2 : Blk ((w.alloc (.cells (rdC d p) 56)).alloc (.cells rdZ 56)) (w.heap.size + 1) 56 rdZ := Blk.top (by simp)
  have hk : Kp NoB w ((w.alloc (.cells (rdC d p) 56)).alloc (.cells rdZ 56)) := ((Kp.refl NoB w).alloc _).alloc _
  clear h hs hnf hpd hn
  by_cases hd : p.down = true
  · have hw : Hid (p.wrong = 7) := Lib.hid (by unfold Pl.wrong; rw [hd]; rfl)
    have hT : Hid (p.trunc s n = p ∧ p.truncE s n = 7) := Lib.hid (by unfold Pl.trunc Pl.truncE; rw [hd]; simp)
    clear hd
    rw [hT.out.1, hT.out.2]
    unfold rdV
    go_enter Try.func87, Try.ntmps87
    go_wp2_with fail
    refine (show Calls _ _ #[rdV d p] _ _ from wrong_okR _ d p (H.out.keep hk)).mono ?_
    rintro e w2 ⟨rfl, hk2⟩
    rw [hw.out]
    have HB0 := Lib.hid (hb0.keep hk2 (fun q => q))
    have HB2 := Lib.hid (hb2.keep hk2 (fun q => q))
    have HK := Lib.hid (hk.trans hk2 (fun _ _ q => q))
    clear hb0 hb2 hk hk2
    generalize hs0 : w.heap.size = s0 at HB0 HB2 ⊢
    have HS0 := Lib.hid hs0
    have kz : w.heap.size ≤ s0 + 1 := by omega
    clear hs0
    have hl0 := HB0.out.lt
    have hl2 := HB2.out.lt
    obtain ⟨c0, c1, c2, c3, c4, c5, c6, c7⟩ := HB0.out.rdc
    obtain ⟨y0, y1, y2, y3, y4, y5, y6, y7⟩ := HB2.out.c8
    obtain ⟨z0, z1, z2, z3, z4, z5, z6, z7⟩ := HB2.out.z8
    go_wp2_with fail
    refine bodyPost_ret (ret_cell_tmp rfl _ _ _ _ _ _ rfl (blk8 HB2.out rfl) Try.underlying56 rfl (by exact infoRd) _ rfl) rfl ⟨d, rfl, (H.out.keep (kp8 HK.out (.inl kz))), kp8 HK.out (.inl kz)⟩
  · have hd' : p.down = false := by simpa using hd
    have hw : Hid (p.wrong = 0) := Lib.hid (by unfold Pl.wrong; rw [hd']; rfl)
    by_cases hneg : n < 0
    · have hT : Hid (p.trunc s n = p ∧ p.truncE s n = 2) := Lib.hid (by unfold Pl.trunc Pl.truncE; rw [hd']; simp [hneg])
      clear hd hd'
      rw [hT.out.1, hT.out.2]
      unfold rdV
      go_enter Try.func87, Try.ntmps87
      go_wp2_with fail
      refine (show Calls _ _ #[rdV d p] _ _ from wrong_okR _ d p (H.out.keep hk)).mono ?_
      rintro e w2 ⟨rfl, hk2⟩
      rw [hw.out]
      have HB0 := Lib.hid (hb0.keep hk2 (fun q => q))
      have HB2 := Lib.hid (hb2.keep hk2 (fun q => q))
      have HK := Lib.hid (hk.trans hk2 (fun _ _ q => q))
      clear hb0 hb2 hk hk2
      generalize hs0 : w.heap.size = s0 at HB0 HB2 ⊢
      have HS0 := Lib.hid hs0
      have kz : w.heap.size ≤ s0 + 1 := by omega
      clear hs0
      have hl0 := HB0.out.lt
      have hl2 := HB2.out.lt
      obtain ⟨c0, c1, c2, c3, c4, c5, c6, c7⟩ := HB0.out.rdc
      obtain ⟨y0, y1, y2, y3, y4, y5, y6, y7⟩ := HB2.out.c8
      obtain ⟨z0, z1, z2, z3, z4, z5, z6, z7⟩ := HB2.out.z8
      go_wp2_with fail
      refine bodyPost_ret (ret_cell_tmp rfl _ _ _ _ _ _ rfl (blk8 HB2.out rfl) Try.underlying56 rfl (by exact infoRd) _ rfl) rfl ⟨d, rfl, (H.out.keep (kp8 HK.out (.inl kz))), kp8 HK.out (.inl kz)⟩
    · obtain ⟨F, hF⟩ : ∃ F, p.fits s n = F := ⟨_, rfl⟩
      by_cases hf : F = 0
      · subst hf
        have hT : Hid (p.trunc s n = (p.length s n.toNat).step ∧ p.truncE s n = (p.length s n.toNat).stepE) := Lib.hid (by
          unfold Pl.trunc Pl.truncE
          rw [hd', hF]
          simp only [hneg, Bool.false_eq_true, if_false, ne_eq, not_true_eq_false, or_self]
          refine ⟨trivial, ?_⟩
          unfold Pl.stepE
          rw [(len_nums p s n.toNat).2.2.2.1])
        have hn0 : Hid (n.toNat ≤ 1048576 ∧ n = (n.toNat : Int)) := Lib.hid (by
          refine ⟨?_, by omega⟩
          unfold Pl.fits at hF
          by_cases q : 1048576 < n
          · rw [if_pos q] at hF; omega
          · omega)
        have HF := Lib.hid hF
        clear hd hd' hF
        rw [hT.out.1, hT.out.2]
        unfold rdV
        go_enter Try.func87, Try.ntmps87
        go_wp2_with fail
        refine (show Calls _ _ #[rdV d p] _ _ from wrong_okR _ d p (H.out.keep hk)).mono ?_
        rintro e w2 ⟨rfl, hk2⟩
        rw [hw.out]
        have HB0 := Lib.hid (hb0.keep hk2 (fun q => q))
        have HB2 := Lib.hid (hb2.keep hk2 (fun q => q))
        have HK := Lib.hid (hk.trans hk2 (fun _ _ q => q))
        clear hb0 hb2 hk hk2
        generalize hs0 : w.heap.size = s0 at HB0 HB2 ⊢
        have HS0 := Lib.hid hs0
        have kz : w.heap.size ≤ s0 + 1 := by omega
        clear hs0
        have hl0 := HB0.out.lt
        have hl2 := HB2.out.lt
        obtain ⟨c0, c1, c2, c3, c4, c5, c6, c7⟩ := HB0.out.rdc
        obtain ⟨y0, y1, y2, y3, y4, y5, y6, y7⟩ := HB2.out.c8
        obtain ⟨z0, z1, z2, z3, z4, z5, z6, z7⟩ := HB2.out.z8
        go_wp2_with fail
        refine (show Calls _ _ #[rdV d p, .string s, .int .i64 n] _ _ from fits_okR _ d p s n (H.out.keep HK.out) HNF.out (by have := HN.out; omega)).mono ?_
        rintro e w3 ⟨rfl, hk3⟩
        rw [HF.out]
        have HB0' := Lib.hid (HB0.out.keep hk3 (fun q => q))
        have HB2' := Lib.hid (HB2.out.keep hk3 (fun q => q))
        have HK' := Lib.hid (HK.out.trans hk3 (fun _ _ q => q))
        clear hk3 HB0 HB2 HK
        have HB0 := HB0'
        have HB2 := HB2'
        have HK := HK'
        clear HB0' HB2' HK' c0 c1 c2 c3 c4 c5 c6 c7 y0 y1 y2 y3 y4 y5 y6 y7 z0 z1 z2 z3 z4 z5 z6 z7 hl0 hl2
        have hl0 := HB0.out.lt
        have hl2 := HB2.out.lt
        obtain ⟨c0, c1, c2, c3, c4, c5, c6, c7⟩ := HB0.out.rdc
        obtain ⟨y0, y1, y2, y3, y4, y5, y6, y7⟩ := HB2.out.c8
        obtain ⟨z0, z1, z2, z3, z4, z5, z6, z7⟩ := HB2.out.z8
        go_wp2_with fail
        refine (show Calls _ _ #[rdV d p, .string s, .int .i64 n] _ _ from by rw [hn0.out.2]; exact length_okR _ d p s n.toNat (H.out.keep HK.out) HS.out hn0.out.1 HNF.out HPD.out).mono ?_
        rintro e w4 ⟨d4, rfl, h4, hk4⟩
        have HR4 := Lib.hid h4
        have HB0' := Lib.hid (HB0.out.keep hk4 (fun q => q))
        have HB2' := Lib.hid (HB2.out.keep hk4 (fun q => q))
        have HK' := Lib.hid (HK.out.trans hk4 (fun _ _ q => q))
        clear hk4 HB0 HB2 HK
        have HB0 := HB0'
        have HB2 := HB2'
        have HK := HK'
        clear HB0' HB2' HK' c0 c1 c2 c3 c4 c5 c6 c7 y0 y1 y2 y3 y4 y5 y6 y7 z0 z1 z2 z3 z4 z5 z6 z7 hl0 hl2
        have hl0 := HB0.out.lt
        have hl2 := HB2.out.lt
        obtain ⟨c0, c1, c2, c3, c4, c5, c6, c7⟩ := HB0.out.rdc
        obtain ⟨y0, y1, y2, y3, y4, y5, y6, y7⟩ := HB2.out.c8
        obtain ⟨z0, z1, z2, z3, z4, z5, z6, z7⟩ := HB2.out.z8
        clear h4
        go_wp2_with fail
        rw [rdV_len d4 p s n.toNat]
        refine (step_okR w4 d4 (p.length s n.toNat) HR4.out).mono ?_
        rintro e w5 ⟨rfl, h5, hk5⟩
        have HR5 := Lib.hid h5
        have HB0' := Lib.hid (HB0.out.keep hk5 (fun q => q))
        have HB2' := Lib.hid (HB2.out.keep hk5 (fun q => q))
        have HK' := Lib.hid (HK.out.trans hk5 (fun _ _ q => q))
        clear hk5 HB0 HB2 HK
        have HB0 := HB0'
        have HB2 := HB2'
        have HK := HK'
        clear HB0' HB2' HK' c0 c1 c2 c3 c4 c5 c6 c7 y0 y1 y2 y3 y4 y5 y6 y7 z0 z1 z2 z3 z4 z5 z6 z7 hl0 hl2
        have hl0 := HB0.out.lt
        have hl2 := HB2.out.lt
        obtain ⟨c0, c1, c2, c3, c4, c5, c6, c7⟩ := HB0.out.rdc
        obtain ⟨y0, y1, y2, y3, y4, y5, y6, y7⟩ := HB2.out.c8
        obtain ⟨z0, z1, z2, z3, z4, z5, z6, z7⟩ := HB2.out.z8
        clear h5
        unfold rdV
        go_wp2_with fail
        refine bodyPost_ret (ret_cell_tmp rfl _ _ _ _ _ _ rfl (blk8 HB2.out rfl) Try.underlying56 rfl (by exact infoRd) _ rfl) rfl ⟨d4, rfl, (HR5.out.keepB (kp8 (Kp.refl _ w5) (.inr rfl)) HB2.out rdZ_str), kp8 HK.out (.inl kz)⟩
      · have hT : Hid (p.trunc s n = p ∧ p.truncE s n = F) := Lib.hid (by unfold Pl.trunc Pl.truncE; rw [hd', hF]; simp [hneg, hf])
        have HF := Lib.hid hF
        have hf2 : (F != 0) = true := by simpa using hf
        have hf3 : (F == 0) = false := by simpa using hf
        clear hd hd' hF
        rw [hT.out.1, hT.out.2]
        unfold rdV
        go_enter Try.func87, Try.ntmps87
        go_wp2_with fail
        refine (show Calls _ _ #[rdV d p] _ _ from wrong_okR _ d p (H.out.keep hk)).mono ?_
        rintro e w2 ⟨rfl, hk2⟩
        rw [hw.out]
        have HB0 := Lib.hid (hb0.keep hk2 (fun q => q))
        have HB2 := Lib.hid (hb2.keep hk2 (fun q => q))
        have HK := Lib.hid (hk.trans hk2 (fun _ _ q => q))
        clear hb0 hb2 hk hk2
        generalize hs0 : w.heap.size = s0 at HB0 HB2 ⊢
        have HS0 := Lib.hid hs0
        have kz : w.heap.size ≤ s0 + 1 := by omega
        clear hs0
        have hl0 := HB0.out.lt
        have hl2 := HB2.out.lt
        obtain ⟨c0, c1, c2, c3, c4, c5, c6, c7⟩ := HB0.out.rdc
        obtain ⟨y0, y1, y2, y3, y4, y5, y6, y7⟩ := HB2.out.c8
        obtain ⟨z0, z1, z2, z3, z4, z5, z6, z7⟩ := HB2.out.z8
        go_wp2_with fail
        refine (show Calls _ _ #[rdV d p, .string s, .int .i64 n] _ _ from fits_okR _ d p s n (H.out.keep HK.out) HNF.out (by have := HN.out; omega)).mono ?_
        rintro e w3 ⟨rfl, hk3⟩
        rw [HF.out]
        have HB0' := Lib.hid (HB0.out.keep hk3 (fun q => q))
        have HB2' := Lib.hid (HB2.out.keep hk3 (fun q => q))
        have HK' := Lib.hid (HK.out.trans hk3 (fun _ _ q => q))
        clear hk3 HB0 HB2 HK
        have HB0 := HB0'
        have HB2 := HB2'
        have HK := HK'
        clear HB0' HB2' HK' c0 c1 c2 c3 c4 c5 c6 c7 y0 y1 y2 y3 y4 y5 y6 y7 z0 z1 z2 z3 z4 z5 z6 z7 hl0 hl2
        have hl0 := HB0.out.lt
        have hl2 := HB2.out.lt
        obtain ⟨c0, c1, c2, c3, c4, c5, c6, c7⟩ := HB0.out.rdc
        obtain ⟨y0, y1, y2, y3, y4, y5, y6, y7⟩ := HB2.out.c8
        obtain ⟨z0, z1, z2, z3, z4, z5, z6, z7⟩ := HB2.out.z8
        go_wp2_with fail
        refine bodyPost_ret (ret_cell_tmp rfl _ _ _ _ _ _ rfl (blk8 HB2.out rfl) Try.underlying56 rfl (by exact infoRd) _ rfl) rfl ⟨d, rfl, (H.out.keep (kp8 HK.out (.inl kz))), kp8 HK.out (.inl kz)⟩
end Go.Proofs.Ytegcbdfilkecpaa
/- The reference's disk: Sync, on the plain state; condition: fewer than 2^40 files and changes. -/
namespace Go.Proofs.Ytegcbdfilkecpaa
open Go.RowKit

def othC (l : List Cg) (s : ByteArray) : List Cg := l.filter fun c => !decide (c.nm = s)
def SyRel (w7 : World) (l : List Cg) (s : ByteArray) (n : Nat) (v8 v9 : Value) (wr : World) : Prop :=
  ∃ k : Nat, v9 = .int .i64 (k : Int) ∧ k ≤ n ∧ wr.ownsRow w7.heap.size 192 4 v8 (othC (l.take k) s).length ((othC (l.take k) s).map rcCells).flatten ∧ Kp NoB w7 wr
set_option maxRecDepth 100000 in
set_option maxHeartbeats 1600000 in
theorem sync_okR (w : World) (d : Rd) (p : Pl) (s : ByteArray) (h : Rf w d p) (hs : s.size ≤ maxLen) (hnf : p.nf < 1099511627776) (hpd : p.pd.length < 1099511627776) :
    Calls Try.prog 89 #[rdV d p, .string s] w fun e w' => ∃ d', e = .returned (.tuple #[rdV d' (p.sync s), .int .i64 p.syncE]) ∧ Rf w' d' (p.sync s) ∧ Kp NoB w w' := by
  have H := Lib.hid h
  have HS := Lib.hid hs
  have HNF := Lib.hid hnf
  have HPD := Lib.hid hpd
  have hb0 : Blk ((w.alloc (.cells (rdC d p) 56)).alloc (.cells rdZ 56)) w.heap.size 56 (rdC d p) := (Blk.new w _ _).alloc _
  have hb2 : Blk ((w.alloc (.cells (rdC d p) 56)).alloc (.cells rdZ 56)) (w.heap.size + 1) 56 rdZ := Blk.top (by simp)
  have hk : Kp NoB w ((w.alloc (.cells (rdC d p) 56)).alloc (.cells rdZ 56)) := ((Kp.refl NoB w).alloc _).alloc _
  clear h hs hnf hpd
  by_cases hd : p.down = true
  · have hw : Hid (p.wrong = 7) := Lib.hid (by unfold Pl.wrong; rw [hd]; rfl)
    have hT : Hid (p.sync s = p ∧ p.syncE = 7) := Lib.hid (by unfold Pl.sync Pl.syncE; rw [hd]; simp)
    clear hd
    rw [hT.out.1, hT.out.2]
    unfold rdV
    go_enter Try.func89, Try.ntmps89
    go_wp2_with fail
    refine (show Calls _ _ #[rdV d p] _ _ from wrong_okR _ d p (H.out.keep hk)).mono ?_
    rintro e w2 ⟨rfl, hk2⟩
    rw [hw.out]
    have HB0 := Lib.hid (hb0.keep hk2 (fun q => q))
    have HB2 := Lib.hid (hb2.keep hk2 (fun q => q))
    have HK := Lib.hid (hk.trans hk2 (fun _ _ q => q))
    clear hb0 hb2 hk hk2
    generalize hs0 : w.heap.size = s0 at HB0 HB2 ⊢
    have HS0 := Lib.hid hs0
    have kz : w.heap.size ≤ s0 + 1 := by omega
    clear hs0
    have hl0 := HB0.out.lt
    have hl2 := HB2.out.lt
    obtain ⟨c0, c1, c2, c3, c4, c5, c6, c7⟩ := HB0.out.rdc
    obtain ⟨y0, y1, y2, y3, y4, y5, y6, y7⟩ := HB2.out.c8
    obtain ⟨z0, z1, z2, z3, z4, z5, z6, z7⟩ := HB2.out.z8
    go_wp2_with fail
    refine bodyPost_ret (ret_cell_tmp rfl _ _ _ _ _ _ rfl (blk8 HB2.out rfl) Try.underlying56 rfl (by exact infoRd) _ rfl) rfl ⟨d, rfl, (H.out.keep (kp8 HK.out (.inl kz))), kp8 HK.out (.inl kz)⟩
  · have hd' : p.down = false := by simpa using hd
    have hw : Hid (p.wrong = 0) := Lib.hid (by unfold Pl.wrong; rw [hd']; rfl)
    by_cases hc : p.crash = 1
    · have hE : Hid (p.stepE = 7) := Lib.hid (by unfold Pl.stepE; rw [if_pos hc])
      have hT : Hid (p.sync s = p.step ∧ p.syncE = 7) := Lib.hid (by unfold Pl.sync Pl.syncE; rw [hd', hE.out]; simp)
      clear hd hd' hc
      rw [hT.out.1, hT.out.2]
      unfold rdV
      go_enter Try.func89, Try.ntmps89
      go_wp2_with fail
      refine (show Calls _ _ #[rdV d p] _ _ from wrong_okR _ d p (H.out.keep hk)).mono ?_
      rintro e w2 ⟨rfl, hk2⟩
      rw [hw.out]
      have HB0 := Lib.hid (hb0.keep hk2 (fun q => q))
      have HB2 := Lib.hid (hb2.keep hk2 (fun q => q))
      have HK := Lib.hid (hk.trans hk2 (fun _ _ q => q))
      clear hb0 hb2 hk hk2
      generalize hs0 : w.heap.size = s0 at HB0 HB2 ⊢
      have HS0 := Lib.hid hs0
      have kz : w.heap.size ≤ s0 + 1 := by omega
      clear hs0
      have hl0 := HB0.out.lt
      have hl2 := HB2.out.lt
      obtain ⟨c0, c1, c2, c3, c4, c5, c6, c7⟩ := HB0.out.rdc
      obtain ⟨y0, y1, y2, y3, y4, y5, y6, y7⟩ := HB2.out.c8
      obtain ⟨z0, z1, z2, z3, z4, z5, z6, z7⟩ := HB2.out.z8
      go_wp2_with fail
      refine (show Calls _ _ #[rdV d p] _ _ from step_okR _ d p (H.out.keep HK.out)).mono ?_
      rintro e w3 ⟨rfl, h3, hk3⟩
      have HR3 := Lib.hid h3
      rw [hE.out]
      have HB0' := Lib.hid (HB0.out.keep hk3 (fun q => q))
      have HB2' := Lib.hid (HB2.out.keep hk3 (fun q => q))
      have HK' := Lib.hid (HK.out.trans hk3 (fun _ _ q => q))
      clear hk3 HB0 HB2 HK
      have HB0 := HB0'
      have HB2 := HB2'
      have HK := HK'
      clear HB0' HB2' HK' c0 c1 c2 c3 c4 c5 c6 c7 y0 y1 y2 y3 y4 y5 y6 y7 z0 z1 z2 z3 z4 z5 z6 z7 hl0 hl2
      have hl0 := HB0.out.lt
      have hl2 := HB2.out.lt
      obtain ⟨c0, c1, c2, c3, c4, c5, c6, c7⟩ := HB0.out.rdc
      obtain ⟨y0, y1, y2, y3, y4, y5, y6, y7⟩ := HB2.out.c8
      obtain ⟨z0, z1, z2, z3, z4, z5, z6, z7⟩ := HB2.out.z8
      have x0 := HB0.out.frozen 0
      obtain ⟨x0, x1, x2, x3, x4, x5, x6, x7⟩ := HB0.out.z8
      clear h3
      unfold rdV
      go_wp2_with fail
      have kz0 : w.heap.size ≤ s0 := by have := HS0.out; omega
      have hq3 : Kp (OnB s0) w3 (((((((((w3.setCell ⟨s0, 0, none⟩ (.bool true)).setCell ⟨s0, 1, none⟩ (.bool p.step.down)).setCell ⟨s0, 2, none⟩ (.slice d.fA d.fn d.fc)).setCell ⟨s0, 3, none⟩ (.slice d.pA d.pn d.pc)).setCell ⟨s0, 4, none⟩ (.int .i64 p.step.room)).setCell ⟨s0, 5, none⟩ (.int .i64 p.step.steps)).setCell ⟨s0, 6, none⟩ (.int .i64 p.step.crash)).setCell ⟨s0, 7, none⟩ (.int .i64 p.step.starts))) := kp8 (Kp.refl _ w3) (.inr rfl)
      have hz3 := HB2.out.keep hq3 (fun q => by have q' : s0 + 1 = s0 := q; omega)
      refine bodyPost_ret (ret_cell_tmp rfl _ _ _ _ _ _ rfl (blk8 hz3 rfl) Try.underlying56 rfl (by exact infoRd) _ rfl) rfl ⟨d, rfl, ?_, kp8 (kp8 HK.out (.inl kz0)) (.inl kz)⟩
      exact (HR3.out.keepB hq3 HB0.out (rdC_str _ _)).keepB (kp8 (Kp.refl _ _) (.inr rfl)) hz3 rdZ_str
    · have hE : Hid (p.stepE = 0) := Lib.hid (by unfold Pl.stepE; rw [if_neg hc])
      have hT : Hid (p.sync s = { p.step.at_.setKept s (p.seen s) with pd := p.pd.filter fun c => !decide (c.nm = s) } ∧ p.syncE = 0) := Lib.hid (by unfold Pl.sync Pl.syncE; rw [hd', hE.out]; simp)
      clear hd hd' hc
      rw [hT.out.1, hT.out.2]
      unfold rdV
      go_enter Try.func89, Try.ntmps89
      go_wp2_with fail
      refine (show Calls _ _ #[rdV d p] _ _ from wrong_okR _ d p (H.out.keep hk)).mono ?_
      rintro e w2 ⟨rfl, hk2⟩
      rw [hw.out]
      have HB0 := Lib.hid (hb0.keep hk2 (fun q => q))
      have HB2 := Lib.hid (hb2.keep hk2 (fun q => q))
      have HK := Lib.hid (hk.trans hk2 (fun _ _ q => q))
      clear hb0 hb2 hk hk2
      generalize hs0 : w.heap.size = s0 at HB0 HB2 ⊢
      have HS0 := Lib.hid hs0
      have kz : w.heap.size ≤ s0 + 1 := by omega
      clear hs0
      have hl0 := HB0.out.lt
      have hl2 := HB2.out.lt
      obtain ⟨c0, c1, c2, c3, c4, c5, c6, c7⟩ := HB0.out.rdc
      obtain ⟨y0, y1, y2, y3, y4, y5, y6, y7⟩ := HB2.out.c8
      obtain ⟨z0, z1, z2, z3, z4, z5, z6, z7⟩ := HB2.out.z8
      go_wp2_with fail
      refine (show Calls _ _ #[rdV d p] _ _ from step_okR _ d p (H.out.keep HK.out)).mono ?_
      rintro e w3 ⟨rfl, h3, hk3⟩
      have HR3 := Lib.hid h3
      rw [hE.out]
      have HB0' := Lib.hid (HB0.out.keep hk3 (fun q => q))
      have HB2' := Lib.hid (HB2.out.keep hk3 (fun q => q))
      have HK' := Lib.hid (HK.out.trans hk3 (fun _ _ q => q))
      clear hk3 HB0 HB2 HK
      have HB0 := HB0'
      have HB2 := HB2'
      have HK := HK'
      clear HB0' HB2' HK' c0 c1 c2 c3 c4 c5 c6 c7 y0 y1 y2 y3 y4 y5 y6 y7 z0 z1 z2 z3 z4 z5 z6 z7 hl0 hl2
      have hl0 := HB0.out.lt
      have hl2 := HB2.out.lt
      obtain ⟨c0, c1, c2, c3, c4, c5, c6, c7⟩ := HB0.out.rdc
      obtain ⟨y0, y1, y2, y3, y4, y5, y6, y7⟩ := HB2.out.c8
      obtain ⟨z0, z1, z2, z3, z4, z5, z6, z7⟩ := HB2.out.z8
      obtain ⟨x0, x1, x2, x3, x4, x5, x6, x7⟩ := HB0.out.z8
      clear h3
      unfold rdV
      go_wp2_with fail
      have kz0 : w.heap.size ≤ s0 := by have := HS0.out; omega
      have hb4 : Blk (((((((((w3.setCell ⟨s0, 0, none⟩ (.bool true)).setCell ⟨s0, 1, none⟩ (.bool p.step.down)).setCell ⟨s0, 2, none⟩ (.slice d.fA d.fn d.fc)).setCell ⟨s0, 3, none⟩ (.slice d.pA d.pn d.pc)).setCell ⟨s0, 4, none⟩ (.int .i64 p.step.room)).setCell ⟨s0, 5, none⟩ (.int .i64 p.step.steps)).setCell ⟨s0, 6, none⟩ (.int .i64 p.step.crash)).setCell ⟨s0, 7, none⟩ (.int .i64 p.step.starts))) s0 56 (rdC d p.step) := blk8 HB0.out rfl
      have hq4 : Kp (OnB s0) w3 (((((((((w3.setCell ⟨s0, 0, none⟩ (.bool true)).setCell ⟨s0, 1, none⟩ (.bool p.step.down)).setCell ⟨s0, 2, none⟩ (.slice d.fA d.fn d.fc)).setCell ⟨s0, 3, none⟩ (.slice d.pA d.pn d.pc)).setCell ⟨s0, 4, none⟩ (.int .i64 p.step.room)).setCell ⟨s0, 5, none⟩ (.int .i64 p.step.steps)).setCell ⟨s0, 6, none⟩ (.int .i64 p.step.crash)).setCell ⟨s0, 7, none⟩ (.int .i64 p.step.starts))) := kp8 (Kp.refl _ w3) (.inr rfl)
      have hr4 : Rf (((((((((w3.setCell ⟨s0, 0, none⟩ (.bool true)).setCell ⟨s0, 1, none⟩ (.bool p.step.down)).setCell ⟨s0, 2, none⟩ (.slice d.fA d.fn d.fc)).setCell ⟨s0, 3, none⟩ (.slice d.pA d.pn d.pc)).setCell ⟨s0, 4, none⟩ (.int .i64 p.step.room)).setCell ⟨s0, 5, none⟩ (.int .i64 p.step.steps)).setCell ⟨s0, 6, none⟩ (.int .i64 p.step.crash)).setCell ⟨s0, 7, none⟩ (.int .i64 p.step.starts))) d (p.step) := (HR3.out).keepB hq4 HB0.out (rdC_str _ _)
      have hz4 : Blk (((((((((w3.setCell ⟨s0, 0, none⟩ (.bool true)).setCell ⟨s0, 1, none⟩ (.bool p.step.down)).setCell ⟨s0, 2, none⟩ (.slice d.fA d.fn d.fc)).setCell ⟨s0, 3, none⟩ (.slice d.pA d.pn d.pc)).setCell ⟨s0, 4, none⟩ (.int .i64 p.step.room)).setCell ⟨s0, 5, none⟩ (.int .i64 p.step.steps)).setCell ⟨s0, 6, none⟩ (.int .i64 p.step.crash)).setCell ⟨s0, 7, none⟩ (.int .i64 p.step.starts))) (s0 + 1) 56 rdZ := HB2.out.keep hq4 (fun q => by have q' : s0 + 1 = s0 := q; omega)
      have hw4 : Kp NoB w (((((((((w3.setCell ⟨s0, 0, none⟩ (.bool true)).setCell ⟨s0, 1, none⟩ (.bool p.step.down)).setCell ⟨s0, 2, none⟩ (.slice d.fA d.fn d.fc)).setCell ⟨s0, 3, none⟩ (.slice d.pA d.pn d.pc)).setCell ⟨s0, 4, none⟩ (.int .i64 p.step.room)).setCell ⟨s0, 5, none⟩ (.int .i64 p.step.steps)).setCell ⟨s0, 6, none⟩ (.int .i64 p.step.crash)).setCell ⟨s0, 7, none⟩ (.int .i64 p.step.starts))) := kp8 HK.out (.inl kz0)
      clear hq4 HB0 HB2 HK
      generalize ((((((((w3.setCell ⟨s0, 0, none⟩ (.bool true)).setCell ⟨s0, 1, none⟩ (.bool p.step.down)).setCell ⟨s0, 2, none⟩ (.slice d.fA d.fn d.fc)).setCell ⟨s0, 3, none⟩ (.slice d.pA d.pn d.pc)).setCell ⟨s0, 4, none⟩ (.int .i64 p.step.room)).setCell ⟨s0, 5, none⟩ (.int .i64 p.step.steps)).setCell ⟨s0, 6, none⟩ (.int .i64 p.step.crash)).setCell ⟨s0, 7, none⟩ (.int .i64 p.step.starts)) = w4 at hb4 hr4 hz4 hw4 ⊢
      have HB0 := Lib.hid hb4
      have HB2 := Lib.hid hz4
      have HK := Lib.hid hw4
      have HR := Lib.hid hr4
      clear hb4 hz4 hw4 hr4 c0 c1 c2 c3 c4 c5 c6 c7 y0 y1 y2 y3 y4 y5 y6 y7 z0 z1 z2 z3 z4 z5 z6 z7 hl0 hl2 kz0
      have hl0 := HB0.out.lt
      have hl2 := HB2.out.lt
      obtain ⟨c0, c1, c2, c3, c4, c5, c6, c7⟩ := HB0.out.rdc
      obtain ⟨y0, y1, y2, y3, y4, y5, y6, y7⟩ := HB2.out.c8
      obtain ⟨z0, z1, z2, z3, z4, z5, z6, z7⟩ := HB2.out.z8
      refine (show Calls _ _ #[rdV d p.step, .string s] _ _ from file_ok _ d p.step s HR.out HNF.out).mono ?_
      rintro e w5 ⟨rfl, hk5⟩
      have HR5 := Lib.hid (HR.out.keep hk5)
      have HB0' := Lib.hid (HB0.out.keep hk5 (fun q => q))
      have HB2' := Lib.hid (HB2.out.keep hk5 (fun q => q))
      have HK' := Lib.hid (HK.out.trans hk5 (fun _ _ q => q))
      clear hk5 HB0 HB2 HK
      have HB0 := HB0'
      have HB2 := HB2'
      have HK := HK'
      clear HB0' HB2' HK' c0 c1 c2 c3 c4 c5 c6 c7 y0 y1 y2 y3 y4 y5 y6 y7 z0 z1 z2 z3 z4 z5 z6 z7 hl0 hl2
      have hl0 := HB0.out.lt
      have hl2 := HB2.out.lt
      obtain ⟨c0, c1, c2, c3, c4, c5, c6, c7⟩ := HB0.out.rdc
      obtain ⟨y0, y1, y2, y3, y4, y5, y6, y7⟩ := HB2.out.c8
      obtain ⟨z0, z1, z2, z3, z4, z5, z6, z7⟩ := HB2.out.z8
      have hfn : ∀ g, g = w5.heap.size → g ≠ s0 ∧ g ≠ s0 + 1 := fun g e => by omega
      unfold fileV
      go_wp2_with fail
      have hkf : Kp NoB w5 (w5.alloc (.cells #[.string s, .string (strOf (p.seen s)), .string (strOf (p.seen s))] 137)) := (Kp.refl NoB w5).alloc _
      have hlk := HR5.out.look s
      refine (show Calls _ _ #[rdV d p.step, .agg (fileV s (p.seen s) (p.seen s))] _ _ from with_ok _ d p.step ⟨s, p.seen s, p.seen s⟩ (HR5.out.keep hkf) ⟨HS.out, hlk.1.2, hlk.1.2, hlk.1.1, hlk.1.1⟩ HNF.out).mono ?_
      rintro e w6 ⟨d6, rfl, h6, hk6⟩
      have hk56 := hkf.trans hk6 (fun _ _ q => q)
      have HR6 : Hid (Rf w6 d6 (p.step.at_.setKept s (p.seen s))) := Lib.hid (by
        have e6 : (p.step.at_.setSeen s (p.seen s)).setKept s (p.seen s) = p.step.at_.setKept s (p.seen s) := by rw [show p.step.at_.setSeen s (p.seen s) = p.step.at_ from seen_same p.step.at_ s]
        rw [← e6]; exact h6)
      clear h6 hlk hkf hk6 hfn
      have HB0' := Lib.hid (HB0.out.keep hk56 (fun q => q))
      have HB2' := Lib.hid (HB2.out.keep hk56 (fun q => q))
      have HK' := Lib.hid (HK.out.trans hk56 (fun _ _ q => q))
      clear hk56 HB0 HB2 HK
      have HB0 := HB0'
      have HB2 := HB2'
      have HK := HK'
      clear HB0' HB2' HK' c0 c1 c2 c3 c4 c5 c6 c7 y0 y1 y2 y3 y4 y5 y6 y7 z0 z1 z2 z3 z4 z5 z6 z7 hl0 hl2
      have hl0 := HB0.out.lt
      have hl2 := HB2.out.lt
      obtain ⟨c0, c1, c2, c3, c4, c5, c6, c7⟩ := HB0.out.rdc
      obtain ⟨y0, y1, y2, y3, y4, y5, y6, y7⟩ := HB2.out.c8
      obtain ⟨z0, z1, z2, z3, z4, z5, z6, z7⟩ := HB2.out.z8
      obtain ⟨x0, x1, x2, x3, x4, x5, x6, x7⟩ := HB0.out.z8
      unfold rdV
      go_upto_region 10 with fail
      have kz0 : w.heap.size ≤ s0 := by have := HS0.out; omega
      have hb4 : Blk (((((((((w6.setCell ⟨s0, 0, none⟩ (.bool true)).setCell ⟨s0, 1, none⟩ (.bool p.step.down)).setCell ⟨s0, 2, none⟩ (.slice d6.fA d6.fn d6.fc)).setCell ⟨s0, 3, none⟩ (.slice d6.pA d6.pn d6.pc)).setCell ⟨s0, 4, none⟩ (.int .i64 p.step.room)).setCell ⟨s0, 5, none⟩ (.int .i64 p.step.steps)).setCell ⟨s0, 6, none⟩ (.int .i64 p.step.crash)).setCell ⟨s0, 7, none⟩ (.int .i64 p.step.starts))) s0 56 (rdC d6 p.step) := blk8 HB0.out rfl
      have hq4 : Kp (OnB s0) w6 (((((((((w6.setCell ⟨s0, 0, none⟩ (.bool true)).setCell ⟨s0, 1, none⟩ (.bool p.step.down)).setCell ⟨s0, 2, none⟩ (.slice d6.fA d6.fn d6.fc)).setCell ⟨s0, 3, none⟩ (.slice d6.pA d6.pn d6.pc)).setCell ⟨s0, 4, none⟩ (.int .i64 p.step.room)).setCell ⟨s0, 5, none⟩ (.int .i64 p.step.steps)).setCell ⟨s0, 6, none⟩ (.int .i64 p.step.crash)).setCell ⟨s0, 7, none⟩ (.int .i64 p.step.starts))) := kp8 (Kp.refl _ w6) (.inr rfl)
      have hr4 : Rf (((((((((w6.setCell ⟨s0, 0, none⟩ (.bool true)).setCell ⟨s0, 1, none⟩ (.bool p.step.down)).setCell ⟨s0, 2, none⟩ (.slice d6.fA d6.fn d6.fc)).setCell ⟨s0, 3, none⟩ (.slice d6.pA d6.pn d6.pc)).setCell ⟨s0, 4, none⟩ (.int .i64 p.step.room)).setCell ⟨s0, 5, none⟩ (.int .i64 p.step.steps)).setCell ⟨s0, 6, none⟩ (.int .i64 p.step.crash)).setCell ⟨s0, 7, none⟩ (.int .i64 p.step.starts))) d6 (p.step.at_.setKept s (p.seen s)) := (HR6.out).keepB hq4 HB0.out (rdC_str _ _)
      have hz4 : Blk (((((((((w6.setCell ⟨s0, 0, none⟩ (.bool true)).setCell ⟨s0, 1, none⟩ (.bool p.step.down)).setCell ⟨s0, 2, none⟩ (.slice d6.fA d6.fn d6.fc)).setCell ⟨s0, 3, none⟩ (.slice d6.pA d6.pn d6.pc)).setCell ⟨s0, 4, none⟩ (.int .i64 p.step.room)).setCell ⟨s0, 5, none⟩ (.int .i64 p.step.steps)).setCell ⟨s0, 6, none⟩ (.int .i64 p.step.crash)).setCell ⟨s0, 7, none⟩ (.int .i64 p.step.starts))) (s0 + 1) 56 rdZ := HB2.out.keep hq4 (fun q => by have q' : s0 + 1 = s0 := q; omega)
      have hw4 : Kp NoB w (((((((((w6.setCell ⟨s0, 0, none⟩ (.bool true)).setCell ⟨s0, 1, none⟩ (.bool p.step.down)).setCell ⟨s0, 2, none⟩ (.slice d6.fA d6.fn d6.fc)).setCell ⟨s0, 3, none⟩ (.slice d6.pA d6.pn d6.pc)).setCell ⟨s0, 4, none⟩ (.int .i64 p.step.room)).setCell ⟨s0, 5, none⟩ (.int .i64 p.step.steps)).setCell ⟨s0, 6, none⟩ (.int .i64 p.step.crash)).setCell ⟨s0, 7, none⟩ (.int .i64 p.step.starts))) := kp8 HK.out (.inl kz0)
      clear hq4 HB0 HB2 HK
      generalize ((((((((w6.setCell ⟨s0, 0, none⟩ (.bool true)).setCell ⟨s0, 1, none⟩ (.bool p.step.down)).setCell ⟨s0, 2, none⟩ (.slice d6.fA d6.fn d6.fc)).setCell ⟨s0, 3, none⟩ (.slice d6.pA d6.pn d6.pc)).setCell ⟨s0, 4, none⟩ (.int .i64 p.step.room)).setCell ⟨s0, 5, none⟩ (.int .i64 p.step.steps)).setCell ⟨s0, 6, none⟩ (.int .i64 p.step.crash)).setCell ⟨s0, 7, none⟩ (.int .i64 p.step.starts)) = w7 at hb4 hr4 hz4 hw4 ⊢
      have HB0 := Lib.hid hb4
      have HB2 := Lib.hid hz4
      have HK := Lib.hid hw4
      have HR := Lib.hid hr4
      clear hb4 hz4 hw4 hr4 c0 c1 c2 c3 c4 c5 c6 c7 y0 y1 y2 y3 y4 y5 y6 y7 z0 z1 z2 z3 z4 z5 z6 z7 hl0 hl2 kz0
      have hl0 := HB0.out.lt
      have hl2 := HB2.out.lt
      obtain ⟨c0, c1, c2, c3, c4, c5, c6, c7⟩ := HB0.out.rdc
      obtain ⟨y0, y1, y2, y3, y4, y5, y6, y7⟩ := HB2.out.c8
      obtain ⟨z0, z1, z2, z3, z4, z5, z6, z7⟩ := HB2.out.z8
      have HPN : Hid (Rows w7 d6.pA d6.pn 4 (p.pd.map rcCells)) := Lib.hid HR.out.pend
      have HPL : Hid (p.pd.length = d6.pn) := Lib.hid HR.out.pl
      obtain ⟨pA, hpA⟩ : ∃ x, d6.pA = x := ⟨_, rfl⟩
      obtain ⟨pn, hpn⟩ : ∃ x, d6.pn = x := ⟨_, rfl⟩
      obtain ⟨pc, hpc⟩ : ∃ x, d6.pc = x := ⟨_, rfl⟩
      rw [hpA, hpn, hpc] at c3
      rw [hpA, hpn] at HPN
      rw [hpn] at HPL
      have HC3 : Hid (∀ wr, Kp NoB w7 wr → wr.cell? ⟨s0, 3, none⟩ = some (.slice pA pn pc)) := Lib.hid (fun wr k => (k.cell hl0 (fun q => q)).trans c3)
      have HNN : Hid (pn < 1099511627776) := Lib.hid (by have := HPL.out; have := HPD.out; omega)
      clear hpA hpn hpc
      obtain ⟨j0, hj0, hj1⟩ := Option.map_eq_some_iff.1 infoRch
      simp only [Prod.mk.injEq] at hj1
      have HJ0 := Lib.hid hj0
      have HY0 := Lib.hid hj1.1
      have HY1 := Lib.hid hj1.2.1
      have HY2 := Lib.hid hj1.2.2
      clear hj0 hj1
      have HL7 := Lib.hid hl0
      go_wp2_with fail
      go_loopw [8, 9] (fun v8 v9 wr => SyRel w7 p.pd s pn v8 v9 wr) (fun _ v _ => pn - (intOf v).toNat)
      case atStart => exact ⟨0, rfl, Nat.zero_le _, by rw [List.take_zero]; exact World.ownsRow_nil _ _ _ _, Kp.refl _ _⟩
      case round =>
        obtain ⟨wq, rfl⟩ : ∃ wq, wq = wr := ⟨_, rfl⟩
        obtain ⟨k, rfl, hk, how, hkp⟩ := hrel
        have HOW := Lib.hid how
        have HKP := Lib.hid hkp
        have c3 := HC3.out wq hkp
        obtain ⟨A8, cap8, rfl⟩ := own_slice how
        have hnn := HNN.out
        clear how
        by_cases hlt : k < pn
        · have hkl : k < p.pd.length := by have := HPL.out; omega
          obtain ⟨x, hx⟩ : ∃ x, p.pd[k] = x := ⟨_, rfl⟩
          have hxk : p.pd[k]? = some x := by rw [List.getElem?_eq_getElem hkl, hx]
          have hnext : othC (p.pd.take (k + 1)) s = othC (p.pd.take k) s ++ (if x.nm = s then [] else [x]) := by
            unfold othC
            rw [List.take_add_one, hxk, List.filter_append]
            by_cases q : x.nm = s
            · simp [q]
            · simp [q]
          obtain ⟨g, o, rfl, hg, hc⟩ := (HPN.out.keep hkp).cell (k := k) (x := rcCells x) (by rw [List.getElem?_map, hxk]; rfl)
          have q0 := hc 0 _ rfl
          have q1 := hc 1 _ rfl
          have q2 := hc 2 _ rfl
          have q3 := hc 3 _ rfl
          rw [Nat.add_zero] at q0
          have hkk : (k : Int) < (pn : Int) := by omega
          have HNX := Lib.hid hnext
          clear hc hx hxk hkl hnext
          have hb := str_eqB x.nm s
          by_cases he : x.nm = s
          · rw [decide_eq_true he] at hb
            have HE := Lib.hid he
            clear he
            go_wp2_with fail
            go_roundw
            case rel => exact ⟨k + 1, by go_num, by omega, by rw [HNX.out, if_pos HE.out, List.append_nil]; exact HOW.out, HKP.out⟩
            case measure => simp [intOf]; omega
          · rw [decide_eq_false he] at hb
            have HE := Lib.hid he
            clear he
            have hml : (othC (p.pd.take k) s).length ≤ pn := by
              unfold othC
              refine Nat.le_trans (List.length_filter_le _ _) ?_
              rw [List.length_take]
              have := HPL.out
              omega
            have HML := Lib.hid hml
            obtain ⟨m, hm⟩ : ∃ m, (othC (p.pd.take k) s).length = m := ⟨_, rfl⟩
            rw [hm] at HOW HML
            have HM := Lib.hid hm
            rw [hm]
            clear hm hml
            go_wp2_with (at_builtin; refine wpList_append_ownB rfl _ _ 54 rfl w7.heap.size 192 j0 _ 4 48 Try.underlying54 HJ0.out HY0.out HY1.out HY2.out rfl (by omega) _ m ((othC (p.pd.take k) s).map rcCells).flatten rfl (own_keepB HOW.out ((Kp.refl NoB wq).alloc _) (fun _ _ q => q)) ⟨wq.heap.size, 0, none⟩ 1 1 (rcCells x) rfl rfl (cells_newR _ _ _) (fun u hu => rc_one [x] u (by simpa using hu)) (by have := HML.out; have := HNN.out; unfold maxLen; omega) (by have := HML.out; have := HNN.out; omega) (by have := HKP.out.size; simp; omega) ?_; intro v3 w9 hown3 hgrow3 _; have HO3 := Lib.hid hown3; have hk3 := (HKP.out.alloc _).own hgrow3 rfl HOW.out; have HK3 := Lib.hid hk3; clear hown3 hgrow3)
            go_roundw
            case rel => exact ⟨k + 1, by go_num, by omega, by
              rw [HNX.out, if_neg HE.out, List.map_append, List.flatten_append, List.length_append, HM.out]
              have e1 : ([x].map rcCells).flatten = rcCells x := by simp
              rw [e1]
              exact HO3.out, HK3.out⟩
            case measure => simp [intOf]; omega
        · have hkk : ¬ (k : Int) < (pn : Int) := by omega
          obtain rfl : k = pn := by omega
          have eF : othC (p.pd.take k) s = othC p.pd s := by rw [List.take_of_length_le (by have := HPL.out; omega)]
          rw [eF] at HOW
          rw [eF]
          obtain ⟨m, hm⟩ : ∃ m, (othC p.pd s).length = m := ⟨_, rfl⟩
          rw [hm] at HOW ⊢
          have hb0 := HB0.out.keep hkp (fun q => q)
          have hb2 := HB2.out.keep hkp (fun q => q)
          have HX2 := Lib.hid hb2
          clear c3
          obtain ⟨c0, c1, c2, c3', c4, c5, c6, c7⟩ := hb0.rdc
          obtain ⟨y0, y1, y2, y3, y4, y5, y6, y7⟩ := hb2.c8
          obtain ⟨z0, z1, z2, z3, z4, z5, z6, z7⟩ := hb2.z8
          have f3 := hb0.frozen 3
          have hl0 := hb0.lt
          have hl2 := hb2.lt
          clear hb0 hb2 eF
          have c3 := HC3.out wq hkp
          clear c3'
          have HM := Lib.hid hm
          clear hm
          go_wp2_with fail
          have kz0 : w.heap.size ≤ s0 := by have := HS0.out; omega
          have hb0 := HB0.out.keep HKP.out (fun q => q)
          have kpA : Kp (OnB s0) wq (wq.setCell ⟨s0, 3, none⟩ (.slice A8 m cap8)) := (Kp.refl (OnB s0) wq).setAt (g := s0) rfl 3 _
          have hz : Blk (wq.setCell ⟨s0, 3, none⟩ (.slice A8 m cap8)) (s0 + 1) 56 rdZ := HX2.out.keep kpA (fun q => by have q' : s0 + 1 = s0 := q; omega)
          have R2 := ((HR.out.keep HKP.out).keepB kpA hb0 (rdC_str _ _)).keepB (kp8 (a0 := .bool true) (a1 := .bool p.step.down) (a2 := .slice d6.fA d6.fn d6.fc) (a3 := .slice A8 m cap8) (a4 := .int .i64 p.step.room) (a5 := .int .i64 p.step.steps) (a6 := .int .i64 p.step.crash) (a7 := .int .i64 p.step.starts) (Kp.refl _ _) (.inr rfl)) hz rdZ_str
          refine bodyPost_ret (ret_cell_tmp rfl _ _ _ _ _ _ rfl (blk9 HX2.out rfl (by omega)) Try.underlying56 rfl (by exact infoRd) _ rfl) rfl ⟨{ d6 with pA := A8, pn := m, pc := cap8 }, rfl, ?_, kp9 (HK.out.trans HKP.out (fun _ _ q => q)) (.inl kz0) (.inl kz)⟩
          have hkp9 := kp9 (S := fun b => b = s0 ∨ b = s0 + 1) (s0 := s0) (s2 := s0 + 1) (i := 3) (y := .slice A8 m cap8) (a0 := .bool true) (a1 := .bool p.step.down) (a2 := .slice d6.fA d6.fn d6.fc) (a3 := .slice A8 m cap8) (a4 := .int .i64 p.step.room) (a5 := .int .i64 p.step.steps) (a6 := .int .i64 p.step.crash) (a7 := .int .i64 p.step.starts) (Kp.refl _ wq) (.inr (.inl rfl)) (.inr (.inr rfl))
          have ho := own_keepB HOW.out hkp9 (fun g hg q => by
            have h1 := own_ge HOW.out g hg
            have h2 := HB0.out.lt
            have h3 := HB2.out.lt
            rcases q with q | q <;> omega)
          exact
            { files := R2.files, fnil := R2.fnil, fok := R2.fok, names := R2.names, seen := R2.seen, kept := R2.kept, sum := R2.sum, ksum := R2.ksum, nf := R2.nf, room := R2.room, steps := R2.steps, crash := R2.crash, starts := R2.starts
              pend := Rows.own (base := w7.heap.size) (e := 192) (cap := cap8) ho (by rw [List.length_map]; exact HM.out) (rc_len _)
              pnil := own_nil ho
              cok := fun c hc => R2.cok c (List.mem_filter.1 hc).1 }
end Go.Proofs.Ytegcbdfilkecpaa
