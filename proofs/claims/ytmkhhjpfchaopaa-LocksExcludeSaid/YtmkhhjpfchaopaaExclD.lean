/- LocksExclude: one kind of step in a round; no condition. -/
import Derived.Test.YtmkhhjpfchaopaaExclW
namespace Go.Proofs.Ytmkhhjpfchaopaa
open Go.RowKit

set_option maxRecDepth 100000 in
set_option maxHeartbeats 3200000 in
theorem excl_round_d (w wr : World) (A : Option Addr) (n cap b k sb so : Nat) (c0 l0 : Int) (c3 c4 c5 c13 c14 c15 c16 c17 c18 c19 c99 c100 c101 c102 c103 c104 c105 c106 c107 c108 c109 c110 c111 c112 c113 c114 c115 c116 c117 c118 c119 c120 c121 c122 c123 c124 c125 c126 c127 c128 c129 u6 u9 u10 u11 u12 u20 u21 u22 u23 u24 u25 u26 u27 u28 u29 u30 u31 u32 u33 u34 u35 u36 u37 u38 u39 u40 u41 u42 u43 u44 u45 u46 u47 u48 u49 u50 u51 u52 u53 u54 u55 u56 u57 u58 u59 u60 u61 u62 u63 u64 u65 u66 u67 u68 u69 u70 u71 u72 u73 u74 u75 u76 u77 u78 u79 u80 u81 u82 u83 u84 u85 u86 u87 u88 u89 u90 u91 u92 u93 u94 u95 u96 u97 u98 : Value) (hs : List Int) (d a c l : Int) (Q0 : Exit → Act → World → Prop)
    (hn : n ≤ 200) (hk : k < n) (HT : Hid (Tab wr b hs)) (HL : Hid (LInv hs)) (HK : Hid (Kp NoB w wr)) (hb : w.heap.size ≤ b) (hA : Hid (A = some ⟨sb, so, none⟩))
    (e0 : wr.cell? ⟨sb, so + k * 4, none⟩ = some (.int .i64 d)) (e1 : wr.cell? ⟨sb, so + k * 4 + 1, none⟩ = some (.int .i64 a)) (e2 : wr.cell? ⟨sb, so + k * 4 + 2, none⟩ = some (.int .i64 c)) (e3 : wr.cell? ⟨sb, so + k * 4 + 3, none⟩ = some (.int .i64 l))
    (hd : (d == 1) = true) :
    Code.wp Try.prog exclBody (Exit.then (fun a' w'' => EW w A n cap b c0 l0 c3 c4 c5 c13 c14 c15 c16 c17 c18 c19 c99 c100 c101 c102 c103 c104 c105 c106 c107 c108 c109 c110 c111 c112 c113 c114 c115 c116 c117 c118 c119 c120 c121 c122 c123 c124 c125 c126 c127 c128 c129 a' w'' ∧ Pmu8 n a' w'' < Pmu8 n ⟨#[.slice A n cap, .int .i64 c0, .int .i64 l0, c3, c4, c5, u6, .pointer (some ⟨b, 0, none⟩), .int .i64 k, u9, u10, u11, u12, c13, c14, c15, c16, c17, c18, c19, u20, u21, u22, u23, u24, u25, u26, u27, u28, u29, u30, u31, u32, u33, u34, u35, u36, u37, u38, u39, u40, u41, u42, u43, u44, u45, u46, u47, u48, u49, u50, u51, u52, u53, u54, u55, u56, u57, u58, u59, u60, u61, u62, u63, u64, u65, u66, u67, u68, u69, u70, u71, u72, u73, u74, u75, u76, u77, u78, u79, u80, u81, u82, u83, u84, u85, u86, u87, u88, u89, u90, u91, u92, u93, u94, u95, u96, u97, u98, c99, c100, c101, c102, c103, c104, c105, c106, c107, c108, c109, c110, c111, c112, c113, c114, c115, c116, c117, c118, c119, c120, c121, c122, c123, c124, c125, c126, c127, c128, c129], []⟩ wr) Q0) ⟨#[.slice A n cap, .int .i64 c0, .int .i64 l0, c3, c4, c5, u6, .pointer (some ⟨b, 0, none⟩), .int .i64 k, u9, u10, u11, u12, c13, c14, c15, c16, c17, c18, c19, u20, u21, u22, u23, u24, u25, u26, u27, u28, u29, u30, u31, u32, u33, u34, u35, u36, u37, u38, u39, u40, u41, u42, u43, u44, u45, u46, u47, u48, u49, u50, u51, u52, u53, u54, u55, u56, u57, u58, u59, u60, u61, u62, u63, u64, u65, u66, u67, u68, u69, u70, u71, u72, u73, u74, u75, u76, u77, u78, u79, u80, u81, u82, u83, u84, u85, u86, u87, u88, u89, u90, u91, u92, u93, u94, u95, u96, u97, u98, c99, c100, c101, c102, c103, c104, c105, c106, c107, c108, c109, c110, c111, c112, c113, c114, c115, c116, c117, c118, c119, c120, c121, c122, c123, c124, c125, c126, c127, c128, c129], []⟩ wr := by
  obtain ⟨r, hr⟩ : ∃ r, dropI hs c l = r := ⟨_, rfl⟩
  obtain ⟨x, hs'⟩ := r
  have HR := Lib.hid hr
  have HL' := Lib.hid (show LInv hs' by have := HL.out.drop c l; rw [hr] at this; exact this)
  have HO := Lib.hid (show ∀ o : Nat, x ≠ 0 ∨ (o : Int) ≠ c → hs'[o]?.getD 0 = hs[o]?.getD 0 by have := drop_other hs c l; rw [hr] at this; exact this)
  clear hr
  conv => arg 2; whnf
  rw [hA.out]
  have y6 := Lib.hid (Blk.new wr 32 #[.int .i64 d, .int .i64 a, .int .i64 c, .int .i64 l])
  have HT0 := Lib.hid (HT.out.keep ((Kp.refl NoB wr).alloc (.cells #[.int .i64 d, .int .i64 a, .int .i64 c, .int .i64 l] 32)) (fun q => q))
  go_wp2_with (first
    | (go_at_call 11; go_must (refine (copy_ok _ b hs HT0.out).mono ?_); rintro e w2 ⟨rfl, hT2, hk2⟩; have HTc := Lib.hid hT2; have HT2 := Lib.hid (HT0.out.keep hk2 (fun q => q)); have Y2 := Lib.hid (y6.out.keep hk2 (fun q => q)); have f0 : w2.cell? ⟨wr.heap.size, 0, none⟩ = some (.int .i64 d) := Y2.out.cell 0; have f2 : w2.cell? ⟨wr.heap.size, 2, none⟩ = some (.int .i64 c) := Y2.out.cell 2; have f3 : w2.cell? ⟨wr.heap.size, 3, none⟩ = some (.int .i64 l) := Y2.out.cell 3; have HK2 := Lib.hid ((HK.out.alloc (.cells #[.int .i64 d, .int .i64 a, .int .i64 c, .int .i64 l] 32)).trans hk2 (fun _ _ q => q)); have hsz := hk2.size; simp only [World.size_alloc] at hsz; have hbl := HT.out.lt; clear hT2 hk2)
    | (go_at_call 9; go_must (refine (drop_ok w2 b hs c l HT2.out).mono ?_); rw [HR.out]; rintro e w3 ⟨rfl, hT3, hk3⟩; have HT3 := Lib.hid hT3; have HTd := Lib.hid (HTc.out.keep hk3 (fun q => by unfold OnB at q; simp at q; omega)); have f4 : w3.cell? ⟨wr.heap.size, 2, none⟩ = some (.int .i64 c) := (Y2.out.keep hk3 (fun q => by unfold OnB at q; omega)).cell 2; have HK3 := Lib.hid (HK2.out.trans hk3 (fun i hi q => by unfold OnB at q; omega)); clear hT3 hk3 f0 f2 f3 e0 e1 e2 e3))
  have R8 := Lib.hid (HL'.out.len)
  go_loop [12] (fun o => ∃ j : Nat, j ≤ 8 ∧ o = .int .i64 j) (fun o => 8 - (intOf o).toNat)
  case atStart => exact ⟨0, by omega, rfl⟩
  case round =>
    obtain ⟨j, hj, rfl⟩ := hrel
    by_cases hj8 : j < 8
    · by_cases hx : x = 0
      · have hx0 : (x == 0) = true := by simp [hx]
        have HX := Lib.hid hx
        clear hx
        by_cases hjc : (j : Int) = c
        · have HJ := Lib.hid hjc
          have hjb : ((j : Int) == c) = true := by simp [hjc]
          have hjb' : ((j : Int) != c) = false := by simp [hjc]
          have hx1 : (x != 0) = false := by simp [HX.out]
          clear hjc
          go_wp2
          exact ⟨⟨j + 1, by omega, by congr 1 <;> omega⟩, by simp [intOf]; omega⟩
        · have hjb' : ((j : Int) != c) = true := by simp [hjc]
          have hx1 : (x != 0) = false := by simp [HX.out]
          have HE := Lib.hid (HO.out j (.inr hjc))
          obtain ⟨g, hg⟩ : ∃ g, hs[j]?.getD 0 = g := ⟨_, rfl⟩
          have HG := Lib.hid hg
          have HG' := Lib.hid (HE.out.trans hg)
          clear hjc hg
          go_wp2_with (first
            | (go_at_call_of 13 (Value.pointer (some ⟨b, 0, none⟩)); go_must (refine (has_is _ b hs' j g HT3.out (by rw [← HG'.out]; unfold hasI; rw [if_neg (by omega)]; simp)).mono ?_); rintro e w' ⟨rfl, rfl⟩)
            | (go_at_call 13; go_must (refine (has_is _ (wr.heap.size + 1) hs j g (by simpa using HTd.out) (by rw [← HG.out]; unfold hasI; rw [if_neg (by omega)]; simp)).mono ?_); rintro e w' ⟨rfl, rfl⟩))
          exact ⟨⟨j + 1, by omega, by congr 1 <;> omega⟩, by simp [intOf]; omega⟩
      · have HE := Lib.hid (HO.out j (.inl hx))
        have hx1 : (x != 0) = true := by simp [hx]
        obtain ⟨g, hg⟩ : ∃ g, hs[j]?.getD 0 = g := ⟨_, rfl⟩
        have HG := Lib.hid hg
        have HG' := Lib.hid (HE.out.trans hg)
        clear hx hg
        go_wp2_with (first
          | (go_at_call_of 13 (Value.pointer (some ⟨b, 0, none⟩)); go_must (refine (has_is _ b hs' j g HT3.out (by rw [← HG'.out]; unfold hasI; rw [if_neg (by omega)]; simp)).mono ?_); rintro e w' ⟨rfl, rfl⟩)
          | (go_at_call 13; go_must (refine (has_is _ (wr.heap.size + 1) hs j g (by simpa using HTd.out) (by rw [← HG.out]; unfold hasI; rw [if_neg (by omega)]; simp)).mono ?_); rintro e w' ⟨rfl, rfl⟩))
        all_goals exact ⟨⟨j + 1, by omega, by congr 1 <;> omega⟩, by simp [intOf]; omega⟩
    · obtain rfl : j = 8 := by omega
      obtain ⟨q1, q2, q3⟩ := HL'.out.counts
      have HQ3 := Lib.hid q3
      have tp : ∀ m : Int, 0 ≤ m → m ≤ 3 → holdT true hs' m = holdK hs' m 8 := fun m h0 h3 => by
        unfold holdT holdI
        rw [if_pos rfl, if_pos (by unfold wrongI; rw [if_neg (by omega)])]
      have TP := Lib.hid tp
      obtain ⟨n2, hn2⟩ : ∃ n2, (holdK hs' 2 8).length = n2 := ⟨_, rfl⟩
      obtain ⟨n3, hn3⟩ : ∃ n3, (holdK hs' 3 8).length = n3 := ⟨_, rfl⟩
      rw [hn2] at q1
      rw [hn3] at q2
      have N2 := Lib.hid hn2
      have N3 := Lib.hid hn3
      have Q2 := Lib.hid q2
      clear hn2 hn3 q2 q3 tp
      have P3 : Hid (TP' w3 b hs') := Lib.hid (.inr ⟨b, rfl, rfl, HT3.out⟩)
      by_cases h31 : n3 = 1
      · subst h31
        have N1 := Lib.hid (Q2.out rfl)
        go_wp2_with (first
          | (go_at_call_of 14 (Value.int .i64 2); go_must (refine (holders_is _ (some ⟨b, 0, none⟩) true hs' 2 P3.out _ _ (TP.out 2 (by omega) (by omega)) N2.out).mono ?_); rintro e w4 ⟨A4, cap4, rfl, _, hk4⟩)
          | (go_at_call_of 14 (Value.int .i64 3); go_must (refine (holders_is _ (some ⟨b, 0, none⟩) true hs' 3 (P3.out.keep hk4 (fun _ _ q => q)) _ _ (TP.out 3 (by omega) (by omega)) N3.out).mono ?_); rintro e w5 ⟨A5, cap5, rfl, _, hk5⟩)
          | (go_at_call_of 14 (Value.int .i64 1); go_must (refine (holders_is _ (some ⟨b, 0, none⟩) true hs' 1 ((P3.out.keep hk4 (fun _ _ q => q)).keep hk5 (fun _ _ q => q)) _ _ (TP.out 1 (by omega) (by omega)) N1.out).mono ?_); rintro e w6 ⟨A6, cap6, rfl, _, hk6⟩)
          | (go_at_call_of 14 (Value.int .i64 0); go_must (refine (holders_is _ (some ⟨b, 0, none⟩) true hs' 0 (((P3.out.keep hk4 (fun _ _ q => q)).keep hk5 (fun _ _ q => q)).keep hk6 (fun _ _ q => q)) _ _ (TP.out 0 (by omega) (by omega)) HQ3.out).mono ?_); rintro e w7 ⟨A7, cap7, rfl, _, hk7⟩))
        unfold EW
        exact ⟨⟨k + 1, _, _, _, _, _, _, _, _, _, _, _, _, _, _, _, _, _, _, _, _, _, _, _, _, _, _, _, _, _, _, _, _, _, _, _, _, _, _, _, _, _, _, _, _, _, _, _, _, _, _, _, _, _, _, _, _, _, _, _, _, _, _, _, _, _, _, _, _, _, _, _, _, _, _, _, _, _, _, _, _, _, _, _, _, hs', by omega, (((HT3.out.keep hk4 (fun q => q)).keep hk5 (fun q => q)).keep hk6 (fun q => q)).keep hk7 (fun q => q), HL'.out, (((HK3.out.trans hk4 (fun _ _ q => q)).trans hk5 (fun _ _ q => q)).trans hk6 (fun _ _ q => q)).trans hk7 (fun _ _ q => q), rfl⟩, by simp [Pmu8, intOf]; omega⟩
      · have h31' : ((n3 : Int) == 1) = false := by simp; omega
        clear h31
        go_wp2_with (first
          | (go_at_call_of 14 (Value.int .i64 2); go_must (refine (holders_is _ (some ⟨b, 0, none⟩) true hs' 2 P3.out _ _ (TP.out 2 (by omega) (by omega)) N2.out).mono ?_); rintro e w4 ⟨A4, cap4, rfl, _, hk4⟩)
          | (go_at_call_of 14 (Value.int .i64 3); go_must (refine (holders_is _ (some ⟨b, 0, none⟩) true hs' 3 (P3.out.keep hk4 (fun _ _ q => q)) _ _ (TP.out 3 (by omega) (by omega)) N3.out).mono ?_); rintro e w5 ⟨A5, cap5, rfl, _, hk5⟩)
          | (go_at_call_of 14 (Value.int .i64 0); go_must (refine (holders_is _ (some ⟨b, 0, none⟩) true hs' 0 ((P3.out.keep hk4 (fun _ _ q => q)).keep hk5 (fun _ _ q => q)) _ _ (TP.out 0 (by omega) (by omega)) HQ3.out).mono ?_); rintro e w7 ⟨A7, cap7, rfl, _, hk7⟩))
        unfold EW
        exact ⟨⟨k + 1, _, _, _, _, _, _, _, _, _, _, _, _, _, _, _, _, _, _, _, _, _, _, _, _, _, _, _, _, _, _, _, _, _, _, _, _, _, _, _, _, _, _, _, _, _, _, _, _, _, _, _, _, _, _, _, _, _, _, _, _, _, _, _, _, _, _, _, _, _, _, _, _, _, _, _, _, _, _, _, _, _, _, _, _, hs', by omega, ((HT3.out.keep hk4 (fun q => q)).keep hk5 (fun q => q)).keep hk7 (fun q => q), HL'.out, ((HK3.out.trans hk4 (fun _ _ q => q)).trans hk5 (fun _ _ q => q)).trans hk7 (fun _ _ q => q), rfl⟩, by simp [Pmu8, intOf]; omega⟩
end Go.Proofs.Ytmkhhjpfchaopaa
