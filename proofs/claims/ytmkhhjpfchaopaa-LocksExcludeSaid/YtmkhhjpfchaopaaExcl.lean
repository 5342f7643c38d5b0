/- LocksExclude returns true for every script in memory; no condition. -/
import Derived.Test.YtmkhhjpfchaopaaExclT
import Derived.Test.YtmkhhjpfchaopaaExclD
namespace Go.Proofs.Ytmkhhjpfchaopaa
open Go.RowKit

set_option maxRecDepth 100000 in
set_option maxHeartbeats 3200000 in
theorem excl_round (w wr : World) (A : Option Addr) (n cap b : Nat) (c0 l0 : Int) (c3 c4 c5 c13 c14 c15 c16 c17 c18 c19 c99 c100 c101 c102 c103 c104 c105 c106 c107 c108 c109 c110 c111 c112 c113 c114 c115 c116 c117 c118 c119 c120 c121 c122 c123 c124 c125 c126 c127 c128 c129 : Value) (a : Act) (Q0 : Exit → Act → World → Prop) (hn : n ≤ 200) (hb : w.heap.size ≤ b) (hS : Scr w A n)
    (hexit : ∀ (u6 u9 u10 u11 u12 u24 u25 u26 u27 u28 u29 u30 u31 u32 u33 u34 u35 u36 u37 u38 u39 u40 u41 u42 u43 u44 u45 u46 u47 u48 u49 u50 u51 u52 u53 u54 u55 u56 u57 u58 u59 u60 u61 u62 u63 u64 u65 u66 u67 u68 u69 u70 u71 u72 u73 u74 u75 u76 u77 u78 u79 u80 u81 u82 u83 u84 u85 u86 u87 u88 u89 u90 u91 u92 u93 u94 u95 u96 u97 u98 : Value) (hs : List Int) (wx : World), Tab wx b hs → LInv hs → Kp NoB w wx → Q0 (.exit 0) ⟨#[.slice A n cap, .int .i64 c0, .int .i64 l0, c3, c4, c5, u6, .pointer (some ⟨b, 0, none⟩), .int .i64 n, u9, u10, u11, u12, c13, c14, c15, c16, c17, c18, c19, .int .i64 n, .slice A n cap, .int .i64 n, .bool false, u24, u25, u26, u27, u28, u29, u30, u31, u32, u33, u34, u35, u36, u37, u38, u39, u40, u41, u42, u43, u44, u45, u46, u47, u48, u49, u50, u51, u52, u53, u54, u55, u56, u57, u58, u59, u60, u61, u62, u63, u64, u65, u66, u67, u68, u69, u70, u71, u72, u73, u74, u75, u76, u77, u78, u79, u80, u81, u82, u83, u84, u85, u86, u87, u88, u89, u90, u91, u92, u93, u94, u95, u96, u97, u98, c99, c100, c101, c102, c103, c104, c105, c106, c107, c108, c109, c110, c111, c112, c113, c114, c115, c116, c117, c118, c119, c120, c121, c122, c123, c124, c125, c126, c127, c128, c129], []⟩ wx) (hI : EW w A n cap b c0 l0 c3 c4 c5 c13 c14 c15 c16 c17 c18 c19 c99 c100 c101 c102 c103 c104 c105 c106 c107 c108 c109 c110 c111 c112 c113 c114 c115 c116 c117 c118 c119 c120 c121 c122 c123 c124 c125 c126 c127 c128 c129 a wr) :
    Code.wp Try.prog exclBody (Exit.then (fun a' w'' => EW w A n cap b c0 l0 c3 c4 c5 c13 c14 c15 c16 c17 c18 c19 c99 c100 c101 c102 c103 c104 c105 c106 c107 c108 c109 c110 c111 c112 c113 c114 c115 c116 c117 c118 c119 c120 c121 c122 c123 c124 c125 c126 c127 c128 c129 a' w'' ∧ Pmu8 n a' w'' < Pmu8 n a wr) Q0) a wr := by
  unfold EW at hI
  obtain ⟨k, hI⟩ := hI
  obtain ⟨u6, hI⟩ := hI
  obtain ⟨u9, hI⟩ := hI
  obtain ⟨u10, hI⟩ := hI
  obtain ⟨u11, hI⟩ := hI
  obtain ⟨u12, hI⟩ := hI
  obtain ⟨u20, hI⟩ := hI
  obtain ⟨u21, hI⟩ := hI
  obtain ⟨u22, hI⟩ := hI
  obtain ⟨u23, hI⟩ := hI
  obtain ⟨u24, hI⟩ := hI
  obtain ⟨u25, hI⟩ := hI
  obtain ⟨u26, hI⟩ := hI
  obtain ⟨u27, hI⟩ := hI
  obtain ⟨u28, hI⟩ := hI
  obtain ⟨u29, hI⟩ := hI
  obtain ⟨u30, hI⟩ := hI
  obtain ⟨u31, hI⟩ := hI
  obtain ⟨u32, hI⟩ := hI
  obtain ⟨u33, hI⟩ := hI
  obtain ⟨u34, hI⟩ := hI
  obtain ⟨u35, hI⟩ := hI
  obtain ⟨u36, hI⟩ := hI
  obtain ⟨u37, hI⟩ := hI
  obtain ⟨u38, hI⟩ := hI
  obtain ⟨u39, hI⟩ := hI
  obtain ⟨u40, hI⟩ := hI
  obtain ⟨u41, hI⟩ := hI
  obtain ⟨u42, hI⟩ := hI
  obtain ⟨u43, hI⟩ := hI
  obtain ⟨u44, hI⟩ := hI
  obtain ⟨u45, hI⟩ := hI
  obtain ⟨u46, hI⟩ := hI
  obtain ⟨u47, hI⟩ := hI
  obtain ⟨u48, hI⟩ := hI
  obtain ⟨u49, hI⟩ := hI
  obtain ⟨u50, hI⟩ := hI
  obtain ⟨u51, hI⟩ := hI
  obtain ⟨u52, hI⟩ := hI
  obtain ⟨u53, hI⟩ := hI
  obtain ⟨u54, hI⟩ := hI
  obtain ⟨u55, hI⟩ := hI
  obtain ⟨u56, hI⟩ := hI
  obtain ⟨u57, hI⟩ := hI
  obtain ⟨u58, hI⟩ := hI
  obtain ⟨u59, hI⟩ := hI
  obtain ⟨u60, hI⟩ := hI
  obtain ⟨u61, hI⟩ := hI
  obtain ⟨u62, hI⟩ := hI
  obtain ⟨u63, hI⟩ := hI
  obtain ⟨u64, hI⟩ := hI
  obtain ⟨u65, hI⟩ := hI
  obtain ⟨u66, hI⟩ := hI
  obtain ⟨u67, hI⟩ := hI
  obtain ⟨u68, hI⟩ := hI
  obtain ⟨u69, hI⟩ := hI
  obtain ⟨u70, hI⟩ := hI
  obtain ⟨u71, hI⟩ := hI
  obtain ⟨u72, hI⟩ := hI
  obtain ⟨u73, hI⟩ := hI
  obtain ⟨u74, hI⟩ := hI
  obtain ⟨u75, hI⟩ := hI
  obtain ⟨u76, hI⟩ := hI
  obtain ⟨u77, hI⟩ := hI
  obtain ⟨u78, hI⟩ := hI
  obtain ⟨u79, hI⟩ := hI
  obtain ⟨u80, hI⟩ := hI
  obtain ⟨u81, hI⟩ := hI
  obtain ⟨u82, hI⟩ := hI
  obtain ⟨u83, hI⟩ := hI
  obtain ⟨u84, hI⟩ := hI
  obtain ⟨u85, hI⟩ := hI
  obtain ⟨u86, hI⟩ := hI
  obtain ⟨u87, hI⟩ := hI
  obtain ⟨u88, hI⟩ := hI
  obtain ⟨u89, hI⟩ := hI
  obtain ⟨u90, hI⟩ := hI
  obtain ⟨u91, hI⟩ := hI
  obtain ⟨u92, hI⟩ := hI
  obtain ⟨u93, hI⟩ := hI
  obtain ⟨u94, hI⟩ := hI
  obtain ⟨u95, hI⟩ := hI
  obtain ⟨u96, hI⟩ := hI
  obtain ⟨u97, hI⟩ := hI
  obtain ⟨u98, hI⟩ := hI
  obtain ⟨hs, hk, hT, hL, hP, rfl⟩ := hI
  by_cases hlt : k < n
  · obtain ⟨sb, so, hA, hsb, hops⟩ := hS (by omega)
    obtain ⟨d, a, c, l, e0, e1, e2, e3⟩ := hops k hlt
    have kc : ∀ o, wr.cell? ⟨sb, o, none⟩ = w.cell? ⟨sb, o, none⟩ := fun o => hP.cell hsb (fun q => q)
    rw [← kc] at e0 e1 e2 e3
    by_cases d1 : d = 1
    · exact excl_round_d w wr A n cap b k sb so c0 l0 c3 c4 c5 c13 c14 c15 c16 c17 c18 c19 c99 c100 c101 c102 c103 c104 c105 c106 c107 c108 c109 c110 c111 c112 c113 c114 c115 c116 c117 c118 c119 c120 c121 c122 c123 c124 c125 c126 c127 c128 c129 u6 u9 u10 u11 u12 u20 u21 u22 u23 u24 u25 u26 u27 u28 u29 u30 u31 u32 u33 u34 u35 u36 u37 u38 u39 u40 u41 u42 u43 u44 u45 u46 u47 u48 u49 u50 u51 u52 u53 u54 u55 u56 u57 u58 u59 u60 u61 u62 u63 u64 u65 u66 u67 u68 u69 u70 u71 u72 u73 u74 u75 u76 u77 u78 u79 u80 u81 u82 u83 u84 u85 u86 u87 u88 u89 u90 u91 u92 u93 u94 u95 u96 u97 u98 hs d a c l Q0 hn hlt (Lib.hid hT) (Lib.hid hL) (Lib.hid hP) hb (Lib.hid hA) e0 e1 e2 e3 (beq_iff_eq.2 d1)
    · exact excl_round_t w wr A n cap b k sb so c0 l0 c3 c4 c5 c13 c14 c15 c16 c17 c18 c19 c99 c100 c101 c102 c103 c104 c105 c106 c107 c108 c109 c110 c111 c112 c113 c114 c115 c116 c117 c118 c119 c120 c121 c122 c123 c124 c125 c126 c127 c128 c129 u6 u9 u10 u11 u12 u20 u21 u22 u23 u24 u25 u26 u27 u28 u29 u30 u31 u32 u33 u34 u35 u36 u37 u38 u39 u40 u41 u42 u43 u44 u45 u46 u47 u48 u49 u50 u51 u52 u53 u54 u55 u56 u57 u58 u59 u60 u61 u62 u63 u64 u65 u66 u67 u68 u69 u70 u71 u72 u73 u74 u75 u76 u77 u78 u79 u80 u81 u82 u83 u84 u85 u86 u87 u88 u89 u90 u91 u92 u93 u94 u95 u96 u97 u98 hs d a c l Q0 hn hlt (Lib.hid hT) (Lib.hid hL) (Lib.hid hP) hb (Lib.hid hA) e0 e1 e2 e3 (beq_false_of_ne d1)
  · obtain rfl : k = n := by omega
    have HT := Lib.hid hT
    have HL := Lib.hid hL
    have HP := Lib.hid hP
    have HX := Lib.hid hexit
    clear hP hexit hT hL
    conv => arg 2; whnf
    go_wp2
    exact HX.out _ _ _ _ _ _ _ _ _ _ _ _ _ _ _ _ _ _ _ _ _ _ _ _ _ _ _ _ _ _ _ _ _ _ _ _ _ _ _ _ _ _ _ _ _ _ _ _ _ _ _ _ _ _ _ _ _ _ _ _ _ _ _ _ _ _ _ _ _ _ _ _ _ _ _ _ _ _ _ _ hs _ HT.out HL.out HP.out
set_option maxRecDepth 100000 in
set_option maxHeartbeats 3200000 in
theorem excl_loop (w wr : World) (A : Option Addr) (n cap b : Nat) (c0 l0 : Int) (c3 c4 c5 c13 c14 c15 c16 c17 c18 c19 c99 c100 c101 c102 c103 c104 c105 c106 c107 c108 c109 c110 c111 c112 c113 c114 c115 c116 c117 c118 c119 c120 c121 c122 c123 c124 c125 c126 c127 c128 c129 u6 u9 u10 u11 u12 u20 u21 u22 u23 u24 u25 u26 u27 u28 u29 u30 u31 u32 u33 u34 u35 u36 u37 u38 u39 u40 u41 u42 u43 u44 u45 u46 u47 u48 u49 u50 u51 u52 u53 u54 u55 u56 u57 u58 u59 u60 u61 u62 u63 u64 u65 u66 u67 u68 u69 u70 u71 u72 u73 u74 u75 u76 u77 u78 u79 u80 u81 u82 u83 u84 u85 u86 u87 u88 u89 u90 u91 u92 u93 u94 u95 u96 u97 u98 : Value) (hs : List Int) (Q0 : Exit → Act → World → Prop) (hn : n ≤ 200) (hb : w.heap.size ≤ b) (hS : Scr w A n) (hT : Tab wr b hs) (hL : LInv hs) (hP : Kp NoB w wr)
    (hexit : ∀ (u6 u9 u10 u11 u12 u24 u25 u26 u27 u28 u29 u30 u31 u32 u33 u34 u35 u36 u37 u38 u39 u40 u41 u42 u43 u44 u45 u46 u47 u48 u49 u50 u51 u52 u53 u54 u55 u56 u57 u58 u59 u60 u61 u62 u63 u64 u65 u66 u67 u68 u69 u70 u71 u72 u73 u74 u75 u76 u77 u78 u79 u80 u81 u82 u83 u84 u85 u86 u87 u88 u89 u90 u91 u92 u93 u94 u95 u96 u97 u98 : Value) (hs : List Int) (wx : World), Tab wx b hs → LInv hs → Kp NoB w wx → Q0 (.exit 0) ⟨#[.slice A n cap, .int .i64 c0, .int .i64 l0, c3, c4, c5, u6, .pointer (some ⟨b, 0, none⟩), .int .i64 n, u9, u10, u11, u12, c13, c14, c15, c16, c17, c18, c19, .int .i64 n, .slice A n cap, .int .i64 n, .bool false, u24, u25, u26, u27, u28, u29, u30, u31, u32, u33, u34, u35, u36, u37, u38, u39, u40, u41, u42, u43, u44, u45, u46, u47, u48, u49, u50, u51, u52, u53, u54, u55, u56, u57, u58, u59, u60, u61, u62, u63, u64, u65, u66, u67, u68, u69, u70, u71, u72, u73, u74, u75, u76, u77, u78, u79, u80, u81, u82, u83, u84, u85, u86, u87, u88, u89, u90, u91, u92, u93, u94, u95, u96, u97, u98, c99, c100, c101, c102, c103, c104, c105, c106, c107, c108, c109, c110, c111, c112, c113, c114, c115, c116, c117, c118, c119, c120, c121, c122, c123, c124, c125, c126, c127, c128, c129], []⟩ wx) :
    Code.wp Try.prog (.loop exclBody) Q0 ⟨#[.slice A n cap, .int .i64 c0, .int .i64 l0, c3, c4, c5, u6, .pointer (some ⟨b, 0, none⟩), .int .i64 0, u9, u10, u11, u12, c13, c14, c15, c16, c17, c18, c19, u20, u21, u22, u23, u24, u25, u26, u27, u28, u29, u30, u31, u32, u33, u34, u35, u36, u37, u38, u39, u40, u41, u42, u43, u44, u45, u46, u47, u48, u49, u50, u51, u52, u53, u54, u55, u56, u57, u58, u59, u60, u61, u62, u63, u64, u65, u66, u67, u68, u69, u70, u71, u72, u73, u74, u75, u76, u77, u78, u79, u80, u81, u82, u83, u84, u85, u86, u87, u88, u89, u90, u91, u92, u93, u94, u95, u96, u97, u98, c99, c100, c101, c102, c103, c104, c105, c106, c107, c108, c109, c110, c111, c112, c113, c114, c115, c116, c117, c118, c119, c120, c121, c122, c123, c124, c125, c126, c127, c128, c129], []⟩ wr := by
  refine wp_loop (EW w A n cap b c0 l0 c3 c4 c5 c13 c14 c15 c16 c17 c18 c19 c99 c100 c101 c102 c103 c104 c105 c106 c107 c108 c109 c110 c111 c112 c113 c114 c115 c116 c117 c118 c119 c120 c121 c122 c123 c124 c125 c126 c127 c128 c129) (Pmu8 n) ?_ (fun a w'' hI => excl_round w w'' A n cap b c0 l0 c3 c4 c5 c13 c14 c15 c16 c17 c18 c19 c99 c100 c101 c102 c103 c104 c105 c106 c107 c108 c109 c110 c111 c112 c113 c114 c115 c116 c117 c118 c119 c120 c121 c122 c123 c124 c125 c126 c127 c128 c129 a Q0 hn hb hS hexit hI)
  unfold EW
  exact ⟨0, u6, u9, u10, u11, u12, u20, u21, u22, u23, u24, u25, u26, u27, u28, u29, u30, u31, u32, u33, u34, u35, u36, u37, u38, u39, u40, u41, u42, u43, u44, u45, u46, u47, u48, u49, u50, u51, u52, u53, u54, u55, u56, u57, u58, u59, u60, u61, u62, u63, u64, u65, u66, u67, u68, u69, u70, u71, u72, u73, u74, u75, u76, u77, u78, u79, u80, u81, u82, u83, u84, u85, u86, u87, u88, u89, u90, u91, u92, u93, u94, u95, u96, u97, u98, hs, Nat.zero_le _, hT, hL, hP, rfl⟩
theorem drop_is (w : World) (b : Nat) (hs : List Int) (c l x : Int) (hs' : List Int) (hT : Tab w b hs) (hr : dropI hs c l = (x, hs')) :
    Calls Try.prog 9 #[.pointer (some ⟨b, 0, none⟩), .int .i64 c, .int .i64 l] w fun e w' => e = .returned (.int .i64 x) ∧ Tab w' b hs' ∧ Kp (OnB b) w w' := by
  have := drop_ok w b hs c l hT
  rw [hr] at this
  exact this
/-- the first k hold nothing -/
def Low (hs : List Int) (k : Nat) : Prop := hs.length = 8 ∧ Rng hs ∧ ∀ i, i < k → hs[i]?.getD 0 = 0
theorem Low.step {hs : List Int} {k : Nat} (h : Low hs k) (hk : k < 8) : ∃ hs', dropI hs k 0 = (0, hs') ∧ Low hs' (k + 1) := by
  refine ⟨hs.set k 0, ?_, by simp [h.1], h.2.1.set k 0 (by omega) (by omega), fun i hi => ?_⟩
  · have hw : wrongI k 0 = 0 := by unfold wrongI; rw [if_neg (by omega)]
    have := h.2.1 k
    simp only [dropI, hw, ne_eq, not_true_eq_false, if_false, Int.toNat_natCast, Prod.mk.injEq, true_and]
    rw [Int.min_eq_right (by simp; omega)]
  · rw [setget hs h.1 k 0 i hk]
    split
    · rfl
    · exact h.2.2 i (by omega)
theorem Low.all {hs : List Int} (h : Low hs 8) : hs = List.replicate 8 0 := by
  apply List.ext_getElem
  · simp [h.1]
  · intro i h1 h2
    have := h.2.2 i (by simp at h2; omega)
    rw [List.getElem?_eq_getElem h1] at this
    have e : hs[i] = 0 := by simpa using this
    rw [List.getElem_replicate]
    exact e
set_option maxRecDepth 100000 in
set_option maxHeartbeats 3200000 in
theorem excl_ok (w : World) (A : Option Addr) (n cap : Nat) (c l : Int) (hn : n ≤ 9223372036854775807) (hS : Scr w A n) :
    Calls Try.prog 4 #[.slice A n cap, .int .i64 c, .int .i64 l] w fun e w' => e = .returned (.bool true) ∧ Kp NoB w w' := by
  have HS := Lib.hid hS
  clear hS
  by_cases hbig : (200 : Int) < n
  · go_enter Try.func4, Try.ntmps4
    go_wp2_with (go_at_call 5; refine (awake_ok _).mono ?_; rintro e w1 ⟨rfl, hk1⟩)
    go_ret
    exact ⟨rfl, hk1⟩
  · go_enter Try.func4, Try.ntmps4
    go_wp2_with (first
      | (go_at_call 6; refine (new_ok _).mono ?_; rintro e w1 ⟨rfl, hT1, hk1⟩; have HT1 := Lib.hid hT1; clear hT1))
    refine excl_loop w _ A n cap w.heap.size c l _ _ _ _ _ _ _ _ _ _ _ _ _ _ _ _ _ _ _ _ _ _ _ _ _ _ _ _ _ _ _ _ _ _ _ _ _ _ _ _ _ _ _ _ _ _ _ _ _ _ _ _ _ _ _ _ _ _ _ _ _ _ _ _ _ _ _ _ _ _ _ _ _ _ _ _ _ _ _ _ _ _ _ _ _ _ _ _ _ _ _ _ _ _ _ _ _ _ _ _ _ _ _ _ _ _ _ _ _ _ _ _ _ _ _ _ _ _ _ _ _ _ _ _ _ _ _ (by omega) (Nat.le_refl _) HS.out HT1.out LInv.zero hk1 ?_
    intro u6 u9 u10 u11 u12 u24 u25 u26 u27 u28 u29 u30 u31 u32 u33 u34 u35 u36 u37 u38 u39 u40 u41 u42 u43 u44 u45 u46 u47 u48 u49 u50 u51 u52 u53 u54 u55 u56 u57 u58 u59 u60 u61 u62 u63 u64 u65 u66 u67 u68 u69 u70 u71 u72 u73 u74 u75 u76 u77 u78 u79 u80 u81 u82 u83 u84 u85 u86 u87 u88 u89 u90 u91 u92 u93 u94 u95 u96 u97 u98 hs wx hT hL hP
    have HT := Lib.hid hT
    have HL := Lib.hid hL
    have HP := Lib.hid hP
    clear hT hL hP
    go_wp2
    go_loopw [13] (fun o wr => ∃ (j : Nat) (hs' : List Int), j ≤ 8 ∧ o = .int .i64 j ∧ Tab wr w.heap.size hs' ∧ Low hs' j ∧ Kp NoB w wr) (fun o _ => 8 - (intOf o).toNat)
    case atStart => exact ⟨0, hs, by omega, rfl, HT.out, ⟨HL.out.len, HL.out.rng, fun i hi => by omega⟩, HP.out⟩
    case round =>
      obtain ⟨j, hs', hj, rfl, hT', hlow, hkr⟩ := hrel
      by_cases hj8 : j < 8
      · obtain ⟨hs2, hd, hl2⟩ := hlow.step hj8
        have HD := Lib.hid hd
        have HL2 := Lib.hid hl2
        have HT' := Lib.hid hT'
        have HKR := Lib.hid hkr
        clear hT' hlow hkr hd hl2
        go_wp2_with (go_at_call 9; go_must (refine (drop_is _ _ hs' j 0 0 hs2 HT'.out HD.out).mono ?_); rintro e w3 ⟨rfl, hT3, hk3⟩)
        exact ⟨⟨j + 1, hs2, by omega, by congr 1, hT3, HL2.out, HKR.out.trans hk3 (fun i hi q => by unfold OnB at q; omega)⟩, by simp [intOf]; omega⟩
      · obtain rfl : j = 8 := by omega
        have hz := hlow.all
        subst hz
        obtain ⟨r, hr⟩ : ∃ r, takeI (List.replicate 8 0) c l = r := ⟨_, rfl⟩
        obtain ⟨x, hs2⟩ := r
        have hx : x = wrongI c l := by have := take_free c l; rw [hr] at this; exact this
        have HR := Lib.hid hr
        have HT' := Lib.hid hT'
        have HKR := Lib.hid hkr
        clear hT' hlow hkr hr
        have hb : ∀ i, i < w.heap.size → OnB w.heap.size i → NoB i := fun i hi e => by unfold OnB at e; omega
        have HB := Lib.hid hb
        clear hb
        rcases (show (c < 0 ∧ x = 2) ∨ (0 ≤ c ∧ 7 < c ∧ x = 2) ∨ (0 ≤ c ∧ c ≤ 7 ∧ l < 0 ∧ x = 2) ∨ (0 ≤ c ∧ c ≤ 7 ∧ 0 ≤ l ∧ 3 < l ∧ x = 2) ∨ (0 ≤ c ∧ c ≤ 7 ∧ 0 ≤ l ∧ l ≤ 3 ∧ x = 0) by
            rcases wrongI_cases c l with ⟨q, q'⟩ | ⟨q, q'⟩ <;> rw [q] at hx <;> omega) with ⟨a1, rfl⟩ | ⟨a1, a2, rfl⟩ | ⟨a1, a2, a3, rfl⟩ | ⟨a1, a2, a3, a4, rfl⟩ | ⟨a1, a2, a3, a4, rfl⟩
        all_goals
          clear hx
          go_wp2_with (first
            | (go_at_call 7; go_must (refine (take_is _ _ _ c l _ hs2 HT'.out HR.out).mono ?_); rintro e w3 ⟨rfl, hT3, hk3⟩)
            | (go_at_call 5; refine (awake_ok _).mono ?_; rintro e w4 ⟨rfl, hk4⟩))
          go_ret
          exact ⟨rfl, (HKR.out.trans hk3 HB.out).trans hk4 (fun _ _ q => q)⟩
end Go.Proofs.Ytmkhhjpfchaopaa
