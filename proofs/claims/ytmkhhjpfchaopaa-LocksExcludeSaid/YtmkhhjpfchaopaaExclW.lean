/- LocksExclude: the loop's relation; no condition. -/
import Derived.Test.YtmkhhjpfchaopaaExclB
namespace Go.Proofs.Ytmkhhjpfchaopaa
open Go.RowKit

noncomputable def exclBody : Code := ((Try.f4.body.map loopsOf).getD []).getD 0 .skip
set_option maxRecDepth 100000 in
def EW (w : World) (A : Option Addr) (n cap b : Nat) (c0 l0 : Int) (c3 c4 c5 c13 c14 c15 c16 c17 c18 c19 c99 c100 c101 c102 c103 c104 c105 c106 c107 c108 c109 c110 c111 c112 c113 c114 c115 c116 c117 c118 c119 c120 c121 c122 c123 c124 c125 c126 c127 c128 c129 : Value) (a : Act) (wr : World) : Prop :=
  ∃ (k : Nat) (u6 u9 u10 u11 u12 u20 u21 u22 u23 u24 u25 u26 u27 u28 u29 u30 u31 u32 u33 u34 u35 u36 u37 u38 u39 u40 u41 u42 u43 u44 u45 u46 u47 u48 u49 u50 u51 u52 u53 u54 u55 u56 u57 u58 u59 u60 u61 u62 u63 u64 u65 u66 u67 u68 u69 u70 u71 u72 u73 u74 u75 u76 u77 u78 u79 u80 u81 u82 u83 u84 u85 u86 u87 u88 u89 u90 u91 u92 u93 u94 u95 u96 u97 u98 : Value) (hs : List Int), k ≤ n ∧ Tab wr b hs ∧ LInv hs ∧ Kp NoB w wr ∧ a = ⟨#[.slice A n cap, .int .i64 c0, .int .i64 l0, c3, c4, c5, u6, .pointer (some ⟨b, 0, none⟩), .int .i64 k, u9, u10, u11, u12, c13, c14, c15, c16, c17, c18, c19, u20, u21, u22, u23, u24, u25, u26, u27, u28, u29, u30, u31, u32, u33, u34, u35, u36, u37, u38, u39, u40, u41, u42, u43, u44, u45, u46, u47, u48, u49, u50, u51, u52, u53, u54, u55, u56, u57, u58, u59, u60, u61, u62, u63, u64, u65, u66, u67, u68, u69, u70, u71, u72, u73, u74, u75, u76, u77, u78, u79, u80, u81, u82, u83, u84, u85, u86, u87, u88, u89, u90, u91, u92, u93, u94, u95, u96, u97, u98, c99, c100, c101, c102, c103, c104, c105, c106, c107, c108, c109, c110, c111, c112, c113, c114, c115, c116, c117, c118, c119, c120, c121, c122, c123, c124, c125, c126, c127, c128, c129], []⟩
def Pmu8 (n : Nat) (a : Act) (_ : World) : Nat := n - (intOf (a.tmps.getD 8 undef)).toNat
def TP' (w : World) (b : Nat) (hs : List Int) : Prop := TP w (some ⟨b, 0, none⟩) true hs
theorem TP'.keep {w w' : World} {S : Nat → Prop} {b : Nat} {hs : List Int} (h : TP' w b hs) (k : Kp S w w') (hn : ∀ b', some (⟨b, 0, none⟩ : Addr) = some ⟨b', 0, none⟩ → ¬ S b') : TP' w' b hs := TP.keep h k hn
end Go.Proofs.Ytmkhhjpfchaopaa
