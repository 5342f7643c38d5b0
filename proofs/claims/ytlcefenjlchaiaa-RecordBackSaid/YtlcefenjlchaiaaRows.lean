/-
  No cell of these rows narrows 'for every input' (looked for: loops, veiled, ifaces, maps, wideKeys, modest, calm, conditions, laid).
  DERIVED. THE GIVEN ROWS OF THIS SEAT. 4 by the template 'for every input the law returns true; each argument reads behind the call as it read before'; 0 by the template 'total and deterministic' (their statements: YtlcefenjlchaiaaTotals.lean).
  GIVEN WITH THE SEED: the statements are not yours to turn. If you find one false, say at which input.
  Laid BY PROGRAM, IN A SANDBOX (cutbox-rows.mjs): the forced cells as the released guide's own fill.sh prints them over the translation 82363f6bff12aa38… (all of the seat's roots in one cut). By AI agents, Wed Nov 11 2026. No macro, syntax, notation, axiom, sorry.
-/
import Derived.Test.YtlcefenjlchaiaaChecked
import GoSem.Claim
import GoSem.ClaimJoined
import GoSem.ClaimMapViews
import Derived.JoinedTies
import Derived.KernelRfl
namespace Go.Proofs.Ytlcefenjlchaiaa
/- THE CELL 'sum', in the pinned program and in every row, IS THE sha256 OF THE DUMP (.gsa) THAT YtlcefenjlchaiaaProg.lean LOADS. Nothing in Lean hashes anything: it is a label: what it is worth is what the hold of that sum in a sandbox is worth. -/
noncomputable def Try.pinned : Pinned := { name := "ytlcefenjlchaiaa", sum := "82363f6bff12aa38a3a973b12fe18c0283d280d8cc9d7e8caf83b256495ba2fe", checked := Try.checked }
namespace Rows
def none {H : Type} : Left H := { results := [], args := [] }

/-- 'bureaulaw04.RecordVarint': WHATEVER THE INPUT: true; the input reads as it did. -/
def recordVarintSpec : ChangeSpec := { name := "recordVarint", fn := fun _ => fun
  | [d1, d2] => { results := [.lit (.bool true)], args := [d1, d2] }
  | _ => none }
def recordVarintRow : OpenClaim := { program := "ytlcefenjlchaiaa", sum := "82363f6bff12aa38a3a973b12fe18c0283d280d8cc9d7e8caf83b256495ba2fe", func := "bureau/bureaulaw04.RecordVarint", spec := "recordVarint", unfollowed := true, recurses := true, apart := false }
def RecordVarintSaid : Prop := recordVarintRow.holds Try.pinned (OpenSpec.ofChange recordVarintSpec)

/-- ITS FALSE NEIGHBOUR: 'it returns false'. Refute it at one input. -/
def recordVarintWrong : ChangeSpec := { name := "recordVarint", fn := fun _ => fun
  | [d1, d2] => { results := [.lit (.bool false)], args := [d1, d2] }
  | _ => none }
def RecordVarintWrongFalsely : Prop := recordVarintRow.holds Try.pinned (OpenSpec.ofChange recordVarintWrong)

/-- 'bureaulaw04.RecordEncode': WHATEVER THE INPUT: true; the input reads as it did. -/
def recordEncodeSpec : ChangeSpec := { name := "recordEncode", fn := fun _ => fun
  | [d] => { results := [.lit (.bool true)], args := [d] }
  | _ => none }
def recordEncodeRow : OpenClaim := { program := "ytlcefenjlchaiaa", sum := "82363f6bff12aa38a3a973b12fe18c0283d280d8cc9d7e8caf83b256495ba2fe", func := "bureau/bureaulaw04.RecordEncode", spec := "recordEncode", unfollowed := true, recurses := true, apart := false }
def RecordEncodeSaid : Prop := recordEncodeRow.holds Try.pinned (OpenSpec.ofChange recordEncodeSpec)

/-- ITS FALSE NEIGHBOUR: 'it returns false'. Refute it at one input. -/
def recordEncodeWrong : ChangeSpec := { name := "recordEncode", fn := fun _ => fun
  | [d] => { results := [.lit (.bool false)], args := [d] }
  | _ => none }
def RecordEncodeWrongFalsely : Prop := recordEncodeRow.holds Try.pinned (OpenSpec.ofChange recordEncodeWrong)

/-- 'bureaulaw04.RecordDecode': WHATEVER THE INPUT: true; the input reads as it did. -/
def recordDecodeSpec : ChangeSpec := { name := "recordDecode", fn := fun _ => fun
  | [d] => { results := [.lit (.bool true)], args := [d] }
  | _ => none }
def recordDecodeRow : OpenClaim := { program := "ytlcefenjlchaiaa", sum := "82363f6bff12aa38a3a973b12fe18c0283d280d8cc9d7e8caf83b256495ba2fe", func := "bureau/bureaulaw04.RecordDecode", spec := "recordDecode", unfollowed := true, recurses := true, apart := false }
def RecordDecodeSaid : Prop := recordDecodeRow.holds Try.pinned (OpenSpec.ofChange recordDecodeSpec)

/-- ITS FALSE NEIGHBOUR: 'it returns false'. Refute it at one input. -/
def recordDecodeWrong : ChangeSpec := { name := "recordDecode", fn := fun _ => fun
  | [d] => { results := [.lit (.bool false)], args := [d] }
  | _ => none }
def RecordDecodeWrongFalsely : Prop := recordDecodeRow.holds Try.pinned (OpenSpec.ofChange recordDecodeWrong)

/-- 'bureaulaw04.RecordBack': WHATEVER THE INPUT: true; the input reads as it did. -/
def recordBackSpec : ChangeSpec := { name := "recordBack", fn := fun _ => fun
  | [d1, d2, d3] => { results := [.lit (.bool true)], args := [d1, d2, d3] }
  | _ => none }
def recordBackRow : OpenClaim := { program := "ytlcefenjlchaiaa", sum := "82363f6bff12aa38a3a973b12fe18c0283d280d8cc9d7e8caf83b256495ba2fe", func := "bureau/bureaulaw04.RecordBack", spec := "recordBack", unfollowed := true, recurses := true, apart := false }
def RecordBackSaid : Prop := recordBackRow.holds Try.pinned (OpenSpec.ofChange recordBackSpec)

/-- ITS FALSE NEIGHBOUR: 'it returns false'. Refute it at one input. -/
def recordBackWrong : ChangeSpec := { name := "recordBack", fn := fun _ => fun
  | [d1, d2, d3] => { results := [.lit (.bool false)], args := [d1, d2, d3] }
  | _ => none }
def RecordBackWrongFalsely : Prop := recordBackRow.holds Try.pinned (OpenSpec.ofChange recordBackWrong)

/- THE SECOND FORM. 'bulk': how many values and letters a reading holds, each counted each time it is reached (what is shared counts as often as it is met; a slice's spare places count too). A statement '..UptoSaid' is the law's where the arguments, and the package variables that the reading takes, are together of bulk at most 1048576: NARROWER than '..Said'. Prove '..Said' where nothing that the law and all that it calls make is longer than what came in: it says more and counts as full. Else prove '..UptoSaid'. A law counts once. -/
mutual
def uptoBulk {H : Type} : DataW H → Nat
  | .lit (.string bytes) => bytes.length + 1
  | .lit _ => 1
  | .nil => 1
  | .ptr d => uptoBulk d + 1
  | .slice elems spare => uptoBulkAll elems + uptoBulkAll spare + 1
  | .agg parts => uptoBulkAll parts + 1
  | .iface _ d => uptoBulk d + 1
  | .map entries => uptoBulkEntries entries + 1
  | .held _ => 1
def uptoBulkAll {H : Type} : List (DataW H) → Nat
  | [] => 0
  | d :: r => uptoBulk d + uptoBulkAll r
def uptoBulkEntries {H : Type} : List (Lit × DataW H) → Nat
  | [] => 0
  | x :: r => uptoBulkEntry x + uptoBulkEntries r
def uptoBulkEntry {H : Type} : Lit × DataW H → Nat
  | (.string bytes, d) => bytes.length + uptoBulk d + 1
  | (_, d) => uptoBulk d + 1
 end
def uptoSmall : (H : Type) → List (DataW H) → Bool := fun _ ds => decide (uptoBulkAll ds ≤ 1048576)
def OpenSpec.upto (s : _root_.Go.ChangeSpec) : _root_.Go.OpenSpec := { _root_.Go.OpenSpec.ofChange s with cond := some uptoSmall }

/-- 'bureaulaw04.RecordVarint', WHERE WHAT IT READS IS OF BULK AT MOST 1048576: true; the input reads as it did. -/
def recordVarintUptoRow : OpenClaim := { program := "ytlcefenjlchaiaa", sum := "82363f6bff12aa38a3a973b12fe18c0283d280d8cc9d7e8caf83b256495ba2fe", func := "bureau/bureaulaw04.RecordVarint", spec := "recordVarint", unfollowed := true, recurses := true, apart := false, narrowed := true }
def RecordVarintUptoSaid : Prop := recordVarintUptoRow.holds Try.pinned (OpenSpec.upto recordVarintSpec)

/-- 'bureaulaw04.RecordEncode', WHERE WHAT IT READS IS OF BULK AT MOST 1048576: true; the input reads as it did. -/
def recordEncodeUptoRow : OpenClaim := { program := "ytlcefenjlchaiaa", sum := "82363f6bff12aa38a3a973b12fe18c0283d280d8cc9d7e8caf83b256495ba2fe", func := "bureau/bureaulaw04.RecordEncode", spec := "recordEncode", unfollowed := true, recurses := true, apart := false, narrowed := true }
def RecordEncodeUptoSaid : Prop := recordEncodeUptoRow.holds Try.pinned (OpenSpec.upto recordEncodeSpec)

/-- 'bureaulaw04.RecordDecode', WHERE WHAT IT READS IS OF BULK AT MOST 1048576: true; the input reads as it did. -/
def recordDecodeUptoRow : OpenClaim := { program := "ytlcefenjlchaiaa", sum := "82363f6bff12aa38a3a973b12fe18c0283d280d8cc9d7e8caf83b256495ba2fe", func := "bureau/bureaulaw04.RecordDecode", spec := "recordDecode", unfollowed := true, recurses := true, apart := false, narrowed := true }
def RecordDecodeUptoSaid : Prop := recordDecodeUptoRow.holds Try.pinned (OpenSpec.upto recordDecodeSpec)

/-- 'bureaulaw04.RecordBack', WHERE WHAT IT READS IS OF BULK AT MOST 1048576: true; the input reads as it did. -/
def recordBackUptoRow : OpenClaim := { program := "ytlcefenjlchaiaa", sum := "82363f6bff12aa38a3a973b12fe18c0283d280d8cc9d7e8caf83b256495ba2fe", func := "bureau/bureaulaw04.RecordBack", spec := "recordBack", unfollowed := true, recurses := true, apart := false, narrowed := true }
def RecordBackUptoSaid : Prop := recordBackUptoRow.holds Try.pinned (OpenSpec.upto recordBackSpec)

end Rows
end Go.Proofs.Ytlcefenjlchaiaa
