/-
  No cell of these rows narrows 'for every input' (looked for: loops, veiled, ifaces, maps, wideKeys, modest, calm, conditions, laid).
  DERIVED. THE GIVEN ROWS OF THIS SEAT. 5 by the template 'for every input the law returns true; each argument reads behind the call as it read before'; 0 by the template 'total and deterministic' (their statements: YtnleoeogcinadaaTotals.lean).
  GIVEN WITH THE SEED: the statements are not yours to turn. If you find one false, say at which input.
  Laid BY PROGRAM, IN A SANDBOX (cutbox-rows.mjs): the forced cells as the released guide's own fill.sh prints them over the translation 32b2fae247e69b6f… (all of the seat's roots in one cut). By AI agents, Wed Nov 11 2026. No macro, syntax, notation, axiom, sorry.
-/
import Derived.Test.YtnleoeogcinadaaChecked
import GoSem.Claim
import GoSem.ClaimJoined
import GoSem.ClaimMapViews
import Derived.JoinedTies
import Derived.KernelRfl
namespace Go.Proofs.Ytnleoeogcinadaa
/- THE CELL 'sum', in the pinned program and in every row, IS THE sha256 OF THE DUMP (.gsa) THAT YtnleoeogcinadaaProg.lean LOADS. Nothing in Lean hashes anything: it is a label: what it is worth is what the hold of that sum in a sandbox is worth. -/
noncomputable def Try.pinned : Pinned := { name := "ytnleoeogcinadaa", sum := "32b2fae247e69b6f2df4ed90c58e98b01bd398eb8f74a3b92e57aaf355c9ddac", checked := Try.checked }
namespace Rows
def none {H : Type} : Left H := { results := [], args := [] }

/-- 'bureaulaw05.PageNew': WHATEVER THE INPUT: true; the input reads as it did. -/
def pageNewSpec : ChangeSpec := { name := "pageNew", fn := fun _ => fun
  | [d1, d2, d3] => { results := [.lit (.bool true)], args := [d1, d2, d3] }
  | _ => none }
def pageNewRow : OpenClaim := { program := "ytnleoeogcinadaa", sum := "32b2fae247e69b6f2df4ed90c58e98b01bd398eb8f74a3b92e57aaf355c9ddac", func := "bureau/bureaulaw05.PageNew", spec := "pageNew", apart := false }
def PageNewSaid : Prop := pageNewRow.holds Try.pinned (OpenSpec.ofChange pageNewSpec)

/-- ITS FALSE NEIGHBOUR: 'it returns false'. Refute it at one input. -/
def pageNewWrong : ChangeSpec := { name := "pageNew", fn := fun _ => fun
  | [d1, d2, d3] => { results := [.lit (.bool false)], args := [d1, d2, d3] }
  | _ => none }
def PageNewWrongFalsely : Prop := pageNewRow.holds Try.pinned (OpenSpec.ofChange pageNewWrong)

/-- 'bureaulaw05.PageReads': WHATEVER THE INPUT: true; the input reads as it did. -/
def pageReadsSpec : ChangeSpec := { name := "pageReads", fn := fun _ => fun
  | [d1, d2, d3] => { results := [.lit (.bool true)], args := [d1, d2, d3] }
  | _ => none }
def pageReadsRow : OpenClaim := { program := "ytnleoeogcinadaa", sum := "32b2fae247e69b6f2df4ed90c58e98b01bd398eb8f74a3b92e57aaf355c9ddac", func := "bureau/bureaulaw05.PageReads", spec := "pageReads", unfollowed := true, recurses := true, apart := false }
def PageReadsSaid : Prop := pageReadsRow.holds Try.pinned (OpenSpec.ofChange pageReadsSpec)

/-- ITS FALSE NEIGHBOUR: 'it returns false'. Refute it at one input. -/
def pageReadsWrong : ChangeSpec := { name := "pageReads", fn := fun _ => fun
  | [d1, d2, d3] => { results := [.lit (.bool false)], args := [d1, d2, d3] }
  | _ => none }
def PageReadsWrongFalsely : Prop := pageReadsRow.holds Try.pinned (OpenSpec.ofChange pageReadsWrong)

/-- 'bureaulaw05.PageParts': WHATEVER THE INPUT: true; the input reads as it did. -/
def pagePartsSpec : ChangeSpec := { name := "pageParts", fn := fun _ => fun
  | [d1, d2, d3] => { results := [.lit (.bool true)], args := [d1, d2, d3] }
  | _ => none }
def pagePartsRow : OpenClaim := { program := "ytnleoeogcinadaa", sum := "32b2fae247e69b6f2df4ed90c58e98b01bd398eb8f74a3b92e57aaf355c9ddac", func := "bureau/bureaulaw05.PageParts", spec := "pageParts", apart := false }
def PagePartsSaid : Prop := pagePartsRow.holds Try.pinned (OpenSpec.ofChange pagePartsSpec)

/-- ITS FALSE NEIGHBOUR: 'it returns false'. Refute it at one input. -/
def pagePartsWrong : ChangeSpec := { name := "pageParts", fn := fun _ => fun
  | [d1, d2, d3] => { results := [.lit (.bool false)], args := [d1, d2, d3] }
  | _ => none }
def PagePartsWrongFalsely : Prop := pagePartsRow.holds Try.pinned (OpenSpec.ofChange pagePartsWrong)

/-- 'bureaulaw05.PageChanges': WHATEVER THE INPUT: true; the input reads as it did. -/
def pageChangesSpec : ChangeSpec := { name := "pageChanges", fn := fun _ => fun
  | [d1, d2, d3, d4] => { results := [.lit (.bool true)], args := [d1, d2, d3, d4] }
  | _ => none }
def pageChangesRow : OpenClaim := { program := "ytnleoeogcinadaa", sum := "32b2fae247e69b6f2df4ed90c58e98b01bd398eb8f74a3b92e57aaf355c9ddac", func := "bureau/bureaulaw05.PageChanges", spec := "pageChanges", inPlace := ["slices.overlaps[string]"], apart := false }
def PageChangesSaid : Prop := pageChangesRow.holds Try.pinned (OpenSpec.ofChange pageChangesSpec)

/-- ITS FALSE NEIGHBOUR: 'it returns false'. Refute it at one input. -/
def pageChangesWrong : ChangeSpec := { name := "pageChanges", fn := fun _ => fun
  | [d1, d2, d3, d4] => { results := [.lit (.bool false)], args := [d1, d2, d3, d4] }
  | _ => none }
def PageChangesWrongFalsely : Prop := pageChangesRow.holds Try.pinned (OpenSpec.ofChange pageChangesWrong)

/-- 'bureaulaw05.PageForm': WHATEVER THE INPUT: true; the input reads as it did. -/
def pageFormSpec : ChangeSpec := { name := "pageForm", fn := fun _ => fun
  | [d1, d2, d3, d4] => { results := [.lit (.bool true)], args := [d1, d2, d3, d4] }
  | _ => none }
def pageFormRow : OpenClaim := { program := "ytnleoeogcinadaa", sum := "32b2fae247e69b6f2df4ed90c58e98b01bd398eb8f74a3b92e57aaf355c9ddac", func := "bureau/bureaulaw05.PageForm", spec := "pageForm", inPlace := ["slices.overlaps[string]"], unfollowed := true, recurses := true, apart := false }
def PageFormSaid : Prop := pageFormRow.holds Try.pinned (OpenSpec.ofChange pageFormSpec)

/-- ITS FALSE NEIGHBOUR: 'it returns false'. Refute it at one input. -/
def pageFormWrong : ChangeSpec := { name := "pageForm", fn := fun _ => fun
  | [d1, d2, d3, d4] => { results := [.lit (.bool false)], args := [d1, d2, d3, d4] }
  | _ => none }
def PageFormWrongFalsely : Prop := pageFormRow.holds Try.pinned (OpenSpec.ofChange pageFormWrong)

/- THE SECOND FORM. 'bulk': how many values and letters a reading holds, each counted each time it is reached (what is shared counts as often as it is met; a slice's spare places count too). A statement '..UptoSaid' is the law's where the arguments, and the package variables that the reading takes, are together of bulk at most 1048576: NARROWER than '..Said'. Prove '..Said' where nothing that the law and all that it calls make is longer than what came in: it says more and counts as full. Else prove '..UptoSaid'. A law counts once. -/
mutual
def uptoBulk {H : Type} : DataW H → Nat
  | .lit (.string bytes) => bytes.length + 1
  | .lit _ => 1
  | .nil => 1
  | .ptr d => uptoBulk d + 1
  | .slice elems spare => uptoBulkAll elems + uptoBulkAll spare + 1
  | .agg parts => uptoBulkAll parts + 1
  | .iface _ d => uptoBulk d + 1
  | .map entries => uptoBulkEntries entries + 1
  | .held _ => 1
def uptoBulkAll {H : Type} : List (DataW H) → Nat
  | [] => 0
  | d :: r => uptoBulk d + uptoBulkAll r
def uptoBulkEntries {H : Type} : List (Lit × DataW H) → Nat
  | [] => 0
  | x :: r => uptoBulkEntry x + uptoBulkEntries r
def uptoBulkEntry {H : Type} : Lit × DataW H → Nat
  | (.string bytes, d) => bytes.length + uptoBulk d + 1
  | (_, d) => uptoBulk d + 1
 end
def uptoSmall : (H : Type) → List (DataW H) → Bool := fun _ ds => decide (uptoBulkAll ds ≤ 1048576)
def OpenSpec.upto (s : _root_.Go.ChangeSpec) : _root_.Go.OpenSpec := { _root_.Go.OpenSpec.ofChange s with cond := some uptoSmall }

/-- 'bureaulaw05.PageNew', WHERE WHAT IT READS IS OF BULK AT MOST 1048576: true; the input reads as it did. -/
def pageNewUptoRow : OpenClaim := { program := "ytnleoeogcinadaa", sum := "32b2fae247e69b6f2df4ed90c58e98b01bd398eb8f74a3b92e57aaf355c9ddac", func := "bureau/bureaulaw05.PageNew", spec := "pageNew", apart := false, narrowed := true }
def PageNewUptoSaid : Prop := pageNewUptoRow.holds Try.pinned (OpenSpec.upto pageNewSpec)

/-- 'bureaulaw05.PageReads', WHERE WHAT IT READS IS OF BULK AT MOST 1048576: true; the input reads as it did. -/
def pageReadsUptoRow : OpenClaim := { program := "ytnleoeogcinadaa", sum := "32b2fae247e69b6f2df4ed90c58e98b01bd398eb8f74a3b92e57aaf355c9ddac", func := "bureau/bureaulaw05.PageReads", spec := "pageReads", unfollowed := true, recurses := true, apart := false, narrowed := true }
def PageReadsUptoSaid : Prop := pageReadsUptoRow.holds Try.pinned (OpenSpec.upto pageReadsSpec)

/-- 'bureaulaw05.PageParts', WHERE WHAT IT READS IS OF BULK AT MOST 1048576: true; the input reads as it did. -/
def pagePartsUptoRow : OpenClaim := { program := "ytnleoeogcinadaa", sum := "32b2fae247e69b6f2df4ed90c58e98b01bd398eb8f74a3b92e57aaf355c9ddac", func := "bureau/bureaulaw05.PageParts", spec := "pageParts", apart := false, narrowed := true }
def PagePartsUptoSaid : Prop := pagePartsUptoRow.holds Try.pinned (OpenSpec.upto pagePartsSpec)

/-- 'bureaulaw05.PageChanges', WHERE WHAT IT READS IS OF BULK AT MOST 1048576: true; the input reads as it did. -/
def pageChangesUptoRow : OpenClaim := { program := "ytnleoeogcinadaa", sum := "32b2fae247e69b6f2df4ed90c58e98b01bd398eb8f74a3b92e57aaf355c9ddac", func := "bureau/bureaulaw05.PageChanges", spec := "pageChanges", inPlace := ["slices.overlaps[string]"], apart := false, narrowed := true }
def PageChangesUptoSaid : Prop := pageChangesUptoRow.holds Try.pinned (OpenSpec.upto pageChangesSpec)

/-- 'bureaulaw05.PageForm', WHERE WHAT IT READS IS OF BULK AT MOST 1048576: true; the input reads as it did. -/
def pageFormUptoRow : OpenClaim := { program := "ytnleoeogcinadaa", sum := "32b2fae247e69b6f2df4ed90c58e98b01bd398eb8f74a3b92e57aaf355c9ddac", func := "bureau/bureaulaw05.PageForm", spec := "pageForm", inPlace := ["slices.overlaps[string]"], unfollowed := true, recurses := true, apart := false, narrowed := true }
def PageFormUptoSaid : Prop := pageFormUptoRow.holds Try.pinned (OpenSpec.upto pageFormSpec)

end Rows
end Go.Proofs.Ytnleoeogcinadaa
