/-
  No cell of these rows narrows 'for every input' (looked for: loops, veiled, ifaces, maps, wideKeys, modest, calm, conditions, laid).
  DERIVED. THE GIVEN ROWS OF THIS SEAT. 10 by the template 'for every input the law returns true; each argument reads behind the call as it read before'; 0 by the template 'total and deterministic' (their statements: YtoeldmkbmnkhkaaGreatTotals.lean).
  GIVEN WITH THE SEED: the statements are not yours to turn. If you find one false, say at which input.
  Laid BY PROGRAM, IN A SANDBOX (cutbox-rows.mjs): the forced cells as the released guide's own fill.sh prints them over the translation 76ea22c6ddf7bfeb… (all of the seat's roots in one cut). By AI agents, Wed Nov 11 2026. No macro, syntax, notation, axiom, sorry.
-/
import Derived.Test.YtoeldmkbmnkhkaaGreatChecked
import GoSem.Claim
import GoSem.ClaimJoined
import GoSem.ClaimMapViews
import Derived.JoinedTies
import Derived.KernelRfl
namespace Go.Proofs.YtoeldmkbmnkhkaaGreat
/- THE CELL 'sum', in the pinned program and in every row, IS THE sha256 OF THE DUMP (.gsa) THAT YtoeldmkbmnkhkaaGreatProg.lean LOADS. Nothing in Lean hashes anything: it is a label: what it is worth is what the hold of that sum in a sandbox is worth. -/
noncomputable def Tryz.pinned : Pinned := { name := "ytoeldmkbmnkhkaagreat", sum := "76ea22c6ddf7bfeb521ac5b93ba0b26c54996d5c1ac869436f667180fe8fd6f9", checked := Tryz.checked }
namespace Rows
def none {H : Type} : Left H := { results := [], args := [] }

/-- 'bureaulaw10.SpaceOnce': WHATEVER THE INPUT: true; the input reads as it did. -/
def spaceOnceSpec : ChangeSpec := { name := "spaceOnce", fn := fun _ => fun
  | [d] => { results := [.lit (.bool true)], args := [d] }
  | _ => none }
def spaceOnceRow : OpenClaim := { program := "ytoeldmkbmnkhkaagreat", sum := "76ea22c6ddf7bfeb521ac5b93ba0b26c54996d5c1ac869436f667180fe8fd6f9", func := "bureau/bureaulaw10.SpaceOnce", spec := "spaceOnce", unfollowed := true, recurses := true, apart := false }
def SpaceOnceSaid : Prop := spaceOnceRow.holds Tryz.pinned (OpenSpec.ofChange spaceOnceSpec)

/-- ITS FALSE NEIGHBOUR: 'it returns false'. Refute it at one input. -/
def spaceOnceWrong : ChangeSpec := { name := "spaceOnce", fn := fun _ => fun
  | [d] => { results := [.lit (.bool false)], args := [d] }
  | _ => none }
def SpaceOnceWrongFalsely : Prop := spaceOnceRow.holds Tryz.pinned (OpenSpec.ofChange spaceOnceWrong)

/-- 'bureaulaw09.StoreApart': WHATEVER THE INPUT: true; the input reads as it did. -/
def storeApartSpec : ChangeSpec := { name := "storeApart", fn := fun _ => fun
  | [d1, d2] => { results := [.lit (.bool true)], args := [d1, d2] }
  | _ => none }
def storeApartRow : OpenClaim := { program := "ytoeldmkbmnkhkaagreat", sum := "76ea22c6ddf7bfeb521ac5b93ba0b26c54996d5c1ac869436f667180fe8fd6f9", func := "bureau/bureaulaw09.StoreApart", spec := "storeApart", unfollowed := true, recurses := true, apart := false }
def StoreApartSaid : Prop := storeApartRow.holds Tryz.pinned (OpenSpec.ofChange storeApartSpec)

/-- ITS FALSE NEIGHBOUR: 'it returns false'. Refute it at one input. -/
def storeApartWrong : ChangeSpec := { name := "storeApart", fn := fun _ => fun
  | [d1, d2] => { results := [.lit (.bool false)], args := [d1, d2] }
  | _ => none }
def StoreApartWrongFalsely : Prop := storeApartRow.holds Tryz.pinned (OpenSpec.ofChange storeApartWrong)

/-- 'bureaulaw09.StoreSaves': WHATEVER THE INPUT: true; the input reads as it did. -/
def storeSavesSpec : ChangeSpec := { name := "storeSaves", fn := fun _ => fun
  | [d1, d2, d3] => { results := [.lit (.bool true)], args := [d1, d2, d3] }
  | _ => none }
def storeSavesRow : OpenClaim := { program := "ytoeldmkbmnkhkaagreat", sum := "76ea22c6ddf7bfeb521ac5b93ba0b26c54996d5c1ac869436f667180fe8fd6f9", func := "bureau/bureaulaw09.StoreSaves", spec := "storeSaves", inPlace := ["maps.clone"], unfollowed := true, recurses := true, apart := false }
def StoreSavesSaid : Prop := storeSavesRow.holds Tryz.pinned (OpenSpec.ofChange storeSavesSpec)

/-- ITS FALSE NEIGHBOUR: 'it returns false'. Refute it at one input. -/
def storeSavesWrong : ChangeSpec := { name := "storeSaves", fn := fun _ => fun
  | [d1, d2, d3] => { results := [.lit (.bool false)], args := [d1, d2, d3] }
  | _ => none }
def StoreSavesWrongFalsely : Prop := storeSavesRow.holds Tryz.pinned (OpenSpec.ofChange storeSavesWrong)

/-- 'bureaulaw09.StoreAtomic': WHATEVER THE INPUT: true; the input reads as it did. -/
def storeAtomicSpec : ChangeSpec := { name := "storeAtomic", fn := fun _ => fun
  | [d1, d2, d3, d4] => { results := [.lit (.bool true)], args := [d1, d2, d3, d4] }
  | _ => none }
def storeAtomicRow : OpenClaim := { program := "ytoeldmkbmnkhkaagreat", sum := "76ea22c6ddf7bfeb521ac5b93ba0b26c54996d5c1ac869436f667180fe8fd6f9", func := "bureau/bureaulaw09.StoreAtomic", spec := "storeAtomic", unfollowed := true, recurses := true, apart := false }
def StoreAtomicSaid : Prop := storeAtomicRow.holds Tryz.pinned (OpenSpec.ofChange storeAtomicSpec)

/-- ITS FALSE NEIGHBOUR: 'it returns false'. Refute it at one input. -/
def storeAtomicWrong : ChangeSpec := { name := "storeAtomic", fn := fun _ => fun
  | [d1, d2, d3, d4] => { results := [.lit (.bool false)], args := [d1, d2, d3, d4] }
  | _ => none }
def StoreAtomicWrongFalsely : Prop := storeAtomicRow.holds Tryz.pinned (OpenSpec.ofChange storeAtomicWrong)

/-- 'bureaulaw10.SpacePlays': WHATEVER THE INPUT: true; the input reads as it did. -/
def spacePlaysSpec : ChangeSpec := { name := "spacePlays", fn := fun _ => fun
  | [d] => { results := [.lit (.bool true)], args := [d] }
  | _ => none }
def spacePlaysRow : OpenClaim := { program := "ytoeldmkbmnkhkaagreat", sum := "76ea22c6ddf7bfeb521ac5b93ba0b26c54996d5c1ac869436f667180fe8fd6f9", func := "bureau/bureaulaw10.SpacePlays", spec := "spacePlays", inPlace := ["maps.clone"], unfollowed := true, recurses := true, apart := false }
def SpacePlaysSaid : Prop := spacePlaysRow.holds Tryz.pinned (OpenSpec.ofChange spacePlaysSpec)

/-- ITS FALSE NEIGHBOUR: 'it returns false'. Refute it at one input. -/
def spacePlaysWrong : ChangeSpec := { name := "spacePlays", fn := fun _ => fun
  | [d] => { results := [.lit (.bool false)], args := [d] }
  | _ => none }
def SpacePlaysWrongFalsely : Prop := spacePlaysRow.holds Tryz.pinned (OpenSpec.ofChange spacePlaysWrong)

/-- 'bureaulaw09.StoreNone': WHATEVER THE INPUT: true; the input reads as it did. -/
def storeNoneSpec : ChangeSpec := { name := "storeNone", fn := fun _ => fun
  | [d1, d2] => { results := [.lit (.bool true)], args := [d1, d2] }
  | _ => none }
def storeNoneRow : OpenClaim := { program := "ytoeldmkbmnkhkaagreat", sum := "76ea22c6ddf7bfeb521ac5b93ba0b26c54996d5c1ac869436f667180fe8fd6f9", func := "bureau/bureaulaw09.StoreNone", spec := "storeNone", inPlace := ["maps.clone"], unfollowed := true, recurses := true, apart := false }
def StoreNoneSaid : Prop := storeNoneRow.holds Tryz.pinned (OpenSpec.ofChange storeNoneSpec)

/-- ITS FALSE NEIGHBOUR: 'it returns false'. Refute it at one input. -/
def storeNoneWrong : ChangeSpec := { name := "storeNone", fn := fun _ => fun
  | [d1, d2] => { results := [.lit (.bool false)], args := [d1, d2] }
  | _ => none }
def StoreNoneWrongFalsely : Prop := storeNoneRow.holds Tryz.pinned (OpenSpec.ofChange storeNoneWrong)

/-- 'bureaulaw11.SpillAny': WHATEVER THE INPUT: true; the input reads as it did. -/
def spillAnySpec : ChangeSpec := { name := "spillAny", fn := fun _ => fun
  | [d1, d2] => { results := [.lit (.bool true)], args := [d1, d2] }
  | _ => none }
def spillAnyRow : OpenClaim := { program := "ytoeldmkbmnkhkaagreat", sum := "76ea22c6ddf7bfeb521ac5b93ba0b26c54996d5c1ac869436f667180fe8fd6f9", func := "bureau/bureaulaw11.SpillAny", spec := "spillAny", inPlace := ["maps.clone"], unfollowed := true, recurses := true, apart := false }
def SpillAnySaid : Prop := spillAnyRow.holds Tryz.pinned (OpenSpec.ofChange spillAnySpec)

/-- ITS FALSE NEIGHBOUR: 'it returns false'. Refute it at one input. -/
def spillAnyWrong : ChangeSpec := { name := "spillAny", fn := fun _ => fun
  | [d1, d2] => { results := [.lit (.bool false)], args := [d1, d2] }
  | _ => none }
def SpillAnyWrongFalsely : Prop := spillAnyRow.holds Tryz.pinned (OpenSpec.ofChange spillAnyWrong)

/-- 'bureaulaw11.SpillBack': WHATEVER THE INPUT: true; the input reads as it did. -/
def spillBackSpec : ChangeSpec := { name := "spillBack", fn := fun _ => fun
  | [d] => { results := [.lit (.bool true)], args := [d] }
  | _ => none }
def spillBackRow : OpenClaim := { program := "ytoeldmkbmnkhkaagreat", sum := "76ea22c6ddf7bfeb521ac5b93ba0b26c54996d5c1ac869436f667180fe8fd6f9", func := "bureau/bureaulaw11.SpillBack", spec := "spillBack", inPlace := ["maps.clone"], unfollowed := true, recurses := true, apart := false }
def SpillBackSaid : Prop := spillBackRow.holds Tryz.pinned (OpenSpec.ofChange spillBackSpec)

/-- ITS FALSE NEIGHBOUR: 'it returns false'. Refute it at one input. -/
def spillBackWrong : ChangeSpec := { name := "spillBack", fn := fun _ => fun
  | [d] => { results := [.lit (.bool false)], args := [d] }
  | _ => none }
def SpillBackWrongFalsely : Prop := spillBackRow.holds Tryz.pinned (OpenSpec.ofChange spillBackWrong)

/-- 'bureaulaw11.SpillRefuses': WHATEVER THE INPUT: true; the input reads as it did. -/
def spillRefusesSpec : ChangeSpec := { name := "spillRefuses", fn := fun _ => fun
  | [d1, d2] => { results := [.lit (.bool true)], args := [d1, d2] }
  | _ => none }
def spillRefusesRow : OpenClaim := { program := "ytoeldmkbmnkhkaagreat", sum := "76ea22c6ddf7bfeb521ac5b93ba0b26c54996d5c1ac869436f667180fe8fd6f9", func := "bureau/bureaulaw11.SpillRefuses", spec := "spillRefuses", inPlace := ["maps.clone"], unfollowed := true, recurses := true, apart := false }
def SpillRefusesSaid : Prop := spillRefusesRow.holds Tryz.pinned (OpenSpec.ofChange spillRefusesSpec)

/-- ITS FALSE NEIGHBOUR: 'it returns false'. Refute it at one input. -/
def spillRefusesWrong : ChangeSpec := { name := "spillRefuses", fn := fun _ => fun
  | [d1, d2] => { results := [.lit (.bool false)], args := [d1, d2] }
  | _ => none }
def SpillRefusesWrongFalsely : Prop := spillRefusesRow.holds Tryz.pinned (OpenSpec.ofChange spillRefusesWrong)

/-- 'bureaulaw11.SpillPlays': WHATEVER THE INPUT: true; the input reads as it did. -/
def spillPlaysSpec : ChangeSpec := { name := "spillPlays", fn := fun _ => fun
  | [d] => { results := [.lit (.bool true)], args := [d] }
  | _ => none }
def spillPlaysRow : OpenClaim := { program := "ytoeldmkbmnkhkaagreat", sum := "76ea22c6ddf7bfeb521ac5b93ba0b26c54996d5c1ac869436f667180fe8fd6f9", func := "bureau/bureaulaw11.SpillPlays", spec := "spillPlays", inPlace := ["maps.clone"], unfollowed := true, recurses := true, apart := false }
def SpillPlaysSaid : Prop := spillPlaysRow.holds Tryz.pinned (OpenSpec.ofChange spillPlaysSpec)

/-- ITS FALSE NEIGHBOUR: 'it returns false'. Refute it at one input. -/
def spillPlaysWrong : ChangeSpec := { name := "spillPlays", fn := fun _ => fun
  | [d] => { results := [.lit (.bool false)], args := [d] }
  | _ => none }
def SpillPlaysWrongFalsely : Prop := spillPlaysRow.holds Tryz.pinned (OpenSpec.ofChange spillPlaysWrong)

/- THE SECOND FORM. 'bulk': how many values and letters a reading holds, each counted each time it is reached (what is shared counts as often as it is met; a slice's spare places count too). A statement '..UptoSaid' is the law's where the arguments, and the package variables that the reading takes, are together of bulk at most 1048576: NARROWER than '..Said'. Prove '..Said' where nothing that the law and all that it calls make is longer than what came in: it says more and counts as full. Else prove '..UptoSaid'. A law counts once. -/
mutual
def uptoBulk {H : Type} : DataW H → Nat
  | .lit (.string bytes) => bytes.length + 1
  | .lit _ => 1
  | .nil => 1
  | .ptr d => uptoBulk d + 1
  | .slice elems spare => uptoBulkAll elems + uptoBulkAll spare + 1
  | .agg parts => uptoBulkAll parts + 1
  | .iface _ d => uptoBulk d + 1
  | .map entries => uptoBulkEntries entries + 1
  | .held _ => 1
def uptoBulkAll {H : Type} : List (DataW H) → Nat
  | [] => 0
  | d :: r => uptoBulk d + uptoBulkAll r
def uptoBulkEntries {H : Type} : List (Lit × DataW H) → Nat
  | [] => 0
  | x :: r => uptoBulkEntry x + uptoBulkEntries r
def uptoBulkEntry {H : Type} : Lit × DataW H → Nat
  | (.string bytes, d) => bytes.length + uptoBulk d + 1
  | (_, d) => uptoBulk d + 1
 end
def uptoSmall : (H : Type) → List (DataW H) → Bool := fun _ ds => decide (uptoBulkAll ds ≤ 1048576)
def OpenSpec.upto (s : _root_.Go.ChangeSpec) : _root_.Go.OpenSpec := { _root_.Go.OpenSpec.ofChange s with cond := some uptoSmall }

/-- 'bureaulaw10.SpaceOnce', WHERE WHAT IT READS IS OF BULK AT MOST 1048576: true; the input reads as it did. -/
def spaceOnceUptoRow : OpenClaim := { program := "ytoeldmkbmnkhkaagreat", sum := "76ea22c6ddf7bfeb521ac5b93ba0b26c54996d5c1ac869436f667180fe8fd6f9", func := "bureau/bureaulaw10.SpaceOnce", spec := "spaceOnce", unfollowed := true, recurses := true, apart := false, narrowed := true }
def SpaceOnceUptoSaid : Prop := spaceOnceUptoRow.holds Tryz.pinned (OpenSpec.upto spaceOnceSpec)

/-- 'bureaulaw09.StoreApart', WHERE WHAT IT READS IS OF BULK AT MOST 1048576: true; the input reads as it did. -/
def storeApartUptoRow : OpenClaim := { program := "ytoeldmkbmnkhkaagreat", sum := "76ea22c6ddf7bfeb521ac5b93ba0b26c54996d5c1ac869436f667180fe8fd6f9", func := "bureau/bureaulaw09.StoreApart", spec := "storeApart", unfollowed := true, recurses := true, apart := false, narrowed := true }
def StoreApartUptoSaid : Prop := storeApartUptoRow.holds Tryz.pinned (OpenSpec.upto storeApartSpec)

/-- 'bureaulaw09.StoreSaves', WHERE WHAT IT READS IS OF BULK AT MOST 1048576: true; the input reads as it did. -/
def storeSavesUptoRow : OpenClaim := { program := "ytoeldmkbmnkhkaagreat", sum := "76ea22c6ddf7bfeb521ac5b93ba0b26c54996d5c1ac869436f667180fe8fd6f9", func := "bureau/bureaulaw09.StoreSaves", spec := "storeSaves", inPlace := ["maps.clone"], unfollowed := true, recurses := true, apart := false, narrowed := true }
def StoreSavesUptoSaid : Prop := storeSavesUptoRow.holds Tryz.pinned (OpenSpec.upto storeSavesSpec)

/-- 'bureaulaw09.StoreAtomic', WHERE WHAT IT READS IS OF BULK AT MOST 1048576: true; the input reads as it did. -/
def storeAtomicUptoRow : OpenClaim := { program := "ytoeldmkbmnkhkaagreat", sum := "76ea22c6ddf7bfeb521ac5b93ba0b26c54996d5c1ac869436f667180fe8fd6f9", func := "bureau/bureaulaw09.StoreAtomic", spec := "storeAtomic", unfollowed := true, recurses := true, apart := false, narrowed := true }
def StoreAtomicUptoSaid : Prop := storeAtomicUptoRow.holds Tryz.pinned (OpenSpec.upto storeAtomicSpec)

/-- 'bureaulaw10.SpacePlays', WHERE WHAT IT READS IS OF BULK AT MOST 1048576: true; the input reads as it did. -/
def spacePlaysUptoRow : OpenClaim := { program := "ytoeldmkbmnkhkaagreat", sum := "76ea22c6ddf7bfeb521ac5b93ba0b26c54996d5c1ac869436f667180fe8fd6f9", func := "bureau/bureaulaw10.SpacePlays", spec := "spacePlays", inPlace := ["maps.clone"], unfollowed := true, recurses := true, apart := false, narrowed := true }
def SpacePlaysUptoSaid : Prop := spacePlaysUptoRow.holds Tryz.pinned (OpenSpec.upto spacePlaysSpec)

/-- 'bureaulaw09.StoreNone', WHERE WHAT IT READS IS OF BULK AT MOST 1048576: true; the input reads as it did. -/
def storeNoneUptoRow : OpenClaim := { program := "ytoeldmkbmnkhkaagreat", sum := "76ea22c6ddf7bfeb521ac5b93ba0b26c54996d5c1ac869436f667180fe8fd6f9", func := "bureau/bureaulaw09.StoreNone", spec := "storeNone", inPlace := ["maps.clone"], unfollowed := true, recurses := true, apart := false, narrowed := true }
def StoreNoneUptoSaid : Prop := storeNoneUptoRow.holds Tryz.pinned (OpenSpec.upto storeNoneSpec)

/-- 'bureaulaw11.SpillAny', WHERE WHAT IT READS IS OF BULK AT MOST 1048576: true; the input reads as it did. -/
def spillAnyUptoRow : OpenClaim := { program := "ytoeldmkbmnkhkaagreat", sum := "76ea22c6ddf7bfeb521ac5b93ba0b26c54996d5c1ac869436f667180fe8fd6f9", func := "bureau/bureaulaw11.SpillAny", spec := "spillAny", inPlace := ["maps.clone"], unfollowed := true, recurses := true, apart := false, narrowed := true }
def SpillAnyUptoSaid : Prop := spillAnyUptoRow.holds Tryz.pinned (OpenSpec.upto spillAnySpec)

/-- 'bureaulaw11.SpillBack', WHERE WHAT IT READS IS OF BULK AT MOST 1048576: true; the input reads as it did. -/
def spillBackUptoRow : OpenClaim := { program := "ytoeldmkbmnkhkaagreat", sum := "76ea22c6ddf7bfeb521ac5b93ba0b26c54996d5c1ac869436f667180fe8fd6f9", func := "bureau/bureaulaw11.SpillBack", spec := "spillBack", inPlace := ["maps.clone"], unfollowed := true, recurses := true, apart := false, narrowed := true }
def SpillBackUptoSaid : Prop := spillBackUptoRow.holds Tryz.pinned (OpenSpec.upto spillBackSpec)

/-- 'bureaulaw11.SpillRefuses', WHERE WHAT IT READS IS OF BULK AT MOST 1048576: true; the input reads as it did. -/
def spillRefusesUptoRow : OpenClaim := { program := "ytoeldmkbmnkhkaagreat", sum := "76ea22c6ddf7bfeb521ac5b93ba0b26c54996d5c1ac869436f667180fe8fd6f9", func := "bureau/bureaulaw11.SpillRefuses", spec := "spillRefuses", inPlace := ["maps.clone"], unfollowed := true, recurses := true, apart := false, narrowed := true }
def SpillRefusesUptoSaid : Prop := spillRefusesUptoRow.holds Tryz.pinned (OpenSpec.upto spillRefusesSpec)

/-- 'bureaulaw11.SpillPlays', WHERE WHAT IT READS IS OF BULK AT MOST 1048576: true; the input reads as it did. -/
def spillPlaysUptoRow : OpenClaim := { program := "ytoeldmkbmnkhkaagreat", sum := "76ea22c6ddf7bfeb521ac5b93ba0b26c54996d5c1ac869436f667180fe8fd6f9", func := "bureau/bureaulaw11.SpillPlays", spec := "spillPlays", inPlace := ["maps.clone"], unfollowed := true, recurses := true, apart := false, narrowed := true }
def SpillPlaysUptoSaid : Prop := spillPlaysUptoRow.holds Tryz.pinned (OpenSpec.upto spillPlaysSpec)

end Rows
end Go.Proofs.YtoeldmkbmnkhkaaGreat
