/-
  DERIVED. GIVEN WITH THE SEED: THE CARDS: each row of YtlcefenjlchaiaaDoorRows.lean that lists a variable, with what it lists TIED to the program's text (the seventh form; the later family's looks); each row that meets fmt, with fmt's text TOLD by the authors' own Lean function (tested against real Go, not proved from fmt's source: count such statements apart). THE CARD IS WHAT COUNTS. Prove the row's statement (the work); the ties are given (YtlcefenjlchaiaaDoorTie.lean); close each card by the builder's one call (the guide's Derived/Test/ToyasCard.lean, 'card_holds'). Laid BY PROGRAM, IN A SANDBOX (cutbox-door.mjs). By AI agents, Wed Nov 11 2026. No macro, syntax, notation, axiom, sorry.
-/
import Derived.Test.YtlcefenjlchaiaaDoorRows
import GoSem.ClaimSeven
namespace Go.Proofs.YtlcefenjlchaiaaDoor
namespace Rows

/-- THE TIED CARD OF 'bureaulaw04.RecordCmp'. -/
def recordCmpCard : Claim7 := { stood := { row := recordCmpRow, standIns := [], harness := (true, "4964cc8abbd0b89e9a078ddfb7a4a709c96efdf9eee29e3c34b0b86e4a628533"), looks := true }, kinds := [], alts := [], laidByText := true, laidKinds := [.data, .pinned], laidTests := true, laidLooks := .later }
def RecordCmpCardSaid : Prop := Claim7.holds Tryd.pinned (.plain (OpenSpec.ofChange recordCmpSpec)) recordCmpCard

/-- THE SECOND FORM's CARD OF 'bureaulaw04.RecordCmp'. -/
def recordCmpUptoCard : Claim7 := { stood := { row := recordCmpUptoRow, standIns := [], harness := (true, "4964cc8abbd0b89e9a078ddfb7a4a709c96efdf9eee29e3c34b0b86e4a628533"), looks := true }, kinds := [], alts := [], laidByText := true, laidKinds := [.data, .pinned], laidTests := true, laidLooks := .later }
def RecordCmpUptoCardSaid : Prop := Claim7.holds Tryd.pinned (.plain (OpenSpec.upto recordCmpSpec)) recordCmpUptoCard
end Rows
end Go.Proofs.YtlcefenjlchaiaaDoor
