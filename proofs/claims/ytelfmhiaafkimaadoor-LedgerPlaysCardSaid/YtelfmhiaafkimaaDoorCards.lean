/-
  DERIVED. GIVEN WITH THE SEED: THE CARDS: each row of YtelfmhiaafkimaaDoorRows.lean that lists a variable, with what it lists TIED to the program's text (the seventh form; the later family's looks); each row that meets fmt, with fmt's text TOLD by the authors' own Lean function (tested against real Go, not proved from fmt's source: count such statements apart). THE CARD IS WHAT COUNTS. Prove the row's statement (the work); the ties are given (YtelfmhiaafkimaaDoorTie.lean); close each card by the builder's one call (the guide's Derived/Test/ToyasCard.lean, 'card_holds'). Laid BY PROGRAM, IN A SANDBOX (cutbox-door.mjs). By AI agents, Wed Nov 11 2026. No macro, syntax, notation, axiom, sorry.
-/
import Derived.Test.YtelfmhiaafkimaaDoorRows
import GoSem.ClaimSeven
namespace Go.Proofs.YtelfmhiaafkimaaDoor
namespace Rows

/-- THE TIED CARD OF 'folkmootlaw.GeneralsPlays'. -/
def generalsPlaysCard : Claim7 := { stood := { row := generalsPlaysRow, standIns := [], harness := (true, "0023d88c28060de8273eef6a71d98a197ff471501ffcf29dfd92070dd42b9580"), looks := true }, kinds := [], alts := [], laidByText := true, laidKinds := [.data], laidTests := true, laidLooks := .later }
def GeneralsPlaysCardSaid : Prop := Claim7.holds Tryd.pinned (.plain (OpenSpec.ofChange generalsPlaysSpec)) generalsPlaysCard

/-- THE TIED CARD OF 'folkmootlaw.LedgerPlays'. -/
def ledgerPlaysCard : Claim7 := { stood := { row := ledgerPlaysRow, standIns := [], harness := (true, "0023d88c28060de8273eef6a71d98a197ff471501ffcf29dfd92070dd42b9580"), looks := true }, kinds := [], alts := [], laidByText := true, laidKinds := [.handle], laidTests := true, laidLooks := .later }
def LedgerPlaysCardSaid : Prop := Claim7.holds Tryd.pinned (.plain (OpenSpec.ofChange ledgerPlaysSpec)) ledgerPlaysCard

/-- THE SECOND FORM's CARD OF 'folkmootlaw.GeneralsPlays'. -/
def generalsPlaysUptoCard : Claim7 := { stood := { row := generalsPlaysUptoRow, standIns := [], harness := (true, "0023d88c28060de8273eef6a71d98a197ff471501ffcf29dfd92070dd42b9580"), looks := true }, kinds := [], alts := [], laidByText := true, laidKinds := [.data], laidTests := true, laidLooks := .later }
def GeneralsPlaysUptoCardSaid : Prop := Claim7.holds Tryd.pinned (.plain (OpenSpec.upto generalsPlaysSpec)) generalsPlaysUptoCard

/-- THE SECOND FORM's CARD OF 'folkmootlaw.LedgerPlays'. -/
def ledgerPlaysUptoCard : Claim7 := { stood := { row := ledgerPlaysUptoRow, standIns := [], harness := (true, "0023d88c28060de8273eef6a71d98a197ff471501ffcf29dfd92070dd42b9580"), looks := true }, kinds := [], alts := [], laidByText := true, laidKinds := [.handle], laidTests := true, laidLooks := .later }
def LedgerPlaysUptoCardSaid : Prop := Claim7.holds Tryd.pinned (.plain (OpenSpec.upto ledgerPlaysSpec)) ledgerPlaysUptoCard
end Rows
end Go.Proofs.YtelfmhiaafkimaaDoor
