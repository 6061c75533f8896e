/-
  DERIVED. GIVEN WITH THE SEED: THE CARDS: each row of YtmmjmppfmjejkaaGreatDoorRows.lean that lists a variable, with what it lists TIED to the program's text (the seventh form; the later family's looks); each row that meets fmt, with fmt's text TOLD by the authors' own Lean function (tested against real Go, not proved from fmt's source: count such statements apart). THE CARD IS WHAT COUNTS. Prove the row's statement (the work); the ties are given (YtmmjmppfmjejkaaGreatDoorTie.lean); close each card by the builder's one call (the guide's Derived/Test/ToyasCard.lean, 'card_holds'). Laid BY PROGRAM, IN A SANDBOX (cutbox-door.mjs). By AI agents, Wed Nov 11 2026. No macro, syntax, notation, axiom, sorry.
-/
import Derived.Test.YtmmjmppfmjejkaaGreatDoorRows
import GoSem.ClaimSeven
namespace Go.Proofs.YtmmjmppfmjejkaaGreatDoor
namespace Rows

/-- THE TIED CARD OF 'catapultlaw08.TypesChecks'. -/
def typesChecksCard : Claim7 := { stood := { row := typesChecksRow, standIns := [], harness := (true, "372556c06080c01a189079f70c68f669054c3a2d996c409d775d316b48ddcb9a"), looks := false }, kinds := [], alts := [], laidByText := true, laidKinds := [.data, .data, .data, .widerDeep], laidTests := true, laidLooks := .later }
def TypesChecksCardSaid : Prop := Claim7.holds Tryz.pinned (.plain (OpenSpec.ofChange typesChecksSpec)) typesChecksCard

/-- THE TIED CARD OF 'catapultlaw08.TypesTurns'. -/
def typesTurnsCard : Claim7 := { stood := { row := typesTurnsRow, standIns := [], harness := (true, "372556c06080c01a189079f70c68f669054c3a2d996c409d775d316b48ddcb9a"), looks := false }, kinds := [], alts := [], laidByText := true, laidKinds := [.data, .data, .data, .widerDeep], laidTests := true, laidLooks := .later }
def TypesTurnsCardSaid : Prop := Claim7.holds Tryz.pinned (.plain (OpenSpec.ofChange typesTurnsSpec)) typesTurnsCard

/-- THE TIED CARD OF 'catapultlaw08.TypesSizes'. -/
def typesSizesCard : Claim7 := { stood := { row := typesSizesRow, standIns := [], harness := (true, "372556c06080c01a189079f70c68f669054c3a2d996c409d775d316b48ddcb9a"), looks := false }, kinds := [], alts := [], laidByText := true, laidKinds := [.data, .data, .data, .widerDeep], laidTests := true, laidLooks := .later }
def TypesSizesCardSaid : Prop := Claim7.holds Tryz.pinned (.plain (OpenSpec.ofChange typesSizesSpec)) typesSizesCard

/-- THE SECOND FORM's CARD OF 'catapultlaw08.TypesChecks'. -/
def typesChecksUptoCard : Claim7 := { stood := { row := typesChecksUptoRow, standIns := [], harness := (true, "372556c06080c01a189079f70c68f669054c3a2d996c409d775d316b48ddcb9a"), looks := false }, kinds := [], alts := [], laidByText := true, laidKinds := [.data, .data, .data, .widerDeep], laidTests := true, laidLooks := .later }
def TypesChecksUptoCardSaid : Prop := Claim7.holds Tryz.pinned (.plain (OpenSpec.upto typesChecksSpec)) typesChecksUptoCard

/-- THE SECOND FORM's CARD OF 'catapultlaw08.TypesTurns'. -/
def typesTurnsUptoCard : Claim7 := { stood := { row := typesTurnsUptoRow, standIns := [], harness := (true, "372556c06080c01a189079f70c68f669054c3a2d996c409d775d316b48ddcb9a"), looks := false }, kinds := [], alts := [], laidByText := true, laidKinds := [.data, .data, .data, .widerDeep], laidTests := true, laidLooks := .later }
def TypesTurnsUptoCardSaid : Prop := Claim7.holds Tryz.pinned (.plain (OpenSpec.upto typesTurnsSpec)) typesTurnsUptoCard

/-- THE SECOND FORM's CARD OF 'catapultlaw08.TypesSizes'. -/
def typesSizesUptoCard : Claim7 := { stood := { row := typesSizesUptoRow, standIns := [], harness := (true, "372556c06080c01a189079f70c68f669054c3a2d996c409d775d316b48ddcb9a"), looks := false }, kinds := [], alts := [], laidByText := true, laidKinds := [.data, .data, .data, .widerDeep], laidTests := true, laidLooks := .later }
def TypesSizesUptoCardSaid : Prop := Claim7.holds Tryz.pinned (.plain (OpenSpec.upto typesSizesSpec)) typesSizesUptoCard
end Rows
end Go.Proofs.YtmmjmppfmjejkaaGreatDoor
