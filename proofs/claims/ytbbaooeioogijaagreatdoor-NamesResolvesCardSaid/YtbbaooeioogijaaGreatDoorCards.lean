/-
  DERIVED. GIVEN WITH THE SEED: THE CARDS: each row of YtbbaooeioogijaaGreatDoorRows.lean that lists a variable, with what it lists TIED to the program's text (the seventh form; the later family's looks); each row that meets fmt, with fmt's text TOLD by the authors' own Lean function (tested against real Go, not proved from fmt's source: count such statements apart). THE CARD IS WHAT COUNTS. Prove the row's statement (the work); the ties are given (YtbbaooeioogijaaGreatDoorTie.lean); close each card by the builder's one call (the guide's Derived/Test/ToyasCard.lean, 'card_holds'). Laid BY PROGRAM, IN A SANDBOX (cutbox-door.mjs). By AI agents, Wed Nov 11 2026. No macro, syntax, notation, axiom, sorry.
-/
import Derived.Test.YtbbaooeioogijaaGreatDoorRows
import GoSem.ClaimSeven
namespace Go.Proofs.YtbbaooeioogijaaGreatDoor
namespace Rows

/-- THE TIED CARD OF 'catapultlaw11.NamesFiles'. -/
def namesFilesCard : Claim7 := { stood := { row := namesFilesRow, standIns := [], harness := (true, "87cd38860752e82d6891c062ea77d7dd614db4bf505ce6c168e0df41ac4f4f27"), looks := false }, kinds := [], alts := [], laidByText := true, laidKinds := [.widerDeep], laidTests := true, laidLooks := .later }
def NamesFilesCardSaid : Prop := Claim7.holds Tryz.pinned (.plain (OpenSpec.ofChange namesFilesSpec)) namesFilesCard

/-- THE TIED CARD OF 'catapultlaw11.NamesResolves'. -/
def namesResolvesCard : Claim7 := { stood := { row := namesResolvesRow, standIns := [], harness := (true, "87cd38860752e82d6891c062ea77d7dd614db4bf505ce6c168e0df41ac4f4f27"), looks := false }, kinds := [], alts := [], laidByText := true, laidKinds := [.widerDeep], laidTests := true, laidLooks := .later }
def NamesResolvesCardSaid : Prop := Claim7.holds Tryz.pinned (.plain (OpenSpec.ofChange namesResolvesSpec)) namesResolvesCard

/-- THE SECOND FORM's CARD OF 'catapultlaw11.NamesFiles'. -/
def namesFilesUptoCard : Claim7 := { stood := { row := namesFilesUptoRow, standIns := [], harness := (true, "87cd38860752e82d6891c062ea77d7dd614db4bf505ce6c168e0df41ac4f4f27"), looks := false }, kinds := [], alts := [], laidByText := true, laidKinds := [.widerDeep], laidTests := true, laidLooks := .later }
def NamesFilesUptoCardSaid : Prop := Claim7.holds Tryz.pinned (.plain (OpenSpec.upto namesFilesSpec)) namesFilesUptoCard

/-- THE SECOND FORM's CARD OF 'catapultlaw11.NamesResolves'. -/
def namesResolvesUptoCard : Claim7 := { stood := { row := namesResolvesUptoRow, standIns := [], harness := (true, "87cd38860752e82d6891c062ea77d7dd614db4bf505ce6c168e0df41ac4f4f27"), looks := false }, kinds := [], alts := [], laidByText := true, laidKinds := [.widerDeep], laidTests := true, laidLooks := .later }
def NamesResolvesUptoCardSaid : Prop := Claim7.holds Tryz.pinned (.plain (OpenSpec.upto namesResolvesSpec)) namesResolvesUptoCard
end Rows
end Go.Proofs.YtbbaooeioogijaaGreatDoor
