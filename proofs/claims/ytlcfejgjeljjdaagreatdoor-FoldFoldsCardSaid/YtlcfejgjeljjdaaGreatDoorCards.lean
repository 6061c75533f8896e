/-
  DERIVED. GIVEN WITH THE SEED: THE CARDS: each row of YtlcfejgjeljjdaaGreatDoorRows.lean that lists a variable, with what it lists TIED to the program's text (the seventh form; the later family's looks); each row that meets fmt, with fmt's text TOLD by the authors' own Lean function (tested against real Go, not proved from fmt's source: count such statements apart). THE CARD IS WHAT COUNTS. Prove the row's statement (the work); the ties are given (YtlcfejgjeljjdaaGreatDoorTie.lean); close each card by the builder's one call (the guide's Derived/Test/ToyasCard.lean, 'card_holds'). Laid BY PROGRAM, IN A SANDBOX (cutbox-door.mjs). By AI agents, Wed Nov 11 2026. No macro, syntax, notation, axiom, sorry.
-/
import Derived.Test.YtlcfejgjeljjdaaGreatDoorRows
import GoSem.ClaimSeven
namespace Go.Proofs.YtlcfejgjeljjdaaGreatDoor
namespace Rows

/-- THE TIED CARD OF 'catapultlaw12.FoldEvals'. -/
def foldEvalsCard : Claim7 := { stood := { row := foldEvalsRow, standIns := [], harness := (true, "4dc9578ce6fbdc88655f8119bd13a9276c8613eda6b401f86309ef56bab6fcc6"), looks := false }, kinds := [], alts := [], laidByText := true, laidKinds := [.widerDeep], laidTests := true, laidLooks := .later }
def FoldEvalsCardSaid : Prop := Claim7.holds Tryz.pinned (.plain (OpenSpec.ofChange foldEvalsSpec)) foldEvalsCard

/-- THE TIED CARD OF 'catapultlaw12.FoldReckons'. -/
def foldReckonsCard : Claim7 := { stood := { row := foldReckonsRow, standIns := [], harness := (true, "4dc9578ce6fbdc88655f8119bd13a9276c8613eda6b401f86309ef56bab6fcc6"), looks := false }, kinds := [], alts := [], laidByText := true, laidKinds := [.widerDeep], laidTests := true, laidLooks := .later }
def FoldReckonsCardSaid : Prop := Claim7.holds Tryz.pinned (.plain (OpenSpec.ofChange foldReckonsSpec)) foldReckonsCard

/-- THE TIED CARD OF 'catapultlaw12.FoldFolds'. -/
def foldFoldsCard : Claim7 := { stood := { row := foldFoldsRow, standIns := [], harness := (true, "4dc9578ce6fbdc88655f8119bd13a9276c8613eda6b401f86309ef56bab6fcc6"), looks := false }, kinds := [], alts := [], laidByText := true, laidKinds := [.widerDeep], laidTests := true, laidLooks := .later }
def FoldFoldsCardSaid : Prop := Claim7.holds Tryz.pinned (.plain (OpenSpec.ofChange foldFoldsSpec)) foldFoldsCard

/-- THE SECOND FORM's CARD OF 'catapultlaw12.FoldEvals'. -/
def foldEvalsUptoCard : Claim7 := { stood := { row := foldEvalsUptoRow, standIns := [], harness := (true, "4dc9578ce6fbdc88655f8119bd13a9276c8613eda6b401f86309ef56bab6fcc6"), looks := false }, kinds := [], alts := [], laidByText := true, laidKinds := [.widerDeep], laidTests := true, laidLooks := .later }
def FoldEvalsUptoCardSaid : Prop := Claim7.holds Tryz.pinned (.plain (OpenSpec.upto foldEvalsSpec)) foldEvalsUptoCard

/-- THE SECOND FORM's CARD OF 'catapultlaw12.FoldReckons'. -/
def foldReckonsUptoCard : Claim7 := { stood := { row := foldReckonsUptoRow, standIns := [], harness := (true, "4dc9578ce6fbdc88655f8119bd13a9276c8613eda6b401f86309ef56bab6fcc6"), looks := false }, kinds := [], alts := [], laidByText := true, laidKinds := [.widerDeep], laidTests := true, laidLooks := .later }
def FoldReckonsUptoCardSaid : Prop := Claim7.holds Tryz.pinned (.plain (OpenSpec.upto foldReckonsSpec)) foldReckonsUptoCard

/-- THE SECOND FORM's CARD OF 'catapultlaw12.FoldFolds'. -/
def foldFoldsUptoCard : Claim7 := { stood := { row := foldFoldsUptoRow, standIns := [], harness := (true, "4dc9578ce6fbdc88655f8119bd13a9276c8613eda6b401f86309ef56bab6fcc6"), looks := false }, kinds := [], alts := [], laidByText := true, laidKinds := [.widerDeep], laidTests := true, laidLooks := .later }
def FoldFoldsUptoCardSaid : Prop := Claim7.holds Tryz.pinned (.plain (OpenSpec.upto foldFoldsSpec)) foldFoldsUptoCard
end Rows
end Go.Proofs.YtlcfejgjeljjdaaGreatDoor
