/-
  DERIVED. GIVEN WITH THE SEED: THE CARDS: each row of YtlcfejgjeljjdaaDoorRows.lean that lists a variable, with what it lists TIED to the program's text (the seventh form; the later family's looks); each row that meets fmt, with fmt's text TOLD by the authors' own Lean function (tested against real Go, not proved from fmt's source: count such statements apart). THE CARD IS WHAT COUNTS. Prove the row's statement (the work); the ties are given (YtlcfejgjeljjdaaDoorTie.lean); close each card by the builder's one call (the guide's Derived/Test/ToyasCard.lean, 'card_holds'). Laid BY PROGRAM, IN A SANDBOX (cutbox-door.mjs). By AI agents, Wed Nov 11 2026. No macro, syntax, notation, axiom, sorry.
-/
import Derived.Test.YtlcfejgjeljjdaaDoorRows
import GoSem.ClaimSeven
namespace Go.Proofs.YtlcfejgjeljjdaaDoor
namespace Rows

/-- THE TIED CARD OF 'catapultlaw12.FoldTurns'. -/
def foldTurnsCard : Claim7 := { stood := { row := foldTurnsRow, standIns := [], harness := (true, "59ca9ee03fa1aff794af90f5451eaaf2109ecfd4dc13b3c5b4eb672939f6f988"), looks := false }, kinds := [], alts := [], laidByText := true, laidKinds := [.widerDeep], laidTests := true, laidLooks := .later }
def FoldTurnsCardSaid : Prop := Claim7.holds Tryd.pinned (.plain (OpenSpec.ofChange foldTurnsSpec)) foldTurnsCard

/-- THE TIED CARD OF 'catapultlaw12.FoldConverts'. -/
def foldConvertsCard : Claim7 := { stood := { row := foldConvertsRow, standIns := [], harness := (true, "59ca9ee03fa1aff794af90f5451eaaf2109ecfd4dc13b3c5b4eb672939f6f988"), looks := false }, kinds := [], alts := [], laidByText := true, laidKinds := [.widerDeep], laidTests := true, laidLooks := .later }
def FoldConvertsCardSaid : Prop := Claim7.holds Tryd.pinned (.plain (OpenSpec.ofChange foldConvertsSpec)) foldConvertsCard

/-- THE TIED CARD OF 'catapultlaw12.FoldMeans'. -/
def foldMeansCard : Claim7 := { stood := { row := foldMeansRow, standIns := [], harness := (true, "59ca9ee03fa1aff794af90f5451eaaf2109ecfd4dc13b3c5b4eb672939f6f988"), looks := false }, kinds := [], alts := [], laidByText := true, laidKinds := [.widerDeep], laidTests := true, laidLooks := .later }
def FoldMeansCardSaid : Prop := Claim7.holds Tryd.pinned (.plain (OpenSpec.ofChange foldMeansSpec)) foldMeansCard

/-- THE SECOND FORM's CARD OF 'catapultlaw12.FoldTurns'. -/
def foldTurnsUptoCard : Claim7 := { stood := { row := foldTurnsUptoRow, standIns := [], harness := (true, "59ca9ee03fa1aff794af90f5451eaaf2109ecfd4dc13b3c5b4eb672939f6f988"), looks := false }, kinds := [], alts := [], laidByText := true, laidKinds := [.widerDeep], laidTests := true, laidLooks := .later }
def FoldTurnsUptoCardSaid : Prop := Claim7.holds Tryd.pinned (.plain (OpenSpec.upto foldTurnsSpec)) foldTurnsUptoCard

/-- THE SECOND FORM's CARD OF 'catapultlaw12.FoldConverts'. -/
def foldConvertsUptoCard : Claim7 := { stood := { row := foldConvertsUptoRow, standIns := [], harness := (true, "59ca9ee03fa1aff794af90f5451eaaf2109ecfd4dc13b3c5b4eb672939f6f988"), looks := false }, kinds := [], alts := [], laidByText := true, laidKinds := [.widerDeep], laidTests := true, laidLooks := .later }
def FoldConvertsUptoCardSaid : Prop := Claim7.holds Tryd.pinned (.plain (OpenSpec.upto foldConvertsSpec)) foldConvertsUptoCard

/-- THE SECOND FORM's CARD OF 'catapultlaw12.FoldMeans'. -/
def foldMeansUptoCard : Claim7 := { stood := { row := foldMeansUptoRow, standIns := [], harness := (true, "59ca9ee03fa1aff794af90f5451eaaf2109ecfd4dc13b3c5b4eb672939f6f988"), looks := false }, kinds := [], alts := [], laidByText := true, laidKinds := [.widerDeep], laidTests := true, laidLooks := .later }
def FoldMeansUptoCardSaid : Prop := Claim7.holds Tryd.pinned (.plain (OpenSpec.upto foldMeansSpec)) foldMeansUptoCard
end Rows
end Go.Proofs.YtlcfejgjeljjdaaDoor
