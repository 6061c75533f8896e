/-
  DERIVED. GIVEN WITH THE SEED: THE CARDS: each row of YtlomdlblohnfmaaDoorRows.lean that lists a variable, with what it lists TIED to the program's text (the seventh form; the later family's looks); each row that meets fmt, with fmt's text TOLD by the authors' own Lean function (tested against real Go, not proved from fmt's source: count such statements apart). THE CARD IS WHAT COUNTS. Prove the row's statement (the work); the ties are given (YtlomdlblohnfmaaDoorTie.lean); close each card by the builder's one call (the guide's Derived/Test/ToyasCard.lean, 'card_holds'). Laid BY PROGRAM, IN A SANDBOX (cutbox-door.mjs). By AI agents, Wed Nov 11 2026. No macro, syntax, notation, axiom, sorry.
-/
import Derived.Test.YtlomdlblohnfmaaDoorRows
import GoSem.ClaimSeven
namespace Go.Proofs.YtlomdlblohnfmaaDoor
namespace Rows

/-- THE TIED CARD OF 'catapultlaw18.IrLess'. -/
def irLessCard : Claim7 := { stood := { row := irLessRow, standIns := [], harness := (true, "f493d59c0003a6f07143dd61a6254881b217b4d3194323f0f7fe65b9464ae498"), looks := false }, kinds := [], alts := [], laidByText := true, laidKinds := [.data, .data, .data, .widerDeep], laidTests := true, laidLooks := .later }
def IrLessCardSaid : Prop := Claim7.holds Tryd.pinned (.plain (OpenSpec.ofChange irLessSpec)) irLessCard

/-- THE TIED CARD OF 'catapultlaw18.IrThere'. -/
def irThereCard : Claim7 := { stood := { row := irThereRow, standIns := [], harness := (true, "f493d59c0003a6f07143dd61a6254881b217b4d3194323f0f7fe65b9464ae498"), looks := false }, kinds := [], alts := [], laidByText := true, laidKinds := [.data, .data, .data, .widerDeep], laidTests := true, laidLooks := .later }
def IrThereCardSaid : Prop := Claim7.holds Tryd.pinned (.plain (OpenSpec.ofChange irThereSpec)) irThereCard

/-- THE SECOND FORM's CARD OF 'catapultlaw18.IrLess'. -/
def irLessUptoCard : Claim7 := { stood := { row := irLessUptoRow, standIns := [], harness := (true, "f493d59c0003a6f07143dd61a6254881b217b4d3194323f0f7fe65b9464ae498"), looks := false }, kinds := [], alts := [], laidByText := true, laidKinds := [.data, .data, .data, .widerDeep], laidTests := true, laidLooks := .later }
def IrLessUptoCardSaid : Prop := Claim7.holds Tryd.pinned (.plain (OpenSpec.upto irLessSpec)) irLessUptoCard

/-- THE SECOND FORM's CARD OF 'catapultlaw18.IrThere'. -/
def irThereUptoCard : Claim7 := { stood := { row := irThereUptoRow, standIns := [], harness := (true, "f493d59c0003a6f07143dd61a6254881b217b4d3194323f0f7fe65b9464ae498"), looks := false }, kinds := [], alts := [], laidByText := true, laidKinds := [.data, .data, .data, .widerDeep], laidTests := true, laidLooks := .later }
def IrThereUptoCardSaid : Prop := Claim7.holds Tryd.pinned (.plain (OpenSpec.upto irThereSpec)) irThereUptoCard
end Rows
end Go.Proofs.YtlomdlblohnfmaaDoor
