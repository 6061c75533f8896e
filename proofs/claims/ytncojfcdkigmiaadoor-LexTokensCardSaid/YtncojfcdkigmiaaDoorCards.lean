/-
  DERIVED. GIVEN WITH THE SEED: THE CARDS: each row of YtncojfcdkigmiaaDoorRows.lean that lists a variable, with what it lists TIED to the program's text (the seventh form; the later family's looks); each row that meets fmt, with fmt's text TOLD by the authors' own Lean function (tested against real Go, not proved from fmt's source: count such statements apart). THE CARD IS WHAT COUNTS. Prove the row's statement (the work); the ties are given (YtncojfcdkigmiaaDoorTie.lean); close each card by the builder's one call (the guide's Derived/Test/ToyasCard.lean, 'card_holds'). Laid BY PROGRAM, IN A SANDBOX (cutbox-door.mjs). By AI agents, Wed Nov 11 2026. No macro, syntax, notation, axiom, sorry.
-/
import Derived.Test.YtncojfcdkigmiaaDoorRows
import GoSem.ClaimSeven
namespace Go.Proofs.YtncojfcdkigmiaaDoor
namespace Rows

/-- THE TIED CARD OF 'catapultlaw07.LexLays'. -/
def lexLaysCard : Claim7 := { stood := { row := lexLaysRow, standIns := [], harness := (true, "403043208ecffd0465e379e85b06204ea9417b1e3c4832d06084d05b27cca620"), looks := true }, kinds := [], alts := [], laidByText := true, laidKinds := [.data, .data, .data, .widerDeep, .widerDeep], laidTests := true, laidLooks := .later }
def LexLaysCardSaid : Prop := Claim7.holds Tryd.pinned (.plain (OpenSpec.ofChange lexLaysSpec)) lexLaysCard

/-- THE TIED CARD OF 'catapultlaw07.LexPlaces'. -/
def lexPlacesCard : Claim7 := { stood := { row := lexPlacesRow, standIns := [], harness := (true, "403043208ecffd0465e379e85b06204ea9417b1e3c4832d06084d05b27cca620"), looks := true }, kinds := [], alts := [], laidByText := true, laidKinds := [.data, .data, .data, .sentinel, .sentinel, .widerDeep, .widerDeep], laidTests := true, laidLooks := .later }
def LexPlacesCardSaid : Prop := Claim7.holds Tryd.pinned (.plain (OpenSpec.ofChange lexPlacesSpec)) lexPlacesCard

/-- THE TIED CARD OF 'catapultlaw07.LexTokens'. -/
def lexTokensCard : Claim7 := { stood := { row := lexTokensRow, standIns := [], harness := (true, "403043208ecffd0465e379e85b06204ea9417b1e3c4832d06084d05b27cca620"), looks := true }, kinds := [], alts := [], laidByText := true, laidKinds := [.data, .data, .data, .sentinel, .sentinel, .widerDeep, .widerDeep], laidTests := true, laidLooks := .later }
def LexTokensCardSaid : Prop := Claim7.holds Tryd.pinned (.plain (OpenSpec.ofChange lexTokensSpec)) lexTokensCard

/-- THE TIED CARD OF 'catapultlaw07.LexBack'. -/
def lexBackCard : Claim7 := { stood := { row := lexBackRow, standIns := [], harness := (true, "403043208ecffd0465e379e85b06204ea9417b1e3c4832d06084d05b27cca620"), looks := true }, kinds := [], alts := [], laidByText := true, laidKinds := [.data, .data, .data, .sentinel, .sentinel, .widerDeep, .widerDeep], laidTests := true, laidLooks := .later }
def LexBackCardSaid : Prop := Claim7.holds Tryd.pinned (.plain (OpenSpec.ofChange lexBackSpec)) lexBackCard

/-- THE TIED CARD OF 'catapultlaw07.LexBlank'. -/
def lexBlankCard : Claim7 := { stood := { row := lexBlankRow, standIns := [], harness := (true, "403043208ecffd0465e379e85b06204ea9417b1e3c4832d06084d05b27cca620"), looks := true }, kinds := [], alts := [], laidByText := true, laidKinds := [.data, .data, .data, .sentinel, .sentinel, .widerDeep, .widerDeep], laidTests := true, laidLooks := .later }
def LexBlankCardSaid : Prop := Claim7.holds Tryd.pinned (.plain (OpenSpec.ofChange lexBlankSpec)) lexBlankCard

/-- THE SECOND FORM's CARD OF 'catapultlaw07.LexLays'. -/
def lexLaysUptoCard : Claim7 := { stood := { row := lexLaysUptoRow, standIns := [], harness := (true, "403043208ecffd0465e379e85b06204ea9417b1e3c4832d06084d05b27cca620"), looks := true }, kinds := [], alts := [], laidByText := true, laidKinds := [.data, .data, .data, .widerDeep, .widerDeep], laidTests := true, laidLooks := .later }
def LexLaysUptoCardSaid : Prop := Claim7.holds Tryd.pinned (.plain (OpenSpec.upto lexLaysSpec)) lexLaysUptoCard

/-- THE SECOND FORM's CARD OF 'catapultlaw07.LexPlaces'. -/
def lexPlacesUptoCard : Claim7 := { stood := { row := lexPlacesUptoRow, standIns := [], harness := (true, "403043208ecffd0465e379e85b06204ea9417b1e3c4832d06084d05b27cca620"), looks := true }, kinds := [], alts := [], laidByText := true, laidKinds := [.data, .data, .data, .sentinel, .sentinel, .widerDeep, .widerDeep], laidTests := true, laidLooks := .later }
def LexPlacesUptoCardSaid : Prop := Claim7.holds Tryd.pinned (.plain (OpenSpec.upto lexPlacesSpec)) lexPlacesUptoCard

/-- THE SECOND FORM's CARD OF 'catapultlaw07.LexTokens'. -/
def lexTokensUptoCard : Claim7 := { stood := { row := lexTokensUptoRow, standIns := [], harness := (true, "403043208ecffd0465e379e85b06204ea9417b1e3c4832d06084d05b27cca620"), looks := true }, kinds := [], alts := [], laidByText := true, laidKinds := [.data, .data, .data, .sentinel, .sentinel, .widerDeep, .widerDeep], laidTests := true, laidLooks := .later }
def LexTokensUptoCardSaid : Prop := Claim7.holds Tryd.pinned (.plain (OpenSpec.upto lexTokensSpec)) lexTokensUptoCard

/-- THE SECOND FORM's CARD OF 'catapultlaw07.LexBack'. -/
def lexBackUptoCard : Claim7 := { stood := { row := lexBackUptoRow, standIns := [], harness := (true, "403043208ecffd0465e379e85b06204ea9417b1e3c4832d06084d05b27cca620"), looks := true }, kinds := [], alts := [], laidByText := true, laidKinds := [.data, .data, .data, .sentinel, .sentinel, .widerDeep, .widerDeep], laidTests := true, laidLooks := .later }
def LexBackUptoCardSaid : Prop := Claim7.holds Tryd.pinned (.plain (OpenSpec.upto lexBackSpec)) lexBackUptoCard

/-- THE SECOND FORM's CARD OF 'catapultlaw07.LexBlank'. -/
def lexBlankUptoCard : Claim7 := { stood := { row := lexBlankUptoRow, standIns := [], harness := (true, "403043208ecffd0465e379e85b06204ea9417b1e3c4832d06084d05b27cca620"), looks := true }, kinds := [], alts := [], laidByText := true, laidKinds := [.data, .data, .data, .sentinel, .sentinel, .widerDeep, .widerDeep], laidTests := true, laidLooks := .later }
def LexBlankUptoCardSaid : Prop := Claim7.holds Tryd.pinned (.plain (OpenSpec.upto lexBlankSpec)) lexBlankUptoCard
end Rows
end Go.Proofs.YtncojfcdkigmiaaDoor
