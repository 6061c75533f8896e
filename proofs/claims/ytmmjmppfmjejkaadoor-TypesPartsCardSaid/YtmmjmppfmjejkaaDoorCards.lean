/-
  DERIVED. GIVEN WITH THE SEED: THE CARDS: each row of YtmmjmppfmjejkaaDoorRows.lean that lists a variable, with what it lists TIED to the program's text (the seventh form; the later family's looks); each row that meets fmt, with fmt's text TOLD by the authors' own Lean function (tested against real Go, not proved from fmt's source: count such statements apart). THE CARD IS WHAT COUNTS. Prove the row's statement (the work); the ties are given (YtmmjmppfmjejkaaDoorTie.lean); close each card by the builder's one call (the guide's Derived/Test/ToyasCard.lean, 'card_holds'). Laid BY PROGRAM, IN A SANDBOX (cutbox-door.mjs). By AI agents, Wed Nov 11 2026. No macro, syntax, notation, axiom, sorry.
-/
import Derived.Test.YtmmjmppfmjejkaaDoorRows
import GoSem.ClaimSeven
namespace Go.Proofs.YtmmjmppfmjejkaaDoor
namespace Rows

/-- THE TIED CARD OF 'catapultlaw08.TypesTold'. -/
def typesToldCard : Claim7 := { stood := { row := typesToldRow, standIns := [], harness := (true, "abf2d1dd1de7b29bcc59e82f14f6ca29ab6a49972c9cd4942b90c2159ed42799"), looks := false }, kinds := [], alts := [], laidByText := true, laidKinds := [.data, .data, .data, .widerDeep], laidTests := true, laidLooks := .later }
def TypesToldCardSaid : Prop := Claim7.holds Tryd.pinned (.plain (OpenSpec.ofChange typesToldSpec)) typesToldCard

/-- THE TIED CARD OF 'catapultlaw08.TypesTwice'. -/
def typesTwiceCard : Claim7 := { stood := { row := typesTwiceRow, standIns := [], harness := (true, "abf2d1dd1de7b29bcc59e82f14f6ca29ab6a49972c9cd4942b90c2159ed42799"), looks := false }, kinds := [], alts := [], laidByText := true, laidKinds := [.data, .data, .data, .widerDeep], laidTests := true, laidLooks := .later }
def TypesTwiceCardSaid : Prop := Claim7.holds Tryd.pinned (.plain (OpenSpec.ofChange typesTwiceSpec)) typesTwiceCard

/-- THE TIED CARD OF 'catapultlaw08.TypesParts'. -/
def typesPartsCard : Claim7 := { stood := { row := typesPartsRow, standIns := [], harness := (true, "abf2d1dd1de7b29bcc59e82f14f6ca29ab6a49972c9cd4942b90c2159ed42799"), looks := false }, kinds := [], alts := [], laidByText := true, laidKinds := [.data, .data, .data, .widerDeep], laidTests := true, laidLooks := .later }
def TypesPartsCardSaid : Prop := Claim7.holds Tryd.pinned (.plain (OpenSpec.ofChange typesPartsSpec)) typesPartsCard

/-- THE TIED CARD OF 'catapultlaw08.TypesApart'. -/
def typesApartCard : Claim7 := { stood := { row := typesApartRow, standIns := [], harness := (true, "abf2d1dd1de7b29bcc59e82f14f6ca29ab6a49972c9cd4942b90c2159ed42799"), looks := false }, kinds := [], alts := [], laidByText := true, laidKinds := [.data, .data, .data, .widerDeep], laidTests := true, laidLooks := .later }
def TypesApartCardSaid : Prop := Claim7.holds Tryd.pinned (.plain (OpenSpec.ofChange typesApartSpec)) typesApartCard

/-- THE SECOND FORM's CARD OF 'catapultlaw08.TypesTold'. -/
def typesToldUptoCard : Claim7 := { stood := { row := typesToldUptoRow, standIns := [], harness := (true, "abf2d1dd1de7b29bcc59e82f14f6ca29ab6a49972c9cd4942b90c2159ed42799"), looks := false }, kinds := [], alts := [], laidByText := true, laidKinds := [.data, .data, .data, .widerDeep], laidTests := true, laidLooks := .later }
def TypesToldUptoCardSaid : Prop := Claim7.holds Tryd.pinned (.plain (OpenSpec.upto typesToldSpec)) typesToldUptoCard

/-- THE SECOND FORM's CARD OF 'catapultlaw08.TypesTwice'. -/
def typesTwiceUptoCard : Claim7 := { stood := { row := typesTwiceUptoRow, standIns := [], harness := (true, "abf2d1dd1de7b29bcc59e82f14f6ca29ab6a49972c9cd4942b90c2159ed42799"), looks := false }, kinds := [], alts := [], laidByText := true, laidKinds := [.data, .data, .data, .widerDeep], laidTests := true, laidLooks := .later }
def TypesTwiceUptoCardSaid : Prop := Claim7.holds Tryd.pinned (.plain (OpenSpec.upto typesTwiceSpec)) typesTwiceUptoCard

/-- THE SECOND FORM's CARD OF 'catapultlaw08.TypesParts'. -/
def typesPartsUptoCard : Claim7 := { stood := { row := typesPartsUptoRow, standIns := [], harness := (true, "abf2d1dd1de7b29bcc59e82f14f6ca29ab6a49972c9cd4942b90c2159ed42799"), looks := false }, kinds := [], alts := [], laidByText := true, laidKinds := [.data, .data, .data, .widerDeep], laidTests := true, laidLooks := .later }
def TypesPartsUptoCardSaid : Prop := Claim7.holds Tryd.pinned (.plain (OpenSpec.upto typesPartsSpec)) typesPartsUptoCard

/-- THE SECOND FORM's CARD OF 'catapultlaw08.TypesApart'. -/
def typesApartUptoCard : Claim7 := { stood := { row := typesApartUptoRow, standIns := [], harness := (true, "abf2d1dd1de7b29bcc59e82f14f6ca29ab6a49972c9cd4942b90c2159ed42799"), looks := false }, kinds := [], alts := [], laidByText := true, laidKinds := [.data, .data, .data, .widerDeep], laidTests := true, laidLooks := .later }
def TypesApartUptoCardSaid : Prop := Claim7.holds Tryd.pinned (.plain (OpenSpec.upto typesApartSpec)) typesApartUptoCard
end Rows
end Go.Proofs.YtmmjmppfmjejkaaDoor
