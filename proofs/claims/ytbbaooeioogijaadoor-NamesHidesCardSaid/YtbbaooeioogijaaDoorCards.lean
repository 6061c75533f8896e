/-
  DERIVED. GIVEN WITH THE SEED: THE CARDS: each row of YtbbaooeioogijaaDoorRows.lean that lists a variable, with what it lists TIED to the program's text (the seventh form; the later family's looks); each row that meets fmt, with fmt's text TOLD by the authors' own Lean function (tested against real Go, not proved from fmt's source: count such statements apart). THE CARD IS WHAT COUNTS. Prove the row's statement (the work); the ties are given (YtbbaooeioogijaaDoorTie.lean); close each card by the builder's one call (the guide's Derived/Test/ToyasCard.lean, 'card_holds'). Laid BY PROGRAM, IN A SANDBOX (cutbox-door.mjs). By AI agents, Wed Nov 11 2026. No macro, syntax, notation, axiom, sorry.
-/
import Derived.Test.YtbbaooeioogijaaDoorRows
import GoSem.ClaimSeven
namespace Go.Proofs.YtbbaooeioogijaaDoor
namespace Rows

/-- THE TIED CARD OF 'catapultlaw11.NamesHides'. -/
def namesHidesCard : Claim7 := { stood := { row := namesHidesRow, standIns := [], harness := (true, "00b0536fe76e0407fd20c73d6a505d2acd4c17fe31bddff4f1a95daab0a03c86"), looks := false }, kinds := [], alts := [], laidByText := true, laidKinds := [.widerDeep], laidTests := true, laidLooks := .later }
def NamesHidesCardSaid : Prop := Claim7.holds Tryd.pinned (.plain (OpenSpec.ofChange namesHidesSpec)) namesHidesCard

/-- THE TIED CARD OF 'catapultlaw11.NamesCounts'. -/
def namesCountsCard : Claim7 := { stood := { row := namesCountsRow, standIns := [], harness := (true, "00b0536fe76e0407fd20c73d6a505d2acd4c17fe31bddff4f1a95daab0a03c86"), looks := false }, kinds := [], alts := [], laidByText := true, laidKinds := [.widerDeep], laidTests := true, laidLooks := .later }
def NamesCountsCardSaid : Prop := Claim7.holds Tryd.pinned (.plain (OpenSpec.ofChange namesCountsSpec)) namesCountsCard

/-- THE TIED CARD OF 'catapultlaw11.NamesKnown'. -/
def namesKnownCard : Claim7 := { stood := { row := namesKnownRow, standIns := [], harness := (true, "00b0536fe76e0407fd20c73d6a505d2acd4c17fe31bddff4f1a95daab0a03c86"), looks := false }, kinds := [], alts := [], laidByText := true, laidKinds := [.widerDeep], laidTests := true, laidLooks := .later }
def NamesKnownCardSaid : Prop := Claim7.holds Tryd.pinned (.plain (OpenSpec.ofChange namesKnownSpec)) namesKnownCard

/-- THE SECOND FORM's CARD OF 'catapultlaw11.NamesHides'. -/
def namesHidesUptoCard : Claim7 := { stood := { row := namesHidesUptoRow, standIns := [], harness := (true, "00b0536fe76e0407fd20c73d6a505d2acd4c17fe31bddff4f1a95daab0a03c86"), looks := false }, kinds := [], alts := [], laidByText := true, laidKinds := [.widerDeep], laidTests := true, laidLooks := .later }
def NamesHidesUptoCardSaid : Prop := Claim7.holds Tryd.pinned (.plain (OpenSpec.upto namesHidesSpec)) namesHidesUptoCard

/-- THE SECOND FORM's CARD OF 'catapultlaw11.NamesCounts'. -/
def namesCountsUptoCard : Claim7 := { stood := { row := namesCountsUptoRow, standIns := [], harness := (true, "00b0536fe76e0407fd20c73d6a505d2acd4c17fe31bddff4f1a95daab0a03c86"), looks := false }, kinds := [], alts := [], laidByText := true, laidKinds := [.widerDeep], laidTests := true, laidLooks := .later }
def NamesCountsUptoCardSaid : Prop := Claim7.holds Tryd.pinned (.plain (OpenSpec.upto namesCountsSpec)) namesCountsUptoCard

/-- THE SECOND FORM's CARD OF 'catapultlaw11.NamesKnown'. -/
def namesKnownUptoCard : Claim7 := { stood := { row := namesKnownUptoRow, standIns := [], harness := (true, "00b0536fe76e0407fd20c73d6a505d2acd4c17fe31bddff4f1a95daab0a03c86"), looks := false }, kinds := [], alts := [], laidByText := true, laidKinds := [.widerDeep], laidTests := true, laidLooks := .later }
def NamesKnownUptoCardSaid : Prop := Claim7.holds Tryd.pinned (.plain (OpenSpec.upto namesKnownSpec)) namesKnownUptoCard
end Rows
end Go.Proofs.YtbbaooeioogijaaDoor
