/-
  NARROWER THAN 'FOR EVERY INPUT', by the rows' own cells (each row's printed sentence says how): NamesHides: laid · NamesCounts: laid · NamesKnown: laid.
  DERIVED. THE GIVEN ROWS OF THIS SEAT. 3 by the template 'for every input the law returns true; each argument reads behind the call as it read before'; 0 by the template 'total and deterministic' (their statements: YtbbaooeioogijaaDoorTotals.lean).
  GIVEN WITH THE SEED: the statements are not yours to turn. If you find one false, say at which input.
  Laid BY PROGRAM, IN A SANDBOX (cutbox-rows.mjs): the forced cells as the released guide's own fill.sh prints them over the translation bd9ac5cf7d24c4ab… (all of the seat's roots in one cut). By AI agents, Wed Nov 11 2026. No macro, syntax, notation, axiom, sorry.
-/
import Derived.Test.YtbbaooeioogijaaDoorChecked
import GoSem.Claim
import GoSem.ClaimJoined
import GoSem.ClaimMapViews
import Derived.JoinedTies
import Derived.KernelRfl
namespace Go.Proofs.YtbbaooeioogijaaDoor
/- THE CELL 'sum', in the pinned program and in every row, IS THE sha256 OF THE DUMP (.gsa) THAT YtbbaooeioogijaaDoorProg.lean LOADS. Nothing in Lean hashes anything: it is a label: what it is worth is what the hold of that sum in a sandbox is worth. -/
noncomputable def Tryd.pinned : Pinned := { name := "ytbbaooeioogijaadoor", sum := "bd9ac5cf7d24c4ab02d9e0467bd2f44332990c273db4df09da9cc99b8e1862f8", checked := Tryd.checked }
namespace Rows
def none {H : Type} : Left H := { results := [], args := [] }

/- WHAT THE LISTED PACKAGE-LEVEL VARIABLES READ AS WHEN THE CALL BEGINS. Each datum BY PROGRAM (the guide's laid-datum.mjs) off the statement by which the dump's own 'gosem.cut.vars' lays the variable. In a bare row this is a premise. The card (YtbbaooeioogijaaDoorCards.lean) ties it to the program's text. -/
def laid_catapult_lex_keys {H : Type} : DataW H := .agg [.lit (.string [118, 111, 105, 100]), .lit (.string [99, 104, 97, 114]), .lit (.string [115, 104, 111, 114, 116]), .lit (.string [105, 110, 116]), .lit (.string [117, 110, 115, 105, 103, 110, 101, 100]), .lit (.string [115, 116, 114, 117, 99, 116]), .lit (.string [118, 111, 108, 97, 116, 105, 108, 101]), .lit (.string [105, 102]), .lit (.string [101, 108, 115, 101]), .lit (.string [119, 104, 105, 108, 101]), .lit (.string [100, 111]), .lit (.string [102, 111, 114]), .lit (.string [115, 119, 105, 116, 99, 104]), .lit (.string [99, 97, 115, 101]), .lit (.string [100, 101, 102, 97, 117, 108, 116]), .lit (.string [98, 114, 101, 97, 107]), .lit (.string [99, 111, 110, 116, 105, 110, 117, 101]), .lit (.string [114, 101, 116, 117, 114, 110]), .lit (.string [115, 105, 122, 101, 111, 102]), .lit (.string [106, 109, 112, 95, 98, 117, 102])]

/-- 'catapultlaw11.NamesHides': WHATEVER THE INPUT: true; the input reads as it did. -/
def namesHidesSpec : ChangeSpec := { name := "namesHides", fn := fun _ => fun
  | [d1, d2, d3, d4] => { results := [.lit (.bool true)], args := [d1, d2, d3, d4] }
  | _ => none }
def namesHidesRow : OpenClaim := { program := "ytbbaooeioogijaadoor", sum := "bd9ac5cf7d24c4ab02d9e0467bd2f44332990c273db4df09da9cc99b8e1862f8", func := "catapult/catapultlaw11.NamesHides", spec := "namesHides", inPlace := ["internal/bytealg.IndexByteString", "internal/bytealg.IndexString"], unfollowed := true, recurses := true, named := ["catapult/lex.keys", "internal/bytealg.MaxLen"], apart := false, laid := [("catapult/lex.keys", laid_catapult_lex_keys)] }
def NamesHidesSaid : Prop := namesHidesRow.holds Tryd.pinned (OpenSpec.ofChange namesHidesSpec)

/-- ITS FALSE NEIGHBOUR: 'it returns false'. Refute it at one input. -/
def namesHidesWrong : ChangeSpec := { name := "namesHides", fn := fun _ => fun
  | [d1, d2, d3, d4] => { results := [.lit (.bool false)], args := [d1, d2, d3, d4] }
  | _ => none }
def NamesHidesWrongFalsely : Prop := namesHidesRow.holds Tryd.pinned (OpenSpec.ofChange namesHidesWrong)

/-- 'catapultlaw11.NamesCounts': WHATEVER THE INPUT: true; the input reads as it did. -/
def namesCountsSpec : ChangeSpec := { name := "namesCounts", fn := fun _ => fun
  | [d1, d2] => { results := [.lit (.bool true)], args := [d1, d2] }
  | _ => none }
def namesCountsRow : OpenClaim := { program := "ytbbaooeioogijaadoor", sum := "bd9ac5cf7d24c4ab02d9e0467bd2f44332990c273db4df09da9cc99b8e1862f8", func := "catapult/catapultlaw11.NamesCounts", spec := "namesCounts", inPlace := ["internal/bytealg.IndexByteString", "internal/bytealg.IndexString"], unfollowed := true, recurses := true, named := ["catapult/lex.keys", "internal/bytealg.MaxLen"], apart := false, laid := [("catapult/lex.keys", laid_catapult_lex_keys)] }
def NamesCountsSaid : Prop := namesCountsRow.holds Tryd.pinned (OpenSpec.ofChange namesCountsSpec)

/-- ITS FALSE NEIGHBOUR: 'it returns false'. Refute it at one input. -/
def namesCountsWrong : ChangeSpec := { name := "namesCounts", fn := fun _ => fun
  | [d1, d2] => { results := [.lit (.bool false)], args := [d1, d2] }
  | _ => none }
def NamesCountsWrongFalsely : Prop := namesCountsRow.holds Tryd.pinned (OpenSpec.ofChange namesCountsWrong)

/-- 'catapultlaw11.NamesKnown': WHATEVER THE INPUT: true; the input reads as it did. -/
def namesKnownSpec : ChangeSpec := { name := "namesKnown", fn := fun _ => fun
  | [d1, d2] => { results := [.lit (.bool true)], args := [d1, d2] }
  | _ => none }
def namesKnownRow : OpenClaim := { program := "ytbbaooeioogijaadoor", sum := "bd9ac5cf7d24c4ab02d9e0467bd2f44332990c273db4df09da9cc99b8e1862f8", func := "catapult/catapultlaw11.NamesKnown", spec := "namesKnown", inPlace := ["internal/bytealg.IndexByteString", "internal/bytealg.IndexString"], unfollowed := true, recurses := true, named := ["catapult/lex.keys", "internal/bytealg.MaxLen"], apart := false, laid := [("catapult/lex.keys", laid_catapult_lex_keys)] }
def NamesKnownSaid : Prop := namesKnownRow.holds Tryd.pinned (OpenSpec.ofChange namesKnownSpec)

/-- ITS FALSE NEIGHBOUR: 'it returns false'. Refute it at one input. -/
def namesKnownWrong : ChangeSpec := { name := "namesKnown", fn := fun _ => fun
  | [d1, d2] => { results := [.lit (.bool false)], args := [d1, d2] }
  | _ => none }
def NamesKnownWrongFalsely : Prop := namesKnownRow.holds Tryd.pinned (OpenSpec.ofChange namesKnownWrong)

/- THE SECOND FORM. 'bulk': how many values and letters a reading holds, each counted each time it is reached (what is shared counts as often as it is met; a slice's spare places count too). A statement '..UptoSaid' is the law's where the arguments, and the package variables that the reading takes, are together of bulk at most 1048576: NARROWER than '..Said'. Prove '..Said' where nothing that the law and all that it calls make is longer than what came in: it says more and counts as full. Else prove '..UptoSaid'. A law counts once. -/
mutual
def uptoBulk {H : Type} : DataW H → Nat
  | .lit (.string bytes) => bytes.length + 1
  | .lit _ => 1
  | .nil => 1
  | .ptr d => uptoBulk d + 1
  | .slice elems spare => uptoBulkAll elems + uptoBulkAll spare + 1
  | .agg parts => uptoBulkAll parts + 1
  | .iface _ d => uptoBulk d + 1
  | .map entries => uptoBulkEntries entries + 1
  | .held _ => 1
def uptoBulkAll {H : Type} : List (DataW H) → Nat
  | [] => 0
  | d :: r => uptoBulk d + uptoBulkAll r
def uptoBulkEntries {H : Type} : List (Lit × DataW H) → Nat
  | [] => 0
  | x :: r => uptoBulkEntry x + uptoBulkEntries r
def uptoBulkEntry {H : Type} : Lit × DataW H → Nat
  | (.string bytes, d) => bytes.length + uptoBulk d + 1
  | (_, d) => uptoBulk d + 1
 end
def uptoSmall : (H : Type) → List (DataW H) → Bool := fun _ ds => decide (uptoBulkAll ds ≤ 1048576)
def OpenSpec.upto (s : _root_.Go.ChangeSpec) : _root_.Go.OpenSpec := { _root_.Go.OpenSpec.ofChange s with cond := some uptoSmall }

/-- 'catapultlaw11.NamesHides', WHERE WHAT IT READS IS OF BULK AT MOST 1048576: true; the input reads as it did. -/
def namesHidesUptoRow : OpenClaim := { program := "ytbbaooeioogijaadoor", sum := "bd9ac5cf7d24c4ab02d9e0467bd2f44332990c273db4df09da9cc99b8e1862f8", func := "catapult/catapultlaw11.NamesHides", spec := "namesHides", inPlace := ["internal/bytealg.IndexByteString", "internal/bytealg.IndexString"], unfollowed := true, recurses := true, named := ["catapult/lex.keys", "internal/bytealg.MaxLen"], apart := false, laid := [("catapult/lex.keys", laid_catapult_lex_keys)], narrowed := true }
def NamesHidesUptoSaid : Prop := namesHidesUptoRow.holds Tryd.pinned (OpenSpec.upto namesHidesSpec)

/-- 'catapultlaw11.NamesCounts', WHERE WHAT IT READS IS OF BULK AT MOST 1048576: true; the input reads as it did. -/
def namesCountsUptoRow : OpenClaim := { program := "ytbbaooeioogijaadoor", sum := "bd9ac5cf7d24c4ab02d9e0467bd2f44332990c273db4df09da9cc99b8e1862f8", func := "catapult/catapultlaw11.NamesCounts", spec := "namesCounts", inPlace := ["internal/bytealg.IndexByteString", "internal/bytealg.IndexString"], unfollowed := true, recurses := true, named := ["catapult/lex.keys", "internal/bytealg.MaxLen"], apart := false, laid := [("catapult/lex.keys", laid_catapult_lex_keys)], narrowed := true }
def NamesCountsUptoSaid : Prop := namesCountsUptoRow.holds Tryd.pinned (OpenSpec.upto namesCountsSpec)

/-- 'catapultlaw11.NamesKnown', WHERE WHAT IT READS IS OF BULK AT MOST 1048576: true; the input reads as it did. -/
def namesKnownUptoRow : OpenClaim := { program := "ytbbaooeioogijaadoor", sum := "bd9ac5cf7d24c4ab02d9e0467bd2f44332990c273db4df09da9cc99b8e1862f8", func := "catapult/catapultlaw11.NamesKnown", spec := "namesKnown", inPlace := ["internal/bytealg.IndexByteString", "internal/bytealg.IndexString"], unfollowed := true, recurses := true, named := ["catapult/lex.keys", "internal/bytealg.MaxLen"], apart := false, laid := [("catapult/lex.keys", laid_catapult_lex_keys)], narrowed := true }
def NamesKnownUptoSaid : Prop := namesKnownUptoRow.holds Tryd.pinned (OpenSpec.upto namesKnownSpec)

end Rows
end Go.Proofs.YtbbaooeioogijaaDoor
