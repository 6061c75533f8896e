/-
  NARROWER THAN 'FOR EVERY INPUT', by the rows' own cells (each row's printed sentence says how): NamesFiles: laid · NamesResolves: laid.
  DERIVED. THE GIVEN ROWS OF THIS SEAT. 2 by the template 'for every input the law returns true; each argument reads behind the call as it read before'; 0 by the template 'total and deterministic' (their statements: YtbbaooeioogijaaGreatDoorTotals.lean).
  GIVEN WITH THE SEED: the statements are not yours to turn. If you find one false, say at which input.
  Laid BY PROGRAM, IN A SANDBOX (cutbox-rows.mjs): the forced cells as the released guide's own fill.sh prints them over the translation 9da4cca6db2e1099… (all of the seat's roots in one cut). By AI agents, Wed Nov 11 2026. No macro, syntax, notation, axiom, sorry.
-/
import Derived.Test.YtbbaooeioogijaaGreatDoorChecked
import GoSem.Claim
import GoSem.ClaimJoined
import GoSem.ClaimMapViews
import Derived.JoinedTies
import Derived.KernelRfl
namespace Go.Proofs.YtbbaooeioogijaaGreatDoor
/- THE CELL 'sum', in the pinned program and in every row, IS THE sha256 OF THE DUMP (.gsa) THAT YtbbaooeioogijaaGreatDoorProg.lean LOADS. Nothing in Lean hashes anything: it is a label: what it is worth is what the hold of that sum in a sandbox is worth. -/
noncomputable def Tryz.pinned : Pinned := { name := "ytbbaooeioogijaagreatdoor", sum := "9da4cca6db2e109920b82b4bff31351d393925b351e82c580f8993ed874b3c35", checked := Tryz.checked }
namespace Rows
def none {H : Type} : Left H := { results := [], args := [] }

/- WHAT THE LISTED PACKAGE-LEVEL VARIABLES READ AS WHEN THE CALL BEGINS. Each datum BY PROGRAM (the guide's laid-datum.mjs) off the statement by which the dump's own 'gosem.cut.vars' lays the variable. In a bare row this is a premise. The card (YtbbaooeioogijaaGreatDoorCards.lean) ties it to the program's text. -/
def laid_catapult_lex_keys {H : Type} : DataW H := .agg [.lit (.string [118, 111, 105, 100]), .lit (.string [99, 104, 97, 114]), .lit (.string [115, 104, 111, 114, 116]), .lit (.string [105, 110, 116]), .lit (.string [117, 110, 115, 105, 103, 110, 101, 100]), .lit (.string [115, 116, 114, 117, 99, 116]), .lit (.string [118, 111, 108, 97, 116, 105, 108, 101]), .lit (.string [105, 102]), .lit (.string [101, 108, 115, 101]), .lit (.string [119, 104, 105, 108, 101]), .lit (.string [100, 111]), .lit (.string [102, 111, 114]), .lit (.string [115, 119, 105, 116, 99, 104]), .lit (.string [99, 97, 115, 101]), .lit (.string [100, 101, 102, 97, 117, 108, 116]), .lit (.string [98, 114, 101, 97, 107]), .lit (.string [99, 111, 110, 116, 105, 110, 117, 101]), .lit (.string [114, 101, 116, 117, 114, 110]), .lit (.string [115, 105, 122, 101, 111, 102]), .lit (.string [106, 109, 112, 95, 98, 117, 102])]

/-- 'catapultlaw11.NamesFiles': WHATEVER THE INPUT: true; the input reads as it did. -/
def namesFilesSpec : ChangeSpec := { name := "namesFiles", fn := fun _ => fun
  | [d] => { results := [.lit (.bool true)], args := [d] }
  | _ => none }
def namesFilesRow : OpenClaim := { program := "ytbbaooeioogijaagreatdoor", sum := "9da4cca6db2e109920b82b4bff31351d393925b351e82c580f8993ed874b3c35", func := "catapult/catapultlaw11.NamesFiles", spec := "namesFiles", inPlace := ["internal/bytealg.IndexByteString", "internal/bytealg.IndexString"], unfollowed := true, recurses := true, named := ["catapult/lex.keys", "internal/bytealg.MaxLen"], apart := false, laid := [("catapult/lex.keys", laid_catapult_lex_keys)] }
def NamesFilesSaid : Prop := namesFilesRow.holds Tryz.pinned (OpenSpec.ofChange namesFilesSpec)

/-- ITS FALSE NEIGHBOUR: 'it returns false'. Refute it at one input. -/
def namesFilesWrong : ChangeSpec := { name := "namesFiles", fn := fun _ => fun
  | [d] => { results := [.lit (.bool false)], args := [d] }
  | _ => none }
def NamesFilesWrongFalsely : Prop := namesFilesRow.holds Tryz.pinned (OpenSpec.ofChange namesFilesWrong)

/-- 'catapultlaw11.NamesResolves': WHATEVER THE INPUT: true; the input reads as it did. -/
def namesResolvesSpec : ChangeSpec := { name := "namesResolves", fn := fun _ => fun
  | [d1, d2] => { results := [.lit (.bool true)], args := [d1, d2] }
  | _ => none }
def namesResolvesRow : OpenClaim := { program := "ytbbaooeioogijaagreatdoor", sum := "9da4cca6db2e109920b82b4bff31351d393925b351e82c580f8993ed874b3c35", func := "catapult/catapultlaw11.NamesResolves", spec := "namesResolves", inPlace := ["internal/bytealg.IndexByteString", "internal/bytealg.IndexString"], unfollowed := true, recurses := true, named := ["catapult/lex.keys", "internal/bytealg.MaxLen"], apart := false, laid := [("catapult/lex.keys", laid_catapult_lex_keys)] }
def NamesResolvesSaid : Prop := namesResolvesRow.holds Tryz.pinned (OpenSpec.ofChange namesResolvesSpec)

/-- ITS FALSE NEIGHBOUR: 'it returns false'. Refute it at one input. -/
def namesResolvesWrong : ChangeSpec := { name := "namesResolves", fn := fun _ => fun
  | [d1, d2] => { results := [.lit (.bool false)], args := [d1, d2] }
  | _ => none }
def NamesResolvesWrongFalsely : Prop := namesResolvesRow.holds Tryz.pinned (OpenSpec.ofChange namesResolvesWrong)

/- THE SECOND FORM. 'bulk': how many values and letters a reading holds, each counted each time it is reached (what is shared counts as often as it is met; a slice's spare places count too). A statement '..UptoSaid' is the law's where the arguments, and the package variables that the reading takes, are together of bulk at most 1048576: NARROWER than '..Said'. Prove '..Said' where nothing that the law and all that it calls make is longer than what came in: it says more and counts as full. Else prove '..UptoSaid'. A law counts once. -/
mutual
def uptoBulk {H : Type} : DataW H → Nat
  | .lit (.string bytes) => bytes.length + 1
  | .lit _ => 1
  | .nil => 1
  | .ptr d => uptoBulk d + 1
  | .slice elems spare => uptoBulkAll elems + uptoBulkAll spare + 1
  | .agg parts => uptoBulkAll parts + 1
  | .iface _ d => uptoBulk d + 1
  | .map entries => uptoBulkEntries entries + 1
  | .held _ => 1
def uptoBulkAll {H : Type} : List (DataW H) → Nat
  | [] => 0
  | d :: r => uptoBulk d + uptoBulkAll r
def uptoBulkEntries {H : Type} : List (Lit × DataW H) → Nat
  | [] => 0
  | x :: r => uptoBulkEntry x + uptoBulkEntries r
def uptoBulkEntry {H : Type} : Lit × DataW H → Nat
  | (.string bytes, d) => bytes.length + uptoBulk d + 1
  | (_, d) => uptoBulk d + 1
 end
def uptoSmall : (H : Type) → List (DataW H) → Bool := fun _ ds => decide (uptoBulkAll ds ≤ 1048576)
def OpenSpec.upto (s : _root_.Go.ChangeSpec) : _root_.Go.OpenSpec := { _root_.Go.OpenSpec.ofChange s with cond := some uptoSmall }

/-- 'catapultlaw11.NamesFiles', WHERE WHAT IT READS IS OF BULK AT MOST 1048576: true; the input reads as it did. -/
def namesFilesUptoRow : OpenClaim := { program := "ytbbaooeioogijaagreatdoor", sum := "9da4cca6db2e109920b82b4bff31351d393925b351e82c580f8993ed874b3c35", func := "catapult/catapultlaw11.NamesFiles", spec := "namesFiles", inPlace := ["internal/bytealg.IndexByteString", "internal/bytealg.IndexString"], unfollowed := true, recurses := true, named := ["catapult/lex.keys", "internal/bytealg.MaxLen"], apart := false, laid := [("catapult/lex.keys", laid_catapult_lex_keys)], narrowed := true }
def NamesFilesUptoSaid : Prop := namesFilesUptoRow.holds Tryz.pinned (OpenSpec.upto namesFilesSpec)

/-- 'catapultlaw11.NamesResolves', WHERE WHAT IT READS IS OF BULK AT MOST 1048576: true; the input reads as it did. -/
def namesResolvesUptoRow : OpenClaim := { program := "ytbbaooeioogijaagreatdoor", sum := "9da4cca6db2e109920b82b4bff31351d393925b351e82c580f8993ed874b3c35", func := "catapult/catapultlaw11.NamesResolves", spec := "namesResolves", inPlace := ["internal/bytealg.IndexByteString", "internal/bytealg.IndexString"], unfollowed := true, recurses := true, named := ["catapult/lex.keys", "internal/bytealg.MaxLen"], apart := false, laid := [("catapult/lex.keys", laid_catapult_lex_keys)], narrowed := true }
def NamesResolvesUptoSaid : Prop := namesResolvesUptoRow.holds Tryz.pinned (OpenSpec.upto namesResolvesSpec)

end Rows
end Go.Proofs.YtbbaooeioogijaaGreatDoor
