/-
  NARROWER THAN 'FOR EVERY INPUT', by the rows' own cells (each row's printed sentence says how): FoldEvals: laid · FoldReckons: laid · FoldFolds: laid.
  DERIVED. THE GIVEN ROWS OF THIS SEAT. 3 by the template 'for every input the law returns true; each argument reads behind the call as it read before'; 0 by the template 'total and deterministic' (their statements: YtlcfejgjeljjdaaGreatDoorTotals.lean).
  GIVEN WITH THE SEED: the statements are not yours to turn. If you find one false, say at which input.
  Laid BY PROGRAM, IN A SANDBOX (cutbox-rows.mjs): the forced cells as the released guide's own fill.sh prints them over the translation 2bdd3927dbb7a50d… (all of the seat's roots in one cut). By AI agents, Wed Nov 11 2026. No macro, syntax, notation, axiom, sorry.
-/
import Derived.Test.YtlcfejgjeljjdaaGreatDoorChecked
import GoSem.Claim
import GoSem.ClaimJoined
import GoSem.ClaimMapViews
import Derived.JoinedTies
import Derived.KernelRfl
namespace Go.Proofs.YtlcfejgjeljjdaaGreatDoor
/- THE CELL 'sum', in the pinned program and in every row, IS THE sha256 OF THE DUMP (.gsa) THAT YtlcfejgjeljjdaaGreatDoorProg.lean LOADS. Nothing in Lean hashes anything: it is a label: what it is worth is what the hold of that sum in a sandbox is worth. -/
noncomputable def Tryz.pinned : Pinned := { name := "ytlcfejgjeljjdaagreatdoor", sum := "2bdd3927dbb7a50d30828a05c2ab971255a9834da0a0a6280ef51dd1a41cfd7a", checked := Tryz.checked }
namespace Rows
def none {H : Type} : Left H := { results := [], args := [] }

/- WHAT THE LISTED PACKAGE-LEVEL VARIABLES READ AS WHEN THE CALL BEGINS. Each datum BY PROGRAM (the guide's laid-datum.mjs) off the statement by which the dump's own 'gosem.cut.vars' lays the variable. In a bare row this is a premise. The card (YtlcfejgjeljjdaaGreatDoorCards.lean) ties it to the program's text. -/
def laid_catapult_lex_keys {H : Type} : DataW H := .agg [.lit (.string [118, 111, 105, 100]), .lit (.string [99, 104, 97, 114]), .lit (.string [115, 104, 111, 114, 116]), .lit (.string [105, 110, 116]), .lit (.string [117, 110, 115, 105, 103, 110, 101, 100]), .lit (.string [115, 116, 114, 117, 99, 116]), .lit (.string [118, 111, 108, 97, 116, 105, 108, 101]), .lit (.string [105, 102]), .lit (.string [101, 108, 115, 101]), .lit (.string [119, 104, 105, 108, 101]), .lit (.string [100, 111]), .lit (.string [102, 111, 114]), .lit (.string [115, 119, 105, 116, 99, 104]), .lit (.string [99, 97, 115, 101]), .lit (.string [100, 101, 102, 97, 117, 108, 116]), .lit (.string [98, 114, 101, 97, 107]), .lit (.string [99, 111, 110, 116, 105, 110, 117, 101]), .lit (.string [114, 101, 116, 117, 114, 110]), .lit (.string [115, 105, 122, 101, 111, 102]), .lit (.string [106, 109, 112, 95, 98, 117, 102])]

/-- 'catapultlaw12.FoldEvals': WHATEVER THE INPUT: true; the input reads as it did. -/
def foldEvalsSpec : ChangeSpec := { name := "foldEvals", fn := fun _ => fun
  | [d1, d2] => { results := [.lit (.bool true)], args := [d1, d2] }
  | _ => none }
def foldEvalsRow : OpenClaim := { program := "ytlcfejgjeljjdaagreatdoor", sum := "2bdd3927dbb7a50d30828a05c2ab971255a9834da0a0a6280ef51dd1a41cfd7a", func := "catapult/catapultlaw12.FoldEvals", spec := "foldEvals", inPlace := ["internal/bytealg.IndexByteString", "internal/bytealg.IndexString"], unfollowed := true, recurses := true, named := ["catapult/lex.keys", "internal/bytealg.MaxLen"], apart := false, laid := [("catapult/lex.keys", laid_catapult_lex_keys)] }
def FoldEvalsSaid : Prop := foldEvalsRow.holds Tryz.pinned (OpenSpec.ofChange foldEvalsSpec)

/-- ITS FALSE NEIGHBOUR: 'it returns false'. Refute it at one input. -/
def foldEvalsWrong : ChangeSpec := { name := "foldEvals", fn := fun _ => fun
  | [d1, d2] => { results := [.lit (.bool false)], args := [d1, d2] }
  | _ => none }
def FoldEvalsWrongFalsely : Prop := foldEvalsRow.holds Tryz.pinned (OpenSpec.ofChange foldEvalsWrong)

/-- 'catapultlaw12.FoldReckons': WHATEVER THE INPUT: true; the input reads as it did. -/
def foldReckonsSpec : ChangeSpec := { name := "foldReckons", fn := fun _ => fun
  | [d1, d2, d3, d4, d5] => { results := [.lit (.bool true)], args := [d1, d2, d3, d4, d5] }
  | _ => none }
def foldReckonsRow : OpenClaim := { program := "ytlcfejgjeljjdaagreatdoor", sum := "2bdd3927dbb7a50d30828a05c2ab971255a9834da0a0a6280ef51dd1a41cfd7a", func := "catapult/catapultlaw12.FoldReckons", spec := "foldReckons", inPlace := ["internal/bytealg.IndexByteString", "internal/bytealg.IndexString"], unfollowed := true, recurses := true, named := ["catapult/lex.keys", "internal/bytealg.MaxLen"], apart := false, laid := [("catapult/lex.keys", laid_catapult_lex_keys)] }
def FoldReckonsSaid : Prop := foldReckonsRow.holds Tryz.pinned (OpenSpec.ofChange foldReckonsSpec)

/-- ITS FALSE NEIGHBOUR: 'it returns false'. Refute it at one input. -/
def foldReckonsWrong : ChangeSpec := { name := "foldReckons", fn := fun _ => fun
  | [d1, d2, d3, d4, d5] => { results := [.lit (.bool false)], args := [d1, d2, d3, d4, d5] }
  | _ => none }
def FoldReckonsWrongFalsely : Prop := foldReckonsRow.holds Tryz.pinned (OpenSpec.ofChange foldReckonsWrong)

/-- 'catapultlaw12.FoldFolds': WHATEVER THE INPUT: true; the input reads as it did. -/
def foldFoldsSpec : ChangeSpec := { name := "foldFolds", fn := fun _ => fun
  | [d1, d2] => { results := [.lit (.bool true)], args := [d1, d2] }
  | _ => none }
def foldFoldsRow : OpenClaim := { program := "ytlcfejgjeljjdaagreatdoor", sum := "2bdd3927dbb7a50d30828a05c2ab971255a9834da0a0a6280ef51dd1a41cfd7a", func := "catapult/catapultlaw12.FoldFolds", spec := "foldFolds", inPlace := ["internal/bytealg.IndexByteString", "internal/bytealg.IndexString"], unfollowed := true, recurses := true, named := ["catapult/lex.keys", "internal/bytealg.MaxLen"], apart := false, laid := [("catapult/lex.keys", laid_catapult_lex_keys)] }
def FoldFoldsSaid : Prop := foldFoldsRow.holds Tryz.pinned (OpenSpec.ofChange foldFoldsSpec)

/-- ITS FALSE NEIGHBOUR: 'it returns false'. Refute it at one input. -/
def foldFoldsWrong : ChangeSpec := { name := "foldFolds", fn := fun _ => fun
  | [d1, d2] => { results := [.lit (.bool false)], args := [d1, d2] }
  | _ => none }
def FoldFoldsWrongFalsely : Prop := foldFoldsRow.holds Tryz.pinned (OpenSpec.ofChange foldFoldsWrong)

/- THE SECOND FORM. 'bulk': how many values and letters a reading holds, each counted each time it is reached (what is shared counts as often as it is met; a slice's spare places count too). A statement '..UptoSaid' is the law's where the arguments, and the package variables that the reading takes, are together of bulk at most 1048576: NARROWER than '..Said'. Prove '..Said' where nothing that the law and all that it calls make is longer than what came in: it says more and counts as full. Else prove '..UptoSaid'. A law counts once. -/
mutual
def uptoBulk {H : Type} : DataW H → Nat
  | .lit (.string bytes) => bytes.length + 1
  | .lit _ => 1
  | .nil => 1
  | .ptr d => uptoBulk d + 1
  | .slice elems spare => uptoBulkAll elems + uptoBulkAll spare + 1
  | .agg parts => uptoBulkAll parts + 1
  | .iface _ d => uptoBulk d + 1
  | .map entries => uptoBulkEntries entries + 1
  | .held _ => 1
def uptoBulkAll {H : Type} : List (DataW H) → Nat
  | [] => 0
  | d :: r => uptoBulk d + uptoBulkAll r
def uptoBulkEntries {H : Type} : List (Lit × DataW H) → Nat
  | [] => 0
  | x :: r => uptoBulkEntry x + uptoBulkEntries r
def uptoBulkEntry {H : Type} : Lit × DataW H → Nat
  | (.string bytes, d) => bytes.length + uptoBulk d + 1
  | (_, d) => uptoBulk d + 1
 end
def uptoSmall : (H : Type) → List (DataW H) → Bool := fun _ ds => decide (uptoBulkAll ds ≤ 1048576)
def OpenSpec.upto (s : _root_.Go.ChangeSpec) : _root_.Go.OpenSpec := { _root_.Go.OpenSpec.ofChange s with cond := some uptoSmall }

/-- 'catapultlaw12.FoldEvals', WHERE WHAT IT READS IS OF BULK AT MOST 1048576: true; the input reads as it did. -/
def foldEvalsUptoRow : OpenClaim := { program := "ytlcfejgjeljjdaagreatdoor", sum := "2bdd3927dbb7a50d30828a05c2ab971255a9834da0a0a6280ef51dd1a41cfd7a", func := "catapult/catapultlaw12.FoldEvals", spec := "foldEvals", inPlace := ["internal/bytealg.IndexByteString", "internal/bytealg.IndexString"], unfollowed := true, recurses := true, named := ["catapult/lex.keys", "internal/bytealg.MaxLen"], apart := false, laid := [("catapult/lex.keys", laid_catapult_lex_keys)], narrowed := true }
def FoldEvalsUptoSaid : Prop := foldEvalsUptoRow.holds Tryz.pinned (OpenSpec.upto foldEvalsSpec)

/-- 'catapultlaw12.FoldReckons', WHERE WHAT IT READS IS OF BULK AT MOST 1048576: true; the input reads as it did. -/
def foldReckonsUptoRow : OpenClaim := { program := "ytlcfejgjeljjdaagreatdoor", sum := "2bdd3927dbb7a50d30828a05c2ab971255a9834da0a0a6280ef51dd1a41cfd7a", func := "catapult/catapultlaw12.FoldReckons", spec := "foldReckons", inPlace := ["internal/bytealg.IndexByteString", "internal/bytealg.IndexString"], unfollowed := true, recurses := true, named := ["catapult/lex.keys", "internal/bytealg.MaxLen"], apart := false, laid := [("catapult/lex.keys", laid_catapult_lex_keys)], narrowed := true }
def FoldReckonsUptoSaid : Prop := foldReckonsUptoRow.holds Tryz.pinned (OpenSpec.upto foldReckonsSpec)

/-- 'catapultlaw12.FoldFolds', WHERE WHAT IT READS IS OF BULK AT MOST 1048576: true; the input reads as it did. -/
def foldFoldsUptoRow : OpenClaim := { program := "ytlcfejgjeljjdaagreatdoor", sum := "2bdd3927dbb7a50d30828a05c2ab971255a9834da0a0a6280ef51dd1a41cfd7a", func := "catapult/catapultlaw12.FoldFolds", spec := "foldFolds", inPlace := ["internal/bytealg.IndexByteString", "internal/bytealg.IndexString"], unfollowed := true, recurses := true, named := ["catapult/lex.keys", "internal/bytealg.MaxLen"], apart := false, laid := [("catapult/lex.keys", laid_catapult_lex_keys)], narrowed := true }
def FoldFoldsUptoSaid : Prop := foldFoldsUptoRow.holds Tryz.pinned (OpenSpec.upto foldFoldsSpec)

end Rows
end Go.Proofs.YtlcfejgjeljjdaaGreatDoor
