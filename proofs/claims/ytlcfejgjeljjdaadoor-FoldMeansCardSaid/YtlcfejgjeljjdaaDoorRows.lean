/-
  NARROWER THAN 'FOR EVERY INPUT', by the rows' own cells (each row's printed sentence says how): FoldTurns: laid · FoldConverts: laid · FoldMeans: laid.
  DERIVED. THE GIVEN ROWS OF THIS SEAT. 3 by the template 'for every input the law returns true; each argument reads behind the call as it read before'; 0 by the template 'total and deterministic' (their statements: YtlcfejgjeljjdaaDoorTotals.lean).
  GIVEN WITH THE SEED: the statements are not yours to turn. If you find one false, say at which input.
  Laid BY PROGRAM, IN A SANDBOX (cutbox-rows.mjs): the forced cells as the released guide's own fill.sh prints them over the translation 6ae323875f22ccac… (all of the seat's roots in one cut). By AI agents, Wed Nov 11 2026. No macro, syntax, notation, axiom, sorry.
-/
import Derived.Test.YtlcfejgjeljjdaaDoorChecked
import GoSem.Claim
import GoSem.ClaimJoined
import GoSem.ClaimMapViews
import Derived.JoinedTies
import Derived.KernelRfl
namespace Go.Proofs.YtlcfejgjeljjdaaDoor
/- THE CELL 'sum', in the pinned program and in every row, IS THE sha256 OF THE DUMP (.gsa) THAT YtlcfejgjeljjdaaDoorProg.lean LOADS. Nothing in Lean hashes anything: it is a label: what it is worth is what the hold of that sum in a sandbox is worth. -/
noncomputable def Tryd.pinned : Pinned := { name := "ytlcfejgjeljjdaadoor", sum := "6ae323875f22ccacb78d3b95f23c69b6cfb59fc15fe74b0f6e01d74cdbd30b2a", checked := Tryd.checked }
namespace Rows
def none {H : Type} : Left H := { results := [], args := [] }

/- WHAT THE LISTED PACKAGE-LEVEL VARIABLES READ AS WHEN THE CALL BEGINS. Each datum BY PROGRAM (the guide's laid-datum.mjs) off the statement by which the dump's own 'gosem.cut.vars' lays the variable. In a bare row this is a premise. The card (YtlcfejgjeljjdaaDoorCards.lean) ties it to the program's text. -/
def laid_catapult_lex_keys {H : Type} : DataW H := .agg [.lit (.string [118, 111, 105, 100]), .lit (.string [99, 104, 97, 114]), .lit (.string [115, 104, 111, 114, 116]), .lit (.string [105, 110, 116]), .lit (.string [117, 110, 115, 105, 103, 110, 101, 100]), .lit (.string [115, 116, 114, 117, 99, 116]), .lit (.string [118, 111, 108, 97, 116, 105, 108, 101]), .lit (.string [105, 102]), .lit (.string [101, 108, 115, 101]), .lit (.string [119, 104, 105, 108, 101]), .lit (.string [100, 111]), .lit (.string [102, 111, 114]), .lit (.string [115, 119, 105, 116, 99, 104]), .lit (.string [99, 97, 115, 101]), .lit (.string [100, 101, 102, 97, 117, 108, 116]), .lit (.string [98, 114, 101, 97, 107]), .lit (.string [99, 111, 110, 116, 105, 110, 117, 101]), .lit (.string [114, 101, 116, 117, 114, 110]), .lit (.string [115, 105, 122, 101, 111, 102]), .lit (.string [106, 109, 112, 95, 98, 117, 102])]

/-- 'catapultlaw12.FoldTurns': WHATEVER THE INPUT: true; the input reads as it did. -/
def foldTurnsSpec : ChangeSpec := { name := "foldTurns", fn := fun _ => fun
  | [d1, d2, d3, d4] => { results := [.lit (.bool true)], args := [d1, d2, d3, d4] }
  | _ => none }
def foldTurnsRow : OpenClaim := { program := "ytlcfejgjeljjdaadoor", sum := "6ae323875f22ccacb78d3b95f23c69b6cfb59fc15fe74b0f6e01d74cdbd30b2a", func := "catapult/catapultlaw12.FoldTurns", spec := "foldTurns", inPlace := ["internal/bytealg.IndexByteString", "internal/bytealg.IndexString"], unfollowed := true, recurses := true, named := ["catapult/lex.keys", "internal/bytealg.MaxLen"], apart := false, laid := [("catapult/lex.keys", laid_catapult_lex_keys)] }
def FoldTurnsSaid : Prop := foldTurnsRow.holds Tryd.pinned (OpenSpec.ofChange foldTurnsSpec)

/-- ITS FALSE NEIGHBOUR: 'it returns false'. Refute it at one input. -/
def foldTurnsWrong : ChangeSpec := { name := "foldTurns", fn := fun _ => fun
  | [d1, d2, d3, d4] => { results := [.lit (.bool false)], args := [d1, d2, d3, d4] }
  | _ => none }
def FoldTurnsWrongFalsely : Prop := foldTurnsRow.holds Tryd.pinned (OpenSpec.ofChange foldTurnsWrong)

/-- 'catapultlaw12.FoldConverts': WHATEVER THE INPUT: true; the input reads as it did. -/
def foldConvertsSpec : ChangeSpec := { name := "foldConverts", fn := fun _ => fun
  | [d1, d2, d3] => { results := [.lit (.bool true)], args := [d1, d2, d3] }
  | _ => none }
def foldConvertsRow : OpenClaim := { program := "ytlcfejgjeljjdaadoor", sum := "6ae323875f22ccacb78d3b95f23c69b6cfb59fc15fe74b0f6e01d74cdbd30b2a", func := "catapult/catapultlaw12.FoldConverts", spec := "foldConverts", inPlace := ["internal/bytealg.IndexByteString", "internal/bytealg.IndexString"], unfollowed := true, recurses := true, named := ["catapult/lex.keys", "internal/bytealg.MaxLen"], apart := false, laid := [("catapult/lex.keys", laid_catapult_lex_keys)] }
def FoldConvertsSaid : Prop := foldConvertsRow.holds Tryd.pinned (OpenSpec.ofChange foldConvertsSpec)

/-- ITS FALSE NEIGHBOUR: 'it returns false'. Refute it at one input. -/
def foldConvertsWrong : ChangeSpec := { name := "foldConverts", fn := fun _ => fun
  | [d1, d2, d3] => { results := [.lit (.bool false)], args := [d1, d2, d3] }
  | _ => none }
def FoldConvertsWrongFalsely : Prop := foldConvertsRow.holds Tryd.pinned (OpenSpec.ofChange foldConvertsWrong)

/-- 'catapultlaw12.FoldMeans': WHATEVER THE INPUT: true; the input reads as it did. -/
def foldMeansSpec : ChangeSpec := { name := "foldMeans", fn := fun _ => fun
  | [d1, d2] => { results := [.lit (.bool true)], args := [d1, d2] }
  | _ => none }
def foldMeansRow : OpenClaim := { program := "ytlcfejgjeljjdaadoor", sum := "6ae323875f22ccacb78d3b95f23c69b6cfb59fc15fe74b0f6e01d74cdbd30b2a", func := "catapult/catapultlaw12.FoldMeans", spec := "foldMeans", inPlace := ["internal/bytealg.IndexByteString", "internal/bytealg.IndexString"], unfollowed := true, recurses := true, named := ["catapult/lex.keys", "internal/bytealg.MaxLen"], apart := false, laid := [("catapult/lex.keys", laid_catapult_lex_keys)] }
def FoldMeansSaid : Prop := foldMeansRow.holds Tryd.pinned (OpenSpec.ofChange foldMeansSpec)

/-- ITS FALSE NEIGHBOUR: 'it returns false'. Refute it at one input. -/
def foldMeansWrong : ChangeSpec := { name := "foldMeans", fn := fun _ => fun
  | [d1, d2] => { results := [.lit (.bool false)], args := [d1, d2] }
  | _ => none }
def FoldMeansWrongFalsely : Prop := foldMeansRow.holds Tryd.pinned (OpenSpec.ofChange foldMeansWrong)

/- THE SECOND FORM. 'bulk': how many values and letters a reading holds, each counted each time it is reached (what is shared counts as often as it is met; a slice's spare places count too). A statement '..UptoSaid' is the law's where the arguments, and the package variables that the reading takes, are together of bulk at most 1048576: NARROWER than '..Said'. Prove '..Said' where nothing that the law and all that it calls make is longer than what came in: it says more and counts as full. Else prove '..UptoSaid'. A law counts once. -/
mutual
def uptoBulk {H : Type} : DataW H → Nat
  | .lit (.string bytes) => bytes.length + 1
  | .lit _ => 1
  | .nil => 1
  | .ptr d => uptoBulk d + 1
  | .slice elems spare => uptoBulkAll elems + uptoBulkAll spare + 1
  | .agg parts => uptoBulkAll parts + 1
  | .iface _ d => uptoBulk d + 1
  | .map entries => uptoBulkEntries entries + 1
  | .held _ => 1
def uptoBulkAll {H : Type} : List (DataW H) → Nat
  | [] => 0
  | d :: r => uptoBulk d + uptoBulkAll r
def uptoBulkEntries {H : Type} : List (Lit × DataW H) → Nat
  | [] => 0
  | x :: r => uptoBulkEntry x + uptoBulkEntries r
def uptoBulkEntry {H : Type} : Lit × DataW H → Nat
  | (.string bytes, d) => bytes.length + uptoBulk d + 1
  | (_, d) => uptoBulk d + 1
 end
def uptoSmall : (H : Type) → List (DataW H) → Bool := fun _ ds => decide (uptoBulkAll ds ≤ 1048576)
def OpenSpec.upto (s : _root_.Go.ChangeSpec) : _root_.Go.OpenSpec := { _root_.Go.OpenSpec.ofChange s with cond := some uptoSmall }

/-- 'catapultlaw12.FoldTurns', WHERE WHAT IT READS IS OF BULK AT MOST 1048576: true; the input reads as it did. -/
def foldTurnsUptoRow : OpenClaim := { program := "ytlcfejgjeljjdaadoor", sum := "6ae323875f22ccacb78d3b95f23c69b6cfb59fc15fe74b0f6e01d74cdbd30b2a", func := "catapult/catapultlaw12.FoldTurns", spec := "foldTurns", inPlace := ["internal/bytealg.IndexByteString", "internal/bytealg.IndexString"], unfollowed := true, recurses := true, named := ["catapult/lex.keys", "internal/bytealg.MaxLen"], apart := false, laid := [("catapult/lex.keys", laid_catapult_lex_keys)], narrowed := true }
def FoldTurnsUptoSaid : Prop := foldTurnsUptoRow.holds Tryd.pinned (OpenSpec.upto foldTurnsSpec)

/-- 'catapultlaw12.FoldConverts', WHERE WHAT IT READS IS OF BULK AT MOST 1048576: true; the input reads as it did. -/
def foldConvertsUptoRow : OpenClaim := { program := "ytlcfejgjeljjdaadoor", sum := "6ae323875f22ccacb78d3b95f23c69b6cfb59fc15fe74b0f6e01d74cdbd30b2a", func := "catapult/catapultlaw12.FoldConverts", spec := "foldConverts", inPlace := ["internal/bytealg.IndexByteString", "internal/bytealg.IndexString"], unfollowed := true, recurses := true, named := ["catapult/lex.keys", "internal/bytealg.MaxLen"], apart := false, laid := [("catapult/lex.keys", laid_catapult_lex_keys)], narrowed := true }
def FoldConvertsUptoSaid : Prop := foldConvertsUptoRow.holds Tryd.pinned (OpenSpec.upto foldConvertsSpec)

/-- 'catapultlaw12.FoldMeans', WHERE WHAT IT READS IS OF BULK AT MOST 1048576: true; the input reads as it did. -/
def foldMeansUptoRow : OpenClaim := { program := "ytlcfejgjeljjdaadoor", sum := "6ae323875f22ccacb78d3b95f23c69b6cfb59fc15fe74b0f6e01d74cdbd30b2a", func := "catapult/catapultlaw12.FoldMeans", spec := "foldMeans", inPlace := ["internal/bytealg.IndexByteString", "internal/bytealg.IndexString"], unfollowed := true, recurses := true, named := ["catapult/lex.keys", "internal/bytealg.MaxLen"], apart := false, laid := [("catapult/lex.keys", laid_catapult_lex_keys)], narrowed := true }
def FoldMeansUptoSaid : Prop := foldMeansUptoRow.holds Tryd.pinned (OpenSpec.upto foldMeansSpec)

end Rows
end Go.Proofs.YtlcfejgjeljjdaaDoor
