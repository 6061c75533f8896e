/- Programs of three-address code: what is right. Plain: nothing of the program. -/
import Derived.Test.YtlomdlblohnfmaaDoorIrNamed
namespace Go.Proofs.YtlomdlblohnfmaaDoor

/-- an address in a global; a global; a program -/
structure IrW where
  at_ : Int
  kind : Int
  num : Int
  text : ByteArray
structure IrG where
  name : ByteArray
  bytes : List UInt8
  align : Int
  words : List IrW
structure IrP where
  globals : List IrG
  strings : List ByteArray
  funcs : List IrF
def wordOk (fG fF : ByteArray → Int × Bool) (ns : Int) (x : IrW) : Bool :=
  if x.kind = 5 then (fG x.text).2 && decide (x.num = 0)
  else if x.kind = 3 then (fF x.text).2 && decide (x.num = 0)
  else if x.kind = 6 then decide (x.text.size = 0) && (decide (0 ≤ x.num) && decide (x.num < ns))
  else false
/-- words stand one behind the other, each on four bytes that are 0 -/
def wordsOk (fG fF : ByteArray → Int × Bool) (ns : Int) (bytes : List UInt8) : Int → List IrW → Bool
  | _, [] => true
  | e, x :: r => decide (e ≤ x.at_) && decide (x.at_ % 4 = 0) && decide (x.at_ ≤ (bytes.length : Int) - 4) && ((bytes.drop x.at_.toNat).take 4).all (fun c => c == 0) && wordOk fG fF ns x && wordsOk fG fF ns bytes (x.at_ + 4) r
def globalOk (fG fF : ByteArray → Int × Bool) (ns i : Int) (g : IrG) : Bool :=
  isNameB g.name && decide ((fG g.name).1 = i) && decide (g.align = 1 ∨ g.align = 2 ∨ g.align = 4) && decide (1 ≤ g.bytes.length ∧ g.bytes.length ≤ 65536) && wordsOk fG fF ns g.bytes 0 g.words
/-- what is wrong with a program: where, and what -/
def firstBad {α : Type} (bad : Nat → α → Bool) : Nat → List α → Option Nat
  | _, [] => none
  | i, x :: r => if bad i x then some i else firstBad bad (i + 1) r
def checkP (x : IrP) : Int × Int :=
  if 256 < x.globals.length ∨ 4096 < x.strings.length ∨ 128 < x.funcs.length then (0, 3)
  else
    let fG := firstI (x.globals.map IrG.name)
    let fF := firstI (x.funcs.map IrF.name)
    match firstBad (fun i g => !globalOk fG fF x.strings.length i g) 0 x.globals with
    | some i => ((i : Nat), 180)
    | none =>
      match firstBad (fun _ s => decide (4096 < s.size)) 0 x.strings with
      | some i => ((i : Nat), 3)
      | none =>
        match firstBad (fun i f => !(funcI f x.strings.length) || decide ((fF f.name).1 ≠ (i : Nat)) || !(namedI fG fF f)) 0 x.funcs with
        | some i => ((i : Nat), 180)
        | none => (0, 0)
end Go.Proofs.YtlomdlblohnfmaaDoor

