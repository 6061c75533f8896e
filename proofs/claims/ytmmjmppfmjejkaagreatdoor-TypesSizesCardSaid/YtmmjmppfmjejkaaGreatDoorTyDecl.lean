/- How C writes a type. Plain: nothing of the program. -/
import Derived.Test.YtmmjmppfmjejkaaGreatDoorTySem
namespace Go.Proofs.YtmmjmppfmjejkaaGreatDoor

def wordT : Ty → List UInt8
  | .base c => if c = 118 then [118, 111, 105, 100] else if c = 99 then [99, 104, 97, 114] else if c = 115 then [115, 104, 111, 114, 116] else if c = 105 then [105, 110, 116]
    else if c = 117 then [117, 110, 115, 105, 103, 110, 101, 100] else [106, 109, 112, 95, 98, 117, 102]
  | .str s => [115, 116, 114, 117, 99, 116, 32] ++ s
  | _ => []
def isArrT : Ty → Bool
  | .arr _ _ => true
  | _ => false
def commaL : List (List UInt8) → List UInt8
  | [] => []
  | [x] => x
  | x :: y :: l => x ++ 44 :: 32 :: commaL (y :: l)
mutual
/-- a type around what stands already -/
def declT : Ty → List UInt8 → List UInt8
  | .base c, s => if s = [] then wordT (.base c) else wordT (.base c) ++ 32 :: s
  | .str n, s => if s = [] then wordT (.str n) else wordT (.str n) ++ 32 :: s
  | .ptr t, s => declT t (if isArrT t || isFnT t then 40 :: 42 :: s ++ [41] else 42 :: s)
  | .arr n t, s => declT t (s ++ 91 :: Lib.decDigits n ++ [93])
  | .fn ps r, s => declT r (s ++ 40 :: (if ps = [] then [118, 111, 105, 100] else commaL (declTs ps)) ++ [41])
def declTs : List Ty → List (List UInt8)
  | [] => []
  | t :: l => declT t [] :: declTs l
end
end Go.Proofs.YtmmjmppfmjejkaaGreatDoor
