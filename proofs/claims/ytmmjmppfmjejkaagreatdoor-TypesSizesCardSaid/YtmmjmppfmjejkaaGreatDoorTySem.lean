/- What is told of types: shapes, sizes, structs. Plain: nothing of the program. -/
import Derived.Test.YtmmjmppfmjejkaaGreatDoorTy
namespace Go.Proofs.YtmmjmppfmjejkaaGreatDoor

def isIntT : Ty → Bool
  | .base c => decide (c = 99 ∨ c = 115 ∨ c = 105 ∨ c = 117)
  | _ => false
def isPtrT : Ty → Bool
  | .ptr _ => true
  | _ => false
def isScalarT (t : Ty) : Bool := isIntT t || isPtrT t
def isFnT : Ty → Bool
  | .fn _ _ => true
  | _ => false
def isVoidT : Ty → Bool
  | .base c => decide (c = 118)
  | _ => false
def objectT (t : Ty) : Bool := !isVoidT t && !isFnT t
mutual
def shapeT : Ty → Bool
  | .base _ => true
  | .ptr t => shapeT t
  | .arr n t => decide (1 ≤ n ∧ n ≤ 65536) && (objectT t && shapeT t)
  | .str _ => true
  | .fn ps r => decide (ps.length ≤ 8) && ((isVoidT r || isScalarT r) && (shapeT r && shapesT ps))
def shapesT : List Ty → Bool
  | [] => true
  | t :: l => (isScalarT t && shapeT t) && shapesT l
end

/-- a struct as it comes: its name, its members' names and types -/
structure Sr where
  name : ByteArray
  mems : List (ByteArray × ByteArray)
/-- a struct that is right: also its bytes and its alignment -/
structure Kn extends Sr where
  size : Nat
  align : Nat
def findK (K : List Kn) (s : List UInt8) : Option Nat := K.findIdx? fun k => decide (k.name.data.toList = s)
/-- the structs are given that a type names, but behind pointers -/
def thereT (K : List Kn) : Ty → Bool
  | .arr _ t => thereT K t
  | .str s => (findK K s).isSome
  | _ => true
/-- bytes and alignment -/
def measT (K : List Kn) : Ty → Nat × Nat
  | .base c => if c = 99 then (1, 1) else if c = 115 then (2, 2) else if c = 106 then (64, 4) else (4, 4)
  | .ptr _ => (4, 4)
  | .arr n t => (n * (measT K t).1, (measT K t).2)
  | .str s => match (findK K s).bind (K[·]?) with
    | some k => (k.size, k.align)
    | none => (4, 4)
  | .fn _ _ => (4, 4)
mutual
def sizedT (K : List Kn) : Ty → Bool
  | .base _ => true
  | .ptr t => sizedT K t
  | .arr n t => sizedT K t && (!thereT K t || decide (n * (measT K t).1 ≤ 65536))
  | .str _ => true
  | .fn ps r => sizedT K r && sizedsT K ps
def sizedsT (K : List Kn) : List Ty → Bool
  | [] => true
  | t :: l => sizedT K t && sizedsT K l
end
/-- the type that a text is -/
def tyS (s : ByteArray) : Option Ty := if s.size ≤ 65536 then tyE s.data.toList else none
/-- what is wrong with a type: 0: nothing -/
def checkT (K : List Kn) (t : Ty) : Int := if 48 < deepT t then 3 else if shapeT t = false then 5 else if thereT K t = false then 4 else if sizedT K t = false then 3 else 0
def checkS (K : List Kn) (s : ByteArray) : Int := match tyS s with
  | none => 2
  | some t => checkT K t
def fitN (at_ a : Nat) : Nat := (at_ + a - 1) / a * a
/-- members, one by one: what is wrong, or the bytes and the alignment so far -/
def memsK (K : List Kn) : List (ByteArray × ByteArray) → List ByteArray → Nat → Nat → Int ⊕ (Nat × Nat)
  | [], _, at_, most => .inr (at_, most)
  | m :: l, seen, at_, most =>
    if isNameB m.1 = false then .inl 2
    else if Lib.containsS seen m.1 = true then .inl 6
    else match tyS m.2 with
      | none => .inl 2
      | some t =>
        if checkT K t ≠ 0 then .inl (checkT K t)
        else if objectT t = false then .inl 5
        else memsK K l (seen ++ [m.1]) (fitN at_ (measT K t).2 + (measT K t).1) (max most (measT K t).2)
/-- one more struct: what is wrong with it, or what is known of it -/
def addK (K : List Kn) (x : Sr) : Int ⊕ Kn :=
  if isNameB x.name = false then .inl 2
  else if (findK K x.name.data.toList).isSome = true then .inl 6
  else if 64 < x.mems.length then .inl 3
  else if x.mems = [] then .inl 5
  else match memsK K x.mems [] 0 1 with
    | .inl e => .inl e
    | .inr (at_, most) => if 65536 < fitN at_ most then .inl 3 else .inr { x with size := fitN at_ most, align := most }
/-- structs, one by one: what is wrong at which, or what is known -/
def learnF : List Kn → List Sr → (Nat × Int) ⊕ List Kn
  | K, [] => .inr K
  | K, x :: l => match addK K x with
    | .inl e => .inl (K.length, e)
    | .inr k => learnF (K ++ [k]) l
def learnK (l : List Sr) : (Nat × Int) ⊕ List Kn := if 64 < l.length then .inl (0, 3) else learnF [] l

end Go.Proofs.YtmmjmppfmjejkaaGreatDoor
