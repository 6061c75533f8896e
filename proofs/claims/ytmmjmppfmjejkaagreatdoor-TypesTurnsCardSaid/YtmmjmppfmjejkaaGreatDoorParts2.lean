/- Elem, Sign, Decay, Promote, Common: what they tell. -/
import Derived.Test.YtmmjmppfmjejkaaGreatDoorParts
namespace Go.Proofs.YtmmjmppfmjejkaaGreatDoor
open Go.RowKit

def isC (c : UInt8) : Ty → Bool
  | .base d => decide (d = c)
  | _ => false
def elemV : Option Ty → Value
  | none => .tuple #[.string ⟨#[]⟩, .int .i64 0, .int .i64 2]
  | some (.ptr u) => .tuple #[.string (tyB u), .int .i64 0, .int .i64 0]
  | some (.arr n u) => .tuple #[.string (tyB u), .int .i64 n, .int .i64 0]
  | some _ => .tuple #[.string ⟨#[]⟩, .int .i64 0, .int .i64 5]
/-- what is told of a function's parts -/
def SignP (r : Option Ty) (w : World) (e : Ending) (w' : World) : Prop :=
  (match r with
    | none => e = .returned (.tuple #[.string ⟨#[]⟩, .slice none 0 0, .int .i64 2])
    | some (.fn ps r) => ∃ v, e = .returned (.tuple #[.string (tyB r), v, .int .i64 0]) ∧ w'.ownsRow w.heap.size 22 1 v ps.length (ps.map fun p => .string (tyB p))
    | some _ => e = .returned (.tuple #[.string ⟨#[]⟩, .slice none 0 0, .int .i64 5])) ∧ Below w.heap.size w w'
def decayV (s : ByteArray) : Option Ty → Value
  | none => .tuple #[.string ⟨#[]⟩, .int .i64 2]
  | some (.arr _ u) => .tuple #[.string (tyB (.ptr u)), .int .i64 0]
  | some (.fn ps r) => if 65536 ≤ s.size then .tuple #[.string ⟨#[]⟩, .int .i64 3] else .tuple #[.string (tyB (.ptr (.fn ps r))), .int .i64 0]
  | some (.base c) => if c = 106 then .tuple #[.string (tyB (.ptr (.base c))), .int .i64 0] else .tuple #[.string s, .int .i64 0]
  | some _ => .tuple #[.string s, .int .i64 0]
def promoteV (s : ByteArray) : Option Ty → Value
  | none => .tuple #[.string ⟨#[]⟩, .int .i64 2]
  | some t => if (isC 99 t || isC 115 t) = true then .tuple #[.string (tyB (.base 105)), .int .i64 0] else .tuple #[.string s, .int .i64 0]
def commonV : Option Ty → Option Ty → Value
  | some t, some u => if (isIntT t && isIntT u) = true then (if (isC 117 t || isC 117 u) = true then .tuple #[.string (tyB (.base 117)), .int .i64 0] else .tuple #[.string (tyB (.base 105)), .int .i64 0]) else .tuple #[.string ⟨#[]⟩, .int .i64 5]
  | _, _ => .tuple #[.string ⟨#[]⟩, .int .i64 2]

theorem tup_eq {a b : Value} (h : a = b) : Ending.returned a = .returned b := by rw [h]
theorem base_six {c : UInt8} (h : isBase c = true) : c = 118 ∨ c = 99 ∨ c = 115 ∨ c = 105 ∨ c = 117 ∨ c = 106 := by
  unfold isBase at h
  rw [List.contains_iff_mem] at h
  simpa using h
/-- the first letter of a type, as the tests ask -/
def headT : Ty → UInt8
  | .base c => c
  | .ptr _ => 112
  | .arr _ _ => 97
  | .str _ => 83
  | .fn _ _ => 102
theorem tyB_head (t : Ty) : ∃ h : 0 < (tyB t).size, (tyB t)[0] = headT t := by
  cases t with
  | base c => exact tyB_get (t := .base c) rfl
  | ptr u => exact tyB_get (t := .ptr u) rfl
  | arr n u => exact tyB_get (t := .arr n u) rfl
  | str n => exact tyB_get (t := .str n) rfl
  | fn ps r => exact tyB_get (t := .fn ps r) rfl
theorem ne_true {s : ByteArray} {h : 0 < s.size} {c d : UInt8} (hc : s[0] = c) (hd : c ≠ d) : ((s[0].toNat : Int) != (d.toNat : Int)) = true := by
  rw [hc, bne_iff_ne]
  intro e
  exact hd (UInt8.toNat_inj.1 (by omega))
theorem ne_false {s : ByteArray} {h : 0 < s.size} {c : UInt8} (hc : s[0] = c) : ((s[0].toNat : Int) != (c.toNat : Int)) = false := by rw [hc]; simp
theorem eq_false' {s : ByteArray} {h : 0 < s.size} {c d : UInt8} (hc : s[0] = c) (hd : c ≠ d) : ((s[0].toNat : Int) == (d.toNat : Int)) = false := by
  rw [hc, beq_eq_false_iff_ne]
  intro e
  exact hd (UInt8.toNat_inj.1 (by omega))
theorem eq_true' {s : ByteArray} {h : 0 < s.size} {c : UInt8} (hc : s[0] = c) : ((s[0].toNat : Int) == (c.toNat : Int)) = true := by rw [hc]; simp

end Go.Proofs.YtmmjmppfmjejkaaGreatDoor
