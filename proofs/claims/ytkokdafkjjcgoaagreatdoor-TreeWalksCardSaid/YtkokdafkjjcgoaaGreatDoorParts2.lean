/- Elem, Sign, Decay, Promote, Common: what they tell. -/
import Derived.Test.YtkokdafkjjcgoaaGreatDoorParts
namespace Go.Proofs.YtkokdafkjjcgoaaGreatDoor
open Go.RowKit

def isC (c : UInt8) : Ty → Bool
  | .base d => decide (d = c)
  | _ => false
theorem base_six {c : UInt8} (h : isBase c = true) : c = 118 ∨ c = 99 ∨ c = 115 ∨ c = 105 ∨ c = 117 ∨ c = 106 := by
  unfold isBase at h
  rw [List.contains_iff_mem] at h
  simpa using h
/-- the first letter of a type, as the tests ask -/
def headT : Ty → UInt8
  | .base c => c
  | .ptr _ => 112
  | .arr _ _ => 97
  | .str _ => 83
  | .fn _ _ => 102
theorem tyB_head (t : Ty) : ∃ h : 0 < (tyB t).size, (tyB t)[0] = headT t := by
  cases t with
  | base c => exact tyB_get (t := .base c) rfl
  | ptr u => exact tyB_get (t := .ptr u) rfl
  | arr n u => exact tyB_get (t := .arr n u) rfl
  | str n => exact tyB_get (t := .str n) rfl
  | fn ps r => exact tyB_get (t := .fn ps r) rfl
theorem eq_false' {s : ByteArray} {h : 0 < s.size} {c d : UInt8} (hc : s[0] = c) (hd : c ≠ d) : ((s[0].toNat : Int) == (d.toNat : Int)) = false := by
  rw [hc, beq_eq_false_iff_ne]
  intro e
  exact hd (UInt8.toNat_inj.1 (by omega))
theorem eq_true' {s : ByteArray} {h : 0 < s.size} {c : UInt8} (hc : s[0] = c) : ((s[0].toNat : Int) == (c.toNat : Int)) = true := by rw [hc]; simp

end Go.Proofs.YtkokdafkjjcgoaaGreatDoor

