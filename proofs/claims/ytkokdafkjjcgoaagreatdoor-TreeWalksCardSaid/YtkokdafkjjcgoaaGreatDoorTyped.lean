/- What types a tree may have: both texts. -/
import Derived.Test.YtkokdafkjjcgoaaGreatDoorKnM
import Derived.Test.YtkokdafkjjcgoaaGreatDoorChecks
import Derived.Test.YtkokdafkjjcgoaaGreatDoorNode
namespace Go.Proofs.YtkokdafkjjcgoaaGreatDoor
open Go.RowKit

theorem checkN_nil (s : ByteArray) : checkN [] s = checkS [] s := checkN_ok rfl
theorem refCheckNil (s : ByteArray) (w : World) : Calls Tryz.prog 128 #[.string s, .slice none 0 0] w fun e w' => e = .returned (.int .i64 (checkS [] s)) ∧ Below w.heap.size w w' := by
  have := refCheckAll_ok s none 0 [] [] w ⟨rfl, (fun h => absurd rfl h), (fun x hx => by cases hx)⟩ (Nat.le_refl _) (Nat.zero_le _)
  rw [checkN_nil] at this
  exact this
end Go.Proofs.YtkokdafkjjcgoaaGreatDoor

