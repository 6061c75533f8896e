/- How a type is written: the program: pointers, arrays, words. -/
import Derived.Test.YtkokdafkjjcgoaaGreatDoorDecl
import Derived.Deep.DeepCutAuto
namespace Go.Proofs.YtkokdafkjjcgoaaGreatDoor
open Go.RowKit

theorem head_fn {t : Ty} (h : Right t) : (((headT t).toNat : Int) == 102) = isFnT t := by
  cases t with
  | base c => rcases base_six h with rfl | rfl | rfl | rfl | rfl | rfl <;> rfl
  | _ => rfl
end Go.Proofs.YtkokdafkjjcgoaaGreatDoor

