/- Lists of structs, and of members, as rows that a call made itself; an append as one step of a region that draws. -/
import Derived.Test.YtkokdafkjjcgoaaGreatDoorMg18
import Derived.Test.YtkokdafkjjcgoaaGreatDoorMg9
import Derived.Test.YtkokdafkjjcgoaaGreatDoorMg14
import Derived.Deep.DeepCutAuto
import Derived.Test.YtkokdafkjjcgoaaGreatDoorMg12
import Derived.Test.YtkokdafkjjcgoaaGreatDoorDeclare
namespace Go
end Go
namespace Go.Proofs.YtkokdafkjjcgoaaGreatDoor
open Go.RowKit

theorem blw1 (w : World) (o : Obj) : Below w.heap.size w (w.alloc o).drew := ((Below.refl _ _).alloc (Nat.le_refl _) _).drew
theorem blw2 (w : World) (o o2 : Obj) : Below w.heap.size w ((w.alloc o).alloc o2).drew := (((Below.refl _ _).alloc (Nat.le_refl _) _).alloc (by simp) _).drew
end Go.Proofs.YtkokdafkjjcgoaaGreatDoor

