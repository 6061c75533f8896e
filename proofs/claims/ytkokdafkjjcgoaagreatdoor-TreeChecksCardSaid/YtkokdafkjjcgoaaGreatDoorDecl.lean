/- How a type is written: the program, but for functions. -/
import Derived.Test.YtkokdafkjjcgoaaGreatDoorParts3
import Derived.Test.YtkokdafkjjcgoaaGreatDoorLowM
import Derived.IntWalk
namespace Go.Proofs.YtkokdafkjjcgoaaGreatDoor
open Go.RowKit

/-- a string by its bytes -/
def strB (l : List UInt8) : ByteArray := ⟨l.toArray⟩
theorem strB_list (l : List UInt8) : (strB l).data.toList = l := by simp [strB]
theorem strB_size (l : List UInt8) : (strB l).size = l.length := by simp [strB, ByteArray.size]
theorem strB_eq {x : ByteArray} {l : List UInt8} (h : x.data.toList = l) : x = strB l := toList_eq (by rw [h, strB_list])

end Go.Proofs.YtkokdafkjjcgoaaGreatDoor

