/- Numbers in digits: strconv.Itoa by the shelf's contract; its table as it stands in the world. -/
import Derived.Test.YtlomdlblohnfmaaDoorBase
import Derived.Test.YtlomdlblohnfmaaDoorChecked
import Derived.Test.YtlomdlblohnfmaaDoorShelf
namespace Go.Proofs.YtlomdlblohnfmaaDoor
open Go.RowKit Go.Sort

/-- the table of powers of ten as the text lays it -/
def PowAt (w : World) : Prop := Lib.TabIs Tryd.prog w "internal/strconv.uint64pow10" .u64 Lib.pow10Tab
theorem powG : Tryd.prog.globalNamed "internal/strconv.uint64pow10" = some 1 := by kernel_rfl
theorem PowAt.drewN {w : World} (h : PowAt w) (n : Nat) : PowAt (w.drewN n) := h
theorem PowAt.drew {w : World} (h : PowAt w) : PowAt w.drew := h
theorem PowAt.below {w w' : World} (h : PowAt w) (hb : Below w.heap.size w w') (hg : 1 < w.heap.size) : PowAt w' := var?_below hb powG hg h

theorem blw_grow (w : World) (k : Nat) (os : Array Obj) : Below w.heap.size w (grow (w.drewN k) os) :=
  ⟨rfl, rfl, rfl, by simp [grow], fun j hj => by simp [grow, Array.getElem?_append, hj]⟩

end Go.Proofs.YtlomdlblohnfmaaDoor

