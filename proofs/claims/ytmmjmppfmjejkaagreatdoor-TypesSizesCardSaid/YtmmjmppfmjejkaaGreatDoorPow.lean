/- Numbers in digits: strconv.Itoa by the shelf's contract; its table as it stands in the world. -/
import Derived.Test.YtmmjmppfmjejkaaGreatDoorBase
import Derived.Test.YtmmjmppfmjejkaaGreatDoorChecked
import Derived.Test.YtmmjmppfmjejkaaGreatDoorShelf
namespace Go.Proofs.YtmmjmppfmjejkaaGreatDoor
open Go.RowKit Go.Sort

/-- the table of powers of ten as the text lays it -/
def PowAt (w : World) : Prop := Lib.TabIs Tryz.prog w "internal/strconv.uint64pow10" .u64 Lib.pow10Tab
theorem powG : Tryz.prog.globalNamed "internal/strconv.uint64pow10" = some 2 := by kernel_rfl
theorem PowAt.drewN {w : World} (h : PowAt w) (n : Nat) : PowAt (w.drewN n) := h
theorem PowAt.drew {w : World} (h : PowAt w) : PowAt w.drew := h
theorem PowAt.below {w w' : World} (h : PowAt w) (hb : Below w.heap.size w w') (hg : 2 < w.heap.size) : PowAt w' := var?_below hb powG hg h

theorem blw_grow (w : World) (k : Nat) (os : Array Obj) : Below w.heap.size w (grow (w.drewN k) os) :=
  ⟨rfl, rfl, rfl, by simp [grow], fun j hj => by simp [grow, Array.getElem?_append, hj]⟩

theorem lexItoa_ok (n : Int) (w : World) (hP : PowAt w) (h0 : 0 ≤ n) (h1 : n ≤ 9223372036854775807) :
    Calls Tryz.prog 74 #[.int .i64 n] w fun e w' => e = .returned (.string ⟨(Lib.itoa n).toArray⟩) ∧ Below w.heap.size w w' :=
  (Tryz.strconv_Itoa n (by omega) h1 w hP).mono fun _ _ ⟨he, k, os, hw⟩ => ⟨he, by rw [hw]; exact blw_grow _ _ _⟩

end Go.Proofs.YtmmjmppfmjejkaaGreatDoor
