/- The library's own bound on its search, as it stands in the world. -/
import Derived.Test.YtmmjmppfmjejkaaGreatDoorBase
import Derived.Test.YtmmjmppfmjejkaaGreatDoorChecked
namespace Go.Proofs.YtmmjmppfmjejkaaGreatDoor
open Go.RowKit

/-- the cell in which the library keeps how long its own search may be -/
def MaxLenAt (w : World) : Prop := ∃ m : Int, w.cell? ⟨1, 0, none⟩ = some (.int .i64 m)
theorem MaxLenAt.below {w w' : World} (h : MaxLenAt w) (hb : Below w.heap.size w w') : MaxLenAt w' := by
  obtain ⟨m, hm⟩ := h
  exact ⟨m, by rw [hb.cell (World.block_lt_of_cell? w _ hm)]; exact hm⟩
theorem MaxLenAt.drewN {w : World} (h : MaxLenAt w) (n : Nat) : MaxLenAt (w.drewN n) := h
theorem MaxLenAt.drew {w : World} (h : MaxLenAt w) : MaxLenAt w.drew := h
theorem MaxLenAt.grown {w w' : World} {b : Nat} (h : MaxLenAt w) (hg : w.grownBy w' (some b)) (hb : 1 < b) : MaxLenAt w' := by
  obtain ⟨m, hm⟩ := h
  refine ⟨m, ?_⟩
  have hlt := World.block_lt_of_cell? w _ hm
  unfold World.cell? at hm ⊢
  rw [hg.block _ hlt (by simp; omega)]; exact hm
end Go.Proofs.YtmmjmppfmjejkaaGreatDoor
