/- Names and keywords of texts of any length, of both texts. -/
import Derived.Test.YtlomdlblohnfmaaDoorTabs
namespace Go.Proofs.YtlomdlblohnfmaaDoor
open Go.RowKit

theorem lexIsName_any (s : ByteArray) (w : World) (hK : KeysAt w) :
    Calls Tryd.prog 38 #[.string s] w fun e w' => e = .returned (.bool (isNameB s)) ∧ Below w.heap.size w w' := by
  by_cases h31 : s.size ≤ 31
  · exact lexIsName_ok s w hK (by omega)
  · have hfin := Lib.hid (show isNameB s = false by simp [isNameB, h31])
    have t1 : decide ((s.size : Int) ≤ 31) = false := by simp; omega
    clear hK
    go_enter Tryd.func38, Tryd.ntmps38
    go_wp2_with fail
    all_goals go_ret
    all_goals exact ⟨by rw [hfin.out]; rfl, (Below.refl _ _).alloc (Nat.le_refl _) _⟩

end Go.Proofs.YtlomdlblohnfmaaDoor

