/- Names and keywords of texts of any length, of both texts. -/
import Derived.Test.YtkokdafkjjcgoaaGreatDoorBase07
namespace Go.Proofs.YtkokdafkjjcgoaaGreatDoor
open Go.RowKit

theorem lexIsName_any (s : ByteArray) (w : World) (hK : KeysAt w) :
    Calls Tryz.prog 124 #[.string s] w fun e w' => e = .returned (.bool (isNameB s)) ∧ Below w.heap.size w w' := by
  by_cases h31 : s.size ≤ 31
  · exact lexIsName_ok s w hK (by omega)
  · have hfin := Lib.hid (show isNameB s = false by simp [isNameB, h31])
    have t1 : decide ((s.size : Int) ≤ 31) = false := by simp; omega
    clear hK
    go_enter Tryz.func124, Tryz.ntmps124
    go_wp2_with fail
    all_goals go_ret
    all_goals exact ⟨by rw [hfin.out]; rfl, (Below.refl _ _).alloc (Nat.le_refl _) _⟩

theorem baseName_any (s : ByteArray) (w : World) :
    Calls Tryz.prog 87 #[.string s] w fun e w' => e = .returned (.bool (isNameB s)) ∧ Below w.heap.size w w' := by
  by_cases h31 : s.size ≤ 31
  · exact baseName_ok s w (by omega)
  · have hfin := Lib.hid (show isNameB s = false by rw [isName_of]; simp [h31])
    have t1 : decide ((s.size : Int) ≤ 31) = false := by simp; omega
    go_enter Tryz.func87, Tryz.ntmps87
    go_wp2_with fail
    all_goals go_ret
    all_goals exact ⟨by rw [hfin.out]; rfl, Below.refl _ _⟩

end Go.Proofs.YtkokdafkjjcgoaaGreatDoor

