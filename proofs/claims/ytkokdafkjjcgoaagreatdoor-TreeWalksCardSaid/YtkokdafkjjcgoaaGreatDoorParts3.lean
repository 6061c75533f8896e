/- Decay, Promote: the program. -/
import Derived.Test.YtkokdafkjjcgoaaGreatDoorParts2
namespace Go.Proofs.YtkokdafkjjcgoaaGreatDoor
open Go.RowKit

theorem add_namedT (a b y : ByteArray) (hy : a ++ b = y) (h : a.size + b.size ≤ 9223372036854775807) : ∀ w, (Op.stringOp .add a b).run Tryz.prog w = .ok (.string y) w := fun w => by rw [← hy]; exact run_string_add_sum w a b h
theorem one_is {t : Ty} (h : Right t) (c : UInt8) : ((tyB t).toList == [c]) = isC c t := by
  rw [str_one, Bool.eq_iff_iff, decide_eq_true_iff, one_base h]
  cases t <;> simp [isC]
end Go.Proofs.YtkokdafkjjcgoaaGreatDoor

