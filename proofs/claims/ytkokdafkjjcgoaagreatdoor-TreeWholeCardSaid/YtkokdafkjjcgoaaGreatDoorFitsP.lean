/- Whether parts fit. Plain: nothing of the program. -/
import Derived.Test.YtkokdafkjjcgoaaGreatDoorMg10
namespace Go.Proofs.YtkokdafkjjcgoaaGreatDoor

theorem mayAll_yes {t : List Nd} {k : Int} : ∀ {l : List Nat} {i : Nat}, (∀ (j p : Nat), l[j]? = some p → mayN k (i + j) (kindAt t p) = true) → mayAll t k i l = true
  | [], _, _ => rfl
  | p :: l, i, h => by
    rw [mayAll, Bool.and_eq_true]
    exact ⟨h 0 p rfl, mayAll_yes fun j q hq => by rw [show i + 1 + j = i + (j + 1) by omega]; exact h (j + 1) q (by simpa using hq)⟩
theorem mayAll_no {t : List Nd} {k : Int} : ∀ {l : List Nat} {i j p : Nat}, l[j]? = some p → mayN k (i + j) (kindAt t p) = false → mayAll t k i l = false
  | [], _, _, _, h, _ => by simp at h
  | q :: l, i, 0, p, h, hm => by
    obtain rfl := Option.some.inj h
    rw [mayAll, show mayN k i (kindAt t q) = false from hm]
    rfl
  | q :: l, i, j + 1, p, h, hm => by
    rw [mayAll, mayAll_no (i := i + 1) (j := j) (by simpa using h) (by rw [show i + 1 + j = i + (j + 1) by omega]; exact hm), Bool.and_false]
end Go.Proofs.YtkokdafkjjcgoaaGreatDoor

