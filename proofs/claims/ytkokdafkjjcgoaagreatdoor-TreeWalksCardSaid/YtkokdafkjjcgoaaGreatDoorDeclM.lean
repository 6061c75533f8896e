/- How a type is written: the program, but for functions. · How a type is written: the program: pointers, arrays, words. · How a type is written: the program: functions, all types. -/
import Derived.Test.YtkokdafkjjcgoaaGreatDoorParts3
import Derived.Test.YtkokdafkjjcgoaaGreatDoorLowM
import Derived.IntWalk
import Derived.Deep.DeepCutAuto
import Derived.Laws.AppendOwn
import Derived.Deep.LoopGhost
namespace Go.Proofs.YtkokdafkjjcgoaaGreatDoor
open Go.RowKit

/-- a string by its bytes -/
def strB (l : List UInt8) : ByteArray := ⟨l.toArray⟩
theorem strB_list (l : List UInt8) : (strB l).data.toList = l := by simp [strB]
theorem strB_size (l : List UInt8) : (strB l).size = l.length := by simp [strB, ByteArray.size]
theorem strB_eq {x : ByteArray} {l : List UInt8} (h : x.data.toList = l) : x = strB l := toList_eq (by rw [h, strB_list])

end Go.Proofs.YtkokdafkjjcgoaaGreatDoor
namespace Go.Proofs.YtkokdafkjjcgoaaGreatDoor
open Go.RowKit

theorem head_fn {t : Ty} (h : Right t) : (((headT t).toNat : Int) == 102) = isFnT t := by
  cases t with
  | base c => rcases base_six h with rfl | rfl | rfl | rfl | rfl | rfl <;> rfl
  | _ => rfl
end Go.Proofs.YtkokdafkjjcgoaaGreatDoor
namespace Go.Proofs.YtkokdafkjjcgoaaGreatDoor
open Go.RowKit

theorem own_formT {w : World} {base : Nat} {e : TypeId} {size : Nat} {v : Value} {n : Nat} {xs : List Value} (h : w.ownsRow base e size v n xs) : ∃ a cap, v = .slice a n cap ∧ (0 < n → ∃ g, a = some ⟨g, 0, none⟩ ∧ base ≤ g ∧ g < w.heap.size ∧ ∀ j u, xs[j]? = some u → w.cell? ⟨g, j, none⟩ = some u) := by
  rcases h.2 with ⟨rfl, rfl⟩ | ⟨g, cap, cur, rfl, hb, hg, _⟩
  · exact ⟨_, _, rfl, fun h => by omega⟩
  · refine ⟨_, _, rfl, fun _ => ⟨g, rfl, hb, lt_of_heap hg, fun j u hj => ?_⟩⟩
    have := h.cells (g := g) rfl j u hj
    rwa [addr_add] at this
theorem codes_mem' : ∀ {l : List Ty} {t : Ty}, t ∈ l → (code t).length ≤ (codes l).length
  | [], _, h => by cases h
  | u :: [], t, h => by
    rcases List.mem_cons.1 h with rfl | e
    · rw [codes]; simp
    · cases e
  | u :: v :: l, t, h => by
    rw [codes_cons, codes'_cons]
    rcases List.mem_cons.1 h with rfl | e
    · simp
    · have := codes_mem' e
      simp; omega
end Go.Proofs.YtkokdafkjjcgoaaGreatDoor
