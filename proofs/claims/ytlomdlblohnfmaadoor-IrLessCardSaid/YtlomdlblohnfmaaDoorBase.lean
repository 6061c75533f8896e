/- Small lemmas that all walks share; nothing of the program. -/
import Derived.WalkKit
import Derived.WalkLawsBesides
import Derived.WalkSpells
import Derived.Lib.Hide
import Derived.Lib.AppendStr
import Derived.Lib.UnsafeStr
import Derived.Lib.BufferRead
import Derived.ChangeSame
namespace Go.Proofs.YtlomdlblohnfmaaDoor
open Go.RowKit Go.WideShapes Go.ChangeShapes

theorem lt_of_heap {w : World} {b : Nat} {o : Obj} (h : w.heap[b]? = some o) : b < w.heap.size := by
  rcases Nat.lt_or_ge b w.heap.size with h' | h'
  · exact h'
  · simp [Array.getElem?_eq_none h'] at h

theorem _root_.Go.World.ownsRow.belowed {W W' : World} {B n : Nat} {T : TypeId} {sz : Nat} {v : Value} {xs : List Value} (h : W.ownsRow B T sz v n xs) (hb : Below W.heap.size W W') : W'.ownsRow B T sz v n xs :=
  h.kept (row := none) ⟨hb.os, hb.tape, hb.output, hb.size, fun k hk _ => hb.block k hk⟩ (by cases v.ownBlock <;> simp)

theorem getD_lt {α : Type} (l : List α) (d : α) {j : Nat} (h : j < l.length) : l.getD j d = l[j] := by simp [List.getD, h]

end Go.Proofs.YtlomdlblohnfmaaDoor

