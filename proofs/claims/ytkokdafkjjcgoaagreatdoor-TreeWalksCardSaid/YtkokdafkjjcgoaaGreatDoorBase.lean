/- Small lemmas that all walks share; nothing of the program. -/
import Derived.WalkKit
import Derived.WalkLawsBesides
import Derived.WalkSpells
import Derived.Lib.Hide
import Derived.Lib.AppendStr
import Derived.Lib.UnsafeStr
import Derived.Lib.BufferRead
import Derived.ChangeSame
namespace Go.Proofs.YtkokdafkjjcgoaaGreatDoor
open Go.RowKit Go.WideShapes Go.ChangeShapes

theorem take_snoc (s : ByteArray) (k : Nat) (h : k < s.size) : s.data.toList.take (k + 1) = s.data.toList.take k ++ [s[k]] := by
  rw [List.take_succ_eq_append_getElem (by simpa using h)]; rfl

theorem cell_one (w : World) (v : Value) (T : TypeId) : ∀ j u, [v][j]? = some u → (w.alloc (.cells #[v] T)).cell? ((⟨w.heap.size, 0, none⟩ : Addr).add j) = some u
  | 0, u, h => by simp at h; subst h; simp [Addr.add]
  | _ + 1, _, h => by simp at h

theorem lt_of_heap {w : World} {b : Nat} {o : Obj} (h : w.heap[b]? = some o) : b < w.heap.size := by
  rcases Nat.lt_or_ge b w.heap.size with h' | h'
  · exact h'
  · simp [Array.getElem?_eq_none h'] at h

theorem addr_add (b j : Nat) : ((⟨b, 0, none⟩ : Addr).add j) = ⟨b, j, none⟩ := by unfold Addr.add; split <;> simp_all

/-- a new row that holds what was typed out -/
theorem own_new (w : World) (T : TypeId) (l : List Value) : (w.alloc (.cells l.toArray T)).ownsRow w.heap.size T 1 (.slice (some ⟨w.heap.size, 0, none⟩) l.length l.length) l.length l ∨ maxLen < l.length := by
  rcases Nat.lt_or_ge maxLen l.length with h | h
  · exact Or.inr h
  · exact Or.inl ⟨by simp, .inr ⟨w.heap.size, l.length, l.toArray, rfl, Nat.le_refl _, heap_alloc_new w _, Nat.le_refl _, h, by simp, by simp⟩⟩

theorem _root_.Go.World.ownsRow.belowed {W W' : World} {B n : Nat} {T : TypeId} {sz : Nat} {v : Value} {xs : List Value} (h : W.ownsRow B T sz v n xs) (hb : Below W.heap.size W W') : W'.ownsRow B T sz v n xs :=
  h.kept (row := none) ⟨hb.os, hb.tape, hb.output, hb.size, fun k hk _ => hb.block k hk⟩ (by cases v.ownBlock <;> simp)

theorem own_new1 (w : World) (T : TypeId) (v : Value) : (w.alloc (.cells #[v] T)).ownsRow w.heap.size T 1 (.slice (some ⟨w.heap.size, 0, none⟩) 1 1) 1 [v] :=
  (own_new w T [v]).resolve_right (by simp [maxLen])

theorem _root_.Go.Below.drewN' (w : World) (n : Nat) : Below w.heap.size w (w.drewN n) := ⟨rfl, rfl, rfl, Nat.le_refl _, fun _ _ => rfl⟩

theorem getD_lt {α : Type} (l : List α) (d : α) {j : Nat} (h : j < l.length) : l.getD j d = l[j] := by simp [List.getD, h]

theorem blw_drewN {B : Nat} {w w' : World} (h : Below B w w') (n : Nat) : Below B w (w'.drewN n) := ⟨h.os, h.tape, h.output, h.size, h.block⟩

end Go.Proofs.YtkokdafkjjcgoaaGreatDoor

