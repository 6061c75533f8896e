/- Any tree is judged, and taken apart, as the document says: the law's walk. -/
import Derived.Test.YtkokdafkjjcgoaaGreatDoorTopM
namespace Go.Proofs.YtkokdafkjjcgoaaGreatDoor
open Go.RowKit

theorem NdRow.opened {w : World} {base : Nat} {v : Value} {L : List Nd} (h : NdRow w base v L) : ∃ a cap, v = .slice a L.length cap ∧ L.length ≤ cap ∧ cap ≤ maxLen ∧ IsNds w.heap.size w a L ∧ (a = none → L = [] ∧ cap = 0) := by
  obtain ⟨a, cap, hv, hN, hn⟩ := own_sl nd_len h rfl
  refine ⟨a, cap, hv, ?_, ?_, hN, hn⟩
  · rcases h.2 with ⟨e, h0⟩ | ⟨g, c, cur, e, _, _, h1, _⟩
    · omega
    · rw [hv] at e; simp only [Value.slice.injEq] at e; omega
  · rcases h.2 with ⟨e, h0⟩ | ⟨g, c, cur, e, _, _, _, h1, _⟩
    · rw [hv] at e; simp only [Value.slice.injEq] at e; rw [e.2.2]; exact Nat.zero_le _
    · rw [hv] at e; simp only [Value.slice.injEq] at e; rw [e.2.2]; exact h1
end Go.Proofs.YtkokdafkjjcgoaaGreatDoor

