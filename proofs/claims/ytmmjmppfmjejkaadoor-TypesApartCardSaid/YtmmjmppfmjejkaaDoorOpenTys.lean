/- An argument that is a list of types, opened. -/
import Derived.Test.YtmmjmppfmjejkaaDoorApartM
import Derived.SliceStrings
import Derived.ProofKit
namespace Go.Proofs.YtmmjmppfmjejkaaDoor
open Go.ChangeShapes Go.WideShapes Go.ChangeAt Go.RowKit
open Go.ChangeMaps

section
variable {H : Type} {enc : TypeId × Value → H} {w : World} {base : Nat} {spare : Nat → Bool} {held : Bool}
theorem cellsT : Tryd.prog.cellsOf 22 = 1 := by kernel_rfl
theorem open_tys {fuel : Nat} {v : Value} {x : DataW H × List MemPlace} (h : DataW.trod enc Tryd.prog w base spare held fuel 33 [v] = some x) :
    ∃ (a : Option Addr) (xs : List ByteArray) (cap : Nat), v = .slice a xs.length cap ∧ IsTys w.heap.size w a xs ∧ (xs.length : Int) ≤ 9223372036854775807 := by
  rcases open_strings Tryd.underlying33 Tryd.underlying22 cellsT h with ⟨hv, _⟩ | ⟨a, len, cap, ss, hv, _, hl, hm, hs, _, hc, _⟩
  · exact ⟨none, [], 0, by simpa using hv, ⟨fun hne => absurd rfl hne⟩, by simp⟩
  · have hlm : len ≤ ss.length := by rw [hs]; split <;> omega
    have hlen : (ss.take len).length = len := by rw [List.length_take]; omega
    have hmx : len ≤ 9223372036854775807 := by unfold maxLen at hm; omega
    refine ⟨some a, ss.take len, cap, by rw [hlen]; simpa using hv, ⟨fun hne => ?_⟩, by rw [hlen]; omega⟩
    have h0 : 0 < len := by
      rcases Nat.eq_zero_or_pos len with rfl | h
      · simp at hne
      · exact h
    obtain ⟨b, off, sp⟩ := a
    have hsp : sp = none := by
      have h := hc 0 (by omega)
      simp only [Addr.add, if_true, World.cell?] at h
      cases sp with
      | none => rfl
      | some z =>
        exfalso
        simp at h
        split at h <;> simp at h
    subst hsp
    have hcell : ∀ (i : Nat) x, (ss.take len)[i]? = some x → w.cell? ⟨b, off + i, none⟩ = some (.string x) := fun i x hx => by
      obtain ⟨hi, rfl⟩ := List.getElem?_eq_some_iff.1 hx
      rw [hlen] at hi
      have h1 := hc i (by omega)
      have hadd : (⟨b, off, none⟩ : Addr).add i = ⟨b, off + i, none⟩ := by unfold Addr.add; split <;> simp_all
      rw [hadd, List.getD_eq_getElem?_getD, List.getElem?_eq_getElem (by omega)] at h1
      rw [List.getElem_take]
      exact h1
    refine ⟨b, off, rfl, ?_, hcell⟩
    exact World.block_lt_of_cell? w _ (hcell 0 _ (List.getElem?_eq_getElem (by rw [hlen]; exact h0)))
end
end Go.Proofs.YtmmjmppfmjejkaaDoor
