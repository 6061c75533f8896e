/- The blocks that can be come to. Plain: nothing of the program. -/
import Derived.Test.YtlomdlblohnfmaaDoorIrP
namespace Go.Proofs.YtlomdlblohnfmaaDoor

/-- marks of what was come to: the first block, and none that no exit leads to -/
structure SeenOk (bs : List IrB) (S : List Bool) : Prop where
  len : S.length = bs.length
  first : S[0]? = some true
  led : ∀ (j : Nat), S[j]? = some true → j = 0 ∨ ∃ b ∈ bs, (j : Int) ∈ (exitsI b.exit).2
/-- the marked, in order, up to k -/
def markedI (S : List Bool) (k : Nat) : List Int := ((List.range k).filter fun j => S[j]? == some true).map Int.ofNat
theorem markedI_yes {S : List Bool} {k : Nat} (h : S[k]? = some true) : markedI S (k + 1) = markedI S k ++ [(k : Int)] := by
  unfold markedI
  rw [List.range_succ, List.filter_append, List.map_append, List.filter_cons_of_pos (by rw [h]; rfl)]
  rfl
theorem markedI_no {S : List Bool} {k : Nat} (h : S[k]? ≠ some true) : markedI S (k + 1) = markedI S k := by
  unfold markedI
  rw [List.range_succ, List.filter_append, List.map_append, List.filter_cons_of_neg (by simpa using h)]
  simp
theorem markedI_len (S : List Bool) (k : Nat) : (markedI S k).length ≤ k := by
  unfold markedI
  rw [List.length_map]
  exact Nat.le_trans (List.length_filter_le _ _) (by simp)
theorem markedI_mem {S : List Bool} {k : Nat} {x : Int} (h : x ∈ markedI S k) : ∃ j : Nat, x = (j : Int) ∧ j < k ∧ S[j]? = some true := by
  unfold markedI at h
  rw [List.mem_map] at h
  obtain ⟨j, hj, rfl⟩ := h
  rw [List.mem_filter, List.mem_range] at hj
  exact ⟨j, rfl, hj.1, by simpa using hj.2⟩
/-- how many are not marked -/
def unseen (S : List Bool) : Nat := S.countP (fun b => !b)
theorem unseen_set {S : List Bool} {j : Nat} (h : S[j]? = some false) : unseen (S.set j true) + 1 = unseen S := by
  unfold unseen
  induction S generalizing j with
  | nil => simp at h
  | cons b r ih =>
    cases j with
    | zero =>
      simp at h; subst h
      simp
    | succ j =>
      have := ih (j := j) (by simpa using h)
      simp only [List.set_cons_succ, List.countP_cons]
      omega
theorem SeenOk.mark {bs : List IrB} {S : List Bool} (h : SeenOk bs S) {j : Nat} (hl : ∃ b ∈ bs, (j : Int) ∈ (exitsI b.exit).2) : SeenOk bs (S.set j true) := by
  refine ⟨by rw [List.length_set]; exact h.len, ?_, fun i hi => ?_⟩
  · rcases Nat.eq_zero_or_pos j with rfl | hj
    · have : 0 < S.length := by
        rcases Nat.eq_zero_or_pos S.length with e | e
        · have := h.first; rw [List.getElem?_eq_none (by omega)] at this; cases this
        · exact e
      rw [List.getElem?_set_self this]
    · rw [List.getElem?_set_ne (by omega)]; exact h.first
  · by_cases e : j = i
    · subst e; exact .inr hl
    · rw [List.getElem?_set_ne e] at hi
      exact h.led i hi
/-- the first marks: the first block alone -/
theorem seenOk_start {bs : List IrB} (h : bs ≠ []) : SeenOk bs ((List.replicate bs.length false).set 0 true) := by
  have hp : 0 < bs.length := List.length_pos_iff.2 h
  refine ⟨by simp, by rw [List.getElem?_set_self (by simpa using hp)], fun j hj => ?_⟩
  rcases Nat.eq_zero_or_pos j with e | e
  · exact .inl e
  · rw [List.getElem?_set_ne (by omega)] at hj
    rw [List.getElem?_replicate] at hj
    split at hj <;> cases hj
end Go.Proofs.YtlomdlblohnfmaaDoor

