/- A text that is cut at a token's place: blank, and all steps: plainly, no program here. -/
import Derived.Test.YtncojfcdkigmiaaDoorCut
namespace Go.Proofs.YtncojfcdkigmiaaDoor
open Go.RowKit

theorem hasPrefix_of_take {L p : List UInt8} {m : Nat} (h : Lib.hasPrefix (L.take m) p = true) : Lib.hasPrefix L p = true := prefix_of_take h
theorem hasPrefix_take {L p : List UInt8} {m : Nat} (hm : p.length ≤ m) : Lib.hasPrefix (L.take m) p = Lib.hasPrefix L p := prefix_take hm
theorem gap_stop_take {L : List UInt8} (m : Nat) (h : gap L = .stop) : gap (L.take m) = .stop := by
  match L, m, h with
  | [], _, _ => simp [gap]
  | _ :: _, 0, _ => rfl
  | c :: l, m + 1, h => by_cases h1 : spB c = true
                        · rw [gap, if_pos h1] at h; cases h
                        · rw [gap, if_neg h1] at h
                          by_cases h2 : Lib.hasPrefix (c :: l) [47, 47] = true
                          · rw [if_pos h2] at h; split at h <;> cases h
                          · rw [if_neg h2] at h
                            by_cases h3 : Lib.hasPrefix (c :: l) [47, 42] = true
                            · rw [if_pos h3] at h; split at h <;> cases h
                            · have e2 : ¬ Lib.hasPrefix ((c :: l).take (m + 1)) [47, 47] = true := fun e => h2 (hasPrefix_of_take e)
                              have e3 : ¬ Lib.hasPrefix ((c :: l).take (m + 1)) [47, 42] = true := fun e => h3 (hasPrefix_of_take e)
                              rw [List.take_succ_cons] at e2 e3 ⊢
                              rw [gap, if_neg h1, if_neg e2, if_neg e3]
theorem indexByte_take {L : List UInt8} {c : UInt8} {o m : Nat} (h : Lib.indexByte L c = o) (hm : o < m) : Lib.indexByte (L.take m) c = o := by
  obtain ⟨h1, h2⟩ := Lib.indexByte_some h
  exact indexByte_at (by rw [List.getElem?_take, if_pos hm]; exact h1) (fun k hk => by rw [List.getElem?_take, if_pos (by omega)]; exact h2 k hk)
theorem two_byte {c : UInt8} {l : List UInt8} {a b : UInt8} (h : Lib.hasPrefix (c :: l) [a, b] = true) : ∃ r, c = a ∧ l = b :: r := by
  unfold Lib.hasPrefix at h
  match l, h with
  | [], h => simp at h
  | d :: r, h => simp at h; exact ⟨r, h.1.symm, by rw [h.2]⟩
theorem index_take {L : List UInt8} {o m : Nat} (h : Lib.index L [42, 47] = o) (hm : o + 2 ≤ m) : Lib.index (L.take m) [42, 47] = o := by
  have hr := Lib.index_room L [42, 47] (by omega)
  simp only [List.length_cons, List.length_nil] at hr
  obtain ⟨ho, hb⟩ : Lib.occAt L [42, 47] o = true ∧ ∀ k, k < o → Lib.occAt L [42, 47] k = false := by
    rcases Lib.index_spec L [42, 47] with ⟨e, _⟩ | ⟨i, e, _, h1, h2⟩
    · omega
    · obtain rfl : i = o := by omega
      exact ⟨h1, h2⟩
  refine Lib.index_first (by rw [List.length_take]; omega) ?_ (fun k hk => ?_)
  · unfold Lib.occAt at ho ⊢
    rw [List.drop_take]
    exact (prefix_take (by simp; omega)).trans ho
  · have := hb k hk
    unfold Lib.occAt at this ⊢
    rw [List.drop_take]
    rw [Bool.eq_false_iff]; intro e
    have := hasPrefix_of_take (p := [42, 47]) e
    unfold Lib.hasPrefix at this
    simp_all
theorem gap_take {L : List UInt8} {n m : Nat} (h : gap L = .skip n) (hm : n ≤ m) : gap (L.take m) = .skip n := by
  have hle := gap_le h
  match L, h with
  | [], h => cases h
  | c :: l, h =>
    obtain ⟨m, rfl⟩ : ∃ k, m = k + 1 := ⟨m - 1, by omega⟩
    by_cases h1 : spB c = true
    · rw [gap, if_pos h1] at h
      rw [List.take_succ_cons, gap, if_pos h1]; exact h
    · rw [gap, if_neg h1] at h
      by_cases h2 : Lib.hasPrefix (c :: l) [47, 47] = true
      · rw [if_pos h2] at h
        obtain ⟨r, rfl, rfl⟩ := two_byte h2
        split at h
        · have : (47 : UInt8) :: 47 :: r = ((47 : UInt8) :: 47 :: r).take (m + 1) := by
            rw [List.take_of_length_le]; simp only [Gap.skip.injEq] at h; simp at h ⊢; omega
          rw [← this, gap, if_neg h1, if_pos h2, if_pos (by assumption)]; exact h
        · rename_i h3
          obtain ⟨o, ho⟩ : ∃ o : Nat, Lib.indexByte ((47 : UInt8) :: 47 :: r) 10 = o := ⟨(Lib.indexByte (47 :: 47 :: r) 10).toNat, by omega⟩
          have ho2 : 0 < o := by
            rcases Nat.eq_zero_or_pos o with rfl | h'
            · have := (Lib.indexByte_some ho).1
              simp at this
            · exact h'
          rw [ho] at h
          simp only [Gap.skip.injEq] at h
          have hi := indexByte_take (m := m + 1) ho (by omega)
          have h2' : Lib.hasPrefix (((47 : UInt8) :: 47 :: r).take (m + 1)) [47, 47] = true := by rw [hasPrefix_take (by simp; omega)]; exact h2
          rw [List.take_succ_cons] at hi h2' ⊢
          rw [gap, if_neg h1, if_pos h2', hi, if_neg (by omega), ← h]
      · rw [if_neg h2] at h
        by_cases h3 : Lib.hasPrefix (c :: l) [47, 42] = true
        · rw [if_pos h3] at h
          split at h
          · cases h
          · rename_i h4
            obtain ⟨o, ho⟩ : ∃ o : Nat, Lib.index l.tail [42, 47] = o := ⟨(Lib.index l.tail [42, 47]).toNat, by omega⟩
            rw [ho] at h
            simp only [Gap.skip.injEq] at h
            have hi := index_take (m := m - 1) ho (by omega)
            have h2' : ¬ Lib.hasPrefix ((c :: l).take (m + 1)) [47, 47] = true := fun e => h2 (hasPrefix_of_take e)
            have h3' : Lib.hasPrefix ((c :: l).take (m + 1)) [47, 42] = true := by rw [hasPrefix_take (by simp; omega)]; exact h3
            have ht : (l.take m).tail = l.tail.take (m - 1) := by
              cases l with
              | nil => simp
              | cons d r => obtain ⟨m, rfl⟩ : ∃ k, m = k + 1 := ⟨m - 1, by omega⟩
                            simp
            rw [List.take_succ_cons] at h2' h3' ⊢
            rw [gap, if_neg h1, if_neg h2', if_pos h3', ht, hi, if_neg (by omega), ← h]
        · rw [if_neg h3] at h; cases h
theorem blankF_take : ∀ (k : Nat) (L : List UInt8) (b m : Nat), L.length < k → blankF k L = (b, true) → b ≤ m → ∀ k', (L.take m).length < k' → blankF k' (L.take m) = (b, true)
  | 0, _, _, _, h, _, _, _, _ => by omega
  | k + 1, L, b, m, hk, h, hm, 0, h' => by omega
  | k + 1, L, b, m, hk, h, hm, k' + 1, h' => by
    unfold blankF at h ⊢
    rcases hg : gap L with _ | _ | n
    · rw [hg] at h; rw [gap_stop_take m hg]; exact h
    · rw [hg] at h; cases h
    · rw [hg] at h
      simp only at h
      have hle := gap_le hg
      rcases hx : blankF k (L.drop n) with ⟨b', t⟩
      rw [hx] at h
      simp only [addGap, Prod.mk.injEq] at h
      obtain ⟨rfl, rfl⟩ := h
      rw [gap_take hg (by omega)]
      simp only
      rw [List.drop_take, blankF_take k (L.drop n) b' (m - n) (by rw [List.length_drop]; omega) hx (by omega) k' (by
        rw [List.length_take, List.length_drop]; rw [List.length_take] at h'; omega)]
      rfl
theorem blankL_take {L : List UInt8} {b m : Nat} (h : blankL L = (b, true)) (hm : b ≤ m) : blankL (L.take m) = (b, true) :=
  blankF_take _ L b m (Nat.lt_succ_self _) h hm _ (Nat.lt_succ_self _)

end Go.Proofs.YtncojfcdkigmiaaDoor
