/- A text that is cut at a token's place: plainly, no program here. -/
import Derived.Test.YtncojfcdkigmiaaDoorLex
namespace Go.Proofs.YtncojfcdkigmiaaDoor
open Go.RowKit

theorem wlen_take : ∀ (L : List UInt8) (m : Nat), wlen L ≤ m → wlen (L.take m) = wlen L
  | [], m, _ => by simp
  | c :: l, 0, h => by
    by_cases hc : wordB c = true
    · rw [wlen, if_pos hc] at h; omega
    · rw [List.take_zero]
      rw [wlen, wlen, if_neg hc]
  | c :: l, m + 1, h => by
    rw [List.take_succ_cons]
    by_cases hc : wordB c = true
    · rw [wlen, if_pos hc] at h
      rw [wlen, wlen, if_pos hc, if_pos hc, wlen_take l m (by omega)]
    · rw [wlen, wlen, if_neg hc, if_neg hc]
theorem take_take_le {L : List UInt8} {n m : Nat} (h : n ≤ m) : (L.take m).take n = L.take n := by rw [List.take_take, Nat.min_eq_left h]

theorem wordE_take {L : List UInt8} {t : Tok} {n m : Nat} (h : wordE L = .good t n) (hm : n ≤ m) : wordE (L.take m) = .good t n := by
  have hw : n = wlen L := by
    unfold wordE at h
    repeat' split at h
    all_goals first
      | (cases h; done)
      | (exact (OEnd.good.inj h).2.symm)
  subst hw
  unfold wordE at h ⊢
  rw [wlen_take L m hm, take_take_le hm]; exact h
theorem numE_take {L : List UInt8} {t : Tok} {n m : Nat} (h : numE L = .good t n) (hm : n ≤ m) : numE (L.take m) = .good t n := by
  have hw : n = wlen L := by
    unfold numE at h
    split at h
    · cases h
    · exact (OEnd.good.inj h).2.symm
  subst hw
  unfold numE at h ⊢
  rw [wlen_take L m hm, take_take_le hm]; exact h

theorem pieceL_take {L : List UInt8} {b : UInt8} {n m : Nat} (h : pieceL L = some (b, n)) (hm : n ≤ m) : pieceL (L.take m) = some (b, n) := by
  have h0 := pieceL_le h
  obtain ⟨c, l, rfl⟩ : ∃ c l, L = c :: l := by
    cases L with
    | nil => simp at h0; omega
    | cons c l => exact ⟨c, l, rfl⟩
  obtain ⟨m, rfl⟩ : ∃ k, m = k + 1 := ⟨m - 1, by omega⟩
  rw [List.take_succ_cons]
  rw [pieceL.eq_def] at h ⊢
  simp only at h ⊢
  split
  · rename_i h1; rw [if_pos h1] at h; exact h
  · rename_i h1
    rw [if_neg h1] at h
    split
    · rename_i h2; rw [if_pos h2] at h; exact h
    · rename_i h2
      rw [if_neg h2] at h
      match l, h with
      | [], h => cases h
      | d :: r, h =>
        have hn : 2 ≤ n := by
          simp only at h
          repeat' split at h
          all_goals first
            | (cases h; done)
            | (simp only [Option.some.injEq, Prod.mk.injEq] at h; omega)
        obtain ⟨m, rfl⟩ : ∃ k, m = k + 1 := ⟨m - 1, by omega⟩
        rw [List.take_succ_cons]
        simp only at h ⊢
        split
        · rename_i e; rw [if_pos e] at h; exact h
        · rename_i e1
          rw [if_neg e1] at h
          split
          · rename_i e; rw [if_pos e] at h; exact h
          · rename_i e2
            rw [if_neg e2] at h
            split
            · rename_i e; rw [if_pos e] at h; exact h
            · rename_i e3
              rw [if_neg e3] at h
              split
              · rename_i e
                rw [if_pos e] at h
                match r, h with
                | [], h => simpa using h
                | x :: r, h =>
                  cases m with
                  | zero =>
                    simp only at h
                    split at h
                    · cases h
                    · simpa using h
                  | succ m => rw [List.take_succ_cons]; exact h
              · rename_i e4
                rw [if_neg e4] at h
                split
                · rename_i e; rw [if_pos e] at h; exact h
                · rename_i e5
                  rw [if_neg e5] at h
                  split
                  · rename_i e
                    rw [if_pos e] at h
                    match r, h with
                    | [], h => cases h
                    | [x], h => cases h
                    | x :: y :: r, h =>
                      have hn4 : n = 4 := by
                        simp only at h
                        split at h
                        · simp only [Option.some.injEq, Prod.mk.injEq] at h; omega
                        · cases h
                      subst hn4
                      obtain ⟨m, rfl⟩ : ∃ k, m = k + 2 := ⟨m - 2, by omega⟩
                      rw [List.take_succ_cons, List.take_succ_cons]; exact h
                  · rename_i e; rw [if_neg e] at h; cases h

theorem consQ_good {b : UInt8} {m n : Nat} {x : QEnd} {l : List UInt8} (h : consQ b m x = .good l n) : ∃ l' n', x = .good l' n' ∧ l = b :: l' ∧ n = m + n' := by
  cases x with
  | good l' n' =>
    simp only [consQ, QEnd.good.injEq] at h
    exact ⟨l', n', rfl, h.1.symm, h.2.symm⟩
  | bad e => cases h
theorem quotedL_le (q : UInt8) : ∀ (k : Nat) (L : List UInt8), L.length ≤ k → ∀ {l : List UInt8} {n : Nat}, quotedL q L = .good l n → 0 < n ∧ n ≤ L.length
  | k, [], _, l, n, h => by rw [quotedL_nil] at h; cases h
  | 0, c :: r, hk, _, _, _ => by simp at hk
  | k + 1, c :: r, hk, l, n, h => by
    rw [quotedL_cons] at h
    split at h
    · simp only [QEnd.good.injEq] at h; simp; omega
    · split at h
      · cases h
      · split at h
        · cases h
        · rename_i b j hp
          have hj := pieceL_le hp
          obtain ⟨l', n', h1, _, h3⟩ := consQ_good h
          have := quotedL_le q k ((c :: r).drop j) (by rw [List.length_drop]; simp at hk ⊢; omega) h1
          rw [List.length_drop] at this
          omega
theorem quotedL_take (q : UInt8) : ∀ (k : Nat) (L : List UInt8), L.length ≤ k → ∀ {l : List UInt8} {n m : Nat}, quotedL q L = .good l n → n ≤ m → quotedL q (L.take m) = .good l n
  | k, [], _, l, n, m, h, _ => by rw [quotedL_nil] at h; cases h
  | 0, c :: r, hk, _, _, _, _, _ => by simp at hk
  | k + 1, c :: r, hk, l, n, m, h, hm => by
    have hle := quotedL_le q _ _ (Nat.le_refl _) h
    obtain ⟨m, rfl⟩ : ∃ k, m = k + 1 := ⟨m - 1, by omega⟩
    rw [quotedL_cons] at h
    rw [List.take_succ_cons, quotedL_cons]
    split
    · rename_i e; rw [if_pos e] at h; exact h
    · rename_i e1
      rw [if_neg e1] at h
      split
      · rename_i e; rw [if_pos e] at h; exact h
      · rename_i e2
        rw [if_neg e2] at h
        rcases hp : pieceL (c :: r) with _ | ⟨b, j⟩
        · rw [hp] at h; cases h
        · rw [hp] at h
          simp only at h
          have hj := pieceL_le hp
          obtain ⟨l', n', h1, h2, h3⟩ := consQ_good h
          have hp' := pieceL_take (m := m + 1) hp (by omega)
          rw [List.take_succ_cons] at hp'
          rw [hp']
          simp only
          have ih := quotedL_take q k ((c :: r).drop j) (by rw [List.length_drop]; simp at hk ⊢; omega) (m := m + 1 - j) h1 (by omega)
          rw [← List.take_succ_cons, List.drop_take, ih, h2, h3]; rfl

theorem charE_good {x : QEnd} {t : Tok} {n : Nat} (h : charE x = .good t n) : ∃ b j, x = .good [b] j ∧ n = j + 1 ∧ t = ⟨3, 0, sgn b, ⟨#[]⟩⟩ := by
  match x, h with
  | .bad e, h => cases h
  | .good [] _, h => cases h
  | .good [b] j, h => simp only [charE, OEnd.good.injEq] at h; exact ⟨b, j, rfl, h.2.symm, h.1.symm⟩
  | .good (_ :: _ :: _) _, h => cases h
theorem strE_good {x : QEnd} {t : Tok} {n : Nat} (h : strE x = .good t n) : ∃ l j, x = .good l j ∧ n = j + 1 ∧ t = ⟨4, 0, 0, strOf l⟩ := by
  match x, h with
  | .bad e, h => cases h
  | .good l j, h => simp only [strE, OEnd.good.injEq] at h; exact ⟨l, j, rfl, h.2.symm, h.1.symm⟩

theorem prefix_take {p L : List UInt8} {m : Nat} (hm : p.length ≤ m) : p.isPrefixOf (L.take m) = p.isPrefixOf L := by
  rw [Bool.eq_iff_iff, List.isPrefixOf_iff_prefix, List.isPrefixOf_iff_prefix, List.prefix_take_iff]
  exact ⟨fun h => h.1, fun h => ⟨h, hm⟩⟩
theorem prefix_of_take {p L : List UInt8} {m : Nat} (h : p.isPrefixOf (L.take m) = true) : p.isPrefixOf L = true := by
  rw [List.isPrefixOf_iff_prefix, List.prefix_take_iff] at h
  rw [List.isPrefixOf_iff_prefix]; exact h.1
theorem find_take (T : List ByteArray) {L : List UInt8} {x : ByteArray} {m : Nat} (h : T.find? (fun p => p.data.toList.isPrefixOf L) = some x) (hm : x.data.toList.length ≤ m) : T.find? (fun p => p.data.toList.isPrefixOf (L.take m)) = some x := by
  induction T with
  | nil => simp at h
  | cons y T ih =>
    rw [List.find?_cons] at h ⊢
    rcases hy : y.data.toList.isPrefixOf L with _ | _
    · rw [hy] at h
      have : y.data.toList.isPrefixOf (L.take m) = false := by
        rw [Bool.eq_false_iff]; intro e; rw [prefix_of_take e] at hy; cases hy
      rw [this]; exact ih h
    · rw [hy] at h
      simp only [Option.some.injEq] at h
      subst h
      rw [prefix_take hm, hy]
theorem markE_take {L : List UInt8} {t : Tok} {n m : Nat} (h : markE L = .good t n) (hm : n ≤ m) : markE (L.take m) = .good t n := by
  unfold markE at h ⊢
  rcases hf : markT.find? (fun m => m.data.toList.isPrefixOf L) with _ | x
  · rw [hf] at h; cases h
  · rw [hf] at h
    simp only [OEnd.good.injEq] at h
    rw [find_take markT hf (by rw [Array.length_toList]; show x.size ≤ m; omega)]
    simp only [OEnd.good.injEq]; exact h

theorem wlen_pos {c : UInt8} {l : List UInt8} (h : wordB c = true) : 0 < wlen (c :: l) := by rw [wlen, if_pos h]; omega
theorem markT_pos : ∀ x ∈ markT, 0 < x.size := by decide
theorem oneL_le {L : List UInt8} {t : Tok} {n : Nat} (h : oneL L = .good t n) : 0 < n ∧ n ≤ L.length := by
  match L, h with
  | [], h => cases h
  | c :: l, h =>
    rw [oneL] at h
    split at h
    · rename_i hc
      have h1 : 0 < wlen (c :: l) := wlen_pos (by simp [wordB, hc])
      have h2 := wlen_le (c :: l)
      unfold wordE at h
      repeat' split at h
      all_goals first
        | (cases h; done)
        | (have := (OEnd.good.inj h).2; omega)
    · split at h
      · rename_i hc
        have h1 : 0 < wlen (c :: l) := wlen_pos (by simp [wordB, hc])
        have h2 := wlen_le (c :: l)
        unfold numE at h
        split at h
        · cases h
        · have := (OEnd.good.inj h).2; omega
      · split at h
        · obtain ⟨b, j, h1, h2, _⟩ := charE_good h
          have := quotedL_le 39 _ _ (Nat.le_refl _) h1
          simp; omega
        · split at h
          · obtain ⟨b, j, h1, h2, _⟩ := strE_good h
            have := quotedL_le 34 _ _ (Nat.le_refl _) h1
            simp; omega
          · unfold markE at h
            rcases hf : markT.find? (fun m => m.data.toList.isPrefixOf (c :: l)) with _ | x
            · rw [hf] at h; cases h
            · rw [hf] at h
              simp only [OEnd.good.injEq] at h
              have h1 := markT_pos x (List.mem_of_find?_eq_some hf)
              have h2 := List.find?_some hf
              rw [List.isPrefixOf_iff_prefix] at h2
              have h3 := h2.length_le
              rw [Array.length_toList] at h3
              have h4 : x.size ≤ (c :: l).length := h3
              omega
theorem oneL_take {L : List UInt8} {t : Tok} {n m : Nat} (h : oneL L = .good t n) (hm : n ≤ m) : oneL (L.take m) = .good t n := by
  have hle := oneL_le h
  match L, h with
  | [], h => cases h
  | c :: l, h =>
    obtain ⟨m, rfl⟩ : ∃ k, m = k + 1 := ⟨m - 1, by omega⟩
    rw [oneL] at h
    rw [List.take_succ_cons, oneL]
    split
    · rename_i e; rw [if_pos e] at h; rw [← List.take_succ_cons]; exact wordE_take h hm
    · rename_i e1
      rw [if_neg e1] at h
      split
      · rename_i e; rw [if_pos e] at h; rw [← List.take_succ_cons]; exact numE_take h hm
      · rename_i e2
        rw [if_neg e2] at h
        split
        · rename_i e
          rw [if_pos e] at h
          obtain ⟨b, j, h1, h2, h3⟩ := charE_good h
          rw [quotedL_take 39 _ _ (Nat.le_refl _) (m := m) h1 (by omega), h3, h2]; rfl
        · rename_i e3
          rw [if_neg e3] at h
          split
          · rename_i e
            rw [if_pos e] at h
            obtain ⟨b, j, h1, h2, h3⟩ := strE_good h
            rw [quotedL_take 34 _ _ (Nat.le_refl _) (m := m) h1 (by omega), h3, h2]; rfl
          · rename_i e
            rw [if_neg e] at h
            rw [← List.take_succ_cons]; exact markE_take h hm

end Go.Proofs.YtncojfcdkigmiaaDoor
