/- Tokens that are laid, with any blank behind each, are read again: plainly, no program here. -/
import Derived.Test.YtncojfcdkigmiaaDoorWords
namespace Go.Proofs.YtncojfcdkigmiaaDoor
open Go.RowKit

/-- bytes that are gone over, whatever follows -/
def Clear (B : List UInt8) : Prop := ∀ M, blankL (B ++ M) = addGap B.length (blankL M)
theorem addGap_zero (p : Nat × Bool) : addGap 0 p = p := by obtain ⟨k, b⟩ := p; simp [addGap]
theorem clear_nil : Clear [] := fun M => by rw [List.nil_append]; exact (addGap_zero _).symm
theorem Clear.append {A B : List UInt8} (ha : Clear A) (hb : Clear B) : Clear (A ++ B) := fun M => by
  rw [List.append_assoc, ha, hb, addGap_add, List.length_append]
theorem clear_one {c : UInt8} (h : spB c = true) : Clear [c] := fun M => by
  rw [List.singleton_append, blankL_skip (m := 1) (by rw [gap, if_pos h])]; rfl
theorem clear_all : ∀ B : List UInt8, (∀ c ∈ B, spB c = true) → Clear B
  | [], _ => clear_nil
  | c :: B, h => (clear_one (h c (by simp))).append (clear_all B (fun d hd => h d (by simp [hd])))
theorem clear_note : Clear [47, 42, 32, 120, 32, 42, 47, 32] := by
  have h1 : Clear [47, 42, 32, 120, 32, 42, 47] := fun M => by
    have hi : Lib.index (32 :: 120 :: 32 :: 42 :: 47 :: M) [42, 47] = (3 : Nat) := Lib.index_first (by simp) (by rfl) (fun j hj => by
      have : j = 0 ∨ j = 1 ∨ j = 2 := by omega
      rcases this with rfl | rfl | rfl <;> rfl)
    have hg : gap (47 :: 42 :: 32 :: 120 :: 32 :: 42 :: 47 :: M) = .skip 7 := by
      rw [gap, if_neg (by decide), if_neg (by simp [Lib.hasPrefix]), if_pos (by simp [Lib.hasPrefix])]
      simp [hi]
    exact blankL_skip hg
  exact h1.append (clear_one (c := 32) (by decide))

/-- tokens as they are laid, each with what stands behind it -/
def body : List (Tok × List UInt8) → List UInt8
  | [] => []
  | (t, b) :: r => wordL t ++ (b ++ body r)
def SepOk : List (Tok × List UInt8) → Prop
  | [] => True
  | (t, b) :: r => goodB t = true ∧ Clear b ∧ ((∃ x, b = 32 :: x) ∨ (b = [] ∧ r = [])) ∧ SepOk r
/-- no two texts in a row -/
def NoAdj : List Tok → Prop
  | [] => True
  | [_] => True
  | a :: b :: l => ¬ (isStr a = true ∧ isStr b = true) ∧ NoAdj (b :: l)

theorem good_size {t : Tok} (h : goodB t = true) : t.text.size ≤ 4096 := by
  unfold goodB at h
  split at h
  · unfold goodNum at h
    split at h
    · rename_i hu; rw [hu]; decide
    · rw [Bool.and_eq_true, decide_eq_true_eq] at h
      rw [h.1]; decide
  · split at h
    · cases h
    · split at h
      · have := (isName_parts h).2.1; omega
      · split at h
        · have key : ∀ x ∈ keyT, x.size ≤ 4096 := by decide
          exact key _ ((Lib.containsS_iff _ _).1 h)
        · split at h
          · exact of_decide_eq_true h
          · split at h
            · have key : ∀ x ∈ markT, x.size ≤ 4096 := by decide
              exact key _ ((Lib.containsS_iff _ _).1 h)
            · cases h
theorem let_word {c : UInt8} (h : letB c = true ∨ digB c = true) : spB c = false ∧ c.toNat ≠ 34 ∧ c.toNat ≠ 47 := by
  unfold spB
  rw [decide_eq_false_iff_not]
  rcases h with h | h
  · have := of_decide_eq_true h; omega
  · have := of_decide_eq_true h; omega
theorem hasPrefix_no {c : UInt8} {l : List UInt8} {a b : UInt8} (h : c ≠ a) : Lib.hasPrefix (c :: l) [a, b] = false := by
  have e : (a == c) = false := by rw [beq_eq_false_iff_ne]; exact h.symm
  show (a == c && [b].isPrefixOf l) = false
  rw [e]; rfl
theorem gap_other {c : UInt8} {l : List UInt8} (h : spB c = false) (h47 : c.toNat ≠ 47) : gap (c :: l) = .stop := by
  have hc : c ≠ 47 := fun e => h47 (by rw [e]; rfl)
  rw [gap, if_neg (by simp [h]), if_neg (by simp [hasPrefix_no hc]), if_neg (by simp [hasPrefix_no hc])]
/-- how a laid token begins -/
theorem word_start (t : Tok) (h : goodB t = true) {R : List UInt8} (hR : Rest R) : gap (wordL t ++ R) = .stop ∧ wordL t ≠ [] ∧ ((wordL t ++ R).head?.any (fun c => decide (c.toNat = 34)) = true → isStr t = true) := by
  have other : ∀ c l, wordL t = c :: l → spB c = false → c.toNat ≠ 47 → c.toNat ≠ 34 → gap (wordL t ++ R) = .stop ∧ wordL t ≠ [] ∧ ((wordL t ++ R).head?.any (fun c => decide (c.toNat = 34)) = true → isStr t = true) := fun c l e h1 h2 h3 => by
    rw [e]
    exact ⟨gap_other h1 h2, by simp, fun e => by simp [h3] at e⟩
  unfold goodB at h
  by_cases h3 : t.kind = 3
  · rw [if_pos h3] at h
    have hw : wordL t = numL t := by unfold wordL; rw [if_neg (by omega), if_pos h3]
    by_cases hn : t.num < 0
    · exact other 39 _ (by rw [hw, numL, if_pos hn]; rfl) (by decide) (by decide) (by decide)
    · obtain ⟨m, hm⟩ : ∃ m : Nat, t.num = m := ⟨t.num.toNat, by omega⟩
      have hI : Lib.itoa t.num = Lib.decDigits m := by rw [hm]; unfold Lib.itoa; rw [if_neg (by omega)]; simp
      obtain ⟨c, l, hc, _⟩ := dec_head m
      have hd := (dec_all m c (by rw [hc]; simp)).1
      obtain ⟨e1, e2, e3⟩ := let_word (.inr hd)
      have hw2 : ∃ l', wordL t = c :: l' := by
        rw [hw, numL, if_neg hn, hI, hc]
        split <;> exact ⟨_, rfl⟩
      obtain ⟨l', hl'⟩ := hw2
      exact other c l' hl' e1 e3 e2
  · rw [if_neg h3] at h
    by_cases h0 : t.num = 0
    · rw [if_neg (by simpa using h0)] at h
      by_cases h1 : t.kind = 1
      · rw [if_pos h1] at h
        obtain ⟨_, _, ⟨c, l, hx, hc⟩, _, _⟩ := isName_parts h
        obtain ⟨e1, e2, e3⟩ := let_word (.inl hc)
        exact other c l (by unfold wordL; rw [if_neg (by omega), if_neg (by omega)]; exact hx) e1 e3 e2
      · rw [if_neg h1] at h
        by_cases h2 : t.kind = 2
        · rw [if_pos h2] at h
          obtain ⟨k1, _⟩ := keyT_word _ ((Lib.containsS_iff _ _).1 h)
          rcases hx : t.text.data.toList with _ | ⟨c, l⟩
          · rw [hx] at k1; simp at k1
          · rw [hx] at k1
            obtain ⟨e1, e2, e3⟩ := let_word (c := c) (.inl (by simpa using k1))
            exact other c l (by unfold wordL; rw [if_neg (by omega), if_neg (by omega)]; exact hx) e1 e3 e2
        · rw [if_neg h2] at h
          by_cases h4 : t.kind = 4
          · have hw : wordL t = 34 :: (midL t.text.data.toList ++ [34]) := by unfold wordL; rw [if_pos h4]; rfl
            rw [hw]
            exact ⟨gap_other (by decide) (by decide), by simp, fun _ => by simp [isStr, h4]⟩
          · rw [if_neg h4] at h
            by_cases h5 : t.kind = 5
            · rw [if_pos h5] at h
              have hw : wordL t = t.text.data.toList := by unfold wordL; rw [if_neg h4, if_neg h3]
              have hm := (Lib.containsS_iff _ _).1 h
              have key : ∀ x ∈ markT, (x.data.toList.head?.any fun c => !spB c && decide (c.toNat ≠ 34)) = true ∧ Lib.hasPrefix x.data.toList [47, 47] = false ∧ Lib.hasPrefix x.data.toList [47, 42] = false := by decide
              obtain ⟨k1, k2, k3⟩ := key _ hm
              have p2 : Lib.hasPrefix (t.text.data.toList ++ R) [47, 47] = false := by
                have := prefix_rest (p := [47, 47]) (l := t.text.data.toList) (by decide) hR
                exact this.trans k2
              have p3 : Lib.hasPrefix (t.text.data.toList ++ R) [47, 42] = false := by
                have := prefix_rest (p := [47, 42]) (l := t.text.data.toList) (by decide) hR
                exact this.trans k3
              rw [hw]
              rcases hx : t.text.data.toList with _ | ⟨c, l⟩
              · rw [hx] at k1; simp at k1
              · rw [hx] at k1 p2 p3
                simp only [List.head?_cons, Option.any_some, Bool.and_eq_true, Bool.not_eq_true', decide_eq_true_eq] at k1
                rw [List.cons_append] at p2 p3 ⊢
                refine ⟨by rw [gap, if_neg (by simp [k1.1]), if_neg (by simp [p2]), if_neg (by simp [p3])], by simp, fun e => ?_⟩
                simp [k1.2] at e
            · rw [if_neg h5] at h; cases h
    · rw [if_pos h0] at h; cases h

theorem sep_rest {b : List UInt8} {r : List (Tok × List UInt8)} (h : (∃ x, b = 32 :: x) ∨ (b = [] ∧ r = [])) : Rest (b ++ body r) := by
  rcases h with ⟨x, rfl⟩ | ⟨rfl, rfl⟩
  · exact .inr ⟨_, rfl⟩
  · exact .inl rfl
theorem joins_last {M : List UInt8} {out : List Tok} {t : Tok} (hn : NoAdj (out ++ [t])) (hm : M.head?.any (fun c => decide (c.toNat = 34)) = true → isStr t = true) : joins M out = false := by
  rw [Bool.eq_false_iff]
  intro e
  unfold joins at e
  rw [Bool.and_eq_true] at e
  have ht := hm e.1
  rcases hl : out.getLast? with _ | a
  · rw [hl] at e; simp at e
  · rw [hl] at e
    have ha : isStr a = true := by simpa using e.2
    have key : ∀ (l : List Tok), l.getLast? = some a → NoAdj (l ++ [t]) → False := by
      intro l
      induction l with
      | nil => intro h; simp at h
      | cons x l ih =>
        intro h hn
        match l, h, hn, ih with
        | [], h, hn, _ =>
          obtain rfl : x = a := by simpa using h
          exact hn.1 ⟨ha, ht⟩
        | y :: l, h, hn, ih => exact ih (by simpa using h) hn.2
    exact key out hl hn
theorem noAdj_left : ∀ {l m : List Tok}, NoAdj (l ++ m) → NoAdj l
  | [], _, _ => trivial
  | [_], _, _ => trivial
  | _ :: b :: l, m, h => ⟨h.1, noAdj_left (l := b :: l) (m := m) h.2⟩
theorem noAdj_kind : ∀ {l l' : List Tok}, l.map isStr = l'.map isStr → NoAdj l → NoAdj l'
  | [], [], _, _ => trivial
  | [_], [_], _, _ => trivial
  | _ :: b :: l, _ :: b' :: l', h, hn => by
    simp only [List.map_cons, List.cons.injEq] at h
    exact ⟨by rw [← h.1, ← h.2.1]; exact hn.1, noAdj_kind (l := b :: l) (l' := b' :: l') (by simp [h.2.1, h.2.2]) hn.2⟩
  | [], _ :: _, h, _ => by simp at h
  | _ :: _, [], h, _ => by simp at h
  | [_], _ :: _ :: _, h, _ => by simp at h
  | _ :: _ :: _, [_], h, _ => by simp at h

/-- all tokens of what is laid so -/
theorem tokL_body : ∀ (r : List (Tok × List UInt8)) (B : List UInt8) (k : Nat) (out : List Tok), SepOk r → Clear B → NoAdj (out ++ r.map (·.1)) → out.length + r.length ≤ 16384 →
    ∃ K, tokL k (B ++ body r) out = .good (out ++ K) ∧ K.map unp = (r.map (·.1)).map unp
  | [], B, k, out, _, hB, _, _ => by
    have hb : blankL (B ++ body []) = (B.length, true) := by rw [body, hB]; rfl
    exact ⟨[], by rw [List.append_nil]; exact tokL_done (step_end hb (by simp [body])), rfl⟩
  | (t, b) :: r, B, k, out, ⟨hg, hb, hs, hr⟩, hB, hn, hl => by
    have hR := sep_rest hs
    obtain ⟨w1, w2, w3⟩ := word_start t hg hR
    have hbl : blankL (B ++ body ((t, b) :: r)) = (B.length, true) := by
      rw [body, hB, blankL_stop w1]; rfl
    have hd : (B ++ body ((t, b) :: r)).drop B.length = wordL t ++ (b ++ body r) := by rw [List.drop_left]; rfl
    have hj : joins (wordL t ++ (b ++ body r)) out = false := by
      refine joins_last (t := t) (noAdj_left (m := r.map (·.1)) ?_) w3
      simpa using hn
    have ho := one_word t hg hR
    have hstep := step_mk (k := k) (out := out) hbl (by rw [hd]; simp [w2]) (by rw [hd]; simp at hl ⊢; intro _; omega) (by rw [hd]; exact ho) (by
      rw [hd, put_new hj]
      intro x hx
      obtain rfl : { unp t with place := ((k + B.length : Nat) : Int) } = x := by simpa using hx
      exact good_size hg)
    rw [hd, put_new hj] at hstep
    have hdrop : (B ++ body ((t, b) :: r)).drop (B.length + (wordL t).length) = b ++ body r := by
      rw [← List.drop_drop, hd, List.drop_left]
    obtain ⟨K, hK, hu⟩ := tokL_body r b (k + (B.length + (wordL t).length)) (out ++ [{ unp t with place := ((k + B.length : Nat) : Int) }]) hr hb (noAdj_kind (l := out ++ t :: r.map (·.1)) (by simp [unp, isStr]) hn) (by simp at hl ⊢; omega)
    refine ⟨{ unp t with place := ((k + B.length : Nat) : Int) } :: K, ?_, ?_⟩
    · rw [tokL_more hstep, hdrop, hK]; simp
    · simp only [List.map_cons, hu]; rfl

end Go.Proofs.YtncojfcdkigmiaaDoor
