/- All steps of a text: plainly, no program here. -/
import Derived.Test.YtncojfcdkigmiaaDoorCut2
namespace Go.Proofs.YtncojfcdkigmiaaDoor
open Go.RowKit

theorem joins_none (M : List UInt8) : joins M [] = false := by simp [joins]
theorem endStep_more {n m : Nat} {out out' : List Tok} (h : endStep n out = .more m out') : m = n ∧ out' = out ∧ ∀ t, out.getLast? = some t → t.text.size ≤ 4096 := by
  unfold endStep at h
  split at h
  · rename_i e; cases h; exact ⟨rfl, rfl, fun t ht => by rw [e] at ht; cases ht⟩
  · rename_i t e
    split at h
    · cases h
    · rename_i h1; cases h; exact ⟨rfl, rfl, fun u hu => by rw [e] at hu; cases hu; omega⟩
theorem endStep_mk {n : Nat} {out : List Tok} (h : ∀ t, out.getLast? = some t → t.text.size ≤ 4096) : endStep n out = .more n out := by
  unfold endStep
  split
  · rfl
  · rename_i t e
    rw [if_neg (by have := h t e; omega)]
theorem endStep_bad {n : Nat} {out : List Tok} {e : TEnd} (h : endStep n out = .done e) : ∃ t, out.getLast? = some t ∧ 4096 < t.text.size ∧ e = .bad t.place.toNat 3 := by
  unfold endStep at h
  split at h
  · cases h
  · rename_i t e'
    split at h
    · rename_i h1; cases h; exact ⟨t, e', h1, rfl⟩
    · cases h

theorem step_more {k n : Nat} {M : List UInt8} {out out' : List Tok} (h : tokStep k M out = .more n out') :
    ∃ b t j, blankL M = (b, true) ∧ M.drop b ≠ [] ∧ ¬ (joins (M.drop b) out = false ∧ 16384 ≤ out.length) ∧ oneL (M.drop b) = .good t j ∧ n = b + j ∧ out' = putTok (M.drop b) (k + b) out t ∧ ∀ x, out'.getLast? = some x → x.text.size ≤ 4096 := by
  unfold tokStep at h
  split at h
  · cases h
  · rename_i b hb
    split at h
    · cases h
    · rename_i h1
      split at h
      · cases h
      · rename_i h2
        split at h
        · cases h
        · rename_i t j ho
          obtain ⟨e1, e2, e3⟩ := endStep_more h
          exact ⟨b, t, j, hb, h1, h2, ho, e1, e2, by rw [e2]; exact e3⟩
theorem step_mk {k b j : Nat} {M : List UInt8} {out : List Tok} {t : Tok} (hb : blankL M = (b, true)) (h1 : M.drop b ≠ []) (h2 : ¬ (joins (M.drop b) out = false ∧ 16384 ≤ out.length)) (ho : oneL (M.drop b) = .good t j)
    (he : ∀ x, (putTok (M.drop b) (k + b) out t).getLast? = some x → x.text.size ≤ 4096) : tokStep k M out = .more (b + j) (putTok (M.drop b) (k + b) out t) := by
  unfold tokStep
  rw [hb]
  simp only
  rw [if_neg h1, if_neg h2, ho]
  exact endStep_mk he
theorem step_good {k : Nat} {M : List UInt8} {out L : List Tok} (h : tokStep k M out = .done (.good L)) : ∃ b, blankL M = (b, true) ∧ M.drop b = [] ∧ L = out := by
  unfold tokStep at h
  split at h
  · cases h
  · rename_i b hb
    split at h
    · rename_i h1; cases h; exact ⟨b, hb, h1, rfl⟩
    · split at h
      · cases h
      · split at h
        · cases h
        · obtain ⟨t, _, _, e⟩ := endStep_bad h
          cases e
theorem step_end {k b : Nat} {M : List UInt8} {out : List Tok} (hb : blankL M = (b, true)) (h1 : M.drop b = []) : tokStep k M out = .done (.good out) := by
  unfold tokStep
  rw [hb]
  simp only
  rw [if_pos h1]
theorem step_pos {k n : Nat} {M : List UInt8} {out out' : List Tok} (h : tokStep k M out = .more n out') : 0 < n ∧ n ≤ M.length := by
  obtain ⟨b, t, j, hb, _, _, ho, rfl, _⟩ := step_more h
  have := oneL_le ho
  have h2 := (blankL_ends M).1
  rw [hb] at h2
  rw [List.length_drop] at this
  simp only at h2
  omega

theorem tokF_eq : ∀ (n n' k : Nat) (M : List UInt8) (out : List Tok), M.length < n → M.length < n' → tokF n k M out = tokF n' k M out
  | 0, _, _, _, _, h, _ => by omega
  | _ + 1, 0, _, _, _, _, h => by omega
  | n + 1, n' + 1, k, M, out, h, h' => by
    unfold tokF
    rcases hs : tokStep k M out with e | ⟨m, out'⟩
    · rfl
    · have := step_pos hs
      simp only
      exact tokF_eq n n' _ _ _ (by rw [List.length_drop]; omega) (by rw [List.length_drop]; omega)
/-- all tokens from a place on -/
def tokL (k : Nat) (M : List UInt8) (out : List Tok) : TEnd := tokF (M.length + 1) k M out
theorem tokL_done {k : Nat} {M : List UInt8} {out : List Tok} {e : TEnd} (h : tokStep k M out = .done e) : tokL k M out = e := by unfold tokL tokF; rw [h]
theorem tokL_more {k n : Nat} {M : List UInt8} {out out' : List Tok} (h : tokStep k M out = .more n out') : tokL k M out = tokL (k + n) (M.drop n) out' := by
  have := step_pos h
  unfold tokL
  conv => lhs; unfold tokF
  rw [h]
  exact tokF_eq _ _ _ _ _ (by rw [List.length_drop]; omega) (by rw [List.length_drop]; omega)
theorem tokE_L {s : ByteArray} (h : s.size ≤ 65536) : tokE s = tokL 0 s.data.toList [] := by
  unfold tokE tokL
  rw [if_neg (by omega), Array.length_toList]; rfl

/-- induction over the steps of a text -/
theorem tokL_ind {P : Nat → List UInt8 → List Tok → TEnd → Prop} (hd : ∀ k M out e, tokStep k M out = .done e → P k M out e) (hm : ∀ k M out n out', tokStep k M out = .more n out' → P (k + n) (M.drop n) out' (tokL (k + n) (M.drop n) out') → P k M out (tokL (k + n) (M.drop n) out')) :
    ∀ k M out, P k M out (tokL k M out) := by
  have key : ∀ n k M out, M.length ≤ n → P k M out (tokL k M out) := by
    intro n
    induction n with
    | zero =>
      intro k M out hn
      rcases hs : tokStep k M out with e | ⟨m, out'⟩
      · rw [tokL_done hs]; exact hd _ _ _ _ hs
      · have := step_pos hs; omega
    | succ n ih =>
      intro k M out hn
      rcases hs : tokStep k M out with e | ⟨m, out'⟩
      · rw [tokL_done hs]; exact hd _ _ _ _ hs
      · have := step_pos hs
        rw [tokL_more hs]
        exact hm _ _ _ _ _ hs (ih _ _ _ (by rw [List.length_drop]; omega))
  exact fun k M out => key M.length k M out (Nat.le_refl _)

theorem glue_snoc (o : List Tok) (t : Tok) (x : ByteArray) : glue (o ++ [t]) x = o ++ [{ t with text := t.text ++ x }] := by simp [glue]
theorem joins_snoc (M : List UInt8) (o : List Tok) (t : Tok) : joins M (o ++ [t]) = (M.head?.any (fun c => decide (c.toNat = 34)) && isStr t) := by simp [joins]
theorem snoc_of {o : List Tok} (h : o ≠ []) : ∃ p t, o = p ++ [t] := ⟨o.dropLast, o.getLast h, (List.dropLast_concat_getLast h).symm⟩
theorem joins_ne {M : List UInt8} {o : List Tok} (h : joins M o = true) : o ≠ [] := by rintro rfl; rw [joins_none] at h; cases h
theorem put_joins {M : List UInt8} {p : Nat} {o : List Tok} {t : Tok} (h : joins M o = true) : putTok M p o t = glue o t.text := by rw [putTok, if_pos h]
theorem put_new {M : List UInt8} {p : Nat} {o : List Tok} {t : Tok} (h : joins M o = false) : putTok M p o t = o ++ [{ t with place := p }] := by rw [putTok, if_neg (by simp [h])]

theorem tokL_shape : ∀ k M out L, tokL k M out = .good L → ∀ o t, out = o ++ [t] → ∃ x R, L = o ++ { t with text := x } :: R := by
  have key := tokL_ind (P := fun _ _ out e => ∀ L, e = .good L → ∀ o t, out = o ++ [t] → ∃ x R, L = o ++ { t with text := x } :: R) ?_ ?_
  · exact fun k M out L h => key k M out L h
  · intro k M out e h L he o t ho
    subst he
    obtain ⟨_, _, _, rfl⟩ := step_good h
    exact ⟨t.text, [], ho⟩
  · intro k M out n out' h ih L he o t ho
    obtain ⟨b, t', j, _, _, _, _, _, hp, _⟩ := step_more h
    rcases hj : joins (M.drop b) out with _ | _
    · rw [put_new hj] at hp
      obtain ⟨x, R, hL⟩ := ih L he _ _ hp
      exact ⟨t.text, { t' with place := ((k + b : Nat) : Int), text := x } :: R, by rw [hL, ho]; simp⟩
    · rw [put_joins hj, ho, glue_snoc] at hp
      obtain ⟨x, R, hL⟩ := ih L he _ _ hp
      exact ⟨x, R, hL⟩

def unp (t : Tok) : Tok := { t with place := 0 }
theorem unp_last {o o' : List Tok} (h : o.map unp = o'.map unp) : (o.getLast?.any isStr) = (o'.getLast?.any isStr) := by
  have h1 : (o.map unp).getLast?.any isStr = (o'.map unp).getLast?.any isStr := by rw [h]
  rw [List.getLast?_map, List.getLast?_map] at h1
  have e : ∀ x : Option Tok, (x.map unp).any isStr = x.any isStr := fun x => by cases x <;> rfl
  rwa [e, e] at h1
theorem joins_unp (M : List UInt8) {o o' : List Tok} (h : o.map unp = o'.map unp) : joins M o = joins M o' := by rw [joins, joins, unp_last h]
theorem joins_pre (M : List UInt8) (pre : List Tok) {o : List Tok} (h : o ≠ []) : joins M (pre ++ o) = joins M o := by
  obtain ⟨p, t, rfl⟩ := snoc_of h
  rw [← List.append_assoc, joins_snoc, joins_snoc]
theorem glue_unp {o o' : List Tok} (x : ByteArray) (h : o.map unp = o'.map unp) : (glue o x).map unp = (glue o' x).map unp := by
  by_cases h0 : o = []
  · subst h0
    have : o' = [] := by simpa using h.symm
    rw [this]
  · have h0' : o' ≠ [] := by rintro rfl; simp at h; exact h0 h
    obtain ⟨p, t, rfl⟩ := snoc_of h0
    obtain ⟨p', t', rfl⟩ := snoc_of h0'
    rw [List.map_append, List.map_append] at h
    obtain ⟨h1, h2⟩ := List.append_inj' h rfl
    rw [glue_snoc, glue_snoc, List.map_append, List.map_append, h1]
    simp only [List.map_cons, List.map_nil, List.cons.injEq, and_true, unp, Tok.mk.injEq] at h2 ⊢
    simp [h2]
theorem glue_pre (pre : List Tok) {o : List Tok} (x : ByteArray) (h : o ≠ []) : glue (pre ++ o) x = pre ++ glue o x := by
  obtain ⟨p, t, rfl⟩ := snoc_of h
  rw [← List.append_assoc, glue_snoc, glue_snoc, List.append_assoc]
theorem glue_ne {o : List Tok} (x : ByteArray) (h : o ≠ []) : glue o x ≠ [] := by
  obtain ⟨p, t, rfl⟩ := snoc_of h
  rw [glue_snoc]; simp
theorem last_unp (pre : List Tok) {o o' : List Tok} (h : o'.map unp = o.map unp) (hs : ∀ x, (pre ++ o).getLast? = some x → x.text.size ≤ 4096) : ∀ x, o'.getLast? = some x → x.text.size ≤ 4096 := by
  intro x hx
  have h0' : o' ≠ [] := by rintro rfl; simp at hx
  have h0 : o ≠ [] := by rintro rfl; simp at h; exact h0' h
  obtain ⟨p, t, rfl⟩ := snoc_of h0
  obtain ⟨p', t', rfl⟩ := snoc_of h0'
  rw [List.map_append, List.map_append] at h
  obtain ⟨_, h2⟩ := List.append_inj' h rfl
  simp only [List.map_cons, List.map_nil, List.cons.injEq, and_true, unp, Tok.mk.injEq] at h2
  have h3 := hs t (by simp)
  have h4 : t' = x := by simpa using hx
  subst h4
  rw [h2.2.2.2]; exact h3

/-- the same text told at another place, behind other tokens -/
theorem tokL_shift : ∀ k M out L, tokL k M out = .good L → ∀ pre o k' o', out = pre ++ o → o ≠ [] → o'.map unp = o.map unp → ∃ L', tokL k' M o' = .good L' ∧ L'.map unp = (L.drop pre.length).map unp := by
  have key := tokL_ind (P := fun _ M out e => ∀ L, e = .good L → ∀ pre o k' o', out = pre ++ o → o ≠ [] → o'.map unp = o.map unp → ∃ L', tokL k' M o' = .good L' ∧ L'.map unp = (L.drop pre.length).map unp) ?_ ?_
  · exact fun k M out L h => key k M out L h
  · intro k M out e h L he pre o k' o' ho _ hu
    subst he
    obtain ⟨b, hb, h1, rfl⟩ := step_good h
    exact ⟨o', tokL_done (step_end hb h1), by rw [hu, ho]; simp⟩
  · intro k M out n out' h ih L he pre o k' o' ho hne hu
    obtain ⟨b, t', j, hb, h1, h2, ho1, rfl, hp, hs⟩ := step_more h
    subst ho
    have hl : o'.length = o.length := by have := congrArg List.length hu; simpa using this
    have hj' : joins (M.drop b) o' = joins (M.drop b) o := joins_unp _ hu
    have h2' : ¬ (joins (M.drop b) o' = false ∧ 16384 ≤ o'.length) := fun e => h2 ⟨by rw [joins_pre _ _ hne, ← hj']; exact e.1, by rw [List.length_append]; omega⟩
    rcases hj : joins (M.drop b) o with _ | _
    · have hjp : joins (M.drop b) (pre ++ o) = false := by rw [joins_pre _ _ hne, hj]
      rw [put_new hjp, List.append_assoc] at hp
      have hu2 : (putTok (M.drop b) (k' + b) o' t').map unp = (o ++ [{ t' with place := ((k + b : Nat) : Int) }]).map unp := by
        rw [put_new (by rw [hj', hj]), List.map_append, List.map_append, hu]; rfl
      have hstep := step_mk (k := k') hb h1 h2' ho1 (last_unp pre hu2 (by rw [← hp]; exact hs))
      obtain ⟨L', hL, hLu⟩ := ih L he pre _ (k' + (b + j)) _ hp (by simp) hu2
      exact ⟨L', by rw [tokL_more hstep]; exact hL, hLu⟩
    · have hjp : joins (M.drop b) (pre ++ o) = true := by rw [joins_pre _ _ hne, hj]
      rw [put_joins hjp, glue_pre _ _ hne] at hp
      have hu2 : (putTok (M.drop b) (k' + b) o' t').map unp = (glue o t'.text).map unp := by rw [put_joins (by rw [hj', hj]), glue_unp _ hu]
      have hstep := step_mk (k := k') hb h1 h2' ho1 (last_unp pre hu2 (by rw [← hp]; exact hs))
      obtain ⟨L', hL, hLu⟩ := ih L he pre _ (k' + (b + j)) _ hp (glue_ne _ hne) hu2
      exact ⟨L', by rw [tokL_more hstep]; exact hL, hLu⟩

/-- a text cut at a token's place -/
theorem tokL_cut : ∀ k M out L, tokL k M out = .good L → ∀ i (hi : i < L.length), out.length ≤ i →
    ∃ p, p < M.length ∧ L[i].place = ((k + p : Nat) : Int) ∧ tokL k (M.take p) out = .good (L.take i) ∧ ∃ L', tokL 0 (M.drop p) [] = .good L' ∧ L'.map unp = (L.drop i).map unp := by
  have key := tokL_ind (P := fun k M out e => ∀ L, e = .good L → ∀ i (hi : i < L.length), out.length ≤ i →
    ∃ p, p < M.length ∧ L[i].place = ((k + p : Nat) : Int) ∧ tokL k (M.take p) out = .good (L.take i) ∧ ∃ L', tokL 0 (M.drop p) [] = .good L' ∧ L'.map unp = (L.drop i).map unp) ?_ ?_
  · exact fun k M out L h => key k M out L h
  · intro k M out e h L he i hi ho
    subst he
    obtain ⟨_, _, _, rfl⟩ := step_good h
    omega
  · intro k M out n out' h ih L he i hi ho
    have hpos := step_pos h
    obtain ⟨b, t', j, hb, h1, h2, ho1, rfl, hp, hs⟩ := step_more h
    have hone := oneL_le ho1
    rw [List.length_drop] at hone
    -- the step taken in a text that is cut behind it
    have hcut : ∀ m, b + j ≤ m → tokStep k (M.take m) out = .more (b + j) out' := fun m hm => by
      have h1' : (M.take m).drop b ≠ [] := by
        rw [Ne, List.drop_eq_nil_iff, List.length_take]; omega
      have hd : (M.take m).drop b = (M.drop b).take (m - b) := List.drop_take
      have hj' : joins ((M.take m).drop b) out = joins (M.drop b) out := by
        rw [hd, joins, joins]
        obtain ⟨c, l, hc⟩ : ∃ c l, M.drop b = c :: l := by
          rcases hM : M.drop b with _ | ⟨c, l⟩
          · exact absurd hM h1
          · exact ⟨c, l, rfl⟩
        rw [hc, show m - b = (m - b - 1) + 1 by omega, List.take_succ_cons]; rfl
      have hput : putTok ((M.take m).drop b) (k + b) out t' = putTok (M.drop b) (k + b) out t' := by rw [putTok, putTok, hj']
      have := step_mk (k := k) (out := out) (blankL_take hb (by omega)) h1' (by rw [hj']; exact h2) (by rw [hd]; exact oneL_take ho1 (by omega)) (by rw [hput, ← hp]; exact hs)
      rw [hput, ← hp] at this
      exact this
    by_cases hlt : out'.length ≤ i
    · obtain ⟨p, hp1, hp2, hp3, L', hp4, hp5⟩ := ih L he i hi hlt
      rw [List.length_drop] at hp1
      refine ⟨b + j + p, by omega, by rw [hp2]; congr 1; omega, ?_, L', by rw [← hp4, List.drop_drop], hp5⟩
      rw [tokL_more (hcut (b + j + p) (by omega)), List.drop_take, ← hp3, show b + j + p - (b + j) = p by omega]
    · rcases hj : joins (M.drop b) out with _ | _
      · rw [put_new hj] at hp
        have hi' : i = out.length := by rw [hp, List.length_append] at hlt; simp at hlt; omega
        subst hi'
        obtain ⟨x, R, hL⟩ := tokL_shape _ _ _ _ he _ _ hp
        have hgs : gap (M.drop b) = .stop := by have := (blankL_ends M).2.1; rw [hb] at this; exact this rfl
        have hstep := step_mk (k := 0) (M := M.drop b) (out := []) (blankL_stop hgs) (by simpa using h1) (by simp) (by rw [List.drop_zero]; exact ho1) (t := t') (by
          rw [put_new (joins_none _)]
          intro y hy
          have := hs { t' with place := ((k + b : Nat) : Int) } (by rw [hp]; simp)
          obtain rfl : { t' with place := ((0 + 0 : Nat) : Int) } = y := by simpa using hy
          exact this)
        rw [put_new (joins_none _), List.nil_append] at hstep
        obtain ⟨L', hL1, hL2⟩ := tokL_shift _ _ _ _ he out _ (0 + (0 + j)) [{ t' with place := ((0 + 0 : Nat) : Int) }] hp (by simp) rfl
        refine ⟨b, by omega, by subst hL; simp, ?_, L', ?_, hL2⟩
        · rw [tokL_done (step_end (blankL_take hb (Nat.le_refl _)) (by rw [List.drop_eq_nil_iff, List.length_take]; omega)), hL]
          simp
        · rw [tokL_more hstep, ← hL1, List.drop_drop, show b + (0 + j) = b + j by omega]
      · rw [put_joins hj] at hp
        exfalso
        obtain ⟨q, x, hq⟩ := snoc_of (joins_ne hj)
        rw [hp, hq, glue_snoc] at hlt
        rw [hq] at ho
        simp at hlt ho
        omega

theorem map_place_glue {o : List Tok} (x : ByteArray) (h : o ≠ []) : (glue o x).map (·.place) = o.map (·.place) := by
  obtain ⟨p, t, rfl⟩ := snoc_of h
  rw [glue_snoc]; simp
/-- places rise -/
theorem tokL_rise : ∀ k M out L, tokL k M out = .good L → (out.map (·.place)).Pairwise (· < ·) → (∀ x ∈ out.map (·.place), (0 : Int) ≤ x ∧ x < k) → (L.map (·.place)).Pairwise (· < ·) ∧ ∀ x ∈ L.map (·.place), (0 : Int) ≤ x ∧ x < k + M.length := by
  have key := tokL_ind (P := fun k M out e => ∀ L, e = .good L → (out.map (·.place)).Pairwise (· < ·) → (∀ x ∈ out.map (·.place), (0 : Int) ≤ x ∧ x < k) → (L.map (·.place)).Pairwise (· < ·) ∧ ∀ x ∈ L.map (·.place), (0 : Int) ≤ x ∧ x < k + M.length) ?_ ?_
  · exact fun k M out L h => key k M out L h
  · intro k M out e h L he hp hb
    subst he
    obtain ⟨_, _, _, rfl⟩ := step_good h
    exact ⟨hp, fun x hx => ⟨(hb x hx).1, by have := (hb x hx).2; omega⟩⟩
  · intro k M out n out' h ih L he hp hb
    have hpos := step_pos h
    obtain ⟨b, t', j, hbl, h1, h2, ho1, rfl, hput, hs⟩ := step_more h
    have hone := oneL_le ho1
    have hl : (M.drop (b + j)).length = M.length - (b + j) := List.length_drop
    have h3 : (out'.map (·.place)).Pairwise (· < ·) ∧ ∀ x ∈ out'.map (·.place), (0 : Int) ≤ x ∧ x < ((k + (b + j) : Nat) : Int) := by
      rcases hj : joins (M.drop b) out with _ | _
      · rw [put_new hj] at hput
        subst hput
        rw [List.map_append, List.pairwise_append]
        refine ⟨⟨hp, by simp, fun x hx y hy => ?_⟩, fun x hx => ?_⟩
        · simp at hy; have := (hb x hx).2; omega
        · rcases List.mem_append.1 hx with h | h
          · have := hb x h; omega
          · simp at h; omega
      · rw [put_joins hj] at hput
        subst hput
        rw [map_place_glue _ (joins_ne hj)]
        exact ⟨hp, fun x hx => by have := hb x hx; omega⟩
    obtain ⟨h4, h5⟩ := ih L he h3.1 h3.2
    exact ⟨h4, fun x hx => by have := h5 x hx; omega⟩

theorem quotedL_bad (q : UInt8) : ∀ (k : Nat) (L : List UInt8), L.length ≤ k → ∀ {e : Int}, quotedL q L = .bad e → e = 71 ∨ e = 72
  | k, [], _, e, h => by rw [quotedL_nil] at h; cases h; exact .inl rfl
  | 0, c :: r, hk, _, _ => by simp at hk
  | k + 1, c :: r, hk, e, h => by
    rw [quotedL_cons] at h
    split at h
    · cases h
    · split at h
      · cases h; exact .inl rfl
      · split at h
        · cases h; exact .inr rfl
        · rename_i b j hp
          have hj := pieceL_le hp
          rcases hx : quotedL q ((c :: r).drop j) with ⟨l, n⟩ | e'
          · rw [hx] at h; cases h
          · rw [hx] at h
            cases h
            exact quotedL_bad q k _ (by rw [List.length_drop]; simp at hk ⊢; omega) hx
theorem oneL_bad {L : List UInt8} {e : Int} (h : oneL L = .bad e) : 0 < e := by
  match L, h with
  | [], h => cases h; decide
  | c :: l, h =>
    rw [oneL] at h
    split at h
    · unfold wordE at h
      repeat' split at h
      all_goals first
        | (cases h; done)
        | (cases h; decide)
    · split at h
      · unfold numE at h
        split at h
        · cases h; decide
        · cases h
      · split at h
        · rcases hx : quotedL 39 l with ⟨q, n⟩ | e'
          · rw [hx] at h
            match q, h with
            | [], h => cases h; decide
            | [_], h => cases h
            | _ :: _ :: _, h => cases h; decide
          · rw [hx] at h
            cases h
            have := quotedL_bad 39 _ _ (Nat.le_refl _) hx
            omega
        · split at h
          · rcases hx : quotedL 34 l with ⟨q, n⟩ | e'
            · rw [hx] at h; cases h
            · rw [hx] at h
              cases h
              have := quotedL_bad 34 _ _ (Nat.le_refl _) hx
              omega
          · unfold markE at h
            split at h
            · cases h; decide
            · cases h
/-- where a text is wrong -/
theorem tokL_bad : ∀ k M out p e, tokL k M out = .bad p e → (∀ x ∈ out.map (·.place), (0 : Int) ≤ x ∧ x < k) → p ≤ k + M.length ∧ 0 < e := by
  have key := tokL_ind (P := fun k M out r => ∀ p e, r = .bad p e → (∀ x ∈ out.map (·.place), (0 : Int) ≤ x ∧ x < k) → p ≤ k + M.length ∧ 0 < e) ?_ ?_
  · exact fun k M out p e h => key k M out p e h
  · intro k M out r h p e he hb
    subst he
    have hbl := (blankL_ends M).1
    unfold tokStep at h
    split at h
    · rename_i b hb1
      rw [hb1] at hbl
      simp only [TStep.done.injEq, TEnd.bad.injEq] at h
      simp only at hbl
      omega
    · rename_i b hb1
      rw [hb1] at hbl
      simp only at hbl
      split at h
      · cases h
      · rename_i h1
        split at h
        · simp only [TStep.done.injEq, TEnd.bad.injEq] at h; omega
        · split at h
          · rename_i e' ho
            simp only [TStep.done.injEq, TEnd.bad.injEq] at h
            have := oneL_bad ho
            omega
          · rename_i t j ho
            obtain ⟨x, hx, _, hex⟩ := endStep_bad h
            simp only [TEnd.bad.injEq] at hex
            have hone := oneL_le ho
            rw [List.length_drop] at hone
            have hpl : x.place ∈ (putTok (M.drop b) (k + b) out t).map (·.place) := List.mem_map.2 ⟨x, List.mem_of_getLast? hx, rfl⟩
            have : (0 : Int) ≤ x.place ∧ x.place < k + M.length := by
              rcases hj : joins (M.drop b) out with _ | _
              · rw [put_new hj, List.map_append] at hpl
                rcases List.mem_append.1 hpl with h' | h'
                · have := hb _ h'; omega
                · simp at h'; omega
              · rw [put_joins hj, map_place_glue _ (joins_ne hj)] at hpl
                have := hb _ hpl; omega
            omega
  · intro k M out n out' h ih p e he hb
    have hpos := step_pos h
    obtain ⟨b, t', j, hbl, h1, h2, ho1, rfl, hput, hs⟩ := step_more h
    have hone := oneL_le ho1
    have hl : (M.drop (b + j)).length = M.length - (b + j) := List.length_drop
    have h3 : ∀ x ∈ out'.map (·.place), (0 : Int) ≤ x ∧ x < ((k + (b + j) : Nat) : Int) := by
      rcases hj : joins (M.drop b) out with _ | _
      · rw [put_new hj] at hput
        subst hput
        intro x hx
        rw [List.map_append] at hx
        rcases List.mem_append.1 hx with h | h
        · have := hb x h; omega
        · simp at h; omega
      · rw [put_joins hj] at hput
        subst hput
        rw [map_place_glue _ (joins_ne hj)]
        exact fun x hx => by have := hb x hx; omega
    have := ih p e he h3
    omega

end Go.Proofs.YtncojfcdkigmiaaDoor
