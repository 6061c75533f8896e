/- The common type turns about and is its own promotion; to decay, to promote twice is as once: plainly, and the statement's walk. -/
import Derived.Test.YtmmjmppfmjejkaaDoorWorks
import Derived.Test.YtmmjmppfmjejkaaDoorParts4
namespace Go.Proofs.YtmmjmppfmjejkaaDoor
open Go.RowKit

def decS (s : ByteArray) : ByteArray × Int := match tyS s with
  | none => (⟨#[]⟩, 2)
  | some (.arr _ u) => (tyB (.ptr u), 0)
  | some (.fn ps r) => if 65536 ≤ s.size then (⟨#[]⟩, 3) else (tyB (.ptr (.fn ps r)), 0)
  | some (.base c) => if c = 106 then (tyB (.ptr (.base c)), 0) else (s, 0)
  | some _ => (s, 0)
def proS (s : ByteArray) : ByteArray × Int := match tyS s with
  | none => (⟨#[]⟩, 2)
  | some t => if (isC 99 t || isC 115 t) = true then (tyB (.base 105), 0) else (s, 0)
def pairV (p : ByteArray × Int) : Value := .tuple #[.string p.1, .int .i64 p.2]
theorem dec_is (s : ByteArray) : decayV s (tyS s) = pairV (decS s) := by
  unfold decS
  rcases tyS s with _ | t
  · rfl
  · cases t with
    | base c => simp only [decayV]; split <;> rfl
    | ptr u => rfl
    | arr n u => rfl
    | str n => rfl
    | fn ps r => simp only [decayV]; split <;> rfl
theorem pro_is (s : ByteArray) : promoteV s (tyS s) = pairV (proS s) := by
  unfold proS
  rcases tyS s with _ | t
  · rfl
  · simp only [promoteV]; split <;> rfl
theorem ty_i : tyS (tyB (.base 105)) = some (.base 105) := by kernel_rfl
theorem ty_u : tyS (tyB (.base 117)) = some (.base 117) := by kernel_rfl
theorem pro_i : proS (tyB (.base 105)) = (tyB (.base 105), 0) := by unfold proS; rw [ty_i]; rfl
theorem pro_u : proS (tyB (.base 117)) = (tyB (.base 117), 0) := by unfold proS; rw [ty_u]; rfl
theorem pro_twice {s : ByteArray} (h : (proS s).2 = 0) : proS (proS s).1 = ((proS s).1, 0) := by
  unfold proS at h ⊢
  rcases ht : tyS s with _ | t
  · rw [ht] at h; simp at h
  · simp only
    by_cases hc : (isC 99 t || isC 115 t) = true
    · rw [if_pos hc]
      have := pro_i
      unfold proS at this
      exact this
    · rw [if_neg hc]
      simp only
      rw [ht]
      simp only
      rw [if_neg hc]
theorem dec_twice {s : ByteArray} (h : (decS s).2 = 0) : decS (decS s).1 = ((decS s).1, 0) := by
  have hptr : ∀ u : Ty, Right u → (code u).length + 1 ≤ 65536 → decS (tyB (.ptr u)) = (tyB (.ptr u), 0) := fun u hr hl => by
    have : tyS (tyB (.ptr u)) = some (.ptr u) := tyS_some.2 ⟨rfl, hr, by rw [code]; simpa using hl⟩
    unfold decS
    rw [this]
  rcases ht : tyS s with _ | t
  · unfold decS at h; rw [ht] at h; simp at h
  · obtain ⟨hs, hr, hl⟩ := tyS_some.1 ht
    cases t with
    | base c =>
      by_cases hc : c = 106
      · have e : decS s = (tyB (.ptr (.base c)), 0) := by unfold decS; rw [ht]; simp only; rw [if_pos hc]
        rw [e]
        exact hptr _ hr (by rw [code]; simp)
      · have e : decS s = (s, 0) := by unfold decS; rw [ht]; simp only; rw [if_neg hc]
        rw [e]; exact e
    | ptr u =>
      have e : decS s = (s, 0) := by unfold decS; rw [ht]
      rw [e]; exact e
    | str n =>
      have e : decS s = (s, 0) := by unfold decS; rw [ht]
      rw [e]; exact e
    | arr n u =>
      have e : decS s = (tyB (.ptr u), 0) := by unfold decS; rw [ht]
      rw [e]
      refine hptr u hr.2 ?_
      rw [code] at hl
      simp at hl
      omega
    | fn ps r =>
      have hsz : s.size = (code (.fn ps r)).length := by rw [hs, tyB_size]
      by_cases hb : 65536 ≤ s.size
      · unfold decS at h; rw [ht] at h; simp only at h; rw [if_pos hb] at h; simp at h
      · have e : decS s = (tyB (.ptr (.fn ps r)), 0) := by unfold decS; rw [ht]; simp only; rw [if_neg hb]
        rw [e]
        exact hptr _ hr (by omega)
/-- the common type -/
theorem com_ok (t u : ByteArray) : ∃ c e, commonV (tyS t) (tyS u) = pairV (c, e) ∧ (e = 0 → commonV (tyS u) (tyS t) = pairV (c, 0) ∧ proS c = (c, 0) ∧ ∃ q, proS t = (q, 0) ∧ (c = q ∨ c = ⟨#[117]⟩)) := by
  rcases hT : tyS t with _ | T
  · exact ⟨_, _, rfl, fun h => by cases h⟩
  · rcases hU : tyS u with _ | U
    · exact ⟨_, _, rfl, fun h => by cases h⟩
    · by_cases hi : (isIntT T && isIntT U) = true
      · have hi' : (isIntT U && isIntT T) = true := by rw [Bool.and_comm]; exact hi
        by_cases hu : (isC 117 T || isC 117 U) = true
        · have hu' : (isC 117 U || isC 117 T) = true := by rw [Bool.or_comm]; exact hu
          refine ⟨tyB (.base 117), 0, by simp only [commonV]; rw [if_pos hi, if_pos hu]; rfl, fun _ => ⟨by simp only [commonV]; rw [if_pos hi', if_pos hu']; rfl, pro_u, ?_⟩⟩
          by_cases hc : (isC 99 T || isC 115 T) = true
          · exact ⟨_, by unfold proS; rw [hT]; simp only; rw [if_pos hc], .inr rfl⟩
          · exact ⟨_, by unfold proS; rw [hT]; simp only; rw [if_neg hc], .inr rfl⟩
        · have hu' : ¬ (isC 117 U || isC 117 T) = true := by rw [Bool.or_comm]; exact hu
          refine ⟨tyB (.base 105), 0, by simp only [commonV]; rw [if_pos hi, if_neg hu]; rfl, fun _ => ⟨by simp only [commonV]; rw [if_pos hi', if_neg hu']; rfl, pro_i, ?_⟩⟩
          by_cases hc : (isC 99 T || isC 115 T) = true
          · exact ⟨_, by unfold proS; rw [hT]; simp only; rw [if_pos hc], .inl rfl⟩
          · refine ⟨_, by unfold proS; rw [hT]; simp only; rw [if_neg hc], .inl ?_⟩
            obtain ⟨hs, _, _⟩ := tyS_some.1 hT
            rw [hs]
            congr 1
            rw [Bool.and_eq_true] at hi
            cases T with
            | base c =>
              have h1 := hi.1
              simp only [isIntT, decide_eq_true_iff] at h1
              simp only [isC, Bool.or_eq_true, not_or] at hu hc
              rcases h1 with rfl | rfl | rfl | rfl
              · simp at hc
              · simp at hc
              · rfl
              · simp at hu
            | _ => simp [isIntT] at hi
      · exact ⟨_, _, by simp only [commonV]; rw [if_neg hi]; exact (rfl : _ = pairV (⟨#[]⟩, 5)), fun h => by cases h⟩
theorem bel_next {w wc w' : World} (h : Hid (Below w.heap.size w wc)) (hb : Below wc.heap.size wc w') : Below w.heap.size w w' := h.out.trans (hb.mono h.out.size)
theorem te_next {wc w' : World} (h : Hid (TE wc)) (hb : Below wc.heap.size wc w') : TE w' := h.out.below hb
set_option maxRecDepth 100000 in
set_option maxHeartbeats 8000000 in
theorem typesTwice_ok (t u : ByteArray) (w : World) (hE : TE w) : Calls Tryd.prog 4 #[.string t, .string u] w fun e w' => e = .returned (.bool true) ∧ Below w.heap.size w w' := by
  have HE := Lib.hid hE
  have HW := Lib.hid (works_ok w hE)
  clear hE
  obtain ⟨c, e0, hc, hrest⟩ := com_ok t u
  have C1 := Lib.hid fun w1 (h : TE w1) => show Calls Tryd.prog 10 #[.string t, .string u] w1 fun e w' => e = .returned (.tuple #[.string c, .int .i64 e0]) ∧ Below w1.heap.size w1 w' by
    have := common_ok t u w1 h
    rw [hc] at this
    exact this
  clear hc
  by_cases he : e0 = 0
  · subst he
    obtain ⟨h1, h2, q, h3, h4⟩ := hrest rfl
    clear hrest
    have C2 := Lib.hid fun w1 (h : TE w1) => show Calls Tryd.prog 10 #[.string u, .string t] w1 fun e w' => e = .returned (.tuple #[.string c, .int .i64 0]) ∧ Below w1.heap.size w1 w' by
      have := common_ok u t w1 h
      rw [h1] at this
      exact this
    have P1 := Lib.hid fun w1 (h : TE w1) => show Calls Tryd.prog 11 #[.string c] w1 fun e w' => e = .returned (.tuple #[.string c, .int .i64 0]) ∧ Below w1.heap.size w1 w' by
      have := promote_ok c w1 h
      rw [pro_is, h2] at this
      exact this
    have P2 := Lib.hid fun w1 (h : TE w1) => show Calls Tryd.prog 11 #[.string t] w1 fun e w' => e = .returned (.tuple #[.string q, .int .i64 0]) ∧ Below w1.heap.size w1 w' by
      have := promote_ok t w1 h
      rw [pro_is, h3] at this
      exact this
    have h5 := pro_twice (s := t) (by rw [h3])
    rw [h3] at h5
    simp only at h5
    have P3 := Lib.hid fun w1 (h : TE w1) => show Calls Tryd.prog 11 #[.string q] w1 fun e w' => e = .returned (.tuple #[.string q, .int .i64 0]) ∧ Below w1.heap.size w1 w' by
      have := promote_ok q w1 h
      rw [pro_is, h5] at this
      exact this
    clear h1 h2 h3 h5
    by_cases hq : c = q
    · subst hq
      clear h4
      rcases hd : decS t with ⟨d, f⟩
      have D1 := Lib.hid fun w1 (h : TE w1) => show Calls Tryd.prog 12 #[.string t] w1 fun e w' => e = .returned (.tuple #[.string d, .int .i64 f]) ∧ Below w1.heap.size w1 w' by
        have := decay_ok t w1 h
        rw [dec_is, hd] at this
        exact this
      by_cases hf : f = 0
      · subst hf
        have D2 := Lib.hid fun w1 (h : TE w1) => show Calls Tryd.prog 12 #[.string d] w1 fun e w' => e = .returned (.tuple #[.string d, .int .i64 0]) ∧ Below w1.heap.size w1 w' by
          have := decay_ok d w1 h
          have h2 := dec_twice (s := t) (by rw [hd])
          rw [hd] at h2
          rw [dec_is, h2] at this
          exact this
        clear hd
        go_enter Tryd.func4, Tryd.ntmps4
        go_wp2_with (first | (go_at_call 7; (with_reducible refine HW.out.mono ?_); rintro e wN ⟨rfl, hbN⟩; have HBN := Lib.hid hbN; have HTN := Lib.hid (HE.out.below hbN); clear hbN) | (go_at_call 10; (with_reducible refine (C1.out _ (Hid.out (by assumption))).mono ?_); rintro e wN ⟨rfl, hbN⟩; have HBN := Lib.hid (bel_next (by assumption) hbN); have HTN := Lib.hid (te_next (by assumption) hbN); clear hbN) | (go_at_call 10; (with_reducible refine (C2.out _ (Hid.out (by assumption))).mono ?_); rintro e wN ⟨rfl, hbN⟩; have HBN := Lib.hid (bel_next (by assumption) hbN); have HTN := Lib.hid (te_next (by assumption) hbN); clear hbN) | (go_at_call 11; (with_reducible refine (P1.out _ (Hid.out (by assumption))).mono ?_); rintro e wN ⟨rfl, hbN⟩; have HBN := Lib.hid (bel_next (by assumption) hbN); have HTN := Lib.hid (te_next (by assumption) hbN); clear hbN) | (go_at_call 11; (with_reducible refine (P2.out _ (Hid.out (by assumption))).mono ?_); rintro e wN ⟨rfl, hbN⟩; have HBN := Lib.hid (bel_next (by assumption) hbN); have HTN := Lib.hid (te_next (by assumption) hbN); clear hbN) | (go_at_call 11; (with_reducible refine (P3.out _ (Hid.out (by assumption))).mono ?_); rintro e wN ⟨rfl, hbN⟩; have HBN := Lib.hid (bel_next (by assumption) hbN); have HTN := Lib.hid (te_next (by assumption) hbN); clear hbN) | (go_at_call 12; (with_reducible refine (D1.out _ (Hid.out (by assumption))).mono ?_); rintro e wN ⟨rfl, hbN⟩; have HBN := Lib.hid (bel_next (by assumption) hbN); have HTN := Lib.hid (te_next (by assumption) hbN); clear hbN) | (go_at_call 12; (with_reducible refine (D2.out _ (Hid.out (by assumption))).mono ?_); rintro e wN ⟨rfl, hbN⟩; have HBN := Lib.hid (bel_next (by assumption) hbN); have HTN := Lib.hid (te_next (by assumption) hbN); clear hbN))
        all_goals
          go_ret
          exact ⟨rfl, Hid.out (by assumption)⟩
      · have tf : (f == 0) = false := by simp [hf]
        clear hd hf
        go_enter Tryd.func4, Tryd.ntmps4
        go_wp2_with (first | (go_at_call 7; (with_reducible refine HW.out.mono ?_); rintro e wN ⟨rfl, hbN⟩; have HBN := Lib.hid hbN; have HTN := Lib.hid (HE.out.below hbN); clear hbN) | (go_at_call 10; (with_reducible refine (C1.out _ (Hid.out (by assumption))).mono ?_); rintro e wN ⟨rfl, hbN⟩; have HBN := Lib.hid (bel_next (by assumption) hbN); have HTN := Lib.hid (te_next (by assumption) hbN); clear hbN) | (go_at_call 10; (with_reducible refine (C2.out _ (Hid.out (by assumption))).mono ?_); rintro e wN ⟨rfl, hbN⟩; have HBN := Lib.hid (bel_next (by assumption) hbN); have HTN := Lib.hid (te_next (by assumption) hbN); clear hbN) | (go_at_call 11; (with_reducible refine (P1.out _ (Hid.out (by assumption))).mono ?_); rintro e wN ⟨rfl, hbN⟩; have HBN := Lib.hid (bel_next (by assumption) hbN); have HTN := Lib.hid (te_next (by assumption) hbN); clear hbN) | (go_at_call 11; (with_reducible refine (P2.out _ (Hid.out (by assumption))).mono ?_); rintro e wN ⟨rfl, hbN⟩; have HBN := Lib.hid (bel_next (by assumption) hbN); have HTN := Lib.hid (te_next (by assumption) hbN); clear hbN) | (go_at_call 11; (with_reducible refine (P3.out _ (Hid.out (by assumption))).mono ?_); rintro e wN ⟨rfl, hbN⟩; have HBN := Lib.hid (bel_next (by assumption) hbN); have HTN := Lib.hid (te_next (by assumption) hbN); clear hbN) | (go_at_call 12; (with_reducible refine (D1.out _ (Hid.out (by assumption))).mono ?_); rintro e wN ⟨rfl, hbN⟩; have HBN := Lib.hid (bel_next (by assumption) hbN); have HTN := Lib.hid (te_next (by assumption) hbN); clear hbN))
        all_goals
          go_ret
          exact ⟨rfl, Hid.out (by assumption)⟩
    · obtain rfl := h4.resolve_left hq
      clear h4
      have tq : ((⟨#[117]⟩ : ByteArray).toList == q.toList) = false := by rw [str_eqb, decide_eq_false hq]
      have tq2 : ((⟨#[117]⟩ : ByteArray).toList != q.toList) = true := by rw [bne, tq]; rfl
      clear hq
      rcases hd : decS t with ⟨d, f⟩
      have D1 := Lib.hid fun w1 (h : TE w1) => show Calls Tryd.prog 12 #[.string t] w1 fun e w' => e = .returned (.tuple #[.string d, .int .i64 f]) ∧ Below w1.heap.size w1 w' by
        have := decay_ok t w1 h
        rw [dec_is, hd] at this
        exact this
      by_cases hf : f = 0
      · subst hf
        have D2 := Lib.hid fun w1 (h : TE w1) => show Calls Tryd.prog 12 #[.string d] w1 fun e w' => e = .returned (.tuple #[.string d, .int .i64 0]) ∧ Below w1.heap.size w1 w' by
          have := decay_ok d w1 h
          have h2 := dec_twice (s := t) (by rw [hd])
          rw [hd] at h2
          rw [dec_is, h2] at this
          exact this
        clear hd
        go_enter Tryd.func4, Tryd.ntmps4
        go_wp2_with (first | (go_at_call 7; (with_reducible refine HW.out.mono ?_); rintro e wN ⟨rfl, hbN⟩; have HBN := Lib.hid hbN; have HTN := Lib.hid (HE.out.below hbN); clear hbN) | (go_at_call 10; (with_reducible refine (C1.out _ (Hid.out (by assumption))).mono ?_); rintro e wN ⟨rfl, hbN⟩; have HBN := Lib.hid (bel_next (by assumption) hbN); have HTN := Lib.hid (te_next (by assumption) hbN); clear hbN) | (go_at_call 10; (with_reducible refine (C2.out _ (Hid.out (by assumption))).mono ?_); rintro e wN ⟨rfl, hbN⟩; have HBN := Lib.hid (bel_next (by assumption) hbN); have HTN := Lib.hid (te_next (by assumption) hbN); clear hbN) | (go_at_call 11; (with_reducible refine (P1.out _ (Hid.out (by assumption))).mono ?_); rintro e wN ⟨rfl, hbN⟩; have HBN := Lib.hid (bel_next (by assumption) hbN); have HTN := Lib.hid (te_next (by assumption) hbN); clear hbN) | (go_at_call 11; (with_reducible refine (P2.out _ (Hid.out (by assumption))).mono ?_); rintro e wN ⟨rfl, hbN⟩; have HBN := Lib.hid (bel_next (by assumption) hbN); have HTN := Lib.hid (te_next (by assumption) hbN); clear hbN) | (go_at_call 11; (with_reducible refine (P3.out _ (Hid.out (by assumption))).mono ?_); rintro e wN ⟨rfl, hbN⟩; have HBN := Lib.hid (bel_next (by assumption) hbN); have HTN := Lib.hid (te_next (by assumption) hbN); clear hbN) | (go_at_call 12; (with_reducible refine (D1.out _ (Hid.out (by assumption))).mono ?_); rintro e wN ⟨rfl, hbN⟩; have HBN := Lib.hid (bel_next (by assumption) hbN); have HTN := Lib.hid (te_next (by assumption) hbN); clear hbN) | (go_at_call 12; (with_reducible refine (D2.out _ (Hid.out (by assumption))).mono ?_); rintro e wN ⟨rfl, hbN⟩; have HBN := Lib.hid (bel_next (by assumption) hbN); have HTN := Lib.hid (te_next (by assumption) hbN); clear hbN))
        all_goals
          go_ret
          exact ⟨rfl, Hid.out (by assumption)⟩
      · have tf : (f == 0) = false := by simp [hf]
        clear hd hf
        go_enter Tryd.func4, Tryd.ntmps4
        go_wp2_with (first | (go_at_call 7; (with_reducible refine HW.out.mono ?_); rintro e wN ⟨rfl, hbN⟩; have HBN := Lib.hid hbN; have HTN := Lib.hid (HE.out.below hbN); clear hbN) | (go_at_call 10; (with_reducible refine (C1.out _ (Hid.out (by assumption))).mono ?_); rintro e wN ⟨rfl, hbN⟩; have HBN := Lib.hid (bel_next (by assumption) hbN); have HTN := Lib.hid (te_next (by assumption) hbN); clear hbN) | (go_at_call 10; (with_reducible refine (C2.out _ (Hid.out (by assumption))).mono ?_); rintro e wN ⟨rfl, hbN⟩; have HBN := Lib.hid (bel_next (by assumption) hbN); have HTN := Lib.hid (te_next (by assumption) hbN); clear hbN) | (go_at_call 11; (with_reducible refine (P1.out _ (Hid.out (by assumption))).mono ?_); rintro e wN ⟨rfl, hbN⟩; have HBN := Lib.hid (bel_next (by assumption) hbN); have HTN := Lib.hid (te_next (by assumption) hbN); clear hbN) | (go_at_call 11; (with_reducible refine (P2.out _ (Hid.out (by assumption))).mono ?_); rintro e wN ⟨rfl, hbN⟩; have HBN := Lib.hid (bel_next (by assumption) hbN); have HTN := Lib.hid (te_next (by assumption) hbN); clear hbN) | (go_at_call 11; (with_reducible refine (P3.out _ (Hid.out (by assumption))).mono ?_); rintro e wN ⟨rfl, hbN⟩; have HBN := Lib.hid (bel_next (by assumption) hbN); have HTN := Lib.hid (te_next (by assumption) hbN); clear hbN) | (go_at_call 12; (with_reducible refine (D1.out _ (Hid.out (by assumption))).mono ?_); rintro e wN ⟨rfl, hbN⟩; have HBN := Lib.hid (bel_next (by assumption) hbN); have HTN := Lib.hid (te_next (by assumption) hbN); clear hbN))
        all_goals
          go_ret
          exact ⟨rfl, Hid.out (by assumption)⟩
  · have te : (e0 == 0) = false := by simp [he]
    clear hrest he
    rcases hp : proS t with ⟨q, hz⟩
    have P2 := Lib.hid fun w1 (h : TE w1) => show Calls Tryd.prog 11 #[.string t] w1 fun e w' => e = .returned (.tuple #[.string q, .int .i64 hz]) ∧ Below w1.heap.size w1 w' by
      have := promote_ok t w1 h
      rw [pro_is, hp] at this
      exact this
    by_cases hh : hz = 0
    · subst hh
      have h5 := pro_twice (s := t) (by rw [hp])
      rw [hp] at h5
      simp only at h5
      have P3 := Lib.hid fun w1 (h : TE w1) => show Calls Tryd.prog 11 #[.string q] w1 fun e w' => e = .returned (.tuple #[.string q, .int .i64 0]) ∧ Below w1.heap.size w1 w' by
        have := promote_ok q w1 h
        rw [pro_is, h5] at this
        exact this
      clear h5 hp
      rcases hd : decS t with ⟨d, f⟩
      have D1 := Lib.hid fun w1 (h : TE w1) => show Calls Tryd.prog 12 #[.string t] w1 fun e w' => e = .returned (.tuple #[.string d, .int .i64 f]) ∧ Below w1.heap.size w1 w' by
        have := decay_ok t w1 h
        rw [dec_is, hd] at this
        exact this
      by_cases hf : f = 0
      · subst hf
        have D2 := Lib.hid fun w1 (h : TE w1) => show Calls Tryd.prog 12 #[.string d] w1 fun e w' => e = .returned (.tuple #[.string d, .int .i64 0]) ∧ Below w1.heap.size w1 w' by
          have := decay_ok d w1 h
          have h2 := dec_twice (s := t) (by rw [hd])
          rw [hd] at h2
          rw [dec_is, h2] at this
          exact this
        clear hd
        go_enter Tryd.func4, Tryd.ntmps4
        go_wp2_with (first | (go_at_call 7; (with_reducible refine HW.out.mono ?_); rintro e wN ⟨rfl, hbN⟩; have HBN := Lib.hid hbN; have HTN := Lib.hid (HE.out.below hbN); clear hbN) | (go_at_call 10; (with_reducible refine (C1.out _ (Hid.out (by assumption))).mono ?_); rintro e wN ⟨rfl, hbN⟩; have HBN := Lib.hid (bel_next (by assumption) hbN); have HTN := Lib.hid (te_next (by assumption) hbN); clear hbN) | (go_at_call 11; (with_reducible refine (P2.out _ (Hid.out (by assumption))).mono ?_); rintro e wN ⟨rfl, hbN⟩; have HBN := Lib.hid (bel_next (by assumption) hbN); have HTN := Lib.hid (te_next (by assumption) hbN); clear hbN) | (go_at_call 11; (with_reducible refine (P3.out _ (Hid.out (by assumption))).mono ?_); rintro e wN ⟨rfl, hbN⟩; have HBN := Lib.hid (bel_next (by assumption) hbN); have HTN := Lib.hid (te_next (by assumption) hbN); clear hbN) | (go_at_call 12; (with_reducible refine (D1.out _ (Hid.out (by assumption))).mono ?_); rintro e wN ⟨rfl, hbN⟩; have HBN := Lib.hid (bel_next (by assumption) hbN); have HTN := Lib.hid (te_next (by assumption) hbN); clear hbN) | (go_at_call 12; (with_reducible refine (D2.out _ (Hid.out (by assumption))).mono ?_); rintro e wN ⟨rfl, hbN⟩; have HBN := Lib.hid (bel_next (by assumption) hbN); have HTN := Lib.hid (te_next (by assumption) hbN); clear hbN))
        all_goals
          go_ret
          exact ⟨rfl, Hid.out (by assumption)⟩
      · have tf : (f == 0) = false := by simp [hf]
        clear hd hf
        go_enter Tryd.func4, Tryd.ntmps4
        go_wp2_with (first | (go_at_call 7; (with_reducible refine HW.out.mono ?_); rintro e wN ⟨rfl, hbN⟩; have HBN := Lib.hid hbN; have HTN := Lib.hid (HE.out.below hbN); clear hbN) | (go_at_call 10; (with_reducible refine (C1.out _ (Hid.out (by assumption))).mono ?_); rintro e wN ⟨rfl, hbN⟩; have HBN := Lib.hid (bel_next (by assumption) hbN); have HTN := Lib.hid (te_next (by assumption) hbN); clear hbN) | (go_at_call 11; (with_reducible refine (P2.out _ (Hid.out (by assumption))).mono ?_); rintro e wN ⟨rfl, hbN⟩; have HBN := Lib.hid (bel_next (by assumption) hbN); have HTN := Lib.hid (te_next (by assumption) hbN); clear hbN) | (go_at_call 11; (with_reducible refine (P3.out _ (Hid.out (by assumption))).mono ?_); rintro e wN ⟨rfl, hbN⟩; have HBN := Lib.hid (bel_next (by assumption) hbN); have HTN := Lib.hid (te_next (by assumption) hbN); clear hbN) | (go_at_call 12; (with_reducible refine (D1.out _ (Hid.out (by assumption))).mono ?_); rintro e wN ⟨rfl, hbN⟩; have HBN := Lib.hid (bel_next (by assumption) hbN); have HTN := Lib.hid (te_next (by assumption) hbN); clear hbN))
        all_goals
          go_ret
          exact ⟨rfl, Hid.out (by assumption)⟩
    · have th : (hz == 0) = false := by simp [hh]
      clear hh hp
      rcases hd : decS t with ⟨d, f⟩
      have D1 := Lib.hid fun w1 (h : TE w1) => show Calls Tryd.prog 12 #[.string t] w1 fun e w' => e = .returned (.tuple #[.string d, .int .i64 f]) ∧ Below w1.heap.size w1 w' by
        have := decay_ok t w1 h
        rw [dec_is, hd] at this
        exact this
      by_cases hf : f = 0
      · subst hf
        have D2 := Lib.hid fun w1 (h : TE w1) => show Calls Tryd.prog 12 #[.string d] w1 fun e w' => e = .returned (.tuple #[.string d, .int .i64 0]) ∧ Below w1.heap.size w1 w' by
          have := decay_ok d w1 h
          have h2 := dec_twice (s := t) (by rw [hd])
          rw [hd] at h2
          rw [dec_is, h2] at this
          exact this
        clear hd
        go_enter Tryd.func4, Tryd.ntmps4
        go_wp2_with (first | (go_at_call 7; (with_reducible refine HW.out.mono ?_); rintro e wN ⟨rfl, hbN⟩; have HBN := Lib.hid hbN; have HTN := Lib.hid (HE.out.below hbN); clear hbN) | (go_at_call 10; (with_reducible refine (C1.out _ (Hid.out (by assumption))).mono ?_); rintro e wN ⟨rfl, hbN⟩; have HBN := Lib.hid (bel_next (by assumption) hbN); have HTN := Lib.hid (te_next (by assumption) hbN); clear hbN) | (go_at_call 11; (with_reducible refine (P2.out _ (Hid.out (by assumption))).mono ?_); rintro e wN ⟨rfl, hbN⟩; have HBN := Lib.hid (bel_next (by assumption) hbN); have HTN := Lib.hid (te_next (by assumption) hbN); clear hbN) | (go_at_call 12; (with_reducible refine (D1.out _ (Hid.out (by assumption))).mono ?_); rintro e wN ⟨rfl, hbN⟩; have HBN := Lib.hid (bel_next (by assumption) hbN); have HTN := Lib.hid (te_next (by assumption) hbN); clear hbN) | (go_at_call 12; (with_reducible refine (D2.out _ (Hid.out (by assumption))).mono ?_); rintro e wN ⟨rfl, hbN⟩; have HBN := Lib.hid (bel_next (by assumption) hbN); have HTN := Lib.hid (te_next (by assumption) hbN); clear hbN))
        all_goals
          go_ret
          exact ⟨rfl, Hid.out (by assumption)⟩
      · have tf : (f == 0) = false := by simp [hf]
        clear hd hf
        go_enter Tryd.func4, Tryd.ntmps4
        go_wp2_with (first | (go_at_call 7; (with_reducible refine HW.out.mono ?_); rintro e wN ⟨rfl, hbN⟩; have HBN := Lib.hid hbN; have HTN := Lib.hid (HE.out.below hbN); clear hbN) | (go_at_call 10; (with_reducible refine (C1.out _ (Hid.out (by assumption))).mono ?_); rintro e wN ⟨rfl, hbN⟩; have HBN := Lib.hid (bel_next (by assumption) hbN); have HTN := Lib.hid (te_next (by assumption) hbN); clear hbN) | (go_at_call 11; (with_reducible refine (P2.out _ (Hid.out (by assumption))).mono ?_); rintro e wN ⟨rfl, hbN⟩; have HBN := Lib.hid (bel_next (by assumption) hbN); have HTN := Lib.hid (te_next (by assumption) hbN); clear hbN) | (go_at_call 12; (with_reducible refine (D1.out _ (Hid.out (by assumption))).mono ?_); rintro e wN ⟨rfl, hbN⟩; have HBN := Lib.hid (bel_next (by assumption) hbN); have HTN := Lib.hid (te_next (by assumption) hbN); clear hbN))
        all_goals
          go_ret
          exact ⟨rfl, Hid.out (by assumption)⟩
end Go.Proofs.YtmmjmppfmjejkaaDoor
