/- One token that is a number, or stands in quotes: the program's reader. -/
import Derived.Test.YtncojfcdkigmiaaDoorOne
import Derived.Test.YtncojfcdkigmiaaDoorRuns
namespace Go.Proofs.YtncojfcdkigmiaaDoor
open Go.RowKit

theorem oneL_digit {s : ByteArray} {k : Nat} (hk : k < s.size) (hl : letB s[k] = false) (h : digB s[k] = true) : oneL (sfx s k) = numE (sfx s k) := by
  rw [sfx_cons s k hk, oneL, if_neg (by simp [hl]), if_pos h]
theorem oneL_char {s : ByteArray} {k : Nat} (hk : k < s.size) (h : s[k].toNat = 39) : oneL (sfx s k) = charE (quotedL s[k] (sfx s (k + 1))) := by
  have e : s[k] = 39 := UInt8.toNat_inj.1 h
  rw [sfx_cons s k hk, oneL, e, if_neg (by decide), if_neg (by decide), if_pos (by decide)]
theorem oneL_str {s : ByteArray} {k : Nat} (hk : k < s.size) (h : s[k].toNat = 34) : oneL (sfx s k) = strE (quotedL s[k] (sfx s (k + 1))) := by
  have e : s[k] = 34 := UInt8.toNat_inj.1 h
  rw [sfx_cons s k hk, oneL, e, if_neg (by decide), if_neg (by decide), if_neg (by decide), if_pos (by decide)]
theorem let_no {c : UInt8} (h : digB c = true ∨ c.toNat = 39 ∨ c.toNat = 34) : letB c = false := by
  unfold letB; rw [decide_eq_false_iff_not]
  rcases h with h | h | h
  · have := of_decide_eq_true h; omega
  · omega
  · omega

set_option maxHeartbeats 4000000 in
set_option maxRecDepth 100000 in
theorem one_digit (b k : Nat) (cs : Array Value) (T : TypeId) (s : ByteArray) (w : World) (h : TextAt w b cs T s k) (hk : k < s.size) (hs : s.size ≤ 1048576) (hE : Env w) (hA : Apart b) (hl : digB s[k] = true) :
    Calls Tryd.prog 26 #[.pointer (some ⟨b, 0, none⟩)] w (OneAt w b cs T s k (oneL (sfx s k))) := by
  have hbw := h.lt
  have H := Lib.hid (h.below ((Below.refl w.heap.size w).alloc (Nat.le_refl _) (.cells #[.int .i64 0, .int .i64 0, .int .i64 0, .string ⟨#[]⟩] 34)))
  have HE := Lib.hid (hE.below ((Below.refl w.heap.size w).alloc (Nat.le_refl _) (.cells #[.int .i64 0, .int .i64 0, .int .i64 0, .string ⟨#[]⟩] 34)))
  have HA := Lib.hid hA
  have c0 := h.c0
  have c1 := h.c1
  obtain ⟨r, er⟩ : ∃ r, r = oneL (sfx s k) := ⟨_, rfl⟩
  rw [← er]
  have ER := Lib.hid (er.trans (oneL_digit hk (let_no (.inl hl)) hl))
  have HL := Lib.hid (let_no (.inl hl))
  have HD := Lib.hid hl
  have HSz := Lib.hid (show (s.extract k (k + wlen (s.data.toList.drop k))).size = (wlen (sfx s k) - 1) + 1 ∧ wlen (sfx s k) - 1 < (s.extract k (k + wlen (s.data.toList.drop k))).size ∧ (s.extract k (k + wlen (s.data.toList.drop k))).size ≤ 1048576 by
    have h1 := (word_end (s := s) (a := k) (by omega)).1
    have h2 : 0 < wlen (sfx s k) := by rw [sfx_cons s k hk]; exact wlen_pos (by simp [wordB, hl])
    have h3 : wlen (sfx s k) = wlen (s.data.toList.drop k) := rfl
    rw [ByteArray.size_extract]; omega)
  clear er hl hA hE h
  go_enter Tryd.func26, Tryd.ntmps26
  go_wp2_with fail
  go_quiet (fail)
  go_wp2_with (first
    | (go_at_call 29; refine (lexLetter_is false _ _ HL.out).mono ?_; rintro e w' ⟨rfl, rfl⟩)
    | (go_at_call 48; refine (lexDigit_is true _ _ HD.out).mono ?_; rintro e w' ⟨rfl, rfl⟩)
    | (go_at_call 30; refine (word_ok b k cs T s _ H.out.drew (by omega) hs).mono ?_))
  rintro e w1 ⟨rfl, hT1, hg1⟩
  have HT1 := Lib.hid hT1
  have HG1 := Lib.hid (grown_trans (grown_drewN (grown_refl _ _) _) hg1)
  clear hT1 hg1
  have HE1 := Lib.hid (HE.out.grown HG1.out HA.out)
  have HW := Lib.hid (sfx_take_word s k)
  have HB := Lib.hid (res_block HG1.out hbw)
  clear c0 c1
  generalize s.extract k (k + wlen (s.data.toList.drop k)) = x at HW HSz ⊢
  have HR := Lib.hid (show r = match numW x.data.toList with
    | none => .bad 73
    | some (n, u) => .good ⟨3, 0, n, uOf u⟩ (wlen (sfx s k)) by rw [ER.out, numE, HW.out]; rfl)
  go_wp2_with (go_at_call 49; refine (number_ok x (wlen (sfx s k) - 1) _ (Lib.hid HSz.out.1) HSz.out.2.1 HSz.out.2.2 HE1.out.errs).mono ?_)
  rintro e w2 ⟨he, hb2⟩
  have HT2 := Lib.hid (HT1.out.below hb2)
  have HG2 := Lib.hid (grown_below HG1.out hb2)
  have hw1 : w.heap.size < w1.heap.size := lt_of_heap HB.out
  have hb2s := hb2.size
  obtain ⟨⟨a0, a1, a2, a3⟩, fa⟩ := tok_block ((hb2.block _ hw1).trans HB.out)
  have fa0 := fa 0
  have fa1 := fa 1
  have fa2 := fa 2
  have fa3 := fa 3
  have hlt2 : w.heap.size < w2.heap.size := by omega
  clear fa hb2
  rcases hn : numW x.data.toList with _ | ⟨n, u⟩
  · rw [hn] at he
    have hfin := Lib.hid (show r = .bad 73 by rw [HR.out, hn])
    obtain ⟨t, rfl⟩ := he
    clear hn
    go_wp2
    exact bodyPost_ret (v := .tuple #[.agg #[.int .i64 0, .int .i64 0, .int .i64 0, .string ⟨#[]⟩], .int .i64 73]) (by simp [results, Tryd.results26, go_sem, a0, a1, a2, a3, hlt2]) rfl (one_no hfin.out (grown_below (grown_four (grown_alloc HG2.out) (Nat.le_refl _) _ _ _ _) ((Below.refl _ _).alloc (Nat.le_refl _) _)))
  · rw [hn] at he
    have hfin := Lib.hid (show r = .good ⟨3, 0, n, uOf u⟩ (wlen (sfx s k)) by rw [HR.out, hn])
    subst he
    clear hn
    go_wp2
    exact bodyPost_ret (v := .tuple #[.agg #[.int .i64 3, .int .i64 0, .int .i64 n, .string (uOf u)], .int .i64 0]) (by simp [results, Tryd.results26, go_sem, a0, a1, a2, a3, hlt2]) rfl (one_yes ⟨3, 0, n, uOf u⟩ hfin.out ⟨rfl, rfl, rfl, rfl⟩ ((text_four HT2.out (by omega) _ _ _ _).below ((Below.refl _ _).alloc (Nat.le_refl _) _)) (grown_below (grown_four (grown_alloc HG2.out) (Nat.le_refl _) _ _ _ _) ((Below.refl _ _).alloc (Nat.le_refl _) _)))

theorem i8_sgn : ∀ c : Fin 256, IntKind.i8.wrap (c.val : Int) = if c.val < 128 then (c.val : Int) else (c.val : Int) - 256 := by decide +kernel
theorem sgn_wrap (c : UInt8) : IntKind.i8.wrap (c.toNat : Int) = sgn c := i8_sgn ⟨c.toNat, c.toNat_lt⟩

set_option maxHeartbeats 4000000 in
set_option maxRecDepth 100000 in
theorem one_char' (b k : Nat) (cs : Array Value) (T : TypeId) (s : ByteArray) (w : World) (h : TextAt w b cs T s k) (hk : k < s.size) (hs : s.size ≤ 1048576) (hl : s[k].toNat = 39) :
    Calls Tryd.prog 26 #[.pointer (some ⟨b, 0, none⟩)] w (OneAt w b cs T s k (oneL (sfx s k))) := by
  have hbw := h.lt
  have H := Lib.hid (h.below ((Below.refl w.heap.size w).alloc (Nat.le_refl _) (.cells #[.int .i64 0, .int .i64 0, .int .i64 0, .string ⟨#[]⟩] 34)))
  have c0 := h.c0
  have c1 := h.c1
  obtain ⟨r, er⟩ : ∃ r, r = oneL (sfx s k) := ⟨_, rfl⟩
  rw [← er]
  have ER := Lib.hid (er.trans (oneL_char hk hl))
  have HL := Lib.hid (let_no (.inr (.inl hl)))
  have HD := Lib.hid (show digB s[k] = false by unfold digB; rw [decide_eq_false_iff_not]; omega)
  have t1 : ((s[k].toNat : Int) == 39) = true := by simp [hl]
  clear er hl h
  go_enter Tryd.func26, Tryd.ntmps26
  go_wp2_with fail
  go_quiet (fail)
  go_wp2_with (first
    | (go_at_call 29; refine (lexLetter_is false _ _ HL.out).mono ?_; rintro e w' ⟨rfl, rfl⟩)
    | (go_at_call 48; refine (lexDigit_is false _ _ HD.out).mono ?_; rintro e w' ⟨rfl, rfl⟩)
    | (go_at_call 50; refine (quoted_ok b k cs T s _ H.out.drew hk hs).mono ?_))
  rintro e w1 ⟨he, hg1⟩
  have HG1 := Lib.hid (grown_trans (grown_drewN (grown_refl _ _) _) hg1)
  clear hg1 c0 c1
  obtain ⟨⟨a0, a1, a2, a3⟩, fa⟩ := tok_block (res_block HG1.out hbw)
  have fa0 := fa 0
  have fa1 := fa 1
  have fa2 := fa 2
  have fa3 := fa 3
  clear fa
  rcases hq : quotedL s[k] (sfx s (k + 1)) with ⟨l, n⟩ | x
  · rw [hq] at he
    obtain ⟨v, rfl, ho, hT⟩ := he
    have HT := Lib.hid hT
    clear hT
    match l, hq, ho with
    | [], hq, ho =>
      have hfin := Lib.hid (show r = .bad 72 by rw [ER.out, hq]; rfl)
      have hv : ∃ a cap, v = .slice a 0 cap := by
        rcases ho.2 with ⟨rfl, _⟩ | ⟨g, cap, cur, rfl, _⟩
        · exact ⟨_, _, rfl⟩
        · exact ⟨_, _, rfl⟩
      obtain ⟨a, cap, rfl⟩ := hv
      clear ho hq ER
      go_wp2
      exact bodyPost_ret (v := .tuple #[.agg #[.int .i64 0, .int .i64 0, .int .i64 0, .string ⟨#[]⟩], .int .i64 72]) (by simp [results, Tryd.results26, go_sem, a0, a1, a2, a3]) rfl (one_no hfin.out (grown_four (grown_alloc HG1.out) (Nat.le_refl _) _ _ _ _))
    | [c], hq, ho =>
      have hfin := Lib.hid (show r = .good ⟨3, 0, sgn c, ⟨#[]⟩⟩ (n + 1) by rw [ER.out, hq]; rfl)
      have hv : ∃ g cap, v = .slice (some ⟨g, 0, none⟩) 1 cap ∧ w1.cell? ⟨g, 0, none⟩ = some (.int .u8 (c.toNat : Int)) := by
        rcases ho.2 with ⟨rfl, h0⟩ | ⟨g, cap, cur, rfl, _⟩
        · simp at h0
        · refine ⟨g, cap, rfl, ?_⟩
          have := ho.cells (g := g) rfl 0 (.int .u8 (c.toNat : Int)) rfl
          rwa [addr_add] at this
      obtain ⟨g, cap, rfl, cg⟩ := hv
      have hw := sgn_wrap c
      obtain ⟨y, hy⟩ : ∃ y, y = sgn c := ⟨_, rfl⟩
      rw [← hy] at hw hfin
      have hy1 : -128 ≤ y ∧ y ≤ 127 := by
        have := c.toNat_lt
        rw [hy]; unfold sgn; split <;> omega
      obtain ⟨hy1, hy2⟩ := hy1
      clear ho hq ER hy
      go_wp2
      exact bodyPost_ret (v := .tuple #[.agg #[.int .i64 3, .int .i64 0, .int .i64 y, .string ⟨#[]⟩], .int .i64 0]) (by simp [results, Tryd.results26, go_sem, a0, a1, a2, a3]) rfl (one_yes ⟨3, 0, y, ⟨#[]⟩⟩ hfin.out ⟨rfl, rfl, rfl, rfl⟩ (by rw [show k + (n + 1) = k + 1 + n by omega]; exact text_four HT.out (by omega) _ _ _ _) (grown_four (grown_alloc HG1.out) (Nat.le_refl _) _ _ _ _))
    | c :: d :: l, hq, ho =>
      have hfin := Lib.hid (show r = .bad 72 by rw [ER.out, hq]; rfl)
      have hv : ∃ a cap, v = .slice a (l.length + 2) cap := by
        rcases ho.2 with ⟨rfl, h0⟩ | ⟨g, cap, cur, rfl, _⟩
        · simp at h0
        · exact ⟨_, _, rfl⟩
      obtain ⟨a, cap, rfl⟩ := hv
      have t5 : (((l.length + 2 : Nat) : Int) != 1) = true := by simp; omega
      have t6 : ((l.length : Int) + 2 != 1) = true := by simp; omega
      clear ho hq ER
      go_wp2
      exact bodyPost_ret (v := .tuple #[.agg #[.int .i64 0, .int .i64 0, .int .i64 0, .string ⟨#[]⟩], .int .i64 72]) (by simp [results, Tryd.results26, go_sem, a0, a1, a2, a3]) rfl (one_no hfin.out (grown_four (grown_alloc HG1.out) (Nat.le_refl _) _ _ _ _))
  · rw [hq] at he
    have hfin := Lib.hid (show r = .bad x by rw [ER.out, hq]; rfl)
    have hx := quotedL_bad _ _ _ (Nat.le_refl _) hq
    have t4 : (x != 0) = true := by simp; omega
    subst he
    clear hq hx ER
    go_wp2
    exact bodyPost_ret (v := .tuple #[.agg #[.int .i64 0, .int .i64 0, .int .i64 0, .string ⟨#[]⟩], .int .i64 x]) (by simp [results, Tryd.results26, go_sem, a0, a1, a2, a3]) rfl (one_no hfin.out (grown_four (grown_alloc HG1.out) (Nat.le_refl _) _ _ _ _))

set_option maxHeartbeats 4000000 in
set_option maxRecDepth 100000 in
theorem one_str' (b k : Nat) (cs : Array Value) (T : TypeId) (s : ByteArray) (w : World) (h : TextAt w b cs T s k) (hk : k < s.size) (hs : s.size ≤ 1048576) (hl : s[k].toNat = 34) :
    Calls Tryd.prog 26 #[.pointer (some ⟨b, 0, none⟩)] w (OneAt w b cs T s k (oneL (sfx s k))) := by
  have hbw := h.lt
  have H := Lib.hid (h.below ((Below.refl w.heap.size w).alloc (Nat.le_refl _) (.cells #[.int .i64 0, .int .i64 0, .int .i64 0, .string ⟨#[]⟩] 34)))
  have c0 := h.c0
  have c1 := h.c1
  obtain ⟨r, er⟩ : ∃ r, r = oneL (sfx s k) := ⟨_, rfl⟩
  rw [← er]
  have ER := Lib.hid (er.trans (oneL_str hk hl))
  have HL := Lib.hid (let_no (.inr (.inr hl)))
  have HD := Lib.hid (show digB s[k] = false by unfold digB; rw [decide_eq_false_iff_not]; omega)
  have t0 : ((s[k].toNat : Int) == 39) = false := by simp [hl]
  have t1 : ((s[k].toNat : Int) == 34) = true := by simp [hl]
  clear er hl h
  go_enter Tryd.func26, Tryd.ntmps26
  go_wp2_with fail
  go_quiet (fail)
  go_wp2_with (first
    | (go_at_call 29; refine (lexLetter_is false _ _ HL.out).mono ?_; rintro e w' ⟨rfl, rfl⟩)
    | (go_at_call 48; refine (lexDigit_is false _ _ HD.out).mono ?_; rintro e w' ⟨rfl, rfl⟩)
    | (go_at_call 50; refine (quoted_ok b k cs T s _ H.out.drew hk hs).mono ?_))
  rintro e w1 ⟨he, hg1⟩
  have HG1 := Lib.hid (grown_trans (grown_drewN (grown_refl _ _) _) hg1)
  clear hg1 c0 c1
  obtain ⟨⟨a0, a1, a2, a3⟩, fa⟩ := tok_block (res_block HG1.out hbw)
  have fa0 := fa 0
  have fa1 := fa 1
  have fa2 := fa 2
  have fa3 := fa 3
  clear fa
  rcases hq : quotedL s[k] (sfx s (k + 1)) with ⟨l, n⟩ | x
  · rw [hq] at he
    obtain ⟨v, rfl, ho, hT⟩ := he
    have HT := Lib.hid hT
    have hcv := own_str ho
    have hfin := Lib.hid (show r = .good ⟨4, 0, 0, strOf l⟩ (n + 1) by rw [ER.out, hq]; rfl)
    clear hT ho hq ER
    go_wp2
    exact bodyPost_ret (v := .tuple #[.agg #[.int .i64 4, .int .i64 0, .int .i64 0, .string ⟨l.toArray⟩], .int .i64 0]) (by simp [results, Tryd.results26, go_sem, a0, a1, a2, a3]) rfl (one_yes ⟨4, 0, 0, strOf l⟩ hfin.out ⟨rfl, rfl, rfl, rfl⟩ (by rw [show k + (n + 1) = k + 1 + n by omega]; exact text_four HT.out (by omega) _ _ _ _) (grown_four (grown_alloc HG1.out) (Nat.le_refl _) _ _ _ _))
  · rw [hq] at he
    have hfin := Lib.hid (show r = .bad x by rw [ER.out, hq]; rfl)
    have hx := quotedL_bad _ _ _ (Nat.le_refl _) hq
    have t4 : (x != 0) = true := by simp; omega
    subst he
    clear hq hx ER
    go_wp2
    exact bodyPost_ret (v := .tuple #[.agg #[.int .i64 0, .int .i64 0, .int .i64 0, .string ⟨#[]⟩], .int .i64 x]) (by simp [results, Tryd.results26, go_sem, a0, a1, a2, a3]) rfl (one_no hfin.out (grown_four (grown_alloc HG1.out) (Nat.le_refl _) _ _ _ _))

end Go.Proofs.YtncojfcdkigmiaaDoor
