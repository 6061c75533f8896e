/- To convert twice is as once; within int and unsigned the word is kept; comparisons part all numbers: the law. -/
import Derived.Test.YtlcfejgjeljjdaaDoorMg24
import Derived.Test.YtlcfejgjeljjdaaDoorFoldTP
namespace Go.Proofs.YtlcfejgjeljjdaaDoor
open Go.RowKit

theorem lt_is {t : ByteArray} (n m : Int) (ht : IntT t) : binE mLt n t m t = (truthI (decide (asI (asI n t) (commI t t) < asI (asI m t) (commI t t))), iText12, 0) := binE_some (v := (iText12, _)) (by decide +kernel) ht ht rfl
theorem eq_is {t : ByteArray} (n m : Int) (ht : IntT t) : binE mEq n t m t = (truthI (decide (asI (asI n t) (commI t t) = asI (asI m t) (commI t t))), iText12, 0) := binE_some (v := (iText12, _)) (by decide +kernel) ht ht rfl
theorem gt_is {t : ByteArray} (n m : Int) (ht : IntT t) : binE mGt n t m t = (truthI (decide (asI (asI m t) (commI t t) < asI (asI n t) (commI t t))), iText12, 0) := binE_some (v := (iText12, _)) (by decide +kernel) ht ht rfl
theorem cmp_sum (x y : Int) : truthI (decide (x < y)) + truthI (decide (x = y)) + truthI (decide (y < x)) = 1 := by
  unfold truthI
  rcases Int.lt_trichotomy x y with h | h | h
  · rw [decide_eq_true h, decide_eq_false (by omega), decide_eq_false (by omega)]; rfl
  · rw [decide_eq_false (by omega), decide_eq_true h, decide_eq_false (by omega)]; rfl
  · rw [decide_eq_false (by omega), decide_eq_false (by omega), decide_eq_true h]; rfl
theorem asI_ui2 (n : Int) : 0 ≤ asI n uText12 ∧ asI n uText12 < 4294967296 ∧ (asI n iText12 = asI n uText12 ∨ asI n iText12 = asI n uText12 - 4294967296) := by
  have e1 : asI n uText12 = n % 4294967296 := by unfold asI; rw [if_pos rfl]
  have e2 : asI n iText12 = sgnI 32 n := by unfold asI; rw [if_neg (by decide), if_neg (by decide), if_neg (by decide)]
  rw [e1, e2, sgn32]
  omega
theorem truth_bd (b : Bool) : 0 ≤ truthI b ∧ truthI b ≤ 1 := by cases b <;> decide
/-- the law, with what is so of the numbers laid ahead -/
theorem conv_walk (n m a u i l1 l2 l3 : Int) (t : ByteArray) (w : World) (hE : TE w)
    (ha : convE n t = (a, 0)) (hb : convE a t = (a, 0)) (hu : convE n ⟨#[117]⟩ = (u, 0)) (hi : convE n ⟨#[105]⟩ = (i, 0)) (hur : 0 ≤ u ∧ u < 4294967296) (hiu : i = u ∨ i = u - 4294967296) (htu : t = ⟨#[117]⟩ → a = u) (hti : t = ⟨#[105]⟩ → a = i)
    (h1 : binE mLt n t m t = (l1, iText12, 0)) (h2 : binE mEq n t m t = (l2, iText12, 0)) (h3 : binE mGt n t m t = (l3, iText12, 0)) (b3 : 0 ≤ l3 ∧ l3 ≤ 1) (hs : l1 + l2 + l3 = 1) :
    Calls Tryd.prog 4 #[.int .i64 n, .int .i64 m, .string t] w fun e w' => e = .returned (.bool true) ∧ Below w.heap.size w w' := by
  have HE := Lib.hid hE
  have HW := Lib.hid (works12_ok w hE)
  have HC1 := Lib.hid (fun w => show Calls Tryd.prog 9 #[.int .i64 n, .string t] w (fun e w' => e = .returned (.tuple #[.int .i64 a, .int .i64 0]) ∧ w' = w) from by have := convert_ok n t w; rw [ha] at this; exact this)
  have HC2 := Lib.hid (fun w => show Calls Tryd.prog 9 #[.int .i64 a, .string t] w (fun e w' => e = .returned (.tuple #[.int .i64 a, .int .i64 0]) ∧ w' = w) from by have := convert_ok a t w; rw [hb] at this; exact this)
  have HC3 := Lib.hid (fun w => show Calls Tryd.prog 9 #[.int .i64 n, .string ⟨#[117]⟩] w (fun e w' => e = .returned (.tuple #[.int .i64 u, .int .i64 0]) ∧ w' = w) from by have := convert_ok n ⟨#[117]⟩ w; rw [hu] at this; exact this)
  have HC4 := Lib.hid (fun w => show Calls Tryd.prog 9 #[.int .i64 n, .string ⟨#[105]⟩] w (fun e w' => e = .returned (.tuple #[.int .i64 i, .int .i64 0]) ∧ w' = w) from by have := convert_ok n ⟨#[105]⟩ w; rw [hi] at this; exact this)
  have HB1 := Lib.hid (fun w (hE : TE w) => show Calls Tryd.prog 8 #[.string ⟨#[60]⟩, .int .i64 n, .string t, .int .i64 m, .string t] w (fun e w' => e = .returned (.tuple #[.int .i64 l1, .string iText12, .int .i64 0]) ∧ Below w.heap.size w w') from by have := ebinary_ok mLt n t m t w hE; rw [h1] at this; exact this)
  have HB2 := Lib.hid (fun w (hE : TE w) => show Calls Tryd.prog 8 #[.string ⟨#[61, 61]⟩, .int .i64 n, .string t, .int .i64 m, .string t] w (fun e w' => e = .returned (.tuple #[.int .i64 l2, .string iText12, .int .i64 0]) ∧ Below w.heap.size w w') from by have := ebinary_ok mEq n t m t w hE; rw [h2] at this; exact this)
  have HB3 := Lib.hid (fun w (hE : TE w) => show Calls Tryd.prog 8 #[.string ⟨#[62]⟩, .int .i64 n, .string t, .int .i64 m, .string t] w (fun e w' => e = .returned (.tuple #[.int .i64 l3, .string iText12, .int .i64 0]) ∧ Below w.heap.size w w') from by have := ebinary_ok mGt n t m t w hE; rw [h3] at this; exact this)
  have HS := Lib.hid hs
  have d1 : decide (u < 0) = false := by simp; omega
  have d2 : decide (4294967296 ≤ u) = false := by simp; omega
  have x1 : IntKind.i64.wrap (l1 + l2) = l1 + l2 := by rw [IntKind.wrap_i64]; omega
  have x2 : IntKind.i64.wrap (l1 + l2 + l3) = l1 + l2 + l3 := by rw [IntKind.wrap_i64]; omega
  have x3 : IntKind.i64.wrap (u - 4294967296) = u - 4294967296 := by rw [IntKind.wrap_i64]; omega
  clear hE ha hb hu hi h1 h2 h3 hs
  by_cases hu' : t = ⟨#[117]⟩
  · obtain rfl := htu hu'
    have t1 : (t.toList == [117]) = true := by rw [str_one]; exact decide_eq_true hu'
    have t2 : (t.toList == [105]) = false := by rw [str_one]; exact decide_eq_false (by rw [hu']; decide)
    clear htu hti hu'
    rcases hiu with rfl | rfl
    · go_enter Tryd.func4, Tryd.ntmps4
      go_wp2_with (first | (go_at_call 6; (with_reducible refine HW.out.mono ?_); rintro e w1 ⟨rfl, hb1⟩; have HBa := Lib.hid hb1; clear hb1) | (go_at_call 9; (first | (with_reducible refine (HC1.out _).mono ?_) | (with_reducible refine (HC2.out _).mono ?_) | (with_reducible refine (HC3.out _).mono ?_) | (with_reducible refine (HC4.out _).mono ?_)); rintro e wc ⟨rfl, hwc⟩; subst wc) | (go_at_call 8; (with_reducible refine (HB1.out _ (HE.out.below HBa.out)).mono ?_); rintro e w2 ⟨rfl, hb2⟩; have HBb := Lib.hid (HBa.out.trans (hb2.mono HBa.out.size)); clear hb2) | (go_at_call 8; (with_reducible refine (HB2.out _ (HE.out.below HBb.out)).mono ?_); rintro e w3 ⟨rfl, hb3⟩; have HBc := Lib.hid (HBb.out.trans (hb3.mono HBb.out.size)); clear hb3) | (go_at_call 8; (with_reducible refine (HB3.out _ (HE.out.below HBc.out)).mono ?_); rintro e w4 ⟨rfl, hb4⟩; have HBd := Lib.hid (HBc.out.trans (hb4.mono HBc.out.size)); clear hb4))
      go_ret
      exact ⟨by rw [HS.out]; rfl, HBd.out⟩
    · have e1 : (a - 4294967296 != a) = true := by simp; omega
      go_enter Tryd.func4, Tryd.ntmps4
      go_wp2_with (first | (go_at_call 6; (with_reducible refine HW.out.mono ?_); rintro e w1 ⟨rfl, hb1⟩; have HBa := Lib.hid hb1; clear hb1) | (go_at_call 9; (first | (with_reducible refine (HC1.out _).mono ?_) | (with_reducible refine (HC2.out _).mono ?_) | (with_reducible refine (HC3.out _).mono ?_) | (with_reducible refine (HC4.out _).mono ?_)); rintro e wc ⟨rfl, hwc⟩; subst wc) | (go_at_call 8; (with_reducible refine (HB1.out _ (HE.out.below HBa.out)).mono ?_); rintro e w2 ⟨rfl, hb2⟩; have HBb := Lib.hid (HBa.out.trans (hb2.mono HBa.out.size)); clear hb2) | (go_at_call 8; (with_reducible refine (HB2.out _ (HE.out.below HBb.out)).mono ?_); rintro e w3 ⟨rfl, hb3⟩; have HBc := Lib.hid (HBb.out.trans (hb3.mono HBb.out.size)); clear hb3) | (go_at_call 8; (with_reducible refine (HB3.out _ (HE.out.below HBc.out)).mono ?_); rintro e w4 ⟨rfl, hb4⟩; have HBd := Lib.hid (HBc.out.trans (hb4.mono HBc.out.size)); clear hb4))
      go_ret
      exact ⟨by rw [HS.out]; rfl, HBd.out⟩
  have t1 : (t.toList == [117]) = false := by rw [str_one]; exact decide_eq_false hu'
  by_cases hi' : t = ⟨#[105]⟩
  · obtain rfl := hti hi'
    have t2 : (t.toList == [105]) = true := by rw [str_one]; exact decide_eq_true hi'
    clear htu hti hu' hi'
    rcases hiu with rfl | rfl
    · go_enter Tryd.func4, Tryd.ntmps4
      go_wp2_with (first | (go_at_call 6; (with_reducible refine HW.out.mono ?_); rintro e w1 ⟨rfl, hb1⟩; have HBa := Lib.hid hb1; clear hb1) | (go_at_call 9; (first | (with_reducible refine (HC1.out _).mono ?_) | (with_reducible refine (HC2.out _).mono ?_) | (with_reducible refine (HC3.out _).mono ?_) | (with_reducible refine (HC4.out _).mono ?_)); rintro e wc ⟨rfl, hwc⟩; subst wc) | (go_at_call 8; (with_reducible refine (HB1.out _ (HE.out.below HBa.out)).mono ?_); rintro e w2 ⟨rfl, hb2⟩; have HBb := Lib.hid (HBa.out.trans (hb2.mono HBa.out.size)); clear hb2) | (go_at_call 8; (with_reducible refine (HB2.out _ (HE.out.below HBb.out)).mono ?_); rintro e w3 ⟨rfl, hb3⟩; have HBc := Lib.hid (HBb.out.trans (hb3.mono HBb.out.size)); clear hb3) | (go_at_call 8; (with_reducible refine (HB3.out _ (HE.out.below HBc.out)).mono ?_); rintro e w4 ⟨rfl, hb4⟩; have HBd := Lib.hid (HBc.out.trans (hb4.mono HBc.out.size)); clear hb4))
      go_ret
      exact ⟨by rw [HS.out]; rfl, HBd.out⟩
    · have e1 : (u - 4294967296 != u) = true := by simp; omega
      go_enter Tryd.func4, Tryd.ntmps4
      go_wp2_with (first | (go_at_call 6; (with_reducible refine HW.out.mono ?_); rintro e w1 ⟨rfl, hb1⟩; have HBa := Lib.hid hb1; clear hb1) | (go_at_call 9; (first | (with_reducible refine (HC1.out _).mono ?_) | (with_reducible refine (HC2.out _).mono ?_) | (with_reducible refine (HC3.out _).mono ?_) | (with_reducible refine (HC4.out _).mono ?_)); rintro e wc ⟨rfl, hwc⟩; subst wc) | (go_at_call 8; (with_reducible refine (HB1.out _ (HE.out.below HBa.out)).mono ?_); rintro e w2 ⟨rfl, hb2⟩; have HBb := Lib.hid (HBa.out.trans (hb2.mono HBa.out.size)); clear hb2) | (go_at_call 8; (with_reducible refine (HB2.out _ (HE.out.below HBb.out)).mono ?_); rintro e w3 ⟨rfl, hb3⟩; have HBc := Lib.hid (HBb.out.trans (hb3.mono HBb.out.size)); clear hb3) | (go_at_call 8; (with_reducible refine (HB3.out _ (HE.out.below HBc.out)).mono ?_); rintro e w4 ⟨rfl, hb4⟩; have HBd := Lib.hid (HBc.out.trans (hb4.mono HBc.out.size)); clear hb4))
      go_ret
      exact ⟨by rw [HS.out]; rfl, HBd.out⟩
  have t2 : (t.toList == [105]) = false := by rw [str_one]; exact decide_eq_false hi'
  clear htu hti hu' hi'
  rcases hiu with rfl | rfl
  · go_enter Tryd.func4, Tryd.ntmps4
    go_wp2_with (first | (go_at_call 6; (with_reducible refine HW.out.mono ?_); rintro e w1 ⟨rfl, hb1⟩; have HBa := Lib.hid hb1; clear hb1) | (go_at_call 9; (first | (with_reducible refine (HC1.out _).mono ?_) | (with_reducible refine (HC2.out _).mono ?_) | (with_reducible refine (HC3.out _).mono ?_) | (with_reducible refine (HC4.out _).mono ?_)); rintro e wc ⟨rfl, hwc⟩; subst wc) | (go_at_call 8; (with_reducible refine (HB1.out _ (HE.out.below HBa.out)).mono ?_); rintro e w2 ⟨rfl, hb2⟩; have HBb := Lib.hid (HBa.out.trans (hb2.mono HBa.out.size)); clear hb2) | (go_at_call 8; (with_reducible refine (HB2.out _ (HE.out.below HBb.out)).mono ?_); rintro e w3 ⟨rfl, hb3⟩; have HBc := Lib.hid (HBb.out.trans (hb3.mono HBb.out.size)); clear hb3) | (go_at_call 8; (with_reducible refine (HB3.out _ (HE.out.below HBc.out)).mono ?_); rintro e w4 ⟨rfl, hb4⟩; have HBd := Lib.hid (HBc.out.trans (hb4.mono HBc.out.size)); clear hb4))
    go_ret
    exact ⟨by rw [HS.out]; rfl, HBd.out⟩
  · have e1 : (u - 4294967296 != u) = true := by simp; omega
    go_enter Tryd.func4, Tryd.ntmps4
    go_wp2_with (first | (go_at_call 6; (with_reducible refine HW.out.mono ?_); rintro e w1 ⟨rfl, hb1⟩; have HBa := Lib.hid hb1; clear hb1) | (go_at_call 9; (first | (with_reducible refine (HC1.out _).mono ?_) | (with_reducible refine (HC2.out _).mono ?_) | (with_reducible refine (HC3.out _).mono ?_) | (with_reducible refine (HC4.out _).mono ?_)); rintro e wc ⟨rfl, hwc⟩; subst wc) | (go_at_call 8; (with_reducible refine (HB1.out _ (HE.out.below HBa.out)).mono ?_); rintro e w2 ⟨rfl, hb2⟩; have HBb := Lib.hid (HBa.out.trans (hb2.mono HBa.out.size)); clear hb2) | (go_at_call 8; (with_reducible refine (HB2.out _ (HE.out.below HBb.out)).mono ?_); rintro e w3 ⟨rfl, hb3⟩; have HBc := Lib.hid (HBb.out.trans (hb3.mono HBb.out.size)); clear hb3) | (go_at_call 8; (with_reducible refine (HB3.out _ (HE.out.below HBc.out)).mono ?_); rintro e w4 ⟨rfl, hb4⟩; have HBd := Lib.hid (HBc.out.trans (hb4.mono HBc.out.size)); clear hb4))
    go_ret
    exact ⟨by rw [HS.out]; rfl, HBd.out⟩
theorem foldConverts_ok (n m : Int) (t : ByteArray) (w : World) (hE : TE w) : Calls Tryd.prog 4 #[.int .i64 n, .int .i64 m, .string t] w fun e w' => e = .returned (.bool true) ∧ Below w.heap.size w w' := by
  rcases hi : isIntS t with _ | _
  · have HW := Lib.hid (works12_ok w hE)
    have HC1 := Lib.hid (fun w => show Calls Tryd.prog 9 #[.int .i64 n, .string t] w (fun e w' => e = .returned (.tuple #[.int .i64 0, .int .i64 5]) ∧ w' = w) from by
      have := convert_ok n t w
      rw [show convE n t = (0, 5) from by unfold convE; rw [if_pos hi]] at this
      exact this)
    have HI := Lib.hid (fun w => hi ▸ isInt_ok t w)
    clear hE hi
    go_enter Tryd.func4, Tryd.ntmps4
    go_wp2_with (first | (go_at_call 6; (with_reducible refine HW.out.mono ?_); rintro e w1 ⟨rfl, hb1⟩; have HBa := Lib.hid hb1; clear hb1) | (go_at_call 9; (with_reducible refine (HC1.out _).mono ?_); rintro e wc ⟨rfl, hwc⟩; subst wc) | (go_at_call 7; (with_reducible refine (HI.out _).mono ?_); rintro e wc ⟨rfl, hwc⟩; subst wc))
    go_ret
    exact ⟨rfl, HBa.out⟩
  · have ht := isIntS_int hi
    have hu := asI_ui2 n
    exact conv_walk n m (asI n t) (asI n uText12) (asI n iText12) _ _ _ t w hE (convE_is ht) (by rw [convE_is ht, asI_twice]) (convE_is (.inl rfl)) (convE_is (.inr (.inr (.inr rfl)))) ⟨hu.1, hu.2.1⟩ hu.2.2 (fun h => by rw [h]; rfl) (fun h => by rw [h]; rfl) (lt_is n m ht) (eq_is n m ht) (gt_is n m ht) (truth_bd _) (cmp_sum _ _)
end Go.Proofs.YtlcfejgjeljjdaaDoor

