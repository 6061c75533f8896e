/- Types and numbers that a node may have: both texts. -/
import Derived.Test.YtbbaooeioogijaaDoorMg9
import Derived.Test.YtbbaooeioogijaaDoorMg14
import Derived.Test.YtbbaooeioogijaaDoorMg6
import Derived.Test.YtbbaooeioogijaaDoorMarks
import Derived.Test.YtbbaooeioogijaaDoorMg10
namespace Go.Proofs.YtbbaooeioogijaaDoor
open Go.RowKit

theorem ret_bool9 {a b : Bool} (h : a = b) : Ending.returned (.bool a) = .returned (.bool b) := by rw [h]
theorem typed_tri (s : ByteArray) : (checkS [] s = 0 ∧ typedS s = true) ∨ (checkS [] s ≠ 0 ∧ checkS [] s = 4 ∧ typedS s = true) ∨ (checkS [] s ≠ 0 ∧ checkS [] s ≠ 4 ∧ typedS s = false) := by
  unfold typedS
  by_cases h0 : checkS [] s = 0
  · exact .inl ⟨h0, by simp [h0]⟩
  · by_cases h4 : checkS [] s = 4
    · exact .inr (.inl ⟨h0, h4, by simp [h4]⟩)
    · exact .inr (.inr ⟨h0, h4, by simp [h0, h4]⟩)
theorem typed_some {s : ByteArray} (h : typedS s = true) : ∃ t, tyS s = some t ∧ s = tyB t ∧ Right t := by
  unfold typedS at h
  cases ht : tyS s with
  | none => rw [checkS_none ht] at h; simp at h
  | some t =>
    obtain ⟨h1, h2, _⟩ := tyS_some.1 ht
    exact ⟨t, rfl, h1, h2⟩
set_option maxHeartbeats 1000000 in
theorem typed_ok (s : ByteArray) (w : World) (hE : TE w) : Calls Tryd.prog 62 #[.string s] w fun e w' => e = .returned (.bool (typedS s)) ∧ Below w.heap.size w w' := by
  have HC := Lib.hid (checkNil_ok s w hE)
  rcases typed_tri s with ⟨h0, h⟩ | ⟨h0, h4, h⟩ | ⟨h0, h4, h⟩
  case' inl =>
    rw [h0] at HC
    rw [h]
    clear h0 h
  case' inr.inl =>
    rw [h4] at HC
    rw [h]
    clear h0 h4 h
  case' inr.inr =>
    have t1 : (checkS [] s == 0) = false := by simp [h0]
    have t2 : (checkS [] s == 4) = false := by simp [h4]
    rw [h]
    clear h0 h4 h
    generalize checkS [] s = c at *
  all_goals
    go_enter Tryd.func62, Tryd.ntmps62
    go_wp2_with (go_at_call 54; (with_reducible refine HC.out.mono ?_); rintro e w1 ⟨rfl, hb1⟩; have HB1 := Lib.hid hb1; clear hb1)
    go_ret
    exact ⟨rfl, HB1.out⟩
theorem object_is {s : ByteArray} {t : Ty} (h : tyS s = some t) : objectS s = objectT t := by unfold objectS; rw [h]; rfl
set_option maxHeartbeats 1000000 in
theorem objectS_ok (s : ByteArray) (w : World) (hty : typedS s = true) : Calls Tryd.prog 55 #[.string s] w fun e w' => e = .returned (.bool (objectS s)) ∧ w' = w := by
  obtain ⟨t, ht, rfl, hr⟩ := typed_some hty
  rw [object_is ht]
  clear ht hty
  have hv := one_is hr 118
  have h0 := (tyB_head t).1
  have hf : ((((tyB t)[0]'h0).toNat : Int) == 102) = isFnT t := head_fn' hr
  have ho : objectT t = (!isC 118 t && !isFnT t) := by rw [objectT, isVoid_is]
  generalize tyB t = s at *
  rcases h1 : isC 118 t with _ | _
  · rw [h1] at hv ho
    have hv' : (s.toList != [118]) = true := by rw [bne, hv]; rfl
    rcases h2 : isFnT t with _ | _
    · rw [h2] at hf ho
      have hf' : ((s[0].toNat : Int) != 102) = true := by rw [bne, hf]; rfl
      have hfin := Lib.hid ho
      clear ho h1 h2
      go_enter Tryd.func55, Tryd.ntmps55
      go_wp2_with fail
      go_ret
      exact ⟨by rw [hfin.out]; rfl, rfl⟩
    · rw [h2] at hf ho
      have hf' : ((s[0].toNat : Int) != 102) = false := by rw [bne, hf]; rfl
      have hfin := Lib.hid ho
      clear ho h1 h2
      go_enter Tryd.func55, Tryd.ntmps55
      go_wp2_with fail
      go_ret
      exact ⟨by rw [hfin.out]; rfl, rfl⟩
  · rw [h1] at hv ho
    have hv' : (s.toList != [118]) = false := by rw [bne, hv]; rfl
    have hfin := Lib.hid ho
    clear ho h1 hf
    go_enter Tryd.func55, Tryd.ntmps55
    go_wp2_with fail
    go_ret
    exact ⟨by rw [hfin.out]; rfl, rfl⟩
theorem lit_u (s : ByteArray) : (s = ⟨#[117]⟩) ↔ s.data.toList = [117] := ⟨fun h => by rw [h], fun h => toList_eq (by rw [h])⟩
theorem lit_i (s : ByteArray) : (s = ⟨#[105]⟩) ↔ s.data.toList = [105] := ⟨fun h => by rw [h], fun h => toList_eq (by rw [h])⟩
/-- a number's cases -/
theorem number_cases (i : Int) (t : ByteArray) {k n p : Int} {s : ByteArray} :
    (t.data.toList = [117] ∧ i < 0 ∧ numberN ⟨k, n, p, i, s, t⟩ = false) ∨ (t.data.toList = [117] ∧ 0 ≤ i ∧ 4294967296 ≤ i ∧ numberN ⟨k, n, p, i, s, t⟩ = false) ∨ (t.data.toList = [117] ∧ 0 ≤ i ∧ i < 4294967296 ∧ numberN ⟨k, n, p, i, s, t⟩ = true) ∨
    (t.data.toList = [105] ∧ i < -128 ∧ numberN ⟨k, n, p, i, s, t⟩ = false) ∨ (t.data.toList = [105] ∧ -128 ≤ i ∧ 2147483648 ≤ i ∧ numberN ⟨k, n, p, i, s, t⟩ = false) ∨ (t.data.toList = [105] ∧ -128 ≤ i ∧ i < 2147483648 ∧ numberN ⟨k, n, p, i, s, t⟩ = true) ∨
    (t.data.toList ≠ [117] ∧ t.data.toList ≠ [105] ∧ numberN ⟨k, n, p, i, s, t⟩ = false) := by
  by_cases hu : t.data.toList = [117]
  · have e : ∀ b, numberN ⟨k, n, p, i, s, t⟩ = b ↔ decide (0 ≤ i ∧ i < 4294967296) = b := fun b => by unfold numberN; rw [if_pos ((lit_u t).2 hu)]
    by_cases h0 : i < 0
    · exact .inl ⟨hu, h0, (e _).2 (decide_eq_false (by omega))⟩
    · by_cases h1 : i < 4294967296
      · exact .inr (.inr (.inl ⟨hu, by omega, h1, (e _).2 (decide_eq_true (by omega))⟩))
      · exact .inr (.inl ⟨hu, by omega, by omega, (e _).2 (decide_eq_false (by omega))⟩)
  · by_cases hi : t.data.toList = [105]
    · have e : ∀ b, numberN ⟨k, n, p, i, s, t⟩ = b ↔ decide (-128 ≤ i ∧ i < 2147483648) = b := fun b => by
        unfold numberN
        rw [if_neg (fun h => hu ((lit_u t).1 h)), decide_eq_true ((lit_i t).2 hi), Bool.true_and]
      by_cases h0 : i < -128
      · exact .inr (.inr (.inr (.inl ⟨hi, h0, (e _).2 (decide_eq_false (by omega))⟩)))
      · by_cases h1 : i < 2147483648
        · exact .inr (.inr (.inr (.inr (.inr (.inl ⟨hi, by omega, h1, (e _).2 (decide_eq_true (by omega))⟩)))))
        · exact .inr (.inr (.inr (.inr (.inl ⟨hi, by omega, by omega, (e _).2 (decide_eq_false (by omega))⟩))))
    · refine .inr (.inr (.inr (.inr (.inr (.inr ⟨hu, hi, ?_⟩)))))
      unfold numberN
      rw [if_neg (fun h => hu ((lit_u t).1 h)), decide_eq_false (fun h => hi ((lit_i t).1 h)), Bool.false_and]
theorem empty_is (s : ByteArray) : s.toList.isEmpty = noText s := by
  rw [Lib.toList_data, noText, Bool.eq_iff_iff, decide_eq_true_iff, List.isEmpty_iff, ← List.length_eq_zero_iff, Array.length_toList]
  exact Iff.rfl

set_option maxHeartbeats 2000000 in
theorem ndNumber_ok (k n p i : Int) (s t : ByteArray) (w : World) : Calls Tryd.prog 61 #[.agg #[.int .i64 k, .int .i64 n, .int .i64 p, .int .i64 i, .string s, .string t]] w fun e w' => e = .returned (.bool (numberN ⟨k, n, p, i, s, t⟩)) ∧ Below w.heap.size w w' := by
  rcases number_cases (k := k) (n := n) (p := p) (s := s) i t with ⟨hu, a1, h⟩ | ⟨hu, a1, a2, h⟩ | ⟨hu, a1, a2, h⟩ | ⟨hu, a1, h⟩ | ⟨hu, a1, a2, h⟩ | ⟨hu, a1, a2, h⟩ | ⟨hu, a1, h⟩
  case' inl =>
    have q1 : (t.toList == [117]) = true := lit_eq hu rfl
  case' inr.inl =>
    have q1 : (t.toList == [117]) = true := lit_eq hu rfl
  case' inr.inr.inl =>
    have q1 : (t.toList == [117]) = true := lit_eq hu rfl
  case' inr.inr.inr.inl =>
    have q1 : (t.toList == [117]) = false := lit_eq hu rfl
    have q2 : (t.toList == [105]) = true := lit_eq hu rfl
  case' inr.inr.inr.inr.inl =>
    have q1 : (t.toList == [117]) = false := lit_eq hu rfl
    have q2 : (t.toList == [105]) = true := lit_eq hu rfl
  case' inr.inr.inr.inr.inr.inl =>
    have q1 : (t.toList == [117]) = false := lit_eq hu rfl
    have q2 : (t.toList == [105]) = true := lit_eq hu rfl
  case' inr.inr.inr.inr.inr.inr =>
    have q1 : (t.toList == [117]) = false := lit_ne hu
    have q2 : (t.toList == [105]) = false := lit_ne a1
    clear a1
  all_goals
    rw [h]
    clear hu h
    go_enter Tryd.func61, Tryd.ntmps61
    go_upto_region 1 with fail
    have hx1 : (w.alloc (ndObj ⟨k, n, p, i, s, t⟩)).heap[w.heap.size]? = some (.cells #[.int .i64 k, .int .i64 n, .int .i64 p, .int .i64 i, .string s, .string t] 48 (0, 0)) := heap_alloc_new _ _
    have hb1 : Below w.heap.size w (w.alloc (ndObj ⟨k, n, p, i, s, t⟩)) := (Below.refl _ _).alloc (Nat.le_refl _) _
    simp only [ndObj] at hx1 hb1
    generalize w.alloc (.cells #[.int .i64 k, .int .i64 n, .int .i64 p, .int .i64 i, .string s, .string t] 48) = w1 at *
    have hz1 := lt_of_heap hx1
    obtain ⟨⟨d0, d1, d2, d3, d4, d5⟩, _⟩ := six_block hx1
    have HX1 := Lib.hid hx1
    have HB1 := Lib.hid hb1
    clear hx1 hb1
    go_wp2_with fail
    go_ret
    first | exact ⟨rfl, HB1.out⟩ | exact ⟨ret_bool9 (decide_eq_false (by omega)), HB1.out⟩ | exact ⟨ret_bool9 (decide_eq_true (by omega)), HB1.out⟩
end Go.Proofs.YtbbaooeioogijaaDoor

