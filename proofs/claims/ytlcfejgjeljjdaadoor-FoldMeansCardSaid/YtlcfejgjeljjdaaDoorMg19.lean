/- Where parts begin: the reference. · How many parts a kind has: both texts. -/
import Derived.Test.YtlcfejgjeljjdaaDoorBegins
import Derived.Test.YtlcfejgjeljjdaaDoorMg13
import Derived.Test.YtlcfejgjeljjdaaDoorChecked
import Derived.Test.YtlcfejgjeljjdaaDoorMg1
namespace Go.Proofs.YtlcfejgjeljjdaaDoor
open Go.RowKit

theorem ba1 (w : World) (o : Obj) : Below w.heap.size w (w.alloc o) := (Below.refl _ _).alloc (Nat.le_refl _) _
theorem own_at {w : World} {B n g cap size : Nat} {T : TypeId} {xs : List Value} (h : w.ownsRow B T size (.slice (some ⟨g, 0, none⟩) n cap) n xs) : n ≤ cap ∧ cap ≤ maxLen ∧ B ≤ g ∧ g < w.heap.size := by
  rcases h.2 with ⟨h, _⟩ | ⟨q, _, _, h', hb, hq, h1, h2, _⟩
  · simp at h
  · simp only [Value.slice.injEq, Option.some.injEq, Addr.mk.injEq, and_true, true_and] at h'
    exact ⟨by rw [h'.2]; exact h1, by rw [h'.2]; exact h2, by rw [h'.1]; exact hb, by rw [h'.1]; exact lt_of_heap hq⟩
end Go.Proofs.YtlcfejgjeljjdaaDoor
namespace Go.Proofs.YtlcfejgjeljjdaaDoor
open Go.RowKit

theorem kinds (k : Int) : k = 1 ∨ k = 2 ∨ k = 3 ∨ k = 17 ∨ k = 30 ∨ k = 31 ∨ k = 33 ∨ k = 4 ∨ k = 5 ∨ k = 6 ∨ k = 13 ∨ k = 14 ∨ k = 15 ∨ k = 16 ∨ k = 20 ∨ k = 29 ∨ k = 7 ∨ k = 8 ∨ k = 10 ∨ k = 12 ∨ k = 24 ∨ k = 25 ∨ k = 27 ∨ k = 28 ∨ k = 9 ∨ k = 26 ∨ k = 11 ∨ k = 21 ∨ k = 22 ∨ k = 32 ∨ k = 23 ∨ (k ≠ 1 ∧ k ≠ 2 ∧ k ≠ 3 ∧ k ≠ 17 ∧ k ≠ 30 ∧ k ≠ 31 ∧ k ≠ 33 ∧ k ≠ 4 ∧ k ≠ 5 ∧ k ≠ 6 ∧ k ≠ 13 ∧ k ≠ 14 ∧ k ≠ 15 ∧ k ≠ 16 ∧ k ≠ 20 ∧ k ≠ 29 ∧ k ≠ 7 ∧ k ≠ 8 ∧ k ≠ 10 ∧ k ≠ 12 ∧ k ≠ 24 ∧ k ≠ 25 ∧ k ≠ 27 ∧ k ≠ 28 ∧ k ≠ 9 ∧ k ≠ 26 ∧ k ≠ 11 ∧ k ≠ 21 ∧ k ≠ 22 ∧ k ≠ 32 ∧ k ≠ 23) := by omega

theorem arity_no {k : Int} (h : k ≠ 1 ∧ k ≠ 2 ∧ k ≠ 3 ∧ k ≠ 17 ∧ k ≠ 30 ∧ k ≠ 31 ∧ k ≠ 33 ∧ k ≠ 4 ∧ k ≠ 5 ∧ k ≠ 6 ∧ k ≠ 13 ∧ k ≠ 14 ∧ k ≠ 15 ∧ k ≠ 16 ∧ k ≠ 20 ∧ k ≠ 29 ∧ k ≠ 7 ∧ k ≠ 8 ∧ k ≠ 10 ∧ k ≠ 12 ∧ k ≠ 24 ∧ k ≠ 25 ∧ k ≠ 27 ∧ k ≠ 28 ∧ k ≠ 9 ∧ k ≠ 26 ∧ k ≠ 11 ∧ k ≠ 21 ∧ k ≠ 22 ∧ k ≠ 32 ∧ k ≠ 23) : arityN k = (-1, -1) := by
  unfold arityN
  rw [if_neg (by omega), if_neg (by omega), if_neg (by omega), if_neg (by omega), if_neg (by omega), if_neg (by omega), if_neg (by omega), if_neg (by omega), if_neg (by omega)]
set_option maxHeartbeats 8000000 in
theorem arity_ok (k : Int) (w : World) : Calls Tryd.prog 50 #[.int .i64 k] w fun e w' => e = .returned (.tuple #[.int .i64 (arityN k).1, .int .i64 (arityN k).2]) ∧ w' = w := by
  rcases kinds k with rfl | rfl | rfl | rfl | rfl | rfl | rfl | rfl | rfl | rfl | rfl | rfl | rfl | rfl | rfl | rfl | rfl | rfl | rfl | rfl | rfl | rfl | rfl | rfl | rfl | rfl | rfl | rfl | rfl | rfl | rfl | h
  case' inr.inr.inr.inr.inr.inr.inr.inr.inr.inr.inr.inr.inr.inr.inr.inr.inr.inr.inr.inr.inr.inr.inr.inr.inr.inr.inr.inr.inr.inr.inr =>
    rw [arity_no h]
    obtain ⟨n1, n2, n3, n17, n30, n31, n33, n4, n5, n6, n13, n14, n15, n16, n20, n29, n7, n8, n10, n12, n24, n25, n27, n28, n9, n26, n11, n21, n22, n32, n23⟩ := h
    have t1 : (k == 1) = false := by rw [beq_eq_false_iff_ne]; exact n1
    have t2 : (k == 2) = false := by rw [beq_eq_false_iff_ne]; exact n2
    have t3 : (k == 3) = false := by rw [beq_eq_false_iff_ne]; exact n3
    have t4 : (k == 4) = false := by rw [beq_eq_false_iff_ne]; exact n4
    have t5 : (k == 5) = false := by rw [beq_eq_false_iff_ne]; exact n5
    have t6 : (k == 6) = false := by rw [beq_eq_false_iff_ne]; exact n6
    have t7 : (k == 7) = false := by rw [beq_eq_false_iff_ne]; exact n7
    have t8 : (k == 8) = false := by rw [beq_eq_false_iff_ne]; exact n8
    have t9 : (k == 9) = false := by rw [beq_eq_false_iff_ne]; exact n9
    have t10 : (k == 10) = false := by rw [beq_eq_false_iff_ne]; exact n10
    have t11 : (k == 11) = false := by rw [beq_eq_false_iff_ne]; exact n11
    have t12 : (k == 12) = false := by rw [beq_eq_false_iff_ne]; exact n12
    have t13 : (k == 13) = false := by rw [beq_eq_false_iff_ne]; exact n13
    have t14 : (k == 14) = false := by rw [beq_eq_false_iff_ne]; exact n14
    have t15 : (k == 15) = false := by rw [beq_eq_false_iff_ne]; exact n15
    have t16 : (k == 16) = false := by rw [beq_eq_false_iff_ne]; exact n16
    have t17 : (k == 17) = false := by rw [beq_eq_false_iff_ne]; exact n17
    have t20 : (k == 20) = false := by rw [beq_eq_false_iff_ne]; exact n20
    have t21 : (k == 21) = false := by rw [beq_eq_false_iff_ne]; exact n21
    have t22 : (k == 22) = false := by rw [beq_eq_false_iff_ne]; exact n22
    have t23 : (k == 23) = false := by rw [beq_eq_false_iff_ne]; exact n23
    have t24 : (k == 24) = false := by rw [beq_eq_false_iff_ne]; exact n24
    have t25 : (k == 25) = false := by rw [beq_eq_false_iff_ne]; exact n25
    have t26 : (k == 26) = false := by rw [beq_eq_false_iff_ne]; exact n26
    have t27 : (k == 27) = false := by rw [beq_eq_false_iff_ne]; exact n27
    have t28 : (k == 28) = false := by rw [beq_eq_false_iff_ne]; exact n28
    have t29 : (k == 29) = false := by rw [beq_eq_false_iff_ne]; exact n29
    have t30 : (k == 30) = false := by rw [beq_eq_false_iff_ne]; exact n30
    have t31 : (k == 31) = false := by rw [beq_eq_false_iff_ne]; exact n31
    have t32 : (k == 32) = false := by rw [beq_eq_false_iff_ne]; exact n32
    have t33 : (k == 33) = false := by rw [beq_eq_false_iff_ne]; exact n33
    clear n1 n2 n3 n17 n30 n31 n33 n4 n5 n6 n13 n14 n15 n16 n20 n29 n7 n8 n10 n12 n24 n25 n27 n28 n9 n26 n11 n21 n22 n32 n23
  all_goals
    go_enter Tryd.func50, Tryd.ntmps50
    go_wp2_with fail
    go_ret2
    exact ⟨by rfl, rfl⟩
end Go.Proofs.YtlcfejgjeljjdaaDoor
