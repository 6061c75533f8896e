/- Sums and products turn about; a difference is laid on again; quotient and rest make the number. Plain: nothing of the program. -/
import Derived.Test.YtlcfejgjeljjdaaDoorMg19
namespace Go.Proofs.YtlcfejgjeljjdaaDoor
open Go.RowKit

theorem binE_is {m x y : ByteArray} {a b : Int} (hm : Lib.containsS binMarks m = true) (hx : IntT x) (hy : IntT y) : binE m a x b y = match binI m x (asI a x) y (asI b y) with
    | none => (0, ⟨#[]⟩, 120)
    | some v => (v.2, v.1, 0) := by
  unfold binE
  rw [if_neg (by rw [hm]; simp), if_neg (by rw [isIntS_of hx, isIntS_of hy]; simp)]
  rfl
theorem binE_some {m x y : ByteArray} {a b : Int} {v : Num} (hm : Lib.containsS binMarks m = true) (hx : IntT x) (hy : IntT y) (h : binI m x (asI a x) y (asI b y) = some v) : binE m a x b y = (v.2, v.1, 0) := by
  rw [binE_is hm hx hy, h]
theorem binE_none {m x y : ByteArray} {a b : Int} (hm : Lib.containsS binMarks m = true) (hx : IntT x) (hy : IntT y) (h : binI m x (asI a x) y (asI b y) = none) : binE m a x b y = (0, ⟨#[]⟩, 120) := by
  rw [binE_is hm hx hy, h]
theorem convE_is {x : ByteArray} {a : Int} (hx : IntT x) : convE a x = (asI a x, 0) := by
  unfold convE
  rw [if_neg (by rw [isIntS_of hx]; simp)]
theorem binI_ari {m x y : ByteArray} {a b : Int} (h : m = mMul ∨ m = mDiv ∨ m = mRem ∨ m = mAdd ∨ m = mSub ∨ m = mAnd ∨ m = mXor ∨ m = mOr) : binI m x a y b = (ariI m (asI a (commI x y)) (asI b (commI x y))).map fun n => (commI x y, asI n (commI x y)) := by
  rcases h with rfl | rfl | rfl | rfl | rfl | rfl | rfl | rfl <;> rfl
theorem commI_own (x y : ByteArray) : commI (commI x y) (commI x y) = commI x y := by
  rcases commI_ui x y with h | h <;> rw [h] <;> decide
def turnMarks : List ByteArray := [mAdd, mMul, mAnd, mOr, mXor, mEq, mNe, mAnd2, mOr2]
theorem turn_in {m : ByteArray} (h : m ∈ turnMarks) : Lib.containsS binMarks m = true := by
  simp only [turnMarks, List.mem_cons, List.not_mem_nil, or_false] at h
  rcases h with rfl | rfl | rfl | rfl | rfl | rfl | rfl | rfl | rfl <;> decide +kernel
theorem binI_turn {m x y : ByteArray} {a b : Int} (h : m ∈ turnMarks) : ∃ v, binI m x a y b = some v ∧ binI m y b x a = some v := by
  simp only [turnMarks, List.mem_cons, List.not_mem_nil, or_false] at h
  rcases h with rfl | rfl | rfl | rfl | rfl | rfl | rfl | rfl | rfl
  · refine ⟨_, rfl, ?_⟩
    show some (commI y x, asI (asI b (commI y x) + asI a (commI y x)) (commI y x)) = some (commI x y, asI (asI a (commI x y) + asI b (commI x y)) (commI x y))
    rw [commI_comm y x, Int.add_comm]
  · refine ⟨_, rfl, ?_⟩
    show some (commI y x, asI (mulW (asI b (commI y x)) (asI a (commI y x))) (commI y x)) = some (commI x y, asI (mulW (asI a (commI x y)) (asI b (commI x y))) (commI x y))
    rw [commI_comm y x, mulW_comm]
  · refine ⟨_, rfl, ?_⟩
    show some (commI y x, asI (bits .and .i64 (asI b (commI y x)) (asI a (commI y x))) (commI y x)) = some (commI x y, asI (bits .and .i64 (asI a (commI x y)) (asI b (commI x y))) (commI x y))
    rw [commI_comm y x, and_comm_bits]
  · refine ⟨_, rfl, ?_⟩
    show some (commI y x, asI (bits .or .i64 (asI b (commI y x)) (asI a (commI y x))) (commI y x)) = some (commI x y, asI (bits .or .i64 (asI a (commI x y)) (asI b (commI x y))) (commI x y))
    rw [commI_comm y x, or_comm_bits]
  · refine ⟨_, rfl, ?_⟩
    show some (commI y x, asI (bits .xor .i64 (asI b (commI y x)) (asI a (commI y x))) (commI y x)) = some (commI x y, asI (bits .xor .i64 (asI a (commI x y)) (asI b (commI x y))) (commI x y))
    rw [commI_comm y x, xor_comm_bits]
  · refine ⟨_, rfl, ?_⟩
    show some (iText12, truthI (decide (asI b (commI y x) = asI a (commI y x)))) = some (iText12, truthI (decide (asI a (commI x y) = asI b (commI x y))))
    rw [commI_comm y x, decide_eq_decide.2 ⟨Eq.symm, Eq.symm⟩]
  · refine ⟨_, rfl, ?_⟩
    show some (iText12, truthI (decide (asI b (commI y x) ≠ asI a (commI y x)))) = some (iText12, truthI (decide (asI a (commI x y) ≠ asI b (commI x y))))
    rw [commI_comm y x, decide_eq_decide.2 ⟨Ne.symm, Ne.symm⟩]
  · refine ⟨_, rfl, ?_⟩
    show some (iText12, truthI (decide (b ≠ 0) && decide (a ≠ 0))) = some (iText12, truthI (decide (a ≠ 0) && decide (b ≠ 0)))
    rw [Bool.and_comm]
  · refine ⟨_, rfl, ?_⟩
    show some (iText12, truthI (decide (b ≠ 0) || decide (a ≠ 0))) = some (iText12, truthI (decide (a ≠ 0) || decide (b ≠ 0)))
    rw [Bool.or_comm]
theorem binE_turn {m x y : ByteArray} {a b : Int} (hx : IntT x) (hy : IntT y) (h : m ∈ turnMarks) : ∃ n t, binE m a x b y = (n, t, 0) ∧ binE m b y a x = (n, t, 0) := by
  obtain ⟨v, h1, h2⟩ := binI_turn (x := x) (y := y) (a := asI a x) (b := asI b y) h
  exact ⟨v.2, v.1, binE_some (turn_in h) hx hy h1, binE_some (turn_in h) hy hx h2⟩
/-- the numbers of the law -/
structure TurnF (a b : Int) (x y c : ByteArray) (A d k z : Int) : Prop where
  sub : binE mSub a x b y = (d, c, 0)
  add : binE mAdd d c b y = (A, c, 0)
  conv : convE a x = (k, 0)
  conv2 : convE k c = (A, 0)
  convb : convE b y = (z, 0)
  zero : z = 0 → binE mDiv a x b y = (0, ⟨#[]⟩, 120) ∧ binE mRem a x b y = (0, ⟨#[]⟩, 120)
  quot : z ≠ 0 → ∃ q r p, binE mDiv a x b y = (q, c, 0) ∧ binE mRem a x b y = (r, c, 0) ∧ binE mMul q c b y = (p, c, 0) ∧ binE mAdd p c r c = (A, c, 0)
theorem turn_facts (a b : Int) {x y : ByteArray} (hx : IntT x) (hy : IntT y) : ∃ A d k z, TurnF a b x y (commI x y) A d k z := by
  have hc := commI_ui x y
  have hct := commI_int x y
  have hB : asI (asI b y) (commI x y) = asI (asI b y) (commI x y) := rfl
  refine ⟨asI (asI a x) (commI x y), asI (asI (asI a x) (commI x y) - asI (asI b y) (commI x y)) (commI x y), asI a x, asI b y, ?_, ?_, convE_is hx, convE_is hct, convE_is hy, fun hz => ?_, fun hz => ?_⟩
  · rw [binE_some (by decide +kernel) hx hy (by rw [binI_ari (by simp)]; rfl)]
  · rw [binE_some (by decide +kernel) hct hy (by rw [binI_ari (by simp)]; rfl)]
    simp only [commI_twice, asI_twice]
    rw [turn_sub _ _ hc, asI_twice]
  · have hz2 : asI (asI b y) (commI x y) = 0 := (asI_zero hc (asI_range b y).1 (asI_range b y).2).2 hz
    constructor
    · refine binE_none (by decide +kernel) hx hy ?_
      rw [binI_ari (by simp)]
      show (if asI (asI b y) (commI x y) = 0 then none else some _).map _ = none
      rw [if_pos hz2]; rfl
    · refine binE_none (by decide +kernel) hx hy ?_
      rw [binI_ari (by simp)]
      show (if asI (asI b y) (commI x y) = 0 then none else some _).map _ = none
      rw [if_pos hz2]; rfl
  · have hz2 : asI (asI b y) (commI x y) ≠ 0 := fun h => hz ((asI_zero hc (asI_range b y).1 (asI_range b y).2).1 h)
    refine ⟨asI ((asI (asI a x) (commI x y)).tdiv (asI (asI b y) (commI x y))) (commI x y), asI ((asI (asI a x) (commI x y)).tmod (asI (asI b y) (commI x y))) (commI x y), asI (mulW (asI ((asI (asI a x) (commI x y)).tdiv (asI (asI b y) (commI x y))) (commI x y)) (asI (asI b y) (commI x y))) (commI x y), ?_, ?_, ?_, ?_⟩
    · refine (binE_some (v := (commI x y, _)) (by decide +kernel) hx hy ?_)
      rw [binI_ari (by simp)]
      show (if asI (asI b y) (commI x y) = 0 then none else some _).map _ = _
      rw [if_neg hz2]; rfl
    · refine (binE_some (v := (commI x y, _)) (by decide +kernel) hx hy ?_)
      rw [binI_ari (by simp)]
      show (if asI (asI b y) (commI x y) = 0 then none else some _).map _ = _
      rw [if_neg hz2]; rfl
    · rw [binE_some (by decide +kernel) hct hy (by rw [binI_ari (by simp)]; rfl)]
      simp only [commI_twice, asI_twice]
    · rw [binE_some (by decide +kernel) hct hct (by rw [binI_ari (by simp)]; rfl)]
      simp only [commI_own, asI_twice]
      rw [asI_mul, turn_div (asI (asI a x) (commI x y)) (asI (asI b y) (commI x y)) _ _ hc (by rw [Int.mul_comm]; exact (Int.mul_tdiv_add_tmod _ _).symm), asI_twice]
end Go.Proofs.YtlcfejgjeljjdaaDoor

