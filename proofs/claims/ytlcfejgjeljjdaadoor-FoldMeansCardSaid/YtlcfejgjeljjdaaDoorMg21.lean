/- What the reference reckons is what the program reckons. Plain: nothing of the program. · Operations on numbers of any types: the program. -/
import Derived.Test.YtlcfejgjeljjdaaDoorMg16
import Derived.Laws.BitsLemmas
import Derived.Test.YtlcfejgjeljjdaaDoorFoldB3
namespace Go.Proofs.YtlcfejgjeljjdaaDoor
open Go.RowKit

theorem bytes_of {s : ByteArray} {x : ByteArray} (h : s.data.toList = x.data.toList) : s = x := by
  cases s; cases x; simp only [Array.toList_inj] at h; rw [h]
/-- the binary operations' marks -/
def binMarks : List ByteArray := [mMul, mDiv, mRem, mAdd, mSub, mShl, mShr, mLt, mGt, mLe, mGe, mEq, mNe, mAnd, mXor, mOr, mAnd2, mOr2]
def unMarks : List ByteArray := [mSub, mCpl, mNot]
def convE (a : Int) (x : ByteArray) : Int × Int := if isIntS x = false then (0, 5) else (asI a x, 0)
end Go.Proofs.YtlcfejgjeljjdaaDoor
namespace Go.Proofs.YtlcfejgjeljjdaaDoor
open Go.RowKit

/-- a number, or none -/
def numR : Option Num → Value
  | some v => .tuple #[numV v, .bool true]
  | none => .tuple #[numV (⟨#[]⟩, 0), .bool false]
theorem mono_ret {F : FuncId} {xs : Array Value} {w : World} {u v : Value} (h : Calls Tryd.prog F xs w fun e w' => e = .returned u ∧ Below w.heap.size w w') (e : u = v) : Calls Tryd.prog F xs w fun e w' => e = .returned v ∧ Below w.heap.size w w' := e ▸ h
theorem mem_bin {m : ByteArray} (h : Lib.containsS binMarks m = true) : m = mMul ∨ m = mDiv ∨ m = mRem ∨ m = mAdd ∨ m = mSub ∨ m = mShl ∨ m = mShr ∨ m = mLt ∨ m = mGt ∨ m = mLe ∨ m = mGe ∨ m = mEq ∨ m = mNe ∨ m = mAnd ∨ m = mXor ∨ m = mOr ∨ m = mAnd2 ∨ m = mOr2 := by
  have h := (Lib.containsS_iff _ _).1 h
  simpa [binMarks] using h
theorem mem_un {m : ByteArray} (h : Lib.containsS unMarks m = true) : m = mSub ∨ m = mCpl ∨ m = mNot := by
  have h := (Lib.containsS_iff _ _).1 h
  simpa [unMarks] using h
theorem beq_dec (a b : Int) : (a == b) = decide (a = b) := by rw [Bool.eq_iff_iff]; simp
theorem bne_dec (a b : Int) : (a != b) = decide (a ≠ b) := by rw [Bool.eq_iff_iff]; simp
theorem binary_ok (m : ByteArray) (hm : Lib.containsS binMarks m = true) (x y : Num) (hx : IntT x.1) (hy : IntT y.1) (w : World) (hE : TE w) :
    Calls Tryd.prog 16 #[.string m, numV x, numV y] w fun e w' => e = .returned (numR (binI m x.1 x.2 y.1 y.2)) ∧ Below w.heap.size w w' := by
  rcases mem_bin hm with h | h | h | h | h | h | h | h | h | h | h | h | h | h | h | h | h | h <;> subst h <;> clear hm
  · exact mono_ret (binary_mul x y hx hy w hE) rfl
  · by_cases hz : asI y.2 (commI x.1 y.1) = 0
    · refine mono_ret (binary_div0 x y hx hy hz w hE) ?_
      have : binI mDiv x.1 x.2 y.1 y.2 = (if asI y.2 (commI x.1 y.1) = 0 then none else some ((asI x.2 (commI x.1 y.1)).tdiv (asI y.2 (commI x.1 y.1)))).map fun n => (commI x.1 y.1, asI n (commI x.1 y.1)) := rfl
      rw [this, if_pos hz]; rfl
    · refine mono_ret (binary_div1 x y hx hy hz w hE) ?_
      have : binI mDiv x.1 x.2 y.1 y.2 = (if asI y.2 (commI x.1 y.1) = 0 then none else some ((asI x.2 (commI x.1 y.1)).tdiv (asI y.2 (commI x.1 y.1)))).map fun n => (commI x.1 y.1, asI n (commI x.1 y.1)) := rfl
      rw [this, if_neg hz]; rfl
  · by_cases hz : asI y.2 (commI x.1 y.1) = 0
    · refine mono_ret (binary_rem0 x y hx hy hz w hE) ?_
      have : binI mRem x.1 x.2 y.1 y.2 = (if asI y.2 (commI x.1 y.1) = 0 then none else some ((asI x.2 (commI x.1 y.1)).tmod (asI y.2 (commI x.1 y.1)))).map fun n => (commI x.1 y.1, asI n (commI x.1 y.1)) := rfl
      rw [this, if_pos hz]; rfl
    · refine mono_ret (binary_rem1 x y hx hy hz w hE) ?_
      have : binI mRem x.1 x.2 y.1 y.2 = (if asI y.2 (commI x.1 y.1) = 0 then none else some ((asI x.2 (commI x.1 y.1)).tmod (asI y.2 (commI x.1 y.1)))).map fun n => (commI x.1 y.1, asI n (commI x.1 y.1)) := rfl
      rw [this, if_neg hz]; rfl
  · exact mono_ret (binary_add x y hx hy w hE) rfl
  · exact mono_ret (binary_sub x y hx hy w hE) rfl
  · exact mono_ret (binary_shl x y hx w hE) rfl
  · rcases promI_ui x.1 with hp | hp
    · refine mono_ret (binary_shru x y hx hp w hE) ?_
      show numR (some (promI x.1, asI (shruW (asI x.2 (promI x.1)) y.2) (promI x.1))) = numR (some (promI x.1, asI (if promI x.1 = iText12 then shrsW (asI x.2 (promI x.1)) y.2 else shruW (asI x.2 (promI x.1)) y.2) (promI x.1)))
      rw [if_neg (by rw [hp]; decide)]
    · refine mono_ret (binary_shrs x y hx hp w hE) ?_
      show numR (some (promI x.1, asI (shrsW (asI x.2 (promI x.1)) y.2) (promI x.1))) = numR (some (promI x.1, asI (if promI x.1 = iText12 then shrsW (asI x.2 (promI x.1)) y.2 else shruW (asI x.2 (promI x.1)) y.2) (promI x.1)))
      rw [if_pos hp]
  · exact mono_ret (binary_lt x y hx hy w hE) rfl
  · exact mono_ret (binary_gt x y hx hy w hE) rfl
  · exact mono_ret (binary_le x y hx hy w hE) rfl
  · exact mono_ret (binary_ge x y hx hy w hE) rfl
  · refine mono_ret (binary_eq x y hx hy w hE) ?_
    rw [beq_dec]; rfl
  · refine mono_ret (binary_ne x y hx hy w hE) ?_
    rw [bne_dec]; rfl
  · exact mono_ret (binary_and x y hx hy w hE) rfl
  · exact mono_ret (binary_xor x y hx hy w hE) rfl
  · exact mono_ret (binary_or x y hx hy w hE) rfl
  · by_cases hz : x.2 = 0
    · exact mono_ret (binary_both0 x y hz w) rfl
    · exact mono_ret (binary_both1 x y hz w) rfl
  · by_cases hz : x.2 = 0
    · exact mono_ret (binary_either0 x y hz w) rfl
    · exact mono_ret (binary_either1 x y hz w) rfl
theorem unary_ok (m : ByteArray) (hm : Lib.containsS unMarks m = true) (x : Num) (hx : IntT x.1) (w : World) (hE : TE w) :
    Calls Tryd.prog 60 #[.string m, numV x] w fun e w' => e = .returned (numR (unI m x.1 x.2)) ∧ Below w.heap.size w w' := by
  rcases mem_un hm with h | h | h <;> subst h <;> clear hm
  · exact mono_ret (unary_neg x hx w hE) rfl
  · exact mono_ret (unary_cpl x hx w hE) rfl
  · exact mono_ret (unary_not x w) rfl
theorem unI_some {m x : ByteArray} {a : Int} (hm : Lib.containsS unMarks m = true) : ∃ v, unI m x a = some v := by
  rcases mem_un hm with h | h | h <;> subst h <;> exact ⟨_, rfl⟩
end Go.Proofs.YtlcfejgjeljjdaaDoor
