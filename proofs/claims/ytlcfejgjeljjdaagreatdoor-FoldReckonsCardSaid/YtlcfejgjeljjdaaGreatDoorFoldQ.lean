/- What numbers come to, as the package offers it: the program. (Printed by wip/fold/gen-exported.py.) -/
import Derived.Test.YtlcfejgjeljjdaaGreatDoorMg21
namespace Go.Proofs.YtlcfejgjeljjdaaGreatDoor
open Go.RowKit

theorem isBinary_ok (m : ByteArray) (w : World) : Calls Tryz.prog 27 #[.string m] w fun e w' => e = .returned (.bool (Lib.containsS binMarks m)) ∧ w' = w := by
  by_cases hm : Lib.containsS binMarks m = true
  · have HM := Lib.hid hm
    rcases mem_bin hm with h | h | h | h | h | h | h | h | h | h | h | h | h | h | h | h | h | h <;> subst h <;> clear hm
    · have t0 : (mMul.toList == [42]) = true := lit_eq rfl rfl
      generalize mMul = m at *
      go_enter Tryz.func27, Tryz.ntmps27
      go_wp2_with fail
      go_ret
      exact ⟨by rw [HM.out]; rfl, rfl⟩
    · have t0 : (mDiv.toList == [42]) = false := lit_eq rfl rfl; have t1 : (mDiv.toList == [47]) = true := lit_eq rfl rfl
      generalize mDiv = m at *
      go_enter Tryz.func27, Tryz.ntmps27
      go_wp2_with fail
      go_ret
      exact ⟨by rw [HM.out]; rfl, rfl⟩
    · have t0 : (mRem.toList == [42]) = false := lit_eq rfl rfl; have t1 : (mRem.toList == [47]) = false := lit_eq rfl rfl; have t2 : (mRem.toList == [37]) = true := lit_eq rfl rfl
      generalize mRem = m at *
      go_enter Tryz.func27, Tryz.ntmps27
      go_wp2_with fail
      go_ret
      exact ⟨by rw [HM.out]; rfl, rfl⟩
    · have t0 : (mAdd.toList == [42]) = false := lit_eq rfl rfl; have t1 : (mAdd.toList == [47]) = false := lit_eq rfl rfl; have t2 : (mAdd.toList == [37]) = false := lit_eq rfl rfl; have t3 : (mAdd.toList == [43]) = true := lit_eq rfl rfl
      generalize mAdd = m at *
      go_enter Tryz.func27, Tryz.ntmps27
      go_wp2_with fail
      go_ret
      exact ⟨by rw [HM.out]; rfl, rfl⟩
    · have t0 : (mSub.toList == [42]) = false := lit_eq rfl rfl; have t1 : (mSub.toList == [47]) = false := lit_eq rfl rfl; have t2 : (mSub.toList == [37]) = false := lit_eq rfl rfl; have t3 : (mSub.toList == [43]) = false := lit_eq rfl rfl; have t4 : (mSub.toList == [45]) = true := lit_eq rfl rfl
      generalize mSub = m at *
      go_enter Tryz.func27, Tryz.ntmps27
      go_wp2_with fail
      go_ret
      exact ⟨by rw [HM.out]; rfl, rfl⟩
    · have t0 : (mShl.toList == [42]) = false := lit_eq rfl rfl; have t1 : (mShl.toList == [47]) = false := lit_eq rfl rfl; have t2 : (mShl.toList == [37]) = false := lit_eq rfl rfl; have t3 : (mShl.toList == [43]) = false := lit_eq rfl rfl; have t4 : (mShl.toList == [45]) = false := lit_eq rfl rfl; have t5 : (mShl.toList == [60, 60]) = true := lit_eq rfl rfl
      generalize mShl = m at *
      go_enter Tryz.func27, Tryz.ntmps27
      go_wp2_with fail
      go_ret
      exact ⟨by rw [HM.out]; rfl, rfl⟩
    · have t0 : (mShr.toList == [42]) = false := lit_eq rfl rfl; have t1 : (mShr.toList == [47]) = false := lit_eq rfl rfl; have t2 : (mShr.toList == [37]) = false := lit_eq rfl rfl; have t3 : (mShr.toList == [43]) = false := lit_eq rfl rfl; have t4 : (mShr.toList == [45]) = false := lit_eq rfl rfl; have t5 : (mShr.toList == [60, 60]) = false := lit_eq rfl rfl; have t6 : (mShr.toList == [62, 62]) = true := lit_eq rfl rfl
      generalize mShr = m at *
      go_enter Tryz.func27, Tryz.ntmps27
      go_wp2_with fail
      go_ret
      exact ⟨by rw [HM.out]; rfl, rfl⟩
    · have t0 : (mLt.toList == [42]) = false := lit_eq rfl rfl; have t1 : (mLt.toList == [47]) = false := lit_eq rfl rfl; have t2 : (mLt.toList == [37]) = false := lit_eq rfl rfl; have t3 : (mLt.toList == [43]) = false := lit_eq rfl rfl; have t4 : (mLt.toList == [45]) = false := lit_eq rfl rfl; have t5 : (mLt.toList == [60, 60]) = false := lit_eq rfl rfl; have t6 : (mLt.toList == [62, 62]) = false := lit_eq rfl rfl; have t7 : (mLt.toList == [60]) = true := lit_eq rfl rfl
      generalize mLt = m at *
      go_enter Tryz.func27, Tryz.ntmps27
      go_wp2_with fail
      go_ret
      exact ⟨by rw [HM.out]; rfl, rfl⟩
    · have t0 : (mGt.toList == [42]) = false := lit_eq rfl rfl; have t1 : (mGt.toList == [47]) = false := lit_eq rfl rfl; have t2 : (mGt.toList == [37]) = false := lit_eq rfl rfl; have t3 : (mGt.toList == [43]) = false := lit_eq rfl rfl; have t4 : (mGt.toList == [45]) = false := lit_eq rfl rfl; have t5 : (mGt.toList == [60, 60]) = false := lit_eq rfl rfl; have t6 : (mGt.toList == [62, 62]) = false := lit_eq rfl rfl; have t7 : (mGt.toList == [60]) = false := lit_eq rfl rfl; have t8 : (mGt.toList == [62]) = true := lit_eq rfl rfl
      generalize mGt = m at *
      go_enter Tryz.func27, Tryz.ntmps27
      go_wp2_with fail
      go_ret
      exact ⟨by rw [HM.out]; rfl, rfl⟩
    · have t0 : (mLe.toList == [42]) = false := lit_eq rfl rfl; have t1 : (mLe.toList == [47]) = false := lit_eq rfl rfl; have t2 : (mLe.toList == [37]) = false := lit_eq rfl rfl; have t3 : (mLe.toList == [43]) = false := lit_eq rfl rfl; have t4 : (mLe.toList == [45]) = false := lit_eq rfl rfl; have t5 : (mLe.toList == [60, 60]) = false := lit_eq rfl rfl; have t6 : (mLe.toList == [62, 62]) = false := lit_eq rfl rfl; have t7 : (mLe.toList == [60]) = false := lit_eq rfl rfl; have t8 : (mLe.toList == [62]) = false := lit_eq rfl rfl; have t9 : (mLe.toList == [60, 61]) = true := lit_eq rfl rfl
      generalize mLe = m at *
      go_enter Tryz.func27, Tryz.ntmps27
      go_wp2_with fail
      go_ret
      exact ⟨by rw [HM.out]; rfl, rfl⟩
    · have t0 : (mGe.toList == [42]) = false := lit_eq rfl rfl; have t1 : (mGe.toList == [47]) = false := lit_eq rfl rfl; have t2 : (mGe.toList == [37]) = false := lit_eq rfl rfl; have t3 : (mGe.toList == [43]) = false := lit_eq rfl rfl; have t4 : (mGe.toList == [45]) = false := lit_eq rfl rfl; have t5 : (mGe.toList == [60, 60]) = false := lit_eq rfl rfl; have t6 : (mGe.toList == [62, 62]) = false := lit_eq rfl rfl; have t7 : (mGe.toList == [60]) = false := lit_eq rfl rfl; have t8 : (mGe.toList == [62]) = false := lit_eq rfl rfl; have t9 : (mGe.toList == [60, 61]) = false := lit_eq rfl rfl; have t10 : (mGe.toList == [62, 61]) = true := lit_eq rfl rfl
      generalize mGe = m at *
      go_enter Tryz.func27, Tryz.ntmps27
      go_wp2_with fail
      go_ret
      exact ⟨by rw [HM.out]; rfl, rfl⟩
    · have t0 : (mEq.toList == [42]) = false := lit_eq rfl rfl; have t1 : (mEq.toList == [47]) = false := lit_eq rfl rfl; have t2 : (mEq.toList == [37]) = false := lit_eq rfl rfl; have t3 : (mEq.toList == [43]) = false := lit_eq rfl rfl; have t4 : (mEq.toList == [45]) = false := lit_eq rfl rfl; have t5 : (mEq.toList == [60, 60]) = false := lit_eq rfl rfl; have t6 : (mEq.toList == [62, 62]) = false := lit_eq rfl rfl; have t7 : (mEq.toList == [60]) = false := lit_eq rfl rfl; have t8 : (mEq.toList == [62]) = false := lit_eq rfl rfl; have t9 : (mEq.toList == [60, 61]) = false := lit_eq rfl rfl; have t10 : (mEq.toList == [62, 61]) = false := lit_eq rfl rfl; have t11 : (mEq.toList == [61, 61]) = true := lit_eq rfl rfl
      generalize mEq = m at *
      go_enter Tryz.func27, Tryz.ntmps27
      go_wp2_with fail
      go_ret
      exact ⟨by rw [HM.out]; rfl, rfl⟩
    · have t0 : (mNe.toList == [42]) = false := lit_eq rfl rfl; have t1 : (mNe.toList == [47]) = false := lit_eq rfl rfl; have t2 : (mNe.toList == [37]) = false := lit_eq rfl rfl; have t3 : (mNe.toList == [43]) = false := lit_eq rfl rfl; have t4 : (mNe.toList == [45]) = false := lit_eq rfl rfl; have t5 : (mNe.toList == [60, 60]) = false := lit_eq rfl rfl; have t6 : (mNe.toList == [62, 62]) = false := lit_eq rfl rfl; have t7 : (mNe.toList == [60]) = false := lit_eq rfl rfl; have t8 : (mNe.toList == [62]) = false := lit_eq rfl rfl; have t9 : (mNe.toList == [60, 61]) = false := lit_eq rfl rfl; have t10 : (mNe.toList == [62, 61]) = false := lit_eq rfl rfl; have t11 : (mNe.toList == [61, 61]) = false := lit_eq rfl rfl; have t12 : (mNe.toList == [33, 61]) = true := lit_eq rfl rfl
      generalize mNe = m at *
      go_enter Tryz.func27, Tryz.ntmps27
      go_wp2_with fail
      go_ret
      exact ⟨by rw [HM.out]; rfl, rfl⟩
    · have t0 : (mAnd.toList == [42]) = false := lit_eq rfl rfl; have t1 : (mAnd.toList == [47]) = false := lit_eq rfl rfl; have t2 : (mAnd.toList == [37]) = false := lit_eq rfl rfl; have t3 : (mAnd.toList == [43]) = false := lit_eq rfl rfl; have t4 : (mAnd.toList == [45]) = false := lit_eq rfl rfl; have t5 : (mAnd.toList == [60, 60]) = false := lit_eq rfl rfl; have t6 : (mAnd.toList == [62, 62]) = false := lit_eq rfl rfl; have t7 : (mAnd.toList == [60]) = false := lit_eq rfl rfl; have t8 : (mAnd.toList == [62]) = false := lit_eq rfl rfl; have t9 : (mAnd.toList == [60, 61]) = false := lit_eq rfl rfl; have t10 : (mAnd.toList == [62, 61]) = false := lit_eq rfl rfl; have t11 : (mAnd.toList == [61, 61]) = false := lit_eq rfl rfl; have t12 : (mAnd.toList == [33, 61]) = false := lit_eq rfl rfl; have t13 : (mAnd.toList == [38]) = true := lit_eq rfl rfl
      generalize mAnd = m at *
      go_enter Tryz.func27, Tryz.ntmps27
      go_wp2_with fail
      go_ret
      exact ⟨by rw [HM.out]; rfl, rfl⟩
    · have t0 : (mXor.toList == [42]) = false := lit_eq rfl rfl; have t1 : (mXor.toList == [47]) = false := lit_eq rfl rfl; have t2 : (mXor.toList == [37]) = false := lit_eq rfl rfl; have t3 : (mXor.toList == [43]) = false := lit_eq rfl rfl; have t4 : (mXor.toList == [45]) = false := lit_eq rfl rfl; have t5 : (mXor.toList == [60, 60]) = false := lit_eq rfl rfl; have t6 : (mXor.toList == [62, 62]) = false := lit_eq rfl rfl; have t7 : (mXor.toList == [60]) = false := lit_eq rfl rfl; have t8 : (mXor.toList == [62]) = false := lit_eq rfl rfl; have t9 : (mXor.toList == [60, 61]) = false := lit_eq rfl rfl; have t10 : (mXor.toList == [62, 61]) = false := lit_eq rfl rfl; have t11 : (mXor.toList == [61, 61]) = false := lit_eq rfl rfl; have t12 : (mXor.toList == [33, 61]) = false := lit_eq rfl rfl; have t13 : (mXor.toList == [38]) = false := lit_eq rfl rfl; have t14 : (mXor.toList == [94]) = true := lit_eq rfl rfl
      generalize mXor = m at *
      go_enter Tryz.func27, Tryz.ntmps27
      go_wp2_with fail
      go_ret
      exact ⟨by rw [HM.out]; rfl, rfl⟩
    · have t0 : (mOr.toList == [42]) = false := lit_eq rfl rfl; have t1 : (mOr.toList == [47]) = false := lit_eq rfl rfl; have t2 : (mOr.toList == [37]) = false := lit_eq rfl rfl; have t3 : (mOr.toList == [43]) = false := lit_eq rfl rfl; have t4 : (mOr.toList == [45]) = false := lit_eq rfl rfl; have t5 : (mOr.toList == [60, 60]) = false := lit_eq rfl rfl; have t6 : (mOr.toList == [62, 62]) = false := lit_eq rfl rfl; have t7 : (mOr.toList == [60]) = false := lit_eq rfl rfl; have t8 : (mOr.toList == [62]) = false := lit_eq rfl rfl; have t9 : (mOr.toList == [60, 61]) = false := lit_eq rfl rfl; have t10 : (mOr.toList == [62, 61]) = false := lit_eq rfl rfl; have t11 : (mOr.toList == [61, 61]) = false := lit_eq rfl rfl; have t12 : (mOr.toList == [33, 61]) = false := lit_eq rfl rfl; have t13 : (mOr.toList == [38]) = false := lit_eq rfl rfl; have t14 : (mOr.toList == [94]) = false := lit_eq rfl rfl; have t15 : (mOr.toList == [124]) = true := lit_eq rfl rfl
      generalize mOr = m at *
      go_enter Tryz.func27, Tryz.ntmps27
      go_wp2_with fail
      go_ret
      exact ⟨by rw [HM.out]; rfl, rfl⟩
    · have t0 : (mAnd2.toList == [42]) = false := lit_eq rfl rfl; have t1 : (mAnd2.toList == [47]) = false := lit_eq rfl rfl; have t2 : (mAnd2.toList == [37]) = false := lit_eq rfl rfl; have t3 : (mAnd2.toList == [43]) = false := lit_eq rfl rfl; have t4 : (mAnd2.toList == [45]) = false := lit_eq rfl rfl; have t5 : (mAnd2.toList == [60, 60]) = false := lit_eq rfl rfl; have t6 : (mAnd2.toList == [62, 62]) = false := lit_eq rfl rfl; have t7 : (mAnd2.toList == [60]) = false := lit_eq rfl rfl; have t8 : (mAnd2.toList == [62]) = false := lit_eq rfl rfl; have t9 : (mAnd2.toList == [60, 61]) = false := lit_eq rfl rfl; have t10 : (mAnd2.toList == [62, 61]) = false := lit_eq rfl rfl; have t11 : (mAnd2.toList == [61, 61]) = false := lit_eq rfl rfl; have t12 : (mAnd2.toList == [33, 61]) = false := lit_eq rfl rfl; have t13 : (mAnd2.toList == [38]) = false := lit_eq rfl rfl; have t14 : (mAnd2.toList == [94]) = false := lit_eq rfl rfl; have t15 : (mAnd2.toList == [124]) = false := lit_eq rfl rfl; have t16 : (mAnd2.toList == [38, 38]) = true := lit_eq rfl rfl
      generalize mAnd2 = m at *
      go_enter Tryz.func27, Tryz.ntmps27
      go_wp2_with fail
      go_ret
      exact ⟨by rw [HM.out]; rfl, rfl⟩
    · have t0 : (mOr2.toList == [42]) = false := lit_eq rfl rfl; have t1 : (mOr2.toList == [47]) = false := lit_eq rfl rfl; have t2 : (mOr2.toList == [37]) = false := lit_eq rfl rfl; have t3 : (mOr2.toList == [43]) = false := lit_eq rfl rfl; have t4 : (mOr2.toList == [45]) = false := lit_eq rfl rfl; have t5 : (mOr2.toList == [60, 60]) = false := lit_eq rfl rfl; have t6 : (mOr2.toList == [62, 62]) = false := lit_eq rfl rfl; have t7 : (mOr2.toList == [60]) = false := lit_eq rfl rfl; have t8 : (mOr2.toList == [62]) = false := lit_eq rfl rfl; have t9 : (mOr2.toList == [60, 61]) = false := lit_eq rfl rfl; have t10 : (mOr2.toList == [62, 61]) = false := lit_eq rfl rfl; have t11 : (mOr2.toList == [61, 61]) = false := lit_eq rfl rfl; have t12 : (mOr2.toList == [33, 61]) = false := lit_eq rfl rfl; have t13 : (mOr2.toList == [38]) = false := lit_eq rfl rfl; have t14 : (mOr2.toList == [94]) = false := lit_eq rfl rfl; have t15 : (mOr2.toList == [124]) = false := lit_eq rfl rfl; have t16 : (mOr2.toList == [38, 38]) = false := lit_eq rfl rfl; have t17 : (mOr2.toList == [124, 124]) = true := lit_eq rfl rfl
      generalize mOr2 = m at *
      go_enter Tryz.func27, Tryz.ntmps27
      go_wp2_with fail
      go_ret
      exact ⟨by rw [HM.out]; rfl, rfl⟩
  · have hb : Lib.containsS binMarks m = false := by simpa using hm
    have hall : ∀ x ∈ binMarks, m ≠ x := fun x hx e => hm ((Lib.containsS_iff _ _).2 (e ▸ hx))
    have HB := Lib.hid hb
    have t0 : (m.toList == [42]) = false := lit_ne (fun e => hall mMul (by simp [binMarks]) (bytes_of e))
    have t1 : (m.toList == [47]) = false := lit_ne (fun e => hall mDiv (by simp [binMarks]) (bytes_of e))
    have t2 : (m.toList == [37]) = false := lit_ne (fun e => hall mRem (by simp [binMarks]) (bytes_of e))
    have t3 : (m.toList == [43]) = false := lit_ne (fun e => hall mAdd (by simp [binMarks]) (bytes_of e))
    have t4 : (m.toList == [45]) = false := lit_ne (fun e => hall mSub (by simp [binMarks]) (bytes_of e))
    have t5 : (m.toList == [60, 60]) = false := lit_ne (fun e => hall mShl (by simp [binMarks]) (bytes_of e))
    have t6 : (m.toList == [62, 62]) = false := lit_ne (fun e => hall mShr (by simp [binMarks]) (bytes_of e))
    have t7 : (m.toList == [60]) = false := lit_ne (fun e => hall mLt (by simp [binMarks]) (bytes_of e))
    have t8 : (m.toList == [62]) = false := lit_ne (fun e => hall mGt (by simp [binMarks]) (bytes_of e))
    have t9 : (m.toList == [60, 61]) = false := lit_ne (fun e => hall mLe (by simp [binMarks]) (bytes_of e))
    have t10 : (m.toList == [62, 61]) = false := lit_ne (fun e => hall mGe (by simp [binMarks]) (bytes_of e))
    have t11 : (m.toList == [61, 61]) = false := lit_ne (fun e => hall mEq (by simp [binMarks]) (bytes_of e))
    have t12 : (m.toList == [33, 61]) = false := lit_ne (fun e => hall mNe (by simp [binMarks]) (bytes_of e))
    have t13 : (m.toList == [38]) = false := lit_ne (fun e => hall mAnd (by simp [binMarks]) (bytes_of e))
    have t14 : (m.toList == [94]) = false := lit_ne (fun e => hall mXor (by simp [binMarks]) (bytes_of e))
    have t15 : (m.toList == [124]) = false := lit_ne (fun e => hall mOr (by simp [binMarks]) (bytes_of e))
    have t16 : (m.toList == [38, 38]) = false := lit_ne (fun e => hall mAnd2 (by simp [binMarks]) (bytes_of e))
    have t17 : (m.toList == [124, 124]) = false := lit_ne (fun e => hall mOr2 (by simp [binMarks]) (bytes_of e))
    clear hm hb hall
    go_enter Tryz.func27, Tryz.ntmps27
    go_wp2_with fail
    go_ret
    exact ⟨by rw [HB.out]; rfl, rfl⟩
theorem convert_ok (n : Int) (t : ByteArray) (w : World) : Calls Tryz.prog 17 #[.int .i64 n, .string t] w fun e w' => e = .returned (.tuple #[.int .i64 (convE n t).1, .int .i64 (convE n t).2]) ∧ w' = w := by
  have HI := Lib.hid (isInt_ok t w)
  have HA := Lib.hid (as_ok n t w)
  unfold convE
  rcases hb : isIntS t with _ | _
  · rw [hb] at HI
    rw [if_pos rfl]
    clear hb
    go_enter Tryz.func17, Tryz.ntmps17
    go_wp2_with (go_at_call 28; (with_reducible refine HI.out.mono ?_); rintro e w3 ⟨rfl, rfl⟩)
    go_ret2
    exact ⟨rfl, rfl⟩
  · rw [hb] at HI
    rw [if_neg (by simp)]
    clear hb
    generalize asI n t = r at *
    go_enter Tryz.func17, Tryz.ntmps17
    go_wp2_with (first | (go_at_call 28; (with_reducible refine HI.out.mono ?_); rintro e w3 ⟨rfl, hw3⟩; subst w3) | (go_at_call 30; (with_reducible refine HA.out.mono ?_); rintro e w4 ⟨rfl, hw4⟩; subst w4))
    go_ret2
    exact ⟨rfl, rfl⟩
/-- a number, its type, an error's number -/
def trip (x : Int × ByteArray × Int) : Value := .tuple #[.int .i64 x.1, .string x.2.1, .int .i64 x.2.2]
set_option maxHeartbeats 2000000 in
theorem ebinary_ok (m : ByteArray) (a : Int) (x : ByteArray) (b : Int) (y : ByteArray) (w : World) (hE : TE w) :
    Calls Tryz.prog 13 #[.string m, .int .i64 a, .string x, .int .i64 b, .string y] w fun e w' => e = .returned (trip (binE m a x b y)) ∧ Below w.heap.size w w' := by
  have HIB := Lib.hid (isBinary_ok m w)
  have HI1 := Lib.hid (isInt_ok x w)
  have HI2 := Lib.hid (isInt_ok y w)
  have HA1 := Lib.hid (as_ok a x w)
  have HA2 := Lib.hid (as_ok b y w)
  unfold binE trip
  rcases hm : Lib.containsS binMarks m with _ | _
  · rw [hm] at HIB
    rw [if_pos rfl]
    clear hm
    go_enter Tryz.func13, Tryz.ntmps13
    go_wp2_with (go_at_call 27; (with_reducible refine HIB.out.mono ?_); rintro e w3 ⟨rfl, hw3⟩; subst w3)
    go_ret3
    exact ⟨rfl, Below.refl _ _⟩
  rw [if_neg (by simp)]
  rcases hx : isIntS x with _ | _
  · rw [hm] at HIB
    rw [hx] at HI1
    rw [if_pos (.inl rfl)]
    clear hm hx
    go_enter Tryz.func13, Tryz.ntmps13
    go_wp2_with (first | (go_at_call 27; (with_reducible refine HIB.out.mono ?_); rintro e w3 ⟨rfl, hw3⟩; subst w3) | (go_at_call 28; (with_reducible refine HI1.out.mono ?_); rintro e w4 ⟨rfl, hw4⟩; subst w4))
    go_ret3
    exact ⟨rfl, Below.refl _ _⟩
  rcases hy : isIntS y with _ | _
  · rw [hm] at HIB
    rw [hx] at HI1
    rw [hy] at HI2
    rw [if_pos (.inr rfl)]
    clear hm hx hy
    go_enter Tryz.func13, Tryz.ntmps13
    go_wp2_with (first | (go_at_call 27; (with_reducible refine HIB.out.mono ?_); rintro e w3 ⟨rfl, hw3⟩; subst w3) | (go_at_call_of 28 x; (with_reducible refine HI1.out.mono ?_); rintro e w4 ⟨rfl, hw4⟩; subst w4) | (go_at_call_of 28 y; (with_reducible refine HI2.out.mono ?_); rintro e w5 ⟨rfl, hw5⟩; subst w5))
    go_ret3
    exact ⟨rfl, Below.refl _ _⟩
  rw [if_neg (by simp)]
  have HB := Lib.hid (binary_ok m hm (x, asI a x) (y, asI b y) (isIntS_int hx) (isIntS_int hy) w hE)
  rw [hm] at HIB
  rw [hx] at HI1
  rw [hy] at HI2
  clear hm hx hy hE
  simp only at HB
  generalize asI a x = an at *
  generalize asI b y = bn at *
  unfold numV at HB
  simp only at HB
  generalize hr : binI m x an y bn = r at *
  clear hr
  rcases r with _ | ⟨rt, rn⟩
  · unfold numR numV at HB
    simp only at HB
    go_enter Tryz.func13, Tryz.ntmps13
    go_wp2_with (first | (go_at_call 27; (with_reducible refine HIB.out.mono ?_); rintro e w3 ⟨rfl, hw3⟩; subst w3) | (go_at_call_of 28 x; (with_reducible refine HI1.out.mono ?_); rintro e w4 ⟨rfl, hw4⟩; subst w4) | (go_at_call_of 28 y; (with_reducible refine HI2.out.mono ?_); rintro e w5 ⟨rfl, hw5⟩; subst w5) | (go_at_call_of 30 a; (with_reducible refine HA1.out.mono ?_); rintro e w4 ⟨rfl, hw4⟩; subst w4) | (go_at_call_of 30 b; (with_reducible refine HA2.out.mono ?_); rintro e w5 ⟨rfl, hw5⟩; subst w5) | (go_at_call 29; (with_reducible refine HB.out.mono ?_); rintro e w6 ⟨rfl, hb6⟩; have HB6 := Lib.hid hb6; clear hb6))
    go_ret3
    exact ⟨rfl, HB6.out.alloc HB6.out.size _⟩
  · unfold numR numV at HB
    simp only at HB
    go_enter Tryz.func13, Tryz.ntmps13
    go_upto_region 8 with (first | (go_at_call 27; (with_reducible refine HIB.out.mono ?_); rintro e w3 ⟨rfl, hw3⟩; subst w3) | (go_at_call_of 28 x; (with_reducible refine HI1.out.mono ?_); rintro e w4 ⟨rfl, hw4⟩; subst w4) | (go_at_call_of 28 y; (with_reducible refine HI2.out.mono ?_); rintro e w5 ⟨rfl, hw5⟩; subst w5) | (go_at_call_of 30 a; (with_reducible refine HA1.out.mono ?_); rintro e w4 ⟨rfl, hw4⟩; subst w4) | (go_at_call_of 30 b; (with_reducible refine HA2.out.mono ?_); rintro e w5 ⟨rfl, hw5⟩; subst w5) | (go_at_call 29; (with_reducible refine HB.out.mono ?_); rintro e w6 ⟨rfl, hb6⟩; have HB6 := Lib.hid hb6; clear hb6))
    obtain ⟨⟨q0, q1⟩, _⟩ := (numAt_new w6 (rt, rn)).cells
    go_quiet (fail)
    go_wp2_with fail
    go_ret3
    exact ⟨rfl, (HB6.out.alloc HB6.out.size _).trans ((Below.drewN' _ _).mono (HB6.out.alloc HB6.out.size _).size)⟩
set_option maxHeartbeats 2000000 in
theorem eunary_ok (m : ByteArray) (a : Int) (x : ByteArray) (w : World) (hE : TE w) :
    Calls Tryz.prog 15 #[.string m, .int .i64 a, .string x] w fun e w' => e = .returned (trip (unE m a x)) ∧ Below w.heap.size w w' := by
  have HI1 := Lib.hid (isInt_ok x w)
  have HA1 := Lib.hid (as_ok a x w)
  unfold unE trip
  by_cases hm : Lib.containsS unMarks m = true
  · rw [if_neg (by rw [hm]; simp)]
    have hmm := mem_un hm
    rcases hx : isIntS x with _ | _
    · rw [hx] at HI1
      rw [if_pos rfl]
      clear hm hx hE
      rcases hmm with h | h | h <;> subst h
      · have t0 : (mSub.toList == [45]) = true := lit_eq rfl rfl; have t1 : (mSub.toList == [126]) = false := lit_eq rfl rfl; have t2 : (mSub.toList == [33]) = false := lit_eq rfl rfl
        generalize mSub = m at *
        go_enter Tryz.func15, Tryz.ntmps15
        go_wp2_with (go_at_call 28; (with_reducible refine HI1.out.mono ?_); rintro e w4 ⟨rfl, hw4⟩; subst w4)
        go_ret3
        exact ⟨rfl, Below.refl _ _⟩
      · have t0 : (mCpl.toList == [45]) = false := lit_eq rfl rfl; have t1 : (mCpl.toList == [126]) = true := lit_eq rfl rfl; have t2 : (mCpl.toList == [33]) = false := lit_eq rfl rfl
        generalize mCpl = m at *
        go_enter Tryz.func15, Tryz.ntmps15
        go_wp2_with (go_at_call 28; (with_reducible refine HI1.out.mono ?_); rintro e w4 ⟨rfl, hw4⟩; subst w4)
        go_ret3
        exact ⟨rfl, Below.refl _ _⟩
      · have t0 : (mNot.toList == [45]) = false := lit_eq rfl rfl; have t1 : (mNot.toList == [126]) = false := lit_eq rfl rfl; have t2 : (mNot.toList == [33]) = true := lit_eq rfl rfl
        generalize mNot = m at *
        go_enter Tryz.func15, Tryz.ntmps15
        go_wp2_with (go_at_call 28; (with_reducible refine HI1.out.mono ?_); rintro e w4 ⟨rfl, hw4⟩; subst w4)
        go_ret3
        exact ⟨rfl, Below.refl _ _⟩
    · have HB := Lib.hid (unary_ok m hm (x, asI a x) (isIntS_int hx) w hE)
      rw [hx] at HI1
      rw [if_neg (by simp)]
      obtain ⟨⟨rt, rn⟩, hr⟩ := unI_some (x := x) (a := asI a x) hm
      simp only at HB
      rw [hr] at HB ⊢
      clear hm hx hE hr
      generalize asI a x = an at *
      unfold numR numV at HB
      simp only at HB ⊢
      rcases hmm with h | h | h <;> subst h
      · have t0 : (mSub.toList == [45]) = true := lit_eq rfl rfl; have t1 : (mSub.toList == [126]) = false := lit_eq rfl rfl; have t2 : (mSub.toList == [33]) = false := lit_eq rfl rfl
        generalize mSub = m at *
        go_enter Tryz.func15, Tryz.ntmps15
        go_upto_region 6 with (first | (go_at_call 28; (with_reducible refine HI1.out.mono ?_); rintro e w4 ⟨rfl, hw4⟩; subst w4) | (go_at_call 30; (with_reducible refine HA1.out.mono ?_); rintro e w4 ⟨rfl, hw4⟩; subst w4) | (go_at_call 39; (with_reducible refine HB.out.mono ?_); rintro e w6 ⟨rfl, hb6⟩; have HB6 := Lib.hid hb6; clear hb6))
        obtain ⟨⟨q0, q1⟩, _⟩ := (numAt_new w6 (rt, rn)).cells
        go_quiet (fail)
        go_wp2_with fail
        go_ret3
        exact ⟨rfl, (HB6.out.alloc HB6.out.size _).trans ((Below.drewN' _ _).mono (HB6.out.alloc HB6.out.size _).size)⟩
      · have t0 : (mCpl.toList == [45]) = false := lit_eq rfl rfl; have t1 : (mCpl.toList == [126]) = true := lit_eq rfl rfl; have t2 : (mCpl.toList == [33]) = false := lit_eq rfl rfl
        generalize mCpl = m at *
        go_enter Tryz.func15, Tryz.ntmps15
        go_upto_region 6 with (first | (go_at_call 28; (with_reducible refine HI1.out.mono ?_); rintro e w4 ⟨rfl, hw4⟩; subst w4) | (go_at_call 30; (with_reducible refine HA1.out.mono ?_); rintro e w4 ⟨rfl, hw4⟩; subst w4) | (go_at_call 39; (with_reducible refine HB.out.mono ?_); rintro e w6 ⟨rfl, hb6⟩; have HB6 := Lib.hid hb6; clear hb6))
        obtain ⟨⟨q0, q1⟩, _⟩ := (numAt_new w6 (rt, rn)).cells
        go_quiet (fail)
        go_wp2_with fail
        go_ret3
        exact ⟨rfl, (HB6.out.alloc HB6.out.size _).trans ((Below.drewN' _ _).mono (HB6.out.alloc HB6.out.size _).size)⟩
      · have t0 : (mNot.toList == [45]) = false := lit_eq rfl rfl; have t1 : (mNot.toList == [126]) = false := lit_eq rfl rfl; have t2 : (mNot.toList == [33]) = true := lit_eq rfl rfl
        generalize mNot = m at *
        go_enter Tryz.func15, Tryz.ntmps15
        go_upto_region 6 with (first | (go_at_call 28; (with_reducible refine HI1.out.mono ?_); rintro e w4 ⟨rfl, hw4⟩; subst w4) | (go_at_call 30; (with_reducible refine HA1.out.mono ?_); rintro e w4 ⟨rfl, hw4⟩; subst w4) | (go_at_call 39; (with_reducible refine HB.out.mono ?_); rintro e w6 ⟨rfl, hb6⟩; have HB6 := Lib.hid hb6; clear hb6))
        obtain ⟨⟨q0, q1⟩, _⟩ := (numAt_new w6 (rt, rn)).cells
        go_quiet (fail)
        go_wp2_with fail
        go_ret3
        exact ⟨rfl, (HB6.out.alloc HB6.out.size _).trans ((Below.drewN' _ _).mono (HB6.out.alloc HB6.out.size _).size)⟩
  · have hb : Lib.containsS unMarks m = false := by simpa using hm
    have hall : ∀ x ∈ unMarks, m ≠ x := fun x hx e => hm ((Lib.containsS_iff _ _).2 (e ▸ hx))
    rw [if_pos hb]
    have t0 : (m.toList == [45]) = false := lit_ne (fun e => hall mSub (by simp [unMarks]) (bytes_of e))
    have t1 : (m.toList == [126]) = false := lit_ne (fun e => hall mCpl (by simp [unMarks]) (bytes_of e))
    have t2 : (m.toList == [33]) = false := lit_ne (fun e => hall mNot (by simp [unMarks]) (bytes_of e))
    clear hm hb hall hE
    go_enter Tryz.func15, Tryz.ntmps15
    go_wp2_with fail
    go_ret3
    exact ⟨rfl, Below.refl _ _⟩
end Go.Proofs.YtlcfejgjeljjdaaGreatDoor

