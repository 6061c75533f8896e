/- lex.Line: by strings.Count and strings.LastIndexByte. -/
import Derived.Test.YtncojfcdkigmiaaQuote
import Derived.Deep.QuietTactic
import Derived.BigQuiet
namespace Go.Proofs.Ytncojfcdkigmiaa
open Go.RowKit

theorem lnF_lib (s : ByteArray) : ∀ k, k ≤ s.size → (lnF (s.data.toList.take k) (0, 0, 0)).2.1 = (s.data.toList.take k).count 10 ∧ ((lnF (s.data.toList.take k) (0, 0, 0)).2.2 : Int) = Lib.lastIdx s 10 k + 1
  | 0, _ => by simp [lnF, Lib.lastIdx]
  | k + 1, h => by
    obtain ⟨h1, h2⟩ := lnF_lib s k (by omega)
    rw [lnF_snoc s k (by omega), take_snoc s k (by omega), List.count_append, Lib.lastIdx]
    have e : ((s.data[k]!).toNat : Int) = (s[k].toNat : Int) := by
      rw [getElem!_pos s.data k (show k < s.data.size from h)]; rfl
    rw [e]
    have e2 : (s[k] == 10) = ((s[k].toNat : Int) == 10) := by
      rw [Bool.eq_iff_iff, beq_iff_eq, beq_iff_eq, ← UInt8.toNat_inj]
      show s[k].toNat = 10 ↔ _
      omega
    by_cases hc : ((s[k].toNat : Int) == 10) = true
    · rw [if_pos hc]
      have hc' : (s[k].toNat : Int) = 10 := by simpa using hc
      simp [List.count_cons, e2, hc', h1]
    · rw [if_neg hc]
      have hc' : ¬ (s[k].toNat : Int) = 10 := by simpa using hc
      simp [List.count_cons, e2, hc', h1, h2]

theorem extract_toList (s : ByteArray) (k : Nat) (_h : k ≤ s.size) : (s.extract 0 k).data.toList = s.data.toList.take k := by
  simp [ByteArray.data_extract]
theorem extract_size (s : ByteArray) (k : Nat) (h : k ≤ s.size) : (s.extract 0 k).size = k := by
  simp [ByteArray.size_extract]; omega

theorem lnF_ext (s : ByteArray) (k : Nat) (h : k ≤ s.size) : ((lnF (s.data.toList.take k) (0, 0, 0)).2.1 : Int) = Lib.countByte (s.extract 0 k).data.toList 10 ∧ ((lnF (s.data.toList.take k) (0, 0, 0)).2.2 : Int) = Lib.lastIndexByte (s.extract 0 k) 10 + 1 := by
  obtain ⟨h1, h2⟩ := lnF_lib (s.extract 0 k) k (by rw [extract_size s k h]; omega)
  rw [show (s.extract 0 k).data.toList.take k = s.data.toList.take k by rw [extract_toList s k h, List.take_take, Nat.min_self]] at h1 h2
  rw [h1, h2, extract_toList s k h, Lib.lastIndexByte, extract_size s k h, Lib.countByte]
  exact ⟨rfl, rfl⟩

theorem ret_t3 {a a' b b' : Int} {c : Value} (h : a = a') (k : b = b') : Ending.returned (.tuple #[.int .i64 a, .int .i64 b, c]) = .returned (.tuple #[.int .i64 a', .int .i64 b', c]) := by rw [h, k]
theorem _root_.Go.Below.drewN' (w : World) (n : Nat) : Below w.heap.size w (w.drewN n) := ⟨rfl, rfl, rfl, Nat.le_refl _, fun _ _ => rfl⟩

set_option maxHeartbeats 400000 in
theorem lexLine_ok (s : ByteArray) (at_ : Nat) (w : World) (hs : s.size ≤ 1048576) (hat : at_ ≤ s.size) :
    Calls Try.prog 4 #[.string s, .int .i64 at_] w fun e w' => e = .returned (.tuple #[.int .i64 (lnF (s.data.toList.take at_) (0, 0, 0)).2.1, .int .i64 (at_ - (lnF (s.data.toList.take at_) (0, 0, 0)).2.2 : Int), .int .i64 0]) ∧ Below w.heap.size w w' := by
  have h1 : decide (s.size < at_) = false := by simp; omega
  have hL := Lib.hid (lnF_ext s at_ hat)
  go_enter Try.func4, Try.ntmps4
  go_wp2_with fail
  go_quiet ((first | (go_at_call 10; exact Calls.quiet_of_same (Try.strings_Count_one _ _ _)) | (go_at_call 11; exact Calls.quiet_of_same (Try.strings_LastIndexByte _ _ (by rw [extract_size s at_ hat]; omega) _))))
  go_wp2
  go_ret3
  refine ⟨ret_t3 ?_ ?_, Below.drewN' _ _⟩
  · exact hL.out.1.symm
  · have h2 := hL.out.2
    obtain ⟨_, hb⟩ := lnF_bd (s.data.toList.take at_)
    have hl : (s.data.toList.take at_).length ≤ at_ := List.length_take_le _ _
    rw [IntWalk.wrap64_in _ ⟨by omega, by omega⟩]
    omega

theorem lexLine_no (s : ByteArray) (at_ : Int) (w : World) (hat : at_ < 0 ∨ s.size < at_) :
    Calls Try.prog 4 #[.string s, .int .i64 at_] w fun e w' => e = .returned (.tuple #[.int .i64 0, .int .i64 0, .int .i64 1]) ∧ Below w.heap.size w w' := by
  have h1 : (decide (at_ < 0) || decide ((s.size : Int) < at_)) = true := by simp; omega
  go_enter Try.func4, Try.ntmps4
  go_wp2
  all_goals go_ret3
  all_goals exact ⟨rfl, Below.refl _ _⟩
end Go.Proofs.Ytncojfcdkigmiaa
