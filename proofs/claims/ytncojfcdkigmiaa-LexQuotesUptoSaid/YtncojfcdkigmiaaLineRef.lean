/- ref.Line: the loop over the text. -/
import Derived.Test.YtncojfcdkigmiaaChecked
import Derived.WalkKit
import Derived.WalkLawsBesides
import Derived.Lib.Hide
namespace Go.Proofs.Ytncojfcdkigmiaa
open Go.RowKit

/-- lines and the last line's beginning, among the first k bytes -/
def lnF : List UInt8 → Nat × Nat × Nat → Nat × Nat × Nat
  | [], r => r
  | c :: l, (i, a, b) => lnF l (if c = 10 then (i + 1, a + 1, i + 1) else (i + 1, a, b))

theorem lnF_append (l m : List UInt8) (r : Nat × Nat × Nat) : lnF (l ++ m) r = lnF m (lnF l r) := by
  induction l generalizing r with
  | nil => rfl
  | cons c l ih => obtain ⟨i, a, b⟩ := r; simp only [List.cons_append, lnF, ih]
theorem lnF_fst (l : List UInt8) (r : Nat × Nat × Nat) : (lnF l r).1 = r.1 + l.length := by
  induction l generalizing r with
  | nil => simp [lnF]
  | cons c l ih => obtain ⟨i, a, b⟩ := r; simp only [lnF, ih]; split <;> simp <;> omega
theorem lnF_le (l : List UInt8) (r : Nat × Nat × Nat) (h : r.2.1 ≤ r.1 ∧ r.2.2 ≤ r.1) : (lnF l r).2.1 ≤ (lnF l r).1 ∧ (lnF l r).2.2 ≤ (lnF l r).1 := by
  induction l generalizing r with
  | nil => simpa [lnF] using h
  | cons c l ih => obtain ⟨i, a, b⟩ := r; simp only [lnF]; apply ih; split <;> simp at h ⊢ <;> omega

theorem take_snoc (s : ByteArray) (k : Nat) (h : k < s.size) : s.data.toList.take (k + 1) = s.data.toList.take k ++ [s[k]] := by
  rw [List.take_succ_eq_append_getElem (by simpa using h)]; rfl

theorem lnF_snoc (s : ByteArray) (k : Nat) (h : k < s.size) : lnF (s.data.toList.take (k + 1)) (0, 0, 0) =
    (if ((s[k].toNat : Int) == 10) = true then (k + 1, (lnF (s.data.toList.take k) (0, 0, 0)).2.1 + 1, k + 1) else (k + 1, (lnF (s.data.toList.take k) (0, 0, 0)).2.1, (lnF (s.data.toList.take k) (0, 0, 0)).2.2)) := by
  have hf := lnF_fst (s.data.toList.take k) (0, 0, 0)
  have hl : (s.data.toList.take k).length = k := by simp; omega
  rw [hl] at hf
  rw [take_snoc s k (by omega), lnF_append]
  generalize lnF (List.take k s.data.toList) (0, 0, 0) = r at hf
  obtain ⟨i, a, b⟩ := r
  simp at hf
  have e : (((s[k].toNat : Int) == 10) = true) ↔ s[k] = 10 := by
    rw [beq_iff_eq, ← UInt8.toNat_inj]
    exact ⟨fun h => by have : s[k].toNat = 10 := by omega
                       exact this, fun h => by rw [h]; rfl⟩
  by_cases hc : s[k] = 10
  · simp only [lnF, hf, if_pos hc, if_pos (e.2 hc)]
  · simp only [lnF, hf, if_neg hc, if_neg (fun h => hc (e.1 h))]

theorem lnF_bd (l : List UInt8) : (lnF l (0, 0, 0)).2.1 ≤ l.length ∧ (lnF l (0, 0, 0)).2.2 ≤ l.length := by
  have hbd := lnF_le l (0, 0, 0) (by simp)
  have hf := lnF_fst l (0, 0, 0)
  simp at hf
  omega

set_option maxHeartbeats 400000 in
theorem refLine_ok (s : ByteArray) (at_ : Nat) (w : World) (hs : s.size ≤ 1048576) (hat : at_ ≤ s.size) :
    Calls Try.prog 5 #[.string s, .int .i64 at_] w fun e w' => e = .returned (.tuple #[.int .i64 (lnF (s.data.toList.take at_) (0, 0, 0)).2.1, .int .i64 (at_ - (lnF (s.data.toList.take at_) (0, 0, 0)).2.2 : Int), .int .i64 0]) ∧ w = w' := by
  have h1 : decide (s.size < at_) = false := by simp; omega
  go_enter Try.func5, Try.ntmps5
  go_wp2
  go_loop [7, 8, 9] (fun a b i => ∃ k : Nat, k ≤ at_ ∧ i = .int .i64 k ∧ a = .int .i64 (lnF (s.data.toList.take k) (0, 0, 0)).2.1 ∧ b = .int .i64 (lnF (s.data.toList.take k) (0, 0, 0)).2.2) (fun _ _ i => at_ - (intOf i).toNat)
  case atStart => exact ⟨0, Nat.zero_le _, rfl, rfl, rfl⟩
  case round =>
    obtain ⟨k, hk, rfl, rfl, rfl⟩ := hrel
    obtain ⟨hb1, hb2⟩ := lnF_bd (s.data.toList.take k)
    have hl : (s.data.toList.take k).length ≤ k := List.length_take_le _ _
    by_cases hlt : k < at_
    · have HS := Lib.hid (lnF_snoc s k (by omega))
      go_wp2
      all_goals
        go_round
        case rel => exact ⟨k + 1, by omega, by go_num, by rw [HS.out]; first | rw [if_pos ‹_›]; go_num | rw [if_neg (by simp [*])], by rw [HS.out]; first | rw [if_pos ‹_›]; go_num | rw [if_neg (by simp [*])]⟩
        case measure => simp [intOf]; omega
    · obtain rfl : k = at_ := by omega
      go_wp2
      go_ret3
      exact ⟨rfl, rfl⟩

theorem refLine_no (s : ByteArray) (at_ : Int) (w : World) (_hs : s.size ≤ 1048576) (hat : at_ < 0 ∨ s.size < at_) :
    Calls Try.prog 5 #[.string s, .int .i64 at_] w fun e w' => e = .returned (.tuple #[.int .i64 0, .int .i64 0, .int .i64 1]) ∧ w = w' := by
  have h1 : (decide (at_ < 0) || decide ((s.size : Int) < at_)) = true := by simp; omega
  go_enter Try.func5, Try.ntmps5
  go_wp2
  all_goals go_ret3
  all_goals exact ⟨rfl, rfl⟩
end Go.Proofs.Ytncojfcdkigmiaa
