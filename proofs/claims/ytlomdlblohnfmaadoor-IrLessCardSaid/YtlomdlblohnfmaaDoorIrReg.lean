/- A register used as it may be; the small tests of the rules; the words of the built-in functions. -/
import Derived.Test.YtlomdlblohnfmaaDoorIrMem
import Derived.Lib.QuietBelow
namespace Go.Proofs.YtlomdlblohnfmaaDoor
open Go.RowKit

theorem reg_ok (regs slots strings r : Int) (u m : Bool) (w : World) :
    Calls Tryd.prog 47 #[.agg #[.int .i64 regs, .int .i64 slots, .int .i64 strings], .int .i64 r, .bool u, .bool m] w fun e w' => e = .returned (.bool (regI regs r u m)) ∧ Below w.heap.size w w' := by
  by_cases h0 : r = -1
  · subst h0
    have he : regI regs (-1) u m = (!u || m) := by simp [regI]
    rw [he]
    clear he
    cases u <;> cases m <;>
    · go_enter Tryd.func47, Tryd.ntmps47
      go_wp2
      go_ret
      exact ⟨rfl, (Below.refl _ _).alloc (Nat.le_refl _) _⟩
  · have he : regI regs r u m = (u && decide (0 ≤ r ∧ r < regs)) := by simp [regI, h0]
    rw [he]
    have t0 : (r == -1) = false := by simpa using h0
    by_cases h1 : 0 ≤ r
    · by_cases h2 : r < regs
      · rw [show decide (0 ≤ r ∧ r < regs) = true by simp [h1, h2]]
        clear he h0
        cases u <;>
        · go_enter Tryd.func47, Tryd.ntmps47
          go_wp2
          go_ret
          exact ⟨rfl, (Below.refl _ _).alloc (Nat.le_refl _) _⟩
      · rw [show decide (0 ≤ r ∧ r < regs) = false by simp [h2]]
        clear he h0
        have t2 : ¬ r < regs := h2
        cases u <;>
        · go_enter Tryd.func47, Tryd.ntmps47
          go_wp2
          go_ret
          exact ⟨rfl, (Below.refl _ _).alloc (Nat.le_refl _) _⟩
    · rw [show decide (0 ≤ r ∧ r < regs) = false by simp [h1]]
      clear he h0
      cases u <;>
      · go_enter Tryd.func47, Tryd.ntmps47
        go_wp2
        go_ret
        exact ⟨rfl, (Below.refl _ _).alloc (Nat.le_refl _) _⟩

theorem none_ok (n : Int) (b : Bool) (hb : decide (n = 0) = b) (w : World) : Calls Tryd.prog 67 #[.int .i64 n] w fun e w' => e = .returned (.bool b) ∧ Below w.heap.size w w' := by
  have t0 : (n == 0) = b := by rw [← hb]; rfl
  clear hb
  go_enter Tryd.func67, Tryd.ntmps67
  go_wp2
  go_ret
  exact ⟨by simp, Below.refl _ _⟩
theorem empty_ok (s : ByteArray) (b : Bool) (hb : decide (s.size = 0) = b) (w : World) : Calls Tryd.prog 68 #[.string s] w fun e w' => e = .returned (.bool b) ∧ Below w.heap.size w w' := by
  have t0 : s.toList.isEmpty = b := by
    rw [← hb, Lib.toList_data]
    cases h : s.data.toList with
    | nil => simp [ByteArray.size, ← Array.length_toList, h]
    | cons x r => simp [ByteArray.size, ← Array.length_toList, h]
  clear hb
  go_enter Tryd.func68, Tryd.ntmps68
  go_wp2
  go_ret
  exact ⟨by simp, Below.refl _ _⟩
theorem from0_ok (n : Int) (b : Bool) (hb : decide (0 ≤ n) = b) (w : World) : Calls Tryd.prog 71 #[.int .i64 n] w fun e w' => e = .returned (.bool b) ∧ Below w.heap.size w w' := by
  go_enter Tryd.func71, Tryd.ntmps71
  go_wp2
  go_ret
  exact ⟨by simp, Below.refl _ _⟩
theorem constant_ok (n : Int) (b : Bool) (hb : decide (-2147483648 ≤ n ∧ n ≤ 4294967295) = b) (w : World) : Calls Tryd.prog 69 #[.int .i64 n] w fun e w' => e = .returned (.bool b) ∧ Below w.heap.size w w' := by
  by_cases h1 : -2147483648 ≤ n
  · by_cases h2 : n ≤ 4294967295
    · rw [show decide (-2147483648 ≤ n ∧ n ≤ 4294967295) = true from decide_eq_true ⟨h1, h2⟩] at hb
      go_enter Tryd.func69, Tryd.ntmps69
      go_wp2
      go_ret
      exact ⟨by simp [← hb], Below.refl _ _⟩
    · rw [show decide (-2147483648 ≤ n ∧ n ≤ 4294967295) = false from decide_eq_false (fun h => h2 h.2)] at hb
      go_enter Tryd.func69, Tryd.ntmps69
      go_wp2
      go_ret
      exact ⟨by simp [← hb], Below.refl _ _⟩
  · rw [show decide (-2147483648 ≤ n ∧ n ≤ 4294967295) = false from decide_eq_false (fun h => h1 h.1)] at hb
    subst hb
    have t1 : n < -2147483648 := by omega
    clear h1
    go_enter Tryd.func69, Tryd.ntmps69
    go_wp2
    go_ret
    exact ⟨rfl, Below.refl _ _⟩
theorem copied_ok (n : Int) (b : Bool) (hb : decide (1 ≤ n ∧ n ≤ 65536) = b) (w : World) : Calls Tryd.prog 73 #[.int .i64 n] w fun e w' => e = .returned (.bool b) ∧ Below w.heap.size w w' := by
  by_cases h1 : 1 ≤ n
  · by_cases h2 : n ≤ 65536
    · rw [show decide (1 ≤ n ∧ n ≤ 65536) = true from decide_eq_true ⟨h1, h2⟩] at hb
      go_enter Tryd.func73, Tryd.ntmps73
      go_wp2
      go_ret
      exact ⟨by simp [← hb], Below.refl _ _⟩
    · rw [show decide (1 ≤ n ∧ n ≤ 65536) = false from decide_eq_false (fun h => h2 h.2)] at hb
      go_enter Tryd.func73, Tryd.ntmps73
      go_wp2
      go_ret
      exact ⟨by simp [← hb], Below.refl _ _⟩
  · rw [show decide (1 ≤ n ∧ n ≤ 65536) = false from decide_eq_false (fun h => h1 h.1)] at hb
    subst hb
    have t1 : n < 1 := by omega
    clear h1
    go_enter Tryd.func73, Tryd.ntmps73
    go_wp2
    go_ret
    exact ⟨rfl, Below.refl _ _⟩
theorem halves_ok (n : Int) (b : Bool) (hb : decide (n = 8 ∨ n = 16) = b) (w : World) : Calls Tryd.prog 70 #[.int .i64 n] w fun e w' => e = .returned (.bool b) ∧ Below w.heap.size w w' := by
  by_cases h1 : n = 8
  · subst h1
    obtain rfl : b = true := by rw [← hb]; rfl
    clear hb
    go_enter Tryd.func70, Tryd.ntmps70
    go_wp2
    go_ret
    exact ⟨rfl, Below.refl _ _⟩
  · by_cases h2 : n = 16
    · subst h2
      obtain rfl : b = true := by rw [← hb]; rfl
      clear hb
      go_enter Tryd.func70, Tryd.ntmps70
      go_wp2
      go_ret
      exact ⟨rfl, Below.refl _ _⟩
    · obtain rfl : b = false := by rw [← hb]; simp [h1, h2]
      have t1 : (n == 8) = false := by simpa using h1
      have t2 : (n == 16) = false := by simpa using h2
      clear hb h1 h2
      go_enter Tryd.func70, Tryd.ntmps70
      go_wp2
      go_ret
      exact ⟨by simp, Below.refl _ _⟩
theorem widths_ok (n : Int) (b : Bool) (hb : decide (n = 1 ∨ n = 2 ∨ n = 4) = b) (w : World) : Calls Tryd.prog 72 #[.int .i64 n] w fun e w' => e = .returned (.bool b) ∧ Below w.heap.size w w' := by
  by_cases h1 : n = 1
  · subst h1
    obtain rfl : b = true := by rw [← hb]; rfl
    clear hb
    go_enter Tryd.func72, Tryd.ntmps72
    go_wp2
    go_ret
    exact ⟨rfl, Below.refl _ _⟩
  · by_cases h2 : n = 2
    · subst h2
      obtain rfl : b = true := by rw [← hb]; rfl
      clear hb
      go_enter Tryd.func72, Tryd.ntmps72
      go_wp2
      go_ret
      exact ⟨rfl, Below.refl _ _⟩
    · by_cases h3 : n = 4
      · subst h3
        obtain rfl : b = true := by rw [← hb]; rfl
        clear hb
        go_enter Tryd.func72, Tryd.ntmps72
        go_wp2
        go_ret
        exact ⟨rfl, Below.refl _ _⟩
      · obtain rfl : b = false := by rw [← hb]; simp [h1, h2, h3]
        have t1 : (n == 1) = false := by simpa using h1
        have t2 : (n == 2) = false := by simpa using h2
        have t3 : (n == 4) = false := by simpa using h3
        clear hb h1 h2 h3
        go_enter Tryd.func72, Tryd.ntmps72
        go_wp2
        go_ret
        exact ⟨by simp, Below.refl _ _⟩
end Go.Proofs.YtlomdlblohnfmaaDoor

