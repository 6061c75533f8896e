/- Digits to the base 16, both texts. -/
import Derived.Test.YtncojfcdkigmiaaDoorBlankRef
namespace Go.Proofs.YtncojfcdkigmiaaDoor
open Go.RowKit

theorem refDigit_ok (c : UInt8) (w : World) :
    Calls Tryd.prog 53 #[.int .u8 (c.toNat : Int)] w fun e w' => e = .returned (.bool (digB c)) ∧ w' = w := by
  go_enter Tryd.func53, Tryd.ntmps53
  go_wp2
  all_goals go_ret
  all_goals exact ⟨digB_mk (by simp; omega), rfl⟩
set_option maxHeartbeats 400000 in
theorem refLetter_ok (c : UInt8) (w : World) :
    Calls Tryd.prog 52 #[.int .u8 (c.toNat : Int)] w fun e w' => e = .returned (.bool (letB c)) ∧ w' = w := by
  go_enter Tryd.func52, Tryd.ntmps52
  go_wp2
  all_goals go_ret
  all_goals refine ⟨letB_mk ?_, rfl⟩
  all_goals (simp; omega)
theorem refLetter_is (r : Bool) (c : UInt8) (w : World) (h : letB c = r) : Calls Tryd.prog 52 #[.int .u8 (c.toNat : Int)] w fun e w' => e = .returned (.bool r) ∧ w' = w := by
  subst h; exact refLetter_ok c w
theorem refDigit_is (r : Bool) (c : UInt8) (w : World) (h : digB c = r) : Calls Tryd.prog 53 #[.int .u8 (c.toNat : Int)] w fun e w' => e = .returned (.bool r) ∧ w' = w := by
  subst h; exact refDigit_ok c w

theorem hexI_digit {c : UInt8} (h : digB c = true) : hexI c = (c.toNat : Int) - 48 := by
  have := of_decide_eq_true h
  simp [hexI, hexN, this.1, this.2]; omega
theorem hexI_low {c : UInt8} (h1 : 97 ≤ c.toNat) (h2 : c.toNat ≤ 102) : hexI c = (c.toNat : Int) - 87 := by
  simp [hexI, hexN, show ¬ c.toNat ≤ 57 by omega, h1, h2]; omega
theorem hexI_up {c : UInt8} (h1 : 65 ≤ c.toNat) (h2 : c.toNat ≤ 70) : hexI c = (c.toNat : Int) - 55 := by
  simp [hexI, hexN, show ¬ c.toNat ≤ 57 by omega, show ¬ 97 ≤ c.toNat by omega, h1, h2]; omega
theorem hexI_none {c : UInt8} (h : digB c = false) (h1 : ¬ (97 ≤ c.toNat ∧ c.toNat ≤ 102)) (h2 : ¬ (65 ≤ c.toNat ∧ c.toNat ≤ 70)) : hexI c = -1 := by
  have := of_decide_eq_false h
  unfold hexI hexN
  rw [if_neg this, if_neg h1, if_neg h2]
theorem hex_mk {c : UInt8} {a : Int} {w : World} (h : hexI c = a) : Ending.returned (.int .i64 a) = .returned (.int .i64 (hexI c)) ∧ w = w := ⟨by rw [h], rfl⟩

set_option maxHeartbeats 1000000 in
theorem refHex_ok (c : UInt8) (w : World) : Calls Tryd.prog 69 #[.int .u8 (c.toNat : Int)] w fun e w' => e = .returned (.int .i64 (hexI c)) ∧ w' = w := by
  rcases hD : digB c with _ | _
  · by_cases h1 : 97 ≤ c.toNat ∧ c.toNat ≤ 102
    · have hfin := Lib.hid (hexI_low h1.1 h1.2)
      have t1 : (97 : Int) ≤ c.toNat := by omega
      have t2 : (c.toNat : Int) ≤ 102 := by omega
      have HD := Lib.hid hD
      clear hD h1
      go_enter Tryd.func69, Tryd.ntmps69
      go_wp2_with (go_at_call 53; refine (refDigit_is false _ _ HD.out).mono ?_; rintro e w' ⟨rfl, rfl⟩)
      go_ret
      exact hex_mk (by rw [hfin.out]; omega)
    · by_cases h2 : 65 ≤ c.toNat ∧ c.toNat ≤ 70
      · have hfin := Lib.hid (hexI_up h2.1 h2.2)
        have t1 : (c.toNat : Int) < 97 := by omega
        have t2 : (65 : Int) ≤ c.toNat := by omega
        have t3 : (c.toNat : Int) ≤ 70 := by omega
        have HD := Lib.hid hD
        clear hD h1 h2
        go_enter Tryd.func69, Tryd.ntmps69
        go_wp2_with (go_at_call 53; refine (refDigit_is false _ _ HD.out).mono ?_; rintro e w' ⟨rfl, rfl⟩)
        go_ret
        exact hex_mk (by rw [hfin.out]; omega)
      · have hfin := Lib.hid (hexI_none hD h1 h2)
        have HH := Lib.hid (And.intro h1 h2)
        have HD := Lib.hid hD
        clear hD h1 h2
        go_enter Tryd.func69, Tryd.ntmps69
        go_wp2_with (go_at_call 53; refine (refDigit_is false _ _ HD.out).mono ?_; rintro e w' ⟨rfl, rfl⟩)
        all_goals first
          | (exfalso; have := HH.out; omega)
          | (go_ret
             exact hex_mk hfin.out)
  · have hfin := Lib.hid (hexI_digit hD)
    have t1 : (48 : Int) ≤ c.toNat := by have := (of_decide_eq_true hD).1; omega
    have t2 : (c.toNat : Int) ≤ 57 := by have := (of_decide_eq_true hD).2; omega
    have HD := Lib.hid hD
    clear hD
    go_enter Tryd.func69, Tryd.ntmps69
    go_wp2_with (go_at_call 53; refine (refDigit_is true _ _ HD.out).mono ?_; rintro e w' ⟨rfl, rfl⟩)
    go_ret
    exact hex_mk (by rw [hfin.out])

set_option maxHeartbeats 1000000 in
theorem lexHex_ok (c : UInt8) (w : World) : Calls Tryd.prog 82 #[.int .u8 (c.toNat : Int)] w fun e w' => e = .returned (.int .i64 (hexI c)) ∧ w' = w := by
  rcases hD : digB c with _ | _
  · by_cases h1 : 97 ≤ c.toNat ∧ c.toNat ≤ 102
    · have hfin := Lib.hid (hexI_low h1.1 h1.2)
      have t1 : (97 : Int) ≤ c.toNat := by omega
      have t2 : (c.toNat : Int) ≤ 102 := by omega
      have HD := Lib.hid hD
      clear hD h1
      go_enter Tryd.func82, Tryd.ntmps82
      go_wp2_with (go_at_call 48; refine (lexDigit_is false _ _ HD.out).mono ?_; rintro e w' ⟨rfl, rfl⟩)
      go_ret
      exact hex_mk (by rw [hfin.out]; omega)
    · by_cases h2 : 65 ≤ c.toNat ∧ c.toNat ≤ 70
      · have hfin := Lib.hid (hexI_up h2.1 h2.2)
        have t1 : (c.toNat : Int) < 97 := by omega
        have t2 : (65 : Int) ≤ c.toNat := by omega
        have t3 : (c.toNat : Int) ≤ 70 := by omega
        have HD := Lib.hid hD
        clear hD h1 h2
        go_enter Tryd.func82, Tryd.ntmps82
        go_wp2_with (go_at_call 48; refine (lexDigit_is false _ _ HD.out).mono ?_; rintro e w' ⟨rfl, rfl⟩)
        go_ret
        exact hex_mk (by rw [hfin.out]; omega)
      · have hfin := Lib.hid (hexI_none hD h1 h2)
        have HH := Lib.hid (And.intro h1 h2)
        have HD := Lib.hid hD
        clear hD h1 h2
        go_enter Tryd.func82, Tryd.ntmps82
        go_wp2_with (go_at_call 48; refine (lexDigit_is false _ _ HD.out).mono ?_; rintro e w' ⟨rfl, rfl⟩)
        all_goals first
          | (exfalso; have := HH.out; omega)
          | (go_ret
             exact hex_mk hfin.out)
  · have hfin := Lib.hid (hexI_digit hD)
    have t1 : (48 : Int) ≤ c.toNat := by have := (of_decide_eq_true hD).1; omega
    have t2 : (c.toNat : Int) ≤ 57 := by have := (of_decide_eq_true hD).2; omega
    have HD := Lib.hid hD
    clear hD
    go_enter Tryd.func82, Tryd.ntmps82
    go_wp2_with (go_at_call 48; refine (lexDigit_is true _ _ HD.out).mono ?_; rintro e w' ⟨rfl, rfl⟩)
    go_ret
    exact hex_mk (by rw [hfin.out])

end Go.Proofs.YtncojfcdkigmiaaDoor
