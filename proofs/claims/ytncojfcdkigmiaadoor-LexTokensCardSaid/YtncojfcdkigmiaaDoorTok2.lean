/- A token that is a number: written. -/
import Derived.Test.YtncojfcdkigmiaaDoorTok
import Derived.Test.YtncojfcdkigmiaaDoorItoa
import Derived.Deep.RegionHeld3
import Derived.Lib.QuietBelow
namespace Go.Proofs.YtncojfcdkigmiaaDoor
open Go.RowKit Go.Sort

theorem eq_u (s : ByteArray) : (s.toList == [117]) = decide (s = uText) := by
  rw [Bool.eq_iff_iff, beq_iff_eq, decide_eq_true_iff, Lib.toList_data]
  exact ⟨fun h => toList_eq (by rw [h]; rfl), fun h => by rw [h]; rfl⟩
theorem eq_e (s : ByteArray) : s.toList.isEmpty = decide (s = ByteArray.empty) := by
  rw [Bool.eq_iff_iff, List.isEmpty_iff, decide_eq_true_iff, Lib.toList_data]
  exact ⟨fun h => toList_eq (by rw [h]; rfl), fun h => by rw [h]; rfl⟩
theorem u_ne : uText ≠ ByteArray.empty := by decide

theorem byteOf (n : Int) : ∃ c : UInt8, (c.toNat : Int) = n % 256 := ⟨UInt8.ofNat (n % 256).toNat, by rw [UInt8.toNat_ofNat']; omega⟩

theorem keepS {w W w1 : World} {v2 v3 : Value} (hb : Below W.heap.size W w1) (h2 : W.cell? ⟨w.heap.size, 2, none⟩ = some v2) (h3 : W.cell? ⟨w.heap.size, 3, none⟩ = some v3) (hlt : w.heap.size < W.heap.size) (hB : Below w.heap.size w W) :
    w1.cell? ⟨w.heap.size, 2, none⟩ = some v2 ∧ w1.cell? ⟨w.heap.size, 3, none⟩ = some v3 ∧ w.heap.size < w1.heap.size ∧ Below w.heap.size w w1 :=
  ⟨by rw [hb.cell hlt]; exact h2, by rw [hb.cell hlt]; exact h3, Nat.lt_of_lt_of_le hlt hb.size, hB.trans (hb.mono (Nat.le_of_lt hlt))⟩

theorem u8wrap (n : Int) : IntKind.u8.wrap n = n % 256 := by
  simp [IntKind.wrap, IntKind.signed, IntKind.bits]

theorem char_of {n : Int} {c : UInt8} (h1 : n < 0) (h2 : -128 ≤ n) (hc : (c.toNat : Int) = n % 256) : UInt8.ofNat (n + 256).toNat = c := by
  rw [← UInt8.toNat_inj, UInt8.toNat_ofNat']
  omega

set_option maxHeartbeats 4000000 in
theorem written_neg (p n : Int) (s : ByteArray) (w : World) (hn : n < 0) :
    Calls Tryd.prog 20 #[.agg #[.int .i64 3, .int .i64 p, .int .i64 n, .string s]] w (Written ⟨3, p, n, s⟩ w) := by
  have HW := boxB w ⟨3, p, n, s⟩
  obtain ⟨c, hc⟩ := byteOf n
  have hwr : IntKind.u8.wrap n = (c.toNat : Int) := by rw [hc, u8wrap]
  have t1 : decide (n < 0) = true := by simpa using hn
  have HC := Lib.hid hc
  clear hc
  by_cases h128 : -128 ≤ n
  · by_cases he : s = ByteArray.empty
    · have t2 : s.toList.isEmpty = true := by rw [eq_e]; simpa using he
      have HF := Lib.hid (show goodB ⟨3, p, n, s⟩ = true ∧ ([39] ++ speltL c 39 ++ [39]) = wordL ⟨3, p, n, s⟩ by
        subst he
        refine ⟨?_, ?_⟩
        · simp [goodB, goodNum, u_ne.symm, h128]; omega
        · simp only [wordL, numL, if_pos hn, char_of hn h128 HC.out]; rfl)
      clear he
      go_enter Tryd.func20, Tryd.ntmps20
      go_wp2_with fail
      go_region_held3 (fun w' => w'.cell? ⟨w.heap.size, 2, none⟩ = some (.int .i64 n) ∧ w'.cell? ⟨w.heap.size, 3, none⟩ = some (.string s) ∧ w.heap.size < w'.heap.size ∧ Below w.heap.size w w')
        (first | (go_split_ands; exact keepS hb (by assumption) (by assumption) (by assumption) (by assumption)) | exact ⟨by simp, by simp, by simp, HW.drew⟩ | go_keep)
        (first | (go_at_call 35; refine (lexChar_ok c _).mono ?_; rintro e w1 ⟨rfl, hb⟩))
      go_wp2
      go_ret2
      go_split_ands
      exact written_mk HF.out.1 (fun _ => HF.out.2) (by assumption)
    · have t2 : s.toList.isEmpty = false := by rw [eq_e]; simpa using he
      have HF := Lib.hid (show goodB ⟨3, p, n, s⟩ = false by
        simp only [goodB, goodNum]; split <;> simp_all; intros; omega)
      clear he
      go_enter Tryd.func20, Tryd.ntmps20
      go_wp2_with fail
      go_region_held3 (fun w' => w'.cell? ⟨w.heap.size, 2, none⟩ = some (.int .i64 n) ∧ w'.cell? ⟨w.heap.size, 3, none⟩ = some (.string s) ∧ w.heap.size < w'.heap.size ∧ Below w.heap.size w w')
        (first | (go_split_ands; exact keepS hb (by assumption) (by assumption) (by assumption) (by assumption)) | exact ⟨by simp, by simp, by simp, HW.drew⟩ | go_keep)
        (first | (go_at_call 35; refine (lexChar_ok c _).mono ?_; rintro e w1 ⟨rfl, hb⟩))
      go_wp2
      go_ret2
      go_split_ands
      exact written_mk HF.out (fun h => by cases h) (by assumption)
  · have h128' := Lib.hid h128
    have HF := Lib.hid (show goodB ⟨3, p, n, s⟩ = false by
      by_cases hu : s = uText
      · simp [goodB, goodNum, hu]; omega
      · simp [goodB, goodNum, hu]; intro _ h; omega)
    clear h128
    go_enter Tryd.func20, Tryd.ntmps20
    go_wp2_with fail
    generalize hWb : w.alloc (.cells #[.int .i64 3, .int .i64 p, .int .i64 n, .string s] 34) = wb
    have t0 : n < -128 := by have := h128'.out; omega
    have t2 : decide ((Int.negSucc 127) ≤ n) = false := by rw [decide_eq_false_iff_not]; show ¬ (-128 : Int) ≤ n; omega
    have t3 : ¬ (-128 : Int) ≤ n := by omega
    have t4 : ¬ (Int.negSucc 127) ≤ n := t3
    have t5 : decide ((-128 : Int) ≤ n) = false := t2
    have k2 := cell_regrown (show wb.cell? ⟨w.heap.size, 2, none⟩ = some (.int .i64 n) by rw [← hWb]; simp)
    have k3 := cell_regrown (show wb.cell? ⟨w.heap.size, 3, none⟩ = some (.string s) by rw [← hWb]; simp)
    have cQ := fun d os => Calls.regrown_of (lexChar_ok c (grow (redrawn wb d) os))
    have HWb := Lib.hid hWb
    clear hWb
    refine wp_region_quiet_below (by kernel_rfl) (by kernel_rfl) ?_
    repeat (go_big_quiet_step (exact cQ _ _))
    refine wpQuiet_nil ?_
    intro _ hw'
    obtain ⟨⟨dq, osq⟩, hw''⟩ := hw'
    subst hw''
    go_wp2
    go_ret2
    exact written_mk HF.out (fun h => by cases h) ((HWb.out ▸ HW).trans ((below_regrown wb dq osq).mono (by rw [← HWb.out]; simp)))

end Go.Proofs.YtncojfcdkigmiaaDoor
