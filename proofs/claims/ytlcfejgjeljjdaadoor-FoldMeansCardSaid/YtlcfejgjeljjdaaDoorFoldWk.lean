/- The law's own example: the program. -/
import Derived.Test.YtlcfejgjeljjdaaDoorMg28
import Derived.Test.YtlcfejgjeljjdaaDoorMg17
namespace Go.Proofs.YtlcfejgjeljjdaaDoor
open Go.RowKit

theorem nds_lit {w : World} {b : Nat} {T : TypeId} {cs : Array Value} {t : List Nd} (h : w.heap[b]? = some (.cells cs T (0, 0))) (hc : cs.toList = t.flatMap ndCells) : IsNds w.heap.size w (some ⟨b, 0, none⟩) t := fun _ =>
  ⟨b, 0, rfl, lt_of_heap h, fun i x hx j u hu => by
    have := flat_at (k := 6) (cells := ndCells) (fun _ => rfl) hx hu
    rw [← hc] at this
    simp [World.cell?, h]
    simpa using this⟩
def num12 (n : Int) : Nd := ⟨1, 0, 0, n, ⟨#[]⟩, iText12⟩
def exT : List Nd := [num12 1, num12 2, num12 3, num12 0, ⟨7, 2, 0, 0, mDiv, ⟨#[]⟩⟩, ⟨9, 3, 0, 0, ⟨#[]⟩, ⟨#[]⟩⟩]
theorem ex_start : startN exT [] = 0 := by decide +kernel
theorem ex_begins : beginsN exT = some [0, 1, 2, 3, 2, 0] := by decide +kernel
theorem ex_eval : evalX exT [] = (2, iText12, 0) := by
  unfold evalX
  rw [if_neg (show ¬ startN exT [] ≠ 0 by simp [ex_start])]
  have : constT [] (trOf exT) = some (iText12, 2) := by
    unfold trOf
    rw [ex_begins]
    decide +kernel
  rw [this]
theorem ex_conv : convE 200 cText12 = (-56, 0) := by decide +kernel
theorem num_ok (n : Int) (w : World) : Calls Tryd.prog 14 #[.int .i64 n] w fun e w' => e = .returned (.agg #[.int .i64 1, .int .i64 0, .int .i64 0, .int .i64 n, .string ⟨#[]⟩, .string ⟨#[105]⟩]) ∧ Below w.heap.size w w' := by
  have hq := nodeAt_new w ⟨0, 0, 0, 0, ⟨#[]⟩, ⟨#[]⟩⟩
  have hb := ba1 w (ndObj ⟨0, 0, 0, 0, ⟨#[]⟩, ⟨#[]⟩⟩)
  simp only [ndObj] at hq hb
  go_enter Tryd.func14, Tryd.ntmps14
  go_upto_region 1 with fail
  generalize w.alloc (.cells #[.int .i64 0, .int .i64 0, .int .i64 0, .int .i64 0, .string ⟨#[]⟩, .string ⟨#[]⟩] 43) = w1 at *
  obtain ⟨⟨x0, x1, x2, x3, x4, x5⟩, xf⟩ := six_block hq
  have f0 := xf 0
  have f1 := xf 1
  have f2 := xf 2
  have f3 := xf 3
  have f4 := xf 4
  have f5 := xf 5
  have HB := Lib.hid hb
  clear xf hq hb
  go_wp2_with fail
  exact bodyPost_ret (v := .agg #[.int .i64 1, .int .i64 0, .int .i64 0, .int .i64 n, .string ⟨#[]⟩, .string ⟨#[105]⟩]) (by simp [results, Tryd.results14, go_sem, x0, x1, x2, x3, x4, x5]) rfl ⟨rfl, below_set6 HB.out (Nat.le_refl w.heap.size) ⟨1, 0, 0, n, ⟨#[]⟩, ⟨#[105]⟩⟩⟩
set_option maxRecDepth 100000 in
set_option maxHeartbeats 4000000 in
theorem works12_ok (w : World) (hE : TE w) : Calls Tryd.prog 6 #[] w fun e w' => e = .returned (.bool true) ∧ Below w.heap.size w w' := by
  have HE := Lib.hid hE
  have HNum := Lib.hid (fun n w => num_ok n w)
  have HCv := Lib.hid (fun w => convert_ok 200 ⟨#[99]⟩ w)
  have e1 : convE 200 ⟨#[99]⟩ = (-56, 0) := ex_conv
  rw [e1] at HCv
  have HEv := Lib.hid (fun (w : World) (a : Option Addr) (hE : TE w) (hI : IsNds w.heap.size w a exT) => show Calls Tryd.prog 13 #[.slice a 6 6, .slice none 0 0] w (fun e w' => e = .returned (.tuple #[.int .i64 2, .string ⟨#[105]⟩, .int .i64 0]) ∧ Below w.heap.size w w') from by
    have := evalC_ok a 6 exT none 0 [] [] w hE hI (by intro x hx; simp [exT, num12] at hx; rcases hx with rfl | rfl | rfl | rfl | rfl | rfl <;> (refine ⟨?_, ?_, ?_, ?_⟩ <;> (unfold i64In; decide))) (by decide) ⟨rfl, fun h => absurd rfl h, fun x hx => by cases hx⟩
    rw [ex_eval] at this
    exact this)
  clear hE e1
  go_enter Tryd.func6, Tryd.ntmps6
  go_upto_region 2 with (first
    | (go_at_call_of 14 (1 : Int); (with_reducible refine (HNum.out _ _).mono ?_); rintro e w1 ⟨rfl, hb1⟩; have HB1 := Lib.hid hb1; clear hb1)
    | (go_at_call_of 14 (2 : Int); (with_reducible refine (HNum.out _ _).mono ?_); rintro e w2 ⟨rfl, hb2⟩; have HB2 := Lib.hid (HB1.out.trans (hb2.mono HB1.out.size)); clear hb2)
    | (go_at_call_of 14 (3 : Int); (with_reducible refine (HNum.out _ _).mono ?_); rintro e w3 ⟨rfl, hb3⟩; have HB3 := Lib.hid (HB2.out.trans (hb3.mono HB2.out.size)); clear hb3)
    | (go_at_call_of 14 (0 : Int); (with_reducible refine (HNum.out _ _).mono ?_); rintro e w4 ⟨rfl, hb4⟩; have HB4 := Lib.hid (HB3.out.trans (hb4.mono HB3.out.size)); clear hb4))
  have hI := nds_lit (w := w4.alloc (.cells #[.int .i64 1, .int .i64 0, .int .i64 0, .int .i64 1, .string ⟨#[]⟩, .string ⟨#[105]⟩, .int .i64 1, .int .i64 0, .int .i64 0, .int .i64 2, .string ⟨#[]⟩, .string ⟨#[105]⟩, .int .i64 1, .int .i64 0, .int .i64 0, .int .i64 3, .string ⟨#[]⟩, .string ⟨#[105]⟩, .int .i64 1, .int .i64 0, .int .i64 0, .int .i64 0, .string ⟨#[]⟩, .string ⟨#[105]⟩, .int .i64 7, .int .i64 2, .int .i64 0, .int .i64 0, .string ⟨#[47]⟩, .string ⟨#[]⟩, .int .i64 9, .int .i64 3, .int .i64 0, .int .i64 0, .string ⟨#[]⟩, .string ⟨#[]⟩] 43)) (t := exT) (heap_alloc_new _ _) rfl
  have HB5 := Lib.hid (HB4.out.alloc HB4.out.size (.cells #[.int .i64 1, .int .i64 0, .int .i64 0, .int .i64 1, .string ⟨#[]⟩, .string ⟨#[105]⟩, .int .i64 1, .int .i64 0, .int .i64 0, .int .i64 2, .string ⟨#[]⟩, .string ⟨#[105]⟩, .int .i64 1, .int .i64 0, .int .i64 0, .int .i64 3, .string ⟨#[]⟩, .string ⟨#[105]⟩, .int .i64 1, .int .i64 0, .int .i64 0, .int .i64 0, .string ⟨#[]⟩, .string ⟨#[105]⟩, .int .i64 7, .int .i64 2, .int .i64 0, .int .i64 0, .string ⟨#[47]⟩, .string ⟨#[]⟩, .int .i64 9, .int .i64 3, .int .i64 0, .int .i64 0, .string ⟨#[]⟩, .string ⟨#[]⟩] 43))
  have HI := Lib.hid hI
  clear hI
  generalize w4.alloc (.cells #[.int .i64 1, .int .i64 0, .int .i64 0, .int .i64 1, .string ⟨#[]⟩, .string ⟨#[105]⟩, .int .i64 1, .int .i64 0, .int .i64 0, .int .i64 2, .string ⟨#[]⟩, .string ⟨#[105]⟩, .int .i64 1, .int .i64 0, .int .i64 0, .int .i64 3, .string ⟨#[]⟩, .string ⟨#[105]⟩, .int .i64 1, .int .i64 0, .int .i64 0, .int .i64 0, .string ⟨#[]⟩, .string ⟨#[105]⟩, .int .i64 7, .int .i64 2, .int .i64 0, .int .i64 0, .string ⟨#[47]⟩, .string ⟨#[]⟩, .int .i64 9, .int .i64 3, .int .i64 0, .int .i64 0, .string ⟨#[]⟩, .string ⟨#[]⟩] 43) = w5 at *
  have HV := Lib.hid (HEv.out w5 _ (HE.out.below HB5.out) HI.out)
  go_wp2_with (first
    | (go_at_call 13; (with_reducible refine HV.out.mono ?_); rintro e w6 ⟨rfl, hb6⟩; have HB6 := Lib.hid (HB5.out.trans (hb6.mono HB5.out.size)); clear hb6)
    | (go_at_call 9; (with_reducible refine (HCv.out _).mono ?_); rintro e w7 ⟨rfl, hw7⟩; subst w7))
  go_ret
  exact ⟨rfl, HB6.out⟩
end Go.Proofs.YtlcfejgjeljjdaaDoor

