/- Is there a node that is not right: the program. -/
import Derived.Test.YtkokdafkjjcgoaaGreatDoorWell2
import Derived.Test.YtkokdafkjjcgoaaGreatDoorBegM
namespace Go.Proofs.YtkokdafkjjcgoaaGreatDoor
open Go.RowKit

theorem looked1_ok (x : Nd) (w : World) (hE : TE w) : Calls Tryz.prog 82 #[ndV x] w fun e w' => e = .returned (.bool (!wellN x)) ∧ Below w.heap.size w w' := by
  have HE := Lib.hid hE
  have HWl := Lib.hid (fun w (hE : TE w) => well_ok x w hE)
  clear hE
  generalize wellN x = r at *
  obtain ⟨k, n, p, i, s, t⟩ := x
  simp only [ndV] at HWl ⊢
  go_enter Tryz.func82, Tryz.ntmps82
  go_upto_region 1 with fail
  have hx1 : (w.alloc (ndObj ⟨k, n, p, i, s, t⟩)).heap[w.heap.size]? = some (.cells #[.int .i64 k, .int .i64 n, .int .i64 p, .int .i64 i, .string s, .string t] 36 (0, 0)) := heap_alloc_new _ _
  have hb1 : Below w.heap.size w (w.alloc (ndObj ⟨k, n, p, i, s, t⟩)) := ba1 _ _
  simp only [ndObj] at hx1 hb1
  generalize w.alloc (.cells #[.int .i64 k, .int .i64 n, .int .i64 p, .int .i64 i, .string s, .string t] 36) = w1 at *
  obtain ⟨⟨d0, d1, d2, d3, d4, d5⟩, _⟩ := six_block hx1
  have HB1 := Lib.hid hb1
  clear hx1 hb1
  go_wp2_with (go_at_call 83; (with_reducible refine (HWl.out w1 (HE.out.below HB1.out)).mono ?_); rintro e w2 ⟨rfl, hb2⟩; have HB2 := Lib.hid (HB1.out.trans (hb2.mono HB1.out.size)); clear hb2)
  go_ret
  exact ⟨by simp, HB2.out⟩
set_option maxHeartbeats 2000000 in
theorem looked_idx (xs : List Nd) (a : Option Addr) (cap : Nat) (w : World) (hE : TE w) (h : IsNds w.heap.size w a xs) (hl : (xs.length : Int) ≤ 9223372036854775807) :
    Calls Tryz.prog 129 #[.slice a xs.length cap, .func (.func 82) #[] #[]] w fun e w' => ∃ o : Int, e = .returned (.int .i64 o) ∧ decide (0 ≤ o) = (!xs.all wellN) ∧ Below w.heap.size w w' := by
  have HE := Lib.hid hE
  have HR := Lib.hid h
  clear hE h
  go_enter Tryz.func129, Tryz.ntmps129
  go_wp2_with fail
  go_loopg [8] xs.length (fun g v8 wy => ∃ k : Nat, k ≤ xs.length ∧ k + g = xs.length ∧ v8 = .int .i64 (k : Int) ∧ Hid (∀ j (hj : j < xs.length), j < k → wellN xs[j] = true) ∧ Hid (Below w.heap.size w wy))
  case atStart => exact ⟨0, by omega, by omega, rfl, fun j _ h => by omega, Below.refl _ _⟩
  case round =>
    obtain ⟨k, hk, hkg, rfl, hno, HB⟩ := hrel
    by_cases hlk : k < xs.length
    · obtain ⟨bb, off, ha, hbl, x0, x1, x2, x3, x4, x5⟩ := nds_at HR.out hlk
      subst ha
      rw [← HB.out.cell hbl] at x0 x1 x2 x3 x4 x5
      rcases h : wellN xs[k] with _ | _
      · have HC := Lib.hid ((fun w hE => looked1_ok xs[k] w hE) wr (HE.out.below HB.out))
        have hfin := Lib.hid (show (!xs.all wellN) = true by
          rw [Bool.not_eq_true', List.all_eq_false]
          exact ⟨xs[k], List.getElem_mem hlk, by rw [h]; simp⟩)
        simp only [h] at HC
        clear h hno
        generalize xs[k]'hlk = mt at *
        obtain ⟨kk, n, p, i, s, t⟩ := mt
        simp only [ndV] at HC x0 x1 x2 x3 x4 x5
        go_wp2_with (go_at_call 82; (with_reducible refine HC.out.mono ?_); rintro e w2 ⟨rfl, hb2⟩; have HB2 := Lib.hid hb2; clear hb2)
        go_ret
        exact ⟨_, rfl, by rw [hfin.out]; simp, HB.out.trans (HB2.out.mono HB.out.size)⟩
      · have HC := Lib.hid ((fun w hE => looked1_ok xs[k] w hE) wr (HE.out.below HB.out))
        have HN := Lib.hid (show ∀ j (hj : j < xs.length), j < k + 1 → wellN xs[j] = true from fun j hj hjk => by
          rcases Nat.lt_or_ge j k with h' | h'
          · exact hno.out j hj h'
          · obtain rfl : j = k := by omega
            exact h)
        simp only [h] at HC
        clear h hno
        generalize xs[k]'hlk = mt at *
        obtain ⟨kk, n, p, i, s, t⟩ := mt
        simp only [ndV] at HC x0 x1 x2 x3 x4 x5
        go_wp2_with (go_at_call 82; (with_reducible refine HC.out.mono ?_); rintro e w2 ⟨rfl, hb2⟩; have HB2 := Lib.hid (HB.out.trans (hb2.mono HB.out.size)); clear hb2)
        go_roundg (xs.length - (k + 1))
        case measure => omega
        case rel => exact ⟨k + 1, by omega, by omega, by rw [Int.natCast_add]; rfl, HN.out, HB2.out⟩
    · obtain rfl : k = xs.length := by omega
      have hfin := Lib.hid (show (!xs.all wellN) = false by
        rw [Bool.not_eq_false', List.all_eq_true]
        intro m hm
        obtain ⟨j, hj, rfl⟩ := List.getElem_of_mem hm
        simp [hno.out j hj hj])
      have t3 : (xs.length : Int) ≤ (xs.length : Int) := Int.le_refl _
      go_wp2_with fail
      go_ret
      exact ⟨_, rfl, by rw [hfin.out]; rfl, HB.out⟩
set_option maxHeartbeats 2000000 in
theorem looked_has (xs : List Nd) (a : Option Addr) (cap : Nat) (w : World) (hE : TE w) (h : IsNds w.heap.size w a xs) (hl : (xs.length : Int) ≤ 9223372036854775807) :
    Calls Tryz.prog 81 #[.slice a xs.length cap, .func (.func 82) #[] #[]] w fun e w' => e = .returned (.bool ((!xs.all wellN))) ∧ Below w.heap.size w w' := by
  have H := Lib.hid (looked_idx xs a cap w hE h hl)
  clear hE h
  go_enter Tryz.func81, Tryz.ntmps81
  go_wp2_with (go_at_call 129; (with_reducible refine H.out.mono ?_); rintro e w1 ⟨o, rfl, ho, hb1⟩; have HO := Lib.hid ho; clear ho)
  go_ret
  exact ⟨by rw [← HO.out]; rfl, hb1⟩

end Go.Proofs.YtkokdafkjjcgoaaGreatDoor

