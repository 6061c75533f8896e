/- Declare: the program. -/
import Derived.Test.YtkokdafkjjcgoaaGreatDoorMg15
namespace Go.Proofs.YtkokdafkjjcgoaaGreatDoor
open Go.RowKit

/-- what Declare tells -/
def declareV (r : Option Ty) (name : ByteArray) : Value := match r with
  | none => .tuple #[.string ⟨#[]⟩, .int .i64 2]
  | some t => if name = ⟨#[]⟩ ∨ isNameB name = true then .tuple #[.string (strB (declT t name.data.toList)), .int .i64 0] else .tuple #[.string ⟨#[]⟩, .int .i64 2]
theorem emp_iff (s : ByteArray) : s.toList.isEmpty = decide (s = ⟨#[]⟩) := by
  rw [Lib.toList_data, Bool.eq_iff_iff, List.isEmpty_iff, decide_eq_true_iff]
  exact ⟨fun h => toList_eq (by rw [h]), fun h => by rw [h]⟩
theorem name_size {s : ByteArray} (h : isNameB s = true) : s.size ≤ 31 := by
  unfold isNameB at h
  simp only [Bool.and_eq_true, decide_eq_true_iff] at h
  exact h.2.1

set_option maxHeartbeats 1000000 in
theorem declare_ok (s name : ByteArray) (w : World) (hE : TP w) : Calls Tryz.prog 116 #[.string s, .string name] w fun e w' => e = .returned (declareV (tyS s) name) ∧ Below w.heap.size w w' := by
  have HE := Lib.hid hE
  rcases h : tyS s with _ | t
  · have HF := Lib.hid (form_is false s w hE.te (by rw [h]; rfl))
    clear h hE
    go_enter Tryz.func116, Tryz.ntmps116
    go_wp2_with (go_at_call 149; (with_reducible refine HF.out.mono ?_); rintro e w1 ⟨rfl, hb1⟩)
    go_ret2
    exact ⟨rfl, hb1⟩
  · have HF := Lib.hid (form_is true s w hE.te (by rw [h]; rfl))
    obtain ⟨hs, hr, hl⟩ := tyS_some.1 h
    have HD := Lib.hid (fun w hE (hz : name.size ≤ 31) => show Calls Tryz.prog 151 #[.string s, .string name] w fun e w' => e = .returned (.string (strB (declT t name.data.toList))) ∧ Below w.heap.size w w' by
      have hn : name.data.toList.length = name.size := by rw [Array.length_toList]; rfl
      have := declared_ok _ t (Nat.le_refl _) hr hl name.data.toList w hE (by omega)
      rw [strB_self, ← hs] at this
      exact this)
    by_cases h0 : name = ⟨#[]⟩
    · have hfin := Lib.hid (show declareV (some t) name = .tuple #[.string (strB (declT t name.data.toList)), .int .i64 0] from if_pos (.inl h0))
      have t1 : name.toList.isEmpty = true := by rw [emp_iff]; simpa using h0
      have HZ := Lib.hid (show name.size ≤ 31 by rw [h0]; decide)
      clear h hE hs hr hl h0
      go_enter Tryz.func116, Tryz.ntmps116
      go_wp2_with (first | (go_at_call 149; (with_reducible refine HF.out.mono ?_); rintro e w1 ⟨rfl, hb1⟩; have HE1 := Lib.hid (HE.out.below hb1)) | (go_at_call 151; (with_reducible refine (HD.out _ HE1.out HZ.out).mono ?_); rintro e w2 ⟨rfl, hb2⟩))
      go_ret2
      exact ⟨tup_eq hfin.out.symm, hb1.trans (hb2.mono hb1.size)⟩
    · have t1 : name.toList.isEmpty = false := by rw [emp_iff]; simpa using h0
      rcases hn : isNameB name with _ | _
      · have hfin := Lib.hid (show declareV (some t) name = .tuple #[.string ⟨#[]⟩, .int .i64 2] from if_neg (by rintro (h | h); exact h0 h; rw [hn] at h; cases h))
        have HN := Lib.hid hn
        clear h hE hs hr hl h0 hn
        go_enter Tryz.func116, Tryz.ntmps116
        go_wp2_with (go_at_call 149; (with_reducible refine HF.out.mono ?_))
        rintro e w1 ⟨rfl, hb1⟩
        have HE1 := Lib.hid (HE.out.below hb1)
        go_wp2_with (go_at_call 124; (with_reducible refine (lexIsName_any name _ HE1.out.te.keys).mono ?_))
        rintro e w2 ⟨rfl, hb2⟩
        rw [HN.out]
        go_wp2_with fail
        go_ret2
        exact ⟨tup_eq hfin.out.symm, hb1.trans (hb2.mono hb1.size)⟩
      · have hfin := Lib.hid (show declareV (some t) name = .tuple #[.string (strB (declT t name.data.toList)), .int .i64 0] from if_pos (.inr hn))
        have HN := Lib.hid hn
        have HZ := Lib.hid (name_size hn)
        clear h hE hs hr hl h0 hn
        go_enter Tryz.func116, Tryz.ntmps116
        go_wp2_with (go_at_call 149; (with_reducible refine HF.out.mono ?_))
        rintro e w1 ⟨rfl, hb1⟩
        have HE1 := Lib.hid (HE.out.below hb1)
        go_wp2_with (go_at_call 124; (with_reducible refine (lexIsName_any name _ HE1.out.te.keys).mono ?_))
        rintro e w2 ⟨rfl, hb2⟩
        rw [HN.out]
        have HE2 := Lib.hid (HE1.out.below hb2)
        go_wp2_with (go_at_call 151; (with_reducible refine (HD.out _ HE2.out HZ.out).mono ?_); rintro e w3 ⟨rfl, hb3⟩)
        go_ret2
        exact ⟨tup_eq hfin.out.symm, (hb1.trans (hb2.mono hb1.size)).trans (hb3.mono (hb1.trans (hb2.mono hb1.size)).size)⟩

end Go.Proofs.YtkokdafkjjcgoaaGreatDoor

