/- The tables of the language: keywords, marks; what the world holds of them. -/
import Derived.Test.YtlomdlblohnfmaaDoorChecked
import Derived.Test.YtlomdlblohnfmaaDoorBase
import Derived.Test.YtlomdlblohnfmaaDoorPlain
import Derived.Test.YtlomdlblohnfmaaDoorShelf
import Derived.Test.YtlomdlblohnfmaaDoorName
namespace Go.Proofs.YtlomdlblohnfmaaDoor
open Go.RowKit

/-- the keywords' table as the text lays it -/
def KeysAt (w : World) : Prop := ∀ j, j < keyT.length → w.cell? ⟨0, 0 + j, none⟩ = some (.string (keyT.getD j ByteArray.empty))
theorem KeysAt.below {w w' : World} (h : KeysAt w) (hb : Below w.heap.size w w') : KeysAt w' := fun j hj => by
  have h1 := h j hj
  rw [hb.cell (World.block_lt_of_cell? w _ h1)]; exact h1
theorem KeysAt.drew {w : World} (h : KeysAt w) : KeysAt w.drew := h
theorem KeysAt.drewN {w : World} (h : KeysAt w) (n : Nat) : KeysAt (w.drewN n) := h

theorem lexIsKey_ok (s : ByteArray) (w : World) (hK : KeysAt w) :
    Calls Tryd.prog 60 #[.string s] w fun e w' => e = .returned (.bool (isKeyB s)) ∧ w' = w := by
  have HK := Lib.hid hK
  clear hK
  go_enter Tryd.func60, Tryd.ntmps60
  go_wp2_with (go_at_call 81; refine (Tryd.slices_Contains_string _ 0 keyT.length _ keyT s _ (Nat.le_refl _) (by decide) HK.out).mono ?_; rintro e w' ⟨rfl, rfl⟩)
  go_ret
  exact ⟨rfl, rfl⟩

set_option maxHeartbeats 1000000 in
theorem lexIsName_ok (s : ByteArray) (w : World) (hK : KeysAt w) (hs : s.size ≤ 1048576) :
    Calls Tryd.prog 38 #[.string s] w fun e w' => e = .returned (.bool (isNameB s)) ∧ Below w.heap.size w w' := by
  have HK := Lib.hid hK
  clear hK
  by_cases h0 : 0 < s.size
  · by_cases h31 : s.size ≤ 31
    · have t1 : s.toList.isEmpty = false := by
        rw [Lib.toList_data, List.isEmpty_eq_false_iff]; intro e; have : s.data.toList.length = 0 := by rw [e]; rfl
        rw [Array.length_toList] at this; exact absurd this (by show ¬ s.size = 0; omega)
      rcases hL : letB s[0] with _ | _
      · have hfin := Lib.hid (show isNameB s = false by simp [isNameB, head_at s h0, hL])
        have HL := Lib.hid hL
        clear hL
        go_enter Tryd.func38, Tryd.ntmps38
        go_wp2_with (go_at_call 58; refine (lexLetter_is false _ _ HL.out).mono ?_; rintro e w' ⟨rfl, rfl⟩)
        go_ret
        exact ⟨by rw [hfin.out]; rfl, (Below.refl _ _).alloc (Nat.le_refl _) _⟩
      · have HL := Lib.hid hL
        clear hL
        have hT : TextAt (w.alloc (.cells #[.string s, .int .i64 0] 131)) w.heap.size #[.string s, .int .i64 0] 131 s 0 := ⟨heap_alloc_new w _, rfl, by simp⟩
        have HT := Lib.hid hT
        clear hT
        go_enter Tryd.func38, Tryd.ntmps38
        go_wp2_with (go_at_call 58; refine (lexLetter_is true _ _ HL.out).mono ?_; rintro e w' ⟨rfl, rfl⟩)
        refine (word_ok w.heap.size 0 _ 131 s _ HT.out (Nat.zero_le _) hs).mono ?_
        rintro e w1 ⟨rfl, hT1, hg1⟩
        clear hT1
        have hb1 := below_grown (B := w.heap.size) hg1 (Nat.le_refl _) (by simp)
        have hbw := ((Below.refl w.heap.size w).alloc (Nat.le_refl _) _).trans hb1
        have HK1 := Lib.hid (HK.out.below hbw)
        have HB := Lib.hid hbw
        clear hg1 hb1 hbw
        by_cases hn : wlen s.data.toList = s.size
        · have hx : s.extract 0 (0 + wlen (s.data.toList.drop 0)) = s := by rw [List.drop_zero, Nat.zero_add, hn]; exact extract_all s
          rw [hx]
          rcases hk : isKeyB s with _ | _
          · have hfin := Lib.hid (show isNameB s = true by simp [isNameB, head_at s h0, HL.out, h0, h31, hn, hk])
            have HKy := Lib.hid hk
            clear hk hx hn
            go_wp2_with (go_at_call 60; refine (lexIsKey_ok s _ HK1.out).mono ?_; rintro e w' ⟨rfl, rfl⟩; rw [HKy.out])
            go_ret
            exact ⟨by rw [hfin.out]; rfl, HB.out⟩
          · have hfin := Lib.hid (show isNameB s = false by simp [isNameB, hk])
            have HKy := Lib.hid hk
            clear hk hx hn
            go_wp2_with (go_at_call 60; refine (lexIsKey_ok s _ HK1.out).mono ?_; rintro e w' ⟨rfl, rfl⟩; rw [HKy.out])
            go_ret
            exact ⟨by rw [hfin.out]; rfl, HB.out⟩
        · have hfin := Lib.hid (show isNameB s = false by simp [isNameB, hn])
          have hne : ((s.extract 0 (0 + wlen (s.data.toList.drop 0))).toList == s.toList) = false := by
            rw [beq_eq_false_iff_ne]
            intro e
            rw [Lib.toList_data, Lib.toList_data] at e
            have := congrArg List.length e
            have hle := wlen_le s.data.toList
            have hl : s.data.toList.length = s.size := by rw [Array.length_toList]; rfl
            rw [extract_toList' s _ (by simpa using hle), List.length_take] at this
            simp at this
            omega
          obtain ⟨z, ez⟩ : ∃ z, z = s.extract 0 (0 + wlen (s.data.toList.drop 0)) := ⟨_, rfl⟩
          rw [← ez] at hne ⊢
          clear ez hn
          go_wp2
          go_ret
          exact ⟨by rw [hfin.out]; rfl, HB.out⟩
    · have hfin := Lib.hid (show isNameB s = false by simp [isNameB, h31])
      have t1 : decide ((s.size : Int) ≤ 31) = false := by simp; omega
      go_enter Tryd.func38, Tryd.ntmps38
      go_wp2_with fail
      all_goals go_ret
      all_goals exact ⟨by rw [hfin.out]; rfl, (Below.refl _ _).alloc (Nat.le_refl _) _⟩
  · have hfin := Lib.hid (show isNameB s = false by simp [isNameB, h0])
    have t1 : s.toList.isEmpty = true := by
      rw [Lib.toList_data, List.isEmpty_iff]
      apply List.eq_nil_of_length_eq_zero
      rw [Array.length_toList]; show s.size = 0; omega
    go_enter Tryd.func38, Tryd.ntmps38
    go_wp2_with fail
    all_goals go_ret
    all_goals exact ⟨by rw [hfin.out]; rfl, (Below.refl _ _).alloc (Nat.le_refl _) _⟩

end Go.Proofs.YtlomdlblohnfmaaDoor

