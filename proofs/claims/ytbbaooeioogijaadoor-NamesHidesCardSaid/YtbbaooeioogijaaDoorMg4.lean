/- Words, keywords and names of the reference. · Names and keywords of texts of any length, of both texts. -/
import Derived.Test.YtbbaooeioogijaaDoorMg1
namespace Go.Proofs.YtbbaooeioogijaaDoor
open Go.RowKit

theorem str_eqb {a b : ByteArray} : (a.toList == b.toList) = decide (a = b) := by
  rw [Bool.eq_iff_iff, beq_iff_eq, decide_eq_true_iff, Lib.toList_data, Lib.toList_data]
  exact ⟨toList_eq, fun h => by rw [h]⟩

set_option maxHeartbeats 400000 in
theorem baseIn_ok (b c : Nat) (zs : List ByteArray) (s : ByteArray) (w : World) (hn : zs.length ≤ 1048576) (hc : ∀ j, j < zs.length → w.cell? ⟨b, j, none⟩ = some (.string (zs.getD j ByteArray.empty))) :
    Calls Tryd.prog 14 #[.slice (some ⟨b, 0, none⟩) zs.length c, .string s] w fun e w' => e = .returned (.bool (Lib.containsS zs s)) ∧ w = w' := by
  have HC := Lib.hid hc
  clear hc
  go_enter Tryd.func14, Tryd.ntmps14
  go_wp2
  go_loop [5] (fun i => ∃ k : Nat, k ≤ zs.length ∧ i = .int .i64 k ∧ Hid (∀ j, j < k → zs.getD j ByteArray.empty ≠ s)) (fun i => zs.length - (intOf i).toNat)
  case atStart => exact ⟨0, Nat.zero_le _, rfl, fun j hj => by omega⟩
  case round =>
    obtain ⟨k, hk, rfl, hno⟩ := hrel
    by_cases hlt : k < zs.length
    · have hcell := HC.out k hlt
      obtain ⟨z, ez⟩ : ∃ z, z = zs.getD k ByteArray.empty := ⟨_, rfl⟩
      rw [← ez] at hcell
      have EZ := Lib.hid ez
      clear ez
      by_cases hz : z = s
      · subst hz
        have hfin := Lib.hid (show Lib.containsS zs z = true by
          rw [Lib.containsS_iff, EZ.out, getD_lt _ _ hlt]; exact List.getElem_mem hlt)
        go_wp2
        go_ret
        exact ⟨by rw [hfin.out]; rfl, rfl⟩
      · have hb : (z.toList == s.toList) = false := by rw [str_eqb]; simpa using hz
        have hz' := Lib.hid hz
        clear hz
        go_wp2
        go_round
        case rel => exact ⟨k + 1, by omega, by go_num, fun j hj => by
          rcases Nat.lt_or_ge j k with h | h
          · exact hno.out j h
          · obtain rfl : j = k := by omega
            rw [← EZ.out]; exact hz'.out⟩
        case measure => simp [intOf]; omega
    · obtain rfl : k = zs.length := by omega
      have hfin := Lib.hid (show Lib.containsS zs s = false by
        rw [Bool.eq_false_iff]; intro h
        rw [Lib.containsS_iff] at h
        obtain ⟨j, hj, e⟩ := List.getElem_of_mem h
        exact hno.out j hj (by rw [getD_lt _ _ hj, e]))
      go_wp2
      go_ret
      exact ⟨by rw [hfin.out]; rfl, rfl⟩

theorem baseLetter_ok (c : UInt8) (w : World) :
    Calls Tryd.prog 26 #[.int .u8 (c.toNat : Int)] w fun e w' => e = .returned (.bool (letB c)) ∧ w' = w := by
  go_enter Tryd.func26, Tryd.ntmps26
  go_wp2
  all_goals go_ret
  all_goals refine ⟨letB_mk ?_, rfl⟩
  all_goals (simp; omega)
theorem baseLetter_is (r : Bool) (c : UInt8) (w : World) (h : letB c = r) : Calls Tryd.prog 26 #[.int .u8 (c.toNat : Int)] w fun e w' => e = .returned (.bool r) ∧ w' = w := by
  subst h; exact baseLetter_ok c w

set_option maxRecDepth 100000 in
set_option maxHeartbeats 400000 in
theorem baseKey_ok (s : ByteArray) (w : World) :
    Calls Tryd.prog 17 #[.string s] w fun e w' => e = .returned (.bool (isKeyB s)) ∧ Below w.heap.size w w' := by
  have hc : ∀ j, j < keyT.length → (w.alloc (.cells (keyT.map Value.string).toArray 9)).cell? ⟨w.heap.size, j, none⟩ = some (.string (keyT.getD j ByteArray.empty)) := fun j hj => by
    rw [World.cell?_alloc_at _ _ _ _ rfl]
    simp only [List.getElem?_toArray, List.getElem?_map, List.getElem?_eq_getElem hj, getD_lt _ _ hj, Option.map_some]
  have HC := Lib.hid hc
  clear hc
  go_enter Tryd.func17, Tryd.ntmps17
  go_wp2_with (go_at_call 14; refine (baseIn_ok w.heap.size keyT.length keyT s _ (by decide) HC.out).mono ?_; rintro e w' ⟨rfl, rfl⟩)
  go_ret
  exact ⟨rfl, (Below.refl _ _).alloc (Nat.le_refl _) _⟩

/-- a word, by its bytes: what the reference asks -/
def isWordB (s : ByteArray) : Bool := decide (0 < s.size) && ((s.data.toList.head?.any letB) && decide (wlen s.data.toList = s.size))

theorem wlen_more (l : List UInt8) (k : Nat) (hk : k < l.length) (h : k ≤ wlen l) (hb : wordB l[k] = true) : k + 1 ≤ wlen l := by
  rcases Nat.lt_or_ge k (wlen l) with h' | h'
  · omega
  · obtain rfl : k = wlen l := by omega
    obtain ⟨c, hc, hw⟩ := wlen_at hk
    rw [List.getElem?_eq_getElem hk] at hc
    simp only [Option.some.injEq] at hc
    rw [hc, hw] at hb; cases hb
theorem wlen_none (l : List UInt8) (k : Nat) (hk : k < l.length) (h : wordB l[k] = false) : wlen l ≤ k := by
  rcases Nat.lt_or_ge k (wlen l) with h' | h'
  · obtain ⟨c, hc, hw⟩ := wlen_lt h'
    rw [List.getElem?_eq_getElem hk] at hc
    simp only [Option.some.injEq] at hc
    rw [hc] at h; rw [h] at hw; cases hw
  · exact h'

set_option maxHeartbeats 1000000 in
theorem baseWord_ok (s : ByteArray) (w : World) (hs : s.size ≤ 1048576) :
    Calls Tryd.prog 16 #[.string s] w fun e w' => e = .returned (.bool (isWordB s)) ∧ w = w' := by
  have hl : s.data.toList.length = s.size := by rw [Array.length_toList]; rfl
  have Hl := Lib.hid hl
  clear hl
  by_cases h0 : 0 < s.size
  · have t1 : s.toList.isEmpty = false := by
      rw [Lib.toList_data, List.isEmpty_eq_false_iff]; intro e; have : s.data.toList.length = 0 := by rw [e]; rfl
      have := Hl.out; omega
    rcases hL : letB s[0] with _ | _
    · have hfin := Lib.hid (show isWordB s = false by simp [isWordB, head_at s h0, hL])
      have HL := Lib.hid hL
      clear hL
      go_enter Tryd.func16, Tryd.ntmps16
      go_wp2_with (go_at_call 26; refine (baseLetter_is false _ _ HL.out).mono ?_; rintro e w' ⟨rfl, rfl⟩)
      go_ret
      exact ⟨by rw [hfin.out]; rfl, rfl⟩
    · have HL := Lib.hid hL
      clear hL
      go_enter Tryd.func16, Tryd.ntmps16
      go_wp2_with (go_at_call 26; refine (baseLetter_is true _ _ HL.out).mono ?_; rintro e w' ⟨rfl, rfl⟩)
      go_loop [3] (fun i => ∃ k : Nat, k ≤ s.size ∧ i = .int .i64 k ∧ Hid (k ≤ wlen s.data.toList)) (fun i => s.size - (intOf i).toNat)
      case atStart => exact ⟨0, Nat.zero_le _, rfl, Nat.zero_le _⟩
      case round =>
        obtain ⟨k, hk, rfl, hno⟩ := hrel
        by_cases hlt : k < s.size
        · rcases hW : wordB s[k] with _ | _
          · have hfin := Lib.hid (show isWordB s = false by
              have := wlen_none s.data.toList k (by rw [Hl.out]; exact hlt) hW
              simp [isWordB]; intros; omega)
            have HL1 := Lib.hid (show letB s[k] = false by simp [wordB] at hW; exact hW.1)
            have HD1 := Lib.hid (show digB s[k] = false by simp [wordB] at hW; exact hW.2)
            clear hW
            go_wp2_with (go_at_call 26; refine (baseLetter_is false _ _ HL1.out).mono ?_; rintro e w' ⟨rfl, rfl⟩)
            all_goals first
              | (go_ret; exact ⟨by rw [hfin.out]; rfl, rfl⟩)
              | (exfalso; have := HD1.out; simp [digB] at this; omega)
          · have HN := Lib.hid (wlen_more s.data.toList k (by rw [Hl.out]; exact hlt) hno.out hW)
            rcases hL : letB s[k] with _ | _
            · have HL1 := Lib.hid hL
              have HD1 := Lib.hid (show digB s[k] = true by simpa [wordB, hL] using hW)
              clear hW hL
              go_wp2_with (go_at_call 26; refine (baseLetter_is false _ _ HL1.out).mono ?_; rintro e w' ⟨rfl, rfl⟩)
              all_goals first
                | (exfalso; have := HD1.out; simp [digB] at this; omega)
                | (go_round
                   case rel => exact ⟨k + 1, by omega, by go_num, HN.out⟩
                   case measure => simp [intOf]; omega)
            · have HL1 := Lib.hid hL
              clear hW hL
              go_wp2_with (go_at_call 26; refine (baseLetter_is true _ _ HL1.out).mono ?_; rintro e w' ⟨rfl, rfl⟩)
              go_round
              case rel => exact ⟨k + 1, by omega, by go_num, HN.out⟩
              case measure => simp [intOf]; omega
        · obtain rfl : k = s.size := by omega
          have hfin := Lib.hid (show isWordB s = true by
            have := hno.out
            have h2 := wlen_le s.data.toList
            have h3 := Hl.out
            simp [isWordB, head_at s h0, HL.out, h0]; omega)
          go_wp2
          go_ret
          exact ⟨by rw [hfin.out]; rfl, rfl⟩
  · have hfin := Lib.hid (show isWordB s = false by simp [isWordB, h0])
    have t1 : s.toList.isEmpty = true := by
      rw [Lib.toList_data, List.isEmpty_iff]
      apply List.eq_nil_of_length_eq_zero
      have := Hl.out; omega
    go_enter Tryd.func16, Tryd.ntmps16
    go_wp2_with fail
    all_goals go_ret
    all_goals exact ⟨by rw [hfin.out]; rfl, rfl⟩

theorem isName_of (s : ByteArray) : isNameB s = (decide (s.size ≤ 31) && (isWordB s && !isKeyB s)) := by
  unfold isNameB isWordB
  cases decide (0 < s.size) <;> cases decide (s.size ≤ 31) <;> cases (s.data.toList.head?.any letB) <;> cases decide (wlen s.data.toList = s.size) <;> rfl

theorem baseName_ok (s : ByteArray) (w : World) (hs : s.size ≤ 1048576) :
    Calls Tryd.prog 8 #[.string s] w fun e w' => e = .returned (.bool (isNameB s)) ∧ Below w.heap.size w w' := by
  by_cases h31 : s.size ≤ 31
  · rcases hW : isWordB s with _ | _
    · have hfin := Lib.hid (show isNameB s = false by rw [isName_of, hW]; simp)
      have HW := Lib.hid hW
      clear hW
      go_enter Tryd.func8, Tryd.ntmps8
      go_wp2_with (go_at_call 16; refine (baseWord_ok s _ hs).mono ?_; rintro e w' ⟨rfl, rfl⟩; rw [HW.out])
      go_ret
      exact ⟨by rw [hfin.out]; rfl, Below.refl _ _⟩
    · have hfin := Lib.hid (show isNameB s = !isKeyB s by rw [isName_of, hW]; simp [h31])
      have HW := Lib.hid hW
      clear hW
      go_enter Tryd.func8, Tryd.ntmps8
      go_wp2_with (go_at_call 16; refine (baseWord_ok s _ hs).mono ?_; rintro e w' ⟨rfl, rfl⟩; rw [HW.out])
      refine (baseKey_ok s _).mono ?_
      rintro e w' ⟨rfl, hb⟩
      go_wp2
      go_ret
      exact ⟨by rw [hfin.out]; rfl, hb⟩
  · have hfin := Lib.hid (show isNameB s = false by rw [isName_of]; simp [h31])
    have t1 : decide ((s.size : Int) ≤ 31) = false := by simp; omega
    go_enter Tryd.func8, Tryd.ntmps8
    go_wp2_with fail
    all_goals go_ret
    all_goals exact ⟨by rw [hfin.out]; rfl, Below.refl _ _⟩

end Go.Proofs.YtbbaooeioogijaaDoor
namespace Go.Proofs.YtbbaooeioogijaaDoor
open Go.RowKit

theorem lexIsName_any (s : ByteArray) (w : World) (hK : KeysAt w) :
    Calls Tryd.prog 53 #[.string s] w fun e w' => e = .returned (.bool (isNameB s)) ∧ Below w.heap.size w w' := by
  by_cases h31 : s.size ≤ 31
  · exact lexIsName_ok s w hK (by omega)
  · have hfin := Lib.hid (show isNameB s = false by simp [isNameB, h31])
    have t1 : decide ((s.size : Int) ≤ 31) = false := by simp; omega
    clear hK
    go_enter Tryd.func53, Tryd.ntmps53
    go_wp2_with fail
    all_goals go_ret
    all_goals exact ⟨by rw [hfin.out]; rfl, (Below.refl _ _).alloc (Nat.le_refl _) _⟩

theorem baseName_any (s : ByteArray) (w : World) :
    Calls Tryd.prog 8 #[.string s] w fun e w' => e = .returned (.bool (isNameB s)) ∧ Below w.heap.size w w' := by
  by_cases h31 : s.size ≤ 31
  · exact baseName_ok s w (by omega)
  · have hfin := Lib.hid (show isNameB s = false by rw [isName_of]; simp [h31])
    have t1 : decide ((s.size : Int) ≤ 31) = false := by simp; omega
    go_enter Tryd.func8, Tryd.ntmps8
    go_wp2_with fail
    all_goals go_ret
    all_goals exact ⟨by rw [hfin.out]; rfl, Below.refl _ _⟩

end Go.Proofs.YtbbaooeioogijaaDoor
