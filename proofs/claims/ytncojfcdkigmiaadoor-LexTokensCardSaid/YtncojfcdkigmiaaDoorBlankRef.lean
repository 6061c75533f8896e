/- Blank and comments: the reference. -/
import Derived.Test.YtncojfcdkigmiaaDoorBlank
import Derived.Deep.LoopGhost
namespace Go.Proofs.YtncojfcdkigmiaaDoor
open Go.RowKit

theorem two_is (s : ByteArray) (j : Nat) (a c : UInt8) : ((s.extract j (j + 2)).toList == [a, c]) = Lib.hasPrefix (sfx s j) [a, c] := by
  rw [Lib.toList_data, extract_take, Bool.eq_iff_iff, beq_iff_eq]
  unfold Lib.hasPrefix
  rw [List.isPrefixOf_iff_prefix, List.prefix_iff_eq_take]
  exact ⟨fun h => h.symm, fun h => h.symm⟩

/-- a line's comment: from its beginning at j to the newline at m, which is blank itself -/
theorem line_end {s : ByteArray} {j m : Nat} (hj : j < s.size) (h : spB s[j] = false) (h1 : Lib.hasPrefix (sfx s j) [47, 47] = true) (hm : j ≤ m) (hno : ∀ k, j ≤ k → k < m → ∃ h : k < s.size, s[k] ≠ 10) (he : ∀ h : m < s.size, s[m] = 10) (hms : m ≤ s.size) : blankAt s j = blankAt s m := by
  by_cases hlt : m < s.size
  · have hi : Lib.indexByte (sfx s j) 10 = (m - j : Nat) := indexByte_at (by rw [sfx_getlt (by omega)]; have := he hlt; simp only [show j + (m - j) = m by omega]; rw [this]) (fun k hk => by
      obtain ⟨h2, h3⟩ := hno (j + k) (by omega) (by omega)
      rw [sfx_getlt h2]; simpa using h3)
    have hg : gap (sfx s j) = .skip (m - j + 1) := by rw [gap_line hj h h1, hi, if_neg (by omega)]; rfl
    have hg2 : gap (sfx s m) = .skip 1 := gap_space hlt (by rw [he hlt]; rfl)
    rw [blankAt_skip hg, blankAt_skip hg2, show j + (m - j + 1) = m + 1 by omega]
  · have hi : Lib.indexByte (sfx s j) 10 = -1 := indexByte_no (fun k => by
      by_cases hk : j + k < s.size
      · rw [sfx_getlt hk]
        obtain ⟨h2, h3⟩ := hno (j + k) (by omega) (by omega)
        simpa using h3
      · rw [List.getElem?_eq_none (by rw [sfx_length]; omega)]; simp)
    have hg : gap (sfx s j) = .skip (s.size - j) := by rw [gap_line hj h h1, hi]; rfl
    rw [blankAt_skip hg, show j + (s.size - j) = m by omega]

/-- a comment that ends: the instance at m -/
theorem star_end {s : ByteArray} {j m : Nat} (hj : j < s.size) (h : spB s[j] = false) (h1 : Lib.hasPrefix (sfx s j) [47, 47] = false) (h2 : Lib.hasPrefix (sfx s j) [47, 42] = true) (hm : j + 2 ≤ m)
    (hno : ∀ k, j + 2 ≤ k → k < m → Lib.hasPrefix (sfx s k) [42, 47] = false) (he : Lib.hasPrefix (sfx s m) [42, 47] = true) : blankAt s j = blankAt s (m + 2) := by
  have hr := prefix_two he
  have hi : Lib.index (sfx s (j + 2)) [42, 47] = (m - (j + 2) : Nat) := Lib.index_first (by rw [sfx_length]; omega) (by rw [occ_sfx, show j + 2 + (m - (j + 2)) = m by omega]; exact he) (fun k hk => by rw [occ_sfx]; exact hno _ (by omega) (by omega))
  have hg : gap (sfx s j) = .skip (m - (j + 2) + 4) := by rw [gap_star hj h h1 h2, hi, if_neg (by omega)]; rfl
  rw [blankAt_skip hg, show j + (m - (j + 2) + 4) = m + 2 by omega]
theorem star_bad {s : ByteArray} {j m : Nat} (hj : j < s.size) (h : spB s[j] = false) (h1 : Lib.hasPrefix (sfx s j) [47, 47] = false) (h2 : Lib.hasPrefix (sfx s j) [47, 42] = true)
    (hno : ∀ k, j + 2 ≤ k → k < m → Lib.hasPrefix (sfx s k) [42, 47] = false) (he : s.size ≤ m + 1) : blankAt s j = (j, false) := by
  have hi : Lib.index (sfx s (j + 2)) [42, 47] = -1 := Lib.index_none (fun k hk => by
    rw [occ_sfx]
    by_cases hk2 : j + 2 + k < m
    · exact hno _ (by omega) hk2
    · rw [Bool.eq_false_iff]; intro e
      have := prefix_two e
      omega)
  exact blankAt_bad (by rw [gap_star hj h h1 h2, hi]; rfl)

/-- what the reference tells of blank -/
def BlankedRef (r : Nat × Bool) (w : World) (e : Ending) (w' : World) : Prop := e = .returned (.tuple #[.int .i64 r.1, .bool r.2]) ∧ w = w'
theorem blankedRef_mk {r : Nat × Bool} {k : Nat} {b : Bool} {w : World} (h : r = (k, b)) : BlankedRef r w (.returned (.tuple #[.int .i64 k, .bool b])) w := by subst h; exact ⟨rfl, rfl⟩

set_option maxHeartbeats 4000000 in
set_option maxRecDepth 100000 in
theorem refBlank_ok (k : Nat) (s : ByteArray) (w : World) (hk : k ≤ s.size) (hs : s.size ≤ 1048576) :
    Calls Tryd.prog 27 #[.string s, .int .i64 k] w (BlankedRef (blankAt s k) w) := by
  obtain ⟨r, er⟩ : ∃ r, r = blankAt s k := ⟨_, rfl⟩
  rw [← er]
  have ER := Lib.hid er
  clear er
  go_enter Tryd.func27, Tryd.ntmps27
  go_wp2
  go_loopg [1, 6] (s.size - k) (fun g v _ wx => ∃ j : Nat, j ≤ s.size ∧ j + g = s.size ∧ v = .int .i64 j ∧ Hid (r = blankAt s j) ∧ w = wx)
  case atStart => exact ⟨k, hk, by omega, rfl, ER, rfl⟩
  case round =>
    obtain ⟨j, hj, hjg, rfl, hr, rfl⟩ := hrel
    by_cases hlt : j < s.size
    · rcases hS : spB s[j] with _ | _
      · have t1 : ((s[j].toNat : Int) == 32) = false := by have := (spB_no hS).2; simp; omega
        have hlow : (s[j].toNat : Int) < 9 ∨ ((9 : Int) ≤ s[j].toNat ∧ (13 : Int) < s[j].toNat) := by have := (spB_no hS).1; omega
        by_cases h1 : (j : Int) + 1 < s.size
        · rcases hP : Lib.hasPrefix (sfx s j) [47, 47] with _ | _
          · have HP : ((s.extract j (j + 2)).toList == [47, 47]) = false := by rw [two_is]; exact hP
            rcases hQ : Lib.hasPrefix (sfx s j) [47, 42] with _ | _
            · have hfin := Lib.hid (hr.out.trans (blankAt_stop (gap_none hlt hS hP hQ)))
              have HQ : ((s.extract j (j + 2)).toList == [47, 42]) = false := by rw [two_is]; exact hQ
              clear hP hQ hS
              rcases hlow with t2 | ⟨t2, t3⟩
              all_goals
                go_wp2_with fail
                go_ret2
                exact blankedRef_mk hfin.out
            · have HQ : ((s.extract j (j + 2)).toList == [47, 42]) = true := by rw [two_is]; exact hQ
              have h2s := prefix_two hQ
              have HE := Lib.hid (fun m => star_end (m := m) hlt hS hP hQ)
              have HF := Lib.hid (fun m => star_bad (m := m) hlt hS hP hQ)
              clear hP hQ hS
              rcases hlow with t2 | ⟨t2, t3⟩
              all_goals
                go_wp2_with fail
                clear t1 t2 HP HQ
                go_loopg [6] (s.size - (j + 2)) (fun g2 v wy => ∃ m : Nat, j + 2 ≤ m ∧ m ≤ s.size ∧ m + g2 = s.size ∧ v = .int .i64 m ∧ Hid (∀ k, j + 2 ≤ k → k < m → Lib.hasPrefix (sfx s k) [42, 47] = false) ∧ w = wy)
                case atStart => exact ⟨j + 2, Nat.le_refl _, h2s, by omega, by go_num, fun k h1 h2 => by omega, rfl⟩
                case round =>
                  obtain ⟨m, hjm, hms, hmg, rfl, hno, rfl⟩ := hrel
                  by_cases hm : (m : Int) + 1 < s.size
                  · rcases hX : Lib.hasPrefix (sfx s m) [42, 47] with _ | _
                    · have HX : ((s.extract m (m + 2)).toList == [42, 47]) = false := by rw [two_is]; exact hX
                      have HN := Lib.hid (show ∀ k, j + 2 ≤ k → k < m + 1 → Lib.hasPrefix (sfx s k) [42, 47] = false from fun k hk1 hk2 => by
                        rcases Nat.lt_or_ge k m with h | h
                        · exact hno.out k hk1 h
                        · obtain rfl : k = m := by omega
                          exact hX)
                      clear hX
                      go_wp2_with fail
                      go_roundg (s.size - (m + 1))
                      case measure => omega
                      case rel => exact ⟨m + 1, by omega, by omega, by omega, by go_num, HN.out, rfl⟩
                    · have HX : ((s.extract m (m + 2)).toList == [42, 47]) = true := by rw [two_is]; exact hX
                      have hfin := Lib.hid (hr.out.trans (HE.out m hjm hno.out hX))
                      have hm2 : ¬ ((s.size : Int) ≤ (m : Int) + 1) := by omega
                      clear hX
                      go_wp2_with fail
                      go_roundg (s.size - (m + 2))
                      case measure => omega
                      case rel => exact ⟨m + 2, by omega, by omega, by go_num, hfin.out, rfl⟩
                  · have hfin := Lib.hid (hr.out.trans (HF.out m hno.out (by omega)))
                    have hm2 : (s.size : Int) ≤ (m : Int) + 1 := by omega
                    go_wp2_with fail
                    go_ret2
                    exact blankedRef_mk hfin.out
          · have HP : ((s.extract j (j + 2)).toList == [47, 47]) = true := by rw [two_is]; exact hP
            have HE := Lib.hid (fun m => line_end (m := m) hlt hS hP)
            have HJ := Lib.hid (show s[j] ≠ 10 by intro e; rw [sfx_cons s j hlt, e] at hP; simp [Lib.hasPrefix] at hP)
            clear hP hS
            rcases hlow with t2 | ⟨t2, t3⟩
            all_goals
              go_wp2_with fail
              clear t1 t2 HP
              go_loopg [1] (s.size - j) (fun g2 v wy => ∃ m : Nat, j ≤ m ∧ m ≤ s.size ∧ m + g2 = s.size ∧ v = .int .i64 m ∧ Hid (∀ k, j ≤ k → k < m → ∃ h : k < s.size, s[k] ≠ 10) ∧ w = wy)
              case atStart => exact ⟨j, Nat.le_refl _, hj, by omega, rfl, fun k h1 h2 => by omega, rfl⟩
              case round =>
                obtain ⟨m, hjm, hms, hmg, rfl, hno, rfl⟩ := hrel
                by_cases hm : m < s.size
                · by_cases h10 : s[m].toNat = 10
                  · have e10 : s[m] = 10 := UInt8.toNat_inj.1 h10
                    have hfin := Lib.hid (hr.out.trans (HE.out m hjm hno.out (fun _ => e10) hms))
                    have hne : j ≠ m := fun e => HJ.out (by subst e; exact e10)
                    have t4 : ((s[m].toNat : Int) != 10) = false := by simp [h10]
                    clear h10 e10
                    go_wp2_with fail
                    go_roundg (s.size - m)
                    case measure => omega
                    case rel => exact ⟨m, hms, by omega, rfl, hfin.out, rfl⟩
                  · have t4 : ((s[m].toNat : Int) != 10) = true := by simp; omega
                    have HN := Lib.hid (show ∀ k, j ≤ k → k < m + 1 → ∃ h : k < s.size, s[k] ≠ 10 from fun k hk1 hk2 => by
                      rcases Nat.lt_or_ge k m with h | h
                      · exact hno.out k hk1 h
                      · obtain rfl : k = m := by omega
                        exact ⟨hm, fun e => h10 (by rw [e]; rfl)⟩)
                    clear h10
                    go_wp2_with fail
                    go_roundg (s.size - (m + 1))
                    case measure => omega
                    case rel => exact ⟨m + 1, by omega, by omega, by omega, by go_num, HN.out, rfl⟩
                · have hfin := Lib.hid (hr.out.trans (HE.out m hjm hno.out (fun h => absurd h hm) hms))
                  go_wp2_with fail
                  go_roundg (s.size - m)
                  case measure => omega
                  case rel => exact ⟨m, hms, by omega, rfl, hfin.out, rfl⟩
        · have hP : Lib.hasPrefix (sfx s j) [47, 47] = false := by rw [Bool.eq_false_iff]; intro e; have := prefix_two e; omega
          have hQ : Lib.hasPrefix (sfx s j) [47, 42] = false := by rw [Bool.eq_false_iff]; intro e; have := prefix_two e; omega
          have hfin := Lib.hid (hr.out.trans (blankAt_stop (gap_none hlt hS hP hQ)))
          clear hP hQ hS
          rcases hlow with t2 | ⟨t2, t3⟩
          all_goals
            go_wp2_with fail
            go_ret2
            exact blankedRef_mk hfin.out
      · have hfin := Lib.hid (hr.out.trans (blankAt_skip (gap_space hlt hS)))
        by_cases h32 : s[j].toNat = 32
        · have t1 : ((s[j].toNat : Int) == 32) = true := by simp [h32]
          clear hS h32
          go_wp2_with fail
          go_roundg (s.size - (j + 1))
          case measure => omega
          case rel => exact ⟨j + 1, by omega, by omega, by go_num, hfin.out, rfl⟩
        · have t1 : ((s[j].toNat : Int) == 32) = false := by simp; omega
          have t2 : (9 : Int) ≤ s[j].toNat := by have := of_decide_eq_true hS; omega
          have t3 : (s[j].toNat : Int) ≤ 13 := by have := of_decide_eq_true hS; omega
          clear hS h32
          go_wp2_with fail
          go_roundg (s.size - (j + 1))
          case measure => omega
          case rel => exact ⟨j + 1, by omega, by omega, by go_num, hfin.out, rfl⟩
    · have hfin := Lib.hid (hr.out.trans (blankAt_stop (gap_end (s := s) (k := j) (by omega))))
      go_wp2_with fail
      go_ret2
      exact blankedRef_mk hfin.out

end Go.Proofs.YtncojfcdkigmiaaDoor
