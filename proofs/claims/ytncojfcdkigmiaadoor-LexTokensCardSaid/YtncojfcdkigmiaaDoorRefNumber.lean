/- What a word that begins with a digit stands for: the reference. -/
import Derived.Test.YtncojfcdkigmiaaDoorNumber
import Derived.Test.YtncojfcdkigmiaaDoorRefPiece
import Derived.Deep.LoopGhost
import Derived.Deep.CutBlock
namespace Go.Proofs.YtncojfcdkigmiaaDoor
open Go.RowKit

/-- what the reference tells of a number -/
def RefNumbered (r : Option (Nat × Bool)) (w : World) (e : Ending) (w' : World) : Prop :=
  (match r with
    | some (n, u) => e = .returned (.tuple #[.int .i64 n, .string (uOf u), .bool true])
    | none => ∃ (x : Int) (y : ByteArray), e = .returned (.tuple #[.int .i64 x, .string y, .bool false])) ∧ w = w'
theorem refNumbered_no {r : Option (Nat × Bool)} {w : World} {x : Int} {y : ByteArray} (h : r = none) : RefNumbered r w (.returned (.tuple #[.int .i64 x, .string y, .bool false])) w := by subst h; exact ⟨⟨x, y, rfl⟩, rfl⟩
theorem refNumbered_yes {r : Option (Nat × Bool)} {w : World} {n : Nat} {u : Bool} {x : Int} {y : ByteArray} (h : r = some (n, u)) (hx : x = n) (hy : y = uOf u) : RefNumbered r w (.returned (.tuple #[.int .i64 x, .string y, .bool true])) w := by subst h hx hy; exact ⟨rfl, rfl⟩

/-- what is known of the digits that are gone through -/
def BaseR (r : Option (Nat × Bool)) (u : Bool) (base : Nat) (E : ByteArray) : Prop := (base = 10 ∨ base = 16) ∧ (E.size = 0 → r = none) ∧ (0 < E.size → r = finN u (valL base 0 E.data.toList)) ∧ E.size ≤ 1048576
theorem body_hex0 {D : ByteArray} (h : D.size = 2) (h0 : D[0].toNat = 48) : bodyN D.data.toList = none := by
  rw [toList_two (by omega), sfx_nil D 2 (by omega), bodyN, if_pos h0]
theorem body_hexR {r : Option (Nat × Bool)} {u : Bool} {D : ByteArray} (hr : r = finN u (bodyN D.data.toList)) (h1 : 1 < D.size) (hm : D.size ≤ 1048576) (h0 : D[0].toNat = 48) (h2 : D[1].toNat = 120 ∨ D[1].toNat = 88) : BaseR r u 16 (D.extract 2 D.size) := by
  have hs : (D.extract 2 D.size).size = D.size - 2 := by rw [ByteArray.size_extract]; omega
  refine ⟨.inr rfl, fun e => ?_, fun e => ?_, by omega⟩
  · rw [hr, body_hex0 (by omega) h0]; rfl
  · rw [hr, body_hex (by omega) h0 h2]
theorem uEnd_dig {s : ByteArray} {n : Nat} (h : s.size = n + 1) (hlt : n < s.size) (hd : ∀ h : 0 < s.size, digB s[0] = true) : uEnd s.data.toList = decide (s[n].toNat = 117 ∨ s[n].toNat = 85) := by
  rw [uEnd_at h hlt]
  by_cases h0 : 0 < n
  · simp [h0]
  · obtain rfl : n = 0 := by omega
    have := of_decide_eq_true (hd (by omega))
    simp; omega
theorem min_step (acc a base d : Nat) (hb : 0 < base) (ha : a = min acc 1099511627776) : min (a * base + d) 1099511627776 = min (acc * base + d) 1099511627776 := by
  rcases Nat.le_total acc 1099511627776 with h | h
  · rw [ha, Nat.min_eq_left h]
  · rw [ha, Nat.min_eq_right h]
    have h1 : 1099511627776 * 1 ≤ 1099511627776 * base := Nat.mul_le_mul_left _ hb
    have h2 : acc * 1 ≤ acc * base := Nat.mul_le_mul_left _ hb
    omega
theorem finN_min {u : Bool} {N a : Nat} (h : a = min N 1099511627776) : (a < 4294967296 → finN u (some N) = some (a, u || decide (2147483648 ≤ a))) ∧ (¬ a < 4294967296 → finN u (some N) = none) := by
  refine ⟨fun hl => ?_, fun hl => ?_⟩
  · have : a = N := by omega
    subst this
    rw [finN, if_pos hl]
  · rw [finN, if_neg (by omega)]

set_option maxHeartbeats 8000000 in
set_option maxRecDepth 100000 in
theorem refNumber_ok (s : ByteArray) (n : Nat) (w : World) (HN : Hid (s.size = n + 1)) (hlt : n < s.size) (hmax : s.size ≤ 1048576) (hdig : Hid (∀ h : 0 < s.size, digB s[0] = true)) :
    Calls Tryd.prog 54 #[.string s] w (RefNumbered (numW s.data.toList) w) := by
  have e1 : ((s.size : Int) - 1).toNat = n := by have := HN.out; omega
  have p1 : 0 ≤ (s.size : Int) - 1 := by omega
  have l1 : (s.size : Int) - 1 < s.size := by omega
  obtain ⟨r, er⟩ : ∃ r, r = numW s.data.toList := ⟨_, rfl⟩
  rw [← er]
  have ER := Lib.hid er
  clear er
  go_enter Tryd.func54, Tryd.ntmps54
  go_upto_region 3 with fail
  go_cut [23] (fun v wx => ∃ u : Bool, v = .bool u ∧ Hid (u = uEnd s.data.toList) ∧ w = wx)
  case first =>
    by_cases h117 : s[n].toNat = 117
    · have t2 : ((s[n].toNat : Int) == 117) = true := by simp [h117]
      have hfin := Lib.hid (show true = uEnd s.data.toList by rw [uEnd_dig HN.out hlt hdig.out]; simp [h117])
      clear h117
      go_wp2_with fail
      go_meet
      exact ⟨true, rfl, hfin, rfl⟩
    · have t2 : ((s[n].toNat : Int) == 117) = false := by simp; omega
      by_cases h85 : s[n].toNat = 85
      · have t3 : ((s[n].toNat : Int) == 85) = true := by simp [h85]
        have hfin := Lib.hid (show true = uEnd s.data.toList by rw [uEnd_dig HN.out hlt hdig.out]; simp [h85])
        clear h117 h85
        go_wp2_with fail
        go_meet
        exact ⟨true, rfl, hfin, rfl⟩
      · have t3 : ((s[n].toNat : Int) == 85) = false := by simp; omega
        have hfin := Lib.hid (show false = uEnd s.data.toList by rw [uEnd_dig HN.out hlt hdig.out]; simp [h117, h85])
        clear h117 h85
        go_wp2_with fail
        go_meet
        exact ⟨false, rfl, hfin, rfl⟩
  case rest =>
    obtain ⟨u, rfl, hu, rfl⟩ := hcut
    go_upto_if 23 with fail
    go_cut [0, 5] (fun s0 s5 wx => ∃ D : ByteArray, s0 = .string D ∧ s5 = .string (uOf u) ∧ Hid (r = finN u (bodyN D.data.toList) ∧ 0 < D.size ∧ D.size ≤ 1048576) ∧ w = wx)
    case first =>
      cases u with
      | false =>
        have hfin := Lib.hid (show r = finN false (bodyN s.data.toList) ∧ 0 < s.size ∧ s.size ≤ 1048576 from ⟨by rw [ER.out, numW_fin, ← hu.out]; rfl, by omega, by omega⟩)
        go_wp2_with fail
        go_meet
        exact ⟨s, rfl, rfl, hfin, rfl⟩
      | true =>
        have hn0 : 0 < n := by
          have := hu.out
          rw [uEnd_at HN.out hlt] at this
          simp at this; exact this.1
        have hfin := Lib.hid (show r = finN true (bodyN (s.extract 0 n).data.toList) ∧ 0 < (s.extract 0 n).size ∧ (s.extract 0 n).size ≤ 1048576 from ⟨by
          rw [ER.out, numW_fin, ← hu.out, dropLast_extract HN.out]; rfl, by rw [ByteArray.size_extract]; omega, by rw [ByteArray.size_extract]; omega⟩)
        go_wp2_with fail
        go_meet
        exact ⟨s.extract 0 n, rfl, rfl, hfin, rfl⟩
    case rest =>
      obtain ⟨D, rfl, rfl, hD, rfl⟩ := hcut
      clear e1 p1 l1 ER HN hlt hmax hu hdig
      have hd1 := hD.out.2.1
      have hd2 := hD.out.2.2
      have hemp : D.toList.isEmpty = false := by
        rw [← decide_eq_emptyBytes]
        exact decide_eq_false (fun h => by rw [h] at hd1; exact absurd hd1 (by decide))
      go_upto_block 0 with fail
      go_cut [0, 8] (fun s0 s8 wx => ∃ (E : ByteArray) (base : Nat), s0 = .string E ∧ s8 = .int .i64 (base : Int) ∧ Hid (BaseR r u base E) ∧ w = wx)
      case first =>
        go_upto_region 9 with fail
        clear hemp
        go_cut [30] (fun v wx => ∃ h : Bool, v = .bool h ∧ Hid (if h = true then BaseR r u 16 (D.extract 2 D.size) ∧ 1 < D.size else (1 < D.size → ∀ h : 0 < D.size, D[0].toNat = 48 → r = none)) ∧ w = wx)
        case first =>
          by_cases h2 : 1 < D.size
          · have t1 : decide (1 < (D.size : Int)) = true := by simp; omega
            have l1' : (1 : Int) < D.size := by omega
            by_cases h48 : D[0].toNat = 48
            · have t2 : ((D[0].toNat : Int) == 48) = true := by simp [h48]
              by_cases h120 : D[1].toNat = 120
              · have t3 : ((D[1].toNat : Int) == 120) = true := by simp [h120]
                have hfin := Lib.hid (And.intro (body_hexR hD.out.1 h2 hd2 h48 (.inl h120)) h2)
                clear h48 h120
                go_wp2_with fail
                go_meet
                exact ⟨true, rfl, hfin, rfl⟩
              · have t3 : ((D[1].toNat : Int) == 120) = false := by simp; omega
                by_cases h88 : D[1].toNat = 88
                · have t4 : ((D[1].toNat : Int) == 88) = true := by simp [h88]
                  have hfin := Lib.hid (And.intro (body_hexR hD.out.1 h2 hd2 h48 (.inr h88)) h2)
                  clear h48 h120 h88
                  go_wp2_with fail
                  go_meet
                  exact ⟨true, rfl, hfin, rfl⟩
                · have t4 : ((D[1].toNat : Int) == 88) = false := by simp; omega
                  have hfin := Lib.hid (show 1 < D.size → ∀ h : 0 < D.size, D[0].toNat = 48 → r = none from fun h1 _ h0 => by rw [hD.out.1, body_zero h1 h0 (by omega)]; rfl)
                  clear h48 h120 h88
                  go_wp2_with fail
                  go_meet
                  exact ⟨false, rfl, hfin, rfl⟩
            · have t2 : ((D[0].toNat : Int) == 48) = false := by simp; omega
              have hfin := Lib.hid (show 1 < D.size → ∀ h : 0 < D.size, D[0].toNat = 48 → r = none from fun h1 _ h0 => absurd h0 h48)
              clear h48
              go_wp2_with fail
              go_meet
              exact ⟨false, rfl, hfin, rfl⟩
          · have t1 : decide (1 < (D.size : Int)) = false := by simp; omega
            have hfin := Lib.hid (show 1 < D.size → ∀ h : 0 < D.size, D[0].toNat = 48 → r = none from fun h1 _ h0 => absurd h1 h2)
            go_wp2_with fail
            go_meet
            exact ⟨false, rfl, hfin, rfl⟩
        case rest =>
          obtain ⟨hx, rfl, hh, rfl⟩ := hcut
          cases hx with
          | true =>
            have h2 := hh.out.2
            have hfin := Lib.hid hh.out.1
            have l2 : (2 : Int) ≤ D.size := by omega
            go_wp2_with fail
            go_meet
            exact ⟨D.extract 2 D.size, 16, rfl, rfl, hfin, rfl⟩
          | false =>
            by_cases h1 : 1 < D.size
            · have t1 : decide (1 < (D.size : Int)) = true := by simp; omega
              by_cases h48 : D[0].toNat = 48
              · have t2 : ((D[0].toNat : Int) == 48) = true := by simp [h48]
                have hfin := Lib.hid (hh.out h1 hd1 h48)
                clear h48
                go_wp2_with fail
                go_ret3
                exact refNumbered_no hfin.out
              · have t2 : ((D[0].toNat : Int) == 48) = false := by simp; omega
                have hfin := Lib.hid (show BaseR r u 10 D from ⟨.inl rfl, fun e => by omega, fun _ => by rw [hD.out.1, body_plain hd1 (.inr h48)], hd2⟩)
                clear h48
                go_wp2_with fail
                go_meet
                exact ⟨D, 10, rfl, rfl, hfin, rfl⟩
            · have t1 : decide (1 < (D.size : Int)) = false := by simp; omega
              have hfin := Lib.hid (show BaseR r u 10 D from ⟨.inl rfl, fun e => by omega, fun _ => by rw [hD.out.1, body_plain hd1 (.inl (by omega))], hd2⟩)
              go_wp2_with fail
              go_meet
              exact ⟨D, 10, rfl, rfl, hfin, rfl⟩
      case rest =>
        obtain ⟨E, base, rfl, rfl, hE, rfl⟩ := hcut
        clear hD hd1 hd2
        have hEm := hE.out.2.2.2
        by_cases h0 : E.size = 0
        · have hfin := Lib.hid (hE.out.2.1 h0)
          have hemp : E.toList.isEmpty = true := by
            rw [Lib.toList_data, List.isEmpty_iff]
            apply List.eq_nil_of_length_eq_zero
            rw [Array.length_toList]; exact h0
          clear h0
          go_wp2_with fail
          go_ret3
          exact refNumbered_no hfin.out
        · have hemp : E.toList.isEmpty = false := by
            rw [← decide_eq_emptyBytes]
            exact decide_eq_false (fun h => h0 (by rw [h]; rfl))
          have HR := Lib.hid (hE.out.2.2.1 (by omega))
          have hb1 : 10 ≤ base := by rcases hE.out.1 with h | h <;> omega
          have hb2 : base ≤ 16 := by rcases hE.out.1 with h | h <;> omega
          clear h0
          go_wp2_with fail
          clear hemp
          go_loopg [7, 9] E.size (fun g x v wr => ∃ (k acc a : Nat), k ≤ E.size ∧ k + g = E.size ∧ x = .int .i64 (a : Int) ∧ v = .int .i64 k ∧ Hid (a = min acc 1099511627776 ∧ r = finN u (valL base acc (sfx E k))) ∧ w = wr)
          case atStart => exact ⟨0, 0, 0, Nat.zero_le _, by omega, rfl, rfl, Lib.hid ⟨rfl, HR.out⟩, rfl⟩
          case round =>
            obtain ⟨k, acc, a, hk, hkg, rfl, rfl, hinv, rfl⟩ := hrel
            have ha : (a : Int) ≤ 1099511627776 := by have := hinv.out.1; omega
            by_cases hlt : k < E.size
            · rcases hh : hexN E[k] with _ | d
              · have hfin := Lib.hid (show r = none by rw [hinv.out.2, sfx_cons E k hlt, valL, hh]; rfl)
                have HX := Lib.hid (hexN_no hh)
                clear hh
                go_wp2_with (go_at_call 69; refine (refHex_is (-1) _ _ HX.out).mono ?_; rintro e w' ⟨rfl, rfl⟩)
                go_ret3
                exact refNumbered_no hfin.out
              · obtain ⟨hd16, hxi⟩ := hexN_lt hh
                have HX := Lib.hid hxi
                by_cases hdb : d < base
                · have hfin := Lib.hid (show min (a * base + d) 1099511627776 = min (acc * base + d) 1099511627776 ∧ r = finN u (valL base (acc * base + d) (sfx E (k + 1))) from ⟨min_step acc a base d (by omega) hinv.out.1, by rw [hinv.out.2, sfx_cons E k hlt, valL, hh]; simp only; rw [if_pos hdb]⟩)
                  have hdb' : (d : Int) < base := by omega
                  have hmul : (a : Int) * base ≤ 17592186044416 := by
                    have h1 : a * base ≤ 1099511627776 * 16 := Nat.mul_le_mul (by omega) hb2
                    have : ((a * base : Nat) : Int) ≤ 17592186044416 := by omega
                    simpa using this
                  have hmul0 : (0 : Int) ≤ (a : Int) * base := by
                    have : (0 : Int) ≤ ((a * base : Nat) : Int) := by omega
                    simpa using this
                  have HMin := Lib.hid (show min ((a : Int) * base + d) 1099511627776 = ((min (a * base + d) 1099511627776 : Nat) : Int) by
                    have e : ((a * base : Nat) : Int) = (a : Int) * base := Int.natCast_mul a base
                    rw [← e]; omega)
                  clear hh hxi hdb
                  go_wp2_with (go_at_call 69; refine (refHex_is (d : Int) _ _ HX.out).mono ?_; rintro e w' ⟨rfl, rfl⟩)
                  go_roundg (E.size - (k + 1))
                  case measure => omega
                  case rel => exact ⟨k + 1, acc * base + d, min (a * base + d) 1099511627776, by omega, by omega, by rw [HMin.out], by go_num, Lib.hid hfin.out, rfl⟩
                · have hfin := Lib.hid (show r = none by rw [hinv.out.2, sfx_cons E k hlt, valL, hh]; simp only; rw [if_neg hdb]; rfl)
                  have hdb' : (base : Int) ≤ d := by omega
                  clear hh hxi hdb
                  go_wp2_with (go_at_call 69; refine (refHex_is (d : Int) _ _ HX.out).mono ?_; rintro e w' ⟨rfl, rfl⟩)
                  go_ret3
                  exact refNumbered_no hfin.out
            · obtain rfl : k = E.size := by omega
              have hN : r = finN u (some acc) := by rw [hinv.out.2, sfx_nil E E.size (Nat.le_refl _)]; rfl
              obtain ⟨hm1, hm2⟩ := finN_min (u := u) hinv.out.1
              obtain ⟨x, hx⟩ : ∃ x : Int, x = a := ⟨_, rfl⟩
              rw [← hx] at ha ⊢
              have HXa := Lib.hid hx
              by_cases h31 : x < 2147483648
              · have h32 : x < 4294967296 := by omega
                have hfin := Lib.hid (show r = some (a, u) by
                  have e : decide (2147483648 ≤ a) = false := decide_eq_false (by omega)
                  rw [hN, hm1 (by omega), e, Bool.or_false])
                clear hx hN hm1 hm2
                go_wp2_with fail
                go_ret3
                exact refNumbered_yes hfin.out HXa.out rfl
              · have h31' : (2147483648 : Int) ≤ x := by omega
                by_cases h32 : x < 4294967296
                · have hfin := Lib.hid (show r = some (a, true) by
                    have e : decide (2147483648 ≤ a) = true := decide_eq_true (by omega)
                    rw [hN, hm1 (by omega), e, Bool.or_true])
                  clear hx hN hm1 hm2 h31
                  go_wp2_with fail
                  go_ret3
                  exact refNumbered_yes hfin.out HXa.out rfl
                · have h32' : (4294967296 : Int) ≤ x := by omega
                  have t32 : decide (x < 4294967296) = false := decide_eq_false h32
                  have hfin := Lib.hid (show r = none by rw [hN, hm2 (by omega)])
                  clear hx hN hm1 hm2 h31 h32
                  go_wp2_with fail
                  go_ret3
                  exact refNumbered_no hfin.out

end Go.Proofs.YtncojfcdkigmiaaDoor
