/- The reference: Size, Member. -/
import Derived.Test.YtmmjmppfmjejkaaGreatDoorPieces
import Derived.Test.YtmmjmppfmjejkaaGreatDoorChecks
namespace Go.Proofs.YtmmjmppfmjejkaaGreatDoor
open Go.RowKit

theorem cut_id {n : Nat} (h : n ≤ 65536) : cutN n = n := by unfold cutN; omega
set_option maxRecDepth 100000 in
set_option maxHeartbeats 4000000 in
theorem refSizeAll_ok (s : ByteArray) (a : Option Addr) (cap : Nat) (L : List Sr) (mv : List Value) (w : World) (hS : IsSrs w.heap.size w a L mv) (hcap : L.length ≤ cap) (hcm : cap ≤ maxLen) :
    Calls Tryz.prog 28 #[.string s, .slice a L.length cap] w fun e w' => e = .returned (.tuple #[.int .i64 (sizeR L s).1, .int .i64 (sizeR L s).2.1, .int .i64 (sizeR L s).2.2]) ∧ Below w.heap.size w w' := by
  have HS := Lib.hid hS
  have hC := refCheckAll_ok s a cap L mv w hS hcap hcm
  clear hS
  have hcase : (∃ c : Int, checkN L s = c ∧ c ≠ 0 ∧ sizeR L s = (0, 0, c)) ∨ (checkN L s = 0 ∧ ∃ K t, learnK L = .inr K ∧ tyS s = some t ∧ checkT K t = 0) := by
    rcases hl : learnK L with ⟨i, c⟩ | K
    · exact .inl ⟨c, checkN_bad hl, learnK_ne hl, sizeR_struct hl⟩
    · by_cases hc : checkS K s = 0
      · obtain ⟨t, ht⟩ : ∃ t, tyS s = some t := by
          cases ht : tyS s with
          | none => rw [checkS_none ht] at hc; simp at hc
          | some t => exact ⟨t, rfl⟩
        exact .inr ⟨(checkN_ok hl).trans hc, K, t, rfl, ht, by rw [checkS_some ht] at hc; exact hc⟩
      · exact .inl ⟨_, checkN_ok hl, hc, sizeR_check hl hc⟩
  rcases hcase with ⟨c, h1, h2, h3⟩ | ⟨h1, K, t, hl, ht, hct⟩
  · have hfin := Lib.hid h3
    rw [h1] at hC
    have HC := Lib.hid hC
    have t1 : (c != 0) = true := by simp [h2]
    clear hC h1 h2 h3
    go_enter Tryz.func28, Tryz.ntmps28
    go_wp2_with (go_at_call 12; (with_reducible refine HC.out.mono ?_); rintro e w1 ⟨rfl, hb1⟩; have HB1 := Lib.hid hb1; clear hb1)
    exact bodyPost_ret (v := .tuple #[.int .i64 0, .int .i64 0, .int .i64 c]) (by simp [results, Tryz.results28, go_sem]) rfl ⟨by rw [hfin.out], HB1.out⟩
  · rw [h1] at hC
    have HC := Lib.hid hC
    obtain ⟨hst, hrt, hlt⟩ := tyS_some.1 ht
    have HO := Lib.hid fun w5 => refObject_ok t hrt w5
    have hk := learnK_knows hl
    obtain ⟨hth, _, _⟩ := check_there hct
    have hms := meas_bd hk.fit t hct
    have HSz := Lib.hid (fun w1 (hb : Below w.heap.size w w1) => refSize_ok K L a cap mv hk.good hk.list K.length _ t (Nat.le_refl _) hrt hlt (by rw [List.take_length]; exact hth) w1 ((HS.out.below hb).mono hb.size))
    rw [cut_id hms] at HSz
    rw [← hst] at HO HSz
    rcases hob : objectT t with _ | _
    · rw [hob] at HO
      have hfin := Lib.hid (sizeR_object hl ht hct hob)
      clear hC h1 hst hrt hlt hth hms hk hl ht hct hob
      go_enter Tryz.func28, Tryz.ntmps28
      go_wp2_with (first | (go_at_call 12; (with_reducible refine HC.out.mono ?_); rintro e w1 ⟨rfl, hb1⟩; have HB1 := Lib.hid hb1; clear hb1) | (go_at_call 48; (with_reducible refine (HO.out _).mono ?_); rintro e w6 ⟨rfl, hw6⟩; subst w6))
      exact bodyPost_ret (v := .tuple #[.int .i64 0, .int .i64 0, .int .i64 5]) (by simp [results, Tryz.results28, go_sem]) rfl ⟨by rw [hfin.out], HB1.out⟩
    · rw [hob] at HO
      have hfin := Lib.hid (sizeR_yes hl ht hct hob)
      clear hC h1 hst hrt hlt hth hms hk hl ht hct hob
      generalize measT K t = p at *
      obtain ⟨p1, p2⟩ := p
      go_enter Tryz.func28, Tryz.ntmps28
      go_wp2_with (first | (go_at_call 12; (with_reducible refine HC.out.mono ?_); rintro e w1 ⟨rfl, hb1⟩; have HB1 := Lib.hid hb1; have HS1 := Lib.hid (HSz.out _ hb1); clear hb1) | (go_at_call 48; (with_reducible refine (HO.out _).mono ?_); rintro e w6 ⟨rfl, hw6⟩; subst w6) | (go_at_call 49; (with_reducible refine HS1.out.mono ?_); rintro e w7 ⟨rfl, hb7⟩; have HB7 := Lib.hid (HB1.out.trans (hb7.mono HB1.out.size)); clear hb7))
      exact bodyPost_ret (v := .tuple #[.int .i64 (p1 : Int), .int .i64 (p2 : Int), .int .i64 0]) (by simp [results, Tryz.results28, go_sem]) rfl ⟨by rw [hfin.out], HB7.out⟩
end Go.Proofs.YtmmjmppfmjejkaaGreatDoor
