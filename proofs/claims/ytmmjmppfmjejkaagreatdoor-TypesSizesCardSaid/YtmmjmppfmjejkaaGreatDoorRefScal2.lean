/- The reference: Scalars. -/
import Derived.Test.YtmmjmppfmjejkaaGreatDoorRefScal
namespace Go.Proofs.YtmmjmppfmjejkaaGreatDoor
open Go.RowKit

theorem rscal_ok (K : List Kn) (L : List Sr) (a : Option Addr) (cap : Nat) (mv : List Value) (w0 : World) (hS : IsSrs w0.heap.size w0 a L mv) (hG : GoodK K) (hF : FitK K) (hKL : K.map Kn.toSr = L) :
    ∀ (m n : Nat) (t : Ty), (code t).length ≤ n → Right t → (code t).length ≤ 65536 → shapeT t = true → objectT t = true → thereT (K.take m) t = true → RScal K L a cap w0 (m + 1) t
  | _, 0, t, hn, hr, _, _, _, _ => by have := code_pos hr; omega
  | m, n + 1, t, hn, hr, hl, hsh, ho, hth => by
    cases t with
    | base c =>
      rcases base_cases hr ho with rfl | h
      · exact rscal_jmp K L a cap w0 _
      · exact rscal_one K L a cap w0 _ _ h
    | ptr u => exact rscal_one K L a cap w0 _ _ rfl
    | fn ps r => exact (obj_fn ho).elim
    | arr k u =>
      obtain ⟨h1, h2⟩ := shape_arr2 hsh
      rw [thereT] at hth
      exact rscal_arr K L a cap mv w0 _ k u hS hG hKL hr hl hsh (there_take hth) (rscal_ok K L a cap mv w0 hS hG hF hKL m n u (by rw [code] at hn; simp at hn; omega) hr.2 (by rw [code] at hl; simp at hl; omega) h2 h1 hth)
    | str s =>
      rw [thereT, Option.isSome_iff_exists] at hth
      obtain ⟨j, hj⟩ := hth
      obtain ⟨h1, h2⟩ := findK_take hj
      obtain ⟨m', rfl⟩ : ∃ m', m = m' + 1 := ⟨m - 1, by omega⟩
      exact rscal_struct K L a cap mv w0 (m' + 1) j s hS hG hF hKL hl h1 fun t hr' hl' hsh' ho' hth' => rscal_ok K L a cap mv w0 hS hG hF hKL m' 65536 t hl' hr' hl' hsh' ho' (there_mono (by omega) hth')
termination_by m n => (m, n)

theorem sizeR_zero {L : List Sr} {s : ByteArray} (h : (sizeR L s).2.2 = 0) : ∃ K t, learnK L = .inr K ∧ tyS s = some t ∧ checkT K t = 0 ∧ objectT t = true := by
  rcases hl : learnK L with ⟨i, c⟩ | K
  · rw [sizeR_struct hl] at h
    exact absurd h (learnK_ne hl)
  · by_cases hc : checkS K s = 0
    · obtain ⟨t, ht⟩ : ∃ t, tyS s = some t := by
        cases ht : tyS s with
        | none => rw [checkS_none ht] at hc; simp at hc
        | some t => exact ⟨t, rfl⟩
      rw [checkS_some ht] at hc
      rcases ho : objectT t with _ | _
      · rw [sizeR_object hl ht hc ho] at h; simp at h
      · exact ⟨K, t, rfl, ht, hc, ho⟩
    · rw [sizeR_check hl hc] at h
      exact absurd h hc

set_option maxRecDepth 100000 in
set_option maxHeartbeats 4000000 in
theorem refScalars_ok (s : ByteArray) (a : Option Addr) (cap : Nat) (L : List Sr) (mv : List Value) (w : World) (hS : IsSrs w.heap.size w a L mv) (hcap : L.length ≤ cap) (hcm : cap ≤ maxLen) :
    Calls Tryz.prog 30 #[.string s, .slice a L.length cap] w (ScalEnd L s w) := by
  have HS := Lib.hid hS
  have hM := refSizeAll_ok s a cap L mv w hS hcap hcm
  clear hS
  by_cases hc : (sizeR L s).2.2 = 0
  · obtain ⟨K, t, hl, ht, hct, hob⟩ := sizeR_zero hc
    have hfin := scalN_yes hl ht hct hob
    rw [hc] at hM
    generalize (sizeR L s).1 = x at *
    generalize (sizeR L s).2.1 = y at *
    have HM := Lib.hid hM
    obtain ⟨hst, hrt, hlt⟩ := tyS_some.1 ht
    obtain ⟨hsh, hth, _⟩ := checkT_zero hct
    have hk := learnK_knows hl
    have hms := meas_bd hk.fit t hct
    have HC := Lib.hid (show ∀ w1, Below w.heap.size w w1 → Calls Tryz.prog 51 #[.string s, .slice a L.length cap, .int .i64 0, .slice none 0 0] w1 (ScalQ w1.heap.size [] (piecesK K (K.length + 1) t 0) (.slice none 0 0) w1) from fun w1 hb => by
      have hP := rscal_ok K L a cap mv w1 ((HS.out.below hb).mono hb.size) hk.good hk.fit hk.list K.length _ t (Nat.le_refl _) hrt hlt hsh hob (by rw [List.take_length]; exact hth)
      have hC := hP 0 [] (.slice none 0 0) w1 (Below.refl _ _) (pcRow_nil _ _) (by simp) (by omega) (Nat.dvd_zero _)
      rw [← hst] at hC
      exact hC)
    have HFin := Lib.hid hfin
    clear hl ht hct hob hst hrt hlt hsh hth hk hms hfin hM hc
    generalize piecesK K (K.length + 1) t 0 = p at *
    go_enter Tryz.func30, Tryz.ntmps30
    go_wp2_with (go_at_call 28; (with_reducible refine HM.out.mono ?_); rintro e w1 ⟨rfl, hb1⟩; have HB1 := Lib.hid hb1; clear hb1)
    have HC1 := Lib.hid (HC.out w1 HB1.out)
    go_wp2_with (go_at_call 51; (with_reducible refine HC1.out.mono ?_))
    intro e w2 hq
    obtain ⟨v', ok, rfl, hg, ⟨a4, n4, c4, rfl⟩, ⟨hl4, rfl, hr4⟩ | ⟨hl4, rfl⟩⟩ := hq
    · have HB2 := Lib.hid (HB1.out.trans ((hg.under (Below.refl _ _) (pcRow_nil _ _)).mono HB1.out.size))
      have HR4 := Lib.hid hr4
      have HF := Lib.hid (HFin.out.trans (if_pos (by simpa using hl4)))
      clear hg hr4 hl4
      go_wp2_with fail
      go_ret2
      exact scalEnd_yes HF.out HR4.out HB2.out
    · have HB2 := Lib.hid (HB1.out.trans ((hg.under (Below.refl _ _) (pcRow_nil _ _)).mono HB1.out.size))
      have HF := Lib.hid (HFin.out.trans (if_neg (by simp at hl4; omega)))
      clear hg hl4
      go_wp2_with fail
      go_ret2
      exact scalEnd_no HF.out HB2.out
  · have hfin := Lib.hid (show scalarsN L s = ([], (sizeR L s).2.2) by unfold scalarsN; exact if_pos hc)
    generalize (sizeR L s).1 = x at *
    generalize (sizeR L s).2.1 = y at *
    generalize (sizeR L s).2.2 = c at *
    have t1 : (c != 0) = true := by simp [hc]
    have HM := Lib.hid hM
    clear hM hc
    go_enter Tryz.func30, Tryz.ntmps30
    go_wp2_with (go_at_call 28; (with_reducible refine HM.out.mono ?_); rintro e w1 ⟨rfl, hb1⟩; have HB1 := Lib.hid hb1; clear hb1)
    go_ret2
    exact scalEnd_no hfin.out HB1.out
end Go.Proofs.YtmmjmppfmjejkaaGreatDoor
