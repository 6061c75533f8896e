/- What is folded comes to the same number of the same type; folded once more it is the same: the law. -/
import Derived.Test.YtlcfejgjeljjdaaDoorMg28
import Derived.Test.YtlcfejgjeljjdaaDoorFoldWk
namespace Go.Proofs.YtlcfejgjeljjdaaDoor
open Go.RowKit

theorem foldC_id (a : Option Addr) (cap : Nat) (t : List Nd) (l : Option Addr) (lc : Nat) (L : List Sr) (mv : List Value) (w : World) (hE : TE w) (hI : IsNds w.heap.size w a t) (hOk : ∀ x ∈ t, NdOk x) (hz : t.length * 64 ≤ 140737488351232) (hS : IsSrs w.heap.size w l L mv) (hcap : t.length ≤ cap) (hc : startN t L = 0) (hid : (foldT L (trOf t)).flat = t) :
    Calls Tryd.prog 10 #[.slice a t.length cap, .slice l L.length lc] w fun e w' => (∃ v, e = .returned (.tuple #[v, .int .i64 0]) ∧ NdRow w' w.heap.size v t) ∧ Below w.heap.size w w' := by
  have h := foldC_0 a cap t l lc L mv w hE hI hOk hz hS hcap hc
  rw [hid] at h
  exact h
theorem evalC_eq (a : Option Addr) (cap : Nat) (t : List Nd) (l : Option Addr) (lc : Nat) (L : List Sr) (mv : List Value) (w : World) (hE : TE w) (hI : IsNds w.heap.size w a t) (hOk : ∀ x ∈ t, NdOk x) (hz : t.length * 64 ≤ 140737488351232) (hS : IsSrs w.heap.size w l L mv) {p : Int × ByteArray × Int} (hp : evalX t L = p) :
    Calls Tryd.prog 13 #[.slice a t.length cap, .slice l L.length lc] w fun e w' => e = .returned (trip p) ∧ Below w.heap.size w w' := by
  have h := evalC_ok a cap t l lc L mv w hE hI hOk hz hS
  rw [hp] at h
  exact h
theorem checkC_eq (a : Option Addr) (cap : Nat) (t : List Nd) (w : World) (hE : TE w) (hI : IsNds w.heap.size w a t) (hOk : ∀ x ∈ t, NdOk x) (hz : t.length * 64 ≤ 140737488351232) (hc : checkN9 t = 0) :
    Calls Tryd.prog 12 #[.slice a t.length cap] w fun e w' => e = .returned (.int .i64 0) ∧ Below w.heap.size w w' := by
  have h := treeCheck_ok a cap t w hE hI hOk hz
  rw [hc] at h
  exact h
set_option maxRecDepth 100000 in
set_option maxHeartbeats 8000000 in
theorem foldMeans_ok (a : Option Addr) (cap : Nat) (t : List Nd) (l : Option Addr) (lc : Nat) (L : List Sr) (mv : List Value) (w : World) (hE : TE w) (hI : IsNds w.heap.size w a t) (hOk : ∀ x ∈ t, NdOk x) (hz : t.length * 64 ≤ 140737488351232) (hcap : t.length ≤ cap) (hS : IsSrs w.heap.size w l L mv) :
    Calls Tryd.prog 5 #[.slice a t.length cap, .slice l L.length lc] w fun e w' => e = .returned (.bool true) ∧ Below w.heap.size w w' := by
  have HE := Lib.hid hE
  have HW := Lib.hid (works12_ok w hE)
  have HI := Lib.hid hI
  have HS := Lib.hid hS
  have HOk := Lib.hid hOk
  by_cases hc : startN t L = 0
  · obtain ⟨g1, g2, g3, g4, g5⟩ := folded_start hc
    have gne : (foldT L (trOf t)).flat ≠ [] := fun h => by have := flat_pos (foldT L (trOf t)); rw [h] at this; simp at this
    have gok : ∀ x ∈ (foldT L (trOf t)).flat, NdOk x := fun x hx => ndOk_good ((fold_main (sizes_ok L) (trOf t) g3).1.2 x hx)
    have gid : (foldT L (trOf (foldT L (trOf t)).flat)).flat = (foldT L (trOf t)).flat := by rw [g2, (fold_main (sizes_ok L) (trOf t) g3).2.2.2.2.2]
    have gsm := means_same hc
    have gu := means_u hc
    have HF1 := Lib.hid (fun w' (hb : Below w.heap.size w w') => foldC_0 a cap t l lc L mv w' (HE.out.below hb) ((HI.out.below hb (Nat.le_refl _)).mono hb.size) HOk.out hz ((HS.out.below hb).mono hb.size) hcap hc)
    generalize (foldT L (trOf t)).flat = R at *
    generalize hp : evalX t L = p at *
    obtain ⟨p1, p2, p3⟩ := p
    have HV1 := Lib.hid (fun w' (hb : Below w.heap.size w w') => evalC_eq a cap t l lc L mv w' (HE.out.below hb) ((HI.out.below hb (Nat.le_refl _)).mono hb.size) HOk.out hz ((HS.out.below hb).mono hb.size) hp)
    have gz : R.length * 64 ≤ 140737488351232 := by omega
    have HF2 := Lib.hid (fun w' (hb : Below w.heap.size w w') g cp (hcp : R.length ≤ cp) (hX : IsNds w'.heap.size w' (some ⟨g, 0, none⟩) R) => foldC_id (some ⟨g, 0, none⟩) cp R l lc L mv w' (HE.out.below hb) hX gok gz ((HS.out.below hb).mono hb.size) hcp g1 gid)
    have HV2 := Lib.hid (fun w' (hb : Below w.heap.size w w') g cp (hX : IsNds w'.heap.size w' (some ⟨g, 0, none⟩) R) => evalC_eq (some ⟨g, 0, none⟩) cp R l lc L mv w' (HE.out.below hb) hX gok gz ((HS.out.below hb).mono hb.size) gsm)
    have HCk := Lib.hid (fun w' (hb : Below w.heap.size w w') g cp (hX : IsNds w'.heap.size w' (some ⟨g, 0, none⟩) R) => checkC_eq (some ⟨g, 0, none⟩) cp R w' (HE.out.below hb) hX gok gz g5)
    have HSm := Lib.hid (fun w' g g' cp cp' (hX : IsNds w'.heap.size w' (some ⟨g, 0, none⟩) R) (hY : IsNds w'.heap.size w' (some ⟨g', 0, none⟩) R) => sameTree_ok (some ⟨g, 0, none⟩) (some ⟨g', 0, none⟩) cp cp' R w' hX hY gz)
    have HNe := Lib.hid gne
    have HU := Lib.hid gu
    have tlen : decide ((t.length : Int) < (R.length : Int)) = false := by simp; omega
    unfold trip at HV1 HV2
    simp only at HV1 HV2 HU
    clear hE hI hOk hS hc gsm gu gid gok gne g1 g2 g3 g5 gz hp
    go_enter Tryd.func5, Tryd.ntmps5
    go_upto_region 4 with (first | (go_at_call 6; (with_reducible refine HW.out.mono ?_); rintro e w1 ⟨rfl, hb1⟩; have HB1 := Lib.hid hb1; clear hb1) | (go_at_call 10; (with_reducible refine (HF1.out _ HB1.out).mono ?_); rintro e w2 ⟨⟨v2, rfl, hr2⟩, hb2⟩; have HR2 := Lib.hid hr2; have HB2 := Lib.hid (HB1.out.trans (hb2.mono HB1.out.size)); clear hr2 hb2))
    obtain ⟨g, cp, rfl, hcp, hX2⟩ := row_form HR2.out HNe.out
    have HX2 := Lib.hid hX2
    have HF3 := Lib.hid (HF2.out _ HB2.out g cp hcp hX2)
    clear hX2 hcp
    go_upto_region 7 with (go_at_call 10; (with_reducible refine HF3.out.mono ?_); rintro e w3 ⟨⟨v3, rfl, hr3⟩, hb3⟩; have HR3 := Lib.hid hr3; have HX3 := Lib.hid ((HX2.out.below hb3 (Nat.le_refl _)).mono hb3.size); have HB3 := Lib.hid (HB2.out.trans (hb3.mono HB2.out.size)); clear hr3 hb3)
    obtain ⟨g', cp', rfl, _, hY3⟩ := row_form HR3.out HNe.out
    have HS3 := Lib.hid (HSm.out w3 g g' cp cp' HX3.out hY3)
    clear hY3
    go_upto_region 11 with (first
      | (go_at_call 11; (with_reducible refine HS3.out.mono ?_); rintro e w4 ⟨rfl, hb4⟩; have HX4 := Lib.hid ((HX3.out.below hb4 (Nat.le_refl _)).mono hb4.size); have HB4 := Lib.hid (HB3.out.trans (hb4.mono HB3.out.size)); have HC4 := Lib.hid (HCk.out w4 HB4.out g cp HX4.out); clear hb4)
      | (go_at_call 12; (with_reducible refine HC4.out.mono ?_); rintro e w5 ⟨rfl, hb5⟩; have HX5 := Lib.hid ((HX4.out.below hb5 (Nat.le_refl _)).mono hb5.size); have HB5 := Lib.hid (HB4.out.trans (hb5.mono HB4.out.size)); have HE5 := Lib.hid (HV1.out w5 HB5.out); clear hb5)
      | (go_at_call 13; (with_reducible refine HE5.out.mono ?_); rintro e w6 ⟨rfl, hb6⟩; have HX6 := Lib.hid ((HX5.out.below hb6 (Nat.le_refl _)).mono hb6.size); have HB6 := Lib.hid (HB5.out.trans (hb6.mono HB5.out.size)); have HE6 := Lib.hid (HV2.out w6 HB6.out g cp HX6.out); clear hb6)
      | (go_at_call 13; (with_reducible refine HE6.out.mono ?_); rintro e w7 ⟨rfl, hb7⟩; have HB7 := Lib.hid (HB6.out.trans (hb7.mono HB6.out.size)); clear hb7))
    by_cases h0 : p3 = 0
    · subst h0
      by_cases hu : p2 = uText12
      · have hr := HU.out rfl hu
        have q1 : (p2.toList == [117]) = true := by rw [hu]; exact lit_eq rfl rfl
        have q2 : ((R.length : Int) == 1) = true := by rw [hr]; rfl
        clear hu hr
        go_wp2_with fail
        go_ret
        exact ⟨rfl, HB7.out⟩
      · have q1 : (p2.toList == [117]) = false := lit_ne (fun e => hu (bytes_of e))
        clear hu
        go_wp2_with fail
        go_ret
        exact ⟨rfl, HB7.out⟩
    · have q0 : (p3 != 0) = true := by simpa using h0
      clear h0
      go_wp2_with fail
      go_ret
      exact ⟨rfl, HB7.out⟩
  · have HF1 := Lib.hid (fun w' (hb : Below w.heap.size w w') => foldC_n a cap t l lc L mv w' (HE.out.below hb) ((HI.out.below hb (Nat.le_refl _)).mono hb.size) HOk.out hz ((HS.out.below hb).mono hb.size) hc)
    have t1 : (startN t L != 0) = true := by simpa using hc
    clear hE hI hOk hS hc
    generalize startN t L = c at *
    go_enter Tryd.func5, Tryd.ntmps5
    go_wp2_with (first | (go_at_call 6; (with_reducible refine HW.out.mono ?_); rintro e w1 ⟨rfl, hb1⟩; have HB1 := Lib.hid hb1; clear hb1) | (go_at_call 10; (with_reducible refine (HF1.out _ HB1.out).mono ?_); rintro e w2 ⟨rfl, hb2⟩; have HB2 := Lib.hid (HB1.out.trans (hb2.mono HB1.out.size)); clear hb2))
    go_ret
    exact ⟨rfl, HB2.out⟩
end Go.Proofs.YtlcfejgjeljjdaaDoor

