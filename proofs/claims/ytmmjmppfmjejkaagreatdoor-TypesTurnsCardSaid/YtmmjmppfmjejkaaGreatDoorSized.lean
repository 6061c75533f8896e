/- Whether no object in a type takes too much: the program. -/
import Derived.Test.YtmmjmppfmjejkaaGreatDoorMeasure
import Derived.Laws.AppendOwnNone
namespace Go.Proofs.YtmmjmppfmjejkaaGreatDoor
open Go.RowKit

def SizedC (B b mb : Nat) (lv sv av : Value) (mv : List Value) (K : List Kn) (t : Ty) : Prop := ∀ w, TE w → KnAt B w b mb lv sv av mv K →
  Calls Tryz.prog 59 #[.pointer (some ⟨b, 0, none⟩), .string (tyB t)] w fun e w' => e = .returned (.bool (sizedT K t)) ∧ Below w.heap.size w w'
section
variable {B b mb : Nat} {lv sv av : Value} {mv : List Value} {K : List Kn}
theorem sized_root (t : Ty) (h1 : headT t ≠ 112) (h2 : headT t ≠ 97) (h3 : headT t ≠ 102) (hs : sizedT K t = true) : SizedC B b mb lv sv av mv K t := by
  intro w hE hK
  rw [hs]
  obtain ⟨h0, hc⟩ := tyB_head t
  have t1 : (((tyB t)[0].toNat : Int) == 112) = false := eq_false' (d := 112) hc h1
  have t2 : (((tyB t)[0].toNat : Int) == 97) = false := eq_false' (d := 97) hc h2
  have t3 : (((tyB t)[0].toNat : Int) == 102) = false := eq_false' (d := 102) hc h3
  generalize tyB t = s at *
  clear hc hE h1 h2 h3 hs hK
  go_enter Tryz.func59, Tryz.ntmps59
  go_wp2_with fail
  go_ret
  exact ⟨rfl, Below.refl _ _⟩
theorem sized_ptr (u : Ty) (ih : SizedC B b mb lv sv av mv K u) : SizedC B b mb lv sv av mv K (.ptr u) := by
  intro w hE hK
  unfold SizedC at ih
  have HI := Lib.hid (ih w hE hK)
  rw [show sizedT K (.ptr u) = sizedT K u by rw [sizedT]]
  obtain ⟨h0, hc⟩ := tyB_head (.ptr u)
  have HX := Lib.hid (tyB_ext (t := .ptr u) (u := u) (k := 1) rfl)
  have t1 : (((tyB (.ptr u))[0].toNat : Int) == 112) = true := eq_true' hc
  generalize tyB (.ptr u) = s at *
  have h1 : (1 : Int) ≤ s.size := by omega
  generalize sizedT K u = r at *
  clear hc hE ih hK
  go_enter Tryz.func59, Tryz.ntmps59
  go_wp2_with fail
  rw [HX.out]
  refine HI.out.mono ?_
  rintro e w1 ⟨rfl, hb1⟩
  go_wp2_with fail
  go_ret
  exact ⟨rfl, hb1⟩
theorem cap_le (p : Nat × Nat) : decide (((capM p).1 : Int) ≤ 65536) = decide (p.1 ≤ 65536) := by
  rw [Bool.eq_iff_iff, decide_eq_true_iff, decide_eq_true_iff]
  unfold capM
  simp only
  omega
set_option maxHeartbeats 1000000 in
theorem sized_arr (n : Nat) (u : Ty) (hr : Right (.arr n u)) (hl : (code (.arr n u)).length ≤ 65536) (hsh : shapeT (.arr n u) = true) (hF : FitK K) (ih : SizedC B b mb lv sv av mv K u) : SizedC B b mb lv sv av mv K (.arr n u) := by
  intro w hE hK
  unfold SizedC at ih
  have HE := Lib.hid hE
  have HK := Lib.hid hK
  have HI := Lib.hid ih
  have HS := Lib.hid (fun w hM => split_arr n u w hr hM hl)
  have HT := Lib.hid (fun w hE hK => there_ok (B := B) (b := b) (mb := mb) (lv := lv) (sv := sv) (av := av) (mv := mv) (K := K) (.arr n u) w hr hl hE hK)
  have HM := Lib.hid (fun w hE hK ht => measure_ok (B := B) (b := b) (mb := mb) (lv := lv) (sv := sv) (av := av) (mv := mv) (K := K) (.arr n u) w hr hl hsh ht hE hK hF)
  obtain ⟨h0, hc⟩ := tyB_head (.arr n u)
  have t1 : (((tyB (.arr n u))[0].toNat : Int) == 112) = false := eq_false' (d := 112) hc (by simp [headT])
  have t2 : (((tyB (.arr n u))[0].toNat : Int) == 97) = true := eq_true' hc
  have hd : sizedT K (.arr n u) = (sizedT K u && (!thereT K (.arr n u) || decide ((measT K (.arr n u)).1 ≤ 65536))) := by
    rw [sizedT, show thereT K (.arr n u) = thereT K u by rw [thereT], show (measT K (.arr n u)).1 = n * (measT K u).1 by rw [measT]]
  have hcl := cap_le (measT K (.arr n u))
  generalize tyB (.arr n u) = s at *
  clear hc hE ih hr hl hsh hF hK
  rcases h1 : sizedT K u with _ | _
  · have H1 := Lib.hid h1
    have hfin := Lib.hid (show sizedT K (.arr n u) = false by rw [hd, h1]; rfl)
    clear hd h1 hcl
    go_enter Tryz.func59, Tryz.ntmps59
    go_wp2_with (go_at_call 39; (with_reducible refine (HS.out _ HE.out.maxl).mono ?_))
    rintro e w1 ⟨rfl, hb1⟩
    have HI1 := Lib.hid (HI.out _ (HE.out.below hb1) (HK.out.below hb1))
    rw [H1.out] at HI1
    go_wp2_with (go_at_call 59; (with_reducible refine HI1.out.mono ?_))
    rintro e w2 ⟨rfl, hb2⟩
    go_wp2_with fail
    go_ret
    exact ⟨by rw [hfin.out]; rfl, hb1.trans (hb2.mono hb1.size)⟩
  · have H1 := Lib.hid h1
    rcases h2 : thereT K (.arr n u) with _ | _
    · have H2 := Lib.hid h2
      have hfin := Lib.hid (show sizedT K (.arr n u) = true by rw [hd, h1, h2]; rfl)
      clear hd h1 h2 hcl
      go_enter Tryz.func59, Tryz.ntmps59
      go_wp2_with (go_at_call 39; (with_reducible refine (HS.out _ HE.out.maxl).mono ?_))
      rintro e w1 ⟨rfl, hb1⟩
      have HI1 := Lib.hid (HI.out _ (HE.out.below hb1) (HK.out.below hb1))
      rw [H1.out] at HI1
      go_wp2_with (go_at_call 59; (with_reducible refine HI1.out.mono ?_))
      rintro e w2 ⟨rfl, hb2⟩
      have HB2 := Lib.hid (hb1.trans (hb2.mono hb1.size))
      have HT2 := Lib.hid (HT.out _ (HE.out.below HB2.out) (HK.out.below HB2.out))
      rw [H2.out] at HT2
      go_wp2_with (go_at_call 58; (with_reducible refine HT2.out.mono ?_))
      rintro e w3 ⟨rfl, hb3⟩
      go_wp2_with fail
      go_ret
      exact ⟨by rw [hfin.out]; rfl, HB2.out.trans (hb3.mono HB2.out.size)⟩
    · have H2 := Lib.hid h2
      have hfin := Lib.hid (show sizedT K (.arr n u) = decide (((capM (measT K (.arr n u))).1 : Int) ≤ 65536) by rw [hd, h1, h2, hcl]; simp)
      unfold measV at HM
      generalize capM (measT K (.arr n u)) = p at *
      clear hd h1 h2 hcl
      go_enter Tryz.func59, Tryz.ntmps59
      go_wp2_with (go_at_call 39; (with_reducible refine (HS.out _ HE.out.maxl).mono ?_))
      rintro e w1 ⟨rfl, hb1⟩
      have HI1 := Lib.hid (HI.out _ (HE.out.below hb1) (HK.out.below hb1))
      rw [H1.out] at HI1
      go_wp2_with (go_at_call 59; (with_reducible refine HI1.out.mono ?_))
      rintro e w2 ⟨rfl, hb2⟩
      have HB2 := Lib.hid (hb1.trans (hb2.mono hb1.size))
      have HT2 := Lib.hid (HT.out _ (HE.out.below HB2.out) (HK.out.below HB2.out))
      rw [H2.out] at HT2
      go_wp2_with (go_at_call 58; (with_reducible refine HT2.out.mono ?_))
      rintro e w3 ⟨rfl, hb3⟩
      have HB3 := Lib.hid (HB2.out.trans (hb3.mono HB2.out.size))
      have HM3 := Lib.hid (HM.out _ (HE.out.below HB3.out) (HK.out.below HB3.out) H2.out)
      go_wp2_with (go_at_call 47; (with_reducible refine HM3.out.mono ?_))
      rintro e w4 ⟨rfl, hb4⟩
      go_wp2_with fail
      go_ret
      exact ⟨by rw [hfin.out]; rfl, HB3.out.trans (hb4.mono HB3.out.size)⟩
end

end Go.Proofs.YtmmjmppfmjejkaaGreatDoor
