/- What is wrong with a type, structs being known: the program. -/
import Derived.Test.YtmmjmppfmjejkaaGreatDoorSized2
namespace Go.Proofs.YtmmjmppfmjejkaaGreatDoor
open Go.RowKit

theorem depthS_some {s : ByteArray} {t : Ty} (h : tyS s = some t) : depthS s = deepT t := by unfold depthS; rw [h]
theorem checkS_none {K : List Kn} {s : ByteArray} (h : tyS s = none) : checkS K s = 2 := by unfold checkS; rw [h]
theorem checkS_some {K : List Kn} {s : ByteArray} {t : Ty} (h : tyS s = some t) : checkS K s = checkT K t := by unfold checkS; rw [h]
theorem ret_i64 {a b : Int} (h : a = b) : Ending.returned (.int .i64 a) = .returned (.int .i64 b) := by rw [h]
section
variable {B b mb : Nat} {lv sv av : Value} {mv : List Value} {K : List Kn}
set_option maxHeartbeats 2000000 in
theorem check_ok (s : ByteArray) (w : World) (hE : TE w) (hK : KnAt B w b mb lv sv av mv K) (hF : FitK K) :
    Calls Tryz.prog 34 #[.pointer (some ⟨b, 0, none⟩), .string s] w fun e w' => e = .returned (.int .i64 (checkS K s)) ∧ Below w.heap.size w w' := by
  have HE := Lib.hid hE
  have HK := Lib.hid hK
  have HD := Lib.hid (depth_ok s w hE.keys hE.lt)
  rcases ht : tyS s with _ | t
  · have hfin := Lib.hid (checkS_none (K := K) ht)
    rw [show depthS s = 0 by unfold depthS; rw [ht]] at HD
    clear hE hK ht
    go_enter Tryz.func34, Tryz.ntmps34
    go_wp2_with (go_at_call 35; refine HD.out.mono ?_)
    rintro e w1 ⟨rfl, hb1⟩
    go_wp2_with fail
    go_ret
    exact ⟨by rw [hfin.out]; rfl, hb1⟩
  · obtain ⟨es, hr, hl⟩ := tyS_some.1 ht
    rw [depthS_some ht] at HD
    have hpos := deepT_pos t
    have HCh := Lib.hid (checkS_some (K := K) ht)
    subst es
    have hsh := shape_all _ t (Nat.le_refl _) hr hl
    unfold ShapeC at hsh
    have HSh := Lib.hid hsh
    have HTh := Lib.hid (fun w hE hK => there_ok (B := B) (b := b) (mb := mb) (lv := lv) (sv := sv) (av := av) (mv := mv) (K := K) t w hr hl hE hK)
    have hsz := fun h => sized_all (B := B) (b := b) (mb := mb) (lv := lv) (sv := sv) (av := av) (mv := mv) hF _ t (Nat.le_refl _) hr hl h
    unfold SizedC at hsz
    have HSz := Lib.hid hsz
    have t0 : ((deepT t : Int) == 0) = false := by rw [beq_eq_false_iff_ne]; omega
    generalize tyB t = s at *
    clear hE hK ht hr hl hsh hsz hF hpos
    by_cases hdp : 48 < deepT t
    · have hfin := Lib.hid (show checkS K s = 3 by rw [HCh.out, checkT, if_pos hdp])
      have t1 : (48 : Int) < (deepT t : Int) := by omega
      generalize (deepT t : Int) = d at *
      clear hdp
      go_enter Tryz.func34, Tryz.ntmps34
      go_wp2_with (go_at_call 35; (with_reducible refine HD.out.mono ?_))
      rintro e w1 ⟨rfl, hb1⟩
      go_wp2_with fail
      go_ret
      exact ⟨by rw [hfin.out]; rfl, hb1⟩
    · have t1 : (deepT t : Int) ≤ 48 := by omega
      rcases h1 : shapeT t with _ | _
      · have H1 := Lib.hid h1
        have hfin := Lib.hid (show checkS K s = 5 by rw [HCh.out, checkT, if_neg hdp, if_pos h1])
        clear h1 hdp
        generalize (deepT t : Int) = d at *
        go_enter Tryz.func34, Tryz.ntmps34
        go_wp2_with (go_at_call 35; (with_reducible refine HD.out.mono ?_))
        rintro e w1 ⟨rfl, hb1⟩
        have HB1 := Lib.hid hb1
        clear hb1
        have HS1 := Lib.hid (HSh.out _ (HE.out.below HB1.out))
        rw [H1.out] at HS1
        go_wp2_with (go_at_call 57; (with_reducible refine HS1.out.mono ?_))
        rintro e w2 ⟨rfl, hb2⟩
        have HB2 := Lib.hid (HB1.out.trans (hb2.mono HB1.out.size))
        clear hb2
        go_wp2_with fail
        go_ret
        exact ⟨by rw [hfin.out]; rfl, HB2.out⟩
      · have H1 := Lib.hid h1
        rcases h2 : thereT K t with _ | _
        · have H2 := Lib.hid h2
          have hfin := Lib.hid (show checkS K s = 4 by rw [HCh.out, checkT, if_neg hdp, if_neg (by rw [h1]; simp), if_pos h2])
          clear h1 h2 hdp
          generalize (deepT t : Int) = d at *
          go_enter Tryz.func34, Tryz.ntmps34
          go_wp2_with (go_at_call 35; (with_reducible refine HD.out.mono ?_))
          rintro e w1 ⟨rfl, hb1⟩
          have HB1 := Lib.hid hb1
          clear hb1
          have HS1 := Lib.hid (HSh.out _ (HE.out.below HB1.out))
          rw [H1.out] at HS1
          go_wp2_with (go_at_call 57; (with_reducible refine HS1.out.mono ?_))
          rintro e w2 ⟨rfl, hb2⟩
          have HB2 := Lib.hid (HB1.out.trans (hb2.mono HB1.out.size))
          clear hb2
          have HT2 := Lib.hid (HTh.out _ (HE.out.below HB2.out) (HK.out.below HB2.out))
          rw [H2.out] at HT2
          go_wp2_with (go_at_call 58; (with_reducible refine HT2.out.mono ?_))
          rintro e w3 ⟨rfl, hb3⟩
          have HB3 := Lib.hid (HB2.out.trans (hb3.mono HB2.out.size))
          clear hb3
          go_wp2_with fail
          go_ret
          exact ⟨by rw [hfin.out]; rfl, HB3.out⟩
        · have H2 := Lib.hid h2
          rcases h3 : sizedT K t with _ | _
          · have H3 := Lib.hid h3
            have hfin := Lib.hid (show checkS K s = 3 by rw [HCh.out, checkT, if_neg hdp, if_neg (by rw [h1]; simp), if_neg (by rw [h2]; simp), if_pos h3])
            clear h1 h2 h3 hdp
            generalize (deepT t : Int) = d at *
            go_enter Tryz.func34, Tryz.ntmps34
            go_wp2_with (go_at_call 35; (with_reducible refine HD.out.mono ?_))
            rintro e w1 ⟨rfl, hb1⟩
            have HB1 := Lib.hid hb1
            clear hb1
            have HS1 := Lib.hid (HSh.out _ (HE.out.below HB1.out))
            rw [H1.out] at HS1
            go_wp2_with (go_at_call 57; (with_reducible refine HS1.out.mono ?_))
            rintro e w2 ⟨rfl, hb2⟩
            have HB2 := Lib.hid (HB1.out.trans (hb2.mono HB1.out.size))
            clear hb2
            have HT2 := Lib.hid (HTh.out _ (HE.out.below HB2.out) (HK.out.below HB2.out))
            rw [H2.out] at HT2
            go_wp2_with (go_at_call 58; (with_reducible refine HT2.out.mono ?_))
            rintro e w3 ⟨rfl, hb3⟩
            have HB3 := Lib.hid (HB2.out.trans (hb3.mono HB2.out.size))
            clear hb3
            have HZ3 := Lib.hid (HSz.out H1.out _ (HE.out.below HB3.out) (HK.out.below HB3.out))
            rw [H3.out] at HZ3
            go_wp2_with (go_at_call 59; (with_reducible refine HZ3.out.mono ?_))
            rintro e w4 ⟨rfl, hb4⟩
            have HB4 := Lib.hid (HB3.out.trans (hb4.mono HB3.out.size))
            clear hb4
            go_wp2_with fail
            go_ret
            exact ⟨by rw [hfin.out]; rfl, HB4.out⟩
          · have H3 := Lib.hid h3
            have hfin := Lib.hid (show checkS K s = 0 by rw [HCh.out, checkT, if_neg hdp, if_neg (by rw [h1]; simp), if_neg (by rw [h2]; simp), if_neg (by rw [h3]; simp)])
            clear h1 h2 h3 hdp
            generalize (deepT t : Int) = d at *
            go_enter Tryz.func34, Tryz.ntmps34
            go_wp2_with (go_at_call 35; (with_reducible refine HD.out.mono ?_))
            rintro e w1 ⟨rfl, hb1⟩
            have HB1 := Lib.hid hb1
            clear hb1
            have HS1 := Lib.hid (HSh.out _ (HE.out.below HB1.out))
            rw [H1.out] at HS1
            go_wp2_with (go_at_call 57; (with_reducible refine HS1.out.mono ?_))
            rintro e w2 ⟨rfl, hb2⟩
            have HB2 := Lib.hid (HB1.out.trans (hb2.mono HB1.out.size))
            clear hb2
            have HT2 := Lib.hid (HTh.out _ (HE.out.below HB2.out) (HK.out.below HB2.out))
            rw [H2.out] at HT2
            go_wp2_with (go_at_call 58; (with_reducible refine HT2.out.mono ?_))
            rintro e w3 ⟨rfl, hb3⟩
            have HB3 := Lib.hid (HB2.out.trans (hb3.mono HB2.out.size))
            clear hb3
            have HZ3 := Lib.hid (HSz.out H1.out _ (HE.out.below HB3.out) (HK.out.below HB3.out))
            rw [H3.out] at HZ3
            go_wp2_with (go_at_call 59; (with_reducible refine HZ3.out.mono ?_))
            rintro e w4 ⟨rfl, hb4⟩
            have HB4 := Lib.hid (HB3.out.trans (hb4.mono HB3.out.size))
            clear hb4
            go_wp2_with fail
            go_ret
            exact ⟨by rw [hfin.out]; rfl, HB4.out⟩
end

end Go.Proofs.YtmmjmppfmjejkaaGreatDoor
