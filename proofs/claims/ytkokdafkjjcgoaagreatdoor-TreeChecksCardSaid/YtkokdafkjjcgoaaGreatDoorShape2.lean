/- Whether a type has the parts that it may have: the program, all types. -/
import Derived.Test.YtkokdafkjjcgoaaGreatDoorShape
namespace Go.Proofs.YtkokdafkjjcgoaaGreatDoor
open Go.RowKit

theorem shape_ptr (u : Ty) (_hr : Right u) (ih : ShapeC u) : ShapeC (.ptr u) := by
  intro w hE
  unfold ShapeC at ih
  have HI := Lib.hid (ih w hE)
  have hs : shapeT (.ptr u) = shapeT u := by rw [shapeT]
  rw [hs]
  obtain ⟨h0, hc⟩ := tyB_head (.ptr u)
  have HX := Lib.hid (tyB_ext (t := .ptr u) (u := u) (k := 1) rfl)
  have t1 : (((tyB (.ptr u))[0].toNat : Int) == 112) = true := eq_true' hc
  generalize tyB (.ptr u) = s at *
  have h1 : (1 : Int) ≤ s.size := by omega
  generalize shapeT u = b at *
  clear hc hE ih hs _hr
  go_enter Tryz.func201, Tryz.ntmps201
  go_wp2_with fail
  rw [HX.out]
  refine HI.out.mono ?_
  rintro e w1 ⟨rfl, hb1⟩
  go_wp2_with fail
  go_ret
  exact ⟨rfl, hb1⟩

theorem shape_root (t : Ty) (h1 : headT t ≠ 112) (h2 : headT t ≠ 97) (h3 : headT t ≠ 102) (hs : shapeT t = true) : ShapeC t := by
  intro w hE
  rw [hs]
  obtain ⟨h0, hc⟩ := tyB_head t
  have t1 : (((tyB t)[0].toNat : Int) == 112) = false := eq_false' (d := 112) hc h1
  have t2 : (((tyB t)[0].toNat : Int) == 97) = false := eq_false' (d := 97) hc h2
  have t3 : (((tyB t)[0].toNat : Int) == 102) = false := eq_false' (d := 102) hc h3
  generalize tyB t = s at *
  clear hc hE h1 h2 h3 hs
  go_enter Tryz.func201, Tryz.ntmps201
  go_wp2_with fail
  go_ret
  exact ⟨rfl, Below.refl _ _⟩

theorem isVoid_is {t : Ty} : isVoidT t = isC 118 t := by cases t <;> rfl
theorem head_fn' {t : Ty} (h : Right t) : ((((tyB t)[0]'(tyB_head t).1).toNat : Int) == 102) = isFnT t := by
  rw [(tyB_head t).2]; exact head_fn h
set_option maxHeartbeats 2000000 in
theorem shape_arr (n : Nat) (u : Ty) (hr : Right (.arr n u)) (hl : (code (.arr n u)).length ≤ 65536) (ih : ShapeC u) : ShapeC (.arr n u) := by
  intro w hE
  unfold ShapeC at ih
  have HE := Lib.hid hE
  have HI := Lib.hid ih
  have HS := Lib.hid (fun w hM => split_arr n u w hr hM hl)
  obtain ⟨h0, hc⟩ := tyB_head (.arr n u)
  have t1 : (((tyB (.arr n u))[0].toNat : Int) == 112) = false := eq_false' (d := 112) hc (by simp [headT])
  have t2 : (((tyB (.arr n u))[0].toNat : Int) == 97) = true := eq_true' hc
  have hv := one_is hr.2 118
  have hf := head_fn' hr.2
  have hu0 := (tyB_head u).1
  have hnb : (n : Int) ≤ 1099511627776 := by have := hr.1; omega
  have hsh : shapeT (.arr n u) = (decide (1 ≤ n ∧ n ≤ 65536) && (objectT u && shapeT u)) := by rw [shapeT]
  generalize tyB (.arr n u) = s at *
  generalize hb : shapeT u = b at *
  clear hc hE ih hr hl
  by_cases hn1 : 1 ≤ n
  · by_cases hn2 : n ≤ 65536
    · have t3 : (1 : Int) ≤ n := by omega
      have t4 : (n : Int) ≤ 65536 := by omega
      rcases h1 : isC 118 u with _ | _
      · rw [h1] at hv
        have hv' : ((tyB u).toList != [118]) = true := by rw [bne, hv]; rfl
        rcases h2 : isFnT u with _ | _
        · have hfin := Lib.hid (show shapeT (.arr n u) = b by rw [hsh, objectT, isVoid_is, h1, h2]; simp [hn1, hn2])
          rw [h2] at hf
          have hf' : (((tyB u)[0].toNat : Int) != 102) = true := by rw [bne, hf]; rfl
          clear hsh h1 h2 hn1 hn2 hb
          go_enter Tryz.func201, Tryz.ntmps201
          go_wp2_with (go_at_call 150; (with_reducible refine (HS.out _ HE.out.maxl).mono ?_))
          rintro e w1 ⟨rfl, hb1⟩
          have HI1 := Lib.hid (HI.out _ (HE.out.below hb1))
          go_wp2_with (go_at_call 201; (with_reducible refine HI1.out.mono ?_))
          rintro e w2 ⟨rfl, hb2⟩
          go_wp2_with fail
          go_ret
          exact ⟨by rw [hfin.out]; rfl, hb1.trans (hb2.mono hb1.size)⟩
        · have hfin := Lib.hid (show shapeT (.arr n u) = false by rw [hsh, objectT, h2]; simp)
          rw [h2] at hf
          have hf' : (((tyB u)[0].toNat : Int) != 102) = false := by rw [bne, hf]; rfl
          clear hsh h1 h2 hn1 hn2 hb
          go_enter Tryz.func201, Tryz.ntmps201
          go_wp2_with (go_at_call 150; (with_reducible refine (HS.out _ HE.out.maxl).mono ?_))
          rintro e w1 ⟨rfl, hb1⟩
          go_wp2_with fail
          go_ret
          exact ⟨by rw [hfin.out]; rfl, hb1⟩
      · have hfin := Lib.hid (show shapeT (.arr n u) = false by rw [hsh, objectT, isVoid_is, h1]; simp)
        rw [h1] at hv
        have hv' : ((tyB u).toList != [118]) = false := by rw [bne, hv]; rfl
        clear hsh h1 hn1 hn2 hb hf
        go_enter Tryz.func201, Tryz.ntmps201
        go_wp2_with (go_at_call 150; (with_reducible refine (HS.out _ HE.out.maxl).mono ?_))
        rintro e w1 ⟨rfl, hb1⟩
        go_wp2_with fail
        go_ret
        exact ⟨by rw [hfin.out]; rfl, hb1⟩
    · have hfin := Lib.hid (show shapeT (.arr n u) = false by rw [hsh]; simp [hn2])
      have t3 : (1 : Int) ≤ n := by omega
      have t4 : decide ((n : Int) ≤ 65536) = false := by simp; omega
      clear hsh hn1 hn2 hb hf hv
      go_enter Tryz.func201, Tryz.ntmps201
      go_wp2_with (go_at_call 150; (with_reducible refine (HS.out _ HE.out.maxl).mono ?_))
      rintro e w1 ⟨rfl, hb1⟩
      go_wp2_with fail
      go_ret
      exact ⟨by rw [hfin.out]; rfl, hb1⟩
  · have hfin := Lib.hid (show shapeT (.arr n u) = false by rw [hsh]; simp [hn1])
    have t3 : decide ((1 : Int) ≤ n) = false := by simp; omega
    clear hsh hn1 hb hf hv
    go_enter Tryz.func201, Tryz.ntmps201
    go_wp2_with (go_at_call 150; (with_reducible refine (HS.out _ HE.out.maxl).mono ?_))
    rintro e w1 ⟨rfl, hb1⟩
    go_wp2_with fail
    go_ret
    exact ⟨by rw [hfin.out]; rfl, hb1⟩

set_option maxHeartbeats 4000000 in
theorem shape_fn (ps : List Ty) (r : Ty) (hr : Right (.fn ps r)) (hl : (code (.fn ps r)).length ≤ 65536) (ih : ∀ p ∈ ps, ShapeC p) (ihr : ShapeC r) : ShapeC (.fn ps r) := by
  intro w hE
  have hcl : (code (.fn ps r)).length = (codes ps).length + (code r).length + 3 := by rw [code]; simp; omega
  have hlr : (code r).length ≤ 65536 := by omega
  have hlp : ∀ p ∈ ps, (code p).length ≤ 65536 := fun p hp => by have := codes_mem' hp; omega
  have hnl : ps.length ≤ 65536 := by have := rights_len hr.1; omega
  have HCF := Lib.hid (fun v B w hE hB => shape_has ps v ps.length B w hE hB rfl hr.1 hlp ih hnl)
  unfold ShapeC at ihr
  have HE := Lib.hid hE
  have HI := Lib.hid ihr
  have HS := Lib.hid (fun w hK hb => split_fn ps r w hr hl hK hb)
  have HSc := Lib.hid (fun b w hE h => isScal_is b w hE hr.2 hlr h)
  obtain ⟨h0, hc⟩ := tyB_head (.fn ps r)
  have t1 : (((tyB (.fn ps r))[0].toNat : Int) == 112) = false := eq_false' (d := 112) hc (by simp [headT])
  have t2 : (((tyB (.fn ps r))[0].toNat : Int) == 97) = false := eq_false' (d := 97) hc (by simp [headT])
  have t3 : (((tyB (.fn ps r))[0].toNat : Int) == 102) = true := eq_true' hc
  have hv := one_is hr.2 118
  have hsh : shapeT (.fn ps r) = (decide (ps.length ≤ 8) && ((isVoidT r || isScalarT r) && (shapeT r && shapesT ps))) := by rw [shapeT]
  generalize tyB (.fn ps r) = s at *
  clear hc hE ih ihr hr hl hcl hlr hlp
  by_cases hn : ps.length ≤ 8
  · have t4 : (ps.length : Int) ≤ 8 := by omega
    rcases h1 : isC 118 r with _ | _
    · rw [h1] at hv
      have hv' : ((tyB r).toList != [118]) = true := by rw [bne, hv]; rfl
      rcases h2 : isScalarT r with _ | _
      · have HScal := Lib.hid h2
        have hfin := Lib.hid (show shapeT (.fn ps r) = false by rw [hsh, isVoid_is, h1, h2]; simp)
        clear hsh h1 h2 hn
        go_enter Tryz.func201, Tryz.ntmps201
        go_wp2_with (go_at_call 150; (with_reducible refine (HS.out _ HE.out.keys HE.out.lt).mono ?_))
        rintro e w1 ⟨⟨v, rfl, ho⟩, hb1⟩
        obtain ⟨a, cap, rfl, _⟩ := own_formT ho
        have HO := Lib.hid ho
        have HE1 := Lib.hid (HE.out.below hb1)
        have HB1 := Lib.hid hb1
        clear ho hb1
        go_wp2_with (go_at_call 234; (with_reducible refine (HSc.out false _ HE1.out HScal.out).mono ?_))
        rintro e w2 ⟨rfl, hb2⟩
        have HE2 := Lib.hid (HE1.out.below hb2)
        have HB2 := Lib.hid (HB1.out.trans (hb2.mono HB1.out.size))
        have HO2 := Lib.hid (HO.out.belowed hb2)
        clear hb2
        go_wp2_with fail
        go_ret
        exact ⟨by rw [hfin.out]; rfl, HB2.out⟩
      · have HScal := Lib.hid h2
        rcases hsr : shapeT r with _ | _
        · have HSh := Lib.hid hsr
          have hfin := Lib.hid (show shapeT (.fn ps r) = false by rw [hsh, hsr]; simp)
          clear hsh hsr hn h1 h2
          go_enter Tryz.func201, Tryz.ntmps201
          go_wp2_with (go_at_call 150; (with_reducible refine (HS.out _ HE.out.keys HE.out.lt).mono ?_))
          rintro e w1 ⟨⟨v, rfl, ho⟩, hb1⟩
          obtain ⟨a, cap, rfl, _⟩ := own_formT ho
          have HO := Lib.hid ho
          have HE1 := Lib.hid (HE.out.below hb1)
          have HB1 := Lib.hid hb1
          clear ho hb1
          go_wp2_with (go_at_call 234; (with_reducible refine (HSc.out true _ HE1.out HScal.out).mono ?_))
          rintro e w2 ⟨rfl, hb2⟩
          have HE2 := Lib.hid (HE1.out.below hb2)
          have HB2 := Lib.hid (HB1.out.trans (hb2.mono HB1.out.size))
          have HO2 := Lib.hid (HO.out.belowed hb2)
          clear hb2
          go_wp2_with (go_at_call 201; (with_reducible refine (HI.out _ HE2.out).mono ?_))
          rintro e w3 ⟨rfl, hb3⟩
          rw [HSh.out]
          have HE3 := Lib.hid (HE2.out.below hb3)
          have HB3 := Lib.hid (HB2.out.trans (hb3.mono HB2.out.size))
          have HO3 := Lib.hid (HO2.out.belowed hb3)
          clear hb3
          go_wp2_with fail
          go_ret
          exact ⟨by rw [hfin.out]; rfl, HB3.out⟩
        · have HSh := Lib.hid hsr
          have hfin := Lib.hid (show shapeT (.fn ps r) = shapesT ps by rw [hsh, hsr, isVoid_is, h1, h2]; simp [hn])
          clear hsh hsr hn h1 h2
          go_enter Tryz.func201, Tryz.ntmps201
          go_wp2_with (go_at_call 150; (with_reducible refine (HS.out _ HE.out.keys HE.out.lt).mono ?_))
          rintro e w1 ⟨⟨v, rfl, ho⟩, hb1⟩
          obtain ⟨a, cap, rfl, _⟩ := own_formT ho
          have HO := Lib.hid ho
          have HE1 := Lib.hid (HE.out.below hb1)
          have HB1 := Lib.hid hb1
          clear ho hb1
          go_wp2_with (go_at_call 234; (with_reducible refine (HSc.out true _ HE1.out HScal.out).mono ?_))
          rintro e w2 ⟨rfl, hb2⟩
          have HE2 := Lib.hid (HE1.out.below hb2)
          have HB2 := Lib.hid (HB1.out.trans (hb2.mono HB1.out.size))
          have HO2 := Lib.hid (HO.out.belowed hb2)
          clear hb2
          go_wp2_with (go_at_call 201; (with_reducible refine (HI.out _ HE2.out).mono ?_))
          rintro e w3 ⟨rfl, hb3⟩
          rw [HSh.out]
          have HE3 := Lib.hid (HE2.out.below hb3)
          have HB3 := Lib.hid (HB2.out.trans (hb3.mono HB2.out.size))
          have HO3 := Lib.hid (HO2.out.belowed hb3)
          clear hb3
          go_wp2_with (go_at_call 235; (with_reducible refine (HCF.out _ _ _ HE3.out HO3.out).mono ?_))
          rintro e w4 ⟨rfl, hb4⟩
          have HB4 := Lib.hid (HB3.out.trans (hb4.mono HB3.out.size))
          clear hb4
          go_wp2_with fail
          go_ret
          exact ⟨by rw [hfin.out]; simp, HB4.out⟩
    · rw [h1] at hv
      have hv' : ((tyB r).toList != [118]) = false := by rw [bne, hv]; rfl
      rcases hsr : shapeT r with _ | _
      · have HSh := Lib.hid hsr
        have hfin := Lib.hid (show shapeT (.fn ps r) = false by rw [hsh, hsr]; simp)
        clear hsh hsr hn h1
        go_enter Tryz.func201, Tryz.ntmps201
        go_wp2_with (go_at_call 150; (with_reducible refine (HS.out _ HE.out.keys HE.out.lt).mono ?_))
        rintro e w1 ⟨⟨v, rfl, ho⟩, hb1⟩
        obtain ⟨a, cap, rfl, _⟩ := own_formT ho
        have HO := Lib.hid ho
        have HE1 := Lib.hid (HE.out.below hb1)
        have HB1 := Lib.hid hb1
        clear ho hb1
        have HE2 := Lib.hid HE1.out
        have HB2 := Lib.hid HB1.out
        have HO2 := Lib.hid HO.out
        go_wp2_with (go_at_call 201; (with_reducible refine (HI.out _ HE2.out).mono ?_))
        rintro e w3 ⟨rfl, hb3⟩
        rw [HSh.out]
        have HE3 := Lib.hid (HE2.out.below hb3)
        have HB3 := Lib.hid (HB2.out.trans (hb3.mono HB2.out.size))
        have HO3 := Lib.hid (HO2.out.belowed hb3)
        clear hb3
        go_wp2_with fail
        go_ret
        exact ⟨by rw [hfin.out]; rfl, HB3.out⟩
      · have HSh := Lib.hid hsr
        have hfin := Lib.hid (show shapeT (.fn ps r) = shapesT ps by rw [hsh, hsr, isVoid_is, h1]; simp [hn])
        clear hsh hsr hn h1
        go_enter Tryz.func201, Tryz.ntmps201
        go_wp2_with (go_at_call 150; (with_reducible refine (HS.out _ HE.out.keys HE.out.lt).mono ?_))
        rintro e w1 ⟨⟨v, rfl, ho⟩, hb1⟩
        obtain ⟨a, cap, rfl, _⟩ := own_formT ho
        have HO := Lib.hid ho
        have HE1 := Lib.hid (HE.out.below hb1)
        have HB1 := Lib.hid hb1
        clear ho hb1
        have HE2 := Lib.hid HE1.out
        have HB2 := Lib.hid HB1.out
        have HO2 := Lib.hid HO.out
        go_wp2_with (go_at_call 201; (with_reducible refine (HI.out _ HE2.out).mono ?_))
        rintro e w3 ⟨rfl, hb3⟩
        rw [HSh.out]
        have HE3 := Lib.hid (HE2.out.below hb3)
        have HB3 := Lib.hid (HB2.out.trans (hb3.mono HB2.out.size))
        have HO3 := Lib.hid (HO2.out.belowed hb3)
        clear hb3
        go_wp2_with (go_at_call 235; (with_reducible refine (HCF.out _ _ _ HE3.out HO3.out).mono ?_))
        rintro e w4 ⟨rfl, hb4⟩
        have HB4 := Lib.hid (HB3.out.trans (hb4.mono HB3.out.size))
        clear hb4
        go_wp2_with fail
        go_ret
        exact ⟨by rw [hfin.out]; simp, HB4.out⟩
  · have hfin := Lib.hid (show shapeT (.fn ps r) = false by rw [hsh]; simp [hn])
    have t4 : (8 : Int) < ps.length := by omega
    clear hsh hn hv
    go_enter Tryz.func201, Tryz.ntmps201
    go_wp2_with (go_at_call 150; (with_reducible refine (HS.out _ HE.out.keys HE.out.lt).mono ?_))
    rintro e w1 ⟨⟨v, rfl, ho⟩, hb1⟩
    obtain ⟨a, cap, rfl, _⟩ := own_formT ho
    have HO := Lib.hid ho
    have HE1 := Lib.hid (HE.out.below hb1)
    have HB1 := Lib.hid hb1
    clear ho hb1
    go_wp2_with fail
    go_ret
    exact ⟨by rw [hfin.out]; rfl, HB1.out⟩

theorem shape_all : ∀ (n : Nat) (t : Ty), (code t).length ≤ n → Right t → (code t).length ≤ 65536 → ShapeC t
  | 0, t, hn, hr, _ => by have := code_pos hr; omega
  | n + 1, t, hn, hr, hl => by
    cases t with
    | base c => exact shape_root _ (by rcases base_six hr with rfl | rfl | rfl | rfl | rfl | rfl <;> decide) (by rcases base_six hr with rfl | rfl | rfl | rfl | rfl | rfl <;> decide) (by rcases base_six hr with rfl | rfl | rfl | rfl | rfl | rfl <;> decide) (by rw [shapeT])
    | str s => exact shape_root _ (by simp [headT]) (by simp [headT]) (by simp [headT]) (by rw [shapeT])
    | ptr u => exact shape_ptr u hr (shape_all n u (by rw [code] at hn; simp at hn; omega) hr (by rw [code] at hl; simp at hl; omega))
    | arr m u => exact shape_arr m u hr hl (shape_all n u (by rw [code] at hn; simp at hn; omega) hr.2 (by rw [code] at hl; simp at hl; omega))
    | fn ps r =>
      refine shape_fn ps r hr hl (fun p hp => ?_) (shape_all n r (by rw [code] at hn; simp at hn; omega) hr.2 (by rw [code] at hl; simp at hl; omega))
      have h1 := codes_mem' hp
      have h2 : Right p := by
        obtain ⟨a, b, rfl⟩ := List.append_of_mem hp
        exact rights_at hr.1
      rw [code] at hn hl
      simp at hn hl
      exact shape_all n p (by omega) h2 (by omega)

end Go.Proofs.YtkokdafkjjcgoaaGreatDoor

