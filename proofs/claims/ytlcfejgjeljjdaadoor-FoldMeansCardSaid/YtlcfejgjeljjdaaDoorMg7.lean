/- Whether a type has the parts that it may have: the program. · Whether a type has the parts that it may have: the program, all types. -/
import Derived.Test.YtlcfejgjeljjdaaDoorMg6
namespace Go.Proofs.YtlcfejgjeljjdaaDoor
open Go.RowKit

def ShapeC (t : Ty) : Prop := ∀ w, TE w → Calls Tryd.prog 89 #[.string (tyB t)] w fun e w' => e = .returned (.bool (shapeT t)) ∧ Below w.heap.size w w'
theorem tyS_tyB {t : Ty} (hr : Right t) (hl : (code t).length ≤ 65536) : tyS (tyB t) = some t := tyS_some.2 ⟨rfl, hr, hl⟩
theorem isScal_is (r : Bool) {t : Ty} (w : World) (hE : TE w) (hr : Right t) (hl : (code t).length ≤ 65536) (h : isScalarT t = r) : Calls Tryd.prog 94 #[.string (tyB t)] w fun e w' => e = .returned (.bool r) ∧ Below w.heap.size w w' := by
  have := isScalar_ok (tyB t) w hE
  rw [show isScalS (tyB t) = isScalarT t by unfold isScalS; rw [tyS_tyB hr hl]; rfl, h] at this
  exact this

theorem shape_clo (p : Ty) (w : World) (hE : TE w) (hr : Right p) (hl : (code p).length ≤ 65536) (ih : ShapeC p) :
    Calls Tryd.prog 96 #[.string (tyB p)] w fun e w' => e = .returned (.bool (!(isScalarT p && shapeT p))) ∧ Below w.heap.size w w' := by
  have HE := Lib.hid hE
  unfold ShapeC at ih
  have HI := Lib.hid ih
  rcases hs : isScalarT p with _ | _
  · have H := Lib.hid (isScal_is false w hE hr hl hs)
    clear hs hE ih
    go_enter Tryd.func96, Tryd.ntmps96
    go_wp2_with (go_at_call 94; (with_reducible refine H.out.mono ?_); rintro e w1 ⟨rfl, hb1⟩)
    go_ret
    exact ⟨rfl, hb1⟩
  · have H := Lib.hid (isScal_is true w hE hr hl hs)
    clear hs hE ih
    generalize hsh : shapeT p = b at *
    have HSh := Lib.hid hsh
    clear hsh
    go_enter Tryd.func96, Tryd.ntmps96
    go_wp2_with (go_at_call 94; (with_reducible refine H.out.mono ?_))
    rintro e w1 ⟨rfl, hb1⟩
    go_wp2_with (go_at_call 89; (with_reducible refine (HI.out _ (HE.out.below hb1)).mono ?_))
    rintro e w2 ⟨rfl, hb2⟩
    go_wp2_with fail
    go_ret
    exact ⟨by simp, hb1.trans (hb2.mono hb1.size)⟩

theorem shapes_all (l : List Ty) : shapesT l = l.all fun p => isScalarT p && shapeT p := by
  induction l with
  | nil => rfl
  | cons t l ih => rw [shapesT, ih]; rfl

set_option maxHeartbeats 2000000 in
theorem shape_idx (ps : List Ty) (g cap : Nat) (w : World) (hE : TE w) (hg : g < w.heap.size) (hr : Rights ps) (hl : ∀ p ∈ ps, (code p).length ≤ 65536) (ih : ∀ p ∈ ps, ShapeC p) (hn : ps.length ≤ 65536)
    (hc : ∀ j (hj : j < ps.length), w.cell? ⟨g, j, none⟩ = some (.string (tyB ps[j]))) :
    Calls Tryd.prog 99 #[.slice (some ⟨g, 0, none⟩) ps.length cap, .func (.func 96) #[] #[]] w fun e w' => ∃ o : Int, e = .returned (.int .i64 o) ∧ decide (0 ≤ o) = !shapesT ps ∧ Below w.heap.size w w' := by
  have HE := Lib.hid hE
  have HC := Lib.hid hc
  have HI := Lib.hid ih
  have HL := Lib.hid hl
  have HR := Lib.hid hr
  clear hE hc ih hl hr
  go_enter Tryd.func99, Tryd.ntmps99
  go_wp2_with fail
  go_loopw [8] (fun i wr => ∃ k : Nat, k ≤ ps.length ∧ i = .int .i64 k ∧ Hid (∀ j (hj : j < ps.length), j < k → (isScalarT ps[j] && shapeT ps[j]) = true) ∧ Below w.heap.size w wr) (fun i _ => ps.length - (intOf i).toNat)
  case atStart => exact ⟨0, Nat.zero_le _, rfl, fun j _ h => by omega, Below.refl _ _⟩
  case round =>
    obtain ⟨k, hk, rfl, hno, hb⟩ := hrel
    have HB := Lib.hid hb
    have hsz := hb.size
    by_cases hlt : k < ps.length
    · have hck : wr.cell? ⟨g, k, none⟩ = some (.string (tyB ps[k])) := by
        rw [hb.cell (p := ⟨g, k, none⟩) hg]; exact HC.out k hlt
      have hm : ps[k] ∈ ps := List.getElem_mem hlt
      have HD := Lib.hid (shape_clo ps[k] wr (HE.out.below hb) (by
        obtain ⟨a, b, e⟩ := List.append_of_mem hm
        have h := HR.out
        rw [e] at h
        exact rights_at h) (HL.out _ hm) (HI.out _ hm))
      clear hb hm
      rcases hgd : (isScalarT ps[k] && shapeT ps[k]) with _ | _
      · have hfin := Lib.hid (show shapesT ps = false by
          rw [shapes_all, Bool.eq_false_iff]; intro e
          have := List.all_eq_true.1 e ps[k] (List.getElem_mem hlt)
          rw [hgd] at this; cases this)
        rw [hgd] at HD
        generalize tyB ps[k] = st at *
        clear hgd
        go_wp2_with (go_at_call 96; (with_reducible refine HD.out.mono ?_))
        rintro e w2 ⟨rfl, hb2⟩
        go_wp2_with fail
        go_ret
        exact ⟨_, rfl, by rw [hfin.out]; simp, HB.out.trans (hb2.mono hsz)⟩
      · have HN := Lib.hid (show ∀ j (hj : j < ps.length), j < k + 1 → (isScalarT ps[j] && shapeT ps[j]) = true from fun j hj h => by
          rcases Nat.lt_or_ge j k with h' | h'
          · exact hno.out j hj h'
          · obtain rfl : j = k := by omega
            exact hgd)
        rw [hgd] at HD
        generalize tyB ps[k] = st at *
        clear hgd
        go_wp2_with (go_at_call 96; (with_reducible refine HD.out.mono ?_))
        rintro e w2 ⟨rfl, hb2⟩
        have HB2 := Lib.hid (HB.out.trans (hb2.mono hsz))
        clear hb2
        go_wp2_with fail
        go_roundw
        case rel => exact ⟨k + 1, by omega, by go_num, HN, HB2.out⟩
        case measure => simp [intOf]; omega
    · obtain rfl : k = ps.length := by omega
      have hfin := Lib.hid (show shapesT ps = true by
        rw [shapes_all, List.all_eq_true]
        intro p hp
        obtain ⟨j, hj, rfl⟩ := List.getElem_of_mem hp
        exact hno.out j hj hj)
      clear hno hb
      go_wp2_with fail
      go_ret
      exact ⟨-1, rfl, by rw [hfin.out]; rfl, HB.out⟩

theorem idx_empty (a : Option Addr) (cap : Nat) (f : Value) (w : World) : Calls Tryd.prog 99 #[.slice a 0 cap, f] w fun e w' => e = .returned (.int .i64 (-1)) ∧ w' = w := by
  go_enter Tryd.func99, Tryd.ntmps99
  go_wp2_with fail
  go_loop [8] (fun i => i = .int .i64 0) (fun _ => 0)
  case atStart => rfl
  case round =>
    obtain rfl := hrel
    go_wp2_with fail
    go_ret
    exact ⟨rfl, rfl⟩
/-- slices.ContainsFunc at that function -/
theorem shape_has (ps : List Ty) (v : Value) (n : Nat) (B : Nat) (w : World) (hE : TE w) (hB : w.ownsRow B 22 1 v n (ps.map fun p => .string (tyB p))) (hn : n = ps.length) (hr : Rights ps) (hl : ∀ p ∈ ps, (code p).length ≤ 65536) (ih : ∀ p ∈ ps, ShapeC p) (hnl : ps.length ≤ 65536) :
    Calls Tryd.prog 95 #[v, .func (.func 96) #[] #[]] w fun e w' => e = .returned (.bool (!shapesT ps)) ∧ Below w.heap.size w w' := by
  obtain ⟨a, cap, rfl, hrow⟩ := own_formT hB
  subst hn
  by_cases h0 : ps = []
  · subst h0
    clear hE hB hr hl ih hrow hnl
    go_enter Tryd.func95, Tryd.ntmps95
    go_wp2_with (go_at_call 99; (with_reducible refine (idx_empty _ _ _ _).mono ?_); rintro e w1 ⟨rfl, rfl⟩)
    go_ret
    exact ⟨rfl, Below.refl _ _⟩
  · obtain ⟨g, rfl, hg1, hg2, hc⟩ := hrow (List.length_pos_iff.2 h0)
    have H := Lib.hid (shape_idx ps g cap w hE hg2 hr hl ih hnl (fun j hj => hc j _ (by rw [List.getElem?_map, List.getElem?_eq_getElem hj]; rfl)))
    clear hE hB hr hl ih hrow hc
    go_enter Tryd.func95, Tryd.ntmps95
    go_wp2_with (go_at_call 99; (with_reducible refine H.out.mono ?_); rintro e w1 ⟨o, rfl, ho, hb1⟩; have HO := Lib.hid ho; clear ho)
    go_ret
    exact ⟨by rw [← HO.out]; rfl, hb1⟩

end Go.Proofs.YtlcfejgjeljjdaaDoor
namespace Go.Proofs.YtlcfejgjeljjdaaDoor
open Go.RowKit

theorem shape_ptr (u : Ty) (_hr : Right u) (ih : ShapeC u) : ShapeC (.ptr u) := by
  intro w hE
  unfold ShapeC at ih
  have HI := Lib.hid (ih w hE)
  have hs : shapeT (.ptr u) = shapeT u := by rw [shapeT]
  rw [hs]
  obtain ⟨h0, hc⟩ := tyB_head (.ptr u)
  have HX := Lib.hid (tyB_ext (t := .ptr u) (u := u) (k := 1) rfl)
  have t1 : (((tyB (.ptr u))[0].toNat : Int) == 112) = true := eq_true' hc
  generalize tyB (.ptr u) = s at *
  have h1 : (1 : Int) ≤ s.size := by omega
  generalize shapeT u = b at *
  clear hc hE ih hs _hr
  go_enter Tryd.func89, Tryd.ntmps89
  go_wp2_with fail
  rw [HX.out]
  refine HI.out.mono ?_
  rintro e w1 ⟨rfl, hb1⟩
  go_wp2_with fail
  go_ret
  exact ⟨rfl, hb1⟩

theorem shape_root (t : Ty) (h1 : headT t ≠ 112) (h2 : headT t ≠ 97) (h3 : headT t ≠ 102) (hs : shapeT t = true) : ShapeC t := by
  intro w hE
  rw [hs]
  obtain ⟨h0, hc⟩ := tyB_head t
  have t1 : (((tyB t)[0].toNat : Int) == 112) = false := eq_false' (d := 112) hc h1
  have t2 : (((tyB t)[0].toNat : Int) == 97) = false := eq_false' (d := 97) hc h2
  have t3 : (((tyB t)[0].toNat : Int) == 102) = false := eq_false' (d := 102) hc h3
  generalize tyB t = s at *
  clear hc hE h1 h2 h3 hs
  go_enter Tryd.func89, Tryd.ntmps89
  go_wp2_with fail
  go_ret
  exact ⟨rfl, Below.refl _ _⟩

theorem isVoid_is {t : Ty} : isVoidT t = isC 118 t := by cases t <;> rfl
theorem head_fn' {t : Ty} (h : Right t) : ((((tyB t)[0]'(tyB_head t).1).toNat : Int) == 102) = isFnT t := by
  rw [(tyB_head t).2]; exact head_fn h
set_option maxHeartbeats 2000000 in
theorem shape_arr (n : Nat) (u : Ty) (hr : Right (.arr n u)) (hl : (code (.arr n u)).length ≤ 65536) (ih : ShapeC u) : ShapeC (.arr n u) := by
  intro w hE
  unfold ShapeC at ih
  have HE := Lib.hid hE
  have HI := Lib.hid ih
  have HS := Lib.hid (fun w hM => split_arr n u w hr hM hl)
  obtain ⟨h0, hc⟩ := tyB_head (.arr n u)
  have t1 : (((tyB (.arr n u))[0].toNat : Int) == 112) = false := eq_false' (d := 112) hc (by simp [headT])
  have t2 : (((tyB (.arr n u))[0].toNat : Int) == 97) = true := eq_true' hc
  have hv := one_is hr.2 118
  have hf := head_fn' hr.2
  have hu0 := (tyB_head u).1
  have hnb : (n : Int) ≤ 1099511627776 := by have := hr.1; omega
  have hsh : shapeT (.arr n u) = (decide (1 ≤ n ∧ n ≤ 65536) && (objectT u && shapeT u)) := by rw [shapeT]
  generalize tyB (.arr n u) = s at *
  generalize hb : shapeT u = b at *
  clear hc hE ih hr hl
  by_cases hn1 : 1 ≤ n
  · by_cases hn2 : n ≤ 65536
    · have t3 : (1 : Int) ≤ n := by omega
      have t4 : (n : Int) ≤ 65536 := by omega
      rcases h1 : isC 118 u with _ | _
      · rw [h1] at hv
        have hv' : ((tyB u).toList != [118]) = true := by rw [bne, hv]; rfl
        rcases h2 : isFnT u with _ | _
        · have hfin := Lib.hid (show shapeT (.arr n u) = b by rw [hsh, objectT, isVoid_is, h1, h2]; simp [hn1, hn2])
          rw [h2] at hf
          have hf' : (((tyB u)[0].toNat : Int) != 102) = true := by rw [bne, hf]; rfl
          clear hsh h1 h2 hn1 hn2 hb
          go_enter Tryd.func89, Tryd.ntmps89
          go_wp2_with (go_at_call 81; (with_reducible refine (HS.out _ HE.out.maxl).mono ?_))
          rintro e w1 ⟨rfl, hb1⟩
          have HI1 := Lib.hid (HI.out _ (HE.out.below hb1))
          go_wp2_with (go_at_call 89; (with_reducible refine HI1.out.mono ?_))
          rintro e w2 ⟨rfl, hb2⟩
          go_wp2_with fail
          go_ret
          exact ⟨by rw [hfin.out]; rfl, hb1.trans (hb2.mono hb1.size)⟩
        · have hfin := Lib.hid (show shapeT (.arr n u) = false by rw [hsh, objectT, h2]; simp)
          rw [h2] at hf
          have hf' : (((tyB u)[0].toNat : Int) != 102) = false := by rw [bne, hf]; rfl
          clear hsh h1 h2 hn1 hn2 hb
          go_enter Tryd.func89, Tryd.ntmps89
          go_wp2_with (go_at_call 81; (with_reducible refine (HS.out _ HE.out.maxl).mono ?_))
          rintro e w1 ⟨rfl, hb1⟩
          go_wp2_with fail
          go_ret
          exact ⟨by rw [hfin.out]; rfl, hb1⟩
      · have hfin := Lib.hid (show shapeT (.arr n u) = false by rw [hsh, objectT, isVoid_is, h1]; simp)
        rw [h1] at hv
        have hv' : ((tyB u).toList != [118]) = false := by rw [bne, hv]; rfl
        clear hsh h1 hn1 hn2 hb hf
        go_enter Tryd.func89, Tryd.ntmps89
        go_wp2_with (go_at_call 81; (with_reducible refine (HS.out _ HE.out.maxl).mono ?_))
        rintro e w1 ⟨rfl, hb1⟩
        go_wp2_with fail
        go_ret
        exact ⟨by rw [hfin.out]; rfl, hb1⟩
    · have hfin := Lib.hid (show shapeT (.arr n u) = false by rw [hsh]; simp [hn2])
      have t3 : (1 : Int) ≤ n := by omega
      have t4 : decide ((n : Int) ≤ 65536) = false := by simp; omega
      clear hsh hn1 hn2 hb hf hv
      go_enter Tryd.func89, Tryd.ntmps89
      go_wp2_with (go_at_call 81; (with_reducible refine (HS.out _ HE.out.maxl).mono ?_))
      rintro e w1 ⟨rfl, hb1⟩
      go_wp2_with fail
      go_ret
      exact ⟨by rw [hfin.out]; rfl, hb1⟩
  · have hfin := Lib.hid (show shapeT (.arr n u) = false by rw [hsh]; simp [hn1])
    have t3 : decide ((1 : Int) ≤ n) = false := by simp; omega
    clear hsh hn1 hb hf hv
    go_enter Tryd.func89, Tryd.ntmps89
    go_wp2_with (go_at_call 81; (with_reducible refine (HS.out _ HE.out.maxl).mono ?_))
    rintro e w1 ⟨rfl, hb1⟩
    go_wp2_with fail
    go_ret
    exact ⟨by rw [hfin.out]; rfl, hb1⟩

set_option maxHeartbeats 4000000 in
theorem shape_fn (ps : List Ty) (r : Ty) (hr : Right (.fn ps r)) (hl : (code (.fn ps r)).length ≤ 65536) (ih : ∀ p ∈ ps, ShapeC p) (ihr : ShapeC r) : ShapeC (.fn ps r) := by
  intro w hE
  have hcl : (code (.fn ps r)).length = (codes ps).length + (code r).length + 3 := by rw [code]; simp; omega
  have hlr : (code r).length ≤ 65536 := by omega
  have hlp : ∀ p ∈ ps, (code p).length ≤ 65536 := fun p hp => by have := codes_mem' hp; omega
  have hnl : ps.length ≤ 65536 := by have := rights_len hr.1; omega
  have HCF := Lib.hid (fun v B w hE hB => shape_has ps v ps.length B w hE hB rfl hr.1 hlp ih hnl)
  unfold ShapeC at ihr
  have HE := Lib.hid hE
  have HI := Lib.hid ihr
  have HS := Lib.hid (fun w hK hb => split_fn ps r w hr hl hK hb)
  have HSc := Lib.hid (fun b w hE h => isScal_is b w hE hr.2 hlr h)
  obtain ⟨h0, hc⟩ := tyB_head (.fn ps r)
  have t1 : (((tyB (.fn ps r))[0].toNat : Int) == 112) = false := eq_false' (d := 112) hc (by simp [headT])
  have t2 : (((tyB (.fn ps r))[0].toNat : Int) == 97) = false := eq_false' (d := 97) hc (by simp [headT])
  have t3 : (((tyB (.fn ps r))[0].toNat : Int) == 102) = true := eq_true' hc
  have hv := one_is hr.2 118
  have hsh : shapeT (.fn ps r) = (decide (ps.length ≤ 8) && ((isVoidT r || isScalarT r) && (shapeT r && shapesT ps))) := by rw [shapeT]
  generalize tyB (.fn ps r) = s at *
  clear hc hE ih ihr hr hl hcl hlr hlp
  by_cases hn : ps.length ≤ 8
  · have t4 : (ps.length : Int) ≤ 8 := by omega
    rcases h1 : isC 118 r with _ | _
    · rw [h1] at hv
      have hv' : ((tyB r).toList != [118]) = true := by rw [bne, hv]; rfl
      rcases h2 : isScalarT r with _ | _
      · have HScal := Lib.hid h2
        have hfin := Lib.hid (show shapeT (.fn ps r) = false by rw [hsh, isVoid_is, h1, h2]; simp)
        clear hsh h1 h2 hn
        go_enter Tryd.func89, Tryd.ntmps89
        go_wp2_with (go_at_call 81; (with_reducible refine (HS.out _ HE.out.keys HE.out.lt).mono ?_))
        rintro e w1 ⟨⟨v, rfl, ho⟩, hb1⟩
        obtain ⟨a, cap, rfl, _⟩ := own_formT ho
        have HO := Lib.hid ho
        have HE1 := Lib.hid (HE.out.below hb1)
        have HB1 := Lib.hid hb1
        clear ho hb1
        go_wp2_with (go_at_call 94; (with_reducible refine (HSc.out false _ HE1.out HScal.out).mono ?_))
        rintro e w2 ⟨rfl, hb2⟩
        have HE2 := Lib.hid (HE1.out.below hb2)
        have HB2 := Lib.hid (HB1.out.trans (hb2.mono HB1.out.size))
        have HO2 := Lib.hid (HO.out.belowed hb2)
        clear hb2
        go_wp2_with fail
        go_ret
        exact ⟨by rw [hfin.out]; rfl, HB2.out⟩
      · have HScal := Lib.hid h2
        rcases hsr : shapeT r with _ | _
        · have HSh := Lib.hid hsr
          have hfin := Lib.hid (show shapeT (.fn ps r) = false by rw [hsh, hsr]; simp)
          clear hsh hsr hn h1 h2
          go_enter Tryd.func89, Tryd.ntmps89
          go_wp2_with (go_at_call 81; (with_reducible refine (HS.out _ HE.out.keys HE.out.lt).mono ?_))
          rintro e w1 ⟨⟨v, rfl, ho⟩, hb1⟩
          obtain ⟨a, cap, rfl, _⟩ := own_formT ho
          have HO := Lib.hid ho
          have HE1 := Lib.hid (HE.out.below hb1)
          have HB1 := Lib.hid hb1
          clear ho hb1
          go_wp2_with (go_at_call 94; (with_reducible refine (HSc.out true _ HE1.out HScal.out).mono ?_))
          rintro e w2 ⟨rfl, hb2⟩
          have HE2 := Lib.hid (HE1.out.below hb2)
          have HB2 := Lib.hid (HB1.out.trans (hb2.mono HB1.out.size))
          have HO2 := Lib.hid (HO.out.belowed hb2)
          clear hb2
          go_wp2_with (go_at_call 89; (with_reducible refine (HI.out _ HE2.out).mono ?_))
          rintro e w3 ⟨rfl, hb3⟩
          rw [HSh.out]
          have HE3 := Lib.hid (HE2.out.below hb3)
          have HB3 := Lib.hid (HB2.out.trans (hb3.mono HB2.out.size))
          have HO3 := Lib.hid (HO2.out.belowed hb3)
          clear hb3
          go_wp2_with fail
          go_ret
          exact ⟨by rw [hfin.out]; rfl, HB3.out⟩
        · have HSh := Lib.hid hsr
          have hfin := Lib.hid (show shapeT (.fn ps r) = shapesT ps by rw [hsh, hsr, isVoid_is, h1, h2]; simp [hn])
          clear hsh hsr hn h1 h2
          go_enter Tryd.func89, Tryd.ntmps89
          go_wp2_with (go_at_call 81; (with_reducible refine (HS.out _ HE.out.keys HE.out.lt).mono ?_))
          rintro e w1 ⟨⟨v, rfl, ho⟩, hb1⟩
          obtain ⟨a, cap, rfl, _⟩ := own_formT ho
          have HO := Lib.hid ho
          have HE1 := Lib.hid (HE.out.below hb1)
          have HB1 := Lib.hid hb1
          clear ho hb1
          go_wp2_with (go_at_call 94; (with_reducible refine (HSc.out true _ HE1.out HScal.out).mono ?_))
          rintro e w2 ⟨rfl, hb2⟩
          have HE2 := Lib.hid (HE1.out.below hb2)
          have HB2 := Lib.hid (HB1.out.trans (hb2.mono HB1.out.size))
          have HO2 := Lib.hid (HO.out.belowed hb2)
          clear hb2
          go_wp2_with (go_at_call 89; (with_reducible refine (HI.out _ HE2.out).mono ?_))
          rintro e w3 ⟨rfl, hb3⟩
          rw [HSh.out]
          have HE3 := Lib.hid (HE2.out.below hb3)
          have HB3 := Lib.hid (HB2.out.trans (hb3.mono HB2.out.size))
          have HO3 := Lib.hid (HO2.out.belowed hb3)
          clear hb3
          go_wp2_with (go_at_call 95; (with_reducible refine (HCF.out _ _ _ HE3.out HO3.out).mono ?_))
          rintro e w4 ⟨rfl, hb4⟩
          have HB4 := Lib.hid (HB3.out.trans (hb4.mono HB3.out.size))
          clear hb4
          go_wp2_with fail
          go_ret
          exact ⟨by rw [hfin.out]; simp, HB4.out⟩
    · rw [h1] at hv
      have hv' : ((tyB r).toList != [118]) = false := by rw [bne, hv]; rfl
      rcases hsr : shapeT r with _ | _
      · have HSh := Lib.hid hsr
        have hfin := Lib.hid (show shapeT (.fn ps r) = false by rw [hsh, hsr]; simp)
        clear hsh hsr hn h1
        go_enter Tryd.func89, Tryd.ntmps89
        go_wp2_with (go_at_call 81; (with_reducible refine (HS.out _ HE.out.keys HE.out.lt).mono ?_))
        rintro e w1 ⟨⟨v, rfl, ho⟩, hb1⟩
        obtain ⟨a, cap, rfl, _⟩ := own_formT ho
        have HO := Lib.hid ho
        have HE1 := Lib.hid (HE.out.below hb1)
        have HB1 := Lib.hid hb1
        clear ho hb1
        have HE2 := Lib.hid HE1.out
        have HB2 := Lib.hid HB1.out
        have HO2 := Lib.hid HO.out
        go_wp2_with (go_at_call 89; (with_reducible refine (HI.out _ HE2.out).mono ?_))
        rintro e w3 ⟨rfl, hb3⟩
        rw [HSh.out]
        have HE3 := Lib.hid (HE2.out.below hb3)
        have HB3 := Lib.hid (HB2.out.trans (hb3.mono HB2.out.size))
        have HO3 := Lib.hid (HO2.out.belowed hb3)
        clear hb3
        go_wp2_with fail
        go_ret
        exact ⟨by rw [hfin.out]; rfl, HB3.out⟩
      · have HSh := Lib.hid hsr
        have hfin := Lib.hid (show shapeT (.fn ps r) = shapesT ps by rw [hsh, hsr, isVoid_is, h1]; simp [hn])
        clear hsh hsr hn h1
        go_enter Tryd.func89, Tryd.ntmps89
        go_wp2_with (go_at_call 81; (with_reducible refine (HS.out _ HE.out.keys HE.out.lt).mono ?_))
        rintro e w1 ⟨⟨v, rfl, ho⟩, hb1⟩
        obtain ⟨a, cap, rfl, _⟩ := own_formT ho
        have HO := Lib.hid ho
        have HE1 := Lib.hid (HE.out.below hb1)
        have HB1 := Lib.hid hb1
        clear ho hb1
        have HE2 := Lib.hid HE1.out
        have HB2 := Lib.hid HB1.out
        have HO2 := Lib.hid HO.out
        go_wp2_with (go_at_call 89; (with_reducible refine (HI.out _ HE2.out).mono ?_))
        rintro e w3 ⟨rfl, hb3⟩
        rw [HSh.out]
        have HE3 := Lib.hid (HE2.out.below hb3)
        have HB3 := Lib.hid (HB2.out.trans (hb3.mono HB2.out.size))
        have HO3 := Lib.hid (HO2.out.belowed hb3)
        clear hb3
        go_wp2_with (go_at_call 95; (with_reducible refine (HCF.out _ _ _ HE3.out HO3.out).mono ?_))
        rintro e w4 ⟨rfl, hb4⟩
        have HB4 := Lib.hid (HB3.out.trans (hb4.mono HB3.out.size))
        clear hb4
        go_wp2_with fail
        go_ret
        exact ⟨by rw [hfin.out]; simp, HB4.out⟩
  · have hfin := Lib.hid (show shapeT (.fn ps r) = false by rw [hsh]; simp [hn])
    have t4 : (8 : Int) < ps.length := by omega
    clear hsh hn hv
    go_enter Tryd.func89, Tryd.ntmps89
    go_wp2_with (go_at_call 81; (with_reducible refine (HS.out _ HE.out.keys HE.out.lt).mono ?_))
    rintro e w1 ⟨⟨v, rfl, ho⟩, hb1⟩
    obtain ⟨a, cap, rfl, _⟩ := own_formT ho
    have HO := Lib.hid ho
    have HE1 := Lib.hid (HE.out.below hb1)
    have HB1 := Lib.hid hb1
    clear ho hb1
    go_wp2_with fail
    go_ret
    exact ⟨by rw [hfin.out]; rfl, HB1.out⟩

theorem shape_all : ∀ (n : Nat) (t : Ty), (code t).length ≤ n → Right t → (code t).length ≤ 65536 → ShapeC t
  | 0, t, hn, hr, _ => by have := code_pos hr; omega
  | n + 1, t, hn, hr, hl => by
    cases t with
    | base c => exact shape_root _ (by rcases base_six hr with rfl | rfl | rfl | rfl | rfl | rfl <;> decide) (by rcases base_six hr with rfl | rfl | rfl | rfl | rfl | rfl <;> decide) (by rcases base_six hr with rfl | rfl | rfl | rfl | rfl | rfl <;> decide) (by rw [shapeT])
    | str s => exact shape_root _ (by simp [headT]) (by simp [headT]) (by simp [headT]) (by rw [shapeT])
    | ptr u => exact shape_ptr u hr (shape_all n u (by rw [code] at hn; simp at hn; omega) hr (by rw [code] at hl; simp at hl; omega))
    | arr m u => exact shape_arr m u hr hl (shape_all n u (by rw [code] at hn; simp at hn; omega) hr.2 (by rw [code] at hl; simp at hl; omega))
    | fn ps r =>
      refine shape_fn ps r hr hl (fun p hp => ?_) (shape_all n r (by rw [code] at hn; simp at hn; omega) hr.2 (by rw [code] at hl; simp at hl; omega))
      have h1 := codes_mem' hp
      have h2 : Right p := by
        obtain ⟨a, b, rfl⟩ := List.append_of_mem hp
        exact rights_at hr.1
      rw [code] at hn hl
      simp at hn hl
      exact shape_all n p (by omega) h2 (by omega)

end Go.Proofs.YtlcfejgjeljjdaaDoor
