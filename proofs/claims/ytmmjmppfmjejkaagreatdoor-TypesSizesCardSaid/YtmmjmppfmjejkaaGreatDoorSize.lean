/- Bytes and alignment of a type, structs being given: the program. -/
import Derived.Test.YtmmjmppfmjejkaaGreatDoorLearn
namespace Go.Proofs.YtmmjmppfmjejkaaGreatDoor
open Go.RowKit Go.Maps

/-- bytes, alignment, what is wrong -/
def sizeR (L : List Sr) (s : ByteArray) : Int × Int × Int := match learnK L with
  | .inl p => (0, 0, p.2)
  | .inr K => match tyS s with
    | none => (0, 0, 2)
    | some t => if checkT K t ≠ 0 then (0, 0, checkT K t) else if objectT t = false then (0, 0, 5) else (((measT K t).1 : Int), ((measT K t).2 : Int), 0)
theorem sizeR_struct {L : List Sr} {s : ByteArray} {i : Nat} {c : Int} (h : learnK L = .inl (i, c)) : sizeR L s = (0, 0, c) := by unfold sizeR; rw [h]
theorem sizeR_check {L : List Sr} {s : ByteArray} {K : List Kn} (h : learnK L = .inr K) (hc : checkS K s ≠ 0) : sizeR L s = (0, 0, checkS K s) := by
  unfold sizeR; rw [h]
  cases ht : tyS s with
  | none => rw [checkS_none ht]
  | some t => rw [checkS_some ht] at hc ⊢; simp only; rw [if_pos hc]
theorem sizeR_object {L : List Sr} {s : ByteArray} {K : List Kn} {t : Ty} (h : learnK L = .inr K) (ht : tyS s = some t) (hc : checkT K t = 0) (ho : objectT t = false) : sizeR L s = (0, 0, 5) := by
  unfold sizeR; rw [h, ht]
  simp only
  rw [if_neg (by simp [hc]), if_pos ho]
theorem sizeR_yes {L : List Sr} {s : ByteArray} {K : List Kn} {t : Ty} (h : learnK L = .inr K) (ht : tyS s = some t) (hc : checkT K t = 0) (ho : objectT t = true) : sizeR L s = (((measT K t).1 : Int), ((measT K t).2 : Int), 0) := by
  unfold sizeR; rw [h, ht]
  simp only
  rw [if_neg (by simp [hc]), if_neg (by simp [ho])]

/-- how measured ends -/
def MeasEnd (mv : List Value) (L : List Sr) (s : ByteArray) (w : World) (e : Ending) (w' : World) : Prop :=
  Below w.heap.size w w' ∧ ((∃ c : Int, sizeR L s = (0, 0, c) ∧ c ≠ 0 ∧ e = .returned (.tuple #[.pointer none, .int .i64 c])) ∨
    ∃ K t b mb lv sv av, learnK L = .inr K ∧ tyS s = some t ∧ checkT K t = 0 ∧ objectT t = true ∧ FitK K ∧ KnAt (w.heap.size + 1) w' b mb lv sv av mv K ∧ e = .returned (.tuple #[.pointer (some ⟨b, 0, none⟩), .int .i64 0]))
theorem meas_no {mv : List Value} {L : List Sr} {s : ByteArray} {w w' : World} {c : Int} (h : sizeR L s = (0, 0, c)) (hc : c ≠ 0) (hb : Below w.heap.size w w') :
    MeasEnd mv L s w (.returned (.tuple #[.pointer none, .int .i64 c])) w' := ⟨hb, .inl ⟨c, h, hc, rfl⟩⟩

set_option maxRecDepth 100000 in
set_option maxHeartbeats 4000000 in
theorem measured_ok (s : ByteArray) (a : Option Addr) (cap : Nat) (L : List Sr) (mv : List Value) (w : World) (hE : TE w) (hS : IsSrs w.heap.size w a L mv) :
    Calls Tryz.prog 46 #[.string s, .slice a L.length cap] w fun e w' => MeasEnd mv L s w e w' := by
  have HE := Lib.hid hE
  have HL := Lib.hid (learn_ok a cap L mv w hE hS)
  clear hE hS
  go_enter Tryz.func46, Tryz.ntmps46
  go_wp2_with (go_at_call 33; (with_reducible refine HL.out.mono ?_))
  intro e w1 hend
  obtain ⟨hb1, ⟨i, c, hl, hc, rfl⟩ | ⟨K, b, mb, lv, sv, av, hl, rfl, hF, hkn⟩⟩ := hend
  · have hfin := Lib.hid (sizeR_struct (s := s) hl)
    have HC := Lib.hid hc
    have t1 : (c != 0) = true := by simp [hc]
    have HB1 := Lib.hid hb1
    clear hl hc hb1
    go_wp2_with fail
    go_quiet (fail)
    go_wp2
    go_ret2
    exact meas_no hfin.out HC.out (blw_drewN (HB1.out.alloc HB1.out.size _) _)
  · have HB1 := Lib.hid hb1
    have hg : Below (w1.heap.size) w1 (w1.alloc (.cells #[.int .i64 0, .int .i64 0] 27)) := (Below.refl _ _).alloc (Nat.le_refl _) _
    have HG := Lib.hid (hb1.trans (hg.mono hb1.size))
    have HKn := Lib.hid (hkn.below hg)
    have HC := Lib.hid (check_ok s _ (HE.out.below HG.out) HKn.out hF)
    have HFt := Lib.hid hF
    have HLk := Lib.hid hl
    clear hkn hb1 hg hF hl
    by_cases hc : checkS K s = 0
    · obtain ⟨t, ht⟩ : ∃ t, tyS s = some t := by
        cases ht : tyS s with
        | none => rw [checkS_none ht] at hc; simp at hc
        | some t => exact ⟨t, rfl⟩
      obtain ⟨hst, hrt, _⟩ := tyS_some.1 ht
      have HO := Lib.hid fun w5 => object_ok t hrt w5
      rw [← hst] at HO
      rw [hc] at HC
      rw [checkS_some ht] at hc
      rcases hob : objectT t with _ | _
      · rw [hob] at HO
        have hfin := Lib.hid (sizeR_object HLk.out ht hc hob)
        clear hst hrt ht hc hob
        go_wp2_with (go_at_call 34; (with_reducible refine HC.out.mono ?_); rintro e w5 ⟨rfl, hb5⟩; have HB5 := Lib.hid hb5; clear hb5)
        go_wp2_with (go_at_call 81; (with_reducible refine (HO.out _).mono ?_); rintro e w6 ⟨rfl, hw6⟩; subst w6)
        go_ret2
        exact meas_no hfin.out (by decide) (HG.out.trans (HB5.out.mono (by simp; have := HB1.out.size; omega)))
      · rw [hob] at HO
        have HT := Lib.hid ht
        have HCt := Lib.hid hc
        have HOb := Lib.hid hob
        clear hst hrt ht hc hob
        go_wp2_with (go_at_call 34; (with_reducible refine HC.out.mono ?_); rintro e w5 ⟨rfl, hb5⟩; have HB5 := Lib.hid hb5; clear hb5)
        go_wp2_with (go_at_call 81; (with_reducible refine (HO.out _).mono ?_); rintro e w6 ⟨rfl, hw6⟩; subst w6)
        go_ret2
        exact ⟨HG.out.trans (HB5.out.mono (by simp; have := HB1.out.size; omega)), .inr ⟨K, t, b, mb, lv, sv, av, HLk.out, HT.out, HCt.out, HOb.out, HFt.out, HKn.out.below HB5.out, rfl⟩⟩
    · have hfin := Lib.hid (sizeR_check HLk.out hc)
      have t1 : (checkS K s != 0) = true := by simp [hc]
      have HC0 := Lib.hid hc
      clear hc
      generalize checkS K s = c at *
      go_wp2_with (go_at_call 34; (with_reducible refine HC.out.mono ?_); rintro e w5 ⟨rfl, hb5⟩; have HB5 := Lib.hid hb5; clear hb5)
      go_ret2
      exact meas_no hfin.out HC0.out (HG.out.trans (HB5.out.mono (by simp; have := HB1.out.size; omega)))

set_option maxRecDepth 100000 in
set_option maxHeartbeats 4000000 in
/-- types.Size -/
theorem size_ok (s : ByteArray) (a : Option Addr) (cap : Nat) (L : List Sr) (mv : List Value) (w : World) (hE : TE w) (hS : IsSrs w.heap.size w a L mv) :
    Calls Tryz.prog 27 #[.string s, .slice a L.length cap] w fun e w' => e = .returned (.tuple #[.int .i64 (sizeR L s).1, .int .i64 (sizeR L s).2.1, .int .i64 (sizeR L s).2.2]) ∧ Below w.heap.size w w' := by
  have HE := Lib.hid hE
  have HM := Lib.hid (measured_ok s a cap L mv w hE hS)
  clear hE hS
  go_enter Tryz.func27, Tryz.ntmps27
  go_wp2_with (go_at_call 46; (with_reducible refine HM.out.mono ?_))
  intro e w1 hend
  obtain ⟨hb1, ⟨c, hr, hc, rfl⟩ | ⟨K, t, b, mb, lv, sv, av, hl, ht, hct, hob, hF, hkn, rfl⟩⟩ := hend
  · have HR := Lib.hid hr
    have t1 : (c != 0) = true := by simp [hc]
    have HB1 := Lib.hid hb1
    clear hr hc hb1
    go_wp2_with fail
    exact bodyPost_ret (v := .tuple #[.int .i64 0, .int .i64 0, .int .i64 c]) (by simp [results, Tryz.results27, go_sem]) rfl ⟨by rw [HR.out], HB1.out⟩
  · have HR := Lib.hid (sizeR_yes hl ht hct hob)
    obtain ⟨hst, hrt, hlt⟩ := tyS_some.1 ht
    obtain ⟨hsh, hth, _⟩ := checkT_zero hct
    have hm := measure_ok t w1 hrt hlt hsh hth (HE.out.below hb1) hkn hF
    rw [capM_id (meas_bd hF t hct), ← hst] at hm
    unfold measV at hm
    have HMs := Lib.hid hm
    have HB1 := Lib.hid hb1
    clear hl ht hct hob hF hkn hst hrt hlt hsh hth hm hb1
    generalize measT K t = p at *
    obtain ⟨p1, p2⟩ := p
    go_wp2_with (go_at_call 47; (with_reducible refine HMs.out.mono ?_); rintro e w2 ⟨rfl, hb2⟩; have HB2 := Lib.hid hb2; clear hb2)
    exact bodyPost_ret (v := .tuple #[.int .i64 (p1 : Int), .int .i64 (p2 : Int), .int .i64 0]) (by simp [results, Tryz.results27, go_sem]) rfl ⟨by rw [HR.out], HB1.out.trans (HB2.out.mono HB1.out.size)⟩

end Go.Proofs.YtmmjmppfmjejkaaGreatDoor
