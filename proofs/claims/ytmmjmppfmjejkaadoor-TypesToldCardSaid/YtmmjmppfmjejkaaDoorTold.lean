/- Two types that may be, and are not the same, are not written the same: the statement's walk. -/
import Derived.Test.YtmmjmppfmjejkaaDoorWorks
import Derived.Test.YtmmjmppfmjejkaaDoorTyInjM
namespace Go.Proofs.YtmmjmppfmjejkaaDoor
open Go.RowKit

def rightS (s : ByteArray) : Bool := decide (checkS [] s = 0 ∨ checkS [] s = 4)
set_option maxHeartbeats 1000000 in
theorem right_ok (s : ByteArray) (w : World) (hE : TE w) : Calls Tryd.prog 9 #[.string s] w fun e w' => e = .returned (.bool (rightS s)) ∧ Below w.heap.size w w' := by
  have HC := Lib.hid (checkNil_ok s w hE)
  clear hE
  by_cases h0 : checkS [] s = 0
  · have hfin := Lib.hid (show rightS s = true by unfold rightS; rw [h0]; rfl)
    rw [h0] at HC
    clear h0
    go_enter Tryd.func9, Tryd.ntmps9
    go_wp2_with (go_at_call 25; (with_reducible refine HC.out.mono ?_); rintro e w3 ⟨rfl, hb3⟩)
    go_ret
    exact ⟨by rw [hfin.out]; rfl, hb3⟩
  · by_cases h4 : checkS [] s = 4
    · have hfin := Lib.hid (show rightS s = true by unfold rightS; rw [h4]; rfl)
      rw [h4] at HC
      clear h0 h4
      go_enter Tryd.func9, Tryd.ntmps9
      go_wp2_with (go_at_call 25; (with_reducible refine HC.out.mono ?_); rintro e w3 ⟨rfl, hb3⟩)
      go_ret
      exact ⟨by rw [hfin.out]; rfl, hb3⟩
    · have hfin := Lib.hid (show rightS s = false by unfold rightS; rw [decide_eq_false]; rintro (h | h) <;> contradiction)
      have t1 : (checkS [] s == 0) = false := by simp [h0]
      have t2 : (checkS [] s == 4) = false := by simp [h4]
      clear h0 h4
      generalize checkS [] s = c at *
      go_enter Tryd.func9, Tryd.ntmps9
      go_wp2_with (go_at_call 25; (with_reducible refine HC.out.mono ?_); rintro e w3 ⟨rfl, hb3⟩)
      go_ret
      exact ⟨by rw [hfin.out]; rfl, hb3⟩

/-- what Declare tells: the text, what is wrong -/
def declS (s name : ByteArray) : ByteArray × Int := match tyS s with
  | none => (⟨#[]⟩, 2)
  | some t => if name = ⟨#[]⟩ ∨ isNameB name = true then (strB (declT t name.data.toList), 0) else (⟨#[]⟩, 2)
theorem declV_is (s name : ByteArray) : declareV (tyS s) name = .tuple #[.string (declS s name).1, .int .i64 (declS s name).2] := by
  unfold declareV declS
  cases tyS s with
  | none => rfl
  | some t =>
    simp only
    split <;> rfl
theorem declT_ne : ∀ (t : Ty) (s : List UInt8), declT t s ≠ []
  | .base c, s => by
    rw [declT]
    split
    · rw [wordT]
      split
      · simp
      · split
        · simp
        · split
          · simp
          · split
            · simp
            · split <;> simp
    · simp
  | .str n, s => by rw [declT]; split <;> simp [wordT]
  | .ptr t, s => by rw [declT]; exact declT_ne t _
  | .arr n t, s => by rw [declT]; exact declT_ne t _
  | .fn ps r, s => by rw [declT]; exact declT_ne r _
theorem declS_two (s name : ByteArray) : ((declS s name).2 = 0 ∧ (declS s name).1 ≠ ⟨#[]⟩) ∨ ((declS s name).2 = 2 ∧ (declS s name).1 = ⟨#[]⟩) := by
  unfold declS
  cases tyS s with
  | none => exact .inr ⟨rfl, rfl⟩
  | some t =>
    simp only
    split
    · refine .inl ⟨rfl, fun e => ?_⟩
      have := congrArg (fun x : ByteArray => x.data.toList) e
      simp only [strB_list] at this
      exact declT_ne _ _ this
    · exact .inr ⟨rfl, rfl⟩
theorem right_shape {s : ByteArray} {t : Ty} (h : rightS s = true) (ht : tyS s = some t) : shapeT t = true := by
  unfold rightS at h
  have := of_decide_eq_true h
  rw [checkS_some ht] at this
  unfold checkT at this
  split at this
  · simp at this
  · split at this
    · simp at this
    · rename_i h1
      simpa using h1
theorem told_same {s u name : ByteArray} (hs : (declS s name).2 = 0) (hu : (declS u name).2 = 0) (rs : rightS s = true) (ru : rightS u = true) : (declS s name).1 = (declS u name).1 ↔ s = u := by
  constructor
  · intro h
    unfold declS at *
    cases hts : tyS s with
    | none => rw [hts] at hs; simp at hs
    | some t =>
      cases htu : tyS u with
      | none => rw [htu] at hu; simp at hu
      | some v =>
        rw [hts] at hs h
        rw [htu] at hu h
        simp only at hs hu h
        by_cases hn : name = ⟨#[]⟩ ∨ isNameB name = true
        · rw [if_pos hn, if_pos hn] at h
          have h' := congrArg (fun x : ByteArray => x.data.toList) h
          simp only [strB_list] at h'
          have hnm : Nm name.data.toList := by
            rcases hn with rfl | hn
            · intro c hc; simp at hc
            · refine name_nm ?_
              unfold nameL
              rw [show (⟨name.data.toList.toArray⟩ : ByteArray) = name by simp]
              exact hn
          obtain ⟨e1, r1, _⟩ := tyS_some.1 hts
          obtain ⟨e2, r2, _⟩ := tyS_some.1 htu
          have := (told r1 r2 (right_shape rs hts) (right_shape ru htu) hnm).1 h'
          rw [e1, e2, this]
        · rw [if_neg hn] at hs; simp at hs
  · rintro rfl; rfl

set_option maxRecDepth 100000 in
set_option maxHeartbeats 4000000 in
theorem typesTold_ok (t u name : ByteArray) (w : World) (hE : TE w) : Calls Tryd.prog 3 #[.string t, .string u, .string name] w fun e w' => e = .returned (.bool true) ∧ Below w.heap.size w w' := by
  have HE := Lib.hid hE
  have HW := Lib.hid (works_ok w hE)
  have HD := Lib.hid fun s w1 (h : Below w.heap.size w w1) => show Calls Tryd.prog 8 #[.string s, .string name] w1 fun e w' => e = .returned (.tuple #[.string (declS s name).1, .int .i64 (declS s name).2]) ∧ Below w1.heap.size w1 w' by
    have h1 := declare_ok s name w1 (hE.below h)
    rw [declV_is] at h1
    exact h1
  have HR := Lib.hid fun s w1 (h : Below w.heap.size w w1) => right_ok s w1 (hE.below h)
  have hp := declS_two t name
  have hq := declS_two u name
  have HS := Lib.hid (@told_same t u name)
  have HDt := Lib.hid (HD.out t)
  have HDu := Lib.hid (HD.out u)
  clear hE
  generalize declS t name = p at *
  generalize declS u name = q at *
  obtain ⟨a, e⟩ := p
  obtain ⟨b, f⟩ := q
  simp only at hp hq HS HDt HDu
  have em : ∀ x : ByteArray, x ≠ ⟨#[]⟩ → x.toList.isEmpty = false ∧ (x.toList != []) = true ∧ (x.toList == []) = false := fun x hx => by
    have h1 : x.toList.isEmpty = false := by rw [emp_iff, decide_eq_false hx]
    have h2 : x.toList ≠ [] := fun e => by rw [e] at h1; cases h1
    exact ⟨h1, by simp [bne, h2], by simp [h2]⟩
  rcases hp with ⟨rfl, ha⟩ | ⟨rfl, rfl⟩
  · rcases hq with ⟨rfl, hb⟩ | ⟨rfl, rfl⟩
    · clear em ha hb
      have HRt := Lib.hid (HR.out t)
      have HRu := Lib.hid (HR.out u)
      rcases hr : rightS t with _ | _
      · rw [hr] at HRt
        clear hr
        go_enter Tryd.func3, Tryd.ntmps3
        go_wp2_with (go_at_call 7; (with_reducible refine HW.out.mono ?_); rintro e w1 ⟨rfl, hb1⟩; have HB1 := Lib.hid hb1; clear hb1)
        have HD1 := Lib.hid (HDt.out _ HB1.out)
        go_wp2_with (go_at_call 8; (with_reducible refine HD1.out.mono ?_); rintro e w2 ⟨rfl, hb2⟩; have HB2 := Lib.hid (HB1.out.trans (hb2.mono HB1.out.size)); clear hb2)
        have HD2 := Lib.hid (HDu.out _ HB2.out)
        go_wp2_with (go_at_call 8; (with_reducible refine HD2.out.mono ?_); rintro e w3 ⟨rfl, hb3⟩; have HB3 := Lib.hid (HB2.out.trans (hb3.mono HB2.out.size)); clear hb3)
        have HR3 := Lib.hid (HRt.out _ HB3.out)
        go_wp2_with (go_at_call 9; (with_reducible refine HR3.out.mono ?_); rintro e w4 ⟨rfl, hb4⟩; have HB4 := Lib.hid (HB3.out.trans (hb4.mono HB3.out.size)); clear hb4)
        go_ret
        exact ⟨rfl, HB4.out⟩
      · rw [hr] at HRt
        rcases hr2 : rightS u with _ | _
        · rw [hr2] at HRu
          clear hr hr2
          go_enter Tryd.func3, Tryd.ntmps3
          go_wp2_with (go_at_call 7; (with_reducible refine HW.out.mono ?_); rintro e w1 ⟨rfl, hb1⟩; have HB1 := Lib.hid hb1; clear hb1)
          have HD1 := Lib.hid (HDt.out _ HB1.out)
          go_wp2_with (go_at_call 8; (with_reducible refine HD1.out.mono ?_); rintro e w2 ⟨rfl, hb2⟩; have HB2 := Lib.hid (HB1.out.trans (hb2.mono HB1.out.size)); clear hb2)
          have HD2 := Lib.hid (HDu.out _ HB2.out)
          go_wp2_with (go_at_call 8; (with_reducible refine HD2.out.mono ?_); rintro e w3 ⟨rfl, hb3⟩; have HB3 := Lib.hid (HB2.out.trans (hb3.mono HB2.out.size)); clear hb3)
          have HR3 := Lib.hid (HRt.out _ HB3.out)
          go_wp2_with (go_at_call 9; (with_reducible refine HR3.out.mono ?_); rintro e w4 ⟨rfl, hb4⟩; have HB4 := Lib.hid (HB3.out.trans (hb4.mono HB3.out.size)); clear hb4)
          have HR4 := Lib.hid (HRu.out _ HB4.out)
          go_wp2_with (go_at_call 9; (with_reducible refine HR4.out.mono ?_); rintro e w5 ⟨rfl, hb5⟩; have HB5 := Lib.hid (HB4.out.trans (hb5.mono HB4.out.size)); clear hb5)
          go_ret
          exact ⟨rfl, HB5.out⟩
        · rw [hr2] at HRu
          have hsame := HS.out rfl rfl hr hr2
          clear hr hr2
          by_cases hab : a = b
          · obtain rfl := hsame.1 hab
            subst hab
            clear hsame
            go_enter Tryd.func3, Tryd.ntmps3
            go_wp2_with (go_at_call 7; (with_reducible refine HW.out.mono ?_); rintro e w1 ⟨rfl, hb1⟩; have HB1 := Lib.hid hb1; clear hb1)
            have HD1 := Lib.hid (HDt.out _ HB1.out)
            go_wp2_with (go_at_call 8; (with_reducible refine HD1.out.mono ?_); rintro e w2 ⟨rfl, hb2⟩; have HB2 := Lib.hid (HB1.out.trans (hb2.mono HB1.out.size)); clear hb2)
            have HD2 := Lib.hid (HDu.out _ HB2.out)
            go_wp2_with (go_at_call 8; (with_reducible refine HD2.out.mono ?_); rintro e w3 ⟨rfl, hb3⟩; have HB3 := Lib.hid (HB2.out.trans (hb3.mono HB2.out.size)); clear hb3)
            have HR3 := Lib.hid (HRt.out _ HB3.out)
            go_wp2_with (go_at_call 9; (with_reducible refine HR3.out.mono ?_); rintro e w4 ⟨rfl, hb4⟩; have HB4 := Lib.hid (HB3.out.trans (hb4.mono HB3.out.size)); clear hb4)
            have HR4 := Lib.hid (HRu.out _ HB4.out)
            go_wp2_with (go_at_call 9; (with_reducible refine HR4.out.mono ?_); rintro e w5 ⟨rfl, hb5⟩; have HB5 := Lib.hid (HB4.out.trans (hb5.mono HB4.out.size)); clear hb5)
            go_ret
            exact ⟨rfl, HB5.out⟩
          · have n1 : (a.toList == b.toList) = false := by rw [str_eqb, decide_eq_false hab]
            have n2 : (t.toList == u.toList) = false := by rw [str_eqb, decide_eq_false (fun e => hab (hsame.2 e))]
            clear hsame hab
            go_enter Tryd.func3, Tryd.ntmps3
            go_wp2_with (go_at_call 7; (with_reducible refine HW.out.mono ?_); rintro e w1 ⟨rfl, hb1⟩; have HB1 := Lib.hid hb1; clear hb1)
            have HD1 := Lib.hid (HDt.out _ HB1.out)
            go_wp2_with (go_at_call 8; (with_reducible refine HD1.out.mono ?_); rintro e w2 ⟨rfl, hb2⟩; have HB2 := Lib.hid (HB1.out.trans (hb2.mono HB1.out.size)); clear hb2)
            have HD2 := Lib.hid (HDu.out _ HB2.out)
            go_wp2_with (go_at_call 8; (with_reducible refine HD2.out.mono ?_); rintro e w3 ⟨rfl, hb3⟩; have HB3 := Lib.hid (HB2.out.trans (hb3.mono HB2.out.size)); clear hb3)
            have HR3 := Lib.hid (HRt.out _ HB3.out)
            go_wp2_with (go_at_call 9; (with_reducible refine HR3.out.mono ?_); rintro e w4 ⟨rfl, hb4⟩; have HB4 := Lib.hid (HB3.out.trans (hb4.mono HB3.out.size)); clear hb4)
            have HR4 := Lib.hid (HRu.out _ HB4.out)
            go_wp2_with (go_at_call 9; (with_reducible refine HR4.out.mono ?_); rintro e w5 ⟨rfl, hb5⟩; have HB5 := Lib.hid (HB4.out.trans (hb5.mono HB4.out.size)); clear hb5)
            go_ret
            exact ⟨rfl, HB5.out⟩
    · obtain ⟨a1, a2, a3⟩ := em a ha
      clear em ha
      go_enter Tryd.func3, Tryd.ntmps3
      go_wp2_with (go_at_call 7; (with_reducible refine HW.out.mono ?_); rintro e w1 ⟨rfl, hb1⟩; have HB1 := Lib.hid hb1; clear hb1)
      have HD1 := Lib.hid (HDt.out _ HB1.out)
      go_wp2_with (go_at_call 8; (with_reducible refine HD1.out.mono ?_); rintro e w2 ⟨rfl, hb2⟩; have HB2 := Lib.hid (HB1.out.trans (hb2.mono HB1.out.size)); clear hb2)
      have HD2 := Lib.hid (HDu.out _ HB2.out)
      go_wp2_with (go_at_call 8; (with_reducible refine HD2.out.mono ?_); rintro e w3 ⟨rfl, hb3⟩; have HB3 := Lib.hid (HB2.out.trans (hb3.mono HB2.out.size)); clear hb3)
      go_ret
      exact ⟨rfl, HB3.out⟩
  · rcases hq with ⟨rfl, hb⟩ | ⟨rfl, rfl⟩
    · obtain ⟨a1, a2, a3⟩ := em b hb
      clear em hb
      go_enter Tryd.func3, Tryd.ntmps3
      go_wp2_with (go_at_call 7; (with_reducible refine HW.out.mono ?_); rintro e w1 ⟨rfl, hb1⟩; have HB1 := Lib.hid hb1; clear hb1)
      have HD1 := Lib.hid (HDt.out _ HB1.out)
      go_wp2_with (go_at_call 8; (with_reducible refine HD1.out.mono ?_); rintro e w2 ⟨rfl, hb2⟩; have HB2 := Lib.hid (HB1.out.trans (hb2.mono HB1.out.size)); clear hb2)
      have HD2 := Lib.hid (HDu.out _ HB2.out)
      go_wp2_with (go_at_call 8; (with_reducible refine HD2.out.mono ?_); rintro e w3 ⟨rfl, hb3⟩; have HB3 := Lib.hid (HB2.out.trans (hb3.mono HB2.out.size)); clear hb3)
      go_ret
      exact ⟨rfl, HB3.out⟩
    · clear em
      go_enter Tryd.func3, Tryd.ntmps3
      go_wp2_with (go_at_call 7; (with_reducible refine HW.out.mono ?_); rintro e w1 ⟨rfl, hb1⟩; have HB1 := Lib.hid hb1; clear hb1)
      have HD1 := Lib.hid (HDt.out _ HB1.out)
      go_wp2_with (go_at_call 8; (with_reducible refine HD1.out.mono ?_); rintro e w2 ⟨rfl, hb2⟩; have HB2 := Lib.hid (HB1.out.trans (hb2.mono HB1.out.size)); clear hb2)
      have HD2 := Lib.hid (HDu.out _ HB2.out)
      go_wp2_with (go_at_call 8; (with_reducible refine HD2.out.mono ?_); rintro e w3 ⟨rfl, hb3⟩; have HB3 := Lib.hid (HB2.out.trans (hb3.mono HB2.out.size)); clear hb3)
      go_ret
      exact ⟨rfl, HB3.out⟩
end Go.Proofs.YtmmjmppfmjejkaaDoor
