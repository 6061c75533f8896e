/- What becomes of types: the program. -/
import Derived.Test.YtkokdafkjjcgoaaGreatDoorSplit
import Derived.Test.YtkokdafkjjcgoaaGreatDoorBase
import Derived.Test.YtkokdafkjjcgoaaGreatDoorChecked
import Derived.Test.YtkokdafkjjcgoaaGreatDoorShelf
namespace Go.Proofs.YtkokdafkjjcgoaaGreatDoor
open Go.RowKit

/-- the tables that lie under types -/
structure TE (w : World) : Prop where
  keys : KeysAt w
  maxl : MaxLenAt w
theorem TE.below {w w' : World} (h : TE w) (hb : Below w.heap.size w w') : TE w' := ⟨h.keys.below hb, h.maxl.below hb⟩
theorem TE.drewN {w : World} (h : TE w) (n : Nat) : TE (w.drewN n) := ⟨h.keys.drewN n, h.maxl.drewN n⟩
theorem TE.lt {w : World} (h : TE w) : 1 < w.heap.size := World.block_lt_of_cell? w _ (h.keys 0 (by decide))

theorem tyS_some {s : ByteArray} {t : Ty} : tyS s = some t ↔ s = tyB t ∧ Right t ∧ (code t).length ≤ 65536 := by
  unfold tyS
  have hl : s.data.toList.length = s.size := by rw [Array.length_toList]; rfl
  constructor
  · intro h
    split at h
    · obtain ⟨h1, h2⟩ := tyE_some.1 h
      exact ⟨tyB_eq h1, h2, by rw [← h1, hl]; assumption⟩
    · cases h
  · rintro ⟨rfl, h2, h3⟩
    rw [if_pos (by rw [tyB_size]; exact h3)]
    exact tyE_some.2 ⟨tyB_list t, h2⟩
theorem form_is (r : Bool) (s : ByteArray) (w : World) (hE : TE w) (hr : (tyS s).isSome = r) : Calls Tryz.prog 149 #[.string s] w fun e w' => e = .returned (.bool r) ∧ Below w.heap.size w w' := by
  subst hr; exact form_ok s w hE.keys hE.lt
theorem str_one (s : ByteArray) (c : UInt8) : (s.toList == [c]) = decide (s = ⟨#[c]⟩) := by
  rw [Bool.eq_iff_iff, beq_iff_eq, decide_eq_true_iff, Lib.toList_data]
  exact ⟨fun h => toList_eq (by rw [h]), fun h => by rw [h]⟩
theorem one_base {t : Ty} (h : Right t) (c : UInt8) : (tyB t = ⟨#[c]⟩) ↔ t = .base c := by
  constructor
  · intro e
    have e2 : code t = [c] := by rw [← tyB_list, e]
    cases t with
    | base d => simp [code] at e2; rw [e2]
    | ptr u => rw [code] at e2; have := code_pos (t := u) h; simp at e2; rw [e2.2] at this; simp at this
    | arr n u => rw [code] at e2; simp at e2
    | str s => rw [code] at e2; simp at e2
    | fn ps r => rw [code] at e2; simp at e2
  · rintro rfl; rfl

/-- an integer's type -/
def isIntS (s : ByteArray) : Bool := (tyS s).any isIntT
theorem isIntS_not {s : ByteArray} (h1 : s ≠ ⟨#[99]⟩) (h2 : s ≠ ⟨#[115]⟩) (h3 : s ≠ ⟨#[105]⟩) (h4 : s ≠ ⟨#[117]⟩) : isIntS s = false := by
  unfold isIntS
  rcases h : tyS s with _ | t
  · rfl
  · obtain ⟨rfl, hr, _⟩ := tyS_some.1 h
    cases t with
    | base c =>
      simp only [Option.any_some, isIntT, decide_eq_false_iff_not]
      rintro (rfl | rfl | rfl | rfl)
      · exact h1 rfl
      · exact h2 rfl
      · exact h3 rfl
      · exact h4 rfl
    | _ => rfl
theorem tyS_base {c : UInt8} (h : isBase c = true) : tyS ⟨#[c]⟩ = some (.base c) := tyS_some.2 ⟨rfl, h, by simp [code]⟩
theorem isInt_ok (s : ByteArray) (w : World) : Calls Tryz.prog 250 #[.string s] w fun e w' => e = .returned (.bool (isIntS s)) ∧ w' = w := by
  by_cases h1 : s = ⟨#[99]⟩
  · have hfin := Lib.hid (show isIntS s = true by rw [h1, isIntS, tyS_base (by decide)]; rfl)
    have t1 : (s.toList == [99]) = true := by rw [str_one]; simpa using h1
    clear h1
    go_enter Tryz.func250, Tryz.ntmps250
    go_wp2_with fail
    go_ret
    exact ⟨by rw [hfin.out]; rfl, rfl⟩
  · have t1 : (s.toList == [99]) = false := by rw [str_one]; simpa using h1
    by_cases h2 : s = ⟨#[115]⟩
    · have hfin := Lib.hid (show isIntS s = true by rw [h2, isIntS, tyS_base (by decide)]; rfl)
      have t2 : (s.toList == [115]) = true := by rw [str_one]; simpa using h2
      clear h1 h2
      go_enter Tryz.func250, Tryz.ntmps250
      go_wp2_with fail
      go_ret
      exact ⟨by rw [hfin.out]; rfl, rfl⟩
    · have t2 : (s.toList == [115]) = false := by rw [str_one]; simpa using h2
      by_cases h3 : s = ⟨#[105]⟩
      · have hfin := Lib.hid (show isIntS s = true by rw [h3, isIntS, tyS_base (by decide)]; rfl)
        have t3 : (s.toList == [105]) = true := by rw [str_one]; simpa using h3
        clear h1 h2 h3
        go_enter Tryz.func250, Tryz.ntmps250
        go_wp2_with fail
        go_ret
        exact ⟨by rw [hfin.out]; rfl, rfl⟩
      · have t3 : (s.toList == [105]) = false := by rw [str_one]; simpa using h3
        by_cases h4 : s = ⟨#[117]⟩
        · have hfin := Lib.hid (show isIntS s = true by rw [h4, isIntS, tyS_base (by decide)]; rfl)
          have t4 : (s.toList == [117]) = true := by rw [str_one]; simpa using h4
          clear h1 h2 h3 h4
          go_enter Tryz.func250, Tryz.ntmps250
          go_wp2_with fail
          go_ret
          exact ⟨by rw [hfin.out]; rfl, rfl⟩
        · have t4 : (s.toList == [117]) = false := by rw [str_one]; simpa using h4
          have hfin := Lib.hid (isIntS_not h1 h2 h3 h4)
          clear h1 h2 h3 h4
          go_enter Tryz.func250, Tryz.ntmps250
          go_wp2_with fail
          go_ret
          exact ⟨by rw [hfin.out]; rfl, rfl⟩
theorem isInt_is (r : Bool) (s : ByteArray) (w : World) (hr : isIntS s = r) : Calls Tryz.prog 250 #[.string s] w fun e w' => e = .returned (.bool r) ∧ w' = w := by subst hr; exact isInt_ok s w

/-- a scalar's type -/
def isScalS (s : ByteArray) : Bool := (tyS s).any isScalarT
theorem isScal_int {s : ByteArray} (h : isIntS s = true) : isScalS s = true := by
  unfold isIntS at h; unfold isScalS
  rcases hs : tyS s with _ | t
  · rw [hs] at h; cases h
  · rw [hs] at h; simp only [Option.any_some] at h ⊢; simp [isScalarT, h]
theorem isScal_ptr {s : ByteArray} (hi : isIntS s = false) (hk : 0 < s.size) (hc : s[0] = 112) : isScalS s = (tyS s).isSome := by
  unfold isScalS
  rcases hs : tyS s with _ | t
  · rfl
  · obtain ⟨rfl, hr, _⟩ := tyS_some.1 hs
    cases t with
    | ptr u => rfl
    | base c =>
      obtain ⟨_, h2⟩ := tyB_get (t := .base c) (c := c) (l := []) rfl
      rw [h2] at hc
      rw [hc] at hr
      exact absurd hr (by show ¬ isBase 112 = true; decide)
    | arr n u => obtain ⟨_, h2⟩ := tyB_get (t := .arr n u) rfl; rw [h2] at hc; exact absurd hc (by decide)
    | str n => obtain ⟨_, h2⟩ := tyB_get (t := .str n) rfl; rw [h2] at hc; exact absurd hc (by decide)
    | fn ps r => obtain ⟨_, h2⟩ := tyB_get (t := .fn ps r) rfl; rw [h2] at hc; exact absurd hc (by decide)
theorem isScal_no {s : ByteArray} (hi : isIntS s = false) (hc : ∀ h : 0 < s.size, s[0] ≠ 112) : isScalS s = false := by
  unfold isScalS
  unfold isIntS at hi
  rcases hs : tyS s with _ | t
  · rfl
  · obtain ⟨rfl, hr, _⟩ := tyS_some.1 hs
    rw [hs] at hi
    simp only [Option.any_some] at hi ⊢
    cases t with
    | ptr u => obtain ⟨h1, h2⟩ := tyB_get (t := .ptr u) rfl; exact absurd h2 (hc h1)
    | _ => simp [isScalarT, hi, isPtrT]

set_option maxHeartbeats 1000000 in
theorem isScalar_ok (s : ByteArray) (w : World) (hE : TE w) : Calls Tryz.prog 234 #[.string s] w fun e w' => e = .returned (.bool (isScalS s)) ∧ Below w.heap.size w w' := by
  have HE := Lib.hid hE
  clear hE
  rcases hi : isIntS s with _ | _
  · have HI := Lib.hid hi
    by_cases h0 : 0 < s.size
    · by_cases hc : s[0] = 112
      · have HF := Lib.hid (isScal_ptr hi h0 hc)
        have t0 : decide (0 < s.size) = true := by simpa using h0
        have t1 : ((s[0].toNat : Int) == 112) = true := by rw [hc]; rfl
        rcases hf : (tyS s).isSome with _ | _
        all_goals
          have HFm := Lib.hid (form_is _ s w HE.out hf)
          have hfin := Lib.hid (HF.out.trans hf)
          clear hi hc hf
          go_enter Tryz.func234, Tryz.ntmps234
          go_wp2_with (first | (go_at_call 250; (with_reducible refine (isInt_is _ s _ HI.out).mono ?_); rintro e w1 ⟨rfl, rfl⟩) | (go_at_call 149; (with_reducible refine HFm.out.mono ?_); rintro e w1 ⟨rfl, hb1⟩))
          go_ret
          exact ⟨by rw [hfin.out]; rfl, hb1⟩
      · have hfin := Lib.hid (isScal_no hi (fun _ => hc))
        have t0 : decide (0 < s.size) = true := by simpa using h0
        have t1 : ((s[0].toNat : Int) == 112) = false := by
          rw [beq_eq_false_iff_ne]; intro e
          exact hc (UInt8.toNat_inj.1 (by have : s[0].toNat = 112 := by omega
                                          simpa using this))
        clear hi hc
        go_enter Tryz.func234, Tryz.ntmps234
        go_wp2_with (first | (go_at_call 250; (with_reducible refine (isInt_is _ s _ HI.out).mono ?_); rintro e w1 ⟨rfl, rfl⟩))
        go_ret
        exact ⟨by rw [hfin.out]; rfl, Below.refl _ _⟩
    · have hfin := Lib.hid (isScal_no hi (fun h => absurd h h0))
      have t0 : decide (0 < s.size) = false := by simpa using h0
      clear hi
      go_enter Tryz.func234, Tryz.ntmps234
      go_wp2_with (first | (go_at_call 250; (with_reducible refine (isInt_is _ s _ HI.out).mono ?_); rintro e w1 ⟨rfl, rfl⟩))
      go_ret
      exact ⟨by rw [hfin.out]; rfl, Below.refl _ _⟩
  · have HI := Lib.hid hi
    have hfin := Lib.hid (isScal_int hi)
    clear hi
    go_enter Tryz.func234, Tryz.ntmps234
    go_wp2_with (first | (go_at_call 250; (with_reducible refine (isInt_is _ s _ HI.out).mono ?_); rintro e w1 ⟨rfl, rfl⟩))
    go_ret
    exact ⟨by rw [hfin.out]; rfl, Below.refl _ _⟩

end Go.Proofs.YtkokdafkjjcgoaaGreatDoor

