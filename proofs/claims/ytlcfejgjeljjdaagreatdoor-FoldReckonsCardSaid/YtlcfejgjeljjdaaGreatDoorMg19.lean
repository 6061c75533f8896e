/- The reference's IsInt, Promote, Common (written by a program out of the program's own walks: the texts are alike). · The reference: a struct's place; are the structs given; up to a multiple. · Lists of structs, and of members, as rows that a call made itself; an append as one step of a region that draws. -/
import Derived.Test.YtlcfejgjeljjdaaGreatDoorMg18
import Derived.Test.YtlcfejgjeljjdaaGreatDoorMg8
import Derived.Test.YtlcfejgjeljjdaaGreatDoorMg16
namespace Go.Proofs.YtlcfejgjeljjdaaGreatDoor
open Go.RowKit

theorem refIsInt_ok (s : ByteArray) (w : World) : Calls Tryz.prog 33 #[.string s] w fun e w' => e = .returned (.bool (isIntS s)) ∧ w' = w := by
  by_cases h1 : s = ⟨#[99]⟩
  · have hfin := Lib.hid (show isIntS s = true by rw [h1, isIntS, tyS_base (by decide)]; rfl)
    have t1 : (s.toList == [99]) = true := by rw [str_one]; simpa using h1
    clear h1
    go_enter Tryz.func33, Tryz.ntmps33
    go_wp2_with fail
    go_ret
    exact ⟨by rw [hfin.out]; rfl, rfl⟩
  · have t1 : (s.toList == [99]) = false := by rw [str_one]; simpa using h1
    by_cases h2 : s = ⟨#[115]⟩
    · have hfin := Lib.hid (show isIntS s = true by rw [h2, isIntS, tyS_base (by decide)]; rfl)
      have t2 : (s.toList == [115]) = true := by rw [str_one]; simpa using h2
      clear h1 h2
      go_enter Tryz.func33, Tryz.ntmps33
      go_wp2_with fail
      go_ret
      exact ⟨by rw [hfin.out]; rfl, rfl⟩
    · have t2 : (s.toList == [115]) = false := by rw [str_one]; simpa using h2
      by_cases h3 : s = ⟨#[105]⟩
      · have hfin := Lib.hid (show isIntS s = true by rw [h3, isIntS, tyS_base (by decide)]; rfl)
        have t3 : (s.toList == [105]) = true := by rw [str_one]; simpa using h3
        clear h1 h2 h3
        go_enter Tryz.func33, Tryz.ntmps33
        go_wp2_with fail
        go_ret
        exact ⟨by rw [hfin.out]; rfl, rfl⟩
      · have t3 : (s.toList == [105]) = false := by rw [str_one]; simpa using h3
        by_cases h4 : s = ⟨#[117]⟩
        · have hfin := Lib.hid (show isIntS s = true by rw [h4, isIntS, tyS_base (by decide)]; rfl)
          have t4 : (s.toList == [117]) = true := by rw [str_one]; simpa using h4
          clear h1 h2 h3 h4
          go_enter Tryz.func33, Tryz.ntmps33
          go_wp2_with fail
          go_ret
          exact ⟨by rw [hfin.out]; rfl, rfl⟩
        · have t4 : (s.toList == [117]) = false := by rw [str_one]; simpa using h4
          have hfin := Lib.hid (isIntS_not h1 h2 h3 h4)
          clear h1 h2 h3 h4
          go_enter Tryz.func33, Tryz.ntmps33
          go_wp2_with fail
          go_ret
          exact ⟨by rw [hfin.out]; rfl, rfl⟩
theorem refIsInt_is (r : Bool) (s : ByteArray) (w : World) (hr : isIntS s = r) : Calls Tryz.prog 33 #[.string s] w fun e w' => e = .returned (.bool r) ∧ w' = w := by subst hr; exact refIsInt_ok s w

set_option maxHeartbeats 1000000 in
theorem refPromote_ok (s : ByteArray) (w : World) : Calls Tryz.prog 36 #[.string s] w fun e w' => e = .returned (promoteV s (tyS s)) ∧ Below w.heap.size w w' := by
  rcases h : tyS s with _ | t
  · have HF := Lib.hid (refForm_is false s w (by rw [h]; rfl))
    clear h
    go_enter Tryz.func36, Tryz.ntmps36
    go_wp2_with (go_at_call 67; (with_reducible refine HF.out.mono ?_); rintro e w1 ⟨rfl, hb1⟩)
    go_ret2
    exact ⟨rfl, hb1⟩
  · obtain ⟨rfl, hr, _⟩ := tyS_some.1 h
    have HF := Lib.hid (refForm_is true (tyB t) w (by rw [h]; rfl))
    have h99 := one_is hr 99
    have h115 := one_is hr 115
    generalize hs : tyB t = s at *
    rcases h1 : isC 99 t with _ | _
    · rcases h2 : isC 115 t with _ | _
      · have hfin := Lib.hid (show promoteV s (some t) = .tuple #[.string s, .int .i64 0] by simp [promoteV, h1, h2])
        rw [h1] at h99; rw [h2] at h115
        clear h hr hs h1 h2
        go_enter Tryz.func36, Tryz.ntmps36
        go_wp2_with (go_at_call 67; (with_reducible refine HF.out.mono ?_); rintro e w1 ⟨rfl, hb1⟩)
        go_ret2
        exact ⟨tup_eq hfin.out.symm, hb1⟩
      · have hfin := Lib.hid (show promoteV s (some t) = .tuple #[.string (tyB (.base 105)), .int .i64 0] by simp [promoteV, h1, h2])
        rw [h1] at h99; rw [h2] at h115
        clear h hr hs h1 h2
        go_enter Tryz.func36, Tryz.ntmps36
        go_wp2_with (go_at_call 67; (with_reducible refine HF.out.mono ?_); rintro e w1 ⟨rfl, hb1⟩)
        go_ret2
        exact ⟨tup_eq hfin.out.symm, hb1⟩
    · have hfin := Lib.hid (show promoteV s (some t) = .tuple #[.string (tyB (.base 105)), .int .i64 0] by simp [promoteV, h1])
      rw [h1] at h99
      clear h hr hs h1 h115
      go_enter Tryz.func36, Tryz.ntmps36
      go_wp2_with (go_at_call 67; (with_reducible refine HF.out.mono ?_); rintro e w1 ⟨rfl, hb1⟩)
      go_ret2
      exact ⟨tup_eq hfin.out.symm, hb1⟩
set_option maxHeartbeats 2000000 in
theorem refCommon_ok (a b : ByteArray) (w : World) : Calls Tryz.prog 35 #[.string a, .string b] w fun e w' => e = .returned (commonV (tyS a) (tyS b)) ∧ Below w.heap.size w w' := by
  rcases ha : tyS a with _ | t
  · have HF := Lib.hid (refForm_is false a w (by rw [ha]; rfl))
    have hfin := Lib.hid (common_no1 (a := none) (b := tyS b) (.inl rfl))
    clear ha
    go_enter Tryz.func35, Tryz.ntmps35
    go_wp2_with (go_at_call 67; (with_reducible refine HF.out.mono ?_); rintro e w1 ⟨rfl, hb1⟩)
    go_ret2
    exact ⟨tup_eq hfin.out.symm, hb1⟩
  · have HF := Lib.hid (refForm_is true a w (by rw [ha]; rfl))
    rcases hb : tyS b with _ | u
    · have HG := Lib.hid (fun w => refForm_is false b w (by rw [hb]; rfl))
      have hfin := Lib.hid (common_no1 (a := some t) (b := none) (.inr rfl))
      clear ha hb
      go_enter Tryz.func35, Tryz.ntmps35
      go_wp2_with (go_at_call 67; (with_reducible refine HF.out.mono ?_))
      rintro e w1 ⟨rfl, hb1⟩
      go_wp2_with (go_at_call 67; (with_reducible refine (HG.out _).mono ?_))
      rintro e w2 ⟨rfl, hb2⟩
      go_wp2_with fail
      go_ret2
      exact ⟨tup_eq hfin.out.symm, hb1.trans (hb2.mono hb1.size)⟩
    · have HG := Lib.hid (fun w => refForm_is true b w (by rw [hb]; rfl))
      have ia : isIntS a = isIntT t := by unfold isIntS; rw [ha]; rfl
      have ib : isIntS b = isIntT u := by unfold isIntS; rw [hb]; rfl
      obtain ⟨ea, ra, _⟩ := tyS_some.1 ha
      obtain ⟨eb, rb, _⟩ := tyS_some.1 hb
      have ua : (a.toList == [117]) = isC 117 t := by rw [ea]; exact one_is ra 117
      have ub : (b.toList == [117]) = isC 117 u := by rw [eb]; exact one_is rb 117
      rcases h1 : isIntT t with _ | _
      · have HI := Lib.hid (ia.trans h1)
        have hfin := Lib.hid (common_no2 (t := t) (u := u) (.inl h1))
        clear ha hb ia ib ea eb ra rb ua ub h1
        go_enter Tryz.func35, Tryz.ntmps35
        go_wp2_with (go_at_call 67; (with_reducible refine HF.out.mono ?_))
        rintro e w1 ⟨rfl, hb1⟩
        go_wp2_with (go_at_call 67; (with_reducible refine (HG.out _).mono ?_))
        rintro e w2 ⟨rfl, hb2⟩
        go_wp2_with (go_at_call 33; (with_reducible refine (refIsInt_is _ a _ HI.out).mono ?_); rintro e w3 ⟨rfl, rfl⟩)
        go_ret2
        exact ⟨tup_eq hfin.out.symm, hb1.trans (hb2.mono hb1.size)⟩
      · have HI := Lib.hid (ia.trans h1)
        rcases h2 : isIntT u with _ | _
        · have HJ := Lib.hid (ib.trans h2)
          have hfin := Lib.hid (common_no2 (t := t) (u := u) (.inr h2))
          clear ha hb ia ib ea eb ra rb ua ub h1 h2
          go_enter Tryz.func35, Tryz.ntmps35
          go_wp2_with (go_at_call 67; (with_reducible refine HF.out.mono ?_))
          rintro e w1 ⟨rfl, hb1⟩
          go_wp2_with (go_at_call 67; (with_reducible refine (HG.out _).mono ?_))
          rintro e w2 ⟨rfl, hb2⟩
          go_wp2_with (go_at_call 33; (with_reducible refine (refIsInt_is _ a _ HI.out).mono ?_))
          rintro e w3 ⟨rfl, rfl⟩
          go_wp2_with (go_at_call 33; (with_reducible refine (refIsInt_is _ b _ HJ.out).mono ?_); rintro e w3 ⟨rfl, rfl⟩)
          go_ret2
          exact ⟨tup_eq hfin.out.symm, hb1.trans (hb2.mono hb1.size)⟩
        · have HJ := Lib.hid (ib.trans h2)
          rcases h3 : isC 117 t with _ | _
          · rcases h4 : isC 117 u with _ | _
            · have hfin := Lib.hid (common_i h1 h2 h3 h4)
              rw [h3] at ua; rw [h4] at ub
              clear ha hb ia ib ea eb ra rb h1 h2 h3 h4
              go_enter Tryz.func35, Tryz.ntmps35
              go_wp2_with (go_at_call 67; (with_reducible refine HF.out.mono ?_))
              rintro e w1 ⟨rfl, hb1⟩
              go_wp2_with (go_at_call 67; (with_reducible refine (HG.out _).mono ?_))
              rintro e w2 ⟨rfl, hb2⟩
              go_wp2_with (go_at_call 33; (with_reducible refine (refIsInt_is _ a _ HI.out).mono ?_))
              rintro e w3 ⟨rfl, rfl⟩
              go_wp2_with (go_at_call 33; (with_reducible refine (refIsInt_is _ b _ HJ.out).mono ?_); rintro e w3 ⟨rfl, rfl⟩)
              go_ret2
              exact ⟨tup_eq hfin.out.symm, hb1.trans (hb2.mono hb1.size)⟩
            · have hfin := Lib.hid (common_u h1 h2 (.inr h4))
              rw [h3] at ua; rw [h4] at ub
              clear ha hb ia ib ea eb ra rb h1 h2 h3 h4
              go_enter Tryz.func35, Tryz.ntmps35
              go_wp2_with (go_at_call 67; (with_reducible refine HF.out.mono ?_))
              rintro e w1 ⟨rfl, hb1⟩
              go_wp2_with (go_at_call 67; (with_reducible refine (HG.out _).mono ?_))
              rintro e w2 ⟨rfl, hb2⟩
              go_wp2_with (go_at_call 33; (with_reducible refine (refIsInt_is _ a _ HI.out).mono ?_))
              rintro e w3 ⟨rfl, rfl⟩
              go_wp2_with (go_at_call 33; (with_reducible refine (refIsInt_is _ b _ HJ.out).mono ?_); rintro e w3 ⟨rfl, rfl⟩)
              go_ret2
              exact ⟨tup_eq hfin.out.symm, hb1.trans (hb2.mono hb1.size)⟩
          · have hfin := Lib.hid (common_u h1 h2 (.inl h3))
            rw [h3] at ua
            clear ha hb ia ib ea eb ra rb ub h1 h2 h3
            go_enter Tryz.func35, Tryz.ntmps35
            go_wp2_with (go_at_call 67; (with_reducible refine HF.out.mono ?_))
            rintro e w1 ⟨rfl, hb1⟩
            go_wp2_with (go_at_call 67; (with_reducible refine (HG.out _).mono ?_))
            rintro e w2 ⟨rfl, hb2⟩
            go_wp2_with (go_at_call 33; (with_reducible refine (refIsInt_is _ a _ HI.out).mono ?_))
            rintro e w3 ⟨rfl, rfl⟩
            go_wp2_with (go_at_call 33; (with_reducible refine (refIsInt_is _ b _ HJ.out).mono ?_); rintro e w3 ⟨rfl, rfl⟩)
            go_ret2
            exact ⟨tup_eq hfin.out.symm, hb1.trans (hb2.mono hb1.size)⟩

end Go.Proofs.YtlcfejgjeljjdaaGreatDoor
namespace Go.Proofs.YtlcfejgjeljjdaaGreatDoor
open Go.RowKit

theorem IsSrs.mono {B B' : Nat} {w : World} {a : Option Addr} {L : List Sr} {mv : List Value} (h : IsSrs B w a L mv) (hB : B ≤ B') : IsSrs B' w a L mv :=
  ⟨h.len, fun hn => (by
    obtain ⟨b, off, e, hlt, hr⟩ := h.at_ hn
    exact ⟨b, off, e, Nat.lt_of_lt_of_le hlt hB, fun i x v hi hv => (by obtain ⟨h1, h2, h3⟩ := hr i x v hi hv; exact ⟨h1, h2, h3.mono hB⟩)⟩), h.names⟩
end Go.Proofs.YtlcfejgjeljjdaaGreatDoor
namespace Go
end Go
namespace Go.Proofs.YtlcfejgjeljjdaaGreatDoor
open Go.RowKit

theorem blw1 (w : World) (o : Obj) : Below w.heap.size w (w.alloc o).drew := ((Below.refl _ _).alloc (Nat.le_refl _) _).drew
theorem blw2 (w : World) (o o2 : Obj) : Below w.heap.size w ((w.alloc o).alloc o2).drew := (((Below.refl _ _).alloc (Nat.le_refl _) _).alloc (by simp) _).drew
end Go.Proofs.YtlcfejgjeljjdaaGreatDoor
