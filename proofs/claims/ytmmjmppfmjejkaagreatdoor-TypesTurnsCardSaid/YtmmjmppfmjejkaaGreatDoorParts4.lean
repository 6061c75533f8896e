/- Common: the program. -/
import Derived.Test.YtmmjmppfmjejkaaGreatDoorParts3
namespace Go.Proofs.YtmmjmppfmjejkaaGreatDoor
open Go.RowKit

theorem common_no1 {a b : Option Ty} (h : a = none ∨ b = none) : commonV a b = .tuple #[.string ⟨#[]⟩, .int .i64 2] := by
  rcases h with rfl | rfl
  · rfl
  · cases a <;> rfl
theorem common_no2 {t u : Ty} (h : isIntT t = false ∨ isIntT u = false) : commonV (some t) (some u) = .tuple #[.string ⟨#[]⟩, .int .i64 5] := by
  rcases h with h | h <;> simp [commonV, h]
theorem common_u {t u : Ty} (h1 : isIntT t = true) (h2 : isIntT u = true) (h : isC 117 t = true ∨ isC 117 u = true) : commonV (some t) (some u) = .tuple #[.string (tyB (.base 117)), .int .i64 0] := by
  rcases h with h | h <;> simp [commonV, h1, h2, h]
theorem common_i {t u : Ty} (h1 : isIntT t = true) (h2 : isIntT u = true) (h3 : isC 117 t = false) (h4 : isC 117 u = false) : commonV (some t) (some u) = .tuple #[.string (tyB (.base 105)), .int .i64 0] := by
  simp [commonV, h1, h2, h3, h4]

set_option maxHeartbeats 2000000 in
theorem common_ok (a b : ByteArray) (w : World) (hE : TE w) : Calls Tryz.prog 19 #[.string a, .string b] w fun e w' => e = .returned (commonV (tyS a) (tyS b)) ∧ Below w.heap.size w w' := by
  have HE := Lib.hid hE
  rcases ha : tyS a with _ | t
  · have HF := Lib.hid (form_is false a w hE (by rw [ha]; rfl))
    have hfin := Lib.hid (common_no1 (a := none) (b := tyS b) (.inl rfl))
    clear ha hE
    go_enter Tryz.func19, Tryz.ntmps19
    go_wp2_with (go_at_call 9; (with_reducible refine HF.out.mono ?_); rintro e w1 ⟨rfl, hb1⟩)
    go_ret2
    exact ⟨tup_eq hfin.out.symm, hb1⟩
  · have HF := Lib.hid (form_is true a w hE (by rw [ha]; rfl))
    rcases hb : tyS b with _ | u
    · have HG := Lib.hid (fun w hE => form_is false b w hE (by rw [hb]; rfl))
      have hfin := Lib.hid (common_no1 (a := some t) (b := none) (.inr rfl))
      clear ha hb hE
      go_enter Tryz.func19, Tryz.ntmps19
      go_wp2_with (go_at_call 9; (with_reducible refine HF.out.mono ?_))
      rintro e w1 ⟨rfl, hb1⟩
      go_wp2_with (go_at_call 9; (with_reducible refine (HG.out _ (HE.out.below hb1)).mono ?_))
      rintro e w2 ⟨rfl, hb2⟩
      go_wp2_with fail
      go_ret2
      exact ⟨tup_eq hfin.out.symm, hb1.trans (hb2.mono hb1.size)⟩
    · have HG := Lib.hid (fun w hE => form_is true b w hE (by rw [hb]; rfl))
      have ia : isIntS a = isIntT t := by unfold isIntS; rw [ha]; rfl
      have ib : isIntS b = isIntT u := by unfold isIntS; rw [hb]; rfl
      obtain ⟨ea, ra, _⟩ := tyS_some.1 ha
      obtain ⟨eb, rb, _⟩ := tyS_some.1 hb
      have ua : (a.toList == [117]) = isC 117 t := by rw [ea]; exact one_is ra 117
      have ub : (b.toList == [117]) = isC 117 u := by rw [eb]; exact one_is rb 117
      rcases h1 : isIntT t with _ | _
      · have HI := Lib.hid (ia.trans h1)
        have hfin := Lib.hid (common_no2 (t := t) (u := u) (.inl h1))
        clear ha hb hE ia ib ea eb ra rb ua ub h1
        go_enter Tryz.func19, Tryz.ntmps19
        go_wp2_with (go_at_call 9; (with_reducible refine HF.out.mono ?_))
        rintro e w1 ⟨rfl, hb1⟩
        go_wp2_with (go_at_call 9; (with_reducible refine (HG.out _ (HE.out.below hb1)).mono ?_))
        rintro e w2 ⟨rfl, hb2⟩
        go_wp2_with (go_at_call 23; (with_reducible refine (isInt_is _ a _ HI.out).mono ?_); rintro e w3 ⟨rfl, rfl⟩)
        go_ret2
        exact ⟨tup_eq hfin.out.symm, hb1.trans (hb2.mono hb1.size)⟩
      · have HI := Lib.hid (ia.trans h1)
        rcases h2 : isIntT u with _ | _
        · have HJ := Lib.hid (ib.trans h2)
          have hfin := Lib.hid (common_no2 (t := t) (u := u) (.inr h2))
          clear ha hb hE ia ib ea eb ra rb ua ub h1 h2
          go_enter Tryz.func19, Tryz.ntmps19
          go_wp2_with (go_at_call 9; (with_reducible refine HF.out.mono ?_))
          rintro e w1 ⟨rfl, hb1⟩
          go_wp2_with (go_at_call 9; (with_reducible refine (HG.out _ (HE.out.below hb1)).mono ?_))
          rintro e w2 ⟨rfl, hb2⟩
          go_wp2_with (go_at_call 23; (with_reducible refine (isInt_is _ a _ HI.out).mono ?_))
          rintro e w3 ⟨rfl, rfl⟩
          go_wp2_with (go_at_call 23; (with_reducible refine (isInt_is _ b _ HJ.out).mono ?_); rintro e w3 ⟨rfl, rfl⟩)
          go_ret2
          exact ⟨tup_eq hfin.out.symm, hb1.trans (hb2.mono hb1.size)⟩
        · have HJ := Lib.hid (ib.trans h2)
          rcases h3 : isC 117 t with _ | _
          · rcases h4 : isC 117 u with _ | _
            · have hfin := Lib.hid (common_i h1 h2 h3 h4)
              rw [h3] at ua; rw [h4] at ub
              clear ha hb hE ia ib ea eb ra rb h1 h2 h3 h4
              go_enter Tryz.func19, Tryz.ntmps19
              go_wp2_with (go_at_call 9; (with_reducible refine HF.out.mono ?_))
              rintro e w1 ⟨rfl, hb1⟩
              go_wp2_with (go_at_call 9; (with_reducible refine (HG.out _ (HE.out.below hb1)).mono ?_))
              rintro e w2 ⟨rfl, hb2⟩
              go_wp2_with (go_at_call 23; (with_reducible refine (isInt_is _ a _ HI.out).mono ?_))
              rintro e w3 ⟨rfl, rfl⟩
              go_wp2_with (go_at_call 23; (with_reducible refine (isInt_is _ b _ HJ.out).mono ?_); rintro e w3 ⟨rfl, rfl⟩)
              go_ret2
              exact ⟨tup_eq hfin.out.symm, hb1.trans (hb2.mono hb1.size)⟩
            · have hfin := Lib.hid (common_u h1 h2 (.inr h4))
              rw [h3] at ua; rw [h4] at ub
              clear ha hb hE ia ib ea eb ra rb h1 h2 h3 h4
              go_enter Tryz.func19, Tryz.ntmps19
              go_wp2_with (go_at_call 9; (with_reducible refine HF.out.mono ?_))
              rintro e w1 ⟨rfl, hb1⟩
              go_wp2_with (go_at_call 9; (with_reducible refine (HG.out _ (HE.out.below hb1)).mono ?_))
              rintro e w2 ⟨rfl, hb2⟩
              go_wp2_with (go_at_call 23; (with_reducible refine (isInt_is _ a _ HI.out).mono ?_))
              rintro e w3 ⟨rfl, rfl⟩
              go_wp2_with (go_at_call 23; (with_reducible refine (isInt_is _ b _ HJ.out).mono ?_); rintro e w3 ⟨rfl, rfl⟩)
              go_ret2
              exact ⟨tup_eq hfin.out.symm, hb1.trans (hb2.mono hb1.size)⟩
          · have hfin := Lib.hid (common_u h1 h2 (.inl h3))
            rw [h3] at ua
            clear ha hb hE ia ib ea eb ra rb ub h1 h2 h3
            go_enter Tryz.func19, Tryz.ntmps19
            go_wp2_with (go_at_call 9; (with_reducible refine HF.out.mono ?_))
            rintro e w1 ⟨rfl, hb1⟩
            go_wp2_with (go_at_call 9; (with_reducible refine (HG.out _ (HE.out.below hb1)).mono ?_))
            rintro e w2 ⟨rfl, hb2⟩
            go_wp2_with (go_at_call 23; (with_reducible refine (isInt_is _ a _ HI.out).mono ?_))
            rintro e w3 ⟨rfl, rfl⟩
            go_wp2_with (go_at_call 23; (with_reducible refine (isInt_is _ b _ HJ.out).mono ?_); rintro e w3 ⟨rfl, rfl⟩)
            go_ret2
            exact ⟨tup_eq hfin.out.symm, hb1.trans (hb2.mono hb1.size)⟩

end Go.Proofs.YtmmjmppfmjejkaaGreatDoor
