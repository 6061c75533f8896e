/- Sums and products of numbers turn about; a difference is laid on again; quotient and rest make the number: the law. (Printed by wip/fold/gen-turn.py.) -/
import Derived.Test.YtlcfejgjeljjdaaDoorMg24
import Derived.Test.YtlcfejgjeljjdaaDoorFoldTP
namespace Go.Proofs.YtlcfejgjeljjdaaDoor
open Go.RowKit

theorem turn_cell {w : World} {b : Nat} {T : TypeId} (h : w.heap[b]? = some (.cells #[.string ⟨#[43]⟩, .string ⟨#[42]⟩, .string ⟨#[38]⟩, .string ⟨#[124]⟩, .string ⟨#[94]⟩, .string ⟨#[61, 61]⟩, .string ⟨#[33, 61]⟩, .string ⟨#[38, 38]⟩, .string ⟨#[124, 124]⟩] T (0, 0))) (i : Nat) (hi : i < turnMarks.length) : w.cell? ⟨b, i, none⟩ = some (.string turnMarks[i]) := by
  have h9 : turnMarks.length = 9 := rfl
  rcases i with _ | _ | _ | _ | _ | _ | _ | _ | _ | i
  all_goals first | (simp [World.cell?, h]; rfl) | (exfalso; omega)
set_option maxRecDepth 100000 in
set_option maxHeartbeats 8000000 in
theorem turn_walk (a b : Int) (x y c : ByteArray) (A d k z : Int) (w : World) (hE : TE w) (hx : IntT x) (hy : IntT y) (hF : TurnF a b x y c A d k z) :
    Calls Tryd.prog 3 #[.int .i64 a, .string x, .int .i64 b, .string y] w fun e w' => e = .returned (.bool true) ∧ Below w.heap.size w w' := by
  have HE := Lib.hid hE
  have HW := Lib.hid (works12_ok w hE)
  have HI1 := Lib.hid (fun w => (isIntS_of hx) ▸ isInt_ok x w)
  have HI2 := Lib.hid (fun w => (isIntS_of hy) ▸ isInt_ok y w)
  have HTu := Lib.hid (fun m (h : m ∈ turnMarks) => binE_turn (a := a) (b := b) hx hy h)
  have HM := Lib.hid (fun m w (hE : TE w) => ebinary_ok m a x b y w hE)
  have HM2 := Lib.hid (fun m w (hE : TE w) => ebinary_ok m b y a x w hE)
  have HSub := Lib.hid (fun w (hE : TE w) => show Calls Tryd.prog 8 #[.string ⟨#[45]⟩, .int .i64 a, .string x, .int .i64 b, .string y] w (fun e w' => e = .returned (.tuple #[.int .i64 d, .string c, .int .i64 0]) ∧ Below w.heap.size w w') from by have := ebinary_ok mSub a x b y w hE; rw [hF.sub] at this; exact this)
  have HAdd := Lib.hid (fun w (hE : TE w) => show Calls Tryd.prog 8 #[.string ⟨#[43]⟩, .int .i64 d, .string c, .int .i64 b, .string y] w (fun e w' => e = .returned (.tuple #[.int .i64 A, .string c, .int .i64 0]) ∧ Below w.heap.size w w') from by have := ebinary_ok mAdd d c b y w hE; rw [hF.add] at this; exact this)
  have HC1 := Lib.hid (fun w => show Calls Tryd.prog 9 #[.int .i64 a, .string x] w (fun e w' => e = .returned (.tuple #[.int .i64 k, .int .i64 0]) ∧ w' = w) from by have := convert_ok a x w; rw [hF.conv] at this; exact this)
  have HC2 := Lib.hid (fun w => show Calls Tryd.prog 9 #[.int .i64 k, .string c] w (fun e w' => e = .returned (.tuple #[.int .i64 A, .int .i64 0]) ∧ w' = w) from by have := convert_ok k c w; rw [hF.conv2] at this; exact this)
  have HC3 := Lib.hid (fun w => show Calls Tryd.prog 9 #[.int .i64 b, .string y] w (fun e w' => e = .returned (.tuple #[.int .i64 z, .int .i64 0]) ∧ w' = w) from by have := convert_ok b y w; rw [hF.convb] at this; exact this)
  have HF := Lib.hid hF
  unfold trip at HM HM2
  clear hE hx hy hF
  go_enter Tryd.func3, Tryd.ntmps3
  go_upto_region 6 with (first | (go_at_call 6; (with_reducible refine HW.out.mono ?_); rintro e w1 ⟨rfl, hb1⟩; have HB1 := Lib.hid hb1; clear hb1) | (go_at_call 7; (first | (with_reducible refine (HI1.out _).mono ?_) | (with_reducible refine (HI2.out _).mono ?_)); rintro e wc ⟨rfl, hwc⟩; subst wc))
  have HL := Lib.hid (turn_cell (heap_alloc_new w1 (.cells #[.string ⟨#[43]⟩, .string ⟨#[42]⟩, .string ⟨#[38]⟩, .string ⟨#[124]⟩, .string ⟨#[94]⟩, .string ⟨#[61, 61]⟩, .string ⟨#[33, 61]⟩, .string ⟨#[38, 38]⟩, .string ⟨#[124, 124]⟩] 9)))
  have HB2 := Lib.hid (HB1.out.alloc HB1.out.size (.cells #[.string ⟨#[43]⟩, .string ⟨#[42]⟩, .string ⟨#[38]⟩, .string ⟨#[124]⟩, .string ⟨#[94]⟩, .string ⟨#[61, 61]⟩, .string ⟨#[33, 61]⟩, .string ⟨#[38, 38]⟩, .string ⟨#[124, 124]⟩] 9))
  have hlt : w1.heap.size < (w1.alloc (.cells #[.string ⟨#[43]⟩, .string ⟨#[42]⟩, .string ⟨#[38]⟩, .string ⟨#[124]⟩, .string ⟨#[94]⟩, .string ⟨#[61, 61]⟩, .string ⟨#[33, 61]⟩, .string ⟨#[38, 38]⟩, .string ⟨#[124, 124]⟩] 9)).heap.size := by simp
  have HLt := Lib.hid hlt
  clear hlt
  go_upto_region 7 with fail
  generalize w1.alloc (.cells #[.string ⟨#[43]⟩, .string ⟨#[42]⟩, .string ⟨#[38]⟩, .string ⟨#[124]⟩, .string ⟨#[94]⟩, .string ⟨#[61, 61]⟩, .string ⟨#[33, 61]⟩, .string ⟨#[38, 38]⟩, .string ⟨#[124, 124]⟩] 9) = w2 at *
  have HZ := Lib.hid (Below.refl w2.heap.size w2)
  go_loopg [60] 9 (fun m v60 wy => ∃ i : Nat, i ≤ 9 ∧ m = 9 - i ∧ v60 = .int .i64 (i : Int) ∧ Hid (Below w2.heap.size w2 wy))
  case atStart => exact ⟨0, by omega, rfl, rfl, HZ⟩
  case round =>
    obtain ⟨i, hi, hm, rfl, HG⟩ := hrel
    have HT2 := Lib.hid (HE.out.below HB2.out)
    by_cases hlt : i < 9
    · have t0 : decide ((i : Int) < 9) = true := by simp; omega
      have hit : i < turnMarks.length := hlt
      have c0 := HL.out i hit
      rw [← HG.out.cell HLt.out] at c0
      obtain ⟨rn, rt, e1, e2⟩ := HTu.out turnMarks[i] (List.getElem_mem hit)
      have HB3 := Lib.hid (HM.out turnMarks[i] wr (HT2.out.below HG.out))
      have HB4 := Lib.hid (HM2.out turnMarks[i])
      rw [e1] at HB3
      rw [e2] at HB4
      clear e1 e2
      generalize turnMarks[i]'hit = mk at *
      go_wp2_with (first | (go_at_call 8; (with_reducible refine HB3.out.mono ?_); rintro e w3 ⟨rfl, hb3⟩; have HG3 := Lib.hid (HG.out.trans (hb3.mono HG.out.size)); clear hb3) | (go_at_call 8; (with_reducible refine (HB4.out _ (HT2.out.below HG3.out)).mono ?_); rintro e w4 ⟨rfl, hb4⟩; have HG4 := Lib.hid (HG3.out.trans (hb4.mono HG3.out.size)); clear hb4))
      go_roundg (9 - (i + 1))
      case measure => omega
      case rel => exact ⟨i + 1, by omega, rfl, by rw [Int.natCast_add]; rfl, HG4⟩
    · obtain rfl : i = 9 := by omega
      have HBe := Lib.hid (HB2.out.trans (HG.out.mono HB2.out.size))
      by_cases hz : z = 0
      · obtain ⟨e1, e2⟩ := HF.out.zero hz
        have HDiv := Lib.hid (fun w (hE : TE w) => show Calls Tryd.prog 8 #[.string ⟨#[47]⟩, .int .i64 a, .string x, .int .i64 b, .string y] w (fun e w' => e = .returned (.tuple #[.int .i64 0, .string ⟨#[]⟩, .int .i64 120]) ∧ Below w.heap.size w w') from by have := ebinary_ok mDiv a x b y w hE; rw [e1] at this; exact this)
        have HRem := Lib.hid (fun w (hE : TE w) => show Calls Tryd.prog 8 #[.string ⟨#[37]⟩, .int .i64 a, .string x, .int .i64 b, .string y] w (fun e w' => e = .returned (.tuple #[.int .i64 0, .string ⟨#[]⟩, .int .i64 120]) ∧ Below w.heap.size w w') from by have := ebinary_ok mRem a x b y w hE; rw [e2] at this; exact this)
        have tz : (z == 0) = true := by simpa using hz
        clear e1 e2 hz
        go_wp2_with (first | (go_at_call 8; (with_reducible refine (HSub.out _ (HE.out.below HBe.out)).mono ?_); rintro e wx1 ⟨rfl, hb⟩; have HBx1 := Lib.hid (HBe.out.trans (hb.mono HBe.out.size)); clear hb) | (go_at_call 8; (with_reducible refine (HAdd.out _ (HE.out.below HBx1.out)).mono ?_); rintro e wx2 ⟨rfl, hb⟩; have HBx2 := Lib.hid (HBx1.out.trans (hb.mono HBx1.out.size)); clear hb) | (go_at_call 8; (with_reducible refine (HDiv.out _ (HE.out.below HBx2.out)).mono ?_); rintro e wx3 ⟨rfl, hb⟩; have HBx3 := Lib.hid (HBx2.out.trans (hb.mono HBx2.out.size)); clear hb) | (go_at_call 8; (with_reducible refine (HRem.out _ (HE.out.below HBx3.out)).mono ?_); rintro e wx4 ⟨rfl, hb⟩; have HBx4 := Lib.hid (HBx3.out.trans (hb.mono HBx3.out.size)); clear hb) | (go_at_call 9; (with_reducible refine (HC1.out _).mono ?_); rintro e wc ⟨rfl, hwc⟩; subst wc) | (go_at_call 9; (with_reducible refine (HC2.out _).mono ?_); rintro e wc ⟨rfl, hwc⟩; subst wc) | (go_at_call 9; (with_reducible refine (HC3.out _).mono ?_); rintro e wc ⟨rfl, hwc⟩; subst wc))
        go_ret
        exact ⟨rfl, HBx4.out⟩
      · obtain ⟨q, r, p, e1, e2, e3, e4⟩ := HF.out.quot hz
        have HDiv := Lib.hid (fun w (hE : TE w) => show Calls Tryd.prog 8 #[.string ⟨#[47]⟩, .int .i64 a, .string x, .int .i64 b, .string y] w (fun e w' => e = .returned (.tuple #[.int .i64 q, .string c, .int .i64 0]) ∧ Below w.heap.size w w') from by have := ebinary_ok mDiv a x b y w hE; rw [e1] at this; exact this)
        have HRem := Lib.hid (fun w (hE : TE w) => show Calls Tryd.prog 8 #[.string ⟨#[37]⟩, .int .i64 a, .string x, .int .i64 b, .string y] w (fun e w' => e = .returned (.tuple #[.int .i64 r, .string c, .int .i64 0]) ∧ Below w.heap.size w w') from by have := ebinary_ok mRem a x b y w hE; rw [e2] at this; exact this)
        have HMul := Lib.hid (fun w (hE : TE w) => show Calls Tryd.prog 8 #[.string ⟨#[42]⟩, .int .i64 q, .string c, .int .i64 b, .string y] w (fun e w' => e = .returned (.tuple #[.int .i64 p, .string c, .int .i64 0]) ∧ Below w.heap.size w w') from by have := ebinary_ok mMul q c b y w hE; rw [e3] at this; exact this)
        have HAdd2 := Lib.hid (fun w (hE : TE w) => show Calls Tryd.prog 8 #[.string ⟨#[43]⟩, .int .i64 p, .string c, .int .i64 r, .string c] w (fun e w' => e = .returned (.tuple #[.int .i64 A, .string c, .int .i64 0]) ∧ Below w.heap.size w w') from by have := ebinary_ok mAdd p c r c w hE; rw [e4] at this; exact this)
        have tz : (z == 0) = false := by simpa using hz
        clear e1 e2 e3 e4 hz
        go_wp2_with (first | (go_at_call 8; (with_reducible refine (HSub.out _ (HE.out.below HBe.out)).mono ?_); rintro e wx1 ⟨rfl, hb⟩; have HBx1 := Lib.hid (HBe.out.trans (hb.mono HBe.out.size)); clear hb) | (go_at_call 8; (with_reducible refine (HAdd.out _ (HE.out.below HBx1.out)).mono ?_); rintro e wx2 ⟨rfl, hb⟩; have HBx2 := Lib.hid (HBx1.out.trans (hb.mono HBx1.out.size)); clear hb) | (go_at_call 8; (with_reducible refine (HDiv.out _ (HE.out.below HBx2.out)).mono ?_); rintro e wx3 ⟨rfl, hb⟩; have HBx3 := Lib.hid (HBx2.out.trans (hb.mono HBx2.out.size)); clear hb) | (go_at_call 8; (with_reducible refine (HRem.out _ (HE.out.below HBx3.out)).mono ?_); rintro e wx4 ⟨rfl, hb⟩; have HBx4 := Lib.hid (HBx3.out.trans (hb.mono HBx3.out.size)); clear hb) | (go_at_call 9; (with_reducible refine (HC1.out _).mono ?_); rintro e wc ⟨rfl, hwc⟩; subst wc) | (go_at_call 9; (with_reducible refine (HC2.out _).mono ?_); rintro e wc ⟨rfl, hwc⟩; subst wc) | (go_at_call 9; (with_reducible refine (HC3.out _).mono ?_); rintro e wc ⟨rfl, hwc⟩; subst wc) | (go_at_call 8; (with_reducible refine (HMul.out _ (HE.out.below HBx4.out)).mono ?_); rintro e wx5 ⟨rfl, hb⟩; have HBx5 := Lib.hid (HBx4.out.trans (hb.mono HBx4.out.size)); clear hb) | (go_at_call 8; (with_reducible refine (HAdd2.out _ (HE.out.below HBx5.out)).mono ?_); rintro e wx6 ⟨rfl, hb⟩; have HBx6 := Lib.hid (HBx5.out.trans (hb.mono HBx5.out.size)); clear hb))
        go_ret
        exact ⟨by first | rfl | (rw [beq_self_eq_true]), HBx6.out⟩
set_option maxRecDepth 100000 in
theorem foldTurns_ok (a : Int) (x : ByteArray) (b : Int) (y : ByteArray) (w : World) (hE : TE w) : Calls Tryd.prog 3 #[.int .i64 a, .string x, .int .i64 b, .string y] w fun e w' => e = .returned (.bool true) ∧ Below w.heap.size w w' := by
  have HE := Lib.hid hE
  have key : (isIntS x = false ∨ isIntS y = false) → Calls Tryd.prog 3 #[.int .i64 a, .string x, .int .i64 b, .string y] w fun e w' => e = .returned (.bool true) ∧ Below w.heap.size w w' := by
    intro hxy
    have HW := Lib.hid (works12_ok w hE)
    have HBn := Lib.hid (fun w (hE : TE w) => show Calls Tryd.prog 8 #[.string ⟨#[43]⟩, .int .i64 a, .string x, .int .i64 b, .string y] w (fun e w' => e = .returned (.tuple #[.int .i64 0, .string ⟨#[]⟩, .int .i64 5]) ∧ Below w.heap.size w w') from by
      have := ebinary_ok ⟨#[43]⟩ a x b y w hE
      rw [show binE ⟨#[43]⟩ a x b y = (0, ⟨#[]⟩, 5) from by unfold binE; rw [if_neg (by decide +kernel), if_pos hxy]] at this
      exact this)
    have HI1 := Lib.hid (fun w => isInt_ok x w)
    have HI2 := Lib.hid (fun w => isInt_ok y w)
    clear hE
    rcases hx : isIntS x with _ | _
    · rw [hx] at HI1
      clear hx hxy
      go_enter Tryd.func3, Tryd.ntmps3
      go_wp2_with (first | (go_at_call 6; (with_reducible refine HW.out.mono ?_); rintro e w1 ⟨rfl, hb1⟩; have HB1 := Lib.hid hb1; clear hb1) | (go_at_call 7; (with_reducible refine (HI1.out _).mono ?_); rintro e wc ⟨rfl, hwc⟩; subst wc) | (go_at_call 8; (with_reducible refine (HBn.out _ (HE.out.below HB1.out)).mono ?_); rintro e w3 ⟨rfl, hb3⟩; have HB3 := Lib.hid (HB1.out.trans (hb3.mono HB1.out.size)); clear hb3))
      go_ret
      exact ⟨rfl, HB3.out⟩
    · have hy : isIntS y = false := by rcases hxy with h | h; rw [h] at hx; cases hx; exact h
      rw [hx] at HI1
      rw [hy] at HI2
      clear hx hxy hy
      go_enter Tryd.func3, Tryd.ntmps3
      go_wp2_with (first | (go_at_call 6; (with_reducible refine HW.out.mono ?_); rintro e w1 ⟨rfl, hb1⟩; have HB1 := Lib.hid hb1; clear hb1) | (go_at_call 7; (first | (with_reducible refine (HI1.out _).mono ?_) | (with_reducible refine (HI2.out _).mono ?_)); rintro e wc ⟨rfl, hwc⟩; subst wc) | (go_at_call 8; (with_reducible refine (HBn.out _ (HE.out.below HB1.out)).mono ?_); rintro e w3 ⟨rfl, hb3⟩; have HB3 := Lib.hid (HB1.out.trans (hb3.mono HB1.out.size)); clear hb3))
      go_ret
      exact ⟨rfl, HB3.out⟩
  rcases hx : isIntS x with _ | _
  · exact key (.inl hx)
  rcases hy : isIntS y with _ | _
  · exact key (.inr hy)
  obtain ⟨A, d, k, z, hF⟩ := turn_facts a b (isIntS_int hx) (isIntS_int hy)
  exact turn_walk a b x y _ A d k z w hE (isIntS_int hx) (isIntS_int hy) hF
end Go.Proofs.YtlcfejgjeljjdaaDoor

