/- Decay, Promote: the program. -/
import Derived.Test.YtmmjmppfmjejkaaGreatDoorParts2
namespace Go.Proofs.YtmmjmppfmjejkaaGreatDoor
open Go.RowKit

theorem add_namedT (a b y : ByteArray) (hy : a ++ b = y) (h : a.size + b.size ≤ 9223372036854775807) : ∀ w, (Op.stringOp .add a b).run Tryz.prog w = .ok (.string y) w := fun w => by rw [← hy]; exact run_string_add_sum w a b h
theorem tyB_ptr (t : Ty) : (⟨#[112]⟩ : ByteArray) ++ tyB t = tyB (.ptr t) := tyB_eq (by simp [tyB_list, code])
set_option maxHeartbeats 1000000 in
theorem decay_none (s : ByteArray) (w : World) (hE : TE w) (h : tyS s = none) : Calls Tryz.prog 15 #[.string s] w fun e w' => e = .returned (decayV s (tyS s)) ∧ Below w.heap.size w w' := by
  have HF := Lib.hid (form_is false s w hE (by rw [h]; rfl))
  rw [h]
  clear h hE
  go_enter Tryz.func15, Tryz.ntmps15
  go_wp2_with (go_at_call 9; (with_reducible refine HF.out.mono ?_); rintro e w1 ⟨rfl, hb1⟩)
  go_ret2
  exact ⟨rfl, hb1⟩
set_option maxHeartbeats 1000000 in
theorem decay_arr (n : Nat) (u : Ty) (w : World) (hE : TE w) (h : tyS (tyB (.arr n u)) = some (.arr n u)) : Calls Tryz.prog 15 #[.string (tyB (.arr n u))] w fun e w' => e = .returned (decayV (tyB (.arr n u)) (some (.arr n u))) ∧ Below w.heap.size w w' := by
  have HE := Lib.hid hE
  obtain ⟨_, hr, hl⟩ := tyS_some.1 h
  have HF := Lib.hid (form_is true (tyB (.arr n u)) w hE (by rw [h]; rfl))
  have HS := Lib.hid (fun w hM => split_arr n u w hr hM hl)
  obtain ⟨h0, hc⟩ := tyB_head (.arr n u)
  have t2 : (((tyB (.arr n u))[0].toNat : Int) == 97) = true := eq_true' hc
  have hz : ((tyB u).size : Int) ≤ 8388608 := by
    rw [code] at hl
    simp at hl
    rw [tyB_size]; omega
  have hv := Lib.hid (show .tuple #[.string ((⟨#[112]⟩ : ByteArray) ++ tyB u), .int .i64 0] = decayV (tyB (.arr n u)) (some (.arr n u)) by rw [tyB_ptr]; rfl)
  generalize tyB (.arr n u) = s at *
  clear h hE hc hr hl
  go_enter Tryz.func15, Tryz.ntmps15
  go_wp2_with (first | (go_at_call 9; (with_reducible refine HF.out.mono ?_); rintro e w1 ⟨rfl, hb1⟩; have HE1 := Lib.hid (HE.out.below hb1)) | (go_at_call 39; (with_reducible refine (HS.out _ HE1.out.maxl).mono ?_); rintro e w2 ⟨rfl, hb2⟩))
  go_ret2
  exact ⟨tup_eq hv.out, hb1.trans (hb2.mono hb1.size)⟩
set_option maxHeartbeats 1000000 in
set_option maxRecDepth 100000 in
theorem decay_turn (t : Ty) (w : World) (hE : TE w) (h : tyS (tyB t) = some t) (h1 : headT t = 102 ∨ headT t = 106) (hv : decayV (tyB t) (some t) = if 65536 ≤ (tyB t).size then .tuple #[.string ⟨#[]⟩, .int .i64 3] else .tuple #[.string (tyB (.ptr t)), .int .i64 0]) : Calls Tryz.prog 15 #[.string (tyB t)] w fun e w' => e = .returned (decayV (tyB t) (some t)) ∧ Below w.heap.size w w' := by
  have HF := Lib.hid (form_is true (tyB t) w hE (by rw [h]; rfl))
  obtain ⟨_, _, hl⟩ := tyS_some.1 h
  obtain ⟨h0, hc⟩ := tyB_head t
  have hadd := add_namedT ⟨#[112]⟩ (tyB t) (tyB (.ptr t)) (tyB_ptr t) (by rw [tyB_size]; show 1 + _ ≤ _; omega)
  have HV := Lib.hid hv
  have t1 : (((tyB t)[0].toNat : Int) == 97) = false := eq_false' (d := 97) hc (by rcases h1 with h | h <;> rw [h] <;> decide)
  have t2 : (((tyB t)[0].toNat : Int) == 102) = true ∨ ((((tyB t)[0].toNat : Int) == 102) = false ∧ (((tyB t)[0].toNat : Int) == 106) = true) := by
    rcases h1 with h | h
    · exact .inl (by rw [hc, h]; rfl)
    · exact .inr ⟨by rw [hc, h]; rfl, by rw [hc, h]; rfl⟩
  have hsz := Lib.hid (rfl : tyB t = tyB t)
  clear h hE hc h1 hl hv hsz
  generalize tyB (.ptr t) = y at *
  generalize tyB t = s at *
  by_cases hbig : 65536 ≤ s.size
  · have hfin := Lib.hid (HV.out.trans (if_pos hbig))
    have t3 : (65536 : Int) ≤ s.size := by omega
    clear hbig
    rcases t2 with t2 | ⟨t2, t3⟩
    all_goals
      go_enter Tryz.func15, Tryz.ntmps15
      go_wp2_with (go_at_call 9; (with_reducible refine HF.out.mono ?_); rintro e w1 ⟨rfl, hb1⟩)
      go_ret2
      exact ⟨tup_eq hfin.out.symm, hb1⟩
  · have hfin := Lib.hid (HV.out.trans (if_neg hbig))
    have t3 : decide ((65536 : Int) ≤ s.size) = false := by simp; omega
    clear hbig
    rcases t2 with t2 | ⟨t2, t4⟩
    all_goals
      go_enter Tryz.func15, Tryz.ntmps15
      go_wp2_with (go_at_call 9; (with_reducible refine HF.out.mono ?_); rintro e w1 ⟨rfl, hb1⟩)
      go_ret2
      exact ⟨tup_eq hfin.out.symm, hb1⟩
set_option maxHeartbeats 1000000 in
theorem decay_same (t : Ty) (w : World) (hE : TE w) (h : tyS (tyB t) = some t) (h1 : headT t ≠ 97) (h2 : headT t ≠ 102) (h3 : headT t ≠ 106) (hv : decayV (tyB t) (some t) = .tuple #[.string (tyB t), .int .i64 0]) : Calls Tryz.prog 15 #[.string (tyB t)] w fun e w' => e = .returned (decayV (tyB t) (some t)) ∧ Below w.heap.size w w' := by
  have HF := Lib.hid (form_is true (tyB t) w hE (by rw [h]; rfl))
  obtain ⟨h0, hc⟩ := tyB_head t
  have HV := Lib.hid hv
  have t1 : (((tyB t)[0].toNat : Int) == 97) = false := eq_false' (d := 97) hc h1
  have t2 : (((tyB t)[0].toNat : Int) == 102) = false := eq_false' (d := 102) hc h2
  have t3 : (((tyB t)[0].toNat : Int) == 106) = false := eq_false' (d := 106) hc h3
  clear h hE hc h1 h2 h3 hv
  generalize tyB t = s at *
  go_enter Tryz.func15, Tryz.ntmps15
  go_wp2_with (go_at_call 9; (with_reducible refine HF.out.mono ?_); rintro e w1 ⟨rfl, hb1⟩)
  go_ret2
  exact ⟨tup_eq HV.out.symm, hb1⟩
theorem decay_ok (s : ByteArray) (w : World) (hE : TE w) : Calls Tryz.prog 15 #[.string s] w fun e w' => e = .returned (decayV s (tyS s)) ∧ Below w.heap.size w w' := by
  rcases h : tyS s with _ | t
  · rw [← h]; exact decay_none s w hE h
  · obtain ⟨rfl, hr, _⟩ := tyS_some.1 h
    cases t with
    | arr n u => exact decay_arr n u w hE h
    | fn ps r => exact decay_turn _ w hE h (.inl rfl) rfl
    | base c =>
      by_cases hc : c = 106
      · subst hc
        exact decay_turn _ w hE h (.inr rfl) (by rw [if_neg (by decide)]; rfl)
      · exact decay_same _ w hE h (by rcases base_six hr with rfl | rfl | rfl | rfl | rfl | rfl <;> decide) (by rcases base_six hr with rfl | rfl | rfl | rfl | rfl | rfl <;> decide) hc (by simp [decayV, hc])
    | str n => exact decay_same _ w hE h (by simp [headT]) (by simp [headT]) (by simp [headT]) rfl
    | ptr u => exact decay_same _ w hE h (by simp [headT]) (by simp [headT]) (by simp [headT]) rfl

theorem one_is {t : Ty} (h : Right t) (c : UInt8) : ((tyB t).toList == [c]) = isC c t := by
  rw [str_one, Bool.eq_iff_iff, decide_eq_true_iff, one_base h]
  cases t <;> simp [isC]
set_option maxHeartbeats 1000000 in
theorem promote_ok (s : ByteArray) (w : World) (hE : TE w) : Calls Tryz.prog 17 #[.string s] w fun e w' => e = .returned (promoteV s (tyS s)) ∧ Below w.heap.size w w' := by
  rcases h : tyS s with _ | t
  · have HF := Lib.hid (form_is false s w hE (by rw [h]; rfl))
    clear h hE
    go_enter Tryz.func17, Tryz.ntmps17
    go_wp2_with (go_at_call 9; (with_reducible refine HF.out.mono ?_); rintro e w1 ⟨rfl, hb1⟩)
    go_ret2
    exact ⟨rfl, hb1⟩
  · obtain ⟨rfl, hr, _⟩ := tyS_some.1 h
    have HF := Lib.hid (form_is true (tyB t) w hE (by rw [h]; rfl))
    have h99 := one_is hr 99
    have h115 := one_is hr 115
    generalize hs : tyB t = s at *
    rcases h1 : isC 99 t with _ | _
    · rcases h2 : isC 115 t with _ | _
      · have hfin := Lib.hid (show promoteV s (some t) = .tuple #[.string s, .int .i64 0] by simp [promoteV, h1, h2])
        rw [h1] at h99; rw [h2] at h115
        clear h hE hr hs h1 h2
        go_enter Tryz.func17, Tryz.ntmps17
        go_wp2_with (go_at_call 9; (with_reducible refine HF.out.mono ?_); rintro e w1 ⟨rfl, hb1⟩)
        go_ret2
        exact ⟨tup_eq hfin.out.symm, hb1⟩
      · have hfin := Lib.hid (show promoteV s (some t) = .tuple #[.string (tyB (.base 105)), .int .i64 0] by simp [promoteV, h1, h2])
        rw [h1] at h99; rw [h2] at h115
        clear h hE hr hs h1 h2
        go_enter Tryz.func17, Tryz.ntmps17
        go_wp2_with (go_at_call 9; (with_reducible refine HF.out.mono ?_); rintro e w1 ⟨rfl, hb1⟩)
        go_ret2
        exact ⟨tup_eq hfin.out.symm, hb1⟩
    · have hfin := Lib.hid (show promoteV s (some t) = .tuple #[.string (tyB (.base 105)), .int .i64 0] by simp [promoteV, h1])
      rw [h1] at h99
      clear h hE hr hs h1 h115
      go_enter Tryz.func17, Tryz.ntmps17
      go_wp2_with (go_at_call 9; (with_reducible refine HF.out.mono ?_); rintro e w1 ⟨rfl, hb1⟩)
      go_ret2
      exact ⟨tup_eq hfin.out.symm, hb1⟩

end Go.Proofs.YtmmjmppfmjejkaaGreatDoor
