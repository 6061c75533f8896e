/- How a type is written: the reference, but for functions. · The reference's IsInt, Promote, Common (written by a program out of the program's own walks: the texts are alike). · How a type is written: the reference: functions, all types; Declare, Decay, IsScalar. · The reference's Decay. -/
import Derived.Test.YtmmjmppfmjejkaaGreatDoorRefM
import Derived.Test.YtmmjmppfmjejkaaGreatDoorDecl2
import Derived.Test.YtmmjmppfmjejkaaGreatDoorParts4
import Derived.Test.YtmmjmppfmjejkaaGreatDoorDeclare
namespace Go.Proofs.YtmmjmppfmjejkaaGreatDoor
open Go.RowKit

theorem kind_is (m : Int) (t : Ty) (w : World) (hm : ((headT t).toNat : Int) = m) : Calls Tryz.prog 40 #[.string (tyB t)] w fun e w' => e = .returned (.int .u8 m) ∧ w' = w := by subst hm; exact refKind_ok t w
set_option maxHeartbeats 1000000 in
theorem refWord_ok (t : Ty) (w : World) (hr : Right t) (ht : (∃ c, t = .base c) ∨ ∃ n, t = .str n) (hl : (code t).length ≤ 65536) : Calls Tryz.prog 80 #[.string (tyB t)] w fun e w' => e = .returned (.string (strB (wordT t))) ∧ w' = w := by
  rcases ht with ⟨c, rfl⟩ | ⟨n, rfl⟩
  · have hk : ∀ m : Int, ((headT (.base c)).toNat : Int) = m → Hid (Calls Tryz.prog 40 #[.string (tyB (.base c))] w fun e w' => e = .returned (.int .u8 m) ∧ w' = w) := fun m hm => kind_is m (.base c) w hm
    rcases base_six hr with rfl | rfl | rfl | rfl | rfl | rfl
    case' inl => have HK := hk 118 rfl
    case' inr.inl => have HK := hk 99 rfl
    case' inr.inr.inl => have HK := hk 115 rfl
    case' inr.inr.inr.inl => have HK := hk 105 rfl
    case' inr.inr.inr.inr.inl => have HK := hk 117 rfl
    case' inr.inr.inr.inr.inr => have HK := hk 106 rfl
    all_goals
      generalize tyB (.base _) = s at *
      clear hr hk
      go_enter Tryz.func80, Tryz.ntmps80
      go_wp2_with (go_at_call 40; (with_reducible refine HK.out.mono ?_); rintro e w1 ⟨rfl, hw1⟩; subst w1)
      go_ret
      exact ⟨rfl, rfl⟩
  · have HK := Lib.hid (kind_is 83 (.str n) w rfl)
    have hx : (tyB (.str n)).extract 1 ((tyB (.str n)).size - 1) = strB n := strB_eq (by
      have : (tyB (.str n)).size - 1 = 1 + n.length := by rw [tyB_size, code]; simp; omega
      rw [this, extract_take, tyB_sfx, code]
      simp)
    have hadd := add_str [115, 116, 114, 117, 99, 116, 32] n (by rw [code] at hl; simp at hl ⊢; omega)
    have hs2 : 2 ≤ (tyB (.str n)).size := by rw [tyB_size, code]; simp
    have hs3 : (tyB (.str n)).size ≤ 65536 := by rw [tyB_size]; exact hl
    generalize tyB (.str n) = s at *
    have HX := Lib.hid hx
    have e1 : IntKind.i64.wrap ((s.size : Int) - 1) = (s.size : Int) - 1 := IntWalk.i64_in _ (by omega)
    have e2 : ((s.size : Int) - 1).toNat = s.size - 1 := by omega
    have e3 : (1 : Int) ≤ (s.size : Int) - 1 := by omega
    have e4 : (s.size : Int) - 1 ≤ s.size := by omega
    clear hx hl hr hs3
    rw [show strB [115, 116, 114, 117, 99, 116, 32] = ⟨#[115, 116, 114, 117, 99, 116, 32]⟩ from rfl, ← HX.out] at hadd
    go_enter Tryz.func80, Tryz.ntmps80
    go_wp2_with (go_at_call 40; (with_reducible refine HK.out.mono ?_); rintro e w1 ⟨rfl, hw1⟩; subst w1)
    go_ret
    exact ⟨rfl, rfl⟩

def WritC (t : Ty) : Prop := ∀ (x : List UInt8) (w : World), x.length + 16 * (code t).length ≤ 2000000 →
  Calls Tryz.prog 45 #[.string (tyB t), .string (strB x)] w fun e w' => e = .returned (.string (strB (declT t x))) ∧ Below w.heap.size w w'

set_option maxHeartbeats 1000000 in
theorem writ_root (t : Ty) (hr : Right t) (ht : (∃ c, t = .base c) ∨ ∃ n, t = .str n) (hl : (code t).length ≤ 65536) : WritC t := by
  intro x w hz
  have HBs := Lib.hid (fun w => refWord_ok t w hr ht hl)
  have HK := Lib.hid (fun w => refKind_ok t w)
  have hne : headT t ≠ 112 ∧ headT t ≠ 97 ∧ headT t ≠ 102 := by
    rcases ht with ⟨c, rfl⟩ | ⟨n, rfl⟩
    · rcases base_six hr with rfl | rfl | rfl | rfl | rfl | rfl <;> decide
    · simp [headT]
  have t1 : (((headT t).toNat : Int) == 112) = false := (byte_ne hne.1 rfl).1
  have t2 : (((headT t).toNat : Int) == 97) = false := (byte_ne hne.2.1 rfl).1
  have t3 : (((headT t).toNat : Int) == 102) = false := (byte_ne hne.2.2 rfl).1
  have hw : (wordT t).length ≤ 16 * (code t).length := by
    have := decl_len t [] hr
    rcases ht with ⟨c, rfl⟩ | ⟨n, rfl⟩
    · rw [declT, if_pos rfl] at this; simpa using this
    · rw [declT, if_pos rfl] at this; simpa using this
  have hd : declT t x = if x = [] then wordT t else wordT t ++ 32 :: x := by
    rcases ht with ⟨c, rfl⟩ | ⟨n, rfl⟩
    · rw [declT]
    · rw [declT]
  by_cases hx : x = []
  · have hfin := Lib.hid (hd.trans (if_pos hx))
    have t4 := str_emp hx
    generalize tyB t = s at *
    generalize headT t = c at *
    generalize strB x = y at *
    clear hne hw hd hr ht hl hx hz
    go_enter Tryz.func45, Tryz.ntmps45
    go_wp2_with (first | (go_at_call 80; (with_reducible refine (HBs.out _).mono ?_); rintro e w1 ⟨rfl, hw1⟩; subst w1) | (go_at_call 40; (with_reducible refine (HK.out _).mono ?_); rintro e w1 ⟨rfl, hw1⟩; subst w1))
    go_ret
    exact ⟨(ret_strB hfin.out.symm), Below.refl _ _⟩
  · have hfin := Lib.hid (hd.trans (if_neg hx))
    have t4 := str_nemp hx
    have a1 := add_str (wordT t) [32] (by simp; omega)
    have a2 := add_str (wordT t ++ [32]) x (by simp; omega)
    rw [show strB [32] = ⟨#[32]⟩ from rfl] at a1
    rw [show wordT t ++ [32] ++ x = declT t x by rw [hfin.out]; simp] at a2
    generalize tyB t = s at *
    generalize headT t = c at *
    generalize strB (declT t x) = y3 at *
    generalize strB (wordT t ++ [32]) = y2 at *
    generalize strB (wordT t) = y1 at *
    generalize strB x = y at *
    clear hne hw hd hr ht hl hx hz hfin
    go_enter Tryz.func45, Tryz.ntmps45
    go_wp2_with (first | (go_at_call 80; (with_reducible refine (HBs.out _).mono ?_); rintro e w1 ⟨rfl, hw1⟩; subst w1) | (go_at_call 40; (with_reducible refine (HK.out _).mono ?_); rintro e w1 ⟨rfl, hw1⟩; subst w1))
    go_ret
    exact ⟨rfl, Below.refl _ _⟩

set_option maxHeartbeats 2000000 in
theorem writ_ptr (t : Ty) (hr : Right t) (_hl : (code (.ptr t)).length ≤ 65536) (ih : WritC t) : WritC (.ptr t) := by
  intro x w hz
  rw [code] at hz
  simp only [List.length_cons] at hz
  have HK := Lib.hid (fun w => kind_is 112 (.ptr t) w rfl)
  have HK2 := Lib.hid (fun w => refKind_ok t w)
  have HIn := Lib.hid (fun w => refInner_ptr t w)
  have t2 := head_arr hr
  have t3 := head_fn hr
  have a1 := add_str [42] x (by simp; omega)
  rw [show strB [42] = ⟨#[42]⟩ from rfl] at a1
  rw [show [42] ++ x = 42 :: x from rfl] at a1
  have hd : declT (.ptr t) x = declT t (if isArrT t || isFnT t then 40 :: 42 :: x ++ [41] else 42 :: x) := by rw [declT]
  by_cases hp : isArrT t = false ∧ isFnT t = false
  · obtain ⟨ha, hf⟩ := hp
    have hi := fun w => ih (42 :: x) w (by simp; omega)
    rw [show declT t (42 :: x) = declT (.ptr t) x by rw [hd, ha, hf]; rfl] at hi
    have HI := Lib.hid hi
    rw [ha] at t2; rw [hf] at t3
    generalize tyB (.ptr t) = s at *
    generalize tyB t = s2 at *
    generalize headT t = c at *
    generalize strB (42 :: x) = y1 at *
    generalize strB x = y at *
    clear hd hr _hl hz ha hf ih hi
    go_enter Tryz.func45, Tryz.ntmps45
    go_wp2_with (first | (go_at_call 40; (with_reducible refine (HK.out _).mono ?_); rintro e w1 ⟨rfl, hw1⟩; subst w1) | (go_at_call 41; (with_reducible refine (HIn.out _).mono ?_); rintro e w2 ⟨rfl, hb2⟩; have HB2 := Lib.hid hb2; clear hb2) | (go_at_call 40; (with_reducible refine (HK2.out _).mono ?_); rintro e w1 ⟨rfl, hw1⟩; subst w1) | (go_at_call 45; (with_reducible refine (HI.out _).mono ?_); rintro e w3 ⟨rfl, hb3⟩; have HB3 := Lib.hid (HB2.out.trans (hb3.mono HB2.out.size)); clear hb3))
    go_ret
    exact ⟨rfl, HB3.out⟩
  · have hp' : (isArrT t || isFnT t) = true := by
      cases h1 : isArrT t with
      | true => rfl
      | false =>
        cases h2 : isFnT t with
        | true => rfl
        | false => exact absurd ⟨h1, h2⟩ hp
    have a2 := add_str [40] (42 :: x) (by simp; omega)
    have a3 := add_str (40 :: 42 :: x) [41] (by simp; omega)
    rw [show strB [40] = ⟨#[40]⟩ from rfl, show [40] ++ 42 :: x = 40 :: 42 :: x from rfl] at a2
    rw [show strB [41] = ⟨#[41]⟩ from rfl] at a3
    have hi := fun w => ih (40 :: 42 :: x ++ [41]) w (by simp; omega)
    rw [show declT t (40 :: 42 :: x ++ [41]) = declT (.ptr t) x by rw [hd, hp']; rfl] at hi
    have HI := Lib.hid hi
    have hT : (((headT t).toNat : Int) == 97) = true ∨ ((((headT t).toNat : Int) == 97) = false ∧ (((headT t).toNat : Int) == 102) = true) := by
      rw [t2, t3]
      cases h1 : isArrT t with
      | true => exact .inl rfl
      | false => rw [h1] at hp'; exact .inr ⟨rfl, hp'⟩
    generalize tyB (.ptr t) = s at *
    generalize tyB t = s2 at *
    generalize headT t = c at *
    generalize strB (40 :: 42 :: x ++ [41]) = y3 at *
    generalize strB (40 :: 42 :: x) = y2 at *
    generalize strB (42 :: x) = y1 at *
    generalize strB x = y at *
    clear hd hr _hl hz hp hp' ih t2 t3 hi
    rcases hT with t2 | ⟨t2, t3⟩
    all_goals
      go_enter Tryz.func45, Tryz.ntmps45
      go_wp2_with (first | (go_at_call 40; (with_reducible refine (HK.out _).mono ?_); rintro e w1 ⟨rfl, hw1⟩; subst w1) | (go_at_call 41; (with_reducible refine (HIn.out _).mono ?_); rintro e w2 ⟨rfl, hb2⟩; have HB2 := Lib.hid hb2; clear hb2) | (go_at_call 40; (with_reducible refine (HK2.out _).mono ?_); rintro e w1 ⟨rfl, hw1⟩; subst w1) | (go_at_call 45; (with_reducible refine (HI.out _).mono ?_); rintro e w3 ⟨rfl, hb3⟩; have HB3 := Lib.hid (HB2.out.trans (hb3.mono HB2.out.size)); clear hb3))
      go_ret
      exact ⟨rfl, HB3.out⟩

set_option maxHeartbeats 2000000 in
theorem writ_arr (n : Nat) (t : Ty) (hr : Right (.arr n t)) (hl : (code (.arr n t)).length ≤ 65536) (ih : WritC t) : WritC (.arr n t) := by
  intro x w hz
  have hcl : (code (.arr n t)).length = (Lib.decDigits n).length + (code t).length + 2 := by rw [code]; simp; omega
  rw [hcl] at hz
  have HK := Lib.hid (fun w => kind_is 97 (.arr n t) w rfl)
  have HIn := Lib.hid (fun w => refInner_arr n t hr hl w)
  have hs : sfx (tyB (.arr n t)) 1 = Lib.decDigits n ++ 58 :: code t := by rw [sfx, tyB_list, code]; rfl
  have hrun : runN (sfx (tyB (.arr n t)) 1) = (Lib.decDigits n).length := by
    rw [hs]
    exact runN_app (dec_digits n).1 (fun c hc => by obtain rfl := Option.some.inj hc; rfl)
  have hsz : (tyB (.arr n t)).size = 1 + (Lib.decDigits n).length + 1 + (code t).length := by rw [tyB_size, code]; simp; omega
  have HD := Lib.hid (refDigits_ok (tyB (.arr n t)) 1 (by omega) (by rw [tyB_size]; omega))
  rw [hrun] at HD
  have HE1 := Lib.hid (show (tyB (.arr n t)).extract 1 (1 + (Lib.decDigits n).length) = strB (Lib.decDigits n) from strB_eq (by rw [extract_take, hs, List.take_left]))
  have a1 := add_str x [91] (by simp; omega)
  have a2 := add_str (x ++ [91]) (Lib.decDigits n) (by simp; omega)
  have a3 := add_str (x ++ [91] ++ Lib.decDigits n) [93] (by simp; omega)
  rw [show strB [91] = ⟨#[91]⟩ from rfl] at a1
  rw [show strB [93] = ⟨#[93]⟩ from rfl] at a3
  have he : x ++ [91] ++ Lib.decDigits n ++ [93] = x ++ 91 :: Lib.decDigits n ++ [93] := by simp
  rw [he] at a3
  have hi2 := fun w => ih (x ++ 91 :: Lib.decDigits n ++ [93]) w (by simp; omega)
  rw [show declT t (x ++ 91 :: Lib.decDigits n ++ [93]) = declT (.arr n t) x by rw [declT]] at hi2
  have HI := Lib.hid hi2
  have hs4 : ((tyB (.arr n t)).size : Int) ≤ 65536 := by rw [tyB_size]; omega
  rw [← HE1.out] at a2
  generalize tyB (.arr n t) = s at *
  generalize strB (x ++ 91 :: Lib.decDigits n ++ [93]) = y3 at *
  generalize strB (x ++ [91] ++ Lib.decDigits n) = y2 at *
  generalize strB (x ++ [91]) = y1 at *
  generalize strB x = y at *
  generalize (Lib.decDigits n).length = d at *
  have hi : (((1 + d : Nat) : Int)) = 1 + (d : Int) := by omega
  have b1 : (1 : Int) ≤ 1 + (d : Int) := by omega
  have b2 : 1 + (d : Int) ≤ s.size := by omega
  rw [hi] at HD
  clear hr hl hz ih hcl he hs hrun hsz hi hi2 HE1
  go_enter Tryz.func45, Tryz.ntmps45
  go_wp2_with (first | (go_at_call 40; (with_reducible refine (HK.out _).mono ?_); rintro e w1 ⟨rfl, hw1⟩; subst w1) | (go_at_call 41; (with_reducible refine (HIn.out _).mono ?_); rintro e w2 ⟨rfl, hb2⟩; have HB2 := Lib.hid hb2; clear hb2) | (go_at_call 61; refine (HD.out _).mono ?_; rintro e w1 ⟨rfl, hw1⟩; subst w1) | (go_at_call 45; (with_reducible refine (HI.out _).mono ?_); rintro e w3 ⟨rfl, hb3⟩; have HB3 := Lib.hid (HB2.out.trans (hb3.mono HB2.out.size)); clear hb3))
  go_ret
  exact ⟨rfl, HB3.out⟩
end Go.Proofs.YtmmjmppfmjejkaaGreatDoor
namespace Go.Proofs.YtmmjmppfmjejkaaGreatDoor
open Go.RowKit

theorem refIsInt_ok (s : ByteArray) (w : World) : Calls Tryz.prog 24 #[.string s] w fun e w' => e = .returned (.bool (isIntS s)) ∧ w' = w := by
  by_cases h1 : s = ⟨#[99]⟩
  · have hfin := Lib.hid (show isIntS s = true by rw [h1, isIntS, tyS_base (by decide)]; rfl)
    have t1 : (s.toList == [99]) = true := by rw [str_one]; simpa using h1
    clear h1
    go_enter Tryz.func24, Tryz.ntmps24
    go_wp2_with fail
    go_ret
    exact ⟨by rw [hfin.out]; rfl, rfl⟩
  · have t1 : (s.toList == [99]) = false := by rw [str_one]; simpa using h1
    by_cases h2 : s = ⟨#[115]⟩
    · have hfin := Lib.hid (show isIntS s = true by rw [h2, isIntS, tyS_base (by decide)]; rfl)
      have t2 : (s.toList == [115]) = true := by rw [str_one]; simpa using h2
      clear h1 h2
      go_enter Tryz.func24, Tryz.ntmps24
      go_wp2_with fail
      go_ret
      exact ⟨by rw [hfin.out]; rfl, rfl⟩
    · have t2 : (s.toList == [115]) = false := by rw [str_one]; simpa using h2
      by_cases h3 : s = ⟨#[105]⟩
      · have hfin := Lib.hid (show isIntS s = true by rw [h3, isIntS, tyS_base (by decide)]; rfl)
        have t3 : (s.toList == [105]) = true := by rw [str_one]; simpa using h3
        clear h1 h2 h3
        go_enter Tryz.func24, Tryz.ntmps24
        go_wp2_with fail
        go_ret
        exact ⟨by rw [hfin.out]; rfl, rfl⟩
      · have t3 : (s.toList == [105]) = false := by rw [str_one]; simpa using h3
        by_cases h4 : s = ⟨#[117]⟩
        · have hfin := Lib.hid (show isIntS s = true by rw [h4, isIntS, tyS_base (by decide)]; rfl)
          have t4 : (s.toList == [117]) = true := by rw [str_one]; simpa using h4
          clear h1 h2 h3 h4
          go_enter Tryz.func24, Tryz.ntmps24
          go_wp2_with fail
          go_ret
          exact ⟨by rw [hfin.out]; rfl, rfl⟩
        · have t4 : (s.toList == [117]) = false := by rw [str_one]; simpa using h4
          have hfin := Lib.hid (isIntS_not h1 h2 h3 h4)
          clear h1 h2 h3 h4
          go_enter Tryz.func24, Tryz.ntmps24
          go_wp2_with fail
          go_ret
          exact ⟨by rw [hfin.out]; rfl, rfl⟩
theorem refIsInt_is (r : Bool) (s : ByteArray) (w : World) (hr : isIntS s = r) : Calls Tryz.prog 24 #[.string s] w fun e w' => e = .returned (.bool r) ∧ w' = w := by subst hr; exact refIsInt_ok s w

set_option maxHeartbeats 1000000 in
theorem refPromote_ok (s : ByteArray) (w : World) : Calls Tryz.prog 18 #[.string s] w fun e w' => e = .returned (promoteV s (tyS s)) ∧ Below w.heap.size w w' := by
  rcases h : tyS s with _ | t
  · have HF := Lib.hid (refForm_is false s w (by rw [h]; rfl))
    clear h
    go_enter Tryz.func18, Tryz.ntmps18
    go_wp2_with (go_at_call 10; (with_reducible refine HF.out.mono ?_); rintro e w1 ⟨rfl, hb1⟩)
    go_ret2
    exact ⟨rfl, hb1⟩
  · obtain ⟨rfl, hr, _⟩ := tyS_some.1 h
    have HF := Lib.hid (refForm_is true (tyB t) w (by rw [h]; rfl))
    have h99 := one_is hr 99
    have h115 := one_is hr 115
    generalize hs : tyB t = s at *
    rcases h1 : isC 99 t with _ | _
    · rcases h2 : isC 115 t with _ | _
      · have hfin := Lib.hid (show promoteV s (some t) = .tuple #[.string s, .int .i64 0] by simp [promoteV, h1, h2])
        rw [h1] at h99; rw [h2] at h115
        clear h hr hs h1 h2
        go_enter Tryz.func18, Tryz.ntmps18
        go_wp2_with (go_at_call 10; (with_reducible refine HF.out.mono ?_); rintro e w1 ⟨rfl, hb1⟩)
        go_ret2
        exact ⟨tup_eq hfin.out.symm, hb1⟩
      · have hfin := Lib.hid (show promoteV s (some t) = .tuple #[.string (tyB (.base 105)), .int .i64 0] by simp [promoteV, h1, h2])
        rw [h1] at h99; rw [h2] at h115
        clear h hr hs h1 h2
        go_enter Tryz.func18, Tryz.ntmps18
        go_wp2_with (go_at_call 10; (with_reducible refine HF.out.mono ?_); rintro e w1 ⟨rfl, hb1⟩)
        go_ret2
        exact ⟨tup_eq hfin.out.symm, hb1⟩
    · have hfin := Lib.hid (show promoteV s (some t) = .tuple #[.string (tyB (.base 105)), .int .i64 0] by simp [promoteV, h1])
      rw [h1] at h99
      clear h hr hs h1 h115
      go_enter Tryz.func18, Tryz.ntmps18
      go_wp2_with (go_at_call 10; (with_reducible refine HF.out.mono ?_); rintro e w1 ⟨rfl, hb1⟩)
      go_ret2
      exact ⟨tup_eq hfin.out.symm, hb1⟩
set_option maxHeartbeats 2000000 in
theorem refCommon_ok (a b : ByteArray) (w : World) : Calls Tryz.prog 20 #[.string a, .string b] w fun e w' => e = .returned (commonV (tyS a) (tyS b)) ∧ Below w.heap.size w w' := by
  rcases ha : tyS a with _ | t
  · have HF := Lib.hid (refForm_is false a w (by rw [ha]; rfl))
    have hfin := Lib.hid (common_no1 (a := none) (b := tyS b) (.inl rfl))
    clear ha
    go_enter Tryz.func20, Tryz.ntmps20
    go_wp2_with (go_at_call 10; (with_reducible refine HF.out.mono ?_); rintro e w1 ⟨rfl, hb1⟩)
    go_ret2
    exact ⟨tup_eq hfin.out.symm, hb1⟩
  · have HF := Lib.hid (refForm_is true a w (by rw [ha]; rfl))
    rcases hb : tyS b with _ | u
    · have HG := Lib.hid (fun w => refForm_is false b w (by rw [hb]; rfl))
      have hfin := Lib.hid (common_no1 (a := some t) (b := none) (.inr rfl))
      clear ha hb
      go_enter Tryz.func20, Tryz.ntmps20
      go_wp2_with (go_at_call 10; (with_reducible refine HF.out.mono ?_))
      rintro e w1 ⟨rfl, hb1⟩
      go_wp2_with (go_at_call 10; (with_reducible refine (HG.out _).mono ?_))
      rintro e w2 ⟨rfl, hb2⟩
      go_wp2_with fail
      go_ret2
      exact ⟨tup_eq hfin.out.symm, hb1.trans (hb2.mono hb1.size)⟩
    · have HG := Lib.hid (fun w => refForm_is true b w (by rw [hb]; rfl))
      have ia : isIntS a = isIntT t := by unfold isIntS; rw [ha]; rfl
      have ib : isIntS b = isIntT u := by unfold isIntS; rw [hb]; rfl
      obtain ⟨ea, ra, _⟩ := tyS_some.1 ha
      obtain ⟨eb, rb, _⟩ := tyS_some.1 hb
      have ua : (a.toList == [117]) = isC 117 t := by rw [ea]; exact one_is ra 117
      have ub : (b.toList == [117]) = isC 117 u := by rw [eb]; exact one_is rb 117
      rcases h1 : isIntT t with _ | _
      · have HI := Lib.hid (ia.trans h1)
        have hfin := Lib.hid (common_no2 (t := t) (u := u) (.inl h1))
        clear ha hb ia ib ea eb ra rb ua ub h1
        go_enter Tryz.func20, Tryz.ntmps20
        go_wp2_with (go_at_call 10; (with_reducible refine HF.out.mono ?_))
        rintro e w1 ⟨rfl, hb1⟩
        go_wp2_with (go_at_call 10; (with_reducible refine (HG.out _).mono ?_))
        rintro e w2 ⟨rfl, hb2⟩
        go_wp2_with (go_at_call 24; (with_reducible refine (refIsInt_is _ a _ HI.out).mono ?_); rintro e w3 ⟨rfl, rfl⟩)
        go_ret2
        exact ⟨tup_eq hfin.out.symm, hb1.trans (hb2.mono hb1.size)⟩
      · have HI := Lib.hid (ia.trans h1)
        rcases h2 : isIntT u with _ | _
        · have HJ := Lib.hid (ib.trans h2)
          have hfin := Lib.hid (common_no2 (t := t) (u := u) (.inr h2))
          clear ha hb ia ib ea eb ra rb ua ub h1 h2
          go_enter Tryz.func20, Tryz.ntmps20
          go_wp2_with (go_at_call 10; (with_reducible refine HF.out.mono ?_))
          rintro e w1 ⟨rfl, hb1⟩
          go_wp2_with (go_at_call 10; (with_reducible refine (HG.out _).mono ?_))
          rintro e w2 ⟨rfl, hb2⟩
          go_wp2_with (go_at_call 24; (with_reducible refine (refIsInt_is _ a _ HI.out).mono ?_))
          rintro e w3 ⟨rfl, rfl⟩
          go_wp2_with (go_at_call 24; (with_reducible refine (refIsInt_is _ b _ HJ.out).mono ?_); rintro e w3 ⟨rfl, rfl⟩)
          go_ret2
          exact ⟨tup_eq hfin.out.symm, hb1.trans (hb2.mono hb1.size)⟩
        · have HJ := Lib.hid (ib.trans h2)
          rcases h3 : isC 117 t with _ | _
          · rcases h4 : isC 117 u with _ | _
            · have hfin := Lib.hid (common_i h1 h2 h3 h4)
              rw [h3] at ua; rw [h4] at ub
              clear ha hb ia ib ea eb ra rb h1 h2 h3 h4
              go_enter Tryz.func20, Tryz.ntmps20
              go_wp2_with (go_at_call 10; (with_reducible refine HF.out.mono ?_))
              rintro e w1 ⟨rfl, hb1⟩
              go_wp2_with (go_at_call 10; (with_reducible refine (HG.out _).mono ?_))
              rintro e w2 ⟨rfl, hb2⟩
              go_wp2_with (go_at_call 24; (with_reducible refine (refIsInt_is _ a _ HI.out).mono ?_))
              rintro e w3 ⟨rfl, rfl⟩
              go_wp2_with (go_at_call 24; (with_reducible refine (refIsInt_is _ b _ HJ.out).mono ?_); rintro e w3 ⟨rfl, rfl⟩)
              go_ret2
              exact ⟨tup_eq hfin.out.symm, hb1.trans (hb2.mono hb1.size)⟩
            · have hfin := Lib.hid (common_u h1 h2 (.inr h4))
              rw [h3] at ua; rw [h4] at ub
              clear ha hb ia ib ea eb ra rb h1 h2 h3 h4
              go_enter Tryz.func20, Tryz.ntmps20
              go_wp2_with (go_at_call 10; (with_reducible refine HF.out.mono ?_))
              rintro e w1 ⟨rfl, hb1⟩
              go_wp2_with (go_at_call 10; (with_reducible refine (HG.out _).mono ?_))
              rintro e w2 ⟨rfl, hb2⟩
              go_wp2_with (go_at_call 24; (with_reducible refine (refIsInt_is _ a _ HI.out).mono ?_))
              rintro e w3 ⟨rfl, rfl⟩
              go_wp2_with (go_at_call 24; (with_reducible refine (refIsInt_is _ b _ HJ.out).mono ?_); rintro e w3 ⟨rfl, rfl⟩)
              go_ret2
              exact ⟨tup_eq hfin.out.symm, hb1.trans (hb2.mono hb1.size)⟩
          · have hfin := Lib.hid (common_u h1 h2 (.inl h3))
            rw [h3] at ua
            clear ha hb ia ib ea eb ra rb ub h1 h2 h3
            go_enter Tryz.func20, Tryz.ntmps20
            go_wp2_with (go_at_call 10; (with_reducible refine HF.out.mono ?_))
            rintro e w1 ⟨rfl, hb1⟩
            go_wp2_with (go_at_call 10; (with_reducible refine (HG.out _).mono ?_))
            rintro e w2 ⟨rfl, hb2⟩
            go_wp2_with (go_at_call 24; (with_reducible refine (refIsInt_is _ a _ HI.out).mono ?_))
            rintro e w3 ⟨rfl, rfl⟩
            go_wp2_with (go_at_call 24; (with_reducible refine (refIsInt_is _ b _ HJ.out).mono ?_); rintro e w3 ⟨rfl, rfl⟩)
            go_ret2
            exact ⟨tup_eq hfin.out.symm, hb1.trans (hb2.mono hb1.size)⟩

end Go.Proofs.YtmmjmppfmjejkaaGreatDoor
namespace Go.Proofs.YtmmjmppfmjejkaaGreatDoor
open Go.RowKit

theorem comma_app : ∀ {L M : List (List UInt8)}, L ≠ [] → M ≠ [] → commaL (L ++ M) = commaL L ++ 44 :: 32 :: commaL M
  | [], _, h, _ => absurd rfl h
  | [x], [], _, h => absurd rfl h
  | [x], y :: M, _, _ => by simp [commaL]
  | x :: y :: L, M, _, h => by
    have ih := comma_app (L := y :: L) (M := M) (by simp) h
    rw [List.cons_append, List.cons_append, commaL, ← List.cons_append, ih, commaL]
    simp
/-- parameters, so many of them, as they are written -/
def accP (ps : List Ty) (k : Nat) : List UInt8 := if k = 0 then [118, 111, 105, 100] else commaL (declTs (ps.take k))
theorem declTs_snoc (l : List Ty) (t : Ty) : declTs (l ++ [t]) = declTs l ++ [declT t []] := by rw [declTs_map, declTs_map]; simp
theorem acc_first {ps : List Ty} {p : Ty} (h : ps.take 1 = [p]) : accP ps 1 = declT p [] := by rw [accP, if_neg (by decide), h]; rfl
theorem acc_next {ps : List Ty} {k : Nat} {p : Ty} (hk : k ≠ 0) (hn : ps.take k ≠ []) (h : ps.take (k + 1) = ps.take k ++ [p]) : accP ps (k + 1) = accP ps k ++ [44, 32] ++ declT p [] := by
  rw [accP, accP, if_neg (by omega), if_neg hk, h, declTs_snoc, comma_app (by
    intro e; rw [declTs_map, List.map_eq_nil_iff] at e; exact hn e) (by simp)]
  simp [commaL]
theorem acc_len {ps : List Ty} {k : Nat} (h : Rights ps) (hk : k ≤ ps.length) : (accP ps k).length ≤ 4 + 16 * (codes ps).length := by
  rw [accP]
  split
  · simp
  · rename_i h0
    have h1 := decls_len ps h
    rcases Nat.lt_or_ge k ps.length with hlt | hge
    · have hd : declTs ps = declTs (ps.take k) ++ declTs (ps.drop k) := by
        rw [declTs_map, declTs_map, declTs_map, ← List.map_append, List.take_append_drop]
      rw [hd, comma_app (by
        intro e; rw [declTs_map, List.map_eq_nil_iff, List.take_eq_nil_iff] at e
        rcases e with e | e
        · exact h0 e
        · subst e; simp at hlt) (by
        intro e; rw [declTs_map, List.map_eq_nil_iff, List.drop_eq_nil_iff] at e; omega)] at h1
      simp at h1
      omega
    · rw [List.take_of_length_le hge]; omega

set_option maxHeartbeats 4000000 in
set_option maxRecDepth 100000 in
theorem writ_fn (ps : List Ty) (r : Ty) (hr : Right (.fn ps r)) (hl : (code (.fn ps r)).length ≤ 65536) (ih : ∀ p ∈ ps, WritC p) (ihr : WritC r) : WritC (.fn ps r) := by
  intro x w hz
  have hcl : (code (.fn ps r)).length = (codes ps).length + (code r).length + 3 := by rw [code]; simp; omega
  rw [hcl] at hz
  have hps : (ps.length : Int) ≤ 65536 := by have := rights_len hr.1; omega
  have HK := Lib.hid (fun w => kind_is 102 (.fn ps r) w rfl)
  have HS := Lib.hid (fun w => refSplit_fn ps r w hr hl)
  have a1 := add_str x [40] (by simp; omega)
  rw [show strB [40] = ⟨#[40]⟩ from rfl] at a1
  have hal := acc_len (k := ps.length) hr.1 (Nat.le_refl _)
  have a2 := add_str (x ++ [40]) (accP ps ps.length) (by simp; omega)
  have a3 := add_str (x ++ [40] ++ accP ps ps.length) [41] (by simp; omega)
  rw [show strB [41] = ⟨#[41]⟩ from rfl] at a3
  have hd : declT (.fn ps r) x = declT r (x ++ [40] ++ accP ps ps.length ++ [41]) := by
    rw [declT, accP, List.take_length]
    congr 1
    by_cases h0 : ps = []
    · rw [if_pos h0, if_pos (by rw [h0]; rfl)]; simp
    · rw [if_neg h0, if_neg (fun e => h0 (List.eq_nil_of_length_eq_zero e))]; simp
  have hir := fun w => ihr (x ++ [40] ++ accP ps ps.length ++ [41]) w (by simp; omega)
  rw [← hd] at hir
  have HIr := Lib.hid hir
  have HIp := Lib.hid (fun (k : Nat) (hk : k < ps.length) w => ih ps[k] (List.getElem_mem hk) [] w (by
    have := codes_mem' (List.getElem_mem hk)
    simp; omega))
  have HA := Lib.hid (fun k (hk : k ≤ ps.length) => acc_len (k := k) hr.1 hk)
  have HZ := Lib.hid (show 4 + 16 * (codes ps).length ≤ 1100000 by omega)
  generalize tyB (.fn ps r) = s at *
  generalize strB (x ++ [40] ++ accP ps ps.length ++ [41]) = y3 at *
  generalize strB (x ++ [40] ++ accP ps ps.length) = y2 at *
  generalize strB (x ++ [40]) = y1 at *
  generalize strB x = y at *
  clear hr hl hz ih ihr hcl hd hal hir
  go_enter Tryz.func45, Tryz.ntmps45
  go_wp2_with (first | (go_at_call 40; (with_reducible refine (HK.out _).mono ?_); rintro e w1 ⟨rfl, hw1⟩; subst w1) | (go_at_call 79; (with_reducible refine (HS.out _).mono ?_); rintro e w2 ⟨⟨v, rfl, ho⟩, hb2⟩; have HB2 := Lib.hid hb2; have HO2 := Lib.hid ho; obtain ⟨a, cap, rfl, hc⟩ := own_formT ho; have HC := Lib.hid hc; clear hb2 ho hc))
  go_loopg [11, 12] ps.length (fun g v11 v12 wy => ∃ k : Nat, k ≤ ps.length ∧ k + g = ps.length ∧ v12 = .int .i64 (k : Int) ∧ v11 = .string (strB (accP ps k)) ∧ Hid (Below w2.heap.size w2 wy))
  case atStart => exact ⟨0, Nat.zero_le _, by omega, rfl, rfl, Below.refl _ _⟩
  case round =>
    obtain ⟨k, hk, hkg, rfl, rfl, HB⟩ := hrel
    by_cases hlt : k < ps.length
    · obtain ⟨g, rfl, _, hg2, hrow⟩ := HC.out (by omega)
      have e1 : wr.cell? ⟨g, k, none⟩ = some (.string (tyB ps[k])) := by
        rw [HB.out.cell (p := ⟨g, k, none⟩) hg2]
        exact hrow k _ (by rw [List.getElem?_map, List.getElem?_eq_getElem hlt]; rfl)
      have htk : ps.take (k + 1) = ps.take k ++ [ps[k]] := by rw [List.take_add_one, List.getElem?_eq_getElem hlt]; rfl
      have HP := Lib.hid (fun w => show Calls Tryz.prog 45 #[.string (tyB ps[k]), .string ⟨#[]⟩] w fun e w' => e = .returned (.string (strB (declT ps[k] []))) ∧ Below w.heap.size w w' from HIp.out k hlt w)
      have hA := HA.out (k + 1) (by omega)
      have hZ := HZ.out
      generalize ps[k]'hlt = p at *
      by_cases hk0 : k = 0
      · subst hk0
        have hac : accP ps (0 + 1) = declT p [] := acc_first (by rw [htk]; rfl)
        have a4 := add_str [] (declT p []) (by rw [← hac, List.length_nil]; omega)
        rw [List.nil_append, show strB [] = ⟨#[]⟩ from rfl] at a4
        have HAc := Lib.hid (show strB (declT p []) = strB (accP ps 1) by rw [← hac])
        generalize strB (declT p []) = q at *
        generalize tyB p = tp at *
        clear hac hA hrow htk
        go_wp2_with (go_at_call 45; (with_reducible refine (HP.out _).mono ?_); rintro e w3 ⟨rfl, hb3⟩; have HB3 := Lib.hid (HB.out.trans (hb3.mono HB.out.size)); clear hb3)
        go_roundg (ps.length - 1)
        case measure => omega
        case rel => exact ⟨1, by omega, by omega, rfl, by rw [HAc.out], HB3⟩
      · have hne : ps.take k ≠ [] := fun e => by
          have := congrArg List.length e
          rw [List.length_take, Nat.min_eq_left (by omega)] at this
          exact hk0 this
        have hac := acc_next hk0 hne htk
        have hal : (accP ps k).length + 2 + (declT p []).length = (accP ps (k + 1)).length := by rw [hac]; simp; omega
        have a4 := add_str (accP ps k) [44, 32] (by simp; omega)
        have a5 := add_str (accP ps k ++ [44, 32]) (declT p []) (by simp; omega)
        rw [show strB [44, 32] = ⟨#[44, 32]⟩ from rfl] at a4
        have HAc := Lib.hid (show strB (accP ps k ++ [44, 32] ++ declT p []) = strB (accP ps (k + 1)) by rw [hac])
        have t6 : ((k : Int) == 0) = false := by rw [beq_eq_false_iff_ne]; omega
        generalize strB (accP ps k ++ [44, 32] ++ declT p []) = q2 at *
        generalize strB (accP ps k ++ [44, 32]) = q1 at *
        generalize strB (declT p []) = q at *
        generalize strB (accP ps k) = q0 at *
        generalize tyB p = tp at *
        clear hac hA hrow hal hne hk0 htk
        go_wp2_with (go_at_call 45; (with_reducible refine (HP.out _).mono ?_); rintro e w3 ⟨rfl, hb3⟩; have HB3 := Lib.hid (HB.out.trans (hb3.mono HB.out.size)); clear hb3)
        go_roundg (ps.length - (k + 1))
        case measure => omega
        case rel => exact ⟨k + 1, by omega, by omega, by rw [Int.natCast_add]; rfl, by rw [HAc.out], HB3⟩
    · obtain rfl : k = ps.length := by omega
      have t3 : (ps.length : Int) ≤ (ps.length : Int) := Int.le_refl _
      generalize strB (accP ps ps.length) = q0 at *
      go_wp2_with (go_at_call 45; (with_reducible refine (HIr.out _).mono ?_); rintro e w3 ⟨rfl, hb3⟩; have HB3 := Lib.hid (HB.out.trans (hb3.mono HB.out.size)); clear hb3)
      go_ret
      exact ⟨rfl, HB2.out.trans (HB3.out.mono HB2.out.size)⟩

theorem written_ok : ∀ (n : Nat) (t : Ty), (code t).length ≤ n → Right t → (code t).length ≤ 65536 → WritC t
  | 0, t, hn, hr, _ => by have := code_pos hr; omega
  | n + 1, t, hn, hr, hl => by
    cases t with
    | base c => exact writ_root _ hr (.inl ⟨c, rfl⟩) hl
    | str s => exact writ_root _ hr (.inr ⟨s, rfl⟩) hl
    | ptr u => exact writ_ptr u hr hl (written_ok n u (by rw [code] at hn; simp at hn; omega) hr (by rw [code] at hl; simp at hl; omega))
    | arr m u => exact writ_arr m u hr hl (written_ok n u (by rw [code] at hn; simp at hn; omega) hr.2 (by rw [code] at hl; simp at hl; omega))
    | fn ps r =>
      refine writ_fn ps r hr hl (fun p hp => ?_) (written_ok n r (by rw [code] at hn; simp at hn; omega) hr.2 (by rw [code] at hl; simp at hl; omega))
      have h1 := codes_mem' hp
      have h2 : Right p := by
        obtain ⟨a, b, rfl⟩ := List.append_of_mem hp
        exact rights_at hr.1
      rw [code] at hn hl
      simp at hn hl
      exact written_ok n p (by omega) h2 (by omega)

set_option maxHeartbeats 1000000 in
theorem refDeclare_ok (s name : ByteArray) (w : World) : Calls Tryz.prog 22 #[.string s, .string name] w fun e w' => e = .returned (declareV (tyS s) name) ∧ Below w.heap.size w w' := by
  rcases h : tyS s with _ | t
  · have HF := Lib.hid (refForm_is false s w (by rw [h]; rfl))
    clear h
    go_enter Tryz.func22, Tryz.ntmps22
    go_wp2_with (go_at_call 10; (with_reducible refine HF.out.mono ?_); rintro e w1 ⟨rfl, hb1⟩)
    go_ret2
    exact ⟨rfl, hb1⟩
  · have HF := Lib.hid (refForm_is true s w (by rw [h]; rfl))
    obtain ⟨hs, hr, hl⟩ := tyS_some.1 h
    have HD := Lib.hid (fun w (hz : name.size ≤ 31) => show Calls Tryz.prog 45 #[.string s, .string name] w fun e w' => e = .returned (.string (strB (declT t name.data.toList))) ∧ Below w.heap.size w w' by
      have hn : name.data.toList.length = name.size := by rw [Array.length_toList]; rfl
      have := written_ok _ t (Nat.le_refl _) hr hl name.data.toList w (by omega)
      rw [strB_self, ← hs] at this
      exact this)
    by_cases h0 : name = ⟨#[]⟩
    · have hfin := Lib.hid (show declareV (some t) name = .tuple #[.string (strB (declT t name.data.toList)), .int .i64 0] from if_pos (.inl h0))
      have t1 : name.toList.isEmpty = true := by rw [emp_iff]; simpa using h0
      have HZ := Lib.hid (show name.size ≤ 31 by rw [h0]; decide)
      clear h hs hr hl h0
      go_enter Tryz.func22, Tryz.ntmps22
      go_wp2_with (first | (go_at_call 10; (with_reducible refine HF.out.mono ?_); rintro e w1 ⟨rfl, hb1⟩) | (go_at_call 45; (with_reducible refine (HD.out _ HZ.out).mono ?_); rintro e w2 ⟨rfl, hb2⟩))
      go_ret2
      exact ⟨tup_eq hfin.out.symm, hb1.trans (hb2.mono hb1.size)⟩
    · have t1 : name.toList.isEmpty = false := by rw [emp_iff]; simpa using h0
      rcases hn : isNameB name with _ | _
      · have hfin := Lib.hid (show declareV (some t) name = .tuple #[.string ⟨#[]⟩, .int .i64 2] from if_neg (by rintro (h | h); exact h0 h; rw [hn] at h; cases h))
        have HN := Lib.hid (fun w => baseName_any name w)
        rw [hn] at HN
        clear h hs hr hl h0 hn
        go_enter Tryz.func22, Tryz.ntmps22
        go_wp2_with (first | (go_at_call 10; (with_reducible refine HF.out.mono ?_); rintro e w1 ⟨rfl, hb1⟩; have HB1 := Lib.hid hb1; clear hb1) | (go_at_call 44; (with_reducible refine (HN.out _).mono ?_); rintro e w2 ⟨rfl, hb2⟩; have HB2 := Lib.hid (HB1.out.trans (hb2.mono HB1.out.size)); clear hb2))
        go_ret2
        exact ⟨tup_eq hfin.out.symm, HB2.out⟩
      · have hfin := Lib.hid (show declareV (some t) name = .tuple #[.string (strB (declT t name.data.toList)), .int .i64 0] from if_pos (.inr hn))
        have HN := Lib.hid (fun w => baseName_any name w)
        rw [hn] at HN
        have HZ := Lib.hid (name_size hn)
        clear h hs hr hl h0 hn
        go_enter Tryz.func22, Tryz.ntmps22
        go_wp2_with (first | (go_at_call 10; (with_reducible refine HF.out.mono ?_); rintro e w1 ⟨rfl, hb1⟩; have HB1 := Lib.hid hb1; clear hb1) | (go_at_call 44; (with_reducible refine (HN.out _).mono ?_); rintro e w2 ⟨rfl, hb2⟩; have HB2 := Lib.hid (HB1.out.trans (hb2.mono HB1.out.size)); clear hb2) | (go_at_call 45; (with_reducible refine (HD.out _ HZ.out).mono ?_); rintro e w3 ⟨rfl, hb3⟩; have HB3 := Lib.hid (HB2.out.trans (hb3.mono HB2.out.size)); clear hb3))
        go_ret2
        exact ⟨tup_eq hfin.out.symm, HB3.out⟩

set_option maxHeartbeats 1000000 in
theorem refIsScalar_ok (s : ByteArray) (w : World) : Calls Tryz.prog 26 #[.string s] w fun e w' => e = .returned (.bool (isScalS s)) ∧ Below w.heap.size w w' := by
  rcases h : tyS s with _ | t
  · have HF := Lib.hid (refForm_is false s w (by rw [h]; rfl))
    have hfin := Lib.hid (show isScalS s = false by unfold isScalS; rw [h]; rfl)
    clear h
    go_enter Tryz.func26, Tryz.ntmps26
    go_wp2_with (go_at_call 10; (with_reducible refine HF.out.mono ?_); rintro e w1 ⟨rfl, hb1⟩)
    go_ret
    exact ⟨by rw [hfin.out]; rfl, hb1⟩
  · have HF := Lib.hid (refForm_is true s w (by rw [h]; rfl))
    obtain ⟨hs, hr, hl⟩ := tyS_some.1 h
    have hi : isIntS s = isIntT t := by unfold isIntS; rw [h]; rfl
    have hsc : isScalS s = (isIntT t || isPtrT t) := by unfold isScalS; rw [h]; rfl
    have HI := Lib.hid (fun w => refIsInt_is (isIntT t) s w hi)
    rcases h1 : isIntT t with _ | _
    · have hp : (((headT t).toNat : Int) == 112) = isPtrT t := by
        cases t with
        | base c => rcases base_six hr with rfl | rfl | rfl | rfl | rfl | rfl <;> rfl
        | _ => rfl
      have hk := fun w => refKind_ok t w
      rw [← hs] at hk
      have HK := Lib.hid hk
      have hfin := Lib.hid (show isScalS s = isPtrT t by rw [hsc, h1]; rfl)
      rw [h1] at HI
      generalize headT t = c at *
      generalize isPtrT t = b at *
      clear h hs hr hl hi hsc h1 hk
      go_enter Tryz.func26, Tryz.ntmps26
      go_wp2_with (first | (go_at_call 10; (with_reducible refine HF.out.mono ?_); rintro e w1 ⟨rfl, hb1⟩; have HB1 := Lib.hid hb1; clear hb1) | (go_at_call 24; (with_reducible refine (HI.out _).mono ?_); rintro e w2 ⟨rfl, hw2⟩; subst w2) | (go_at_call 40; (with_reducible refine (HK.out _).mono ?_); rintro e w2 ⟨rfl, hw2⟩; subst w2))
      go_ret
      exact ⟨by rw [hfin.out]; rfl, HB1.out⟩
    · have hfin := Lib.hid (show isScalS s = true by rw [hsc, h1]; rfl)
      rw [h1] at HI
      clear h hs hr hl hi hsc h1
      go_enter Tryz.func26, Tryz.ntmps26
      go_wp2_with (first | (go_at_call 10; (with_reducible refine HF.out.mono ?_); rintro e w1 ⟨rfl, hb1⟩; have HB1 := Lib.hid hb1; clear hb1) | (go_at_call 24; (with_reducible refine (HI.out _).mono ?_); rintro e w2 ⟨rfl, hw2⟩; subst w2))
      go_ret
      exact ⟨by rw [hfin.out]; rfl, HB1.out⟩
end Go.Proofs.YtmmjmppfmjejkaaGreatDoor
namespace Go.Proofs.YtmmjmppfmjejkaaGreatDoor
open Go.RowKit

theorem refDecay_none (s : ByteArray) (w : World) (h : tyS s = none) : Calls Tryz.prog 16 #[.string s] w fun e w' => e = .returned (decayV s (tyS s)) ∧ Below w.heap.size w w' := by
  have HF := Lib.hid (refForm_is false s w (by rw [h]; rfl))
  rw [h]
  clear h
  go_enter Tryz.func16, Tryz.ntmps16
  go_wp2_with (go_at_call 10; (with_reducible refine HF.out.mono ?_); rintro e w1 ⟨rfl, hb1⟩)
  go_ret2
  exact ⟨rfl, hb1⟩
set_option maxHeartbeats 1000000 in
theorem refDecay_arr (n : Nat) (u : Ty) (w : World) (h : tyS (tyB (.arr n u)) = some (.arr n u)) : Calls Tryz.prog 16 #[.string (tyB (.arr n u))] w fun e w' => e = .returned (decayV (tyB (.arr n u)) (some (.arr n u))) ∧ Below w.heap.size w w' := by
  obtain ⟨_, hr, hl⟩ := tyS_some.1 h
  have HF := Lib.hid (refForm_is true (tyB (.arr n u)) w (by rw [h]; rfl))
  have HK := Lib.hid (fun w => kind_is 97 (.arr n u) w rfl)
  have HS := Lib.hid (fun w => refInner_arr n u hr hl w)
  have hz : ((tyB u).size : Int) ≤ 8388608 := by
    rw [code] at hl
    simp at hl
    rw [tyB_size]; omega
  have hv := Lib.hid (show .tuple #[.string ((⟨#[112]⟩ : ByteArray) ++ tyB u), .int .i64 0] = decayV (tyB (.arr n u)) (some (.arr n u)) by rw [tyB_ptr]; rfl)
  generalize tyB (.arr n u) = s at *
  clear h hr hl
  go_enter Tryz.func16, Tryz.ntmps16
  go_wp2_with (first | (go_at_call 10; (with_reducible refine HF.out.mono ?_); rintro e w1 ⟨rfl, hb1⟩; have HB1 := Lib.hid hb1; clear hb1) | (go_at_call 40; (with_reducible refine (HK.out _).mono ?_); rintro e w2 ⟨rfl, hw2⟩; subst w2) | (go_at_call 41; (with_reducible refine (HS.out _).mono ?_); rintro e w3 ⟨rfl, hb3⟩; have HB3 := Lib.hid (HB1.out.trans (hb3.mono HB1.out.size)); clear hb3))
  go_ret2
  exact ⟨tup_eq hv.out, HB3.out⟩
set_option maxHeartbeats 1000000 in
set_option maxRecDepth 100000 in
theorem refDecay_turn (t : Ty) (w : World) (h : tyS (tyB t) = some t) (h1 : headT t = 102 ∨ headT t = 106) (hv : decayV (tyB t) (some t) = if 65536 ≤ (tyB t).size then .tuple #[.string ⟨#[]⟩, .int .i64 3] else .tuple #[.string (tyB (.ptr t)), .int .i64 0]) : Calls Tryz.prog 16 #[.string (tyB t)] w fun e w' => e = .returned (decayV (tyB t) (some t)) ∧ Below w.heap.size w w' := by
  have HF := Lib.hid (refForm_is true (tyB t) w (by rw [h]; rfl))
  obtain ⟨_, _, hl⟩ := tyS_some.1 h
  have HK := Lib.hid (fun w => refKind_ok t w)
  have hadd := add_namedT ⟨#[112]⟩ (tyB t) (tyB (.ptr t)) (tyB_ptr t) (by rw [tyB_size]; show 1 + _ ≤ _; omega)
  have HV := Lib.hid hv
  have t1 : (((headT t).toNat : Int) == 97) = false := (byte_ne (d := 97) (by rcases h1 with h | h <;> rw [h] <;> decide) rfl).1
  have t2 : (((headT t).toNat : Int) == 102) = true ∨ ((((headT t).toNat : Int) == 102) = false ∧ (((headT t).toNat : Int) == 106) = true) := by
    rcases h1 with h | h
    · exact .inl (by rw [h]; rfl)
    · exact .inr ⟨by rw [h]; rfl, by rw [h]; rfl⟩
  clear h h1 hl hv
  generalize tyB (.ptr t) = y at *
  generalize tyB t = s at *
  generalize headT t = c at *
  by_cases hbig : 65536 ≤ s.size
  · have hfin := Lib.hid (HV.out.trans (if_pos hbig))
    have t3 : (65536 : Int) ≤ s.size := by omega
    clear hbig
    rcases t2 with t2 | ⟨t2, t4⟩
    all_goals
      go_enter Tryz.func16, Tryz.ntmps16
      go_wp2_with (first | (go_at_call 10; (with_reducible refine HF.out.mono ?_); rintro e w1 ⟨rfl, hb1⟩; have HB1 := Lib.hid hb1; clear hb1) | (go_at_call 40; (with_reducible refine (HK.out _).mono ?_); rintro e w2 ⟨rfl, hw2⟩; subst w2))
      go_ret2
      exact ⟨tup_eq hfin.out.symm, HB1.out⟩
  · have hfin := Lib.hid (HV.out.trans (if_neg hbig))
    have t3 : decide ((65536 : Int) ≤ s.size) = false := by simp; omega
    clear hbig
    rcases t2 with t2 | ⟨t2, t4⟩
    all_goals
      go_enter Tryz.func16, Tryz.ntmps16
      go_wp2_with (first | (go_at_call 10; (with_reducible refine HF.out.mono ?_); rintro e w1 ⟨rfl, hb1⟩; have HB1 := Lib.hid hb1; clear hb1) | (go_at_call 40; (with_reducible refine (HK.out _).mono ?_); rintro e w2 ⟨rfl, hw2⟩; subst w2))
      go_ret2
      exact ⟨tup_eq hfin.out.symm, HB1.out⟩
set_option maxHeartbeats 1000000 in
theorem refDecay_same (t : Ty) (w : World) (h : tyS (tyB t) = some t) (h1 : headT t ≠ 97) (h2 : headT t ≠ 102) (h3 : headT t ≠ 106) (hv : decayV (tyB t) (some t) = .tuple #[.string (tyB t), .int .i64 0]) : Calls Tryz.prog 16 #[.string (tyB t)] w fun e w' => e = .returned (decayV (tyB t) (some t)) ∧ Below w.heap.size w w' := by
  have HF := Lib.hid (refForm_is true (tyB t) w (by rw [h]; rfl))
  have HK := Lib.hid (fun w => refKind_ok t w)
  have HV := Lib.hid hv
  have t1 : (((headT t).toNat : Int) == 97) = false := (byte_ne (d := 97) h1 rfl).1
  have t2 : (((headT t).toNat : Int) == 102) = false := (byte_ne (d := 102) h2 rfl).1
  have t3 : (((headT t).toNat : Int) == 106) = false := (byte_ne (d := 106) h3 rfl).1
  clear h h1 h2 h3 hv
  generalize tyB t = s at *
  generalize headT t = c at *
  go_enter Tryz.func16, Tryz.ntmps16
  go_wp2_with (first | (go_at_call 10; (with_reducible refine HF.out.mono ?_); rintro e w1 ⟨rfl, hb1⟩; have HB1 := Lib.hid hb1; clear hb1) | (go_at_call 40; (with_reducible refine (HK.out _).mono ?_); rintro e w2 ⟨rfl, hw2⟩; subst w2))
  go_ret2
  exact ⟨tup_eq HV.out.symm, HB1.out⟩
theorem refDecay_ok (s : ByteArray) (w : World) : Calls Tryz.prog 16 #[.string s] w fun e w' => e = .returned (decayV s (tyS s)) ∧ Below w.heap.size w w' := by
  rcases h : tyS s with _ | t
  · rw [← h]; exact refDecay_none s w h
  · obtain ⟨rfl, hr, _⟩ := tyS_some.1 h
    cases t with
    | arr n u => exact refDecay_arr n u w h
    | fn ps r => exact refDecay_turn _ w h (.inl rfl) rfl
    | base c =>
      by_cases hc : c = 106
      · subst hc
        exact refDecay_turn _ w h (.inr rfl) (by rw [if_neg (by decide)]; rfl)
      · exact refDecay_same _ w h (by rcases base_six hr with rfl | rfl | rfl | rfl | rfl | rfl <;> decide) (by rcases base_six hr with rfl | rfl | rfl | rfl | rfl | rfl <;> decide) hc (by simp [decayV, hc])
    | str n => exact refDecay_same _ w h (by simp [headT]) (by simp [headT]) (by simp [headT]) rfl
    | ptr u => exact refDecay_same _ w h (by simp [headT]) (by simp [headT]) (by simp [headT]) rfl
end Go.Proofs.YtmmjmppfmjejkaaGreatDoor
