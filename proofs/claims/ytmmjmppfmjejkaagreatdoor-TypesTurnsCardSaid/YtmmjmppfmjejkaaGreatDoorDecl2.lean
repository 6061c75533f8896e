/- How a type is written: the program: pointers, arrays, words. -/
import Derived.Test.YtmmjmppfmjejkaaGreatDoorDecl
import Derived.Deep.DeepCutAuto
namespace Go.Proofs.YtmmjmppfmjejkaaGreatDoor
open Go.RowKit

def DeclC (t : Ty) : Prop := ∀ (x : List UInt8) (w : World), TE w → x.length + 16 * (code t).length ≤ 2000000 →
  Calls Tryz.prog 43 #[.string (tyB t), .string (strB x)] w fun e w' => e = .returned (.string (strB (declT t x))) ∧ Below w.heap.size w w'
theorem ret_strB {a b : List UInt8} (h : a = b) : Ending.returned (.string (strB a)) = .returned (.string (strB b)) := by rw [h]

set_option maxHeartbeats 1000000 in
theorem decl_root (t : Ty) (hr : Right t) (ht : (∃ c, t = .base c) ∨ ∃ n, t = .str n) (hl : (code t).length ≤ 65536) : DeclC t := by
  intro x w _ hz
  have HBs := Lib.hid (fun w => base_ok t w hr ht hl)
  obtain ⟨h0, hc⟩ := tyB_head t
  have hne : headT t ≠ 112 ∧ headT t ≠ 97 ∧ headT t ≠ 102 := by
    rcases ht with ⟨c, rfl⟩ | ⟨n, rfl⟩
    · rcases base_six hr with rfl | rfl | rfl | rfl | rfl | rfl <;> decide
    · simp [headT]
  have t1 : (((tyB t)[0].toNat : Int) == 112) = false := eq_false' (d := 112) hc hne.1
  have t2 : (((tyB t)[0].toNat : Int) == 97) = false := eq_false' (d := 97) hc hne.2.1
  have t3 : (((tyB t)[0].toNat : Int) == 102) = false := eq_false' (d := 102) hc hne.2.2
  have hw : (wordT t).length ≤ 16 * (code t).length := by
    have := decl_len t [] hr
    rcases ht with ⟨c, rfl⟩ | ⟨n, rfl⟩
    · rw [declT, if_pos rfl] at this; simpa using this
    · rw [declT, if_pos rfl] at this; simpa using this
  have hd : declT t x = if x = [] then wordT t else wordT t ++ 32 :: x := by
    rcases ht with ⟨c, rfl⟩ | ⟨n, rfl⟩
    · rw [declT]
    · rw [declT]
  by_cases hx : x = []
  · have hfin := Lib.hid (hd.trans (if_pos hx))
    have t4 := str_emp hx
    generalize tyB t = s at *
    generalize strB x = y at *
    clear hne hw hd hr ht hl hc hx hz
    go_enter Tryz.func43, Tryz.ntmps43
    go_wp2_with (go_at_call 76; (with_reducible refine (HBs.out _).mono ?_); rintro e w1 ⟨rfl, rfl⟩)
    go_ret
    exact ⟨(ret_strB hfin.out.symm), Below.refl _ _⟩
  · have hfin := Lib.hid (hd.trans (if_neg hx))
    have t4 := str_nemp hx
    have a1 := add_str (wordT t) [32] (by simp; omega)
    have a2 := add_str (wordT t ++ [32]) x (by simp; omega)
    rw [show strB [32] = ⟨#[32]⟩ from rfl] at a1
    rw [show wordT t ++ [32] ++ x = declT t x by rw [hfin.out]; simp] at a2
    generalize tyB t = s at *
    generalize strB (declT t x) = y3 at *
    generalize strB (wordT t ++ [32]) = y2 at *
    generalize strB (wordT t) = y1 at *
    generalize strB x = y at *
    clear hne hw hd hr ht hl hc hx hz hfin
    go_enter Tryz.func43, Tryz.ntmps43
    go_wp2_with (go_at_call 76; (with_reducible refine (HBs.out _).mono ?_); rintro e w1 ⟨rfl, rfl⟩)
    go_ret
    exact ⟨rfl, Below.refl _ _⟩

theorem tyB_second (t : Ty) : ∃ h : 1 < (tyB (.ptr t)).size, (tyB (.ptr t))[1] = headT t := by
  have h1 : sfx (tyB (.ptr t)) 1 = code t := by rw [tyB_sfx]; rfl
  obtain ⟨l, hl⟩ : ∃ l, code t = headT t :: l := by cases t <;> exact ⟨_, rfl⟩
  rw [hl] at h1
  obtain ⟨hk, h2, _⟩ := sfx_head h1
  exact ⟨hk, h2⟩
theorem head_arr {t : Ty} (h : Right t) : (((headT t).toNat : Int) == 97) = isArrT t := by
  cases t with
  | base c => rcases base_six h with rfl | rfl | rfl | rfl | rfl | rfl <;> rfl
  | _ => rfl
theorem head_fn {t : Ty} (h : Right t) : (((headT t).toNat : Int) == 102) = isFnT t := by
  cases t with
  | base c => rcases base_six h with rfl | rfl | rfl | rfl | rfl | rfl <;> rfl
  | _ => rfl
set_option maxHeartbeats 2000000 in
theorem decl_ptr (t : Ty) (hr : Right t) (_hl : (code (.ptr t)).length ≤ 65536) (ih : DeclC t) : DeclC (.ptr t) := by
  intro x w hE hz
  have HE := Lib.hid hE
  rw [code] at hz
  simp only [List.length_cons] at hz
  obtain ⟨h0, hc⟩ := tyB_head (.ptr t)
  obtain ⟨h1, hc1⟩ := tyB_second t
  have t1 : (((tyB (.ptr t))[0].toNat : Int) == 112) = true := eq_true' hc
  have t2 : (((tyB (.ptr t))[1].toNat : Int) == 97) = isArrT t := by rw [hc1]; exact head_arr hr
  have t3 : (((tyB (.ptr t))[1].toNat : Int) == 102) = isFnT t := by rw [hc1]; exact head_fn hr
  have HX := Lib.hid (tyB_ext (t := .ptr t) (u := t) (k := 1) rfl)
  have hi1 : (1 : Int) < (tyB (.ptr t)).size := by omega
  have hi2 : (1 : Int) ≤ (tyB (.ptr t)).size := by omega
  have a1 := add_str [42] x (by simp; omega)
  rw [show strB [42] = ⟨#[42]⟩ from rfl] at a1
  have hd : declT (.ptr t) x = declT t (if isArrT t || isFnT t then 40 :: 42 :: x ++ [41] else 42 :: x) := by rw [declT]
  rcases ha : isArrT t with _ | _
  · rcases hf : isFnT t with _ | _
    · have HI := Lib.hid (fun w hE => ih (42 :: x) w hE (by simp; omega))
      have hfin := Lib.hid (show declT t (42 :: x) = declT (.ptr t) x by rw [hd, ha, hf]; rfl)
      rw [ha] at t2; rw [hf] at t3
      generalize tyB (.ptr t) = s at *
      rw [show [42] ++ x = 42 :: x from rfl] at a1
      generalize strB (42 :: x) = y1 at *
      generalize strB x = y at *
      clear hc hc1 hd hr _hl hz ha hf ih hE
      go_enter Tryz.func43, Tryz.ntmps43
      go_upto_region 6 with fail
      have H6 := Lib.hid (HI.out w HE.out)
      go_wp2_with fail
      rw [HX.out]
      refine H6.out.mono ?_
      rintro e w1 ⟨rfl, hb1⟩
      rw [hfin.out]
      go_wp2_with fail
      go_ret
      exact ⟨rfl, hb1⟩
    · have a2 := add_str [40] (42 :: x) (by simp; omega)
      have a3 := add_str (40 :: 42 :: x) [41] (by simp; omega)
      rw [show strB [40] = ⟨#[40]⟩ from rfl, show [40] ++ 42 :: x = 40 :: 42 :: x from rfl] at a2
      rw [show strB [41] = ⟨#[41]⟩ from rfl] at a3
      have HI := Lib.hid (fun w hE => ih (40 :: 42 :: x ++ [41]) w hE (by simp; omega))
      have hfin := Lib.hid (show declT t (40 :: 42 :: x ++ [41]) = declT (.ptr t) x by rw [hd, ha, hf]; rfl)
      rw [ha] at t2; rw [hf] at t3
      generalize tyB (.ptr t) = s at *
      rw [show [42] ++ x = 42 :: x from rfl] at a1
      generalize strB (40 :: 42 :: x ++ [41]) = y3 at *
      generalize strB (40 :: 42 :: x) = y2 at *
      generalize strB (42 :: x) = y1 at *
      generalize strB x = y at *
      clear hc hc1 hd hr _hl hz ha hf ih hE
      go_enter Tryz.func43, Tryz.ntmps43
      go_upto_region 6 with fail
      have H6 := Lib.hid (HI.out w HE.out)
      go_wp2_with fail
      rw [HX.out]
      refine H6.out.mono ?_
      rintro e w1 ⟨rfl, hb1⟩
      rw [hfin.out]
      go_wp2_with fail
      go_ret
      exact ⟨rfl, hb1⟩
  · have a2 := add_str [40] (42 :: x) (by simp; omega)
    have a3 := add_str (40 :: 42 :: x) [41] (by simp; omega)
    rw [show strB [40] = ⟨#[40]⟩ from rfl, show [40] ++ 42 :: x = 40 :: 42 :: x from rfl] at a2
    rw [show strB [41] = ⟨#[41]⟩ from rfl] at a3
    have HI := Lib.hid (fun w hE => ih (40 :: 42 :: x ++ [41]) w hE (by simp; omega))
    have hfin := Lib.hid (show declT t (40 :: 42 :: x ++ [41]) = declT (.ptr t) x by rw [hd, ha]; rfl)
    rw [ha] at t2
    generalize tyB (.ptr t) = s at *
    rw [show [42] ++ x = 42 :: x from rfl] at a1
    generalize strB (40 :: 42 :: x ++ [41]) = y3 at *
    generalize strB (40 :: 42 :: x) = y2 at *
    generalize strB (42 :: x) = y1 at *
    generalize strB x = y at *
    clear hc hc1 hd hr _hl hz ha t3 ih hE
    go_enter Tryz.func43, Tryz.ntmps43
    go_upto_region 6 with fail
    have H6 := Lib.hid (HI.out w HE.out)
    go_wp2_with fail
    rw [HX.out]
    refine H6.out.mono ?_
    rintro e w1 ⟨rfl, hb1⟩
    rw [hfin.out]
    go_wp2_with fail
    go_ret
    exact ⟨rfl, hb1⟩

set_option maxHeartbeats 2000000 in
theorem decl_arr (n : Nat) (t : Ty) (hr : Right (.arr n t)) (hl : (code (.arr n t)).length ≤ 65536) (ih : DeclC t) : DeclC (.arr n t) := by
  intro x w hE hz
  have HE := Lib.hid hE
  have hcl : (code (.arr n t)).length = (Lib.decDigits n).length + (code t).length + 2 := by rw [code]; simp; omega
  rw [hcl] at hz
  obtain ⟨h0, hc⟩ := tyB_head (.arr n t)
  have t1 : (((tyB (.arr n t))[0].toNat : Int) == 112) = false := eq_false' (d := 112) hc (by simp [headT])
  have t2 : (((tyB (.arr n t))[0].toNat : Int) == 97) = true := eq_true' hc
  have HS := Lib.hid (fun w hM => split_arr n t w hr hM hl)
  have hI : Lib.itoa (n : Int) = Lib.decDigits n := by unfold Lib.itoa; rw [if_neg (by omega)]; simp
  have HIt := Lib.hid (fun w hP => show Calls Tryz.prog 74 #[.int .i64 n] w fun e w' => e = .returned (.string (strB (Lib.decDigits n))) ∧ Below w.heap.size w w' by
    have := lexItoa_ok n w hP (by omega) (by have := hr.1; omega)
    rw [hI] at this; exact this)
  have a1 := add_str x [91] (by simp; omega)
  have a2 := add_str (x ++ [91]) (Lib.decDigits n) (by simp; omega)
  have a3 := add_str (x ++ [91] ++ Lib.decDigits n) [93] (by simp; omega)
  rw [show strB [91] = ⟨#[91]⟩ from rfl] at a1
  rw [show strB [93] = ⟨#[93]⟩ from rfl] at a3
  have he : x ++ [91] ++ Lib.decDigits n ++ [93] = x ++ 91 :: Lib.decDigits n ++ [93] := by simp
  rw [he] at a3
  have HI := Lib.hid (fun w hE => ih (x ++ 91 :: Lib.decDigits n ++ [93]) w hE (by simp; omega))
  have hfin := Lib.hid (show declT t (x ++ 91 :: Lib.decDigits n ++ [93]) = declT (.arr n t) x by rw [declT])
  have hnb : (n : Int) ≤ 1099511627776 := by have := hr.1; omega
  generalize tyB (.arr n t) = s at *
  generalize strB (x ++ 91 :: Lib.decDigits n ++ [93]) = y3 at *
  generalize strB (x ++ [91] ++ Lib.decDigits n) = y2 at *
  generalize strB (x ++ [91]) = y1 at *
  generalize strB (Lib.decDigits n) = y0 at *
  generalize strB x = y at *
  clear hc hr hl hz ih hE hcl hI he
  go_enter Tryz.func43, Tryz.ntmps43
  go_wp2_with (go_at_call 39; (with_reducible refine (HS.out _ HE.out.maxl).mono ?_))
  rintro e w1 ⟨rfl, hb1⟩
  have HE1 := Lib.hid (HE.out.below hb1)
  have HB1 := Lib.hid hb1
  clear hb1
  go_wp2_with (go_at_call 74; (with_reducible refine (HIt.out _ HE1.out.pow).mono ?_))
  rintro e w2 ⟨rfl, hb2⟩
  have HE2 := Lib.hid (HE1.out.below hb2)
  have HB2 := Lib.hid (HB1.out.trans (hb2.mono HB1.out.size))
  clear hb2
  go_wp2_with (go_at_call 43; (with_reducible refine (HI.out _ HE2.out).mono ?_))
  rintro e w3 ⟨rfl, hb3⟩
  have HB3 := Lib.hid (HB2.out.trans (hb3.mono HB2.out.size))
  rw [hfin.out]
  clear hb3
  go_wp2_with fail
  go_ret
  exact ⟨rfl, HB3.out⟩

end Go.Proofs.YtmmjmppfmjejkaaGreatDoor
