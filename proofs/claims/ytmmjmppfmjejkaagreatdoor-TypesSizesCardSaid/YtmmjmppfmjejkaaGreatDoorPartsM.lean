/- Elem, Sign, Decay, Promote, Common: what they tell. · Decay, Promote: the program. · Common: the program. · How a type is written: the program, but for functions. · How a type is written: the program: pointers, arrays, words. · How a type is written: the program: functions, all types. · Declare: the program. -/
import Derived.Test.YtmmjmppfmjejkaaGreatDoorParts
import Derived.Test.YtmmjmppfmjejkaaGreatDoorTyDecl
import Derived.IntWalk
import Derived.Deep.DeepCutAuto
import Derived.Laws.AppendOwn
import Derived.Deep.LoopGhost
namespace Go.Proofs.YtmmjmppfmjejkaaGreatDoor
open Go.RowKit

def isC (c : UInt8) : Ty → Bool
  | .base d => decide (d = c)
  | _ => false
def elemV : Option Ty → Value
  | none => .tuple #[.string ⟨#[]⟩, .int .i64 0, .int .i64 2]
  | some (.ptr u) => .tuple #[.string (tyB u), .int .i64 0, .int .i64 0]
  | some (.arr n u) => .tuple #[.string (tyB u), .int .i64 n, .int .i64 0]
  | some _ => .tuple #[.string ⟨#[]⟩, .int .i64 0, .int .i64 5]
/-- what is told of a function's parts -/
def SignP (r : Option Ty) (w : World) (e : Ending) (w' : World) : Prop :=
  (match r with
    | none => e = .returned (.tuple #[.string ⟨#[]⟩, .slice none 0 0, .int .i64 2])
    | some (.fn ps r) => ∃ v, e = .returned (.tuple #[.string (tyB r), v, .int .i64 0]) ∧ w'.ownsRow w.heap.size 22 1 v ps.length (ps.map fun p => .string (tyB p))
    | some _ => e = .returned (.tuple #[.string ⟨#[]⟩, .slice none 0 0, .int .i64 5])) ∧ Below w.heap.size w w'
def decayV (s : ByteArray) : Option Ty → Value
  | none => .tuple #[.string ⟨#[]⟩, .int .i64 2]
  | some (.arr _ u) => .tuple #[.string (tyB (.ptr u)), .int .i64 0]
  | some (.fn ps r) => if 65536 ≤ s.size then .tuple #[.string ⟨#[]⟩, .int .i64 3] else .tuple #[.string (tyB (.ptr (.fn ps r))), .int .i64 0]
  | some (.base c) => if c = 106 then .tuple #[.string (tyB (.ptr (.base c))), .int .i64 0] else .tuple #[.string s, .int .i64 0]
  | some _ => .tuple #[.string s, .int .i64 0]
def promoteV (s : ByteArray) : Option Ty → Value
  | none => .tuple #[.string ⟨#[]⟩, .int .i64 2]
  | some t => if (isC 99 t || isC 115 t) = true then .tuple #[.string (tyB (.base 105)), .int .i64 0] else .tuple #[.string s, .int .i64 0]
def commonV : Option Ty → Option Ty → Value
  | some t, some u => if (isIntT t && isIntT u) = true then (if (isC 117 t || isC 117 u) = true then .tuple #[.string (tyB (.base 117)), .int .i64 0] else .tuple #[.string (tyB (.base 105)), .int .i64 0]) else .tuple #[.string ⟨#[]⟩, .int .i64 5]
  | _, _ => .tuple #[.string ⟨#[]⟩, .int .i64 2]

theorem tup_eq {a b : Value} (h : a = b) : Ending.returned a = .returned b := by rw [h]
theorem base_six {c : UInt8} (h : isBase c = true) : c = 118 ∨ c = 99 ∨ c = 115 ∨ c = 105 ∨ c = 117 ∨ c = 106 := by
  unfold isBase at h
  rw [List.contains_iff_mem] at h
  simpa using h
/-- the first letter of a type, as the tests ask -/
def headT : Ty → UInt8
  | .base c => c
  | .ptr _ => 112
  | .arr _ _ => 97
  | .str _ => 83
  | .fn _ _ => 102
theorem tyB_head (t : Ty) : ∃ h : 0 < (tyB t).size, (tyB t)[0] = headT t := by
  cases t with
  | base c => exact tyB_get (t := .base c) rfl
  | ptr u => exact tyB_get (t := .ptr u) rfl
  | arr n u => exact tyB_get (t := .arr n u) rfl
  | str n => exact tyB_get (t := .str n) rfl
  | fn ps r => exact tyB_get (t := .fn ps r) rfl
theorem ne_true {s : ByteArray} {h : 0 < s.size} {c d : UInt8} (hc : s[0] = c) (hd : c ≠ d) : ((s[0].toNat : Int) != (d.toNat : Int)) = true := by
  rw [hc, bne_iff_ne]
  intro e
  exact hd (UInt8.toNat_inj.1 (by omega))
theorem ne_false {s : ByteArray} {h : 0 < s.size} {c : UInt8} (hc : s[0] = c) : ((s[0].toNat : Int) != (c.toNat : Int)) = false := by rw [hc]; simp
theorem eq_false' {s : ByteArray} {h : 0 < s.size} {c d : UInt8} (hc : s[0] = c) (hd : c ≠ d) : ((s[0].toNat : Int) == (d.toNat : Int)) = false := by
  rw [hc, beq_eq_false_iff_ne]
  intro e
  exact hd (UInt8.toNat_inj.1 (by omega))
theorem eq_true' {s : ByteArray} {h : 0 < s.size} {c : UInt8} (hc : s[0] = c) : ((s[0].toNat : Int) == (c.toNat : Int)) = true := by rw [hc]; simp

end Go.Proofs.YtmmjmppfmjejkaaGreatDoor
namespace Go.Proofs.YtmmjmppfmjejkaaGreatDoor
open Go.RowKit

theorem add_namedT (a b y : ByteArray) (hy : a ++ b = y) (h : a.size + b.size ≤ 9223372036854775807) : ∀ w, (Op.stringOp .add a b).run Tryz.prog w = .ok (.string y) w := fun w => by rw [← hy]; exact run_string_add_sum w a b h
theorem tyB_ptr (t : Ty) : (⟨#[112]⟩ : ByteArray) ++ tyB t = tyB (.ptr t) := tyB_eq (by simp [tyB_list, code])
set_option maxHeartbeats 1000000 in
theorem decay_none (s : ByteArray) (w : World) (hE : TE w) (h : tyS s = none) : Calls Tryz.prog 15 #[.string s] w fun e w' => e = .returned (decayV s (tyS s)) ∧ Below w.heap.size w w' := by
  have HF := Lib.hid (form_is false s w hE (by rw [h]; rfl))
  rw [h]
  clear h hE
  go_enter Tryz.func15, Tryz.ntmps15
  go_wp2_with (go_at_call 9; (with_reducible refine HF.out.mono ?_); rintro e w1 ⟨rfl, hb1⟩)
  go_ret2
  exact ⟨rfl, hb1⟩
set_option maxHeartbeats 1000000 in
theorem decay_arr (n : Nat) (u : Ty) (w : World) (hE : TE w) (h : tyS (tyB (.arr n u)) = some (.arr n u)) : Calls Tryz.prog 15 #[.string (tyB (.arr n u))] w fun e w' => e = .returned (decayV (tyB (.arr n u)) (some (.arr n u))) ∧ Below w.heap.size w w' := by
  have HE := Lib.hid hE
  obtain ⟨_, hr, hl⟩ := tyS_some.1 h
  have HF := Lib.hid (form_is true (tyB (.arr n u)) w hE (by rw [h]; rfl))
  have HS := Lib.hid (fun w hM => split_arr n u w hr hM hl)
  obtain ⟨h0, hc⟩ := tyB_head (.arr n u)
  have t2 : (((tyB (.arr n u))[0].toNat : Int) == 97) = true := eq_true' hc
  have hz : ((tyB u).size : Int) ≤ 8388608 := by
    rw [code] at hl
    simp at hl
    rw [tyB_size]; omega
  have hv := Lib.hid (show .tuple #[.string ((⟨#[112]⟩ : ByteArray) ++ tyB u), .int .i64 0] = decayV (tyB (.arr n u)) (some (.arr n u)) by rw [tyB_ptr]; rfl)
  generalize tyB (.arr n u) = s at *
  clear h hE hc hr hl
  go_enter Tryz.func15, Tryz.ntmps15
  go_wp2_with (first | (go_at_call 9; (with_reducible refine HF.out.mono ?_); rintro e w1 ⟨rfl, hb1⟩; have HE1 := Lib.hid (HE.out.below hb1)) | (go_at_call 39; (with_reducible refine (HS.out _ HE1.out.maxl).mono ?_); rintro e w2 ⟨rfl, hb2⟩))
  go_ret2
  exact ⟨tup_eq hv.out, hb1.trans (hb2.mono hb1.size)⟩
set_option maxHeartbeats 1000000 in
set_option maxRecDepth 100000 in
theorem decay_turn (t : Ty) (w : World) (hE : TE w) (h : tyS (tyB t) = some t) (h1 : headT t = 102 ∨ headT t = 106) (hv : decayV (tyB t) (some t) = if 65536 ≤ (tyB t).size then .tuple #[.string ⟨#[]⟩, .int .i64 3] else .tuple #[.string (tyB (.ptr t)), .int .i64 0]) : Calls Tryz.prog 15 #[.string (tyB t)] w fun e w' => e = .returned (decayV (tyB t) (some t)) ∧ Below w.heap.size w w' := by
  have HF := Lib.hid (form_is true (tyB t) w hE (by rw [h]; rfl))
  obtain ⟨_, _, hl⟩ := tyS_some.1 h
  obtain ⟨h0, hc⟩ := tyB_head t
  have hadd := add_namedT ⟨#[112]⟩ (tyB t) (tyB (.ptr t)) (tyB_ptr t) (by rw [tyB_size]; show 1 + _ ≤ _; omega)
  have HV := Lib.hid hv
  have t1 : (((tyB t)[0].toNat : Int) == 97) = false := eq_false' (d := 97) hc (by rcases h1 with h | h <;> rw [h] <;> decide)
  have t2 : (((tyB t)[0].toNat : Int) == 102) = true ∨ ((((tyB t)[0].toNat : Int) == 102) = false ∧ (((tyB t)[0].toNat : Int) == 106) = true) := by
    rcases h1 with h | h
    · exact .inl (by rw [hc, h]; rfl)
    · exact .inr ⟨by rw [hc, h]; rfl, by rw [hc, h]; rfl⟩
  have hsz := Lib.hid (rfl : tyB t = tyB t)
  clear h hE hc h1 hl hv hsz
  generalize tyB (.ptr t) = y at *
  generalize tyB t = s at *
  by_cases hbig : 65536 ≤ s.size
  · have hfin := Lib.hid (HV.out.trans (if_pos hbig))
    have t3 : (65536 : Int) ≤ s.size := by omega
    clear hbig
    rcases t2 with t2 | ⟨t2, t3⟩
    all_goals
      go_enter Tryz.func15, Tryz.ntmps15
      go_wp2_with (go_at_call 9; (with_reducible refine HF.out.mono ?_); rintro e w1 ⟨rfl, hb1⟩)
      go_ret2
      exact ⟨tup_eq hfin.out.symm, hb1⟩
  · have hfin := Lib.hid (HV.out.trans (if_neg hbig))
    have t3 : decide ((65536 : Int) ≤ s.size) = false := by simp; omega
    clear hbig
    rcases t2 with t2 | ⟨t2, t4⟩
    all_goals
      go_enter Tryz.func15, Tryz.ntmps15
      go_wp2_with (go_at_call 9; (with_reducible refine HF.out.mono ?_); rintro e w1 ⟨rfl, hb1⟩)
      go_ret2
      exact ⟨tup_eq hfin.out.symm, hb1⟩
set_option maxHeartbeats 1000000 in
theorem decay_same (t : Ty) (w : World) (hE : TE w) (h : tyS (tyB t) = some t) (h1 : headT t ≠ 97) (h2 : headT t ≠ 102) (h3 : headT t ≠ 106) (hv : decayV (tyB t) (some t) = .tuple #[.string (tyB t), .int .i64 0]) : Calls Tryz.prog 15 #[.string (tyB t)] w fun e w' => e = .returned (decayV (tyB t) (some t)) ∧ Below w.heap.size w w' := by
  have HF := Lib.hid (form_is true (tyB t) w hE (by rw [h]; rfl))
  obtain ⟨h0, hc⟩ := tyB_head t
  have HV := Lib.hid hv
  have t1 : (((tyB t)[0].toNat : Int) == 97) = false := eq_false' (d := 97) hc h1
  have t2 : (((tyB t)[0].toNat : Int) == 102) = false := eq_false' (d := 102) hc h2
  have t3 : (((tyB t)[0].toNat : Int) == 106) = false := eq_false' (d := 106) hc h3
  clear h hE hc h1 h2 h3 hv
  generalize tyB t = s at *
  go_enter Tryz.func15, Tryz.ntmps15
  go_wp2_with (go_at_call 9; (with_reducible refine HF.out.mono ?_); rintro e w1 ⟨rfl, hb1⟩)
  go_ret2
  exact ⟨tup_eq HV.out.symm, hb1⟩
theorem decay_ok (s : ByteArray) (w : World) (hE : TE w) : Calls Tryz.prog 15 #[.string s] w fun e w' => e = .returned (decayV s (tyS s)) ∧ Below w.heap.size w w' := by
  rcases h : tyS s with _ | t
  · rw [← h]; exact decay_none s w hE h
  · obtain ⟨rfl, hr, _⟩ := tyS_some.1 h
    cases t with
    | arr n u => exact decay_arr n u w hE h
    | fn ps r => exact decay_turn _ w hE h (.inl rfl) rfl
    | base c =>
      by_cases hc : c = 106
      · subst hc
        exact decay_turn _ w hE h (.inr rfl) (by rw [if_neg (by decide)]; rfl)
      · exact decay_same _ w hE h (by rcases base_six hr with rfl | rfl | rfl | rfl | rfl | rfl <;> decide) (by rcases base_six hr with rfl | rfl | rfl | rfl | rfl | rfl <;> decide) hc (by simp [decayV, hc])
    | str n => exact decay_same _ w hE h (by simp [headT]) (by simp [headT]) (by simp [headT]) rfl
    | ptr u => exact decay_same _ w hE h (by simp [headT]) (by simp [headT]) (by simp [headT]) rfl

theorem one_is {t : Ty} (h : Right t) (c : UInt8) : ((tyB t).toList == [c]) = isC c t := by
  rw [str_one, Bool.eq_iff_iff, decide_eq_true_iff, one_base h]
  cases t <;> simp [isC]
set_option maxHeartbeats 1000000 in
theorem promote_ok (s : ByteArray) (w : World) (hE : TE w) : Calls Tryz.prog 17 #[.string s] w fun e w' => e = .returned (promoteV s (tyS s)) ∧ Below w.heap.size w w' := by
  rcases h : tyS s with _ | t
  · have HF := Lib.hid (form_is false s w hE (by rw [h]; rfl))
    clear h hE
    go_enter Tryz.func17, Tryz.ntmps17
    go_wp2_with (go_at_call 9; (with_reducible refine HF.out.mono ?_); rintro e w1 ⟨rfl, hb1⟩)
    go_ret2
    exact ⟨rfl, hb1⟩
  · obtain ⟨rfl, hr, _⟩ := tyS_some.1 h
    have HF := Lib.hid (form_is true (tyB t) w hE (by rw [h]; rfl))
    have h99 := one_is hr 99
    have h115 := one_is hr 115
    generalize hs : tyB t = s at *
    rcases h1 : isC 99 t with _ | _
    · rcases h2 : isC 115 t with _ | _
      · have hfin := Lib.hid (show promoteV s (some t) = .tuple #[.string s, .int .i64 0] by simp [promoteV, h1, h2])
        rw [h1] at h99; rw [h2] at h115
        clear h hE hr hs h1 h2
        go_enter Tryz.func17, Tryz.ntmps17
        go_wp2_with (go_at_call 9; (with_reducible refine HF.out.mono ?_); rintro e w1 ⟨rfl, hb1⟩)
        go_ret2
        exact ⟨tup_eq hfin.out.symm, hb1⟩
      · have hfin := Lib.hid (show promoteV s (some t) = .tuple #[.string (tyB (.base 105)), .int .i64 0] by simp [promoteV, h1, h2])
        rw [h1] at h99; rw [h2] at h115
        clear h hE hr hs h1 h2
        go_enter Tryz.func17, Tryz.ntmps17
        go_wp2_with (go_at_call 9; (with_reducible refine HF.out.mono ?_); rintro e w1 ⟨rfl, hb1⟩)
        go_ret2
        exact ⟨tup_eq hfin.out.symm, hb1⟩
    · have hfin := Lib.hid (show promoteV s (some t) = .tuple #[.string (tyB (.base 105)), .int .i64 0] by simp [promoteV, h1])
      rw [h1] at h99
      clear h hE hr hs h1 h115
      go_enter Tryz.func17, Tryz.ntmps17
      go_wp2_with (go_at_call 9; (with_reducible refine HF.out.mono ?_); rintro e w1 ⟨rfl, hb1⟩)
      go_ret2
      exact ⟨tup_eq hfin.out.symm, hb1⟩

end Go.Proofs.YtmmjmppfmjejkaaGreatDoor
namespace Go.Proofs.YtmmjmppfmjejkaaGreatDoor
open Go.RowKit

theorem common_no1 {a b : Option Ty} (h : a = none ∨ b = none) : commonV a b = .tuple #[.string ⟨#[]⟩, .int .i64 2] := by
  rcases h with rfl | rfl
  · rfl
  · cases a <;> rfl
theorem common_no2 {t u : Ty} (h : isIntT t = false ∨ isIntT u = false) : commonV (some t) (some u) = .tuple #[.string ⟨#[]⟩, .int .i64 5] := by
  rcases h with h | h <;> simp [commonV, h]
theorem common_u {t u : Ty} (h1 : isIntT t = true) (h2 : isIntT u = true) (h : isC 117 t = true ∨ isC 117 u = true) : commonV (some t) (some u) = .tuple #[.string (tyB (.base 117)), .int .i64 0] := by
  rcases h with h | h <;> simp [commonV, h1, h2, h]
theorem common_i {t u : Ty} (h1 : isIntT t = true) (h2 : isIntT u = true) (h3 : isC 117 t = false) (h4 : isC 117 u = false) : commonV (some t) (some u) = .tuple #[.string (tyB (.base 105)), .int .i64 0] := by
  simp [commonV, h1, h2, h3, h4]

set_option maxHeartbeats 2000000 in
theorem common_ok (a b : ByteArray) (w : World) (hE : TE w) : Calls Tryz.prog 19 #[.string a, .string b] w fun e w' => e = .returned (commonV (tyS a) (tyS b)) ∧ Below w.heap.size w w' := by
  have HE := Lib.hid hE
  rcases ha : tyS a with _ | t
  · have HF := Lib.hid (form_is false a w hE (by rw [ha]; rfl))
    have hfin := Lib.hid (common_no1 (a := none) (b := tyS b) (.inl rfl))
    clear ha hE
    go_enter Tryz.func19, Tryz.ntmps19
    go_wp2_with (go_at_call 9; (with_reducible refine HF.out.mono ?_); rintro e w1 ⟨rfl, hb1⟩)
    go_ret2
    exact ⟨tup_eq hfin.out.symm, hb1⟩
  · have HF := Lib.hid (form_is true a w hE (by rw [ha]; rfl))
    rcases hb : tyS b with _ | u
    · have HG := Lib.hid (fun w hE => form_is false b w hE (by rw [hb]; rfl))
      have hfin := Lib.hid (common_no1 (a := some t) (b := none) (.inr rfl))
      clear ha hb hE
      go_enter Tryz.func19, Tryz.ntmps19
      go_wp2_with (go_at_call 9; (with_reducible refine HF.out.mono ?_))
      rintro e w1 ⟨rfl, hb1⟩
      go_wp2_with (go_at_call 9; (with_reducible refine (HG.out _ (HE.out.below hb1)).mono ?_))
      rintro e w2 ⟨rfl, hb2⟩
      go_wp2_with fail
      go_ret2
      exact ⟨tup_eq hfin.out.symm, hb1.trans (hb2.mono hb1.size)⟩
    · have HG := Lib.hid (fun w hE => form_is true b w hE (by rw [hb]; rfl))
      have ia : isIntS a = isIntT t := by unfold isIntS; rw [ha]; rfl
      have ib : isIntS b = isIntT u := by unfold isIntS; rw [hb]; rfl
      obtain ⟨ea, ra, _⟩ := tyS_some.1 ha
      obtain ⟨eb, rb, _⟩ := tyS_some.1 hb
      have ua : (a.toList == [117]) = isC 117 t := by rw [ea]; exact one_is ra 117
      have ub : (b.toList == [117]) = isC 117 u := by rw [eb]; exact one_is rb 117
      rcases h1 : isIntT t with _ | _
      · have HI := Lib.hid (ia.trans h1)
        have hfin := Lib.hid (common_no2 (t := t) (u := u) (.inl h1))
        clear ha hb hE ia ib ea eb ra rb ua ub h1
        go_enter Tryz.func19, Tryz.ntmps19
        go_wp2_with (go_at_call 9; (with_reducible refine HF.out.mono ?_))
        rintro e w1 ⟨rfl, hb1⟩
        go_wp2_with (go_at_call 9; (with_reducible refine (HG.out _ (HE.out.below hb1)).mono ?_))
        rintro e w2 ⟨rfl, hb2⟩
        go_wp2_with (go_at_call 23; (with_reducible refine (isInt_is _ a _ HI.out).mono ?_); rintro e w3 ⟨rfl, rfl⟩)
        go_ret2
        exact ⟨tup_eq hfin.out.symm, hb1.trans (hb2.mono hb1.size)⟩
      · have HI := Lib.hid (ia.trans h1)
        rcases h2 : isIntT u with _ | _
        · have HJ := Lib.hid (ib.trans h2)
          have hfin := Lib.hid (common_no2 (t := t) (u := u) (.inr h2))
          clear ha hb hE ia ib ea eb ra rb ua ub h1 h2
          go_enter Tryz.func19, Tryz.ntmps19
          go_wp2_with (go_at_call 9; (with_reducible refine HF.out.mono ?_))
          rintro e w1 ⟨rfl, hb1⟩
          go_wp2_with (go_at_call 9; (with_reducible refine (HG.out _ (HE.out.below hb1)).mono ?_))
          rintro e w2 ⟨rfl, hb2⟩
          go_wp2_with (go_at_call 23; (with_reducible refine (isInt_is _ a _ HI.out).mono ?_))
          rintro e w3 ⟨rfl, rfl⟩
          go_wp2_with (go_at_call 23; (with_reducible refine (isInt_is _ b _ HJ.out).mono ?_); rintro e w3 ⟨rfl, rfl⟩)
          go_ret2
          exact ⟨tup_eq hfin.out.symm, hb1.trans (hb2.mono hb1.size)⟩
        · have HJ := Lib.hid (ib.trans h2)
          rcases h3 : isC 117 t with _ | _
          · rcases h4 : isC 117 u with _ | _
            · have hfin := Lib.hid (common_i h1 h2 h3 h4)
              rw [h3] at ua; rw [h4] at ub
              clear ha hb hE ia ib ea eb ra rb h1 h2 h3 h4
              go_enter Tryz.func19, Tryz.ntmps19
              go_wp2_with (go_at_call 9; (with_reducible refine HF.out.mono ?_))
              rintro e w1 ⟨rfl, hb1⟩
              go_wp2_with (go_at_call 9; (with_reducible refine (HG.out _ (HE.out.below hb1)).mono ?_))
              rintro e w2 ⟨rfl, hb2⟩
              go_wp2_with (go_at_call 23; (with_reducible refine (isInt_is _ a _ HI.out).mono ?_))
              rintro e w3 ⟨rfl, rfl⟩
              go_wp2_with (go_at_call 23; (with_reducible refine (isInt_is _ b _ HJ.out).mono ?_); rintro e w3 ⟨rfl, rfl⟩)
              go_ret2
              exact ⟨tup_eq hfin.out.symm, hb1.trans (hb2.mono hb1.size)⟩
            · have hfin := Lib.hid (common_u h1 h2 (.inr h4))
              rw [h3] at ua; rw [h4] at ub
              clear ha hb hE ia ib ea eb ra rb h1 h2 h3 h4
              go_enter Tryz.func19, Tryz.ntmps19
              go_wp2_with (go_at_call 9; (with_reducible refine HF.out.mono ?_))
              rintro e w1 ⟨rfl, hb1⟩
              go_wp2_with (go_at_call 9; (with_reducible refine (HG.out _ (HE.out.below hb1)).mono ?_))
              rintro e w2 ⟨rfl, hb2⟩
              go_wp2_with (go_at_call 23; (with_reducible refine (isInt_is _ a _ HI.out).mono ?_))
              rintro e w3 ⟨rfl, rfl⟩
              go_wp2_with (go_at_call 23; (with_reducible refine (isInt_is _ b _ HJ.out).mono ?_); rintro e w3 ⟨rfl, rfl⟩)
              go_ret2
              exact ⟨tup_eq hfin.out.symm, hb1.trans (hb2.mono hb1.size)⟩
          · have hfin := Lib.hid (common_u h1 h2 (.inl h3))
            rw [h3] at ua
            clear ha hb hE ia ib ea eb ra rb ub h1 h2 h3
            go_enter Tryz.func19, Tryz.ntmps19
            go_wp2_with (go_at_call 9; (with_reducible refine HF.out.mono ?_))
            rintro e w1 ⟨rfl, hb1⟩
            go_wp2_with (go_at_call 9; (with_reducible refine (HG.out _ (HE.out.below hb1)).mono ?_))
            rintro e w2 ⟨rfl, hb2⟩
            go_wp2_with (go_at_call 23; (with_reducible refine (isInt_is _ a _ HI.out).mono ?_))
            rintro e w3 ⟨rfl, rfl⟩
            go_wp2_with (go_at_call 23; (with_reducible refine (isInt_is _ b _ HJ.out).mono ?_); rintro e w3 ⟨rfl, rfl⟩)
            go_ret2
            exact ⟨tup_eq hfin.out.symm, hb1.trans (hb2.mono hb1.size)⟩

end Go.Proofs.YtmmjmppfmjejkaaGreatDoor
namespace Go.Proofs.YtmmjmppfmjejkaaGreatDoor
open Go.RowKit

/-- a string by its bytes -/
def strB (l : List UInt8) : ByteArray := ⟨l.toArray⟩
theorem strB_list (l : List UInt8) : (strB l).data.toList = l := by simp [strB]
theorem strB_size (l : List UInt8) : (strB l).size = l.length := by simp [strB, ByteArray.size]
theorem strB_eq {x : ByteArray} {l : List UInt8} (h : x.data.toList = l) : x = strB l := toList_eq (by rw [h, strB_list])
theorem strB_self (x : ByteArray) : strB x.data.toList = x := (strB_eq rfl).symm
theorem strB_append (a b : List UInt8) : strB a ++ strB b = strB (a ++ b) := strB_eq (by simp [strB_list])
/-- a sum of strings -/
theorem add_str (a b : List UInt8) (h : a.length + b.length ≤ 9223372036854775807) : ∀ w, (Op.stringOp .add (strB a) (strB b)).run Tryz.prog w = .ok (.string (strB (a ++ b))) w :=
  add_namedT _ _ _ (strB_append a b) (by rw [strB_size, strB_size]; exact h)
theorem strB_isEmpty (l : List UInt8) : (strB l).toList.isEmpty = l.isEmpty := by rw [Lib.toList_data, strB_list]
theorem str_emp {l : List UInt8} (h : l = []) : (strB l).toList.isEmpty = true := by rw [strB_isEmpty, h]; rfl
theorem str_nemp {l : List UInt8} (h : l ≠ []) : (strB l).toList.isEmpty = false := by rw [strB_isEmpty]; simpa using h

mutual
theorem decl_len : ∀ (t : Ty) (x : List UInt8), Right t → (declT t x).length ≤ x.length + 16 * (code t).length
  | .base c, x, h => by
    have hw : (wordT (.base c)).length ≤ 8 := by
      simp only [wordT]
      repeat' split
      all_goals decide
    rw [declT, code]
    split
    · simp at *; omega
    · simp at *; omega
  | .str n, x, h => by
    rw [declT, code]
    split
    · simp [wordT]; omega
    · simp [wordT]; omega
  | .ptr t, x, h => by
    rw [declT, code]
    have := decl_len t (if isArrT t || isFnT t then 40 :: 42 :: x ++ [41] else 42 :: x) h
    split at this
    · rename_i e; rw [if_pos e]; simp at this ⊢; omega
    · rename_i e; rw [if_neg e]; simp at this ⊢; omega
  | .arr n t, x, h => by
    rw [declT, code]
    have := decl_len t (x ++ 91 :: Lib.decDigits n ++ [93]) h.2
    simp at this ⊢; omega
  | .fn ps r, x, h => by
    rw [declT, code]
    have h1 := decl_len r (x ++ 40 :: (if ps = [] then [118, 111, 105, 100] else commaL (declTs ps)) ++ [41]) h.2
    have h2 := decls_len ps h.1
    have h3 : (if ps = [] then ([118, 111, 105, 100] : List UInt8) else commaL (declTs ps)).length ≤ 4 + 16 * (codes ps).length := by
      split
      · simp
      · omega
    simp at h1 ⊢; omega
theorem decls_len : ∀ (ps : List Ty), Rights ps → (commaL (declTs ps)).length ≤ 16 * (codes ps).length
  | [], _ => by simp [declTs, commaL]
  | [t], h => by
    have := decl_len t [] h.1
    rw [declTs, declTs, commaL, codes_cons]
    simp at this ⊢; omega
  | t :: u :: l, h => by
    have h1 := decl_len t [] h.1
    have h2 := decls_len (u :: l) h.2
    rw [declTs] at h2 ⊢
    rw [declTs, commaL, codes_cons, codes'_cons]
    simp at h1 h2 ⊢; omega
end

set_option maxHeartbeats 1000000 in
theorem base_ok (t : Ty) (w : World) (hr : Right t) (ht : (∃ c, t = .base c) ∨ ∃ n, t = .str n) (hl : (code t).length ≤ 65536) : Calls Tryz.prog 76 #[.string (tyB t)] w fun e w' => e = .returned (.string (strB (wordT t))) ∧ w' = w := by
  rcases ht with ⟨c, rfl⟩ | ⟨n, rfl⟩
  · rcases base_six hr with rfl | rfl | rfl | rfl | rfl | rfl
    all_goals
      have t1 := one_is hr 118
      have t2 := one_is hr 99
      have t3 := one_is hr 115
      have t4 := one_is hr 105
      have t5 := one_is hr 117
      have t6 := one_is hr 106
      simp (decide := true) only [isC] at t1 t2 t3 t4 t5 t6
      generalize tyB (.base _) = s at *
      clear hr
      go_enter Tryz.func76, Tryz.ntmps76
      go_wp2_with fail
      go_ret
      exact ⟨rfl, rfl⟩
  · have t1 := one_is hr 118
    have t2 := one_is hr 99
    have t3 := one_is hr 115
    have t4 := one_is hr 105
    have t5 := one_is hr 117
    have t6 := one_is hr 106
    simp only [isC] at t1 t2 t3 t4 t5 t6
    have hx : (tyB (.str n)).extract 1 ((tyB (.str n)).size - 1) = strB n := strB_eq (by
      have : (tyB (.str n)).size - 1 = 1 + n.length := by rw [tyB_size, code]; simp; omega
      rw [this, extract_take, tyB_sfx, code]
      simp)
    have hadd := add_str [115, 116, 114, 117, 99, 116, 32] n (by rw [code] at hl; simp at hl ⊢; omega)
    have hs2 : 2 ≤ (tyB (.str n)).size := by rw [tyB_size, code]; simp
    have hs3 : (tyB (.str n)).size ≤ 65536 := by rw [tyB_size]; exact hl
    generalize tyB (.str n) = s at *
    have HX := Lib.hid hx
    have e1 : IntKind.i64.wrap ((s.size : Int) - 1) = (s.size : Int) - 1 := IntWalk.i64_in _ (by omega)
    have e2 : ((s.size : Int) - 1).toNat = s.size - 1 := by omega
    have e3 : (1 : Int) ≤ (s.size : Int) - 1 := by omega
    have e4 : (s.size : Int) - 1 ≤ s.size := by omega
    clear hx hl hr hs3
    rw [show strB [115, 116, 114, 117, 99, 116, 32] = ⟨#[115, 116, 114, 117, 99, 116, 32]⟩ from rfl, ← HX.out] at hadd
    go_enter Tryz.func76, Tryz.ntmps76
    go_wp2_with fail
    go_ret
    exact ⟨rfl, rfl⟩

end Go.Proofs.YtmmjmppfmjejkaaGreatDoor
namespace Go.Proofs.YtmmjmppfmjejkaaGreatDoor
open Go.RowKit

def DeclC (t : Ty) : Prop := ∀ (x : List UInt8) (w : World), TE w → x.length + 16 * (code t).length ≤ 2000000 →
  Calls Tryz.prog 43 #[.string (tyB t), .string (strB x)] w fun e w' => e = .returned (.string (strB (declT t x))) ∧ Below w.heap.size w w'
theorem ret_strB {a b : List UInt8} (h : a = b) : Ending.returned (.string (strB a)) = .returned (.string (strB b)) := by rw [h]

set_option maxHeartbeats 1000000 in
theorem decl_root (t : Ty) (hr : Right t) (ht : (∃ c, t = .base c) ∨ ∃ n, t = .str n) (hl : (code t).length ≤ 65536) : DeclC t := by
  intro x w _ hz
  have HBs := Lib.hid (fun w => base_ok t w hr ht hl)
  obtain ⟨h0, hc⟩ := tyB_head t
  have hne : headT t ≠ 112 ∧ headT t ≠ 97 ∧ headT t ≠ 102 := by
    rcases ht with ⟨c, rfl⟩ | ⟨n, rfl⟩
    · rcases base_six hr with rfl | rfl | rfl | rfl | rfl | rfl <;> decide
    · simp [headT]
  have t1 : (((tyB t)[0].toNat : Int) == 112) = false := eq_false' (d := 112) hc hne.1
  have t2 : (((tyB t)[0].toNat : Int) == 97) = false := eq_false' (d := 97) hc hne.2.1
  have t3 : (((tyB t)[0].toNat : Int) == 102) = false := eq_false' (d := 102) hc hne.2.2
  have hw : (wordT t).length ≤ 16 * (code t).length := by
    have := decl_len t [] hr
    rcases ht with ⟨c, rfl⟩ | ⟨n, rfl⟩
    · rw [declT, if_pos rfl] at this; simpa using this
    · rw [declT, if_pos rfl] at this; simpa using this
  have hd : declT t x = if x = [] then wordT t else wordT t ++ 32 :: x := by
    rcases ht with ⟨c, rfl⟩ | ⟨n, rfl⟩
    · rw [declT]
    · rw [declT]
  by_cases hx : x = []
  · have hfin := Lib.hid (hd.trans (if_pos hx))
    have t4 := str_emp hx
    generalize tyB t = s at *
    generalize strB x = y at *
    clear hne hw hd hr ht hl hc hx hz
    go_enter Tryz.func43, Tryz.ntmps43
    go_wp2_with (go_at_call 76; (with_reducible refine (HBs.out _).mono ?_); rintro e w1 ⟨rfl, rfl⟩)
    go_ret
    exact ⟨(ret_strB hfin.out.symm), Below.refl _ _⟩
  · have hfin := Lib.hid (hd.trans (if_neg hx))
    have t4 := str_nemp hx
    have a1 := add_str (wordT t) [32] (by simp; omega)
    have a2 := add_str (wordT t ++ [32]) x (by simp; omega)
    rw [show strB [32] = ⟨#[32]⟩ from rfl] at a1
    rw [show wordT t ++ [32] ++ x = declT t x by rw [hfin.out]; simp] at a2
    generalize tyB t = s at *
    generalize strB (declT t x) = y3 at *
    generalize strB (wordT t ++ [32]) = y2 at *
    generalize strB (wordT t) = y1 at *
    generalize strB x = y at *
    clear hne hw hd hr ht hl hc hx hz hfin
    go_enter Tryz.func43, Tryz.ntmps43
    go_wp2_with (go_at_call 76; (with_reducible refine (HBs.out _).mono ?_); rintro e w1 ⟨rfl, rfl⟩)
    go_ret
    exact ⟨rfl, Below.refl _ _⟩

theorem tyB_second (t : Ty) : ∃ h : 1 < (tyB (.ptr t)).size, (tyB (.ptr t))[1] = headT t := by
  have h1 : sfx (tyB (.ptr t)) 1 = code t := by rw [tyB_sfx]; rfl
  obtain ⟨l, hl⟩ : ∃ l, code t = headT t :: l := by cases t <;> exact ⟨_, rfl⟩
  rw [hl] at h1
  obtain ⟨hk, h2, _⟩ := sfx_head h1
  exact ⟨hk, h2⟩
theorem head_arr {t : Ty} (h : Right t) : (((headT t).toNat : Int) == 97) = isArrT t := by
  cases t with
  | base c => rcases base_six h with rfl | rfl | rfl | rfl | rfl | rfl <;> rfl
  | _ => rfl
theorem head_fn {t : Ty} (h : Right t) : (((headT t).toNat : Int) == 102) = isFnT t := by
  cases t with
  | base c => rcases base_six h with rfl | rfl | rfl | rfl | rfl | rfl <;> rfl
  | _ => rfl
set_option maxHeartbeats 2000000 in
theorem decl_ptr (t : Ty) (hr : Right t) (_hl : (code (.ptr t)).length ≤ 65536) (ih : DeclC t) : DeclC (.ptr t) := by
  intro x w hE hz
  have HE := Lib.hid hE
  rw [code] at hz
  simp only [List.length_cons] at hz
  obtain ⟨h0, hc⟩ := tyB_head (.ptr t)
  obtain ⟨h1, hc1⟩ := tyB_second t
  have t1 : (((tyB (.ptr t))[0].toNat : Int) == 112) = true := eq_true' hc
  have t2 : (((tyB (.ptr t))[1].toNat : Int) == 97) = isArrT t := by rw [hc1]; exact head_arr hr
  have t3 : (((tyB (.ptr t))[1].toNat : Int) == 102) = isFnT t := by rw [hc1]; exact head_fn hr
  have HX := Lib.hid (tyB_ext (t := .ptr t) (u := t) (k := 1) rfl)
  have hi1 : (1 : Int) < (tyB (.ptr t)).size := by omega
  have hi2 : (1 : Int) ≤ (tyB (.ptr t)).size := by omega
  have a1 := add_str [42] x (by simp; omega)
  rw [show strB [42] = ⟨#[42]⟩ from rfl] at a1
  have hd : declT (.ptr t) x = declT t (if isArrT t || isFnT t then 40 :: 42 :: x ++ [41] else 42 :: x) := by rw [declT]
  rcases ha : isArrT t with _ | _
  · rcases hf : isFnT t with _ | _
    · have HI := Lib.hid (fun w hE => ih (42 :: x) w hE (by simp; omega))
      have hfin := Lib.hid (show declT t (42 :: x) = declT (.ptr t) x by rw [hd, ha, hf]; rfl)
      rw [ha] at t2; rw [hf] at t3
      generalize tyB (.ptr t) = s at *
      rw [show [42] ++ x = 42 :: x from rfl] at a1
      generalize strB (42 :: x) = y1 at *
      generalize strB x = y at *
      clear hc hc1 hd hr _hl hz ha hf ih hE
      go_enter Tryz.func43, Tryz.ntmps43
      go_upto_region 6 with fail
      have H6 := Lib.hid (HI.out w HE.out)
      go_wp2_with fail
      rw [HX.out]
      refine H6.out.mono ?_
      rintro e w1 ⟨rfl, hb1⟩
      rw [hfin.out]
      go_wp2_with fail
      go_ret
      exact ⟨rfl, hb1⟩
    · have a2 := add_str [40] (42 :: x) (by simp; omega)
      have a3 := add_str (40 :: 42 :: x) [41] (by simp; omega)
      rw [show strB [40] = ⟨#[40]⟩ from rfl, show [40] ++ 42 :: x = 40 :: 42 :: x from rfl] at a2
      rw [show strB [41] = ⟨#[41]⟩ from rfl] at a3
      have HI := Lib.hid (fun w hE => ih (40 :: 42 :: x ++ [41]) w hE (by simp; omega))
      have hfin := Lib.hid (show declT t (40 :: 42 :: x ++ [41]) = declT (.ptr t) x by rw [hd, ha, hf]; rfl)
      rw [ha] at t2; rw [hf] at t3
      generalize tyB (.ptr t) = s at *
      rw [show [42] ++ x = 42 :: x from rfl] at a1
      generalize strB (40 :: 42 :: x ++ [41]) = y3 at *
      generalize strB (40 :: 42 :: x) = y2 at *
      generalize strB (42 :: x) = y1 at *
      generalize strB x = y at *
      clear hc hc1 hd hr _hl hz ha hf ih hE
      go_enter Tryz.func43, Tryz.ntmps43
      go_upto_region 6 with fail
      have H6 := Lib.hid (HI.out w HE.out)
      go_wp2_with fail
      rw [HX.out]
      refine H6.out.mono ?_
      rintro e w1 ⟨rfl, hb1⟩
      rw [hfin.out]
      go_wp2_with fail
      go_ret
      exact ⟨rfl, hb1⟩
  · have a2 := add_str [40] (42 :: x) (by simp; omega)
    have a3 := add_str (40 :: 42 :: x) [41] (by simp; omega)
    rw [show strB [40] = ⟨#[40]⟩ from rfl, show [40] ++ 42 :: x = 40 :: 42 :: x from rfl] at a2
    rw [show strB [41] = ⟨#[41]⟩ from rfl] at a3
    have HI := Lib.hid (fun w hE => ih (40 :: 42 :: x ++ [41]) w hE (by simp; omega))
    have hfin := Lib.hid (show declT t (40 :: 42 :: x ++ [41]) = declT (.ptr t) x by rw [hd, ha]; rfl)
    rw [ha] at t2
    generalize tyB (.ptr t) = s at *
    rw [show [42] ++ x = 42 :: x from rfl] at a1
    generalize strB (40 :: 42 :: x ++ [41]) = y3 at *
    generalize strB (40 :: 42 :: x) = y2 at *
    generalize strB (42 :: x) = y1 at *
    generalize strB x = y at *
    clear hc hc1 hd hr _hl hz ha t3 ih hE
    go_enter Tryz.func43, Tryz.ntmps43
    go_upto_region 6 with fail
    have H6 := Lib.hid (HI.out w HE.out)
    go_wp2_with fail
    rw [HX.out]
    refine H6.out.mono ?_
    rintro e w1 ⟨rfl, hb1⟩
    rw [hfin.out]
    go_wp2_with fail
    go_ret
    exact ⟨rfl, hb1⟩

set_option maxHeartbeats 2000000 in
theorem decl_arr (n : Nat) (t : Ty) (hr : Right (.arr n t)) (hl : (code (.arr n t)).length ≤ 65536) (ih : DeclC t) : DeclC (.arr n t) := by
  intro x w hE hz
  have HE := Lib.hid hE
  have hcl : (code (.arr n t)).length = (Lib.decDigits n).length + (code t).length + 2 := by rw [code]; simp; omega
  rw [hcl] at hz
  obtain ⟨h0, hc⟩ := tyB_head (.arr n t)
  have t1 : (((tyB (.arr n t))[0].toNat : Int) == 112) = false := eq_false' (d := 112) hc (by simp [headT])
  have t2 : (((tyB (.arr n t))[0].toNat : Int) == 97) = true := eq_true' hc
  have HS := Lib.hid (fun w hM => split_arr n t w hr hM hl)
  have hI : Lib.itoa (n : Int) = Lib.decDigits n := by unfold Lib.itoa; rw [if_neg (by omega)]; simp
  have HIt := Lib.hid (fun w hP => show Calls Tryz.prog 74 #[.int .i64 n] w fun e w' => e = .returned (.string (strB (Lib.decDigits n))) ∧ Below w.heap.size w w' by
    have := lexItoa_ok n w hP (by omega) (by have := hr.1; omega)
    rw [hI] at this; exact this)
  have a1 := add_str x [91] (by simp; omega)
  have a2 := add_str (x ++ [91]) (Lib.decDigits n) (by simp; omega)
  have a3 := add_str (x ++ [91] ++ Lib.decDigits n) [93] (by simp; omega)
  rw [show strB [91] = ⟨#[91]⟩ from rfl] at a1
  rw [show strB [93] = ⟨#[93]⟩ from rfl] at a3
  have he : x ++ [91] ++ Lib.decDigits n ++ [93] = x ++ 91 :: Lib.decDigits n ++ [93] := by simp
  rw [he] at a3
  have HI := Lib.hid (fun w hE => ih (x ++ 91 :: Lib.decDigits n ++ [93]) w hE (by simp; omega))
  have hfin := Lib.hid (show declT t (x ++ 91 :: Lib.decDigits n ++ [93]) = declT (.arr n t) x by rw [declT])
  have hnb : (n : Int) ≤ 1099511627776 := by have := hr.1; omega
  generalize tyB (.arr n t) = s at *
  generalize strB (x ++ 91 :: Lib.decDigits n ++ [93]) = y3 at *
  generalize strB (x ++ [91] ++ Lib.decDigits n) = y2 at *
  generalize strB (x ++ [91]) = y1 at *
  generalize strB (Lib.decDigits n) = y0 at *
  generalize strB x = y at *
  clear hc hr hl hz ih hE hcl hI he
  go_enter Tryz.func43, Tryz.ntmps43
  go_wp2_with (go_at_call 39; (with_reducible refine (HS.out _ HE.out.maxl).mono ?_))
  rintro e w1 ⟨rfl, hb1⟩
  have HE1 := Lib.hid (HE.out.below hb1)
  have HB1 := Lib.hid hb1
  clear hb1
  go_wp2_with (go_at_call 74; (with_reducible refine (HIt.out _ HE1.out.pow).mono ?_))
  rintro e w2 ⟨rfl, hb2⟩
  have HE2 := Lib.hid (HE1.out.below hb2)
  have HB2 := Lib.hid (HB1.out.trans (hb2.mono HB1.out.size))
  clear hb2
  go_wp2_with (go_at_call 43; (with_reducible refine (HI.out _ HE2.out).mono ?_))
  rintro e w3 ⟨rfl, hb3⟩
  have HB3 := Lib.hid (HB2.out.trans (hb3.mono HB2.out.size))
  rw [hfin.out]
  clear hb3
  go_wp2_with fail
  go_ret
  exact ⟨rfl, HB3.out⟩

end Go.Proofs.YtmmjmppfmjejkaaGreatDoor
namespace Go.Proofs.YtmmjmppfmjejkaaGreatDoor
open Go.RowKit

theorem own_formT {w : World} {base : Nat} {e : TypeId} {size : Nat} {v : Value} {n : Nat} {xs : List Value} (h : w.ownsRow base e size v n xs) : ∃ a cap, v = .slice a n cap ∧ (0 < n → ∃ g, a = some ⟨g, 0, none⟩ ∧ base ≤ g ∧ g < w.heap.size ∧ ∀ j u, xs[j]? = some u → w.cell? ⟨g, j, none⟩ = some u) := by
  rcases h.2 with ⟨rfl, rfl⟩ | ⟨g, cap, cur, rfl, hb, hg, _⟩
  · exact ⟨_, _, rfl, fun h => by omega⟩
  · refine ⟨_, _, rfl, fun _ => ⟨g, rfl, hb, lt_of_heap hg, fun j u hj => ?_⟩⟩
    have := h.cells (g := g) rfl j u hj
    rwa [addr_add] at this
theorem declTs_map (l : List Ty) : declTs l = l.map fun t => declT t [] := by
  induction l with
  | nil => rfl
  | cons t l ih => rw [declTs, ih]; rfl
theorem declTs_take {ps : List Ty} {k : Nat} (h : k < ps.length) : (declTs (ps.take (k + 1))).map (fun l => Value.string (strB l)) = (declTs (ps.take k)).map (fun l => Value.string (strB l)) ++ [.string (strB (declT ps[k] []))] := by
  rw [List.take_succ_eq_append_getElem h, declTs_map, declTs_map]
  simp only [List.map_append, List.map_cons, List.map_nil]
theorem codes_mem' : ∀ {l : List Ty} {t : Ty}, t ∈ l → (code t).length ≤ (codes l).length
  | [], _, h => by cases h
  | u :: [], t, h => by
    rcases List.mem_cons.1 h with rfl | e
    · rw [codes]; simp
    · cases e
  | u :: v :: l, t, h => by
    rw [codes_cons, codes'_cons]
    rcases List.mem_cons.1 h with rfl | e
    · simp
    · have := codes_mem' e
      simp; omega
theorem join_comma : ∀ L : List (List UInt8), Lib.join L [44, 32] = commaL L
  | [] => rfl
  | [x] => by simp [Lib.join, List.intercalate, commaL]
  | x :: y :: l => by
    have ih := join_comma (y :: l)
    rw [commaL, ← ih]
    simp [Lib.join, List.intercalate]
theorem infoS : (Tryz.prog.info? 9).map (fun i => (i.zero, i.size, i.bytes)) = some (some (.string ⟨#[]⟩), 1, 16) := by kernel_rfl
/-- strings.Join of a row that holds such texts -/
theorem join_row {w : World} {g cap : Nat} {L : List (List UInt8)} (hc : ∀ j u, (L.map fun l => Value.string (strB l))[j]? = some u → w.cell? ⟨g, j, none⟩ = some u) (hg : g < w.heap.size) (hcap : L.length ≤ cap) (hn : L.length ≤ 140737488355328) (hl : (commaL L).length ≤ 140737488355328) :
    Calls Tryz.prog 75 #[.slice (some ⟨g, 0, none⟩) L.length cap, .string ⟨#[44, 32]⟩] w fun e w' => e = .returned (.string (strB (commaL L))) ∧ Below w.heap.size w w' := by
  have hj := Tryz.strings_Join g 0 cap (L.map strB) ⟨#[44, 32]⟩ w (fun j x hx => by
    rw [Nat.zero_add]
    refine hc j _ ?_
    rw [List.getElem?_map] at hx ⊢
    obtain ⟨l, h1, h2⟩ := Option.map_eq_some_iff.1 hx
    rw [h1, ← h2]; rfl) hg (by rw [List.length_map]; exact hn) (by rw [List.length_map]; exact hcap)
  have e : (L.map strB).map (fun s => s.data.toList) = L := by
    rw [List.map_map]
    conv => rhs; rw [← List.map_id L]
    exact List.map_congr_left fun x _ => strB_list x
  rw [e, List.length_map, show (⟨#[44, 32]⟩ : ByteArray).data.toList = [44, 32] from rfl, join_comma] at hj
  exact hj hl

set_option maxHeartbeats 4000000 in
set_option maxRecDepth 100000 in
theorem decl_fn (ps : List Ty) (r : Ty) (hr : Right (.fn ps r)) (hl : (code (.fn ps r)).length ≤ 65536) (ih : ∀ p ∈ ps, DeclC p) (ihr : DeclC r) : DeclC (.fn ps r) := by
  intro x w hE hz
  have HE := Lib.hid hE
  have hcl : (code (.fn ps r)).length = (codes ps).length + (code r).length + 3 := by rw [code]; simp; omega
  rw [hcl] at hz
  have hpl := decls_len ps hr.1
  have hps : ps.length ≤ 65536 := by have := rights_len hr.1; omega
  obtain ⟨h0, hc⟩ := tyB_head (.fn ps r)
  have t1 : (((tyB (.fn ps r))[0].toNat : Int) == 112) = false := eq_false' (d := 112) hc (by simp [headT])
  have t2 : (((tyB (.fn ps r))[0].toNat : Int) == 97) = false := eq_false' (d := 97) hc (by simp [headT])
  have t3 : (((tyB (.fn ps r))[0].toNat : Int) == 102) = true := eq_true' hc
  have HS := Lib.hid (fun w hK hb => split_fn ps r w hr hl hK hb)
  have a1 := add_str x [40] (by simp; omega)
  rw [show strB [40] = ⟨#[40]⟩ from rfl] at a1
  have HPl := Lib.hid hpl
  have HZ := Lib.hid hz
  have HR := Lib.hid hr
  have HIp := Lib.hid ih
  have HIr := Lib.hid ihr
  generalize tyB (.fn ps r) = s at *
  generalize hy : strB x = y at *
  have HY := Lib.hid hy
  generalize hy1 : strB (x ++ [40]) = y1 at *
  have HY1 := Lib.hid hy1
  obtain ⟨i0, hi, hz0, hz1, hz2⟩ := info_parts infoS
  have HI := Lib.hid (And.intro hi (And.intro hz0 (And.intro hz1 hz2)))
  clear hc hr hl hz ih ihr hE hcl hpl hy hy1 hi hz0 hz1 hz2
  go_enter Tryz.func43, Tryz.ntmps43
  go_wp2_with (go_at_call 39; (with_reducible refine (HS.out _ HE.out.keys HE.out.lt).mono ?_))
  rintro e w1 ⟨⟨v, rfl, ho⟩, hb1⟩
  obtain ⟨a, cap, rfl, hsrc⟩ := own_formT ho
  have HSrc := Lib.hid hsrc
  have HE1 := Lib.hid (HE.out.below hb1)
  have HB1 := Lib.hid hb1
  clear hb1 ho hsrc
  go_wp2_with fail
  go_loopg [11, 61] ps.length (fun g lv iv wr => ∃ k : Nat, k + g = ps.length ∧ iv = .int .i64 k ∧ wr.ownsRow w1.heap.size 9 1 lv k ((declTs (ps.take k)).map fun l => .string (strB l)) ∧ Below w1.heap.size w1 wr)
  case atStart => exact ⟨0, by omega, rfl, World.ownsRow_nil _ _ _ _, Below.refl _ _⟩
  case round =>
    obtain ⟨k, hk, rfl, hown, hbw⟩ := hrel
    have HO := Lib.hid hown
    have HB := Lib.hid hbw
    have hsz := hbw.size
    clear hown hbw
    by_cases hlt : k < ps.length
    · obtain ⟨g, rfl, hg1, hg2, hcell⟩ := HSrc.out (by omega)
      have hck : wr.cell? ⟨g, k, none⟩ = some (.string (tyB ps[k])) := by
        rw [HB.out.cell (p := ⟨g, k, none⟩) hg2]
        exact hcell k _ (by rw [List.getElem?_map, List.getElem?_eq_getElem hlt]; rfl)
      have HD := Lib.hid (show Calls Tryz.prog 43 #[.string (tyB ps[k]), .string ⟨#[]⟩] wr fun e w' => e = .returned (.string (strB (declT ps[k] []))) ∧ Below wr.heap.size wr w' from
        HIp.out ps[k] (List.getElem_mem hlt) [] wr (HE1.out.below HB.out) (by
          have h1 := codes_mem' (List.getElem_mem hlt)
          have := HZ.out
          simp; omega))
      have HTk := Lib.hid (declTs_take hlt)
      generalize strB (declT ps[k] []) = z at *
      generalize tyB ps[k] = st at *
      have hkb : k + 1 ≤ 70000 := by omega
      clear hcell
      go_wp2_with (go_at_call 43; (with_reducible refine HD.out.mono ?_))
      rintro e w3 ⟨rfl, hb3⟩
      have HO3 := Lib.hid (HO.out.belowed hb3)
      have HB3 := Lib.hid (HB.out.trans (hb3.mono hsz))
      have hz3 := HB3.out.size
      clear hb3
      go_wp2_with (at_builtin; refine wpList_append_own _ rfl _ _ 105 rfl w1.heap.size 9 i0 (.string ⟨#[]⟩) 1 16 Tryz.underlying105 HI.out.1 HI.out.2.1 HI.out.2.2.1 HI.out.2.2.2 rfl (by decide) _ _ _ rfl (HO3.out.alloc _) ⟨w3.heap.size, 0, none⟩ 1 1 [.string z] rfl rfl (fun j u h => cell_one _ _ _ j u h) (c2_str _) (c3_le hkb) (c4_le hkb) ?c5 ?_)
      case c5 => simp; omega
      intro v' w6 hown hgrow _
      have HO6 := Lib.hid (show w6.ownsRow w1.heap.size 9 1 v' (k + 1) ((declTs (ps.take (k + 1))).map fun l => .string (strB l)) by rw [HTk.out]; exact hown)
      have HA := Lib.hid (show Below w3.heap.size w3 (w3.alloc (.cells #[.string z] 9)) from (Below.refl _ _).alloc (Nat.le_refl _) _)
      have HB6 := Lib.hid ((HB3.out.trans (HA.out.mono HB3.out.size)).grown hgrow (Nat.le_trans HB3.out.size HA.out.size) (fun q e => by have := (HO3.out.lt _ e).1; omega))
      clear hown hgrow
      go_wp2_with fail
      go_roundg (ps.length - (k + 1))
      case measure => omega
      case rel => exact ⟨k + 1, by omega, by go_num, HO6.out, HB6.out⟩
    · obtain rfl : k = ps.length := by omega
      have HO1 := Lib.hid (show wr.ownsRow w1.heap.size 9 1 u11 ps.length ((declTs ps).map fun l => .string (strB l)) by have := HO.out; rwa [List.take_length] at this)
      have hdl : (declTs ps).length = ps.length := by rw [declTs_map]; simp
      clear HO
      obtain ⟨a2, cap2, rfl, hrow⟩ := own_formT HO1.out
      by_cases h1 : ps = []
      · subst h1
        have hZ := HZ.out
        have hd : declT (.fn [] r) x = declT r (x ++ 40 :: [118, 111, 105, 100] ++ [41]) := by rw [declT, if_pos rfl]
        have a2 := add_str (x ++ [40]) [118, 111, 105, 100] (by simp; omega)
        have a3 := add_str (x ++ [40] ++ [118, 111, 105, 100]) [41] (by simp; omega)
        rw [show strB [41] = ⟨#[41]⟩ from rfl, show x ++ [40] ++ [118, 111, 105, 100] ++ [41] = x ++ 40 :: [118, 111, 105, 100] ++ [41] by simp] at a3
        have HIc := Lib.hid (fun w hE => HIr.out (x ++ 40 :: [118, 111, 105, 100] ++ [41]) w hE (by simp; omega))
        have hfin := Lib.hid hd.symm
        rw [HY1.out] at a2
        have HJ := Lib.hid (fun (w' : World) => by
          have := join_row (w := w'.alloc (.cells #[.string ⟨#[118, 111, 105, 100]⟩] 9)) (g := w'.heap.size) (cap := 1) (L := [[118, 111, 105, 100]]) (fun j u hj => by
            have := cell_one w' (.string ⟨#[118, 111, 105, 100]⟩) 9 j u hj
            rwa [addr_add] at this) (by simp) (by decide) (by decide) (by decide)
          exact this)
        simp only [commaL, List.length_singleton] at HJ
        generalize strB [118, 111, 105, 100] = yj at *
        generalize strB (x ++ [40] ++ [118, 111, 105, 100]) = y2 at *
        generalize strB (x ++ 40 :: [118, 111, 105, 100] ++ [41]) = y3 at *
        clear hd hdl hrow hZ hsz
        go_wp2_with (go_at_call 75; refine (HJ.out _).mono ?_)
        rintro e w5 ⟨rfl, hb5⟩
        have HB5 := Lib.hid (HB1.out.trans ((HB.out.trans (((Below.refl _ _).alloc (Nat.le_refl _) _ |>.trans (hb5.mono (by simp))).mono HB.out.size)).mono HB1.out.size))
        have HI5 := Lib.hid (HIc.out _ (HE.out.below HB5.out))
        clear hb5
        go_wp2_with (go_at_call 43; (with_reducible refine HI5.out.mono ?_))
        rintro e w6 ⟨rfl, hb6⟩
        rw [hfin.out]
        go_wp2_with fail
        go_ret
        exact ⟨rfl, HB5.out.trans (hb6.mono HB5.out.size)⟩
      · have hn : 0 < ps.length := List.length_pos_iff.2 h1
        obtain ⟨g, rfl, hg1, hg2, hrow⟩ := hrow hn
        have hcap : ps.length ≤ cap2 := by
          rcases HO1.out.2 with ⟨e, _⟩ | ⟨g', cap', cur, e, _, _, h, _⟩
          · cases e
          · cases e; exact h
        have hPl := HPl.out
        have hZ := HZ.out
        have HJ := Lib.hid (fun w' (hw' : Below wr.heap.size wr w') => by
          have := join_row (w := w') (g := g) (cap := cap2) (L := declTs ps) (fun j u hj => by rw [hw'.cell (p := ⟨g, j, none⟩) hg2]; exact hrow j u hj) (Nat.lt_of_lt_of_le hg2 hw'.size) (by rw [hdl]; exact hcap) (by rw [hdl]; omega) (by omega)
          rw [hdl] at this
          exact this)
        have hd : declT (.fn ps r) x = declT r (x ++ 40 :: commaL (declTs ps) ++ [41]) := by rw [declT, if_neg h1]
        have a2 := add_str (x ++ [40]) (commaL (declTs ps)) (by simp; omega)
        have a3 := add_str (x ++ [40] ++ commaL (declTs ps)) [41] (by simp; omega)
        rw [show strB [41] = ⟨#[41]⟩ from rfl, show x ++ [40] ++ commaL (declTs ps) ++ [41] = x ++ 40 :: commaL (declTs ps) ++ [41] by simp] at a3
        have HIc := Lib.hid (fun w hE => HIr.out (x ++ 40 :: commaL (declTs ps) ++ [41]) w hE (by simp; omega))
        have hfin := Lib.hid hd.symm
        have t4 : ((ps.length : Int) == 0) = false := by rw [beq_eq_false_iff_ne]; omega
        rw [HY1.out] at a2
        have hlp : (ps.length : Int) ≤ 65536 := by omega
        generalize strB (commaL (declTs ps)) = yj at *
        generalize strB (x ++ [40] ++ commaL (declTs ps)) = y2 at *
        generalize strB (x ++ 40 :: commaL (declTs ps) ++ [41]) = y3 at *
        have HB := Lib.hid HB.out
        clear hd hdl hrow hcap hPl hZ h1 hn hsz
        go_wp2_with (go_at_call 75; refine (HJ.out _ (Below.refl _ _)).mono ?_)
        rintro e w5 ⟨rfl, hb5⟩
        have HB5 := Lib.hid (HB1.out.trans ((HB.out.trans (hb5.mono HB.out.size)).mono HB1.out.size))
        have HI5 := Lib.hid (HIc.out _ (HE.out.below HB5.out))
        clear hb5
        go_wp2_with (go_at_call 43; (with_reducible refine HI5.out.mono ?_))
        rintro e w6 ⟨rfl, hb6⟩
        rw [hfin.out]
        go_wp2_with fail
        go_ret
        exact ⟨rfl, HB5.out.trans (hb6.mono HB5.out.size)⟩

theorem declared_ok : ∀ (n : Nat) (t : Ty), (code t).length ≤ n → Right t → (code t).length ≤ 65536 → DeclC t
  | 0, t, hn, hr, _ => by have := code_pos hr; omega
  | n + 1, t, hn, hr, hl => by
    cases t with
    | base c => exact decl_root _ hr (.inl ⟨c, rfl⟩) hl
    | str s => exact decl_root _ hr (.inr ⟨s, rfl⟩) hl
    | ptr u => exact decl_ptr u hr hl (declared_ok n u (by rw [code] at hn; simp at hn; omega) hr (by rw [code] at hl; simp at hl; omega))
    | arr m u => exact decl_arr m u hr hl (declared_ok n u (by rw [code] at hn; simp at hn; omega) hr.2 (by rw [code] at hl; simp at hl; omega))
    | fn ps r =>
      refine decl_fn ps r hr hl (fun p hp => ?_) (declared_ok n r (by rw [code] at hn; simp at hn; omega) hr.2 (by rw [code] at hl; simp at hl; omega))
      have h1 := codes_mem' hp
      have h2 : Right p := by
        obtain ⟨a, b, rfl⟩ := List.append_of_mem hp
        exact rights_at hr.1
      rw [code] at hn hl
      simp at hn hl
      exact declared_ok n p (by omega) h2 (by omega)

end Go.Proofs.YtmmjmppfmjejkaaGreatDoor
namespace Go.Proofs.YtmmjmppfmjejkaaGreatDoor
open Go.RowKit

/-- what Declare tells -/
def declareV (r : Option Ty) (name : ByteArray) : Value := match r with
  | none => .tuple #[.string ⟨#[]⟩, .int .i64 2]
  | some t => if name = ⟨#[]⟩ ∨ isNameB name = true then .tuple #[.string (strB (declT t name.data.toList)), .int .i64 0] else .tuple #[.string ⟨#[]⟩, .int .i64 2]
theorem emp_iff (s : ByteArray) : s.toList.isEmpty = decide (s = ⟨#[]⟩) := by
  rw [Lib.toList_data, Bool.eq_iff_iff, List.isEmpty_iff, decide_eq_true_iff]
  exact ⟨fun h => toList_eq (by rw [h]), fun h => by rw [h]⟩
theorem name_size {s : ByteArray} (h : isNameB s = true) : s.size ≤ 31 := by
  unfold isNameB at h
  simp only [Bool.and_eq_true, decide_eq_true_iff] at h
  exact h.2.1

set_option maxHeartbeats 1000000 in
theorem declare_ok (s name : ByteArray) (w : World) (hE : TE w) : Calls Tryz.prog 21 #[.string s, .string name] w fun e w' => e = .returned (declareV (tyS s) name) ∧ Below w.heap.size w w' := by
  have HE := Lib.hid hE
  rcases h : tyS s with _ | t
  · have HF := Lib.hid (form_is false s w hE (by rw [h]; rfl))
    clear h hE
    go_enter Tryz.func21, Tryz.ntmps21
    go_wp2_with (go_at_call 9; (with_reducible refine HF.out.mono ?_); rintro e w1 ⟨rfl, hb1⟩)
    go_ret2
    exact ⟨rfl, hb1⟩
  · have HF := Lib.hid (form_is true s w hE (by rw [h]; rfl))
    obtain ⟨hs, hr, hl⟩ := tyS_some.1 h
    have HD := Lib.hid (fun w hE (hz : name.size ≤ 31) => show Calls Tryz.prog 43 #[.string s, .string name] w fun e w' => e = .returned (.string (strB (declT t name.data.toList))) ∧ Below w.heap.size w w' by
      have hn : name.data.toList.length = name.size := by rw [Array.length_toList]; rfl
      have := declared_ok _ t (Nat.le_refl _) hr hl name.data.toList w hE (by omega)
      rw [strB_self, ← hs] at this
      exact this)
    by_cases h0 : name = ⟨#[]⟩
    · have hfin := Lib.hid (show declareV (some t) name = .tuple #[.string (strB (declT t name.data.toList)), .int .i64 0] from if_pos (.inl h0))
      have t1 : name.toList.isEmpty = true := by rw [emp_iff]; simpa using h0
      have HZ := Lib.hid (show name.size ≤ 31 by rw [h0]; decide)
      clear h hE hs hr hl h0
      go_enter Tryz.func21, Tryz.ntmps21
      go_wp2_with (first | (go_at_call 9; (with_reducible refine HF.out.mono ?_); rintro e w1 ⟨rfl, hb1⟩; have HE1 := Lib.hid (HE.out.below hb1)) | (go_at_call 43; (with_reducible refine (HD.out _ HE1.out HZ.out).mono ?_); rintro e w2 ⟨rfl, hb2⟩))
      go_ret2
      exact ⟨tup_eq hfin.out.symm, hb1.trans (hb2.mono hb1.size)⟩
    · have t1 : name.toList.isEmpty = false := by rw [emp_iff]; simpa using h0
      rcases hn : isNameB name with _ | _
      · have hfin := Lib.hid (show declareV (some t) name = .tuple #[.string ⟨#[]⟩, .int .i64 2] from if_neg (by rintro (h | h); exact h0 h; rw [hn] at h; cases h))
        have HN := Lib.hid hn
        clear h hE hs hr hl h0 hn
        go_enter Tryz.func21, Tryz.ntmps21
        go_wp2_with (go_at_call 9; (with_reducible refine HF.out.mono ?_))
        rintro e w1 ⟨rfl, hb1⟩
        have HE1 := Lib.hid (HE.out.below hb1)
        go_wp2_with (go_at_call 42; (with_reducible refine (lexIsName_any name _ HE1.out.keys).mono ?_))
        rintro e w2 ⟨rfl, hb2⟩
        rw [HN.out]
        go_wp2_with fail
        go_ret2
        exact ⟨tup_eq hfin.out.symm, hb1.trans (hb2.mono hb1.size)⟩
      · have hfin := Lib.hid (show declareV (some t) name = .tuple #[.string (strB (declT t name.data.toList)), .int .i64 0] from if_pos (.inr hn))
        have HN := Lib.hid hn
        have HZ := Lib.hid (name_size hn)
        clear h hE hs hr hl h0 hn
        go_enter Tryz.func21, Tryz.ntmps21
        go_wp2_with (go_at_call 9; (with_reducible refine HF.out.mono ?_))
        rintro e w1 ⟨rfl, hb1⟩
        have HE1 := Lib.hid (HE.out.below hb1)
        go_wp2_with (go_at_call 42; (with_reducible refine (lexIsName_any name _ HE1.out.keys).mono ?_))
        rintro e w2 ⟨rfl, hb2⟩
        rw [HN.out]
        have HE2 := Lib.hid (HE1.out.below hb2)
        go_wp2_with (go_at_call 43; (with_reducible refine (HD.out _ HE2.out HZ.out).mono ?_); rintro e w3 ⟨rfl, hb3⟩)
        go_ret2
        exact ⟨tup_eq hfin.out.symm, (hb1.trans (hb2.mono hb1.size)).trans (hb3.mono (hb1.trans (hb2.mono hb1.size)).size)⟩

end Go.Proofs.YtmmjmppfmjejkaaGreatDoor
