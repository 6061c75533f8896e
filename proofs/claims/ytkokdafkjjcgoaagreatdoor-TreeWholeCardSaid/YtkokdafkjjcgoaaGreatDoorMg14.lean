/- What becomes of types: the program. · Elem, Sign, Decay, Promote, Common: what they tell. · Decay, Promote: the program. · How C writes a type. Plain: nothing of the program. · How a type is written: the program, but for functions. · How a type is written: the program: pointers, arrays, words. -/
import Derived.Test.YtkokdafkjjcgoaaGreatDoorMg13
import Derived.Test.YtkokdafkjjcgoaaGreatDoorMg2
import Derived.Test.YtkokdafkjjcgoaaGreatDoorMg9
import Derived.IntWalk
import Derived.Deep.DeepCutAuto
namespace Go.Proofs.YtkokdafkjjcgoaaGreatDoor
open Go.RowKit

/-- the tables that lie under types -/
structure TE (w : World) : Prop where
  keys : KeysAt w
  maxl : MaxLenAt w
theorem TE.below {w w' : World} (h : TE w) (hb : Below w.heap.size w w') : TE w' := ⟨h.keys.below hb, h.maxl.below hb⟩
theorem TE.drewN {w : World} (h : TE w) (n : Nat) : TE (w.drewN n) := ⟨h.keys.drewN n, h.maxl.drewN n⟩
/-- and under numbers' texts -/
structure TP (w : World) : Prop where
  te : TE w
  pow : PowAt w
  powlt : 3 < w.heap.size
theorem TP.below {w w' : World} (h : TP w) (hb : Below w.heap.size w w') : TP w' := ⟨h.te.below hb, h.pow.below hb h.powlt, Nat.lt_of_lt_of_le h.powlt hb.size⟩
theorem TP.drewN {w : World} (h : TP w) (n : Nat) : TP (w.drewN n) := ⟨h.te.drewN n, h.pow.drewN n, h.powlt⟩
theorem TE.lt {w : World} (h : TE w) : 1 < w.heap.size := World.block_lt_of_cell? w _ (h.keys 0 (by decide))

theorem tyS_some {s : ByteArray} {t : Ty} : tyS s = some t ↔ s = tyB t ∧ Right t ∧ (code t).length ≤ 65536 := by
  unfold tyS
  have hl : s.data.toList.length = s.size := by rw [Array.length_toList]; rfl
  constructor
  · intro h
    split at h
    · obtain ⟨h1, h2⟩ := tyE_some.1 h
      exact ⟨tyB_eq h1, h2, by rw [← h1, hl]; assumption⟩
    · cases h
  · rintro ⟨rfl, h2, h3⟩
    rw [if_pos (by rw [tyB_size]; exact h3)]
    exact tyE_some.2 ⟨tyB_list t, h2⟩
theorem form_is (r : Bool) (s : ByteArray) (w : World) (hE : TE w) (hr : (tyS s).isSome = r) : Calls Tryz.prog 149 #[.string s] w fun e w' => e = .returned (.bool r) ∧ Below w.heap.size w w' := by
  subst hr; exact form_ok s w hE.keys hE.lt
theorem str_one (s : ByteArray) (c : UInt8) : (s.toList == [c]) = decide (s = ⟨#[c]⟩) := by
  rw [Bool.eq_iff_iff, beq_iff_eq, decide_eq_true_iff, Lib.toList_data]
  exact ⟨fun h => toList_eq (by rw [h]), fun h => by rw [h]⟩
theorem one_base {t : Ty} (h : Right t) (c : UInt8) : (tyB t = ⟨#[c]⟩) ↔ t = .base c := by
  constructor
  · intro e
    have e2 : code t = [c] := by rw [← tyB_list, e]
    cases t with
    | base d => simp [code] at e2; rw [e2]
    | ptr u => rw [code] at e2; have := code_pos (t := u) h; simp at e2; rw [e2.2] at this; simp at this
    | arr n u => rw [code] at e2; simp at e2
    | str s => rw [code] at e2; simp at e2
    | fn ps r => rw [code] at e2; simp at e2
  · rintro rfl; rfl

/-- an integer's type -/
def isIntS (s : ByteArray) : Bool := (tyS s).any isIntT
theorem isIntS_not {s : ByteArray} (h1 : s ≠ ⟨#[99]⟩) (h2 : s ≠ ⟨#[115]⟩) (h3 : s ≠ ⟨#[105]⟩) (h4 : s ≠ ⟨#[117]⟩) : isIntS s = false := by
  unfold isIntS
  rcases h : tyS s with _ | t
  · rfl
  · obtain ⟨rfl, hr, _⟩ := tyS_some.1 h
    cases t with
    | base c =>
      simp only [Option.any_some, isIntT, decide_eq_false_iff_not]
      rintro (rfl | rfl | rfl | rfl)
      · exact h1 rfl
      · exact h2 rfl
      · exact h3 rfl
      · exact h4 rfl
    | _ => rfl
theorem tyS_base {c : UInt8} (h : isBase c = true) : tyS ⟨#[c]⟩ = some (.base c) := tyS_some.2 ⟨rfl, h, by simp [code]⟩
theorem isInt_ok (s : ByteArray) (w : World) : Calls Tryz.prog 250 #[.string s] w fun e w' => e = .returned (.bool (isIntS s)) ∧ w' = w := by
  by_cases h1 : s = ⟨#[99]⟩
  · have hfin := Lib.hid (show isIntS s = true by rw [h1, isIntS, tyS_base (by decide)]; rfl)
    have t1 : (s.toList == [99]) = true := by rw [str_one]; simpa using h1
    clear h1
    go_enter Tryz.func250, Tryz.ntmps250
    go_wp2_with fail
    go_ret
    exact ⟨by rw [hfin.out]; rfl, rfl⟩
  · have t1 : (s.toList == [99]) = false := by rw [str_one]; simpa using h1
    by_cases h2 : s = ⟨#[115]⟩
    · have hfin := Lib.hid (show isIntS s = true by rw [h2, isIntS, tyS_base (by decide)]; rfl)
      have t2 : (s.toList == [115]) = true := by rw [str_one]; simpa using h2
      clear h1 h2
      go_enter Tryz.func250, Tryz.ntmps250
      go_wp2_with fail
      go_ret
      exact ⟨by rw [hfin.out]; rfl, rfl⟩
    · have t2 : (s.toList == [115]) = false := by rw [str_one]; simpa using h2
      by_cases h3 : s = ⟨#[105]⟩
      · have hfin := Lib.hid (show isIntS s = true by rw [h3, isIntS, tyS_base (by decide)]; rfl)
        have t3 : (s.toList == [105]) = true := by rw [str_one]; simpa using h3
        clear h1 h2 h3
        go_enter Tryz.func250, Tryz.ntmps250
        go_wp2_with fail
        go_ret
        exact ⟨by rw [hfin.out]; rfl, rfl⟩
      · have t3 : (s.toList == [105]) = false := by rw [str_one]; simpa using h3
        by_cases h4 : s = ⟨#[117]⟩
        · have hfin := Lib.hid (show isIntS s = true by rw [h4, isIntS, tyS_base (by decide)]; rfl)
          have t4 : (s.toList == [117]) = true := by rw [str_one]; simpa using h4
          clear h1 h2 h3 h4
          go_enter Tryz.func250, Tryz.ntmps250
          go_wp2_with fail
          go_ret
          exact ⟨by rw [hfin.out]; rfl, rfl⟩
        · have t4 : (s.toList == [117]) = false := by rw [str_one]; simpa using h4
          have hfin := Lib.hid (isIntS_not h1 h2 h3 h4)
          clear h1 h2 h3 h4
          go_enter Tryz.func250, Tryz.ntmps250
          go_wp2_with fail
          go_ret
          exact ⟨by rw [hfin.out]; rfl, rfl⟩
theorem isInt_is (r : Bool) (s : ByteArray) (w : World) (hr : isIntS s = r) : Calls Tryz.prog 250 #[.string s] w fun e w' => e = .returned (.bool r) ∧ w' = w := by subst hr; exact isInt_ok s w

/-- a scalar's type -/
def isScalS (s : ByteArray) : Bool := (tyS s).any isScalarT
theorem isScal_int {s : ByteArray} (h : isIntS s = true) : isScalS s = true := by
  unfold isIntS at h; unfold isScalS
  rcases hs : tyS s with _ | t
  · rw [hs] at h; cases h
  · rw [hs] at h; simp only [Option.any_some] at h ⊢; simp [isScalarT, h]
theorem isScal_ptr {s : ByteArray} (hi : isIntS s = false) (hk : 0 < s.size) (hc : s[0] = 112) : isScalS s = (tyS s).isSome := by
  unfold isScalS
  rcases hs : tyS s with _ | t
  · rfl
  · obtain ⟨rfl, hr, _⟩ := tyS_some.1 hs
    cases t with
    | ptr u => rfl
    | base c =>
      obtain ⟨_, h2⟩ := tyB_get (t := .base c) (c := c) (l := []) rfl
      rw [h2] at hc
      rw [hc] at hr
      exact absurd hr (by show ¬ isBase 112 = true; decide)
    | arr n u => obtain ⟨_, h2⟩ := tyB_get (t := .arr n u) rfl; rw [h2] at hc; exact absurd hc (by decide)
    | str n => obtain ⟨_, h2⟩ := tyB_get (t := .str n) rfl; rw [h2] at hc; exact absurd hc (by decide)
    | fn ps r => obtain ⟨_, h2⟩ := tyB_get (t := .fn ps r) rfl; rw [h2] at hc; exact absurd hc (by decide)
theorem isScal_no {s : ByteArray} (hi : isIntS s = false) (hc : ∀ h : 0 < s.size, s[0] ≠ 112) : isScalS s = false := by
  unfold isScalS
  unfold isIntS at hi
  rcases hs : tyS s with _ | t
  · rfl
  · obtain ⟨rfl, hr, _⟩ := tyS_some.1 hs
    rw [hs] at hi
    simp only [Option.any_some] at hi ⊢
    cases t with
    | ptr u => obtain ⟨h1, h2⟩ := tyB_get (t := .ptr u) rfl; exact absurd h2 (hc h1)
    | _ => simp [isScalarT, hi, isPtrT]

set_option maxHeartbeats 1000000 in
theorem isScalar_ok (s : ByteArray) (w : World) (hE : TE w) : Calls Tryz.prog 234 #[.string s] w fun e w' => e = .returned (.bool (isScalS s)) ∧ Below w.heap.size w w' := by
  have HE := Lib.hid hE
  clear hE
  rcases hi : isIntS s with _ | _
  · have HI := Lib.hid hi
    by_cases h0 : 0 < s.size
    · by_cases hc : s[0] = 112
      · have HF := Lib.hid (isScal_ptr hi h0 hc)
        have t0 : decide (0 < s.size) = true := by simpa using h0
        have t1 : ((s[0].toNat : Int) == 112) = true := by rw [hc]; rfl
        rcases hf : (tyS s).isSome with _ | _
        all_goals
          have HFm := Lib.hid (form_is _ s w HE.out hf)
          have hfin := Lib.hid (HF.out.trans hf)
          clear hi hc hf
          go_enter Tryz.func234, Tryz.ntmps234
          go_wp2_with (first | (go_at_call 250; (with_reducible refine (isInt_is _ s _ HI.out).mono ?_); rintro e w1 ⟨rfl, rfl⟩) | (go_at_call 149; (with_reducible refine HFm.out.mono ?_); rintro e w1 ⟨rfl, hb1⟩))
          go_ret
          exact ⟨by rw [hfin.out]; rfl, hb1⟩
      · have hfin := Lib.hid (isScal_no hi (fun _ => hc))
        have t0 : decide (0 < s.size) = true := by simpa using h0
        have t1 : ((s[0].toNat : Int) == 112) = false := by
          rw [beq_eq_false_iff_ne]; intro e
          exact hc (UInt8.toNat_inj.1 (by have : s[0].toNat = 112 := by omega
                                          simpa using this))
        clear hi hc
        go_enter Tryz.func234, Tryz.ntmps234
        go_wp2_with (first | (go_at_call 250; (with_reducible refine (isInt_is _ s _ HI.out).mono ?_); rintro e w1 ⟨rfl, rfl⟩))
        go_ret
        exact ⟨by rw [hfin.out]; rfl, Below.refl _ _⟩
    · have hfin := Lib.hid (isScal_no hi (fun h => absurd h h0))
      have t0 : decide (0 < s.size) = false := by simpa using h0
      clear hi
      go_enter Tryz.func234, Tryz.ntmps234
      go_wp2_with (first | (go_at_call 250; (with_reducible refine (isInt_is _ s _ HI.out).mono ?_); rintro e w1 ⟨rfl, rfl⟩))
      go_ret
      exact ⟨by rw [hfin.out]; rfl, Below.refl _ _⟩
  · have HI := Lib.hid hi
    have hfin := Lib.hid (isScal_int hi)
    clear hi
    go_enter Tryz.func234, Tryz.ntmps234
    go_wp2_with (first | (go_at_call 250; (with_reducible refine (isInt_is _ s _ HI.out).mono ?_); rintro e w1 ⟨rfl, rfl⟩))
    go_ret
    exact ⟨by rw [hfin.out]; rfl, Below.refl _ _⟩

end Go.Proofs.YtkokdafkjjcgoaaGreatDoor
namespace Go.Proofs.YtkokdafkjjcgoaaGreatDoor
open Go.RowKit

def isC (c : UInt8) : Ty → Bool
  | .base d => decide (d = c)
  | _ => false
theorem tup_eq {a b : Value} (h : a = b) : Ending.returned a = .returned b := by rw [h]
theorem base_six {c : UInt8} (h : isBase c = true) : c = 118 ∨ c = 99 ∨ c = 115 ∨ c = 105 ∨ c = 117 ∨ c = 106 := by
  unfold isBase at h
  rw [List.contains_iff_mem] at h
  simpa using h
/-- the first letter of a type, as the tests ask -/
def headT : Ty → UInt8
  | .base c => c
  | .ptr _ => 112
  | .arr _ _ => 97
  | .str _ => 83
  | .fn _ _ => 102
theorem tyB_head (t : Ty) : ∃ h : 0 < (tyB t).size, (tyB t)[0] = headT t := by
  cases t with
  | base c => exact tyB_get (t := .base c) rfl
  | ptr u => exact tyB_get (t := .ptr u) rfl
  | arr n u => exact tyB_get (t := .arr n u) rfl
  | str n => exact tyB_get (t := .str n) rfl
  | fn ps r => exact tyB_get (t := .fn ps r) rfl
theorem eq_false' {s : ByteArray} {h : 0 < s.size} {c d : UInt8} (hc : s[0] = c) (hd : c ≠ d) : ((s[0].toNat : Int) == (d.toNat : Int)) = false := by
  rw [hc, beq_eq_false_iff_ne]
  intro e
  exact hd (UInt8.toNat_inj.1 (by omega))
theorem eq_true' {s : ByteArray} {h : 0 < s.size} {c : UInt8} (hc : s[0] = c) : ((s[0].toNat : Int) == (c.toNat : Int)) = true := by rw [hc]; simp

end Go.Proofs.YtkokdafkjjcgoaaGreatDoor
namespace Go.Proofs.YtkokdafkjjcgoaaGreatDoor
open Go.RowKit

theorem add_namedT (a b y : ByteArray) (hy : a ++ b = y) (h : a.size + b.size ≤ 9223372036854775807) : ∀ w, (Op.stringOp .add a b).run Tryz.prog w = .ok (.string y) w := fun w => by rw [← hy]; exact run_string_add_sum w a b h
theorem one_is {t : Ty} (h : Right t) (c : UInt8) : ((tyB t).toList == [c]) = isC c t := by
  rw [str_one, Bool.eq_iff_iff, decide_eq_true_iff, one_base h]
  cases t <;> simp [isC]
end Go.Proofs.YtkokdafkjjcgoaaGreatDoor
namespace Go.Proofs.YtkokdafkjjcgoaaGreatDoor

def wordT : Ty → List UInt8
  | .base c => if c = 118 then [118, 111, 105, 100] else if c = 99 then [99, 104, 97, 114] else if c = 115 then [115, 104, 111, 114, 116] else if c = 105 then [105, 110, 116]
    else if c = 117 then [117, 110, 115, 105, 103, 110, 101, 100] else [106, 109, 112, 95, 98, 117, 102]
  | .str s => [115, 116, 114, 117, 99, 116, 32] ++ s
  | _ => []
def isArrT : Ty → Bool
  | .arr _ _ => true
  | _ => false
def commaL : List (List UInt8) → List UInt8
  | [] => []
  | [x] => x
  | x :: y :: l => x ++ 44 :: 32 :: commaL (y :: l)
mutual
/-- a type around what stands already -/
def declT : Ty → List UInt8 → List UInt8
  | .base c, s => if s = [] then wordT (.base c) else wordT (.base c) ++ 32 :: s
  | .str n, s => if s = [] then wordT (.str n) else wordT (.str n) ++ 32 :: s
  | .ptr t, s => declT t (if isArrT t || isFnT t then 40 :: 42 :: s ++ [41] else 42 :: s)
  | .arr n t, s => declT t (s ++ 91 :: Lib.decDigits n ++ [93])
  | .fn ps r, s => declT r (s ++ 40 :: (if ps = [] then [118, 111, 105, 100] else commaL (declTs ps)) ++ [41])
def declTs : List Ty → List (List UInt8)
  | [] => []
  | t :: l => declT t [] :: declTs l
end
end Go.Proofs.YtkokdafkjjcgoaaGreatDoor
namespace Go.Proofs.YtkokdafkjjcgoaaGreatDoor
open Go.RowKit

/-- a string by its bytes -/
def strB (l : List UInt8) : ByteArray := ⟨l.toArray⟩
theorem strB_list (l : List UInt8) : (strB l).data.toList = l := by simp [strB]
theorem strB_size (l : List UInt8) : (strB l).size = l.length := by simp [strB, ByteArray.size]
theorem strB_eq {x : ByteArray} {l : List UInt8} (h : x.data.toList = l) : x = strB l := toList_eq (by rw [h, strB_list])
theorem strB_self (x : ByteArray) : strB x.data.toList = x := (strB_eq rfl).symm
theorem strB_append (a b : List UInt8) : strB a ++ strB b = strB (a ++ b) := strB_eq (by simp [strB_list])
/-- a sum of strings -/
theorem add_str (a b : List UInt8) (h : a.length + b.length ≤ 9223372036854775807) : ∀ w, (Op.stringOp .add (strB a) (strB b)).run Tryz.prog w = .ok (.string (strB (a ++ b))) w :=
  add_namedT _ _ _ (strB_append a b) (by rw [strB_size, strB_size]; exact h)
theorem strB_isEmpty (l : List UInt8) : (strB l).toList.isEmpty = l.isEmpty := by rw [Lib.toList_data, strB_list]
theorem str_emp {l : List UInt8} (h : l = []) : (strB l).toList.isEmpty = true := by rw [strB_isEmpty, h]; rfl
theorem str_nemp {l : List UInt8} (h : l ≠ []) : (strB l).toList.isEmpty = false := by rw [strB_isEmpty]; simpa using h

mutual
theorem decl_len : ∀ (t : Ty) (x : List UInt8), Right t → (declT t x).length ≤ x.length + 16 * (code t).length
  | .base c, x, h => by
    have hw : (wordT (.base c)).length ≤ 8 := by
      simp only [wordT]
      repeat' split
      all_goals decide
    rw [declT, code]
    split
    · simp at *; omega
    · simp at *; omega
  | .str n, x, h => by
    rw [declT, code]
    split
    · simp [wordT]; omega
    · simp [wordT]; omega
  | .ptr t, x, h => by
    rw [declT, code]
    have := decl_len t (if isArrT t || isFnT t then 40 :: 42 :: x ++ [41] else 42 :: x) h
    split at this
    · rename_i e; rw [if_pos e]; simp at this ⊢; omega
    · rename_i e; rw [if_neg e]; simp at this ⊢; omega
  | .arr n t, x, h => by
    rw [declT, code]
    have := decl_len t (x ++ 91 :: Lib.decDigits n ++ [93]) h.2
    simp at this ⊢; omega
  | .fn ps r, x, h => by
    rw [declT, code]
    have h1 := decl_len r (x ++ 40 :: (if ps = [] then [118, 111, 105, 100] else commaL (declTs ps)) ++ [41]) h.2
    have h2 := decls_len ps h.1
    have h3 : (if ps = [] then ([118, 111, 105, 100] : List UInt8) else commaL (declTs ps)).length ≤ 4 + 16 * (codes ps).length := by
      split
      · simp
      · omega
    simp at h1 ⊢; omega
theorem decls_len : ∀ (ps : List Ty), Rights ps → (commaL (declTs ps)).length ≤ 16 * (codes ps).length
  | [], _ => by simp [declTs, commaL]
  | [t], h => by
    have := decl_len t [] h.1
    rw [declTs, declTs, commaL, codes_cons]
    simp at this ⊢; omega
  | t :: u :: l, h => by
    have h1 := decl_len t [] h.1
    have h2 := decls_len (u :: l) h.2
    rw [declTs] at h2 ⊢
    rw [declTs, commaL, codes_cons, codes'_cons]
    simp at h1 h2 ⊢; omega
end

set_option maxHeartbeats 1000000 in
theorem base_ok (t : Ty) (w : World) (hr : Right t) (ht : (∃ c, t = .base c) ∨ ∃ n, t = .str n) (hl : (code t).length ≤ 65536) : Calls Tryz.prog 186 #[.string (tyB t)] w fun e w' => e = .returned (.string (strB (wordT t))) ∧ w' = w := by
  rcases ht with ⟨c, rfl⟩ | ⟨n, rfl⟩
  · rcases base_six hr with rfl | rfl | rfl | rfl | rfl | rfl
    all_goals
      have t1 := one_is hr 118
      have t2 := one_is hr 99
      have t3 := one_is hr 115
      have t4 := one_is hr 105
      have t5 := one_is hr 117
      have t6 := one_is hr 106
      simp (decide := true) only [isC] at t1 t2 t3 t4 t5 t6
      generalize tyB (.base _) = s at *
      clear hr
      go_enter Tryz.func186, Tryz.ntmps186
      go_wp2_with fail
      go_ret
      exact ⟨rfl, rfl⟩
  · have t1 := one_is hr 118
    have t2 := one_is hr 99
    have t3 := one_is hr 115
    have t4 := one_is hr 105
    have t5 := one_is hr 117
    have t6 := one_is hr 106
    simp only [isC] at t1 t2 t3 t4 t5 t6
    have hx : (tyB (.str n)).extract 1 ((tyB (.str n)).size - 1) = strB n := strB_eq (by
      have : (tyB (.str n)).size - 1 = 1 + n.length := by rw [tyB_size, code]; simp; omega
      rw [this, extract_take, tyB_sfx, code]
      simp)
    have hadd := add_str [115, 116, 114, 117, 99, 116, 32] n (by rw [code] at hl; simp at hl ⊢; omega)
    have hs2 : 2 ≤ (tyB (.str n)).size := by rw [tyB_size, code]; simp
    have hs3 : (tyB (.str n)).size ≤ 65536 := by rw [tyB_size]; exact hl
    generalize tyB (.str n) = s at *
    have HX := Lib.hid hx
    have e1 : IntKind.i64.wrap ((s.size : Int) - 1) = (s.size : Int) - 1 := IntWalk.i64_in _ (by omega)
    have e2 : ((s.size : Int) - 1).toNat = s.size - 1 := by omega
    have e3 : (1 : Int) ≤ (s.size : Int) - 1 := by omega
    have e4 : (s.size : Int) - 1 ≤ s.size := by omega
    clear hx hl hr hs3
    rw [show strB [115, 116, 114, 117, 99, 116, 32] = ⟨#[115, 116, 114, 117, 99, 116, 32]⟩ from rfl, ← HX.out] at hadd
    go_enter Tryz.func186, Tryz.ntmps186
    go_wp2_with fail
    go_ret
    exact ⟨rfl, rfl⟩

end Go.Proofs.YtkokdafkjjcgoaaGreatDoor
namespace Go.Proofs.YtkokdafkjjcgoaaGreatDoor
open Go.RowKit

def DeclC (t : Ty) : Prop := ∀ (x : List UInt8) (w : World), TP w → x.length + 16 * (code t).length ≤ 2000000 →
  Calls Tryz.prog 151 #[.string (tyB t), .string (strB x)] w fun e w' => e = .returned (.string (strB (declT t x))) ∧ Below w.heap.size w w'
theorem ret_strB {a b : List UInt8} (h : a = b) : Ending.returned (.string (strB a)) = .returned (.string (strB b)) := by rw [h]

set_option maxHeartbeats 1000000 in
theorem decl_root (t : Ty) (hr : Right t) (ht : (∃ c, t = .base c) ∨ ∃ n, t = .str n) (hl : (code t).length ≤ 65536) : DeclC t := by
  intro x w _ hz
  have HBs := Lib.hid (fun w => base_ok t w hr ht hl)
  obtain ⟨h0, hc⟩ := tyB_head t
  have hne : headT t ≠ 112 ∧ headT t ≠ 97 ∧ headT t ≠ 102 := by
    rcases ht with ⟨c, rfl⟩ | ⟨n, rfl⟩
    · rcases base_six hr with rfl | rfl | rfl | rfl | rfl | rfl <;> decide
    · simp [headT]
  have t1 : (((tyB t)[0].toNat : Int) == 112) = false := eq_false' (d := 112) hc hne.1
  have t2 : (((tyB t)[0].toNat : Int) == 97) = false := eq_false' (d := 97) hc hne.2.1
  have t3 : (((tyB t)[0].toNat : Int) == 102) = false := eq_false' (d := 102) hc hne.2.2
  have hw : (wordT t).length ≤ 16 * (code t).length := by
    have := decl_len t [] hr
    rcases ht with ⟨c, rfl⟩ | ⟨n, rfl⟩
    · rw [declT, if_pos rfl] at this; simpa using this
    · rw [declT, if_pos rfl] at this; simpa using this
  have hd : declT t x = if x = [] then wordT t else wordT t ++ 32 :: x := by
    rcases ht with ⟨c, rfl⟩ | ⟨n, rfl⟩
    · rw [declT]
    · rw [declT]
  by_cases hx : x = []
  · have hfin := Lib.hid (hd.trans (if_pos hx))
    have t4 := str_emp hx
    generalize tyB t = s at *
    generalize strB x = y at *
    clear hne hw hd hr ht hl hc hx hz
    go_enter Tryz.func151, Tryz.ntmps151
    go_wp2_with (go_at_call 186; (with_reducible refine (HBs.out _).mono ?_); rintro e w1 ⟨rfl, rfl⟩)
    go_ret
    exact ⟨(ret_strB hfin.out.symm), Below.refl _ _⟩
  · have hfin := Lib.hid (hd.trans (if_neg hx))
    have t4 := str_nemp hx
    have a1 := add_str (wordT t) [32] (by simp; omega)
    have a2 := add_str (wordT t ++ [32]) x (by simp; omega)
    rw [show strB [32] = ⟨#[32]⟩ from rfl] at a1
    rw [show wordT t ++ [32] ++ x = declT t x by rw [hfin.out]; simp] at a2
    generalize tyB t = s at *
    generalize strB (declT t x) = y3 at *
    generalize strB (wordT t ++ [32]) = y2 at *
    generalize strB (wordT t) = y1 at *
    generalize strB x = y at *
    clear hne hw hd hr ht hl hc hx hz hfin
    go_enter Tryz.func151, Tryz.ntmps151
    go_wp2_with (go_at_call 186; (with_reducible refine (HBs.out _).mono ?_); rintro e w1 ⟨rfl, rfl⟩)
    go_ret
    exact ⟨rfl, Below.refl _ _⟩

theorem tyB_second (t : Ty) : ∃ h : 1 < (tyB (.ptr t)).size, (tyB (.ptr t))[1] = headT t := by
  have h1 : sfx (tyB (.ptr t)) 1 = code t := by rw [tyB_sfx]; rfl
  obtain ⟨l, hl⟩ : ∃ l, code t = headT t :: l := by cases t <;> exact ⟨_, rfl⟩
  rw [hl] at h1
  obtain ⟨hk, h2, _⟩ := sfx_head h1
  exact ⟨hk, h2⟩
theorem head_arr {t : Ty} (h : Right t) : (((headT t).toNat : Int) == 97) = isArrT t := by
  cases t with
  | base c => rcases base_six h with rfl | rfl | rfl | rfl | rfl | rfl <;> rfl
  | _ => rfl
theorem head_fn {t : Ty} (h : Right t) : (((headT t).toNat : Int) == 102) = isFnT t := by
  cases t with
  | base c => rcases base_six h with rfl | rfl | rfl | rfl | rfl | rfl <;> rfl
  | _ => rfl
set_option maxHeartbeats 2000000 in
theorem decl_ptr (t : Ty) (hr : Right t) (_hl : (code (.ptr t)).length ≤ 65536) (ih : DeclC t) : DeclC (.ptr t) := by
  intro x w hE hz
  have HE := Lib.hid hE
  rw [code] at hz
  simp only [List.length_cons] at hz
  obtain ⟨h0, hc⟩ := tyB_head (.ptr t)
  obtain ⟨h1, hc1⟩ := tyB_second t
  have t1 : (((tyB (.ptr t))[0].toNat : Int) == 112) = true := eq_true' hc
  have t2 : (((tyB (.ptr t))[1].toNat : Int) == 97) = isArrT t := by rw [hc1]; exact head_arr hr
  have t3 : (((tyB (.ptr t))[1].toNat : Int) == 102) = isFnT t := by rw [hc1]; exact head_fn hr
  have HX := Lib.hid (tyB_ext (t := .ptr t) (u := t) (k := 1) rfl)
  have hi1 : (1 : Int) < (tyB (.ptr t)).size := by omega
  have hi2 : (1 : Int) ≤ (tyB (.ptr t)).size := by omega
  have a1 := add_str [42] x (by simp; omega)
  rw [show strB [42] = ⟨#[42]⟩ from rfl] at a1
  have hd : declT (.ptr t) x = declT t (if isArrT t || isFnT t then 40 :: 42 :: x ++ [41] else 42 :: x) := by rw [declT]
  rcases ha : isArrT t with _ | _
  · rcases hf : isFnT t with _ | _
    · have HI := Lib.hid (fun w hE => ih (42 :: x) w hE (by simp; omega))
      have hfin := Lib.hid (show declT t (42 :: x) = declT (.ptr t) x by rw [hd, ha, hf]; rfl)
      rw [ha] at t2; rw [hf] at t3
      generalize tyB (.ptr t) = s at *
      rw [show [42] ++ x = 42 :: x from rfl] at a1
      generalize strB (42 :: x) = y1 at *
      generalize strB x = y at *
      clear hc hc1 hd hr _hl hz ha hf ih hE
      go_enter Tryz.func151, Tryz.ntmps151
      go_upto_region 6 with fail
      have H6 := Lib.hid (HI.out w HE.out)
      go_wp2_with fail
      rw [HX.out]
      refine H6.out.mono ?_
      rintro e w1 ⟨rfl, hb1⟩
      rw [hfin.out]
      go_wp2_with fail
      go_ret
      exact ⟨rfl, hb1⟩
    · have a2 := add_str [40] (42 :: x) (by simp; omega)
      have a3 := add_str (40 :: 42 :: x) [41] (by simp; omega)
      rw [show strB [40] = ⟨#[40]⟩ from rfl, show [40] ++ 42 :: x = 40 :: 42 :: x from rfl] at a2
      rw [show strB [41] = ⟨#[41]⟩ from rfl] at a3
      have HI := Lib.hid (fun w hE => ih (40 :: 42 :: x ++ [41]) w hE (by simp; omega))
      have hfin := Lib.hid (show declT t (40 :: 42 :: x ++ [41]) = declT (.ptr t) x by rw [hd, ha, hf]; rfl)
      rw [ha] at t2; rw [hf] at t3
      generalize tyB (.ptr t) = s at *
      rw [show [42] ++ x = 42 :: x from rfl] at a1
      generalize strB (40 :: 42 :: x ++ [41]) = y3 at *
      generalize strB (40 :: 42 :: x) = y2 at *
      generalize strB (42 :: x) = y1 at *
      generalize strB x = y at *
      clear hc hc1 hd hr _hl hz ha hf ih hE
      go_enter Tryz.func151, Tryz.ntmps151
      go_upto_region 6 with fail
      have H6 := Lib.hid (HI.out w HE.out)
      go_wp2_with fail
      rw [HX.out]
      refine H6.out.mono ?_
      rintro e w1 ⟨rfl, hb1⟩
      rw [hfin.out]
      go_wp2_with fail
      go_ret
      exact ⟨rfl, hb1⟩
  · have a2 := add_str [40] (42 :: x) (by simp; omega)
    have a3 := add_str (40 :: 42 :: x) [41] (by simp; omega)
    rw [show strB [40] = ⟨#[40]⟩ from rfl, show [40] ++ 42 :: x = 40 :: 42 :: x from rfl] at a2
    rw [show strB [41] = ⟨#[41]⟩ from rfl] at a3
    have HI := Lib.hid (fun w hE => ih (40 :: 42 :: x ++ [41]) w hE (by simp; omega))
    have hfin := Lib.hid (show declT t (40 :: 42 :: x ++ [41]) = declT (.ptr t) x by rw [hd, ha]; rfl)
    rw [ha] at t2
    generalize tyB (.ptr t) = s at *
    rw [show [42] ++ x = 42 :: x from rfl] at a1
    generalize strB (40 :: 42 :: x ++ [41]) = y3 at *
    generalize strB (40 :: 42 :: x) = y2 at *
    generalize strB (42 :: x) = y1 at *
    generalize strB x = y at *
    clear hc hc1 hd hr _hl hz ha t3 ih hE
    go_enter Tryz.func151, Tryz.ntmps151
    go_upto_region 6 with fail
    have H6 := Lib.hid (HI.out w HE.out)
    go_wp2_with fail
    rw [HX.out]
    refine H6.out.mono ?_
    rintro e w1 ⟨rfl, hb1⟩
    rw [hfin.out]
    go_wp2_with fail
    go_ret
    exact ⟨rfl, hb1⟩

set_option maxHeartbeats 2000000 in
theorem decl_arr (n : Nat) (t : Ty) (hr : Right (.arr n t)) (hl : (code (.arr n t)).length ≤ 65536) (ih : DeclC t) : DeclC (.arr n t) := by
  intro x w hE hz
  have HE := Lib.hid hE
  have hcl : (code (.arr n t)).length = (Lib.decDigits n).length + (code t).length + 2 := by rw [code]; simp; omega
  rw [hcl] at hz
  obtain ⟨h0, hc⟩ := tyB_head (.arr n t)
  have t1 : (((tyB (.arr n t))[0].toNat : Int) == 112) = false := eq_false' (d := 112) hc (by simp [headT])
  have t2 : (((tyB (.arr n t))[0].toNat : Int) == 97) = true := eq_true' hc
  have HS := Lib.hid (fun w hM => split_arr n t w hr hM hl)
  have hI : Lib.itoa (n : Int) = Lib.decDigits n := by unfold Lib.itoa; rw [if_neg (by omega)]; simp
  have HIt := Lib.hid (fun w hP => show Calls Tryz.prog 185 #[.int .i64 n] w fun e w' => e = .returned (.string (strB (Lib.decDigits n))) ∧ Below w.heap.size w w' by
    have := lexItoa_ok n w hP (by omega) (by have := hr.1; omega)
    rw [hI] at this; exact this)
  have a1 := add_str x [91] (by simp; omega)
  have a2 := add_str (x ++ [91]) (Lib.decDigits n) (by simp; omega)
  have a3 := add_str (x ++ [91] ++ Lib.decDigits n) [93] (by simp; omega)
  rw [show strB [91] = ⟨#[91]⟩ from rfl] at a1
  rw [show strB [93] = ⟨#[93]⟩ from rfl] at a3
  have he : x ++ [91] ++ Lib.decDigits n ++ [93] = x ++ 91 :: Lib.decDigits n ++ [93] := by simp
  rw [he] at a3
  have HI := Lib.hid (fun w hE => ih (x ++ 91 :: Lib.decDigits n ++ [93]) w hE (by simp; omega))
  have hfin := Lib.hid (show declT t (x ++ 91 :: Lib.decDigits n ++ [93]) = declT (.arr n t) x by rw [declT])
  have hnb : (n : Int) ≤ 1099511627776 := by have := hr.1; omega
  generalize tyB (.arr n t) = s at *
  generalize strB (x ++ 91 :: Lib.decDigits n ++ [93]) = y3 at *
  generalize strB (x ++ [91] ++ Lib.decDigits n) = y2 at *
  generalize strB (x ++ [91]) = y1 at *
  generalize strB (Lib.decDigits n) = y0 at *
  generalize strB x = y at *
  clear hc hr hl hz ih hE hcl hI he
  go_enter Tryz.func151, Tryz.ntmps151
  go_wp2_with (go_at_call 150; (with_reducible refine (HS.out _ HE.out.te.maxl).mono ?_))
  rintro e w1 ⟨rfl, hb1⟩
  have HE1 := Lib.hid (HE.out.below hb1)
  have HB1 := Lib.hid hb1
  clear hb1
  go_wp2_with (go_at_call 185; (with_reducible refine (HIt.out _ HE1.out.pow).mono ?_))
  rintro e w2 ⟨rfl, hb2⟩
  have HE2 := Lib.hid (HE1.out.below hb2)
  have HB2 := Lib.hid (HB1.out.trans (hb2.mono HB1.out.size))
  clear hb2
  go_wp2_with (go_at_call 151; (with_reducible refine (HI.out _ HE2.out).mono ?_))
  rintro e w3 ⟨rfl, hb3⟩
  have HB3 := Lib.hid (HB2.out.trans (hb3.mono HB2.out.size))
  rw [hfin.out]
  clear hb3
  go_wp2_with fail
  go_ret
  exact ⟨rfl, HB3.out⟩

end Go.Proofs.YtkokdafkjjcgoaaGreatDoor
