/- Elem, Sign, Decay, Promote, Common: the program. -/
import Derived.Test.YtmmjmppfmjejkaaDoorParts
namespace Go.Proofs.YtmmjmppfmjejkaaDoor
open Go.RowKit

def isC (c : UInt8) : Ty → Bool
  | .base d => decide (d = c)
  | _ => false
def elemV : Option Ty → Value
  | none => .tuple #[.string ⟨#[]⟩, .int .i64 0, .int .i64 2]
  | some (.ptr u) => .tuple #[.string (tyB u), .int .i64 0, .int .i64 0]
  | some (.arr n u) => .tuple #[.string (tyB u), .int .i64 n, .int .i64 0]
  | some _ => .tuple #[.string ⟨#[]⟩, .int .i64 0, .int .i64 5]
/-- what is told of a function's parts -/
def SignP (r : Option Ty) (w : World) (e : Ending) (w' : World) : Prop :=
  (match r with
    | none => e = .returned (.tuple #[.string ⟨#[]⟩, .slice none 0 0, .int .i64 2])
    | some (.fn ps r) => ∃ v, e = .returned (.tuple #[.string (tyB r), v, .int .i64 0]) ∧ w'.ownsRow w.heap.size 22 1 v ps.length (ps.map fun p => .string (tyB p))
    | some _ => e = .returned (.tuple #[.string ⟨#[]⟩, .slice none 0 0, .int .i64 5])) ∧ Below w.heap.size w w'
def decayV (s : ByteArray) : Option Ty → Value
  | none => .tuple #[.string ⟨#[]⟩, .int .i64 2]
  | some (.arr _ u) => .tuple #[.string (tyB (.ptr u)), .int .i64 0]
  | some (.fn ps r) => if 65536 ≤ s.size then .tuple #[.string ⟨#[]⟩, .int .i64 3] else .tuple #[.string (tyB (.ptr (.fn ps r))), .int .i64 0]
  | some (.base c) => if c = 106 then .tuple #[.string (tyB (.ptr (.base c))), .int .i64 0] else .tuple #[.string s, .int .i64 0]
  | some _ => .tuple #[.string s, .int .i64 0]
def promoteV (s : ByteArray) : Option Ty → Value
  | none => .tuple #[.string ⟨#[]⟩, .int .i64 2]
  | some t => if (isC 99 t || isC 115 t) = true then .tuple #[.string (tyB (.base 105)), .int .i64 0] else .tuple #[.string s, .int .i64 0]
def commonV : Option Ty → Option Ty → Value
  | some t, some u => if (isIntT t && isIntT u) = true then (if (isC 117 t || isC 117 u) = true then .tuple #[.string (tyB (.base 117)), .int .i64 0] else .tuple #[.string (tyB (.base 105)), .int .i64 0]) else .tuple #[.string ⟨#[]⟩, .int .i64 5]
  | _, _ => .tuple #[.string ⟨#[]⟩, .int .i64 2]

theorem tup_eq {a b : Value} (h : a = b) : Ending.returned a = .returned b := by rw [h]
theorem base_six {c : UInt8} (h : isBase c = true) : c = 118 ∨ c = 99 ∨ c = 115 ∨ c = 105 ∨ c = 117 ∨ c = 106 := by
  unfold isBase at h
  rw [List.contains_iff_mem] at h
  simpa using h
/-- the first letter of a type, as the tests ask -/
def headT : Ty → UInt8
  | .base c => c
  | .ptr _ => 112
  | .arr _ _ => 97
  | .str _ => 83
  | .fn _ _ => 102
theorem tyB_head (t : Ty) : ∃ h : 0 < (tyB t).size, (tyB t)[0] = headT t := by
  cases t with
  | base c => exact tyB_get (t := .base c) rfl
  | ptr u => exact tyB_get (t := .ptr u) rfl
  | arr n u => exact tyB_get (t := .arr n u) rfl
  | str n => exact tyB_get (t := .str n) rfl
  | fn ps r => exact tyB_get (t := .fn ps r) rfl
theorem ne_true {s : ByteArray} {h : 0 < s.size} {c d : UInt8} (hc : s[0] = c) (hd : c ≠ d) : ((s[0].toNat : Int) != (d.toNat : Int)) = true := by
  rw [hc, bne_iff_ne]
  intro e
  exact hd (UInt8.toNat_inj.1 (by omega))
theorem ne_false {s : ByteArray} {h : 0 < s.size} {c : UInt8} (hc : s[0] = c) : ((s[0].toNat : Int) != (c.toNat : Int)) = false := by rw [hc]; simp
theorem eq_false' {s : ByteArray} {h : 0 < s.size} {c d : UInt8} (hc : s[0] = c) (hd : c ≠ d) : ((s[0].toNat : Int) == (d.toNat : Int)) = false := by
  rw [hc, beq_eq_false_iff_ne]
  intro e
  exact hd (UInt8.toNat_inj.1 (by omega))
theorem eq_true' {s : ByteArray} {h : 0 < s.size} {c : UInt8} (hc : s[0] = c) : ((s[0].toNat : Int) == (c.toNat : Int)) = true := by rw [hc]; simp

set_option maxHeartbeats 1000000 in
theorem elem_none (s : ByteArray) (w : World) (hE : TE w) (h : tyS s = none) : Calls Tryd.prog 13 #[.string s] w fun e w' => e = .returned (elemV (tyS s)) ∧ Below w.heap.size w w' := by
  have HF := Lib.hid (form_is false s w hE (by rw [h]; rfl))
  rw [h]
  clear h hE
  go_enter Tryd.func13, Tryd.ntmps13
  go_wp2_with (go_at_call 20; (with_reducible refine HF.out.mono ?_); rintro e w1 ⟨rfl, hb1⟩)
  go_ret3
  exact ⟨rfl, hb1⟩
set_option maxHeartbeats 1000000 in
theorem elem_other (t : Ty) (w : World) (hE : TE w) (h : tyS (tyB t) = some t) (h1 : headT t ≠ 112) (h2 : headT t ≠ 97) : Calls Tryd.prog 13 #[.string (tyB t)] w fun e w' => e = .returned (elemV (some t)) ∧ Below w.heap.size w w' := by
  have HF := Lib.hid (form_is true (tyB t) w hE (by rw [h]; rfl))
  obtain ⟨h0, hc⟩ := tyB_head t
  have t1 : (((tyB t)[0].toNat : Int) != 112) = true := ne_true (d := 112) hc h1
  have t2 : (((tyB t)[0].toNat : Int) != 97) = true := ne_true (d := 97) hc h2
  have hv := Lib.hid (show elemV (some t) = .tuple #[.string ⟨#[]⟩, .int .i64 0, .int .i64 5] by
    cases t with
    | ptr u => exact absurd rfl h1
    | arr n u => exact absurd rfl h2
    | _ => rfl)
  generalize tyB t = s at *
  clear h hE hc h1 h2
  go_enter Tryd.func13, Tryd.ntmps13
  go_wp2_with (go_at_call 20; (with_reducible refine HF.out.mono ?_); rintro e w1 ⟨rfl, hb1⟩)
  go_ret3
  exact ⟨tup_eq hv.out.symm, hb1⟩
set_option maxHeartbeats 1000000 in
theorem elem_ptr (u : Ty) (w : World) (hE : TE w) (h : tyS (tyB (.ptr u)) = some (.ptr u)) : Calls Tryd.prog 13 #[.string (tyB (.ptr u))] w fun e w' => e = .returned (elemV (some (.ptr u))) ∧ Below w.heap.size w w' := by
  have HF := Lib.hid (form_is true (tyB (.ptr u)) w hE (by rw [h]; rfl))
  have HS := Lib.hid (fun w => split_ptr u w)
  obtain ⟨h0, hc⟩ := tyB_head (.ptr u)
  have t1 : (((tyB (.ptr u))[0].toNat : Int) != 112) = false := ne_false hc
  generalize tyB (.ptr u) = s at *
  clear h hE hc
  go_enter Tryd.func13, Tryd.ntmps13
  go_wp2_with (first | (go_at_call 20; (with_reducible refine HF.out.mono ?_); rintro e w1 ⟨rfl, hb1⟩) | (go_at_call 27; (with_reducible refine (HS.out _).mono ?_); rintro e w2 ⟨rfl, hb2⟩))
  go_ret3
  exact ⟨rfl, hb1.trans (hb2.mono hb1.size)⟩
set_option maxHeartbeats 1000000 in
theorem elem_arr (n : Nat) (u : Ty) (w : World) (hE : TE w) (h : tyS (tyB (.arr n u)) = some (.arr n u)) : Calls Tryd.prog 13 #[.string (tyB (.arr n u))] w fun e w' => e = .returned (elemV (some (.arr n u))) ∧ Below w.heap.size w w' := by
  have HE := Lib.hid hE
  obtain ⟨_, hr, hl⟩ := tyS_some.1 h
  have HF := Lib.hid (form_is true (tyB (.arr n u)) w hE (by rw [h]; rfl))
  have HS := Lib.hid (fun w hM => split_arr n u w hr hM hl)
  obtain ⟨h0, hc⟩ := tyB_head (.arr n u)
  have t1 : (((tyB (.arr n u))[0].toNat : Int) != 112) = true := ne_true (d := 112) hc (by simp [headT])
  have t2 : (((tyB (.arr n u))[0].toNat : Int) != 97) = false := ne_false hc
  generalize tyB (.arr n u) = s at *
  clear h hE hc hr hl
  go_enter Tryd.func13, Tryd.ntmps13
  go_wp2_with (first | (go_at_call 20; (with_reducible refine HF.out.mono ?_); rintro e w1 ⟨rfl, hb1⟩; have HE1 := Lib.hid (HE.out.below hb1)) | (go_at_call 27; (with_reducible refine (HS.out _ HE1.out.maxl).mono ?_); rintro e w2 ⟨rfl, hb2⟩))
  go_ret3
  exact ⟨rfl, hb1.trans (hb2.mono hb1.size)⟩
theorem elem_ok (s : ByteArray) (w : World) (hE : TE w) : Calls Tryd.prog 13 #[.string s] w fun e w' => e = .returned (elemV (tyS s)) ∧ Below w.heap.size w w' := by
  rcases h : tyS s with _ | t
  · rw [← h]; exact elem_none s w hE h
  · obtain ⟨rfl, hr, _⟩ := tyS_some.1 h
    cases t with
    | ptr u => exact elem_ptr u w hE h
    | arr n u => exact elem_arr n u w hE h
    | base c => exact elem_other _ w hE h (by rcases base_six hr with rfl | rfl | rfl | rfl | rfl | rfl <;> decide) (by rcases base_six hr with rfl | rfl | rfl | rfl | rfl | rfl <;> decide)
    | str n => exact elem_other _ w hE h (by simp [headT]) (by simp [headT])
    | fn ps r => exact elem_other _ w hE h (by simp [headT]) (by simp [headT])

end Go.Proofs.YtmmjmppfmjejkaaDoor
