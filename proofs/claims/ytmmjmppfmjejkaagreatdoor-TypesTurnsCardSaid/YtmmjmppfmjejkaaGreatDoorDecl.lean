/- How a type is written: the program, but for functions. -/
import Derived.Test.YtmmjmppfmjejkaaGreatDoorParts3
import Derived.Test.YtmmjmppfmjejkaaGreatDoorTyDecl
import Derived.IntWalk
namespace Go.Proofs.YtmmjmppfmjejkaaGreatDoor
open Go.RowKit

/-- a string by its bytes -/
def strB (l : List UInt8) : ByteArray := ⟨l.toArray⟩
theorem strB_list (l : List UInt8) : (strB l).data.toList = l := by simp [strB]
theorem strB_size (l : List UInt8) : (strB l).size = l.length := by simp [strB, ByteArray.size]
theorem strB_eq {x : ByteArray} {l : List UInt8} (h : x.data.toList = l) : x = strB l := toList_eq (by rw [h, strB_list])
theorem strB_self (x : ByteArray) : strB x.data.toList = x := (strB_eq rfl).symm
theorem strB_append (a b : List UInt8) : strB a ++ strB b = strB (a ++ b) := strB_eq (by simp [strB_list])
/-- a sum of strings -/
theorem add_str (a b : List UInt8) (h : a.length + b.length ≤ 9223372036854775807) : ∀ w, (Op.stringOp .add (strB a) (strB b)).run Tryz.prog w = .ok (.string (strB (a ++ b))) w :=
  add_namedT _ _ _ (strB_append a b) (by rw [strB_size, strB_size]; exact h)
theorem strB_isEmpty (l : List UInt8) : (strB l).toList.isEmpty = l.isEmpty := by rw [Lib.toList_data, strB_list]
theorem str_emp {l : List UInt8} (h : l = []) : (strB l).toList.isEmpty = true := by rw [strB_isEmpty, h]; rfl
theorem str_nemp {l : List UInt8} (h : l ≠ []) : (strB l).toList.isEmpty = false := by rw [strB_isEmpty]; simpa using h

mutual
theorem decl_len : ∀ (t : Ty) (x : List UInt8), Right t → (declT t x).length ≤ x.length + 16 * (code t).length
  | .base c, x, h => by
    have hw : (wordT (.base c)).length ≤ 8 := by
      simp only [wordT]
      repeat' split
      all_goals decide
    rw [declT, code]
    split
    · simp at *; omega
    · simp at *; omega
  | .str n, x, h => by
    rw [declT, code]
    split
    · simp [wordT]; omega
    · simp [wordT]; omega
  | .ptr t, x, h => by
    rw [declT, code]
    have := decl_len t (if isArrT t || isFnT t then 40 :: 42 :: x ++ [41] else 42 :: x) h
    split at this
    · rename_i e; rw [if_pos e]; simp at this ⊢; omega
    · rename_i e; rw [if_neg e]; simp at this ⊢; omega
  | .arr n t, x, h => by
    rw [declT, code]
    have := decl_len t (x ++ 91 :: Lib.decDigits n ++ [93]) h.2
    simp at this ⊢; omega
  | .fn ps r, x, h => by
    rw [declT, code]
    have h1 := decl_len r (x ++ 40 :: (if ps = [] then [118, 111, 105, 100] else commaL (declTs ps)) ++ [41]) h.2
    have h2 := decls_len ps h.1
    have h3 : (if ps = [] then ([118, 111, 105, 100] : List UInt8) else commaL (declTs ps)).length ≤ 4 + 16 * (codes ps).length := by
      split
      · simp
      · omega
    simp at h1 ⊢; omega
theorem decls_len : ∀ (ps : List Ty), Rights ps → (commaL (declTs ps)).length ≤ 16 * (codes ps).length
  | [], _ => by simp [declTs, commaL]
  | [t], h => by
    have := decl_len t [] h.1
    rw [declTs, declTs, commaL, codes_cons]
    simp at this ⊢; omega
  | t :: u :: l, h => by
    have h1 := decl_len t [] h.1
    have h2 := decls_len (u :: l) h.2
    rw [declTs] at h2 ⊢
    rw [declTs, commaL, codes_cons, codes'_cons]
    simp at h1 h2 ⊢; omega
end

set_option maxHeartbeats 1000000 in
theorem base_ok (t : Ty) (w : World) (hr : Right t) (ht : (∃ c, t = .base c) ∨ ∃ n, t = .str n) (hl : (code t).length ≤ 65536) : Calls Tryz.prog 76 #[.string (tyB t)] w fun e w' => e = .returned (.string (strB (wordT t))) ∧ w' = w := by
  rcases ht with ⟨c, rfl⟩ | ⟨n, rfl⟩
  · rcases base_six hr with rfl | rfl | rfl | rfl | rfl | rfl
    all_goals
      have t1 := one_is hr 118
      have t2 := one_is hr 99
      have t3 := one_is hr 115
      have t4 := one_is hr 105
      have t5 := one_is hr 117
      have t6 := one_is hr 106
      simp (decide := true) only [isC] at t1 t2 t3 t4 t5 t6
      generalize tyB (.base _) = s at *
      clear hr
      go_enter Tryz.func76, Tryz.ntmps76
      go_wp2_with fail
      go_ret
      exact ⟨rfl, rfl⟩
  · have t1 := one_is hr 118
    have t2 := one_is hr 99
    have t3 := one_is hr 115
    have t4 := one_is hr 105
    have t5 := one_is hr 117
    have t6 := one_is hr 106
    simp only [isC] at t1 t2 t3 t4 t5 t6
    have hx : (tyB (.str n)).extract 1 ((tyB (.str n)).size - 1) = strB n := strB_eq (by
      have : (tyB (.str n)).size - 1 = 1 + n.length := by rw [tyB_size, code]; simp; omega
      rw [this, extract_take, tyB_sfx, code]
      simp)
    have hadd := add_str [115, 116, 114, 117, 99, 116, 32] n (by rw [code] at hl; simp at hl ⊢; omega)
    have hs2 : 2 ≤ (tyB (.str n)).size := by rw [tyB_size, code]; simp
    have hs3 : (tyB (.str n)).size ≤ 65536 := by rw [tyB_size]; exact hl
    generalize tyB (.str n) = s at *
    have HX := Lib.hid hx
    have e1 : IntKind.i64.wrap ((s.size : Int) - 1) = (s.size : Int) - 1 := IntWalk.i64_in _ (by omega)
    have e2 : ((s.size : Int) - 1).toNat = s.size - 1 := by omega
    have e3 : (1 : Int) ≤ (s.size : Int) - 1 := by omega
    have e4 : (s.size : Int) - 1 ≤ s.size := by omega
    clear hx hl hr hs3
    rw [show strB [115, 116, 114, 117, 99, 116, 32] = ⟨#[115, 116, 114, 117, 99, 116, 32]⟩ from rfl, ← HX.out] at hadd
    go_enter Tryz.func76, Tryz.ntmps76
    go_wp2_with fail
    go_ret
    exact ⟨rfl, rfl⟩

end Go.Proofs.YtmmjmppfmjejkaaGreatDoor
