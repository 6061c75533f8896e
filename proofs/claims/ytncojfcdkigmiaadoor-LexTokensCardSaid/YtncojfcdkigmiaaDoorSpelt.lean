/- spelt, Char of both texts. -/
import Derived.Test.YtncojfcdkigmiaaDoorChecked
import Derived.Test.YtncojfcdkigmiaaDoorBase
import Derived.Test.YtncojfcdkigmiaaDoorPlain
import Derived.WalkKit
import Derived.WalkLawsBesides
import Derived.WalkSpells
import Derived.Lib.Hide
namespace Go.Proofs.YtncojfcdkigmiaaDoor
open Go.RowKit

/-- 'string(b)' where b is a row whose cells are bytes. -/
theorem bytes_str (W : World) (b : Nat) (ns : List Int) (k cap : Nat) (hk : k = ns.length) (hc : ∀ j v, (ns.map (Value.int .u8))[j]? = some v → W.cell? ⟨b, j, none⟩ = some v) :
    (convert 45 9 (.slice (some ⟨b, 0, none⟩) k cap)).run Tryd.prog W = .ok (.string ⟨(ns.map fun n => UInt8.ofNat n.toNat).toArray⟩) W := by
  subst hk
  rw [run_convert_bytes_string _ 45 9 5 _ _ _ Tryd.underlying45 Tryd.underlying5 Tryd.underlying9]
  have hl := run_loadCells_list (P := Tryd.prog) W ⟨b, 0, none⟩ (ns.map (Value.int .u8)) (fun j v hj => by
    rw [addr_add]; exact hc j v hj)
  simp only [List.length_map] at hl
  rw [run_bytesToString _ _ _ _ ns hl]
  have h : ∀ (l : List Int) (r : ByteArray), l.foldl (fun r n => r.push (UInt8.ofNat n.toNat)) r = ⟨r.data ++ (l.map fun n => UInt8.ofNat n.toNat).toArray⟩ := by
    intro l
    induction l with
    | nil => intro r; simp
    | cons b l ih => intro r; rw [List.foldl_cons, ih]; simp [ByteArray.push]
  rw [h]
  have he0 : ByteArray.empty.data = #[] := rfl
  rw [he0]
  simp
theorem bytes_new (w : World) (ns : List Int) (k : Nat) (hk : k = ns.length) : (convert 45 9 (.slice (some ⟨w.heap.size, 0, none⟩) k k)).run Tryd.prog (w.alloc (.cells (ns.map (Value.int .u8)).toArray 5)) =
    .ok (.string ⟨(ns.map fun n => UInt8.ofNat n.toNat).toArray⟩) (w.alloc (.cells (ns.map (Value.int .u8)).toArray 5)) :=
  bytes_str _ _ ns k k hk (fun j v hj => by rw [World.cell?_alloc_at _ _ _ _ rfl]; simpa using hj)
theorem bytes_new_d (w : World) (ns : List Int) (k : Nat) (hk : k = ns.length) : (convert 45 9 (.slice (some ⟨w.heap.size, 0, none⟩) k k)).run Tryd.prog (w.alloc (.cells (ns.map (Value.int .u8)).toArray 5)).drew =
    .ok (.string ⟨(ns.map fun n => UInt8.ofNat n.toNat).toArray⟩) (w.alloc (.cells (ns.map (Value.int .u8)).toArray 5)).drew :=
  bytes_str _ _ ns k k hk (fun j v hj => by show (w.alloc _).cell? _ = _; rw [World.cell?_alloc_at _ _ _ _ rfl]; simpa using hj)

theorem hex_index (n : Nat) (h : n < 16) (w : World) : (Instr.index 9 (.string ⟨#[48, 49, 50, 51, 52, 53, 54, 55, 56, 57, 97, 98, 99, 100, 101, 102]⟩) (.int .u8 (n : Int))).run Tryd.prog w = .ok (.int .u8 ((hexd n).toNat : Int)) w := by
  have key : n = 0 ∨ n = 1 ∨ n = 2 ∨ n = 3 ∨ n = 4 ∨ n = 5 ∨ n = 6 ∨ n = 7 ∨ n = 8 ∨ n = 9 ∨ n = 10 ∨ n = 11 ∨ n = 12 ∨ n = 13 ∨ n = 14 ∨ n = 15 := by omega
  rcases key with rfl | rfl | rfl | rfl | rfl | rfl | rfl | rfl | rfl | rfl | rfl | rfl | rfl | rfl | rfl | rfl <;> (show _ = _; kernel_rfl)

set_option maxHeartbeats 400000 in
theorem refSpelt_ok (c q : UInt8) (w : World) :
    Calls Tryd.prog 63 #[.int .u8 (c.toNat : Int), .int .u8 (q.toNat : Int)] w fun e w' => e = .returned (.string ⟨(speltL c q).toArray⟩) ∧ Below w.heap.size w w' := by
  have cv1 := fun (w : World) (n : Int) => bytes_new w [n] 1 rfl
  have cv2 := fun (w : World) (n m : Int) => bytes_new w [n, m] 2 rfl
  have cv4 := fun (w : World) (n m o r : Int) => bytes_new_d w [n, m, o, r] 4 rfl
  simp only [List.map_cons, List.map_nil] at cv1 cv2 cv4
  have hc := c.toNat_lt
  have hx1 : ∀ w, (Instr.index 9 (.string ⟨#[48, 49, 50, 51, 52, 53, 54, 55, 56, 57, 97, 98, 99, 100, 101, 102]⟩) (.int .u8 ((c.toNat : Int) / 16))).run Tryd.prog w = .ok (.int .u8 ((hexd (c.toNat / 16)).toNat : Int)) w := hex_index (c.toNat / 16) (by omega)
  have hx2 : ∀ w, (Instr.index 9 (.string ⟨#[48, 49, 50, 51, 52, 53, 54, 55, 56, 57, 97, 98, 99, 100, 101, 102]⟩) (.int .u8 ((c.toNat : Int) % 16))).run Tryd.prog w = .ok (.int .u8 ((hexd (c.toNat % 16)).toNat : Int)) w := hex_index (c.toNat % 16) (by omega)
  go_enter Tryd.func63, Tryd.ntmps63
  go_wp2
  all_goals try go_region
  all_goals try go_wp2
  all_goals go_ret
  all_goals refine ⟨?_, by repeat (first | exact Below.refl _ _ | apply Below.drew | refine Below.alloc ?_ (by simp) _)⟩
  · exact ret_str (spelt1 ‹_›).symm
  · exact ret_str (spelt2 ‹_› ‹_›).symm
  · exact ret_str (spelt3 ‹_› ‹_› ‹_›).symm
  · have e : c = 92 := by rw [← UInt8.toNat_inj]; show c.toNat = 92; omega
    subst e
    exact ret_str (spelt4 (c := 92) rfl rfl rfl (Or.inl rfl)).symm
  · exact ret_str (spelt4 ‹_› ‹_› ‹_› ‹_›).symm
  · exact ret_str (spelt5 ‹_› ‹_› ‹_› ‹_› ‹_›).symm
  · exact ret_str (spelt6 ‹_› ‹_› ‹_› ‹_› ‹_› (by omega)).symm
  · exact ret_str (spelt5 ‹_› ‹_› ‹_› ‹_› (Or.inl ‹_›)).symm

theorem and15 (c : UInt8) : bits .and .u8 (c.toNat : Int) 15 = (c.toNat : Int) % 16 := by
  have h := u8_and_nat c.toNat 15 c.toNat_lt (by decide)
  have e : c.toNat &&& 15 = c.toNat % 16 := Nat.and_two_pow_sub_one_eq_mod c.toNat 4
  rw [e] at h
  exact h
theorem enc_ascii (c : UInt8) (h : c.toNat < 128) : Utf8.encode (wrap32 (c.toNat : Int)) = ⟨#[c]⟩ := by
  have e : wrap32 (c.toNat : Int) = c.toNat := by unfold wrap32; omega
  rw [e]
  have hv : Utf8.valid (c.toNat : Int) = true := by simp [Utf8.valid]; omega
  simp [Utf8.encode, hv, h]
theorem enc_ascii' (c : UInt8) (h : c.toNat < 128) : Utf8.encode (c.toNat : Int) = ⟨#[c]⟩ := by
  have e : wrap32 (c.toNat : Int) = c.toNat := by unfold wrap32; omega
  rw [← e]; exact enc_ascii c h
theorem enc_ascii92 : Utf8.encode 92 = ⟨#[92]⟩ := rfl

set_option maxRecDepth 100000 in
set_option maxHeartbeats 400000 in
theorem lexSpelt_lo (c q : UInt8) (w : World) (h128 : c.toNat < 128) :
    Calls Tryd.prog 59 #[.int .u8 (c.toNat : Int), .int .u8 (q.toNat : Int)] w fun e w' => e = .returned (.string ⟨(speltL c q).toArray⟩) ∧ Below w.heap.size w w' := by
  have cv2 := fun (w : World) (n m : Int) => bytes_new_d w [n, m] 2 rfl
  simp only [List.map_cons, List.map_nil] at cv2
  have hx1 : ∀ w, (Instr.index 9 (.string ⟨#[48, 49, 50, 51, 52, 53, 54, 55, 56, 57, 97, 98, 99, 100, 101, 102]⟩) (.int .u8 ((c.toNat : Int) / 16))).run Tryd.prog w = .ok (.int .u8 ((hexd (c.toNat / 16)).toNat : Int)) w := hex_index (c.toNat / 16) (by have := c.toNat_lt; omega)
  have hx2 : ∀ w, (Instr.index 9 (.string ⟨#[48, 49, 50, 51, 52, 53, 54, 55, 56, 57, 97, 98, 99, 100, 101, 102]⟩) (.int .u8 ((c.toNat : Int) % 16))).run Tryd.prog w = .ok (.int .u8 ((hexd (c.toNat % 16)).toNat : Int)) w := hex_index (c.toNat % 16) (by have := c.toNat_lt; omega)
  have h15 := and15 c
  have he := enc_ascii c h128
  have he92 := enc_ascii92
  have h128' := Lib.hid h128
  clear h128
  go_enter Tryd.func59, Tryd.ntmps59
  go_wp2
  all_goals try go_region
  all_goals try go_wp2
  all_goals go_ret
  all_goals refine ⟨?_, by repeat (first | exact Below.refl _ _ | apply Below.drew | refine Below.alloc ?_ (by simp) _)⟩
  · exact ret_bs (spelt1 ‹_›).symm
  · exact ret_bs (spelt2 ‹_› ‹_›).symm
  · exact ret_bs (spelt3 ‹_› ‹_› ‹_›).symm
  · have e : c = 92 := by rw [← UInt8.toNat_inj]; show c.toNat = 92; omega
    subst e
    exact ret_bs (spelt4 (c := 92) rfl rfl rfl (Or.inl rfl)).symm
  · exact ret_bs (spelt4 ‹_› ‹_› ‹_› ‹_›).symm
  · exact ret_bs (spelt5 ‹_› ‹_› ‹_› ‹_› ‹_›).symm
  · refine ret_bs ?_
    show (Utf8.encode (c.toNat : Int)).data.toList = _
    rw [enc_ascii' c h128'.out]
    exact (spelt6 ‹_› ‹_› ‹_› ‹_› ‹_› (by omega)).symm
  · exact ret_bs (spelt5 ‹_› ‹_› ‹_› ‹_› (Or.inl ‹_›)).symm

theorem hi_tests {c : UInt8} (h : 128 ≤ c.toNat) : ((c.toNat : Int) == 10) = false ∧ ((c.toNat : Int) == 9) = false ∧ ((c.toNat : Int) == 13) = false ∧ ((c.toNat : Int) == 92) = false := by
  refine ⟨?_, ?_, ?_, ?_⟩ <;> (rw [beq_eq_false_iff_ne]; omega)

set_option maxRecDepth 100000 in
set_option maxHeartbeats 400000 in
theorem lexSpelt_hi (c q : UInt8) (w : World) (h128 : 128 ≤ c.toNat) (hq : q.toNat < 128) :
    Calls Tryd.prog 59 #[.int .u8 (c.toNat : Int), .int .u8 (q.toNat : Int)] w fun e w' => e = .returned (.string ⟨(speltL c q).toArray⟩) ∧ Below w.heap.size w w' := by
  have cv2 := fun (w : World) (n m : Int) => bytes_new_d w [n, m] 2 rfl
  simp only [List.map_cons, List.map_nil] at cv2
  have hx1 : ∀ w, (Instr.index 9 (.string ⟨#[48, 49, 50, 51, 52, 53, 54, 55, 56, 57, 97, 98, 99, 100, 101, 102]⟩) (.int .u8 ((c.toNat : Int) / 16))).run Tryd.prog w = .ok (.int .u8 ((hexd (c.toNat / 16)).toNat : Int)) w := hex_index (c.toNat / 16) (by have := c.toNat_lt; omega)
  have hx2 : ∀ w, (Instr.index 9 (.string ⟨#[48, 49, 50, 51, 52, 53, 54, 55, 56, 57, 97, 98, 99, 100, 101, 102]⟩) (.int .u8 ((c.toNat : Int) % 16))).run Tryd.prog w = .ok (.int .u8 ((hexd (c.toNat % 16)).toNat : Int)) w := hex_index (c.toNat % 16) (by have := c.toNat_lt; omega)
  have h15 := and15 c
  obtain ⟨t1, t2, t3, t4⟩ := hi_tests h128
  have t5 : ((c.toNat : Int) == (q.toNat : Int)) = false := by rw [beq_eq_false_iff_ne]; omega
  have t6 : decide ((126 : Int) < (c.toNat : Int)) = true := by simp; omega
  have hfin := Lib.hid (spelt5 (q := q) t1 t2 t3 ⟨t4, t5⟩ (Or.inr (by omega)))
  clear h128 hq
  go_enter Tryd.func59, Tryd.ntmps59
  go_wp2
  all_goals try go_region
  all_goals try go_wp2
  all_goals go_ret
  all_goals refine ⟨?_, by repeat (first | exact Below.refl _ _ | apply Below.drew | refine Below.alloc ?_ (by simp) _)⟩
  all_goals exact ret_str hfin.out.symm

theorem lexSpelt_ok (c q : UInt8) (w : World) (hq : q.toNat < 128) :
    Calls Tryd.prog 59 #[.int .u8 (c.toNat : Int), .int .u8 (q.toNat : Int)] w fun e w' => e = .returned (.string ⟨(speltL c q).toArray⟩) ∧ Below w.heap.size w w' := by
  rcases Nat.lt_or_ge c.toNat 128 with h | h
  · exact lexSpelt_lo c q w h
  · exact lexSpelt_hi c q w h hq

set_option maxHeartbeats 400000 in
theorem lexChar_ok (c : UInt8) (w : World) :
    Calls Tryd.prog 35 #[.int .u8 (c.toNat : Int)] w fun e w' => e = .returned (.string ⟨([39] ++ speltL c 39 ++ [39]).toArray⟩) ∧ Below w.heap.size w w' := by
  have hbd := speltL_bd c 39
  go_enter Tryd.func35, Tryd.ntmps35
  go_wp2_with (go_at_call 59; refine (lexSpelt_ok c 39 _ (by decide)).mono ?_; rintro e w' ⟨rfl, hb⟩)
  go_ret
  exact ⟨ret_bs (by simp), hb⟩

set_option maxHeartbeats 400000 in
theorem refChar_ok (c : UInt8) (w : World) :
    Calls Tryd.prog 43 #[.int .u8 (c.toNat : Int)] w fun e w' => e = .returned (.string ⟨([39] ++ speltL c 39 ++ [39]).toArray⟩) ∧ Below w.heap.size w w' := by
  have hbd := speltL_bd c 39
  go_enter Tryd.func43, Tryd.ntmps43
  go_wp2_with (go_at_call 63; refine (refSpelt_ok c 39 _).mono ?_; rintro e w' ⟨rfl, hb⟩)
  go_ret
  exact ⟨ret_bs (by simp), hb⟩

end Go.Proofs.YtncojfcdkigmiaaDoor
