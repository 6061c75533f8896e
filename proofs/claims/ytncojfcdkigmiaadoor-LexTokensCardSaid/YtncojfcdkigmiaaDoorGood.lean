/- Whether a token may be, and how it is laid, by the reference. -/
import Derived.Test.YtncojfcdkigmiaaDoorTok3
namespace Go.Proofs.YtncojfcdkigmiaaDoor
open Go.RowKit Go.Sort

set_option maxRecDepth 100000 in
theorem marks_ok (w : World) : Calls Tryd.prog 41 #[] w fun e w' => e = .returned (.slice (some ⟨w.heap.size, 0, none⟩) markT.length markT.length) ∧ w' = w.alloc (.cells (markT.map Value.string).toArray 9) := by
  go_enter Tryd.func41, Tryd.ntmps41
  go_wp2
  go_ret
  exact ⟨rfl, rfl⟩

theorem mark_cells (w : World) : ∀ j, j < markT.length → (w.alloc (.cells (markT.map Value.string).toArray 9)).cell? ⟨w.heap.size, j, none⟩ = some (.string (markT.getD j ByteArray.empty)) := fun j hj => by
  rw [World.cell?_alloc_at _ _ _ _ rfl]
  simp only [List.getElem?_toArray, List.getElem?_map, List.getElem?_eq_getElem hj, getD_lt _ _ hj, Option.map_some]

theorem marks_row (b : Nat) (w : World) (hb : b = w.heap.size) : Calls Tryd.prog 41 #[] w fun e w' => e = .returned (.slice (some ⟨b, 0, none⟩) markT.length markT.length) ∧ Below w.heap.size w w' ∧ Hid (∀ j, j < markT.length → w'.cell? ⟨b, j, none⟩ = some (.string (markT.getD j ByteArray.empty))) :=
  (marks_ok w).mono fun _ _ ⟨he, hw⟩ => by subst hb; exact ⟨he, by rw [hw]; exact (Below.refl _ _).alloc (Nat.le_refl _) _, by rw [hw]; exact mark_cells w⟩

def Good (t : Tok) (w : World) (e : Ending) (w' : World) : Prop := e = .returned (.bool (goodB t)) ∧ Below w.heap.size w w'
theorem good_mk {t : Tok} {w w' : World} {r : Bool} (h : goodB t = r) (hb : Below w.heap.size w w') : Good t w (.returned (.bool r)) w' := ⟨by rw [h], hb⟩

set_option maxHeartbeats 1000000 in
theorem good_no (k p n : Int) (s : ByteArray) (w : World) (hk : k ≠ 3) (hn : n ≠ 0) :
    Calls Tryd.prog 22 #[.agg #[.int .i64 k, .int .i64 p, .int .i64 n, .string s]] w (Good ⟨k, p, n, s⟩ w) := by
  have HW := Lib.hid (boxB w ⟨k, p, n, s⟩)
  have HG := Lib.hid (show goodB ⟨k, p, n, s⟩ = false by simp [goodB, hk, hn])
  have t1 : (k != 3) = true := by simpa using hk
  have t2 : (n != 0) = true := by simpa using hn
  clear hk hn
  go_enter Tryd.func22, Tryd.ntmps22
  go_wp2
  go_ret
  exact good_mk HG.out HW.out

set_option maxHeartbeats 1000000 in
theorem good_none (k p : Int) (s : ByteArray) (w : World) (h1 : k ≠ 1) (h2 : k ≠ 2) (h3 : k ≠ 3) (h4 : k ≠ 4) (h5 : k ≠ 5) :
    Calls Tryd.prog 22 #[.agg #[.int .i64 k, .int .i64 p, .int .i64 0, .string s]] w (Good ⟨k, p, 0, s⟩ w) := by
  have HW := Lib.hid (boxB w ⟨k, p, 0, s⟩)
  have HG := Lib.hid (show goodB ⟨k, p, 0, s⟩ = false by simp [goodB, h1, h2, h3, h4, h5])
  have t1 : (k == 1) = false := by simpa using h1
  have t2 : (k == 2) = false := by simpa using h2
  have t3 : (k == 3) = false := by simpa using h3
  have t4 : (k == 4) = false := by simpa using h4
  have t5 : (k == 5) = false := by simpa using h5
  have t6 : (k != 3) = true := by simpa using h3
  clear h1 h2 h3 h4 h5
  go_enter Tryd.func22, Tryd.ntmps22
  go_wp2
  go_ret
  exact good_mk HG.out HW.out

set_option maxHeartbeats 1000000 in
theorem good_name (p : Int) (s : ByteArray) (w : World) (hs : s.size ≤ 1048576) :
    Calls Tryd.prog 22 #[.agg #[.int .i64 1, .int .i64 p, .int .i64 0, .string s]] w (Good ⟨1, p, 0, s⟩ w) := by
  have HW := Lib.hid (boxB w ⟨1, p, 0, s⟩)
  go_enter Tryd.func22, Tryd.ntmps22
  go_wp2_with (go_at_call 31; refine (baseName_ok s _ hs).mono ?_; rintro e w1 ⟨rfl, hb⟩)
  go_ret
  exact good_mk (by simp [goodB]) (HW.out.trans (hb.mono (by simp)))

set_option maxHeartbeats 1000000 in
theorem good_key (p : Int) (s : ByteArray) (w : World) :
    Calls Tryd.prog 22 #[.agg #[.int .i64 2, .int .i64 p, .int .i64 0, .string s]] w (Good ⟨2, p, 0, s⟩ w) := by
  have HW := Lib.hid (boxB w ⟨2, p, 0, s⟩)
  go_enter Tryd.func22, Tryd.ntmps22
  go_wp2_with (go_at_call 33; refine (baseKey_ok s _).mono ?_; rintro e w1 ⟨rfl, hb⟩)
  go_ret
  exact good_mk (by simp [goodB]) (HW.out.trans (hb.mono (by simp)))

set_option maxHeartbeats 1000000 in
theorem good_str (p : Int) (s : ByteArray) (w : World) :
    Calls Tryd.prog 22 #[.agg #[.int .i64 4, .int .i64 p, .int .i64 0, .string s]] w (Good ⟨4, p, 0, s⟩ w) := by
  have HW := Lib.hid (boxB w ⟨4, p, 0, s⟩)
  go_enter Tryd.func22, Tryd.ntmps22
  go_wp2
  go_ret
  exact good_mk (by simp [goodB]; omega) HW.out

set_option maxHeartbeats 1000000 in
theorem good_mark (p : Int) (s : ByteArray) (w : World) :
    Calls Tryd.prog 22 #[.agg #[.int .i64 5, .int .i64 p, .int .i64 0, .string s]] w (Good ⟨5, p, 0, s⟩ w) := by
  have HW := Lib.hid (boxB w ⟨5, p, 0, s⟩)
  go_enter Tryd.func22, Tryd.ntmps22
  go_wp2_with fail
  go_region_with (first | (go_at_call 41; refine (marks_row (w.heap.size + 1) _ (by simp)).mono ?_; rintro e w1 ⟨rfl, hb, HM⟩; have hc := bcell hb) | (go_at_call 40; refine (baseIn_ok _ markT.length markT s _ (by decide) HM.out).mono ?_; rintro e w2 ⟨rfl, rfl⟩))
  all_goals go_wp2
  all_goals go_ret
  all_goals exact good_mk (by simp [goodB]) (HW.out.drew.trans (hb.mono (by simp)))

end Go.Proofs.YtncojfcdkigmiaaDoor
