/- A token: whether it may be, and how it is laid: both texts. -/
import Derived.Test.YtncojfcdkigmiaaDoorBase07
import Derived.Test.YtncojfcdkigmiaaDoorQuote
import Derived.Deep.RegionWith
namespace Go.Proofs.YtncojfcdkigmiaaDoor
open Go.RowKit

def MarksAt (w : World) : Prop := ∀ j, j < markT.length → w.cell? ⟨1, 0 + j, none⟩ = some (.string (markT.getD j ByteArray.empty))
theorem MarksAt.below {w w' : World} (h : MarksAt w) (hb : Below w.heap.size w w') : MarksAt w' := fun j hj => by
  have h1 := h j hj
  rw [hb.cell (World.block_lt_of_cell? w _ h1)]; exact h1

theorem MarksAt.drewN {w : World} (h : MarksAt w) (n : Nat) : MarksAt (w.drewN n) := h
theorem bcell {w w1 : World} (hb : Below w.heap.size w w1) : ∀ b o, b < w.heap.size → w1.cell? ⟨b, o, none⟩ = w.cell? ⟨b, o, none⟩ := fun _ _ h => hb.cell h

def Written (t : Tok) (w : World) (e : Ending) (w' : World) : Prop := ∃ x : ByteArray, e = .returned (.tuple #[.string x, .bool (goodB t)]) ∧ (goodB t = true → x.data.toList = wordL t) ∧ Below w.heap.size w w'

theorem written_mk {t : Tok} {w w' : World} {x : ByteArray} {r : Bool} (h1 : goodB t = r) (h2 : r = true → x.data.toList = wordL t) (hb : Below w.heap.size w w') : Written t w (.returned (.tuple #[.string x, .bool r])) w' := by
  subst h1; exact ⟨x, rfl, h2, hb⟩

/-- the world in which a token by value stands in a box -/
def boxW (w : World) (t : Tok) : World := w.alloc (.cells #[.int .i64 t.kind, .int .i64 t.place, .int .i64 t.num, .string t.text] 34)
theorem boxB (w : World) (t : Tok) : Below w.heap.size w (w.alloc (.cells #[.int .i64 t.kind, .int .i64 t.place, .int .i64 t.num, .string t.text] 34)) := (Below.refl w.heap.size w).alloc (Nat.le_refl _) _

set_option maxHeartbeats 1000000 in
theorem written_name (p : Int) (s : ByteArray) (w : World) (hK : KeysAt w) (hs : s.size ≤ 1048576) :
    Calls Tryd.prog 20 #[.agg #[.int .i64 1, .int .i64 p, .int .i64 0, .string s]] w (Written ⟨1, p, 0, s⟩ w) := by
  have HK := Lib.hid hK
  clear hK
  have HW := Lib.hid (boxB w ⟨1, p, 0, s⟩)
  go_enter Tryd.func20, Tryd.ntmps20
  go_wp2_with fail
  go_region_with (go_at_call 15; refine (lexIsName_ok s _ (HK.out.below HW.out).drew hs).mono ?_; rintro e w1 ⟨rfl, hb⟩; have hc := bcell hb)
  all_goals
    go_wp2
    go_ret2
    exact written_mk (by simp [goodB]) (fun _ => by simp [wordL]) (HW.out.drew.trans (hb.mono (by simp)))

set_option maxHeartbeats 1000000 in
theorem written_key (p : Int) (s : ByteArray) (w : World) (hK : KeysAt w) :
    Calls Tryd.prog 20 #[.agg #[.int .i64 2, .int .i64 p, .int .i64 0, .string s]] w (Written ⟨2, p, 0, s⟩ w) := by
  have HK := Lib.hid hK
  clear hK
  have HW := Lib.hid (boxB w ⟨2, p, 0, s⟩)
  go_enter Tryd.func20, Tryd.ntmps20
  go_wp2_with fail
  go_quiet ((go_at_call 17; exact Calls.quiet_of_same (lexIsKey_ok s _ ((HK.out.below HW.out).drewN _))))
  go_wp2
  go_ret2
  exact written_mk (by simp [goodB]) (fun _ => by simp [wordL]) (HW.out.trans (Below.drewN' _ _ |>.mono (by simp)))

set_option maxHeartbeats 1000000 in
theorem written_mark (p : Int) (s : ByteArray) (w : World) (hM : MarksAt w) :
    Calls Tryd.prog 20 #[.agg #[.int .i64 5, .int .i64 p, .int .i64 0, .string s]] w (Written ⟨5, p, 0, s⟩ w) := by
  have HM := Lib.hid hM
  clear hM
  have HW := Lib.hid (boxB w ⟨5, p, 0, s⟩)
  go_enter Tryd.func20, Tryd.ntmps20
  go_wp2_with fail
  go_quiet ((go_at_call 32; exact Calls.quiet_of_same (Tryd.slices_Contains_string _ 0 markT.length _ markT s _ (Nat.le_refl _) (by decide) ((HM.out.below HW.out).drewN _))))
  go_wp2
  go_ret2
  exact written_mk (by simp [goodB]) (fun _ => by simp [wordL]) (HW.out.trans (Below.drewN' _ _ |>.mono (by simp)))

set_option maxHeartbeats 1000000 in
theorem written_str (p : Int) (s : ByteArray) (w : World) (hs : s.size ≤ 1048576) :
    Calls Tryd.prog 20 #[.agg #[.int .i64 4, .int .i64 p, .int .i64 0, .string s]] w (Written ⟨4, p, 0, s⟩ w) := by
  have HW := Lib.hid (boxB w ⟨4, p, 0, s⟩)
  go_enter Tryd.func20, Tryd.ntmps20
  go_wp2_with fail
  go_region_with (go_at_call 34; refine (lexQuote_ok s _ hs).mono ?_; rintro e w1 ⟨rfl, hb⟩; have hc := bcell hb)
  all_goals
    go_wp2
    go_ret2
    exact written_mk (by simp [goodB]; omega) (fun _ => by simp [wordL]) (HW.out.drew.trans (hb.mono (by simp)))

end Go.Proofs.YtncojfcdkigmiaaDoor
