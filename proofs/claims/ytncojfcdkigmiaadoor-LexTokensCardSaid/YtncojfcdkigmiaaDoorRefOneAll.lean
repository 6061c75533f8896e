/- One token: the reference. · One token that begins with a digit: the reference. · One token that begins with a quote: the reference. · One token that begins with a single quote: the reference. · One token that is a mark: the reference. -/
import Derived.Test.YtncojfcdkigmiaaDoorRefQuoted
import Derived.Test.YtncojfcdkigmiaaDoorRefNumber
import Derived.Test.YtncojfcdkigmiaaDoorOneAll
import Derived.Test.YtncojfcdkigmiaaDoorGood
import Derived.Deep.DeepCutAuto
namespace Go.Proofs.YtncojfcdkigmiaaDoor
open Go.RowKit

/-- what the reference tells of a token -/
def RefOne (k : Nat) (r : OEnd) (w : World) (e : Ending) (w' : World) : Prop :=
  (match r with
    | .good t n => e = .returned (.tuple #[.agg #[.int .i64 t.kind, .int .i64 k, .int .i64 t.num, .string t.text], .int .i64 ((k + n : Nat) : Int), .int .i64 0])
    | .bad x => ∃ (t : Tok) (j : Int), e = .returned (.tuple #[.agg #[.int .i64 t.kind, .int .i64 t.place, .int .i64 t.num, .string t.text], .int .i64 j, .int .i64 x])) ∧ Below w.heap.size w w'
theorem refOne_yes {w w' : World} {k n : Nat} {x : ByteArray} {r : OEnd} {a d j : Int} (t : Tok) (hr : r = .good t n) (ht : a = t.kind ∧ d = t.num ∧ x = t.text) (hj : j = ((k + n : Nat) : Int)) (hb : Below w.heap.size w w') :
    RefOne k r w (.returned (.tuple #[.agg #[.int .i64 a, .int .i64 k, .int .i64 d, .string x], .int .i64 j, .int .i64 0])) w' := by
  obtain ⟨rfl, rfl, rfl⟩ := ht
  subst hr hj; exact ⟨rfl, hb⟩
theorem refOne_no {w w' : World} {k : Nat} {x : ByteArray} {r : OEnd} {a c d j y : Int} (hr : r = .bad y) (hb : Below w.heap.size w w') :
    RefOne k r w (.returned (.tuple #[.agg #[.int .i64 a, .int .i64 c, .int .i64 d, .string x], .int .i64 j, .int .i64 y])) w' := by
  subst hr; exact ⟨⟨⟨a, c, d, x⟩, j, rfl⟩, hb⟩

theorem tok_set03 {w : World} {b : Nat} {x0 x1 x2 x3 : Value} {T : TypeId} (h : w.heap[b]? = some (.cells #[x0, x1, x2, x3] T (0, 0))) (v v' : Value) : ((w.setCell ⟨b, 0, none⟩ v).setCell ⟨b, 3, none⟩ v').heap[b]? = some (.cells #[v, x1, x2, v'] T (0, 0)) := by
  simp [World.setCell, Array.getElem?_modify, h]

set_option maxHeartbeats 4000000 in
set_option maxRecDepth 100000 in
theorem refOne_letter (k : Nat) (s : ByteArray) (w : World) (hk : k < s.size) (hs : s.size ≤ 1048576) (hl : letB s[k] = true) :
    Calls Tryd.prog 28 #[.string s, .int .i64 k] w (RefOne k (oneL (sfx s k)) w) := by
  obtain ⟨r, er⟩ : ∃ r, r = oneL (sfx s k) := ⟨_, rfl⟩
  rw [← er]
  have ER := Lib.hid (er.trans (oneL_word hk hl))
  have HL := Lib.hid hl
  have HEn := Lib.hid (word_end (s := s) (a := k) (by omega))
  obtain ⟨m, em⟩ : ∃ m, m = k + wlen (s.data.toList.drop k) := ⟨_, rfl⟩
  have ham : k ≤ m := by omega
  have hms : m ≤ s.size := by have := HEn.out.1; omega
  have EM := Lib.hid em
  clear er hl em
  go_enter Tryd.func28, Tryd.ntmps28
  go_wp2_with (go_at_call 52; refine (refLetter_is true _ _ HL.out).mono ?_; rintro e w' ⟨rfl, rfl⟩)
  generalize hw0 : World.alloc _ _ = w0
  have hf0 : w0.heap[w.heap.size]? = some (.cells #[.int .i64 0, .int .i64 0, .int .i64 0, .string ⟨#[]⟩] 34 (0, 0)) := by
    rw [← hw0]; exact (two_blocks (Below.refl _ _)).1
  have hf1 : w0.heap[w.heap.size + 1]? = some (.cells #[.int .i64 0, .int .i64 k, .int .i64 0, .string ⟨#[]⟩] 34 (0, 0)) := by
    rw [← hw0]; exact (two_blocks (Below.refl _ _)).2
  have HB0 := Lib.hid (show Below w.heap.size w w0 by rw [← hw0]; exact two_blw _ _ _)
  have HF := Lib.hid (And.intro hf0 hf1)
  obtain ⟨⟨a0, a1, a2, a3⟩, _⟩ := tok_block hf0
  obtain ⟨⟨b0, b1, b2, b3⟩, fb⟩ := tok_block hf1
  have fb0 := fb 0
  have fb1 := fb 1
  have fb2 := fb 2
  have fb3 := fb 3
  clear hw0 hf0 hf1 fb
  go_loopg [8] (m - k) (fun g v wr => ∃ j : Nat, k ≤ j ∧ j ≤ m ∧ j + g = m ∧ v = .int .i64 j ∧ wr = w0)
  case atStart => exact ⟨k, Nat.le_refl _, ham, by omega, rfl, rfl⟩
  case round =>
    obtain ⟨j, hj1, hj2, hjg, rfl, rfl⟩ := hrel
    by_cases hlt : j < m
    · obtain ⟨hjs, hw⟩ := word_byte (s := s) hj1 (by have := EM.out; omega)
      rcases hL : letB s[j] with _ | _
      · have HL' := Lib.hid hL
        have HD' := Lib.hid (show digB s[j] = true by simpa [wordB, hL] using hw)
        clear hL hw
        go_wp2_with (first | (go_at_call 52; refine (refLetter_is false _ _ HL'.out).mono ?_; rintro e w' ⟨rfl, rfl⟩) | (go_at_call 53; refine (refDigit_is true _ _ HD'.out).mono ?_; rintro e w' ⟨rfl, rfl⟩))
        go_roundg (m - (j + 1))
        case measure => omega
        case rel => exact ⟨j + 1, by omega, by omega, by omega, by go_num, rfl⟩
      · have HL' := Lib.hid hL
        clear hL hw
        go_wp2_with (go_at_call 52; refine (refLetter_is true _ _ HL'.out).mono ?_; rintro e w' ⟨rfl, rfl⟩)
        go_roundg (m - (j + 1))
        case measure => omega
        case rel => exact ⟨j + 1, by omega, by omega, by omega, by go_num, rfl⟩
    · obtain rfl : j = m := by omega
      by_cases hend : j < s.size
      · have hno : wordB s[j] = false := by
          have h2 := HEn.out.2
          have e := EM.out
          subst e
          exact h2 hend
        have HL' := Lib.hid (show letB s[j] = false by unfold wordB at hno; simp at hno; exact hno.1)
        have HD' := Lib.hid (show digB s[j] = false by unfold wordB at hno; simp at hno; exact hno.2)
        clear hno
        go_wp2_with (first | (go_at_call 52; refine (refLetter_is false _ _ HL'.out).mono ?_; rintro e w' ⟨rfl, rfl⟩) | (go_at_call 53; refine (refDigit_is false _ _ HD'.out).mono ?_; rintro e w' ⟨rfl, rfl⟩))
        have p1 : (k : Int) ≤ j := by omega
        have p2 : (j : Int) ≤ s.size := by omega
        have HW := Lib.hid (show strOf ((sfx s k).take (wlen (sfx s k))) = s.extract k j by rw [strOf_word, ← EM.out])
        have HSz := Lib.hid (show (s.extract k j).size = wlen (sfx s k) by
          have e : j = k + wlen (sfx s k) := EM.out
          rw [ByteArray.size_extract]; omega)
        have HJ := Lib.hid (show (j : Int) = ((k + wlen (sfx s k) : Nat) : Int) by have e : j = k + wlen (sfx s k) := EM.out; omega)
        go_region
        generalize hwx : World.setCell _ _ _ = wx
        have hfx1 : wx.heap[w.heap.size + 1]? = some (.cells #[.int .i64 1, .int .i64 k, .int .i64 0, .string (s.extract k j)] 34 (0, 0)) := by rw [← hwx]; exact tok_set03 HF.out.2 _ _
        have hfx0 : wx.heap[w.heap.size]? = some (.cells #[.int .i64 0, .int .i64 0, .int .i64 0, .string ⟨#[]⟩] 34 (0, 0)) := by
          rw [← hwx, Below.heap_setCell _ _ _ _ (by simp), Below.heap_setCell _ _ _ _ (by simp)]; exact HF.out.1
        have HBx := Lib.hid (show Below w.heap.size w wx by rw [← hwx]; refine Below.setCell (Below.setCell HB0.out ?_ _) ?_ _ <;> (show w.heap.size ≤ w.heap.size + 1; omega))
        clear hwx a0 a1 a2 a3 b0 b1 b2 b3 fb0 fb1 fb2 fb3
        generalize s.extract k j = x at hfx1 HW HSz ⊢
        obtain ⟨⟨b0, b1, b2, b3⟩, fb⟩ := tok_block hfx1
        have fb3 := fb 3
        have hl0 := lt_of_heap hfx0
        have hl1 := lt_of_heap hfx1
        have HFx := Lib.hid (And.intro hfx0 hfx1)
        clear fb hfx0 hfx1
        go_wp2_with (go_at_call 33; refine (baseKey_ok x _).mono ?_)
        rintro e w1 ⟨rfl, hb1⟩
        have hf0 := (hb1.block _ hl0).trans HFx.out.1
        have hf1 := (hb1.block _ hl1).trans HFx.out.2
        have HB1 := Lib.hid ((show Below w.heap.size w wx.drew from blw_drewN HBx.out 1).trans (hb1.mono HBx.out.size))
        clear hb1 b0 b1 b2 b3 fb3
        obtain ⟨⟨a0, a1, a2, a3⟩, fa⟩ := tok_block hf0
        obtain ⟨⟨b0, b1, b2, b3⟩, fb⟩ := tok_block hf1
        have fa0 := fa 0
        have fa1 := fa 1
        have fa2 := fa 2
        have fa3 := fa 3
        have fb0 := fb 0
        have fb1 := fb 1
        have fb2 := fb 2
        have fb3 := fb 3
        have hl10 := lt_of_heap hf0
        have hl11 := lt_of_heap hf1
        clear fa fb hf0 hf1
        rcases hkey : isKeyB x with _ | _
        · by_cases h31 : 31 < x.size
          · have h31' : (31 : Int) < x.size := by omega
            have hfin := Lib.hid (show r = .bad 3 by rw [ER.out, wordE, HW.out, hkey, if_neg (by simp), if_pos (by rw [← HSz.out]; exact h31)])
            clear hkey h31
            go_wp2_with fail
            exact bodyPost_ret (v := .tuple #[.agg #[.int .i64 1, .int .i64 k, .int .i64 0, .string x], .int .i64 0, .int .i64 3]) (by simp [results, Tryd.results28, go_sem, a0, a1, a2, a3]) rfl (refOne_no hfin.out (by repeat (first | with_reducible exact HB1.out | with_reducible refine Below.setCell ?_ (by first | exact Nat.le_refl _ | exact Nat.le_succ _) _)))
          · have h31' : (x.size : Int) ≤ 31 := by omega
            have hfin := Lib.hid (show r = .good ⟨1, 0, 0, x⟩ (wlen (sfx s k)) by rw [ER.out, wordE, HW.out, hkey, if_neg (by simp), if_neg (by rw [← HSz.out]; exact h31)])
            clear hkey h31
            go_wp2_with fail
            exact bodyPost_ret (v := .tuple #[.agg #[.int .i64 1, .int .i64 k, .int .i64 0, .string x], .int .i64 j, .int .i64 0]) (by simp [results, Tryd.results28, go_sem, a0, a1, a2, a3]) rfl (refOne_yes ⟨1, 0, 0, x⟩ hfin.out ⟨rfl, rfl, rfl⟩ HJ.out (by repeat (first | with_reducible exact HB1.out | with_reducible refine Below.setCell ?_ (by first | exact Nat.le_refl _ | exact Nat.le_succ _) _)))
        · have hfin := Lib.hid (show r = .good ⟨2, 0, 0, x⟩ (wlen (sfx s k)) by rw [ER.out, wordE, HW.out, hkey, if_pos rfl])
          clear hkey
          go_wp2_with fail
          exact bodyPost_ret (v := .tuple #[.agg #[.int .i64 2, .int .i64 k, .int .i64 0, .string x], .int .i64 j, .int .i64 0]) (by simp [results, Tryd.results28, go_sem, a0, a1, a2, a3]) rfl (refOne_yes ⟨2, 0, 0, x⟩ hfin.out ⟨rfl, rfl, rfl⟩ HJ.out (by repeat (first | with_reducible exact HB1.out | with_reducible refine Below.setCell ?_ (by first | exact Nat.le_refl _ | exact Nat.le_succ _) _)))
      · have hend' : (s.size : Int) ≤ j := by omega
        go_wp2_with fail
        have p1 : (k : Int) ≤ j := by omega
        have p2 : (j : Int) ≤ s.size := by omega
        have HW := Lib.hid (show strOf ((sfx s k).take (wlen (sfx s k))) = s.extract k j by rw [strOf_word, ← EM.out])
        have HSz := Lib.hid (show (s.extract k j).size = wlen (sfx s k) by
          have e : j = k + wlen (sfx s k) := EM.out
          rw [ByteArray.size_extract]; omega)
        have HJ := Lib.hid (show (j : Int) = ((k + wlen (sfx s k) : Nat) : Int) by have e : j = k + wlen (sfx s k) := EM.out; omega)
        go_region
        generalize hwx : World.setCell _ _ _ = wx
        have hfx1 : wx.heap[w.heap.size + 1]? = some (.cells #[.int .i64 1, .int .i64 k, .int .i64 0, .string (s.extract k j)] 34 (0, 0)) := by rw [← hwx]; exact tok_set03 HF.out.2 _ _
        have hfx0 : wx.heap[w.heap.size]? = some (.cells #[.int .i64 0, .int .i64 0, .int .i64 0, .string ⟨#[]⟩] 34 (0, 0)) := by
          rw [← hwx, Below.heap_setCell _ _ _ _ (by simp), Below.heap_setCell _ _ _ _ (by simp)]; exact HF.out.1
        have HBx := Lib.hid (show Below w.heap.size w wx by rw [← hwx]; refine Below.setCell (Below.setCell HB0.out ?_ _) ?_ _ <;> (show w.heap.size ≤ w.heap.size + 1; omega))
        clear hwx a0 a1 a2 a3 b0 b1 b2 b3 fb0 fb1 fb2 fb3
        generalize s.extract k j = x at hfx1 HW HSz ⊢
        obtain ⟨⟨b0, b1, b2, b3⟩, fb⟩ := tok_block hfx1
        have fb3 := fb 3
        have hl0 := lt_of_heap hfx0
        have hl1 := lt_of_heap hfx1
        have HFx := Lib.hid (And.intro hfx0 hfx1)
        clear fb hfx0 hfx1
        go_wp2_with (go_at_call 33; refine (baseKey_ok x _).mono ?_)
        rintro e w1 ⟨rfl, hb1⟩
        have hf0 := (hb1.block _ hl0).trans HFx.out.1
        have hf1 := (hb1.block _ hl1).trans HFx.out.2
        have HB1 := Lib.hid ((show Below w.heap.size w wx.drew from blw_drewN HBx.out 1).trans (hb1.mono HBx.out.size))
        clear hb1 b0 b1 b2 b3 fb3
        obtain ⟨⟨a0, a1, a2, a3⟩, fa⟩ := tok_block hf0
        obtain ⟨⟨b0, b1, b2, b3⟩, fb⟩ := tok_block hf1
        have fa0 := fa 0
        have fa1 := fa 1
        have fa2 := fa 2
        have fa3 := fa 3
        have fb0 := fb 0
        have fb1 := fb 1
        have fb2 := fb 2
        have fb3 := fb 3
        have hl10 := lt_of_heap hf0
        have hl11 := lt_of_heap hf1
        clear fa fb hf0 hf1
        rcases hkey : isKeyB x with _ | _
        · by_cases h31 : 31 < x.size
          · have h31' : (31 : Int) < x.size := by omega
            have hfin := Lib.hid (show r = .bad 3 by rw [ER.out, wordE, HW.out, hkey, if_neg (by simp), if_pos (by rw [← HSz.out]; exact h31)])
            clear hkey h31
            go_wp2_with fail
            exact bodyPost_ret (v := .tuple #[.agg #[.int .i64 1, .int .i64 k, .int .i64 0, .string x], .int .i64 0, .int .i64 3]) (by simp [results, Tryd.results28, go_sem, a0, a1, a2, a3]) rfl (refOne_no hfin.out (by repeat (first | with_reducible exact HB1.out | with_reducible refine Below.setCell ?_ (by first | exact Nat.le_refl _ | exact Nat.le_succ _) _)))
          · have h31' : (x.size : Int) ≤ 31 := by omega
            have hfin := Lib.hid (show r = .good ⟨1, 0, 0, x⟩ (wlen (sfx s k)) by rw [ER.out, wordE, HW.out, hkey, if_neg (by simp), if_neg (by rw [← HSz.out]; exact h31)])
            clear hkey h31
            go_wp2_with fail
            exact bodyPost_ret (v := .tuple #[.agg #[.int .i64 1, .int .i64 k, .int .i64 0, .string x], .int .i64 j, .int .i64 0]) (by simp [results, Tryd.results28, go_sem, a0, a1, a2, a3]) rfl (refOne_yes ⟨1, 0, 0, x⟩ hfin.out ⟨rfl, rfl, rfl⟩ HJ.out (by repeat (first | with_reducible exact HB1.out | with_reducible refine Below.setCell ?_ (by first | exact Nat.le_refl _ | exact Nat.le_succ _) _)))
        · have hfin := Lib.hid (show r = .good ⟨2, 0, 0, x⟩ (wlen (sfx s k)) by rw [ER.out, wordE, HW.out, hkey, if_pos rfl])
          clear hkey
          go_wp2_with fail
          exact bodyPost_ret (v := .tuple #[.agg #[.int .i64 2, .int .i64 k, .int .i64 0, .string x], .int .i64 j, .int .i64 0]) (by simp [results, Tryd.results28, go_sem, a0, a1, a2, a3]) rfl (refOne_yes ⟨2, 0, 0, x⟩ hfin.out ⟨rfl, rfl, rfl⟩ HJ.out (by repeat (first | with_reducible exact HB1.out | with_reducible refine Below.setCell ?_ (by first | exact Nat.le_refl _ | exact Nat.le_succ _) _)))

end Go.Proofs.YtncojfcdkigmiaaDoor
namespace Go.Proofs.YtncojfcdkigmiaaDoor
open Go.RowKit

set_option maxHeartbeats 4000000 in
set_option maxRecDepth 100000 in
theorem refOne_digit (k : Nat) (s : ByteArray) (w : World) (hk : k < s.size) (hs : s.size ≤ 1048576) (hl : digB s[k] = true) :
    Calls Tryd.prog 28 #[.string s, .int .i64 k] w (RefOne k (oneL (sfx s k)) w) := by
  obtain ⟨r, er⟩ : ∃ r, r = oneL (sfx s k) := ⟨_, rfl⟩
  rw [← er]
  have ER := Lib.hid (er.trans (oneL_digit hk (let_no (.inl hl)) hl))
  have HL := Lib.hid (let_no (.inl hl))
  have HD := Lib.hid hl
  have HEn := Lib.hid (word_end (s := s) (a := k) (by omega))
  obtain ⟨m, em⟩ : ∃ m, m = k + wlen (s.data.toList.drop k) := ⟨_, rfl⟩
  have ham : k ≤ m := by omega
  have hms : m ≤ s.size := by have := HEn.out.1; omega
  have EM := Lib.hid em
  clear er hl em
  go_enter Tryd.func28, Tryd.ntmps28
  go_wp2_with (first | (go_at_call 52; refine (refLetter_is false _ _ HL.out).mono ?_; rintro e w' ⟨rfl, rfl⟩) | (go_at_call 53; refine (refDigit_is true _ _ HD.out).mono ?_; rintro e w' ⟨rfl, rfl⟩))
  generalize hw0 : World.alloc _ _ = w0
  have hf0 : w0.heap[w.heap.size]? = some (.cells #[.int .i64 0, .int .i64 0, .int .i64 0, .string ⟨#[]⟩] 34 (0, 0)) := by
    rw [← hw0]; exact (two_blocks (Below.refl _ _)).1
  have hf1 : w0.heap[w.heap.size + 1]? = some (.cells #[.int .i64 0, .int .i64 k, .int .i64 0, .string ⟨#[]⟩] 34 (0, 0)) := by
    rw [← hw0]; exact (two_blocks (Below.refl _ _)).2
  have HB0 := Lib.hid (show Below w.heap.size w w0 by rw [← hw0]; exact two_blw _ _ _)
  have HF := Lib.hid (And.intro hf0 hf1)
  obtain ⟨⟨a0, a1, a2, a3⟩, _⟩ := tok_block hf0
  obtain ⟨⟨b0, b1, b2, b3⟩, fb⟩ := tok_block hf1
  have fb0 := fb 0
  have fb1 := fb 1
  have fb2 := fb 2
  have fb3 := fb 3
  clear hw0 hf0 hf1 fb
  go_loopg [8] (m - k) (fun g v wr => ∃ j : Nat, k ≤ j ∧ j ≤ m ∧ j + g = m ∧ v = .int .i64 j ∧ wr = w0)
  case atStart => exact ⟨k, Nat.le_refl _, ham, by omega, rfl, rfl⟩
  case round =>
    obtain ⟨j, hj1, hj2, hjg, rfl, rfl⟩ := hrel
    by_cases hlt : j < m
    · obtain ⟨hjs, hw⟩ := word_byte (s := s) hj1 (by have := EM.out; omega)
      rcases hL : letB s[j] with _ | _
      · have HL' := Lib.hid hL
        have HD' := Lib.hid (show digB s[j] = true by simpa [wordB, hL] using hw)
        clear hL hw
        go_wp2_with (first | (go_at_call 52; refine (refLetter_is false _ _ HL'.out).mono ?_; rintro e w' ⟨rfl, rfl⟩) | (go_at_call 53; refine (refDigit_is true _ _ HD'.out).mono ?_; rintro e w' ⟨rfl, rfl⟩))
        go_roundg (m - (j + 1))
        case measure => omega
        case rel => exact ⟨j + 1, by omega, by omega, by omega, by go_num, rfl⟩
      · have HL' := Lib.hid hL
        clear hL hw
        go_wp2_with (go_at_call 52; refine (refLetter_is true _ _ HL'.out).mono ?_; rintro e w' ⟨rfl, rfl⟩)
        go_roundg (m - (j + 1))
        case measure => omega
        case rel => exact ⟨j + 1, by omega, by omega, by omega, by go_num, rfl⟩
    · obtain rfl : j = m := by omega
      by_cases hend : j < s.size
      · have hno : wordB s[j] = false := by
          have h2 := HEn.out.2
          have e := EM.out
          subst e
          exact h2 hend
        have HL' := Lib.hid (show letB s[j] = false by unfold wordB at hno; simp at hno; exact hno.1)
        have HD' := Lib.hid (show digB s[j] = false by unfold wordB at hno; simp at hno; exact hno.2)
        clear hno
        go_wp2_with (first | (go_at_call 52; refine (refLetter_is false _ _ HL'.out).mono ?_; rintro e w' ⟨rfl, rfl⟩) | (go_at_call 53; refine (refDigit_is false _ _ HD'.out).mono ?_; rintro e w' ⟨rfl, rfl⟩))
        have HW := Lib.hid (show (s.extract k j).data.toList = (sfx s k).take (wlen (sfx s k)) by rw [← sfx_take_word, ← EM.out])
        have HSz := Lib.hid (show (s.extract k j).size = (wlen (sfx s k) - 1) + 1 ∧ wlen (sfx s k) - 1 < (s.extract k j).size ∧ (s.extract k j).size ≤ 1048576 by
          have e : j = k + wlen (sfx s k) := EM.out
          have h2 : 0 < wlen (sfx s k) := by rw [sfx_cons s k hk]; exact wlen_pos (by simp [wordB, HD.out])
          rw [ByteArray.size_extract]; omega)
        have HDg := Lib.hid (show ∀ h : 0 < (s.extract k j).size, digB (s.extract k j)[0] = true from fun h => by rw [ByteArray.getElem_extract]; exact HD.out)
        have HJ := Lib.hid (show (j : Int) = ((k + wlen (sfx s k) : Nat) : Int) by have e : j = k + wlen (sfx s k) := EM.out; omega)
        go_upto_region 16 with fail
        have p1 : (k : Int) ≤ j := by omega
        have p2 : (j : Int) ≤ s.size := by omega
        have HR := Lib.hid (show r = match numW (s.extract k j).data.toList with
          | none => .bad 73
          | some (n, u) => .good ⟨3, 0, n, uOf u⟩ (wlen (sfx s k)) by rw [ER.out, numE, HW.out]; rfl)
        go_wp2_with (go_at_call 54; refine (refNumber_ok (s.extract k j) (wlen (sfx s k) - 1) _ (Lib.hid HSz.out.1) HSz.out.2.1 HSz.out.2.2 HDg).mono ?_)
        rintro e w1 ⟨he, rfl⟩
        rcases hn : numW (s.extract k j).data.toList with _ | ⟨n, u⟩
        · rw [hn] at he
          have hfin := Lib.hid (show r = .bad 73 by rw [HR.out, hn])
          obtain ⟨x', y', rfl⟩ := he
          clear hn
          go_wp2_with fail
          exact bodyPost_ret (v := .tuple #[.agg #[.int .i64 0, .int .i64 k, .int .i64 0, .string ⟨#[]⟩], .int .i64 0, .int .i64 73]) (by simp [results, Tryd.results28, go_sem, a0, a1, a2, a3]) rfl (refOne_no hfin.out (by repeat (first | with_reducible exact HB0.out | with_reducible refine Below.setCell ?_ (by first | exact Nat.le_refl _ | exact Nat.le_succ _) _)))
        · rw [hn] at he
          have hfin := Lib.hid (show r = .good ⟨3, 0, n, uOf u⟩ (wlen (sfx s k)) by rw [HR.out, hn])
          subst he
          clear hn
          go_wp2_with fail
          exact bodyPost_ret (v := .tuple #[.agg #[.int .i64 3, .int .i64 k, .int .i64 n, .string (uOf u)], .int .i64 j, .int .i64 0]) (by simp [results, Tryd.results28, go_sem, a0, a1, a2, a3]) rfl (refOne_yes ⟨3, 0, n, uOf u⟩ hfin.out ⟨rfl, rfl, rfl⟩ HJ.out (by repeat (first | with_reducible exact HB0.out | with_reducible refine Below.setCell ?_ (by first | exact Nat.le_refl _ | exact Nat.le_succ _) _)))
      · have hend' : (s.size : Int) ≤ j := by omega
        go_wp2_with fail
        have HW := Lib.hid (show (s.extract k j).data.toList = (sfx s k).take (wlen (sfx s k)) by rw [← sfx_take_word, ← EM.out])
        have HSz := Lib.hid (show (s.extract k j).size = (wlen (sfx s k) - 1) + 1 ∧ wlen (sfx s k) - 1 < (s.extract k j).size ∧ (s.extract k j).size ≤ 1048576 by
          have e : j = k + wlen (sfx s k) := EM.out
          have h2 : 0 < wlen (sfx s k) := by rw [sfx_cons s k hk]; exact wlen_pos (by simp [wordB, HD.out])
          rw [ByteArray.size_extract]; omega)
        have HDg := Lib.hid (show ∀ h : 0 < (s.extract k j).size, digB (s.extract k j)[0] = true from fun h => by rw [ByteArray.getElem_extract]; exact HD.out)
        have HJ := Lib.hid (show (j : Int) = ((k + wlen (sfx s k) : Nat) : Int) by have e : j = k + wlen (sfx s k) := EM.out; omega)
        go_upto_region 16 with fail
        have p1 : (k : Int) ≤ j := by omega
        have p2 : (j : Int) ≤ s.size := by omega
        have HR := Lib.hid (show r = match numW (s.extract k j).data.toList with
          | none => .bad 73
          | some (n, u) => .good ⟨3, 0, n, uOf u⟩ (wlen (sfx s k)) by rw [ER.out, numE, HW.out]; rfl)
        go_wp2_with (go_at_call 54; refine (refNumber_ok (s.extract k j) (wlen (sfx s k) - 1) _ (Lib.hid HSz.out.1) HSz.out.2.1 HSz.out.2.2 HDg).mono ?_)
        rintro e w1 ⟨he, rfl⟩
        rcases hn : numW (s.extract k j).data.toList with _ | ⟨n, u⟩
        · rw [hn] at he
          have hfin := Lib.hid (show r = .bad 73 by rw [HR.out, hn])
          obtain ⟨x', y', rfl⟩ := he
          clear hn
          go_wp2_with fail
          exact bodyPost_ret (v := .tuple #[.agg #[.int .i64 0, .int .i64 k, .int .i64 0, .string ⟨#[]⟩], .int .i64 0, .int .i64 73]) (by simp [results, Tryd.results28, go_sem, a0, a1, a2, a3]) rfl (refOne_no hfin.out (by repeat (first | with_reducible exact HB0.out | with_reducible refine Below.setCell ?_ (by first | exact Nat.le_refl _ | exact Nat.le_succ _) _)))
        · rw [hn] at he
          have hfin := Lib.hid (show r = .good ⟨3, 0, n, uOf u⟩ (wlen (sfx s k)) by rw [HR.out, hn])
          subst he
          clear hn
          go_wp2_with fail
          exact bodyPost_ret (v := .tuple #[.agg #[.int .i64 3, .int .i64 k, .int .i64 n, .string (uOf u)], .int .i64 j, .int .i64 0]) (by simp [results, Tryd.results28, go_sem, a0, a1, a2, a3]) rfl (refOne_yes ⟨3, 0, n, uOf u⟩ hfin.out ⟨rfl, rfl, rfl⟩ HJ.out (by repeat (first | with_reducible exact HB0.out | with_reducible refine Below.setCell ?_ (by first | exact Nat.le_refl _ | exact Nat.le_succ _) _)))

end Go.Proofs.YtncojfcdkigmiaaDoor
namespace Go.Proofs.YtncojfcdkigmiaaDoor
open Go.RowKit

theorem blw_drew {B : Nat} {w w' : World} (h : Below B w w') : Below B w w'.drew := blw_drewN h 1

set_option maxHeartbeats 4000000 in
set_option maxRecDepth 100000 in
theorem refOne_str (k : Nat) (s : ByteArray) (w : World) (hk : k < s.size) (hs : s.size ≤ 1048576) (hl : s[k].toNat = 34) :
    Calls Tryd.prog 28 #[.string s, .int .i64 k] w (RefOne k (oneL (sfx s k)) w) := by
  obtain ⟨r, er⟩ : ∃ r, r = oneL (sfx s k) := ⟨_, rfl⟩
  rw [← er]
  have ER := Lib.hid (er.trans (oneL_str hk hl))
  have HL := Lib.hid (let_no (.inr (.inr hl)))
  have HD := Lib.hid (show digB s[k] = false by unfold digB; rw [decide_eq_false_iff_not]; omega)
  have HKQ := Lib.hid (show s[k].toNat ≠ 10 by omega)
  have t0 : ((s[k].toNat : Int) == 39) = false := by simp [hl]
  have t1 : ((s[k].toNat : Int) == 34) = true := by simp [hl]
  clear er hl
  go_enter Tryd.func28, Tryd.ntmps28
  go_upto_region 22 with (first | (go_at_call 52; refine (refLetter_is false _ _ HL.out).mono ?_; rintro e w' ⟨rfl, rfl⟩) | (go_at_call 53; refine (refDigit_is false _ _ HD.out).mono ?_; rintro e w' ⟨rfl, rfl⟩))
  generalize hw0 : World.alloc _ _ = w0
  have hf0 : w0.heap[w.heap.size]? = some (.cells #[.int .i64 0, .int .i64 0, .int .i64 0, .string ⟨#[]⟩] 34 (0, 0)) := by
    rw [← hw0]; exact (two_blocks (Below.refl _ _)).1
  have hf1 : w0.heap[w.heap.size + 1]? = some (.cells #[.int .i64 0, .int .i64 k, .int .i64 0, .string ⟨#[]⟩] 34 (0, 0)) := by
    rw [← hw0]; exact (two_blocks (Below.refl _ _)).2
  have HB0 := Lib.hid (show Below w.heap.size w w0 by rw [← hw0]; exact two_blw _ _ _)
  have HF := Lib.hid (And.intro hf0 hf1)
  have hl0 := lt_of_heap hf0
  have hl1 := lt_of_heap hf1
  clear hw0 hf0 hf1
  have HQ := Lib.hid (refQuoted_ok k s w0 hk hs HKQ)
  go_wp2_with (go_at_call 55; refine HQ.out.mono ?_)
  rintro e w1 ⟨he, hb1⟩
  have hf0 := (hb1.block _ hl0).trans HF.out.1
  have hf1 := (hb1.block _ hl1).trans HF.out.2
  have HB1 := Lib.hid (HB0.out.trans (hb1.mono HB0.out.size))
  have HF1 := Lib.hid (And.intro hf0 hf1)
  obtain ⟨⟨a0, a1, a2, a3⟩, _⟩ := tok_block hf0
  obtain ⟨⟨b0, b1, b2, b3⟩, fb⟩ := tok_block hf1
  have fb0 := fb 0
  have fb1 := fb 1
  have fb2 := fb 2
  have fb3 := fb 3
  have hl10 := lt_of_heap hf0
  have hl11 := lt_of_heap hf1
  clear hb1 fb hf0 hf1
  rcases hq : quotedL s[k] (sfx s (k + 1)) with ⟨l, n⟩ | x
  · rw [hq] at he
    obtain ⟨v, rfl, ho⟩ := he
    have hcv := own_str ho
    have hcv1 := own_str (show w1.drew.ownsRow w0.heap.size 5 1 v l.length (Lib.byteCells l) from own_drewN ho 1)
    have hcv2 := own_str (show (w1.setCell ⟨w.heap.size + 1, 0, none⟩ (.int .i64 4)).drew.ownsRow w0.heap.size 5 1 v l.length (Lib.byteCells l) from own_drewN (own_apart ho (grown_set (grown_refl _ _) _ rfl _) hl1) 1)
    have hfin := Lib.hid (show r = .good ⟨4, 0, 0, strOf l⟩ (n + 1) by rw [ER.out, hq]; rfl)
    clear ho hq ER
    go_wp2_with fail
    go_region
    generalize hwx : World.setCell _ _ _ = wx
    have hfx1 : wx.heap[w.heap.size + 1]? = some (.cells #[.int .i64 4, .int .i64 k, .int .i64 0, .string ⟨l.toArray⟩] 34 (0, 0)) := by rw [← hwx]; exact tok_set03 HF1.out.2 _ _
    have hfx0 : wx.heap[w.heap.size]? = some (.cells #[.int .i64 0, .int .i64 0, .int .i64 0, .string ⟨#[]⟩] 34 (0, 0)) := by
      rw [← hwx, Below.heap_setCell _ _ _ _ (by simp), Below.heap_setCell _ _ _ _ (by simp)]; exact HF1.out.1
    have HBx := Lib.hid (show Below w.heap.size w wx by rw [← hwx]; refine Below.setCell (Below.setCell HB1.out ?_ _) ?_ _ <;> (show w.heap.size ≤ w.heap.size + 1; omega))
    clear hwx a0 a1 a2 a3 b0 b1 b2 b3 fb0 fb1 fb2 fb3
    obtain ⟨⟨a0, a1, a2, a3⟩, _⟩ := tok_block hfx0
    obtain ⟨⟨b0, b1, b2, b3⟩, fb⟩ := tok_block hfx1
    have fb0 := fb 0
    have fb1 := fb 1
    have fb2 := fb 2
    have fb3 := fb 3
    have hlx0 := lt_of_heap hfx0
    have hlx1 := lt_of_heap hfx1
    clear fb hfx0 hfx1
    go_wp2_with fail
    exact bodyPost_ret (v := .tuple #[.agg #[.int .i64 4, .int .i64 k, .int .i64 0, .string ⟨l.toArray⟩], .int .i64 ((k : Int) + 1 + n), .int .i64 0]) (by simp [results, Tryd.results28, go_sem, a0, a1, a2, a3]) rfl (refOne_yes ⟨4, 0, 0, strOf l⟩ hfin.out ⟨rfl, rfl, rfl⟩ (by omega) (by repeat (first | with_reducible exact HBx.out | with_reducible refine blw_drew ?_ | with_reducible refine Below.setCell ?_ (by first | exact Nat.le_refl _ | exact Nat.le_succ _) _)))
  · rw [hq] at he
    have hfin := Lib.hid (show r = .bad x by rw [ER.out, hq]; rfl)
    have hx := quotedL_bad _ _ _ (Nat.le_refl _) hq
    have t4 : (x != 0) = true := by simp; omega
    subst he
    clear hq hx ER
    go_wp2_with fail
    exact bodyPost_ret (v := .tuple #[.agg #[.int .i64 0, .int .i64 k, .int .i64 0, .string ⟨#[]⟩], .int .i64 0, .int .i64 x]) (by simp [results, Tryd.results28, go_sem, a0, a1, a2, a3]) rfl (refOne_no hfin.out (by repeat (first | with_reducible exact HB1.out | with_reducible refine blw_drew ?_ | with_reducible refine Below.setCell ?_ (by first | exact Nat.le_refl _ | exact Nat.le_succ _) _)))

end Go.Proofs.YtncojfcdkigmiaaDoor
namespace Go.Proofs.YtncojfcdkigmiaaDoor
open Go.RowKit

theorem tok_set02 {w : World} {b : Nat} {x0 x1 x2 x3 : Value} {T : TypeId} (h : w.heap[b]? = some (.cells #[x0, x1, x2, x3] T (0, 0))) (v v' : Value) : ((w.setCell ⟨b, 0, none⟩ v).setCell ⟨b, 2, none⟩ v').heap[b]? = some (.cells #[v, x1, v', x3] T (0, 0)) := by
  simp [World.setCell, Array.getElem?_modify, h]

set_option maxHeartbeats 4000000 in
set_option maxRecDepth 100000 in
theorem refOne_char (k : Nat) (s : ByteArray) (w : World) (hk : k < s.size) (hs : s.size ≤ 1048576) (hl : s[k].toNat = 39) :
    Calls Tryd.prog 28 #[.string s, .int .i64 k] w (RefOne k (oneL (sfx s k)) w) := by
  obtain ⟨r, er⟩ : ∃ r, r = oneL (sfx s k) := ⟨_, rfl⟩
  rw [← er]
  have ER := Lib.hid (er.trans (oneL_char hk hl))
  have HL := Lib.hid (let_no (.inr (.inl hl)))
  have HD := Lib.hid (show digB s[k] = false by unfold digB; rw [decide_eq_false_iff_not]; omega)
  have HKQ := Lib.hid (show s[k].toNat ≠ 10 by omega)
  have t0 : ((s[k].toNat : Int) == 34) = false := by simp [hl]
  have t1 : ((s[k].toNat : Int) == 39) = true := by simp [hl]
  clear er hl
  go_enter Tryd.func28, Tryd.ntmps28
  go_upto_region 22 with (first | (go_at_call 52; refine (refLetter_is false _ _ HL.out).mono ?_; rintro e w' ⟨rfl, rfl⟩) | (go_at_call 53; refine (refDigit_is false _ _ HD.out).mono ?_; rintro e w' ⟨rfl, rfl⟩))
  generalize hw0 : World.alloc _ _ = w0
  have hf0 : w0.heap[w.heap.size]? = some (.cells #[.int .i64 0, .int .i64 0, .int .i64 0, .string ⟨#[]⟩] 34 (0, 0)) := by
    rw [← hw0]; exact (two_blocks (Below.refl _ _)).1
  have hf1 : w0.heap[w.heap.size + 1]? = some (.cells #[.int .i64 0, .int .i64 k, .int .i64 0, .string ⟨#[]⟩] 34 (0, 0)) := by
    rw [← hw0]; exact (two_blocks (Below.refl _ _)).2
  have HB0 := Lib.hid (show Below w.heap.size w w0 by rw [← hw0]; exact two_blw _ _ _)
  have HF := Lib.hid (And.intro hf0 hf1)
  have hl0 := lt_of_heap hf0
  have hl1 := lt_of_heap hf1
  clear hw0 hf0 hf1
  have HQ := Lib.hid (refQuoted_ok k s w0 hk hs HKQ)
  go_wp2_with (go_at_call 55; refine HQ.out.mono ?_)
  rintro e w1 ⟨he, hb1⟩
  have hf0 := (hb1.block _ hl0).trans HF.out.1
  have hf1 := (hb1.block _ hl1).trans HF.out.2
  have HB1 := Lib.hid (HB0.out.trans (hb1.mono HB0.out.size))
  have HF1 := Lib.hid (And.intro hf0 hf1)
  obtain ⟨⟨a0, a1, a2, a3⟩, _⟩ := tok_block hf0
  obtain ⟨⟨b0, b1, b2, b3⟩, fb⟩ := tok_block hf1
  have fb0 := fb 0
  have fb1 := fb 1
  have fb2 := fb 2
  have fb3 := fb 3
  have hl10 := lt_of_heap hf0
  have hl11 := lt_of_heap hf1
  clear hb1 fb hf0 hf1
  rcases hq : quotedL s[k] (sfx s (k + 1)) with ⟨l, n⟩ | x
  · rw [hq] at he
    obtain ⟨v, rfl, ho⟩ := he
    match l, hq, ho with
    | [], hq, ho =>
      have hfin := Lib.hid (show r = .bad 72 by rw [ER.out, hq]; rfl)
      have hv : ∃ a cap, v = .slice a 0 cap := by
        rcases ho.2 with ⟨rfl, _⟩ | ⟨g, cap, cur, rfl, _⟩
        · exact ⟨_, _, rfl⟩
        · exact ⟨_, _, rfl⟩
      obtain ⟨a, cap, rfl⟩ := hv
      clear ho hq ER
      go_wp2_with fail
      exact bodyPost_ret (v := .tuple #[.agg #[.int .i64 0, .int .i64 k, .int .i64 0, .string ⟨#[]⟩], .int .i64 0, .int .i64 72]) (by simp [results, Tryd.results28, go_sem, a0, a1, a2, a3]) rfl (refOne_no hfin.out (by repeat (first | with_reducible exact HB1.out | with_reducible refine blw_drew ?_ | with_reducible refine Below.setCell ?_ (by first | exact Nat.le_refl _ | exact Nat.le_succ _) _)))
    | [c], hq, ho =>
      have hfin := Lib.hid (show r = .good ⟨3, 0, sgn c, ⟨#[]⟩⟩ (n + 1) by rw [ER.out, hq]; rfl)
      have hv : ∃ g cap, v = .slice (some ⟨g, 0, none⟩) 1 cap ∧ w1.cell? ⟨g, 0, none⟩ = some (.int .u8 (c.toNat : Int)) ∧ w0.heap.size ≤ g := by
        rcases ho.2 with ⟨rfl, h0⟩ | ⟨g, cap, cur, rfl, _⟩
        · simp at h0
        · refine ⟨g, cap, rfl, ?_, (ho.lt g rfl).1⟩
          have := ho.cells (g := g) rfl 0 (.int .u8 (c.toNat : Int)) rfl
          rwa [addr_add] at this
      obtain ⟨g, cap, rfl, cg, hg0⟩ := hv
      have hgne : g ≠ w.heap.size + 1 := by omega
      have hgne' : ¬ (w.heap.size + 1 = g) := by omega
      have hc256 := c.toNat_lt
      have HSg := Lib.hid (show sgn c = if c.toNat < 128 then (c.toNat : Int) else (c.toNat : Int) - 256 from rfl)
      clear ho hq ER
      obtain ⟨y, hy⟩ : ∃ y : Int, y = (c.toNat : Int) := ⟨_, rfl⟩
      rw [← hy] at cg
      have hy0 : 0 ≤ y := by omega
      have hy1 : y ≤ 255 := by omega
      have HY := Lib.hid hy
      clear hy hc256
      go_wp2_with fail
      go_region
      generalize hwx : World.setCell _ _ _ = wx
      have hfx1 : wx.heap[w.heap.size + 1]? = some (.cells #[.int .i64 3, .int .i64 k, .int .i64 y, .string ⟨#[]⟩] 34 (0, 0)) := by rw [← hwx]; exact tok_set02 HF1.out.2 _ _
      have hfx0 : wx.heap[w.heap.size]? = some (.cells #[.int .i64 0, .int .i64 0, .int .i64 0, .string ⟨#[]⟩] 34 (0, 0)) := by
        rw [← hwx, Below.heap_setCell _ _ _ _ (by simp), Below.heap_setCell _ _ _ _ (by simp)]; exact HF1.out.1
      have HBx := Lib.hid (show Below w.heap.size w wx by rw [← hwx]; refine Below.setCell (Below.setCell HB1.out ?_ _) ?_ _ <;> (show w.heap.size ≤ w.heap.size + 1; omega))
      clear hwx a0 a1 a2 a3 b0 b1 b2 b3 fb0 fb1 fb2 fb3 cg
      obtain ⟨⟨a0, a1, a2, a3⟩, _⟩ := tok_block hfx0
      obtain ⟨⟨b0, b1, b2, b3⟩, fb⟩ := tok_block hfx1
      have fb0 := fb 0
      have fb1 := fb 1
      have fb2 := fb 2
      have fb3 := fb 3
      have hlx0 := lt_of_heap hfx0
      have hlx1 := lt_of_heap hfx1
      clear fb hfx0 hfx1
      by_cases h128 : y < 128
      · have hs' : y = sgn c := by rw [HSg.out, if_pos (by have := HY.out; omega), HY.out]
        have HS := Lib.hid hs'
        clear hs'
        go_wp2_with fail
        exact bodyPost_ret (v := .tuple #[.agg #[.int .i64 3, .int .i64 k, .int .i64 y, .string ⟨#[]⟩], .int .i64 ((k : Int) + 1 + n), .int .i64 0]) (by simp [results, Tryd.results28, go_sem, a0, a1, a2, a3]) rfl (refOne_yes ⟨3, 0, sgn c, ⟨#[]⟩⟩ hfin.out ⟨rfl, HS.out, rfl⟩ (by omega) (by repeat (first | with_reducible exact HBx.out | with_reducible refine blw_drew ?_ | with_reducible refine Below.setCell ?_ (by first | exact Nat.le_refl _ | exact Nat.le_succ _) _)))
      · have h128' : (128 : Int) ≤ y := by omega
        have hs' : y - 256 = sgn c := by rw [HSg.out, if_neg (by have := HY.out; omega), HY.out]
        have HS := Lib.hid hs'
        clear hs' h128
        go_wp2_with fail
        exact bodyPost_ret (v := .tuple #[.agg #[.int .i64 3, .int .i64 k, .int .i64 (y - 256), .string ⟨#[]⟩], .int .i64 ((k : Int) + 1 + n), .int .i64 0]) (by simp [results, Tryd.results28, go_sem, a0, a1, a2, a3]) rfl (refOne_yes ⟨3, 0, sgn c, ⟨#[]⟩⟩ hfin.out ⟨rfl, HS.out, rfl⟩ (by omega) (by repeat (first | with_reducible exact HBx.out | with_reducible refine blw_drew ?_ | with_reducible refine Below.setCell ?_ (by first | exact Nat.le_refl _ | exact Nat.le_succ _) _)))
    | c :: d :: l, hq, ho =>
      have hfin := Lib.hid (show r = .bad 72 by rw [ER.out, hq]; rfl)
      have hv : ∃ a cap, v = .slice a (l.length + 2) cap := by
        rcases ho.2 with ⟨rfl, h0⟩ | ⟨g, cap, cur, rfl, _⟩
        · simp at h0
        · exact ⟨_, _, rfl⟩
      obtain ⟨a, cap, rfl⟩ := hv
      have t5 : (((l.length + 2 : Nat) : Int) != 1) = true := by simp; omega
      have t6 : ((l.length : Int) + 2 != 1) = true := by simp; omega
      clear ho hq ER
      go_wp2_with fail
      exact bodyPost_ret (v := .tuple #[.agg #[.int .i64 0, .int .i64 k, .int .i64 0, .string ⟨#[]⟩], .int .i64 0, .int .i64 72]) (by simp [results, Tryd.results28, go_sem, a0, a1, a2, a3]) rfl (refOne_no hfin.out (by repeat (first | with_reducible exact HB1.out | with_reducible refine blw_drew ?_ | with_reducible refine Below.setCell ?_ (by first | exact Nat.le_refl _ | exact Nat.le_succ _) _)))
  · rw [hq] at he
    have hfin := Lib.hid (show r = .bad x by rw [ER.out, hq]; rfl)
    have hx := quotedL_bad _ _ _ (Nat.le_refl _) hq
    have t4 : (x != 0) = true := by simp; omega
    subst he
    clear hq hx ER
    go_wp2_with fail
    exact bodyPost_ret (v := .tuple #[.agg #[.int .i64 0, .int .i64 k, .int .i64 0, .string ⟨#[]⟩], .int .i64 0, .int .i64 x]) (by simp [results, Tryd.results28, go_sem, a0, a1, a2, a3]) rfl (refOne_no hfin.out (by repeat (first | with_reducible exact HB1.out | with_reducible refine blw_drew ?_ | with_reducible refine Below.setCell ?_ (by first | exact Nat.le_refl _ | exact Nat.le_succ _) _)))

end Go.Proofs.YtncojfcdkigmiaaDoor
namespace Go.Proofs.YtncojfcdkigmiaaDoor
open Go.RowKit

theorem ext_is (s m : ByteArray) (k : Nat) : ((s.extract k (k + m.size)).toList == m.toList) = Lib.hasPrefix (sfx s k) m.data.toList := by
  rw [Lib.toList_data, Lib.toList_data, extract_take, Bool.eq_iff_iff, beq_iff_eq]
  unfold Lib.hasPrefix
  rw [List.isPrefixOf_iff_prefix, List.prefix_iff_eq_take, size_pos_toList]
  exact eq_comm

set_option maxHeartbeats 4000000 in
set_option maxRecDepth 100000 in
theorem refOne_mark (k : Nat) (s : ByteArray) (w : World) (hk : k < s.size) (hs : s.size ≤ 1048576) (h1 : letB s[k] = false) (h2 : digB s[k] = false) (h3 : s[k].toNat ≠ 39) (h4 : s[k].toNat ≠ 34) :
    Calls Tryd.prog 28 #[.string s, .int .i64 k] w (RefOne k (oneL (sfx s k)) w) := by
  obtain ⟨r, er⟩ : ∃ r, r = oneL (sfx s k) := ⟨_, rfl⟩
  rw [← er]
  have ER := Lib.hid (er.trans (oneL_mark hk h1 h2 h3 h4))
  have HL := Lib.hid h1
  have HD := Lib.hid h2
  have t0 : ((s[k].toNat : Int) == 39) = false := by simp; omega
  have t1 : ((s[k].toNat : Int) == 34) = false := by simp; omega
  clear er h1 h2 h3 h4
  go_enter Tryd.func28, Tryd.ntmps28
  go_upto_region 34 with (first | (go_at_call 52; refine (refLetter_is false _ _ HL.out).mono ?_; rintro e w' ⟨rfl, rfl⟩) | (go_at_call 53; refine (refDigit_is false _ _ HD.out).mono ?_; rintro e w' ⟨rfl, rfl⟩))
  generalize hw0 : World.alloc _ _ = w0
  have hf0 : w0.heap[w.heap.size]? = some (.cells #[.int .i64 0, .int .i64 0, .int .i64 0, .string ⟨#[]⟩] 34 (0, 0)) := by
    rw [← hw0]; exact (two_blocks (Below.refl _ _)).1
  have hf1 : w0.heap[w.heap.size + 1]? = some (.cells #[.int .i64 0, .int .i64 k, .int .i64 0, .string ⟨#[]⟩] 34 (0, 0)) := by
    rw [← hw0]; exact (two_blocks (Below.refl _ _)).2
  have HB0 := Lib.hid (show Below w.heap.size w w0 by rw [← hw0]; exact two_blw _ _ _)
  have HF := Lib.hid (And.intro hf0 hf1)
  have hl0 := lt_of_heap hf0
  have hl1 := lt_of_heap hf1
  clear hw0 hf0 hf1
  go_wp2_with (go_at_call 41; refine (marks_row w0.heap.size _ rfl).mono ?_; rintro e w1 ⟨rfl, hb1, HM⟩)
  have hf0 := (hb1.block _ hl0).trans HF.out.1
  have hf1 := (hb1.block _ hl1).trans HF.out.2
  have HB1 := Lib.hid (HB0.out.trans (hb1.mono HB0.out.size))
  have HF1 := Lib.hid (And.intro hf0 hf1)
  obtain ⟨⟨a0, a1, a2, a3⟩, _⟩ := tok_block hf0
  obtain ⟨⟨b0, b1, b2, b3⟩, fb⟩ := tok_block hf1
  have fb0 := fb 0
  have fb1 := fb 1
  have fb2 := fb 2
  have fb3 := fb 3
  clear hb1 fb hf0 hf1
  rw [markT_length] at *
  go_loopg [17] 45 (fun g v wr => ∃ j : Nat, j ≤ 45 ∧ j + g = 45 ∧ v = .int .i64 j ∧ Hid (∀ i y, i < j → markT[i]? = some y → Lib.hasPrefix (sfx s k) y.data.toList = false) ∧ ∃ n, wr = w1.drewN n)
  case atStart => exact ⟨0, by omega, by omega, rfl, fun i y hi => by omega, 0, rfl⟩
  case round =>
    obtain ⟨j, hj, hjg, rfl, hno, n, rfl⟩ := hrel
    by_cases hlt : j < 45
    · have hc := HM.out j hlt
      have hm3 : (markT.getD j ByteArray.empty).size ≤ 3 := by
        rw [getD_lt _ _ (by rw [markT_length]; exact hlt)]
        have key : ∀ x ∈ markT, x.size ≤ 3 := by decide
        exact key _ (List.getElem_mem _)
      have hget : markT[j]? = some (markT.getD j ByteArray.empty) := by rw [List.getElem?_eq_getElem (by rw [markT_length]; exact hlt), getD_lt _ _ (by rw [markT_length]; exact hlt)]
      generalize markT.getD j ByteArray.empty = m at hc hm3 hget
      have HG := Lib.hid hget
      clear hget
      by_cases hsz : k + m.size ≤ s.size
      · have t5 : ((k : Int) + m.size ≤ s.size) := by omega
        have p1 : (k : Int) ≤ (k : Int) + m.size := by omega
        rcases hp : Lib.hasPrefix (sfx s k) m.data.toList with _ | _
        · have HP := Lib.hid hp
          have t6 : ((s.extract k (k + m.size)).toList == m.toList) = false := by rw [ext_is]; exact hp
          clear hp
          go_wp2_with fail
          go_quiet (fail)
          go_wp2_with fail
          go_roundg (45 - (j + 1))
          case measure => omega
          case rel => exact ⟨j + 1, by omega, by omega, by go_num, fun i y hi hy => by
            rcases Nat.lt_or_ge i j with h | h
            · exact hno.out i y h hy
            · obtain rfl : i = j := by omega
              have e := HG.out
              rw [hy] at e
              obtain rfl := Option.some.inj e
              exact HP.out, _, rfl⟩
        · have t6 : ((s.extract k (k + m.size)).toList == m.toList) = true := by rw [ext_is]; exact hp
          have hi := firstI_at (p := fun m : ByteArray => Lib.hasPrefix (sfx s k) m.data.toList) HG.out hp (fun i y h1 h2 => hno.out i y h1 h2)
          have hf := firstI_find (p := fun m : ByteArray => Lib.hasPrefix (sfx s k) m.data.toList) (l := markT)
          rw [hi] at hf
          obtain ⟨m', e1, e2⟩ := hf
          rw [HG.out] at e1
          obtain rfl := Option.some.inj e1
          have hfin := Lib.hid (show r = .good ⟨5, 0, 0, m⟩ m.size by rw [ER.out, markE]; unfold Lib.hasPrefix at e2; rw [e2])
          clear hp hi e1 e2
          go_wp2_with fail
          go_quiet (fail)
          go_wp2_with fail
          go_region
          generalize hwx : World.setCell _ _ _ = wx
          have hfx1 : wx.heap[w.heap.size + 1]? = some (.cells #[.int .i64 5, .int .i64 k, .int .i64 0, .string m] 34 (0, 0)) := by rw [← hwx]; exact tok_set03 HF1.out.2 _ _
          have hfx0 : wx.heap[w.heap.size]? = some (.cells #[.int .i64 0, .int .i64 0, .int .i64 0, .string ⟨#[]⟩] 34 (0, 0)) := by
            rw [← hwx, Below.heap_setCell _ _ _ _ (by simp), Below.heap_setCell _ _ _ _ (by simp)]; exact HF1.out.1
          have hcx : wx.cell? ⟨w0.heap.size, j, none⟩ = some (.string m) := by
            unfold World.cell? at hc ⊢
            rw [← hwx, Below.heap_setCell _ _ _ _ (by simp; omega), Below.heap_setCell _ _ _ _ (by simp; omega)]; exact hc
          have HBx := Lib.hid (show Below w.heap.size w wx by rw [← hwx]; refine Below.setCell (Below.setCell (blw_drewN HB1.out _) ?_ _) ?_ _ <;> (show w.heap.size ≤ w.heap.size + 1; omega))
          clear hwx a0 a1 a2 a3 b0 b1 b2 b3 fb0 fb1 fb2 fb3 hc
          obtain ⟨⟨a0, a1, a2, a3⟩, _⟩ := tok_block hfx0
          obtain ⟨⟨b0, b1, b2, b3⟩, fb⟩ := tok_block hfx1
          have fb0 := fb 0
          have fb1 := fb 1
          have fb2 := fb 2
          have fb3 := fb 3
          have hlx0 := lt_of_heap hfx0
          have hlx1 := lt_of_heap hfx1
          clear fb hfx0 hfx1
          go_wp2_with fail
          go_region
          go_wp2_with fail
          exact bodyPost_ret (v := .tuple #[.agg #[.int .i64 5, .int .i64 k, .int .i64 0, .string m], .int .i64 ((k : Int) + m.size), .int .i64 0]) (by simp [results, Tryd.results28, go_sem, a0, a1, a2, a3]) rfl (refOne_yes ⟨5, 0, 0, m⟩ hfin.out ⟨rfl, rfl, rfl⟩ (by omega) (by repeat (first | with_reducible exact HBx.out | with_reducible refine blw_drew ?_ | with_reducible refine Below.setCell ?_ (by first | exact Nat.le_refl _ | exact Nat.le_succ _) _)))
      · have t5 : (s.size : Int) < (k : Int) + m.size := by omega
        have HP := Lib.hid (show Lib.hasPrefix (sfx s k) m.data.toList = false by
          rcases hp : Lib.hasPrefix (sfx s k) m.data.toList with _ | _
          · rfl
          · exfalso
            have h1 := (List.isPrefixOf_iff_prefix.1 hp).length_le
            rw [sfx_length] at h1
            have h2 : m.data.toList.length = m.size := size_pos_toList
            omega)
        go_wp2_with fail
        have t6 : ¬ (k + m.size ≤ s.size) := by omega
        have t7 : decide (k + m.size ≤ s.size) = false := decide_eq_false t6
        have t8 : decide ((k : Int) + m.size ≤ s.size) = false := decide_eq_false (by omega)
        go_quiet (fail)
        go_wp2_with fail
        go_roundg (45 - (j + 1))
        case measure => omega
        case rel => exact ⟨j + 1, by omega, by omega, by go_num, fun i y hi hy => by
          rcases Nat.lt_or_ge i j with h | h
          · exact hno.out i y h hy
          · obtain rfl : i = j := by omega
            have e := HG.out
            rw [hy] at e
            obtain rfl := Option.some.inj e
            exact HP.out, _, rfl⟩
    · obtain rfl : j = 45 := by omega
      have hfin := Lib.hid (show r = .bad 70 by
        rw [ER.out, markE, List.find?_eq_none.2 (fun y hy => by
          obtain ⟨i, hi⟩ := List.mem_iff_getElem?.1 hy
          have h1 := hno.out i y (by have := (List.getElem?_eq_some_iff.1 hi).1; rw [markT_length] at this; exact this) hi
          unfold Lib.hasPrefix at h1
          simp [h1])])
      go_wp2_with fail
      exact bodyPost_ret (v := .tuple #[.agg #[.int .i64 0, .int .i64 k, .int .i64 0, .string ⟨#[]⟩], .int .i64 0, .int .i64 70]) (by simp [results, Tryd.results28, go_sem, a0, a1, a2, a3]) rfl (refOne_no hfin.out (by repeat (first | with_reducible exact blw_drewN HB1.out _ | with_reducible refine blw_drew ?_ | with_reducible refine Below.setCell ?_ (by first | exact Nat.le_refl _ | exact Nat.le_succ _) _)))

/-- one token -/
theorem refOne_ok (k : Nat) (s : ByteArray) (w : World) (hk : k < s.size) (hs : s.size ≤ 1048576) :
    Calls Tryd.prog 28 #[.string s, .int .i64 k] w (RefOne k (oneL (sfx s k)) w) := by
  rcases h1 : letB s[k] with _ | _
  · rcases h2 : digB s[k] with _ | _
    · by_cases h3 : s[k].toNat = 39
      · exact refOne_char k s w hk hs h3
      · by_cases h4 : s[k].toNat = 34
        · exact refOne_str k s w hk hs h4
        · exact refOne_mark k s w hk hs h1 h2 h3 h4
    · exact refOne_digit k s w hk hs h2
  · exact refOne_letter k s w hk hs h1

end Go.Proofs.YtncojfcdkigmiaaDoor
