/- The built-in functions; a rule's tests. -/
import Derived.Test.YtlomdlblohnfmaaDoorIrRule
import Derived.Test.YtlomdlblohnfmaaDoorNames2
import Derived.Shelf.Abstract
namespace Go.Proofs.YtlomdlblohnfmaaDoor
open Go.RowKit

def builtV (s : ByteArray) : Value := match builtI s with
  | none => .tuple #[.int .i64 0, .bool false, .bool false]
  | some (n, ans) => .tuple #[.int .i64 (n : Int), .bool ans, .bool true]
set_option maxHeartbeats 1000000 in
theorem built_ok (s : ByteArray) (w : World) : Calls Tryd.prog 17 #[.string s] w fun e w' => e = .returned (builtV s) ∧ w' = w := by
  obtain ⟨l, hl⟩ : ∃ l, l = s.data.toList := ⟨_, rfl⟩
  have hs : s.toList = l := by rw [Lib.toList_data]; exact hl.symm
  by_cases h0 : l = [103, 101, 116, 99, 104, 97, 114]
  · have he : builtV s = .tuple #[.int .i64 0, .bool true, .bool true] := by
      unfold builtV builtI
      rw [← hl, h0]
      rfl
    rw [he]
    have t0 : (s.toList == [103, 101, 116, 99, 104, 97, 114]) = true := by rw [hs, h0]; rfl
    clear he hl hs h0
    go_enter Tryd.func17, Tryd.ntmps17
    go_wp2
    go_ret3
    exact ⟨rfl, rfl⟩
  by_cases h1 : l = [112, 117, 116, 99, 104, 97, 114]
  · have he : builtV s = .tuple #[.int .i64 1, .bool true, .bool true] := by
      unfold builtV builtI
      rw [← hl, h1]
      rfl
    rw [he]
    have t0 : (s.toList == [103, 101, 116, 99, 104, 97, 114]) = false := by rw [hs]; simpa using h0
    have t1 : (s.toList == [112, 117, 116, 99, 104, 97, 114]) = true := by rw [hs, h1]; rfl
    clear he hl hs h0 h1
    go_enter Tryd.func17, Tryd.ntmps17
    go_wp2
    go_ret3
    exact ⟨rfl, rfl⟩
  by_cases h2 : l = [99, 111, 95, 121, 105, 101, 108, 100]
  · have he : builtV s = .tuple #[.int .i64 1, .bool true, .bool true] := by
      unfold builtV builtI
      rw [← hl, h2]
      rfl
    rw [he]
    have t0 : (s.toList == [103, 101, 116, 99, 104, 97, 114]) = false := by rw [hs]; simpa using h0
    have t1 : (s.toList == [112, 117, 116, 99, 104, 97, 114]) = false := by rw [hs]; simpa using h1
    have t2 : (s.toList == [99, 111, 95, 121, 105, 101, 108, 100]) = true := by rw [hs, h2]; rfl
    clear he hl hs h0 h1 h2
    go_enter Tryd.func17, Tryd.ntmps17
    go_wp2
    go_ret3
    exact ⟨rfl, rfl⟩
  by_cases h3 : l = [99, 111, 95, 100, 111, 110, 101]
  · have he : builtV s = .tuple #[.int .i64 1, .bool true, .bool true] := by
      unfold builtV builtI
      rw [← hl, h3]
      rfl
    rw [he]
    have t0 : (s.toList == [103, 101, 116, 99, 104, 97, 114]) = false := by rw [hs]; simpa using h0
    have t1 : (s.toList == [112, 117, 116, 99, 104, 97, 114]) = false := by rw [hs]; simpa using h1
    have t2 : (s.toList == [99, 111, 95, 121, 105, 101, 108, 100]) = false := by rw [hs]; simpa using h2
    have t3 : (s.toList == [99, 111, 95, 100, 111, 110, 101]) = true := by rw [hs, h3]; rfl
    clear he hl hs h0 h1 h2 h3
    go_enter Tryd.func17, Tryd.ntmps17
    go_wp2
    go_ret3
    exact ⟨rfl, rfl⟩
  by_cases h4 : l = [101, 120, 105, 116]
  · have he : builtV s = .tuple #[.int .i64 1, .bool false, .bool true] := by
      unfold builtV builtI
      rw [← hl, h4]
      rfl
    rw [he]
    have t0 : (s.toList == [103, 101, 116, 99, 104, 97, 114]) = false := by rw [hs]; simpa using h0
    have t1 : (s.toList == [112, 117, 116, 99, 104, 97, 114]) = false := by rw [hs]; simpa using h1
    have t2 : (s.toList == [99, 111, 95, 121, 105, 101, 108, 100]) = false := by rw [hs]; simpa using h2
    have t3 : (s.toList == [99, 111, 95, 100, 111, 110, 101]) = false := by rw [hs]; simpa using h3
    have t4 : (s.toList == [101, 120, 105, 116]) = true := by rw [hs, h4]; rfl
    clear he hl hs h0 h1 h2 h3 h4
    go_enter Tryd.func17, Tryd.ntmps17
    go_wp2
    go_ret3
    exact ⟨rfl, rfl⟩
  by_cases h5 : l = [99, 111, 95, 102, 114, 101, 101]
  · have he : builtV s = .tuple #[.int .i64 1, .bool false, .bool true] := by
      unfold builtV builtI
      rw [← hl, h5]
      rfl
    rw [he]
    have t0 : (s.toList == [103, 101, 116, 99, 104, 97, 114]) = false := by rw [hs]; simpa using h0
    have t1 : (s.toList == [112, 117, 116, 99, 104, 97, 114]) = false := by rw [hs]; simpa using h1
    have t2 : (s.toList == [99, 111, 95, 121, 105, 101, 108, 100]) = false := by rw [hs]; simpa using h2
    have t3 : (s.toList == [99, 111, 95, 100, 111, 110, 101]) = false := by rw [hs]; simpa using h3
    have t4 : (s.toList == [101, 120, 105, 116]) = false := by rw [hs]; simpa using h4
    have t5 : (s.toList == [99, 111, 95, 102, 114, 101, 101]) = true := by rw [hs, h5]; rfl
    clear he hl hs h0 h1 h2 h3 h4 h5
    go_enter Tryd.func17, Tryd.ntmps17
    go_wp2
    go_ret3
    exact ⟨rfl, rfl⟩
  by_cases h6 : l = [108, 111, 110, 103, 106, 109, 112]
  · have he : builtV s = .tuple #[.int .i64 2, .bool false, .bool true] := by
      unfold builtV builtI
      rw [← hl, h6]
      rfl
    rw [he]
    have t0 : (s.toList == [103, 101, 116, 99, 104, 97, 114]) = false := by rw [hs]; simpa using h0
    have t1 : (s.toList == [112, 117, 116, 99, 104, 97, 114]) = false := by rw [hs]; simpa using h1
    have t2 : (s.toList == [99, 111, 95, 121, 105, 101, 108, 100]) = false := by rw [hs]; simpa using h2
    have t3 : (s.toList == [99, 111, 95, 100, 111, 110, 101]) = false := by rw [hs]; simpa using h3
    have t4 : (s.toList == [101, 120, 105, 116]) = false := by rw [hs]; simpa using h4
    have t5 : (s.toList == [99, 111, 95, 102, 114, 101, 101]) = false := by rw [hs]; simpa using h5
    have t6 : (s.toList == [108, 111, 110, 103, 106, 109, 112]) = true := by rw [hs, h6]; rfl
    clear he hl hs h0 h1 h2 h3 h4 h5 h6
    go_enter Tryd.func17, Tryd.ntmps17
    go_wp2
    go_ret3
    exact ⟨rfl, rfl⟩
  by_cases h7 : l = [99, 111, 95, 110, 101, 119]
  · have he : builtV s = .tuple #[.int .i64 3, .bool true, .bool true] := by
      unfold builtV builtI
      rw [← hl, h7]
      rfl
    rw [he]
    have t0 : (s.toList == [103, 101, 116, 99, 104, 97, 114]) = false := by rw [hs]; simpa using h0
    have t1 : (s.toList == [112, 117, 116, 99, 104, 97, 114]) = false := by rw [hs]; simpa using h1
    have t2 : (s.toList == [99, 111, 95, 121, 105, 101, 108, 100]) = false := by rw [hs]; simpa using h2
    have t3 : (s.toList == [99, 111, 95, 100, 111, 110, 101]) = false := by rw [hs]; simpa using h3
    have t4 : (s.toList == [101, 120, 105, 116]) = false := by rw [hs]; simpa using h4
    have t5 : (s.toList == [99, 111, 95, 102, 114, 101, 101]) = false := by rw [hs]; simpa using h5
    have t6 : (s.toList == [108, 111, 110, 103, 106, 109, 112]) = false := by rw [hs]; simpa using h6
    have t7 : (s.toList == [99, 111, 95, 110, 101, 119]) = true := by rw [hs, h7]; rfl
    clear he hl hs h0 h1 h2 h3 h4 h5 h6 h7
    go_enter Tryd.func17, Tryd.ntmps17
    go_wp2
    go_ret3
    exact ⟨rfl, rfl⟩
  by_cases h8 : l = [99, 111, 95, 114, 101, 115, 117, 109, 101]
  · have he : builtV s = .tuple #[.int .i64 2, .bool true, .bool true] := by
      unfold builtV builtI
      rw [← hl, h8]
      rfl
    rw [he]
    have t0 : (s.toList == [103, 101, 116, 99, 104, 97, 114]) = false := by rw [hs]; simpa using h0
    have t1 : (s.toList == [112, 117, 116, 99, 104, 97, 114]) = false := by rw [hs]; simpa using h1
    have t2 : (s.toList == [99, 111, 95, 121, 105, 101, 108, 100]) = false := by rw [hs]; simpa using h2
    have t3 : (s.toList == [99, 111, 95, 100, 111, 110, 101]) = false := by rw [hs]; simpa using h3
    have t4 : (s.toList == [101, 120, 105, 116]) = false := by rw [hs]; simpa using h4
    have t5 : (s.toList == [99, 111, 95, 102, 114, 101, 101]) = false := by rw [hs]; simpa using h5
    have t6 : (s.toList == [108, 111, 110, 103, 106, 109, 112]) = false := by rw [hs]; simpa using h6
    have t7 : (s.toList == [99, 111, 95, 110, 101, 119]) = false := by rw [hs]; simpa using h7
    have t8 : (s.toList == [99, 111, 95, 114, 101, 115, 117, 109, 101]) = true := by rw [hs, h8]; rfl
    clear he hl hs h0 h1 h2 h3 h4 h5 h6 h7 h8
    go_enter Tryd.func17, Tryd.ntmps17
    go_wp2
    go_ret3
    exact ⟨rfl, rfl⟩
  have he : builtV s = .tuple #[.int .i64 0, .bool false, .bool false] := by
    unfold builtV builtI
    rw [← hl]
    simp only [h0, h1, h2, h3, h4, h5, h6, h7, h8, or_self, if_false]
  rw [he]
  have t0 : (s.toList == [103, 101, 116, 99, 104, 97, 114]) = false := by rw [hs]; simpa using h0
  have t1 : (s.toList == [112, 117, 116, 99, 104, 97, 114]) = false := by rw [hs]; simpa using h1
  have t2 : (s.toList == [99, 111, 95, 121, 105, 101, 108, 100]) = false := by rw [hs]; simpa using h2
  have t3 : (s.toList == [99, 111, 95, 100, 111, 110, 101]) = false := by rw [hs]; simpa using h3
  have t4 : (s.toList == [101, 120, 105, 116]) = false := by rw [hs]; simpa using h4
  have t5 : (s.toList == [99, 111, 95, 102, 114, 101, 101]) = false := by rw [hs]; simpa using h5
  have t6 : (s.toList == [108, 111, 110, 103, 106, 109, 112]) = false := by rw [hs]; simpa using h6
  have t7 : (s.toList == [99, 111, 95, 110, 101, 119]) = false := by rw [hs]; simpa using h7
  have t8 : (s.toList == [99, 111, 95, 114, 101, 115, 117, 109, 101]) = false := by rw [hs]; simpa using h8
  clear he hl hs h0 h1 h2 h3 h4 h5 h6 h7 h8
  go_enter Tryd.func17, Tryd.ntmps17
  go_wp2
  go_ret3
  exact ⟨rfl, rfl⟩
theorem isBuilt_ok (s : ByteArray) (b : Bool) (hb : (builtI s).isSome = b) (w : World) : Calls Tryd.prog 74 #[.string s] w fun e w' => e = .returned (.bool b) ∧ Below w.heap.size w w' := by
  have H := built_ok s w
  unfold builtV at H
  cases h : builtI s with
  | none =>
    rw [h] at hb H
    obtain rfl := hb
    have HB := Lib.hid H
    clear h H
    go_enter Tryd.func74, Tryd.ntmps74
    go_wp2_with (go_at_call 17; refine HB.out.mono ?_; rintro e w1 ⟨rfl, rfl⟩)
    go_ret
    exact ⟨rfl, Below.refl _ _⟩
  | some q =>
    obtain ⟨n, ans⟩ := q
    rw [h] at hb H
    obtain rfl := hb
    have HB := Lib.hid H
    clear h H
    go_enter Tryd.func74, Tryd.ntmps74
    go_wp2_with (go_at_call 17; refine HB.out.mono ?_; rintro e w1 ⟨rfl, rfl⟩)
    go_ret
    exact ⟨rfl, Below.refl _ _⟩
/-- a kind's test of its number, of its text -/
theorem imm_ok (k n : Int) (b : Bool) (hb : immI k n = b) (w : World) : Calls Tryd.prog (immF k) #[.int .i64 n] w fun e w' => e = .returned (.bool b) ∧ Below w.heap.size w w' := by
  unfold immI at hb
  unfold immF
  split at hb
  · rw [if_pos (by assumption)]; exact constant_ok n b hb w
  rw [if_neg (by assumption)]
  split at hb
  · rw [if_pos (by assumption)]; exact halves_ok n b hb w
  rw [if_neg (by assumption)]
  split at hb
  · rw [if_pos (by assumption)]; exact from0_ok n b hb w
  rw [if_neg (by assumption)]
  split at hb
  · rw [if_pos (by assumption)]; exact widths_ok n b hb w
  rw [if_neg (by assumption)]
  split at hb
  · rw [if_pos (by assumption)]; exact copied_ok n b hb w
  rw [if_neg (by assumption)]
  exact none_ok n b hb w
theorem imm_enters (k : Int) : ∀ args w, (callFunc (immF k) args).run Tryd.prog w = .ok (.enter (immF k) args) w := by
  unfold immF
  split
  · exact enters_of Tryd.func69 (by kernel_rfl) rfl
  split
  · exact enters_of Tryd.func70 (by kernel_rfl) rfl
  split
  · exact enters_of Tryd.func71 (by kernel_rfl) rfl
  split
  · exact enters_of Tryd.func72 (by kernel_rfl) rfl
  split
  · exact enters_of Tryd.func73 (by kernel_rfl) rfl
  · exact enters_of Tryd.func67 (by kernel_rfl) rfl
theorem text_ok (k : Int) (s : ByteArray) (b : Bool) (hb : textI k s = b) (w : World) (hK : KeysAt w) : Calls Tryd.prog (textF k) #[.string s] w fun e w' => e = .returned (.bool b) ∧ Below w.heap.size w w' := by
  unfold textI at hb
  unfold textF
  split at hb
  · rw [if_pos (by assumption)]; subst hb; exact lexIsName_any s w hK
  rw [if_neg (by assumption)]
  split at hb
  · rw [if_pos (by assumption)]; exact isBuilt_ok s b hb w
  rw [if_neg (by assumption)]
  exact empty_ok s b hb w
theorem text_enters (k : Int) : ∀ args w, (callFunc (textF k) args).run Tryd.prog w = .ok (.enter (textF k) args) w := by
  unfold textF
  split
  · exact enters_of Tryd.func38 (by kernel_rfl) rfl
  split
  · exact enters_of Tryd.func74 (by kernel_rfl) rfl
  · exact enters_of Tryd.func68 (by kernel_rfl) rfl
end Go.Proofs.YtlomdlblohnfmaaDoor

