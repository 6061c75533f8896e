/- The walk of LexTokens. -/
import Derived.Test.YtncojfcdkigmiaaDoorRefTokens
import Derived.Test.YtncojfcdkigmiaaDoorNames2
import Derived.Test.YtncojfcdkigmiaaDoorLexPlaces
namespace Go.Proofs.YtncojfcdkigmiaaDoor
open Go.RowKit

def outR : TEnd → List Tok × Int × Int
  | .good L => (L, 0, 0)
  | .bad p x => ([], p, x)
theorem outR_len {s : ByteArray} {L : List Tok} {p x : Int} (h : outR (tokE s) = (L, p, x)) : L.length ≤ 16384 := by
  rcases ht : tokE s with L' | ⟨p', x'⟩
  · rw [ht] at h
    simp only [outR, Prod.mk.injEq] at h
    obtain ⟨rfl, _, _⟩ := h
    exact tokL_len _ _ _ _ (tokE_good ht).2.1 (by simp)
  · rw [ht] at h
    simp only [outR, Prod.mk.injEq] at h
    obtain ⟨rfl, _, _⟩ := h
    simp
theorem toked_out {w w' : World} {r : TEnd} {e : Ending} {L : List Tok} {p x : Int} (hr : outR r = (L, p, x)) (h : Toked w r e w') :
    ∃ a cap, e = .returned (.tuple #[.slice a L.length cap, .agg #[.int .i64 p, .int .i64 x]]) ∧ IsToks w'.heap.size w' a L ∧ Below w.heap.size w w' := by
  obtain ⟨h1, h2⟩ := h
  cases r with
  | good L' =>
    simp only [outR, Prod.mk.injEq] at hr
    obtain ⟨rfl, rfl, rfl⟩ := hr
    obtain ⟨v, rfl, ho⟩ := h1
    obtain ⟨a, cap, rfl, hA⟩ := own_toks ho
    exact ⟨a, cap, rfl, hA, h2⟩
  | bad p' x' =>
    simp only [outR, Prod.mk.injEq] at hr
    obtain ⟨rfl, rfl, rfl⟩ := hr
    exact ⟨none, 0, h1, fun h => absurd rfl h, h2⟩

theorem tokE_long {s : ByteArray} (hs : 65536 < s.size) : tokE s = .bad 0 3 := by unfold tokE; rw [if_pos hs]
theorem tokens_any (s : ByteArray) (w : World) (hE : Env w) : Calls Tryd.prog 12 #[.string s] w (Toked w (tokE s)) := by
  by_cases hs : s.size ≤ 65536
  · exact tokens_in s w hs hE
  · rw [tokE_long (by omega)]; exact tokens_long s w (by omega)
theorem refTokens_any (s : ByteArray) (w : World) : Calls Tryd.prog 14 #[.string s] w (Toked w (tokE s)) := by
  by_cases hs : s.size ≤ 65536
  · exact refTokens_in s w hs
  · rw [tokE_long (by omega)]; exact refTokens_long s w (by omega)

theorem refIsName_ok (s : ByteArray) (w : World) :
    Calls Tryd.prog 16 #[.string s] w fun e w' => e = .returned (.bool (isNameB s)) ∧ Below w.heap.size w w' := by
  go_enter Tryd.func16, Tryd.ntmps16
  go_wp2_with (go_at_call 31; refine (baseName_any s _).mono ?_)
  rintro e w1 ⟨rfl, hb⟩
  go_wp2
  go_ret
  exact ⟨rfl, hb⟩
theorem refIsKey_ok (s : ByteArray) (w : World) :
    Calls Tryd.prog 18 #[.string s] w fun e w' => e = .returned (.bool (isKeyB s)) ∧ Below w.heap.size w w' := by
  go_enter Tryd.func18, Tryd.ntmps18
  go_wp2_with (go_at_call 33; refine (baseKey_ok s _).mono ?_)
  rintro e w1 ⟨rfl, hb⟩
  go_wp2
  go_ret
  exact ⟨rfl, hb⟩

set_option maxHeartbeats 4000000 in
set_option maxRecDepth 100000 in
theorem lexTokens_ok (s : ByteArray) (w : World) (hE : Env w) :
    Calls Tryd.prog 5 #[.string s] w fun e w' => e = .returned (.bool true) ∧ Below w.heap.size w w' := by
  obtain ⟨L, p, x, er⟩ : ∃ L p x, outR (tokE s) = (L, p, x) := ⟨_, _, _, rfl⟩
  have ER := Lib.hid er
  have HE := Lib.hid hE
  have hlen := outR_len er
  clear er hE
  go_enter Tryd.func5, Tryd.ntmps5
  go_wp2_with (go_at_call 12; refine (tokens_any s _ HE.out).mono ?_)
  rintro e w1 h1
  obtain ⟨a, ca, rfl, hA, hb1⟩ := toked_out ER.out h1
  have HA := Lib.hid hA
  have HB := Lib.hid hb1
  clear h1 hA hb1
  go_wp2_with (go_at_call 14; refine (refTokens_any s _).mono ?_)
  rintro e w2 h2
  obtain ⟨b, cb, rfl, hB, hb2⟩ := toked_out ER.out h2
  have HB1 := Lib.hid hB
  have HB2 := Lib.hid hb2
  clear h2 hB hb2
  have HB12 := Lib.hid (show Below w1.heap.size w1 w2 from ((Below.refl _ _).alloc (Nat.le_refl _) _).trans (HB2.out.mono (by simp)))
  have HBw := Lib.hid (HB.out.trans (HB12.out.mono HB.out.size))
  have hf := HB2.out.block w1.heap.size (by simp)
  rw [heap_alloc_new] at hf
  go_upto_region 3 with fail
  generalize hw3 : w2.alloc (.cells #[.int .i64 p, .int .i64 x] 30) = w3
  have HB23 := Lib.hid (show Below w2.heap.size w2 w3 by rw [← hw3]; exact (Below.refl _ _).alloc (Nat.le_refl _) _)
  have hg : w3.heap[w2.heap.size]? = some (.cells #[.int .i64 p, .int .i64 x] 30 (0, 0)) := by rw [← hw3]; exact heap_alloc_new w2 _
  have hf3 := (HB23.out.block _ (lt_of_heap hf)).trans hf
  obtain ⟨⟨d0, d1⟩, _⟩ := two_block hf3
  obtain ⟨⟨e0, e1⟩, _⟩ := two_block hg
  have hl1 := lt_of_heap hf3
  have hl2 := lt_of_heap hg
  have HBw3 := Lib.hid (HBw.out.trans (HB23.out.mono HBw.out.size))
  have HA3 := Lib.hid ((HA.out.below HB12.out (Nat.le_refl _)).below HB23.out (HB12.out.size))
  have HB3 := Lib.hid (HB1.out.below HB23.out (Nat.le_refl _))
  have HE3 := Lib.hid (HE.out.below HBw3.out)
  clear hf hf3 hg hw3
  have hA' := Lib.hid (show IsToks w3.heap.size w3 a L from fun h => by obtain ⟨b, off, h1, h2, h3⟩ := HA3.out h; exact ⟨b, off, h1, by have := HB12.out.size; have := HB23.out.size; omega, h3⟩)
  have hB' := Lib.hid (show IsToks w3.heap.size w3 b L from fun h => by obtain ⟨b, off, h1, h2, h3⟩ := HB3.out h; exact ⟨b, off, h1, by have := HB23.out.size; omega, h3⟩)
  go_wp2_with (go_at_call 10; refine (same_is1 a b L.length ca cb L _ hA'.out hB'.out (by omega) rfl).mono ?_)
  rintro e w4 ⟨rfl, hb4⟩
  have HB4 := Lib.hid (HBw3.out.trans (hb4.mono HBw3.out.size))
  have HE4 := Lib.hid (HE.out.below HB4.out)
  clear hb4 d0 d1 e0 e1
  rcases hn : isNameB s with _ | _
  all_goals
    have HN := Lib.hid hn
    clear hn
    go_wp2_with (go_at_call 15; refine (lexIsName_any s _ HE4.out.keys).mono ?_)
    rintro e w5 ⟨rfl, hb5⟩
    rw [HN.out]
    have HB5 := Lib.hid (HB4.out.trans (hb5.mono HB4.out.size))
    have HE5 := Lib.hid (HE.out.below HB5.out)
    clear hb5
    go_wp2_with (go_at_call 16; refine (refIsName_ok s _).mono ?_)
    rintro e w6 ⟨rfl, hb6⟩
    rw [HN.out]
    have HB6 := Lib.hid (HB5.out.trans (hb6.mono HB5.out.size))
    have HE6 := Lib.hid (HE.out.below HB6.out)
    clear hb6
    rcases hk : isKeyB s with _ | _
    all_goals
      have HK := Lib.hid hk
      clear hk
      go_wp2_with (go_at_call 17; refine (lexIsKey_ok s _ HE6.out.keys).mono ?_; rintro e w7 ⟨rfl, rfl⟩; rw [HK.out])
      refine (refIsKey_ok s _).mono ?_
      rintro e w8 ⟨rfl, hb8⟩
      rw [HK.out]
      have HB8 := Lib.hid (HB6.out.trans (hb8.mono HB6.out.size))
      clear hb8
      go_wp2
      go_ret
      exact ⟨rfl, HB8.out⟩

end Go.Proofs.YtncojfcdkigmiaaDoor
