/- Quote of both texts: a text in quotes. -/
import Derived.Test.YtncojfcdkigmiaaDoorSpelt
import Derived.Test.YtncojfcdkigmiaaDoorBuilder
import Derived.Test.YtncojfcdkigmiaaDoorShelf
import Derived.Lib.UnsafeStr
import Derived.Lib.BufferRead
namespace Go.Proofs.YtncojfcdkigmiaaDoor
open Go.RowKit

/-- 'string(b)' of a row of the call's own that holds bytes. -/
theorem own_str {W : World} {B n : Nat} {v : Value} {l : List UInt8} (h : W.ownsRow B 5 1 v n (Lib.byteCells l)) :
    (convert 45 9 v).run Tryd.prog W = .ok (.string ⟨l.toArray⟩) W := by
  obtain ⟨hl, h⟩ := h
  have hn : n = l.length := by rw [Lib.byteCells_length] at hl; omega
  rcases h with ⟨rfl, h0⟩ | ⟨g, cap, cur, rfl, _, hg, _, _, _, htk⟩
  · obtain rfl : l = [] := by apply List.eq_nil_of_length_eq_zero; omega
    exact Lib.run_convert_nil_bytes W _ _ 5 0 Tryd.underlying45 Tryd.underlying5 Tryd.underlying9
  · subst hn
    exact run_convert_bytes_back W _ _ 5 _ cap l Tryd.underlying45 Tryd.underlying5 Tryd.underlying9 (Lib.bytes_of_row hg (by simpa using htk))

set_option maxHeartbeats 1000000 in
theorem refQuote_ok (s : ByteArray) (w : World) (hs : s.size ≤ 1048576) :
    Calls Tryd.prog 42 #[.string s] w fun e w' => e = .returned (.string ⟨(quoteL s.data.toList).toArray⟩) ∧ Below w.heap.size w w' := by
  obtain ⟨i0, hi, hz0, hz1, hz2⟩ := info_parts binfo8
  go_enter Tryd.func42, Tryd.ntmps42
  go_wp2_with fail
  go_loopw [3, 4] (fun v i wr => ∃ k : Nat, k ≤ s.size ∧ i = .int .i64 k ∧ wr.ownsRow w.heap.size 5 1 v (34 :: midL (s.data.toList.take k)).length (Lib.byteCells (34 :: midL (s.data.toList.take k))) ∧ Below w.heap.size w wr) (fun _ i _ => s.size - (intOf i).toNat)
  case atStart => exact ⟨0, Nat.zero_le _, rfl, own_new1 w _ _, (Below.refl _ _).alloc (Nat.le_refl _) _⟩
  case round =>
    obtain ⟨k, hk, rfl, hown, hbl⟩ := hrel
    have hmid := midL_bd (s.data.toList.take k)
    have hl : (s.data.toList.take k).length ≤ k := List.length_take_le _ _
    by_cases hlt : k < s.size
    · have HS := Lib.hid (midL_snoc s k hlt)
      have hsp := speltL_bd s[k] 34
      go_wp2_with (go_at_call 63; refine (refSpelt_ok s[k] 34 _).mono ?_)
      rintro e w1 ⟨rfl, hb1⟩
      have hown1 := Lib.hid (hown.belowed hb1)
      have hsz1 := hb1.size
      have hsz2 := hbl.size
      clear hown
      go_wp2_with (at_builtin; refine Lib.wpList_append_own_string _ rfl _ _ 45 9 rfl w.heap.size 5 i0 Tryd.underlying45 Tryd.underlying9 hi hz0 hz1 hz2 _ _ _ rfl hown1.out _ rfl ?c3 ?c4 ?c5 ?_)
      case c3 => rw [size_mk, List.length_cons]; unfold maxLen; omega
      case c4 => rw [size_mk, List.length_cons]; omega
      case c5 => omega
      intro v' w2 hown' hgrow _
      have hown2 := Lib.hid (own_bytes (L := 34 :: (midL (s.data.toList.take k) ++ speltL s[k] 34)) hown' (by simp [Lib.strCells, Lib.byteCells]))
      clear hown'
      go_wp2
      go_roundw
      case rel => exact ⟨k + 1, by omega, by go_num, by rw [HS.out]; exact hown2.out, (hbl.trans (hb1.mono hsz2)).grown hgrow (by omega) (fun k hk => (hown1.out.lt k hk).1)⟩
      case measure => simp [intOf]; omega
    · obtain rfl : k = s.size := by omega
      have hown1 := Lib.hid hown
      have hsz2 := hbl.size
      clear hown
      go_wp2_with (at_builtin; refine wpList_append_own _ rfl _ _ 45 rfl w.heap.size 5 i0 (.int .u8 0) 1 1 Tryd.underlying45 hi hz0 hz1 hz2 rfl (by decide) _ _ _ rfl (hown1.out.alloc _) ⟨wr.heap.size, 0, none⟩ 1 1 [.int .u8 34] rfl rfl ?c1 ?c2 ?c3 ?c4 ?c5 ?_)
      case c1 => exact cell_one _ _ _
      case c2 => intro u hu; simp at hu; subst hu; rfl
      case c3 => rw [List.length_cons]; unfold maxLen; omega
      case c4 => rw [List.length_cons]; omega
      case c5 => simp; omega
      intro v' w2 hown' hgrow _
      have hcv := own_str (own_bytes (L := 34 :: midL (s.data.toList.take s.size) ++ [34]) hown' (by simp [Lib.byteCells]))
      clear hown'
      go_wp2
      go_ret
      refine ⟨?_, ?_⟩
      · show Ending.returned (.string _) = _
        rw [show s.data.toList.take s.size = s.data.toList from List.take_of_length_le (by simp)]
        rfl
      · exact ((hbl.alloc hsz2 _).grown hgrow (by simp; omega) (fun k hk => (hown1.out.lt k hk).1))

theorem bat_below {T e : TypeId} {B b : Nat} {p : Value} {bs : List Value} {W W' : World} (h : Lib.BuilderAt T e B b p bs W) (hb : Below W.heap.size W W') : Lib.BuilderAt T e B b p bs W' := by
  obtain ⟨hB, v, hbk, hown, hne⟩ := h
  exact ⟨hB, v, by rw [hb.block b (lt_of_heap hbk)]; exact hbk, hown.belowed hb, hne⟩
theorem isb_below {T e : TypeId} {B b : Nat} {bs : List Value} {W W' : World} (h : Lib.IsBuilder T e B b bs W) (hb : Below W.heap.size W W') : Lib.IsBuilder T e B b bs W' :=
  h.imp (bat_below · hb) (bat_below · hb)
theorem isb_drew {T e : TypeId} {B b : Nat} {bs : List Value} {W : World} (h : Lib.IsBuilder T e B b bs W) : Lib.IsBuilder T e B b bs W.drew := h

set_option maxHeartbeats 1000000 in
theorem lexQuote_ok (s : ByteArray) (w : World) (hs : s.size ≤ 1048576) :
    Calls Tryd.prog 34 #[.string s] w fun e w' => e = .returned (.string ⟨(quoteL s.data.toList).toArray⟩) ∧ Below w.heap.size w w' := by
  have hfresh := Lib.hid (Lib.fresh_isBuilder 71 5 w)
  go_enter Tryd.func34, Tryd.ntmps34
  go_wp2_with (go_at_call 58; refine (bbyte w.heap.size w.heap.size [] 34 _ hfresh.out (by simp) (by simp)).mono ?_)
  rintro e w1 ⟨rfl, hB1, hb1⟩
  have HB1 := Lib.hid hB1
  have hsz1 := hb1.size
  clear hB1
  go_wp2_with fail
  go_loopw [4, 8] (fun _ i wr => ∃ k : Nat, k ≤ s.size ∧ i = .int .i64 k ∧ Lib.IsBuilder 71 5 w.heap.size w.heap.size (Lib.byteCells (34 :: midL (s.data.toList.take k))) wr ∧ Below w.heap.size w wr) (fun _ i _ => s.size - (intOf i).toNat)
  case atStart => exact ⟨0, Nat.zero_le _, rfl, HB1.out, ((Below.refl _ _).alloc (Nat.le_refl _) _).trans hb1⟩
  case round =>
    obtain ⟨k, hk, rfl, hB, hbl⟩ := hrel
    have hmid := midL_bd (s.data.toList.take k)
    have hl : (s.data.toList.take k).length ≤ k := List.length_take_le _ _
    have HB := Lib.hid hB
    have hsz2 := hbl.size
    clear hB
    by_cases hlt : k < s.size
    · have HS := Lib.hid (midL_snoc s k hlt)
      have hsp := speltL_bd s[k] 34
      go_wp2_with (go_at_call 59; refine (lexSpelt_ok s[k] 34 _ (by decide)).mono ?_)
      rintro e w2 ⟨rfl, hb2⟩
      have hsz3 := hb2.size
      have HB2 := Lib.hid (isb_below HB.out hb2)
      go_wp2_with (go_at_call 38; refine (bstr w.heap.size w.heap.size _ _ _ HB2.out (by rw [Lib.byteCells_length, size_mk, List.length_cons]; omega) (by omega)).mono ?_)
      rintro e w3 ⟨rfl, hB3, hb3⟩
      have HB3 := Lib.hid hB3
      clear hB3
      go_wp2
      go_roundw
      case rel => exact ⟨k + 1, by omega, by go_num, by rw [HS.out, ← List.cons_append, byteCells_append, ← strCells_mk (speltL _ _)]; exact HB3.out, (hbl.trans (hb2.mono hsz2)).trans hb3⟩
      case measure => simp [intOf]; omega
    · obtain rfl : k = s.size := by omega
      go_wp2_with (go_at_call 58; refine (bbyte w.heap.size w.heap.size _ 34 _ HB.out (by rw [Lib.byteCells_length, List.length_cons]; omega) (by omega)).mono ?_)
      rintro e w2 ⟨rfl, hB2, hb2⟩
      have hsz3 := hb2.size
      have HB2 : Hid (Lib.IsBuilder 71 5 w.heap.size w.heap.size (Lib.byteCells (quoteL s.data.toList)) w2) := by
        have h := hB2
        rw [show s.data.toList.take s.size = s.data.toList from List.take_of_length_le (by simp)] at h
        show Lib.IsBuilder _ _ _ _ _ _
        rw [quoteL, byteCells_append]; exact h
      clear hB2
      go_wp2_with (go_at_call 39; refine (Tryd.Builder_String_any w.heap.size w.heap.size (quoteL s.data.toList) _ HB2.out (by omega)).mono ?_)
      rintro e w3 ⟨rfl, hb3⟩
      go_wp2
      go_ret
      exact ⟨rfl, (hbl.trans hb2).trans hb3⟩

end Go.Proofs.YtncojfcdkigmiaaDoor
