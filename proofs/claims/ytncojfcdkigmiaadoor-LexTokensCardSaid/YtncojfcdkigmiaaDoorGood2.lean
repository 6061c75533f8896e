/- Whether a number may be, and how any token is laid, by the reference. -/
import Derived.Test.YtncojfcdkigmiaaDoorGood
namespace Go.Proofs.YtncojfcdkigmiaaDoor
open Go.RowKit Go.Sort

set_option maxHeartbeats 1000000 in
theorem good_int (p n : Int) (s : ByteArray) (w : World) :
    Calls Tryd.prog 22 #[.agg #[.int .i64 3, .int .i64 p, .int .i64 n, .string s]] w (Good ⟨3, p, n, s⟩ w) := by
  have HW := Lib.hid (boxB w ⟨3, p, n, s⟩)
  by_cases hu : s = uText
  · have t1 : (s.toList == [117]) = true := by rw [eq_u]; simpa using hu
    have HG := Lib.hid (show goodB ⟨3, p, n, s⟩ = decide (0 ≤ n ∧ n < 4294967296) by simp [goodB, goodNum, hu])
    clear hu
    go_enter Tryd.func22, Tryd.ntmps22
    go_wp2
    all_goals go_ret
    all_goals exact good_mk (by rw [HG.out, Bool.eq_iff_iff]; simp; omega) HW.out
  · have t1 : (s.toList == [117]) = false := by rw [eq_u]; simpa using hu
    by_cases he : s = ByteArray.empty
    · have t2 : s.toList.isEmpty = true := by rw [eq_e]; simpa using he
      have HG := Lib.hid (show goodB ⟨3, p, n, s⟩ = decide (-128 ≤ n ∧ n < 2147483648) by subst he; simp [goodB, goodNum, u_ne.symm])
      clear hu he
      go_enter Tryd.func22, Tryd.ntmps22
      go_wp2
      all_goals go_ret
      all_goals exact good_mk (by rw [HG.out, Bool.eq_iff_iff]; simp; omega) HW.out
    · have t2 : s.toList.isEmpty = false := by rw [eq_e]; simpa using he
      have HG := Lib.hid (show goodB ⟨3, p, n, s⟩ = false by simp [goodB, goodNum, hu, he])
      clear hu he
      go_enter Tryd.func22, Tryd.ntmps22
      go_wp2
      all_goals go_ret
      all_goals exact good_mk (by rw [HG.out]; try simp) HW.out

theorem good_ok (t : Tok) (w : World) (hs : t.text.size ≤ 1048576) :
    Calls Tryd.prog 22 #[.agg #[.int .i64 t.kind, .int .i64 t.place, .int .i64 t.num, .string t.text]] w (Good t w) := by
  obtain ⟨k, p, n, s⟩ := t
  by_cases h3 : k = 3
  · subst h3; exact good_int p n s w
  · by_cases h0 : n = 0
    · subst h0
      by_cases h1 : k = 1
      · subst h1; exact good_name p s w hs
      · by_cases h2 : k = 2
        · subst h2; exact good_key p s w
        · by_cases h4 : k = 4
          · subst h4; exact good_str p s w
          · by_cases h5 : k = 5
            · subst h5; exact good_mark p s w
            · exact good_none k p s w h1 h2 h3 h4 h5
    · exact good_no k p n s w h3 h0

def Worded (t : Tok) (w : World) (e : Ending) (w' : World) : Prop := e = .returned (.string ⟨(wordL t).toArray⟩) ∧ Below w.heap.size w w'
theorem worded_mk {t : Tok} {w w' : World} {x : ByteArray} (h : x.data.toList = wordL t) (hb : Below w.heap.size w w') : Worded t w (.returned (.string x)) w' := ⟨ret_bs h, hb⟩

set_option maxHeartbeats 1000000 in
theorem word_str (p n : Int) (s : ByteArray) (w : World) (hs : s.size ≤ 1048576) :
    Calls Tryd.prog 23 #[.agg #[.int .i64 4, .int .i64 p, .int .i64 n, .string s]] w (Worded ⟨4, p, n, s⟩ w) := by
  have HW := Lib.hid (boxB w ⟨4, p, n, s⟩)
  go_enter Tryd.func23, Tryd.ntmps23
  go_wp2_with (go_at_call 42; refine (refQuote_ok s _ hs).mono ?_; rintro e w1 ⟨rfl, hb⟩)
  go_ret
  exact worded_mk (by simp [wordL]) (HW.out.trans (hb.mono (by simp)))

set_option maxHeartbeats 1000000 in
theorem word_plain (k p n : Int) (s : ByteArray) (w : World) (h3 : k ≠ 3) (h4 : k ≠ 4) :
    Calls Tryd.prog 23 #[.agg #[.int .i64 k, .int .i64 p, .int .i64 n, .string s]] w (Worded ⟨k, p, n, s⟩ w) := by
  have HW := Lib.hid (boxB w ⟨k, p, n, s⟩)
  have HG := Lib.hid (show wordL ⟨k, p, n, s⟩ = s.data.toList by simp [wordL, h3, h4])
  have t1 : (k == 4) = false := by simpa using h4
  have t2 : (k != 3) = true := by simpa using h3
  clear h3 h4
  go_enter Tryd.func23, Tryd.ntmps23
  go_wp2
  go_ret
  exact worded_mk HG.out.symm HW.out

theorem refChar_int (n : Int) (c : UInt8) (w : World) (h : n = (c.toNat : Int)) :
    Calls Tryd.prog 43 #[.int .u8 n] w fun e w' => e = .returned (.string ⟨([39] ++ speltL c 39 ++ [39]).toArray⟩) ∧ Below w.heap.size w w' := by
  subst h; exact refChar_ok c w
theorem baseItoa_int (n : Int) (w : World) (h0 : 0 ≤ n) (hn : n ≤ 4294967296) :
    Calls Tryd.prog 44 #[.int .i64 n] w fun e w' => e = .returned (.string ⟨(Lib.itoa n).toArray⟩) ∧ Below w.heap.size w w' := by
  obtain ⟨k, rfl⟩ := Int.eq_ofNat_of_zero_le h0
  exact baseItoa_ok k w (by omega)

set_option maxHeartbeats 1000000 in
theorem word_neg (p n : Int) (s : ByteArray) (w : World) (hn : n < 0) (h128 : -128 ≤ n) :
    Calls Tryd.prog 23 #[.agg #[.int .i64 3, .int .i64 p, .int .i64 n, .string s]] w (Worded ⟨3, p, n, s⟩ w) := by
  have HW := Lib.hid (boxB w ⟨3, p, n, s⟩)
  obtain ⟨c, hc⟩ := byteOf n
  have hcn : n + 256 = (c.toNat : Int) := by rw [hc]; omega
  have HG := Lib.hid (show ([39] ++ speltL c 39 ++ [39]) = wordL ⟨3, p, n, s⟩ by simp only [wordL, numL, if_pos hn, char_of hn h128 hc]; rfl)
  have HC := Lib.hid hcn
  clear hc hcn
  go_enter Tryd.func23, Tryd.ntmps23
  go_wp2_with (go_at_call 43; refine (refChar_int (n + 256) c _ HC.out).mono ?_; rintro e w1 ⟨rfl, hb⟩)
  go_ret
  exact worded_mk HG.out (HW.out.trans (hb.mono (by simp)))

set_option maxHeartbeats 1000000 in
theorem word_pos (p n : Int) (s : ByteArray) (w : World) (hn : 0 ≤ n) (hm : n ≤ 4294967296) :
    Calls Tryd.prog 23 #[.agg #[.int .i64 3, .int .i64 p, .int .i64 n, .string s]] w (Worded ⟨3, p, n, s⟩ w) := by
  have HW := Lib.hid (boxB w ⟨3, p, n, s⟩)
  have hbd := itoa_bd n hn (by omega)
  obtain ⟨bu, be, b31, b32, hT⟩ := numT_cases n s
  have HWd := Lib.hid (word_num (p := p) hT hn)
  obtain ⟨h1, h2, h3, h4⟩ := hT
  clear h2 h4
  cases bu <;> cases b31
  all_goals
    go_enter Tryd.func23, Tryd.ntmps23
    go_wp2_with (go_at_call 44; refine (baseItoa_int n _ hn hm).mono ?_; rintro e w1 ⟨rfl, hb⟩)
    go_ret
    exact worded_mk (by rw [HWd.out]; simp) (HW.out.trans (hb.mono (by simp)))

theorem word_of (t : Tok) (w : World) (hg : goodB t = true) (hs : t.text.size ≤ 1048576) :
    Calls Tryd.prog 23 #[.agg #[.int .i64 t.kind, .int .i64 t.place, .int .i64 t.num, .string t.text]] w (Worded t w) := by
  obtain ⟨k, p, n, s⟩ := t
  by_cases h4 : k = 4
  · subst h4; exact word_str p n s w hs
  · by_cases h3 : k = 3
    · subst h3
      have hr : -128 ≤ n ∧ n < 4294967296 := by
        simp only [goodB, goodNum, if_true] at hg
        split at hg <;> simp at hg <;> omega
      rcases Int.lt_or_le n 0 with h | h
      · exact word_neg p n s w h hr.1
      · exact word_pos p n s w h (by omega)
    · exact word_plain k p n s w h3 h4

end Go.Proofs.YtncojfcdkigmiaaDoor
