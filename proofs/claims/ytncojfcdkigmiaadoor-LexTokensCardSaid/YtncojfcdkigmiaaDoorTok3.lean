/- A token that is a number, not negative: written. -/
import Derived.Test.YtncojfcdkigmiaaDoorTok2
namespace Go.Proofs.YtncojfcdkigmiaaDoor
open Go.RowKit Go.Sort

theorem itoa_bd (n : Int) (h0 : 0 ≤ n) (h1 : n ≤ 9223372036854775807) : (Lib.itoa n).length ≤ 20 := by
  obtain ⟨k, rfl⟩ := Int.eq_ofNat_of_zero_le h0
  have hI : Lib.itoa (k : Int) = Lib.decDigits k := by unfold Lib.itoa; rw [if_neg (by omega)]; simp
  rw [hI]
  have key : ∀ (d u : Nat), u < 10 ^ d → 1 ≤ d → (Lib.decDigits u).length ≤ d := by
    intro d
    induction d with
    | zero => intro u _ h; omega
    | succ d ih =>
      intro u hu _
      rw [Lib.decDigits]
      split
      · simp
      · rename_i h10
        have h1 : 1 ≤ d := by
          rcases Nat.eq_zero_or_pos d with rfl | h
          · simp at hu; omega
          · exact h
        have := ih (u / 10) (by rw [Nat.pow_succ] at hu; omega) h1
        simp only [List.length_append, List.length_cons, List.length_nil]
        omega
  exact key 20 k (by have : (10 : Nat) ^ 20 = 100000000000000000000 := by decide
                     omega) (by decide)

/-- what is asked of a number that is not negative, by five tests -/
structure NumT (n : Int) (s : ByteArray) (bu be b31 b32 : Bool) : Prop where
  u : (s.toList == [117]) = bu
  e : s.toList.isEmpty = be
  lo : decide (n < 2147483648) = b31
  hi : decide (n < 4294967296) = b32

theorem good_num {p n : Int} {s : ByteArray} {bu be b31 b32 : Bool} (h : NumT n s bu be b31 b32) (h0 : 0 ≤ n) : goodB ⟨3, p, n, s⟩ = (b32 && (bu || (be && b31))) := by
  obtain ⟨h1, h2, h3, h4⟩ := h
  rw [eq_u] at h1
  rw [eq_e] at h2
  subst h1 h2 h3 h4
  by_cases hu : s = uText
  · simp [goodB, goodNum, hu, h0]
  · simp [goodB, goodNum, hu]
    by_cases he : s = ByteArray.empty
    · simp only [he, decide_true, Bool.true_and]
      rw [Bool.eq_iff_iff]
      simp
      omega
    · simp [he]
theorem word_num {p n : Int} {s : ByteArray} {bu be b31 b32 : Bool} (h : NumT n s bu be b31 b32) (h0 : 0 ≤ n) : wordL ⟨3, p, n, s⟩ = if (bu && b31) = true then Lib.itoa n ++ [117] else Lib.itoa n := by
  obtain ⟨h1, h2, h3, h4⟩ := h
  rw [eq_u] at h1
  subst h1 h3
  simp only [wordL, numL]
  simp [show ¬ n < 0 by omega]

theorem numT_cases (n : Int) (s : ByteArray) : ∃ bu be b31 b32, NumT n s bu be b31 b32 := ⟨_, _, _, _, rfl, rfl, rfl, rfl⟩

theorem keep2 {w w1 : World} {a b c d : Value} {T : TypeId} (hb : Below (w.alloc (.cells #[a, b, c, d] T)).heap.size (w.alloc (.cells #[a, b, c, d] T)) w1) : w1.cell? ⟨w.heap.size, 2, none⟩ = some c := by rw [hb.cell (by simp)]; simp
theorem keep3 {w w1 : World} {a b c d : Value} {T : TypeId} (hb : Below (w.alloc (.cells #[a, b, c, d] T)).heap.size (w.alloc (.cells #[a, b, c, d] T)) w1) : w1.cell? ⟨w.heap.size, 3, none⟩ = some d := by rw [hb.cell (by simp)]; simp

set_option maxHeartbeats 4000000 in
theorem written_pos (p n : Int) (s : ByteArray) (w : World) (hP : PowAt w) (hg : 3 < w.heap.size) (hn : 0 ≤ n) (hm : n ≤ 9223372036854775807) :
    Calls Tryd.prog 20 #[.agg #[.int .i64 3, .int .i64 p, .int .i64 n, .string s]] w (Written ⟨3, p, n, s⟩ w) := by
  have HW := Lib.hid (boxB w ⟨3, p, n, s⟩)
  have HP := Lib.hid (hP.below HW.out hg)
  clear hP
  have hbd := itoa_bd n hn hm
  obtain ⟨bu, be, b31, b32, hT⟩ := numT_cases n s
  have HG := Lib.hid (good_num (p := p) hT hn)
  have HWd := Lib.hid (word_num (p := p) hT hn)
  obtain ⟨h1, h2, h3, h4⟩ := hT
  cases bu <;> cases be <;> cases b31 <;> cases b32
  all_goals
    go_enter Tryd.func20, Tryd.ntmps20
    go_wp2_with (go_at_call 36; refine (lexItoa_ok n _ HP.out hn hm).mono ?_; rintro e w1 ⟨rfl, hb⟩; have c2 := keep2 hb; have c3 := keep3 hb)
    go_quiet (fail)
    go_wp2
    go_ret2
    exact written_mk HG.out (fun _ => by rw [HWd.out]; simp) (blw_drewN (HW.out.trans (hb.mono (by simp))) _)

set_option maxHeartbeats 1000000 in
theorem written_no (k p n : Int) (s : ByteArray) (w : World) (hk : k ≠ 3) (hn : n ≠ 0) :
    Calls Tryd.prog 20 #[.agg #[.int .i64 k, .int .i64 p, .int .i64 n, .string s]] w (Written ⟨k, p, n, s⟩ w) := by
  have HW := Lib.hid (boxB w ⟨k, p, n, s⟩)
  have HG := Lib.hid (show goodB ⟨k, p, n, s⟩ = false by simp [goodB, hk, hn])
  have t1 : (k != 3) = true := by simpa using hk
  have t2 : (n != 0) = true := by simpa using hn
  clear hk hn
  go_enter Tryd.func20, Tryd.ntmps20
  go_wp2
  go_ret2
  exact written_mk HG.out (fun h => by cases h) HW.out

set_option maxHeartbeats 1000000 in
theorem written_none (k p : Int) (s : ByteArray) (w : World) (h1 : k ≠ 1) (h2 : k ≠ 2) (h3 : k ≠ 3) (h4 : k ≠ 4) (h5 : k ≠ 5) :
    Calls Tryd.prog 20 #[.agg #[.int .i64 k, .int .i64 p, .int .i64 0, .string s]] w (Written ⟨k, p, 0, s⟩ w) := by
  have HW := Lib.hid (boxB w ⟨k, p, 0, s⟩)
  have HG := Lib.hid (show goodB ⟨k, p, 0, s⟩ = false by simp [goodB, h1, h2, h3, h4, h5])
  have t1 : (k == 1) = false := by simpa using h1
  have t2 : (k == 2) = false := by simpa using h2
  have t3 : (k == 3) = false := by simpa using h3
  have t4 : (k == 4) = false := by simpa using h4
  have t5 : (k == 5) = false := by simpa using h5
  have t6 : (k != 3) = true := by simpa using h3
  clear h1 h2 h3 h4 h5
  go_enter Tryd.func20, Tryd.ntmps20
  go_wp2
  go_ret2
  exact written_mk HG.out (fun h => by cases h) HW.out

theorem written_ok (t : Tok) (w : World) (hK : KeysAt w) (hM : MarksAt w) (hP : PowAt w) (hg : 3 < w.heap.size) (hm : t.num ≤ 9223372036854775807) (hs : t.text.size ≤ 1048576) :
    Calls Tryd.prog 20 #[.agg #[.int .i64 t.kind, .int .i64 t.place, .int .i64 t.num, .string t.text]] w (Written t w) := by
  obtain ⟨k, p, n, s⟩ := t
  by_cases h3 : k = 3
  · subst h3
    rcases Int.lt_or_le n 0 with h | h
    · exact written_neg p n s w h
    · exact written_pos p n s w hP hg h hm
  · by_cases h0 : n = 0
    · subst h0
      by_cases h1 : k = 1
      · subst h1; exact written_name p s w hK hs
      · by_cases h2 : k = 2
        · subst h2; exact written_key p s w hK
        · by_cases h4 : k = 4
          · subst h4; exact written_str p s w hs
          · by_cases h5 : k = 5
            · subst h5; exact written_mark p s w hM
            · exact written_none k p s w h1 h2 h3 h4 h5
    · exact written_no k p n s w h3 h0

end Go.Proofs.YtncojfcdkigmiaaDoor
