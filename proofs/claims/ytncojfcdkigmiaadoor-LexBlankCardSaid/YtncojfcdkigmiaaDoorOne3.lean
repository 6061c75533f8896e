/- One token that is a mark; then all: the program's reader. -/
import Derived.Test.YtncojfcdkigmiaaDoorOne2
namespace Go.Proofs.YtncojfcdkigmiaaDoor
open Go.RowKit

theorem oneL_mark {s : ByteArray} {k : Nat} (hk : k < s.size) (h1 : letB s[k] = false) (h2 : digB s[k] = false) (h3 : s[k].toNat ≠ 39) (h4 : s[k].toNat ≠ 34) : oneL (sfx s k) = markE (sfx s k) := by
  rw [sfx_cons s k hk, oneL, if_neg (by simp [h1]), if_neg (by simp [h2]), if_neg h3, if_neg h4]

set_option maxHeartbeats 4000000 in
set_option maxRecDepth 100000 in
theorem one_mark' (b k : Nat) (cs : Array Value) (T : TypeId) (s : ByteArray) (w : World) (h : TextAt w b cs T s k) (hk : k < s.size) (hs : s.size ≤ 1048576) (hE : Env w) (hA : Apart b) (h1 : letB s[k] = false) (h2 : digB s[k] = false) (h3 : s[k].toNat ≠ 39) (h4 : s[k].toNat ≠ 34) :
    Calls Tryd.prog 26 #[.pointer (some ⟨b, 0, none⟩)] w (OneAt w b cs T s k (oneL (sfx s k))) := by
  have hbw := h.lt
  have H := Lib.hid (h.below ((Below.refl w.heap.size w).alloc (Nat.le_refl _) (.cells #[.int .i64 0, .int .i64 0, .int .i64 0, .string ⟨#[]⟩] 34)))
  have HE := Lib.hid (hE.below ((Below.refl w.heap.size w).alloc (Nat.le_refl _) (.cells #[.int .i64 0, .int .i64 0, .int .i64 0, .string ⟨#[]⟩] 34)))
  have c0 := h.c0
  have c1 := h.c1
  have f1 := h.f1 1
  obtain ⟨r, er⟩ : ∃ r, r = oneL (sfx s k) := ⟨_, rfl⟩
  rw [← er]
  have ER := Lib.hid (er.trans (oneL_mark hk h1 h2 h3 h4))
  have HL := Lib.hid h1
  have HD := Lib.hid h2
  have t0 : ((s[k].toNat : Int) == 39) = false := by simp; omega
  have t1 : ((s[k].toNat : Int) == 34) = false := by simp; omega
  have HX : Hid (∃ x, markX (sfx s k) = x ∧ ((x = -1 ∧ r = .bad 70) ∨ ∃ (j : Nat) (m : ByteArray), x = j ∧ j < 45 ∧ markT.getD j ByteArray.empty = m ∧ r = .good ⟨5, 0, 0, m⟩ m.size ∧ m.size ≤ 3)) := by
    refine ⟨_, rfl, ?_⟩
    have hf := firstI_find (p := fun m : ByteArray => Lib.hasPrefix (sfx s k) m.data.toList) (l := markT)
    unfold markX markI
    rcases hi : firstI (fun m : ByteArray => Lib.hasPrefix (sfx s k) m.data.toList) markT with _ | j
    · rw [hi] at hf
      exact .inl ⟨rfl, by rw [ER.out, markE]; unfold Lib.hasPrefix at hf; rw [hf]⟩
    · rw [hi] at hf
      obtain ⟨m, e1, e2⟩ := hf
      have hlt := (List.getElem?_eq_some_iff.1 e1).1
      refine .inr ⟨j, m, rfl, by rw [markT_length] at hlt; exact hlt, by rw [getD_lt _ _ hlt, (List.getElem?_eq_some_iff.1 e1).2], by rw [ER.out, markE]; unfold Lib.hasPrefix at e2; rw [e2], ?_⟩
      have key : ∀ x ∈ markT, x.size ≤ 3 := by decide
      exact key m (List.mem_of_getElem? e1)
  obtain ⟨x, hx, hc⟩ := HX.out
  have HX2 := Lib.hid hx
  have HA := Lib.hid hA
  clear er h1 h2 h3 h4 h hE hA ER HX hx
  rcases hc with ⟨rfl, hr⟩ | ⟨j, m, rfl, hj, hm, hr, hm3⟩
  · have hfin := Lib.hid hr
    clear hr
    go_enter Tryd.func26, Tryd.ntmps26
    go_wp2_with fail
    go_quiet (fail)
    go_wp2_with (first
      | (go_at_call 29; refine (lexLetter_is false _ _ HL.out).mono ?_; rintro e w' ⟨rfl, rfl⟩)
      | (go_at_call 48; refine (lexDigit_is false _ _ HD.out).mono ?_; rintro e w' ⟨rfl, rfl⟩))
    go_quiet ((go_at_call 51; exact quiet_sum2 (indexFunc_is (-1) b k cs T s _ H.out.drew (by omega) (HE.out.marks.drewN _) HX2.out)))
    go_wp2
    exact bodyPost_ret (v := .tuple #[.agg #[.int .i64 0, .int .i64 0, .int .i64 0, .string ⟨#[]⟩], .int .i64 70]) (by simp [results, Tryd.results26, go_sem]) rfl (one_no hfin.out (grown_four (grown_drewN (grown_below (grown_refl _ _) ((Below.refl _ _).alloc (Nat.le_refl _) _)) _) (Nat.le_refl _) _ _ _ _))
  · have hfin := Lib.hid hr
    have hc : (w.alloc (.cells #[.int .i64 0, .int .i64 0, .int .i64 0, .string ⟨#[]⟩] 34)).cell? ⟨1, j, none⟩ = some (Value.string m) := by
      have := HE.out.marks j (by rw [markT_length]; exact hj)
      rw [hm, Nat.zero_add] at this; exact this
    have HC := Lib.hid hc
    clear hr hm hc
    go_enter Tryd.func26, Tryd.ntmps26
    go_wp2_with fail
    go_quiet (fail)
    go_wp2_with (first
      | (go_at_call 29; refine (lexLetter_is false _ _ HL.out).mono ?_; rintro e w' ⟨rfl, rfl⟩)
      | (go_at_call 48; refine (lexDigit_is false _ _ HD.out).mono ?_; rintro e w' ⟨rfl, rfl⟩))
    go_quiet ((go_at_call 51; exact quiet_sum2 (indexFunc_is j b k cs T s _ H.out.drew (by omega) (HE.out.marks.drewN _) HX2.out)))
    have hcm := HC.out
    go_wp2_with fail
    go_region
    generalize hwx : World.setCell _ _ _ = wx
    have hT : TextAt wx b cs T s (k + m.size) := by rw [← hwx]; exact H.out.drew.next (k + m.size)
    have hG : (w.alloc (.cells #[.int .i64 0, .int .i64 0, .int .i64 0, .string ⟨#[]⟩] 34)).grownBy wx (some b) := by rw [← hwx]; exact grown_set (grown_drewN (grown_refl _ _) _) _ rfl _
    have HT := Lib.hid hT
    have HG := Lib.hid hG
    have hcx : wx.cell? ⟨1, j, none⟩ = some (.string m) := cell_grown hcm hG (by have := HA.out.2.1; omega)
    obtain ⟨⟨a0, a1, a2, a3⟩, fa⟩ := tok_block (res_block hG hbw)
    have fa0 := fa 0
    have fa1 := fa 1
    have fa2 := fa 2
    have fa3 := fa 3
    clear fa hwx hT hG c0 c1 f1 hcm
    go_wp2
    exact bodyPost_ret (v := .tuple #[.agg #[.int .i64 5, .int .i64 0, .int .i64 0, .string m], .int .i64 0]) (by simp [results, Tryd.results26, go_sem, a0, a1, a2, a3]) rfl (one_yes ⟨5, 0, 0, m⟩ hfin.out ⟨rfl, rfl, rfl, rfl⟩ (text_four HT.out (by omega) _ _ _ _) (grown_four (grown_alloc HG.out) (Nat.le_refl _) _ _ _ _))

/-- one token -/
theorem one_ok (b k : Nat) (cs : Array Value) (T : TypeId) (s : ByteArray) (w : World) (h : TextAt w b cs T s k) (hk : k < s.size) (hs : s.size ≤ 1048576) (hE : Env w) (hA : Apart b) :
    Calls Tryd.prog 26 #[.pointer (some ⟨b, 0, none⟩)] w (OneAt w b cs T s k (oneL (sfx s k))) := by
  rcases h1 : letB s[k] with _ | _
  · rcases h2 : digB s[k] with _ | _
    · by_cases h3 : s[k].toNat = 39
      · exact one_char' b k cs T s w h hk hs h3
      · by_cases h4 : s[k].toNat = 34
        · exact one_str' b k cs T s w h hk hs h4
        · exact one_mark' b k cs T s w h hk hs hE hA h1 h2 h3 h4
    · exact one_digit b k cs T s w h hk hs hE hA h2
  · exact one_letter b k cs T s w h hk hs hE hA h1

end Go.Proofs.YtncojfcdkigmiaaDoor
