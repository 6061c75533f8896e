/- One token: the program's reader. · One token that is a number, or stands in quotes: the program's reader. · One token that is a mark; then all: the program's reader. -/
import Derived.Test.YtncojfcdkigmiaaDoorMark
import Derived.Test.YtncojfcdkigmiaaDoorRuns
namespace Go.Proofs.YtncojfcdkigmiaaDoor
open Go.RowKit

theorem cell_grown {w w' : World} {g b o : Nat} {v : Value} (h : w.cell? ⟨g, o, none⟩ = some v) (hg : w.grownBy w' (some b)) (hb : g ≠ b) : w'.cell? ⟨g, o, none⟩ = some v := by
  have hlt := World.block_lt_of_cell? w _ h
  unfold World.cell? at h ⊢
  rw [hg.block _ hlt (by simpa using hb)]; exact h

/-- the tables and variables that the reader leans on -/
structure Env (w : World) : Prop where
  keys : KeysAt w
  marks : MarksAt w
  errs : ErrsAt w
  maxl : MaxLenAt w
theorem Env.below {w w' : World} (h : Env w) (hb : Below w.heap.size w w') : Env w' := ⟨h.keys.below hb, h.marks.below hb, h.errs.below hb, h.maxl.below hb⟩
theorem Env.drewN {w : World} (h : Env w) (n : Nat) : Env (w.drewN n) := ⟨h.keys, h.marks, h.errs, h.maxl⟩
/-- no such table stands in block b -/
def Apart (b : Nat) : Prop := 0 < b ∧ 1 < b ∧ 2 < b ∧ 4 < b ∧ 5 < b
theorem Env.apart {w : World} (h : Env w) {b : Nat} (hb : w.heap.size ≤ b) : Apart b := by
  obtain ⟨⟨a, h1, _⟩, c, h3, _⟩ := h.errs
  obtain ⟨m, h5⟩ := h.maxl
  have e1 := World.block_lt_of_cell? w _ (h.keys 0 (by decide))
  have e2 := World.block_lt_of_cell? w _ (h.marks 0 (by decide))
  have e3 := World.block_lt_of_cell? w _ h1
  have e4 := World.block_lt_of_cell? w _ h3
  have e5 := World.block_lt_of_cell? w _ h5
  simp only at e1 e2 e3 e4 e5
  exact ⟨by omega, by omega, by omega, by omega, by omega⟩
theorem Env.grown {w w' : World} {b : Nat} (h : Env w) (hg : w.grownBy w' (some b)) (hb : Apart b) : Env w' := by
  obtain ⟨b1, b2, b3, b4, b5⟩ := hb
  obtain ⟨⟨x, h1, h2⟩, y, h3, h4⟩ := h.errs
  obtain ⟨m, h5⟩ := h.maxl
  exact ⟨fun j hj => cell_grown (h.keys j hj) hg (by omega), fun j hj => cell_grown (h.marks j hj) hg (by omega), ⟨⟨x, cell_grown h1 hg (by omega), h2⟩, y, cell_grown h3 hg (by omega), h4⟩, m, cell_grown h5 hg (by omega)⟩

/-- what the program's reader tells of a token -/
def OneAt (w : World) (b : Nat) (cs : Array Value) (T : TypeId) (s : ByteArray) (k : Nat) (r : OEnd) (e : Ending) (w' : World) : Prop :=
  (match r with
    | .good t n => e = .returned (.tuple #[.agg #[.int .i64 t.kind, .int .i64 t.place, .int .i64 t.num, .string t.text], .int .i64 0]) ∧ TextAt w' b cs T s (k + n)
    | .bad x => ∃ t : Tok, e = .returned (.tuple #[.agg #[.int .i64 t.kind, .int .i64 t.place, .int .i64 t.num, .string t.text], .int .i64 x])) ∧ w.grownBy w' (some b)
theorem one_yes {w w' : World} {b k n : Nat} {cs : Array Value} {T : TypeId} {s x : ByteArray} {r : OEnd} {a c d : Int} (t : Tok) (hr : r = .good t n) (ht : a = t.kind ∧ c = t.place ∧ d = t.num ∧ x = t.text) (h : TextAt w' b cs T s (k + n)) (hg : w.grownBy w' (some b)) :
    OneAt w b cs T s k r (.returned (.tuple #[.agg #[.int .i64 a, .int .i64 c, .int .i64 d, .string x], .int .i64 0])) w' := by
  obtain ⟨rfl, rfl, rfl, rfl⟩ := ht
  subst hr; exact ⟨⟨rfl, h⟩, hg⟩
theorem one_no {w w' : World} {b k : Nat} {cs : Array Value} {T : TypeId} {s x : ByteArray} {r : OEnd} {a c d y : Int} (hr : r = .bad y) (hg : w.grownBy w' (some b)) :
    OneAt w b cs T s k r (.returned (.tuple #[.agg #[.int .i64 a, .int .i64 c, .int .i64 d, .string x], .int .i64 y])) w' := by
  subst hr; exact ⟨⟨⟨a, c, d, x⟩, rfl⟩, hg⟩

/-- the world in which the result has its row -/
theorem grown_alloc {w w' : World} {b : Nat} {o : Obj} (h : (w.alloc o).grownBy w' (some b)) : w.grownBy w' (some b) :=
  grown_trans (grown_below (grown_refl _ _) ((Below.refl _ _).alloc (Nat.le_refl _) o)) h
theorem res_block {w w' : World} {b : Nat} {o : Obj} (h : (w.alloc o).grownBy w' (some b)) (hb : b < w.heap.size) : w'.heap[w.heap.size]? = some o := by
  rw [h.block _ (by simp) (by simp; omega)]; exact heap_alloc_new w o
theorem grown_four {w w' : World} {b n : Nat} (h : w.grownBy w' (some b)) (hn : w.heap.size ≤ n) (v0 v1 v2 v3 : Value) : w.grownBy ((((w'.setCell ⟨n, 0, none⟩ v0).setCell ⟨n, 1, none⟩ v1).setCell ⟨n, 2, none⟩ v2).setCell ⟨n, 3, none⟩ v3) (some b) := by
  have key : ∀ {x : World} (a : Addr) (v : Value), a.block = n → w.grownBy x (some b) → w.grownBy (x.setCell a v) (some b) := fun a v ha hx =>
    ⟨hx.os, hx.tape, hx.output, by simpa [World.setCell] using hx.size, fun k hk hne => by rw [Below.heap_setCell _ _ _ _ (by rw [ha]; omega), hx.block k hk hne]⟩
  exact key _ _ rfl (key _ _ rfl (key _ _ rfl (key _ _ rfl h)))
theorem text_four {w b cs T s k} {n : Nat} (h : TextAt w b cs T s k) (hn : b ≠ n) (v0 v1 v2 v3 : Value) : TextAt ((((w.setCell ⟨n, 0, none⟩ v0).setCell ⟨n, 1, none⟩ v1).setCell ⟨n, 2, none⟩ v2).setCell ⟨n, 3, none⟩ v3) b cs T s k := by
  refine ⟨?_, h.text, h.two⟩
  rw [Below.heap_setCell _ _ _ _ (by simpa using hn), Below.heap_setCell _ _ _ _ (by simpa using hn), Below.heap_setCell _ _ _ _ (by simpa using hn), Below.heap_setCell _ _ _ _ (by simpa using hn)]
  exact h.blk

theorem sfx_take_word (s : ByteArray) (k : Nat) : (s.extract k (k + wlen (s.data.toList.drop k))).data.toList = (sfx s k).take (wlen (sfx s k)) := extract_take s k _
theorem strOf_word (s : ByteArray) (k : Nat) : strOf ((sfx s k).take (wlen (sfx s k))) = s.extract k (k + wlen (s.data.toList.drop k)) := toList_eq (by rw [sfx_take_word]; rfl)
theorem oneL_word {s : ByteArray} {k : Nat} (hk : k < s.size) (h : letB s[k] = true) : oneL (sfx s k) = wordE (sfx s k) := by
  rw [sfx_cons s k hk, oneL, if_pos h]

set_option maxHeartbeats 4000000 in
set_option maxRecDepth 100000 in
theorem one_letter (b k : Nat) (cs : Array Value) (T : TypeId) (s : ByteArray) (w : World) (h : TextAt w b cs T s k) (hk : k < s.size) (hs : s.size ≤ 1048576) (hE : Env w) (hA : Apart b) (hl : letB s[k] = true) :
    Calls Tryd.prog 26 #[.pointer (some ⟨b, 0, none⟩)] w (OneAt w b cs T s k (oneL (sfx s k))) := by
  have hbw := h.lt
  have H := Lib.hid (h.below ((Below.refl w.heap.size w).alloc (Nat.le_refl _) (.cells #[.int .i64 0, .int .i64 0, .int .i64 0, .string ⟨#[]⟩] 34)))
  have HE := Lib.hid (hE.below ((Below.refl w.heap.size w).alloc (Nat.le_refl _) (.cells #[.int .i64 0, .int .i64 0, .int .i64 0, .string ⟨#[]⟩] 34)))
  have HA := Lib.hid hA
  have c0 := h.c0
  have c1 := h.c1
  obtain ⟨r, er⟩ : ∃ r, r = oneL (sfx s k) := ⟨_, rfl⟩
  rw [← er]
  have ER := Lib.hid (er.trans (oneL_word hk hl))
  have HL := Lib.hid hl
  clear er hl hA hE h
  go_enter Tryd.func26, Tryd.ntmps26
  go_wp2_with fail
  go_quiet (fail)
  go_wp2_with (first
    | (go_at_call 29; refine (lexLetter_is true _ _ HL.out).mono ?_; rintro e w' ⟨rfl, rfl⟩)
    | (go_at_call 30; refine (word_ok b k cs T s _ H.out.drew (by omega) hs).mono ?_))
  rintro e w1 ⟨rfl, hT1, hg1⟩
  have HT1 := Lib.hid hT1
  have HG1 := Lib.hid (grown_trans (grown_drewN (grown_refl _ _) _) hg1)
  clear hT1 hg1
  have HE1 := Lib.hid (HE.out.grown HG1.out HA.out)
  have HW := Lib.hid (strOf_word s k)
  obtain ⟨⟨a0, a1, a2, a3⟩, fa⟩ := tok_block (res_block HG1.out hbw)
  have fa0 := fa 0
  have fa1 := fa 1
  have fa2 := fa 2
  have fa3 := fa 3
  clear fa c0 c1
  have HSz := Lib.hid (show (s.extract k (k + wlen (s.data.toList.drop k))).size = wlen (sfx s k) by
    have := (word_end (s := s) (a := k) (by omega)).1
    rw [ByteArray.size_extract]; show _ = wlen (s.data.toList.drop k); omega)
  generalize s.extract k (k + wlen (s.data.toList.drop k)) = x at HW HSz ⊢
  rcases hkey : isKeyB x with _ | _
  · have HKey := Lib.hid hkey
    clear hkey
    by_cases h31 : 31 < x.size
    · have hfin := Lib.hid (show r = .bad 3 by rw [ER.out, wordE, HW.out, HKey.out, if_neg (by simp), if_pos (by rw [← HSz.out]; exact h31)])
      go_wp2_with (go_at_call 17; refine (lexIsKey_ok x _ HE1.out.keys).mono ?_; rintro e w' ⟨rfl, rfl⟩; rw [HKey.out])
      exact bodyPost_ret (v := .tuple #[.agg #[.int .i64 0, .int .i64 0, .int .i64 0, .string ⟨#[]⟩], .int .i64 3]) (by simp [results, Tryd.results26, go_sem, a0, a1, a2, a3]) rfl (one_no hfin.out (grown_four (grown_alloc HG1.out) (Nat.le_refl _) _ _ _ _))
    · have hfin := Lib.hid (show r = .good ⟨1, 0, 0, x⟩ (wlen (sfx s k)) by rw [ER.out, wordE, HW.out, HKey.out, if_neg (by simp), if_neg (by rw [← HSz.out]; exact h31)])
      go_wp2_with (go_at_call 17; refine (lexIsKey_ok x _ HE1.out.keys).mono ?_; rintro e w' ⟨rfl, rfl⟩; rw [HKey.out])
      exact bodyPost_ret (v := .tuple #[.agg #[.int .i64 1, .int .i64 0, .int .i64 0, .string x], .int .i64 0]) (by simp [results, Tryd.results26, go_sem, a0, a1, a2, a3]) rfl (one_yes ⟨1, 0, 0, x⟩ hfin.out ⟨rfl, rfl, rfl, rfl⟩ (text_four HT1.out (by omega) _ _ _ _) (grown_four (grown_alloc HG1.out) (Nat.le_refl _) _ _ _ _))
  · have HKey := Lib.hid hkey
    clear hkey
    have hfin := Lib.hid (show r = .good ⟨2, 0, 0, x⟩ (wlen (sfx s k)) by rw [ER.out, wordE, HW.out, HKey.out, if_pos rfl])
    go_wp2_with (go_at_call 17; refine (lexIsKey_ok x _ HE1.out.keys).mono ?_; rintro e w' ⟨rfl, rfl⟩; rw [HKey.out])
    exact bodyPost_ret (v := .tuple #[.agg #[.int .i64 2, .int .i64 0, .int .i64 0, .string x], .int .i64 0]) (by simp [results, Tryd.results26, go_sem, a0, a1, a2, a3]) rfl (one_yes ⟨2, 0, 0, x⟩ hfin.out ⟨rfl, rfl, rfl, rfl⟩ (text_four HT1.out (by omega) _ _ _ _) (grown_four (grown_alloc HG1.out) (Nat.le_refl _) _ _ _ _))

end Go.Proofs.YtncojfcdkigmiaaDoor
namespace Go.Proofs.YtncojfcdkigmiaaDoor
open Go.RowKit

theorem oneL_digit {s : ByteArray} {k : Nat} (hk : k < s.size) (hl : letB s[k] = false) (h : digB s[k] = true) : oneL (sfx s k) = numE (sfx s k) := by
  rw [sfx_cons s k hk, oneL, if_neg (by simp [hl]), if_pos h]
theorem oneL_char {s : ByteArray} {k : Nat} (hk : k < s.size) (h : s[k].toNat = 39) : oneL (sfx s k) = charE (quotedL s[k] (sfx s (k + 1))) := by
  have e : s[k] = 39 := UInt8.toNat_inj.1 h
  rw [sfx_cons s k hk, oneL, e, if_neg (by decide), if_neg (by decide), if_pos (by decide)]
theorem oneL_str {s : ByteArray} {k : Nat} (hk : k < s.size) (h : s[k].toNat = 34) : oneL (sfx s k) = strE (quotedL s[k] (sfx s (k + 1))) := by
  have e : s[k] = 34 := UInt8.toNat_inj.1 h
  rw [sfx_cons s k hk, oneL, e, if_neg (by decide), if_neg (by decide), if_neg (by decide), if_pos (by decide)]
theorem let_no {c : UInt8} (h : digB c = true ∨ c.toNat = 39 ∨ c.toNat = 34) : letB c = false := by
  unfold letB; rw [decide_eq_false_iff_not]
  rcases h with h | h | h
  · have := of_decide_eq_true h; omega
  · omega
  · omega

set_option maxHeartbeats 4000000 in
set_option maxRecDepth 100000 in
theorem one_digit (b k : Nat) (cs : Array Value) (T : TypeId) (s : ByteArray) (w : World) (h : TextAt w b cs T s k) (hk : k < s.size) (hs : s.size ≤ 1048576) (hE : Env w) (hA : Apart b) (hl : digB s[k] = true) :
    Calls Tryd.prog 26 #[.pointer (some ⟨b, 0, none⟩)] w (OneAt w b cs T s k (oneL (sfx s k))) := by
  have hbw := h.lt
  have H := Lib.hid (h.below ((Below.refl w.heap.size w).alloc (Nat.le_refl _) (.cells #[.int .i64 0, .int .i64 0, .int .i64 0, .string ⟨#[]⟩] 34)))
  have HE := Lib.hid (hE.below ((Below.refl w.heap.size w).alloc (Nat.le_refl _) (.cells #[.int .i64 0, .int .i64 0, .int .i64 0, .string ⟨#[]⟩] 34)))
  have HA := Lib.hid hA
  have c0 := h.c0
  have c1 := h.c1
  obtain ⟨r, er⟩ : ∃ r, r = oneL (sfx s k) := ⟨_, rfl⟩
  rw [← er]
  have ER := Lib.hid (er.trans (oneL_digit hk (let_no (.inl hl)) hl))
  have HL := Lib.hid (let_no (.inl hl))
  have HD := Lib.hid hl
  have HSz := Lib.hid (show (s.extract k (k + wlen (s.data.toList.drop k))).size = (wlen (sfx s k) - 1) + 1 ∧ wlen (sfx s k) - 1 < (s.extract k (k + wlen (s.data.toList.drop k))).size ∧ (s.extract k (k + wlen (s.data.toList.drop k))).size ≤ 1048576 by
    have h1 := (word_end (s := s) (a := k) (by omega)).1
    have h2 : 0 < wlen (sfx s k) := by rw [sfx_cons s k hk]; exact wlen_pos (by simp [wordB, hl])
    have h3 : wlen (sfx s k) = wlen (s.data.toList.drop k) := rfl
    rw [ByteArray.size_extract]; omega)
  clear er hl hA hE h
  go_enter Tryd.func26, Tryd.ntmps26
  go_wp2_with fail
  go_quiet (fail)
  go_wp2_with (first
    | (go_at_call 29; refine (lexLetter_is false _ _ HL.out).mono ?_; rintro e w' ⟨rfl, rfl⟩)
    | (go_at_call 48; refine (lexDigit_is true _ _ HD.out).mono ?_; rintro e w' ⟨rfl, rfl⟩)
    | (go_at_call 30; refine (word_ok b k cs T s _ H.out.drew (by omega) hs).mono ?_))
  rintro e w1 ⟨rfl, hT1, hg1⟩
  have HT1 := Lib.hid hT1
  have HG1 := Lib.hid (grown_trans (grown_drewN (grown_refl _ _) _) hg1)
  clear hT1 hg1
  have HE1 := Lib.hid (HE.out.grown HG1.out HA.out)
  have HW := Lib.hid (sfx_take_word s k)
  have HB := Lib.hid (res_block HG1.out hbw)
  clear c0 c1
  generalize s.extract k (k + wlen (s.data.toList.drop k)) = x at HW HSz ⊢
  have HR := Lib.hid (show r = match numW x.data.toList with
    | none => .bad 73
    | some (n, u) => .good ⟨3, 0, n, uOf u⟩ (wlen (sfx s k)) by rw [ER.out, numE, HW.out]; rfl)
  go_wp2_with (go_at_call 49; refine (number_ok x (wlen (sfx s k) - 1) _ (Lib.hid HSz.out.1) HSz.out.2.1 HSz.out.2.2 HE1.out.errs).mono ?_)
  rintro e w2 ⟨he, hb2⟩
  have HT2 := Lib.hid (HT1.out.below hb2)
  have HG2 := Lib.hid (grown_below HG1.out hb2)
  have hw1 : w.heap.size < w1.heap.size := lt_of_heap HB.out
  have hb2s := hb2.size
  obtain ⟨⟨a0, a1, a2, a3⟩, fa⟩ := tok_block ((hb2.block _ hw1).trans HB.out)
  have fa0 := fa 0
  have fa1 := fa 1
  have fa2 := fa 2
  have fa3 := fa 3
  have hlt2 : w.heap.size < w2.heap.size := by omega
  clear fa hb2
  rcases hn : numW x.data.toList with _ | ⟨n, u⟩
  · rw [hn] at he
    have hfin := Lib.hid (show r = .bad 73 by rw [HR.out, hn])
    obtain ⟨t, rfl⟩ := he
    clear hn
    go_wp2
    exact bodyPost_ret (v := .tuple #[.agg #[.int .i64 0, .int .i64 0, .int .i64 0, .string ⟨#[]⟩], .int .i64 73]) (by simp [results, Tryd.results26, go_sem, a0, a1, a2, a3, hlt2]) rfl (one_no hfin.out (grown_below (grown_four (grown_alloc HG2.out) (Nat.le_refl _) _ _ _ _) ((Below.refl _ _).alloc (Nat.le_refl _) _)))
  · rw [hn] at he
    have hfin := Lib.hid (show r = .good ⟨3, 0, n, uOf u⟩ (wlen (sfx s k)) by rw [HR.out, hn])
    subst he
    clear hn
    go_wp2
    exact bodyPost_ret (v := .tuple #[.agg #[.int .i64 3, .int .i64 0, .int .i64 n, .string (uOf u)], .int .i64 0]) (by simp [results, Tryd.results26, go_sem, a0, a1, a2, a3, hlt2]) rfl (one_yes ⟨3, 0, n, uOf u⟩ hfin.out ⟨rfl, rfl, rfl, rfl⟩ ((text_four HT2.out (by omega) _ _ _ _).below ((Below.refl _ _).alloc (Nat.le_refl _) _)) (grown_below (grown_four (grown_alloc HG2.out) (Nat.le_refl _) _ _ _ _) ((Below.refl _ _).alloc (Nat.le_refl _) _)))

theorem i8_sgn : ∀ c : Fin 256, IntKind.i8.wrap (c.val : Int) = if c.val < 128 then (c.val : Int) else (c.val : Int) - 256 := by decide +kernel
theorem sgn_wrap (c : UInt8) : IntKind.i8.wrap (c.toNat : Int) = sgn c := i8_sgn ⟨c.toNat, c.toNat_lt⟩

set_option maxHeartbeats 4000000 in
set_option maxRecDepth 100000 in
theorem one_char' (b k : Nat) (cs : Array Value) (T : TypeId) (s : ByteArray) (w : World) (h : TextAt w b cs T s k) (hk : k < s.size) (hs : s.size ≤ 1048576) (hl : s[k].toNat = 39) :
    Calls Tryd.prog 26 #[.pointer (some ⟨b, 0, none⟩)] w (OneAt w b cs T s k (oneL (sfx s k))) := by
  have hbw := h.lt
  have H := Lib.hid (h.below ((Below.refl w.heap.size w).alloc (Nat.le_refl _) (.cells #[.int .i64 0, .int .i64 0, .int .i64 0, .string ⟨#[]⟩] 34)))
  have c0 := h.c0
  have c1 := h.c1
  obtain ⟨r, er⟩ : ∃ r, r = oneL (sfx s k) := ⟨_, rfl⟩
  rw [← er]
  have ER := Lib.hid (er.trans (oneL_char hk hl))
  have HL := Lib.hid (let_no (.inr (.inl hl)))
  have HD := Lib.hid (show digB s[k] = false by unfold digB; rw [decide_eq_false_iff_not]; omega)
  have t1 : ((s[k].toNat : Int) == 39) = true := by simp [hl]
  clear er hl h
  go_enter Tryd.func26, Tryd.ntmps26
  go_wp2_with fail
  go_quiet (fail)
  go_wp2_with (first
    | (go_at_call 29; refine (lexLetter_is false _ _ HL.out).mono ?_; rintro e w' ⟨rfl, rfl⟩)
    | (go_at_call 48; refine (lexDigit_is false _ _ HD.out).mono ?_; rintro e w' ⟨rfl, rfl⟩)
    | (go_at_call 50; refine (quoted_ok b k cs T s _ H.out.drew hk hs).mono ?_))
  rintro e w1 ⟨he, hg1⟩
  have HG1 := Lib.hid (grown_trans (grown_drewN (grown_refl _ _) _) hg1)
  clear hg1 c0 c1
  obtain ⟨⟨a0, a1, a2, a3⟩, fa⟩ := tok_block (res_block HG1.out hbw)
  have fa0 := fa 0
  have fa1 := fa 1
  have fa2 := fa 2
  have fa3 := fa 3
  clear fa
  rcases hq : quotedL s[k] (sfx s (k + 1)) with ⟨l, n⟩ | x
  · rw [hq] at he
    obtain ⟨v, rfl, ho, hT⟩ := he
    have HT := Lib.hid hT
    clear hT
    match l, hq, ho with
    | [], hq, ho =>
      have hfin := Lib.hid (show r = .bad 72 by rw [ER.out, hq]; rfl)
      have hv : ∃ a cap, v = .slice a 0 cap := by
        rcases ho.2 with ⟨rfl, _⟩ | ⟨g, cap, cur, rfl, _⟩
        · exact ⟨_, _, rfl⟩
        · exact ⟨_, _, rfl⟩
      obtain ⟨a, cap, rfl⟩ := hv
      clear ho hq ER
      go_wp2
      exact bodyPost_ret (v := .tuple #[.agg #[.int .i64 0, .int .i64 0, .int .i64 0, .string ⟨#[]⟩], .int .i64 72]) (by simp [results, Tryd.results26, go_sem, a0, a1, a2, a3]) rfl (one_no hfin.out (grown_four (grown_alloc HG1.out) (Nat.le_refl _) _ _ _ _))
    | [c], hq, ho =>
      have hfin := Lib.hid (show r = .good ⟨3, 0, sgn c, ⟨#[]⟩⟩ (n + 1) by rw [ER.out, hq]; rfl)
      have hv : ∃ g cap, v = .slice (some ⟨g, 0, none⟩) 1 cap ∧ w1.cell? ⟨g, 0, none⟩ = some (.int .u8 (c.toNat : Int)) := by
        rcases ho.2 with ⟨rfl, h0⟩ | ⟨g, cap, cur, rfl, _⟩
        · simp at h0
        · refine ⟨g, cap, rfl, ?_⟩
          have := ho.cells (g := g) rfl 0 (.int .u8 (c.toNat : Int)) rfl
          rwa [addr_add] at this
      obtain ⟨g, cap, rfl, cg⟩ := hv
      have hw := sgn_wrap c
      obtain ⟨y, hy⟩ : ∃ y, y = sgn c := ⟨_, rfl⟩
      rw [← hy] at hw hfin
      have hy1 : -128 ≤ y ∧ y ≤ 127 := by
        have := c.toNat_lt
        rw [hy]; unfold sgn; split <;> omega
      obtain ⟨hy1, hy2⟩ := hy1
      clear ho hq ER hy
      go_wp2
      exact bodyPost_ret (v := .tuple #[.agg #[.int .i64 3, .int .i64 0, .int .i64 y, .string ⟨#[]⟩], .int .i64 0]) (by simp [results, Tryd.results26, go_sem, a0, a1, a2, a3]) rfl (one_yes ⟨3, 0, y, ⟨#[]⟩⟩ hfin.out ⟨rfl, rfl, rfl, rfl⟩ (by rw [show k + (n + 1) = k + 1 + n by omega]; exact text_four HT.out (by omega) _ _ _ _) (grown_four (grown_alloc HG1.out) (Nat.le_refl _) _ _ _ _))
    | c :: d :: l, hq, ho =>
      have hfin := Lib.hid (show r = .bad 72 by rw [ER.out, hq]; rfl)
      have hv : ∃ a cap, v = .slice a (l.length + 2) cap := by
        rcases ho.2 with ⟨rfl, h0⟩ | ⟨g, cap, cur, rfl, _⟩
        · simp at h0
        · exact ⟨_, _, rfl⟩
      obtain ⟨a, cap, rfl⟩ := hv
      have t5 : (((l.length + 2 : Nat) : Int) != 1) = true := by simp; omega
      have t6 : ((l.length : Int) + 2 != 1) = true := by simp; omega
      clear ho hq ER
      go_wp2
      exact bodyPost_ret (v := .tuple #[.agg #[.int .i64 0, .int .i64 0, .int .i64 0, .string ⟨#[]⟩], .int .i64 72]) (by simp [results, Tryd.results26, go_sem, a0, a1, a2, a3]) rfl (one_no hfin.out (grown_four (grown_alloc HG1.out) (Nat.le_refl _) _ _ _ _))
  · rw [hq] at he
    have hfin := Lib.hid (show r = .bad x by rw [ER.out, hq]; rfl)
    have hx := quotedL_bad _ _ _ (Nat.le_refl _) hq
    have t4 : (x != 0) = true := by simp; omega
    subst he
    clear hq hx ER
    go_wp2
    exact bodyPost_ret (v := .tuple #[.agg #[.int .i64 0, .int .i64 0, .int .i64 0, .string ⟨#[]⟩], .int .i64 x]) (by simp [results, Tryd.results26, go_sem, a0, a1, a2, a3]) rfl (one_no hfin.out (grown_four (grown_alloc HG1.out) (Nat.le_refl _) _ _ _ _))

set_option maxHeartbeats 4000000 in
set_option maxRecDepth 100000 in
theorem one_str' (b k : Nat) (cs : Array Value) (T : TypeId) (s : ByteArray) (w : World) (h : TextAt w b cs T s k) (hk : k < s.size) (hs : s.size ≤ 1048576) (hl : s[k].toNat = 34) :
    Calls Tryd.prog 26 #[.pointer (some ⟨b, 0, none⟩)] w (OneAt w b cs T s k (oneL (sfx s k))) := by
  have hbw := h.lt
  have H := Lib.hid (h.below ((Below.refl w.heap.size w).alloc (Nat.le_refl _) (.cells #[.int .i64 0, .int .i64 0, .int .i64 0, .string ⟨#[]⟩] 34)))
  have c0 := h.c0
  have c1 := h.c1
  obtain ⟨r, er⟩ : ∃ r, r = oneL (sfx s k) := ⟨_, rfl⟩
  rw [← er]
  have ER := Lib.hid (er.trans (oneL_str hk hl))
  have HL := Lib.hid (let_no (.inr (.inr hl)))
  have HD := Lib.hid (show digB s[k] = false by unfold digB; rw [decide_eq_false_iff_not]; omega)
  have t0 : ((s[k].toNat : Int) == 39) = false := by simp [hl]
  have t1 : ((s[k].toNat : Int) == 34) = true := by simp [hl]
  clear er hl h
  go_enter Tryd.func26, Tryd.ntmps26
  go_wp2_with fail
  go_quiet (fail)
  go_wp2_with (first
    | (go_at_call 29; refine (lexLetter_is false _ _ HL.out).mono ?_; rintro e w' ⟨rfl, rfl⟩)
    | (go_at_call 48; refine (lexDigit_is false _ _ HD.out).mono ?_; rintro e w' ⟨rfl, rfl⟩)
    | (go_at_call 50; refine (quoted_ok b k cs T s _ H.out.drew hk hs).mono ?_))
  rintro e w1 ⟨he, hg1⟩
  have HG1 := Lib.hid (grown_trans (grown_drewN (grown_refl _ _) _) hg1)
  clear hg1 c0 c1
  obtain ⟨⟨a0, a1, a2, a3⟩, fa⟩ := tok_block (res_block HG1.out hbw)
  have fa0 := fa 0
  have fa1 := fa 1
  have fa2 := fa 2
  have fa3 := fa 3
  clear fa
  rcases hq : quotedL s[k] (sfx s (k + 1)) with ⟨l, n⟩ | x
  · rw [hq] at he
    obtain ⟨v, rfl, ho, hT⟩ := he
    have HT := Lib.hid hT
    have hcv := own_str ho
    have hfin := Lib.hid (show r = .good ⟨4, 0, 0, strOf l⟩ (n + 1) by rw [ER.out, hq]; rfl)
    clear hT ho hq ER
    go_wp2
    exact bodyPost_ret (v := .tuple #[.agg #[.int .i64 4, .int .i64 0, .int .i64 0, .string ⟨l.toArray⟩], .int .i64 0]) (by simp [results, Tryd.results26, go_sem, a0, a1, a2, a3]) rfl (one_yes ⟨4, 0, 0, strOf l⟩ hfin.out ⟨rfl, rfl, rfl, rfl⟩ (by rw [show k + (n + 1) = k + 1 + n by omega]; exact text_four HT.out (by omega) _ _ _ _) (grown_four (grown_alloc HG1.out) (Nat.le_refl _) _ _ _ _))
  · rw [hq] at he
    have hfin := Lib.hid (show r = .bad x by rw [ER.out, hq]; rfl)
    have hx := quotedL_bad _ _ _ (Nat.le_refl _) hq
    have t4 : (x != 0) = true := by simp; omega
    subst he
    clear hq hx ER
    go_wp2
    exact bodyPost_ret (v := .tuple #[.agg #[.int .i64 0, .int .i64 0, .int .i64 0, .string ⟨#[]⟩], .int .i64 x]) (by simp [results, Tryd.results26, go_sem, a0, a1, a2, a3]) rfl (one_no hfin.out (grown_four (grown_alloc HG1.out) (Nat.le_refl _) _ _ _ _))

end Go.Proofs.YtncojfcdkigmiaaDoor
namespace Go.Proofs.YtncojfcdkigmiaaDoor
open Go.RowKit

theorem oneL_mark {s : ByteArray} {k : Nat} (hk : k < s.size) (h1 : letB s[k] = false) (h2 : digB s[k] = false) (h3 : s[k].toNat ≠ 39) (h4 : s[k].toNat ≠ 34) : oneL (sfx s k) = markE (sfx s k) := by
  rw [sfx_cons s k hk, oneL, if_neg (by simp [h1]), if_neg (by simp [h2]), if_neg h3, if_neg h4]

set_option maxHeartbeats 4000000 in
set_option maxRecDepth 100000 in
theorem one_mark' (b k : Nat) (cs : Array Value) (T : TypeId) (s : ByteArray) (w : World) (h : TextAt w b cs T s k) (hk : k < s.size) (hs : s.size ≤ 1048576) (hE : Env w) (hA : Apart b) (h1 : letB s[k] = false) (h2 : digB s[k] = false) (h3 : s[k].toNat ≠ 39) (h4 : s[k].toNat ≠ 34) :
    Calls Tryd.prog 26 #[.pointer (some ⟨b, 0, none⟩)] w (OneAt w b cs T s k (oneL (sfx s k))) := by
  have hbw := h.lt
  have H := Lib.hid (h.below ((Below.refl w.heap.size w).alloc (Nat.le_refl _) (.cells #[.int .i64 0, .int .i64 0, .int .i64 0, .string ⟨#[]⟩] 34)))
  have HE := Lib.hid (hE.below ((Below.refl w.heap.size w).alloc (Nat.le_refl _) (.cells #[.int .i64 0, .int .i64 0, .int .i64 0, .string ⟨#[]⟩] 34)))
  have c0 := h.c0
  have c1 := h.c1
  have f1 := h.f1 1
  obtain ⟨r, er⟩ : ∃ r, r = oneL (sfx s k) := ⟨_, rfl⟩
  rw [← er]
  have ER := Lib.hid (er.trans (oneL_mark hk h1 h2 h3 h4))
  have HL := Lib.hid h1
  have HD := Lib.hid h2
  have t0 : ((s[k].toNat : Int) == 39) = false := by simp; omega
  have t1 : ((s[k].toNat : Int) == 34) = false := by simp; omega
  have HX : Hid (∃ x, markX (sfx s k) = x ∧ ((x = -1 ∧ r = .bad 70) ∨ ∃ (j : Nat) (m : ByteArray), x = j ∧ j < 45 ∧ markT.getD j ByteArray.empty = m ∧ r = .good ⟨5, 0, 0, m⟩ m.size ∧ m.size ≤ 3)) := by
    refine ⟨_, rfl, ?_⟩
    have hf := firstI_find (p := fun m : ByteArray => Lib.hasPrefix (sfx s k) m.data.toList) (l := markT)
    unfold markX markI
    rcases hi : firstI (fun m : ByteArray => Lib.hasPrefix (sfx s k) m.data.toList) markT with _ | j
    · rw [hi] at hf
      exact .inl ⟨rfl, by rw [ER.out, markE]; unfold Lib.hasPrefix at hf; rw [hf]⟩
    · rw [hi] at hf
      obtain ⟨m, e1, e2⟩ := hf
      have hlt := (List.getElem?_eq_some_iff.1 e1).1
      refine .inr ⟨j, m, rfl, by rw [markT_length] at hlt; exact hlt, by rw [getD_lt _ _ hlt, (List.getElem?_eq_some_iff.1 e1).2], by rw [ER.out, markE]; unfold Lib.hasPrefix at e2; rw [e2], ?_⟩
      have key : ∀ x ∈ markT, x.size ≤ 3 := by decide
      exact key m (List.mem_of_getElem? e1)
  obtain ⟨x, hx, hc⟩ := HX.out
  have HX2 := Lib.hid hx
  have HA := Lib.hid hA
  clear er h1 h2 h3 h4 h hE hA ER HX hx
  rcases hc with ⟨rfl, hr⟩ | ⟨j, m, rfl, hj, hm, hr, hm3⟩
  · have hfin := Lib.hid hr
    clear hr
    go_enter Tryd.func26, Tryd.ntmps26
    go_wp2_with fail
    go_quiet (fail)
    go_wp2_with (first
      | (go_at_call 29; refine (lexLetter_is false _ _ HL.out).mono ?_; rintro e w' ⟨rfl, rfl⟩)
      | (go_at_call 48; refine (lexDigit_is false _ _ HD.out).mono ?_; rintro e w' ⟨rfl, rfl⟩))
    go_quiet ((go_at_call 51; exact quiet_sum2 (indexFunc_is (-1) b k cs T s _ H.out.drew (by omega) (HE.out.marks.drewN _) HX2.out)))
    go_wp2
    exact bodyPost_ret (v := .tuple #[.agg #[.int .i64 0, .int .i64 0, .int .i64 0, .string ⟨#[]⟩], .int .i64 70]) (by simp [results, Tryd.results26, go_sem]) rfl (one_no hfin.out (grown_four (grown_drewN (grown_below (grown_refl _ _) ((Below.refl _ _).alloc (Nat.le_refl _) _)) _) (Nat.le_refl _) _ _ _ _))
  · have hfin := Lib.hid hr
    have hc : (w.alloc (.cells #[.int .i64 0, .int .i64 0, .int .i64 0, .string ⟨#[]⟩] 34)).cell? ⟨1, j, none⟩ = some (Value.string m) := by
      have := HE.out.marks j (by rw [markT_length]; exact hj)
      rw [hm, Nat.zero_add] at this; exact this
    have HC := Lib.hid hc
    clear hr hm hc
    go_enter Tryd.func26, Tryd.ntmps26
    go_wp2_with fail
    go_quiet (fail)
    go_wp2_with (first
      | (go_at_call 29; refine (lexLetter_is false _ _ HL.out).mono ?_; rintro e w' ⟨rfl, rfl⟩)
      | (go_at_call 48; refine (lexDigit_is false _ _ HD.out).mono ?_; rintro e w' ⟨rfl, rfl⟩))
    go_quiet ((go_at_call 51; exact quiet_sum2 (indexFunc_is j b k cs T s _ H.out.drew (by omega) (HE.out.marks.drewN _) HX2.out)))
    have hcm := HC.out
    go_wp2_with fail
    go_region
    generalize hwx : World.setCell _ _ _ = wx
    have hT : TextAt wx b cs T s (k + m.size) := by rw [← hwx]; exact H.out.drew.next (k + m.size)
    have hG : (w.alloc (.cells #[.int .i64 0, .int .i64 0, .int .i64 0, .string ⟨#[]⟩] 34)).grownBy wx (some b) := by rw [← hwx]; exact grown_set (grown_drewN (grown_refl _ _) _) _ rfl _
    have HT := Lib.hid hT
    have HG := Lib.hid hG
    have hcx : wx.cell? ⟨1, j, none⟩ = some (.string m) := cell_grown hcm hG (by have := HA.out.2.1; omega)
    obtain ⟨⟨a0, a1, a2, a3⟩, fa⟩ := tok_block (res_block hG hbw)
    have fa0 := fa 0
    have fa1 := fa 1
    have fa2 := fa 2
    have fa3 := fa 3
    clear fa hwx hT hG c0 c1 f1 hcm
    go_wp2
    exact bodyPost_ret (v := .tuple #[.agg #[.int .i64 5, .int .i64 0, .int .i64 0, .string m], .int .i64 0]) (by simp [results, Tryd.results26, go_sem, a0, a1, a2, a3]) rfl (one_yes ⟨5, 0, 0, m⟩ hfin.out ⟨rfl, rfl, rfl, rfl⟩ (text_four HT.out (by omega) _ _ _ _) (grown_four (grown_alloc HG.out) (Nat.le_refl _) _ _ _ _))

/-- one token -/
theorem one_ok (b k : Nat) (cs : Array Value) (T : TypeId) (s : ByteArray) (w : World) (h : TextAt w b cs T s k) (hk : k < s.size) (hs : s.size ≤ 1048576) (hE : Env w) (hA : Apart b) :
    Calls Tryd.prog 26 #[.pointer (some ⟨b, 0, none⟩)] w (OneAt w b cs T s k (oneL (sfx s k))) := by
  rcases h1 : letB s[k] with _ | _
  · rcases h2 : digB s[k] with _ | _
    · by_cases h3 : s[k].toNat = 39
      · exact one_char' b k cs T s w h hk hs h3
      · by_cases h4 : s[k].toNat = 34
        · exact one_str' b k cs T s w h hk hs h4
        · exact one_mark' b k cs T s w h hk hs hE hA h1 h2 h3 h4
    · exact one_digit b k cs T s w h hk hs hE hA h2
  · exact one_letter b k cs T s w h hk hs hE hA h1

end Go.Proofs.YtncojfcdkigmiaaDoor
