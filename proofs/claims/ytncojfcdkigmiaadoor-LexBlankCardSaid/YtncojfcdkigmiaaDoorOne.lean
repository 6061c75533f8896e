/- One token: the program's reader. -/
import Derived.Test.YtncojfcdkigmiaaDoorMark
namespace Go.Proofs.YtncojfcdkigmiaaDoor
open Go.RowKit

theorem cell_grown {w w' : World} {g b o : Nat} {v : Value} (h : w.cell? ⟨g, o, none⟩ = some v) (hg : w.grownBy w' (some b)) (hb : g ≠ b) : w'.cell? ⟨g, o, none⟩ = some v := by
  have hlt := World.block_lt_of_cell? w _ h
  unfold World.cell? at h ⊢
  rw [hg.block _ hlt (by simpa using hb)]; exact h

/-- the tables and variables that the reader leans on -/
structure Env (w : World) : Prop where
  keys : KeysAt w
  marks : MarksAt w
  errs : ErrsAt w
  maxl : MaxLenAt w
theorem Env.below {w w' : World} (h : Env w) (hb : Below w.heap.size w w') : Env w' := ⟨h.keys.below hb, h.marks.below hb, h.errs.below hb, h.maxl.below hb⟩
theorem Env.drewN {w : World} (h : Env w) (n : Nat) : Env (w.drewN n) := ⟨h.keys, h.marks, h.errs, h.maxl⟩
/-- no such table stands in block b -/
def Apart (b : Nat) : Prop := 0 < b ∧ 1 < b ∧ 2 < b ∧ 4 < b ∧ 5 < b
theorem Env.apart {w : World} (h : Env w) {b : Nat} (hb : w.heap.size ≤ b) : Apart b := by
  obtain ⟨⟨a, h1, _⟩, c, h3, _⟩ := h.errs
  obtain ⟨m, h5⟩ := h.maxl
  have e1 := World.block_lt_of_cell? w _ (h.keys 0 (by decide))
  have e2 := World.block_lt_of_cell? w _ (h.marks 0 (by decide))
  have e3 := World.block_lt_of_cell? w _ h1
  have e4 := World.block_lt_of_cell? w _ h3
  have e5 := World.block_lt_of_cell? w _ h5
  simp only at e1 e2 e3 e4 e5
  exact ⟨by omega, by omega, by omega, by omega, by omega⟩
theorem Env.grown {w w' : World} {b : Nat} (h : Env w) (hg : w.grownBy w' (some b)) (hb : Apart b) : Env w' := by
  obtain ⟨b1, b2, b3, b4, b5⟩ := hb
  obtain ⟨⟨x, h1, h2⟩, y, h3, h4⟩ := h.errs
  obtain ⟨m, h5⟩ := h.maxl
  exact ⟨fun j hj => cell_grown (h.keys j hj) hg (by omega), fun j hj => cell_grown (h.marks j hj) hg (by omega), ⟨⟨x, cell_grown h1 hg (by omega), h2⟩, y, cell_grown h3 hg (by omega), h4⟩, m, cell_grown h5 hg (by omega)⟩

/-- what the program's reader tells of a token -/
def OneAt (w : World) (b : Nat) (cs : Array Value) (T : TypeId) (s : ByteArray) (k : Nat) (r : OEnd) (e : Ending) (w' : World) : Prop :=
  (match r with
    | .good t n => e = .returned (.tuple #[.agg #[.int .i64 t.kind, .int .i64 t.place, .int .i64 t.num, .string t.text], .int .i64 0]) ∧ TextAt w' b cs T s (k + n)
    | .bad x => ∃ t : Tok, e = .returned (.tuple #[.agg #[.int .i64 t.kind, .int .i64 t.place, .int .i64 t.num, .string t.text], .int .i64 x])) ∧ w.grownBy w' (some b)
theorem one_yes {w w' : World} {b k n : Nat} {cs : Array Value} {T : TypeId} {s x : ByteArray} {r : OEnd} {a c d : Int} (t : Tok) (hr : r = .good t n) (ht : a = t.kind ∧ c = t.place ∧ d = t.num ∧ x = t.text) (h : TextAt w' b cs T s (k + n)) (hg : w.grownBy w' (some b)) :
    OneAt w b cs T s k r (.returned (.tuple #[.agg #[.int .i64 a, .int .i64 c, .int .i64 d, .string x], .int .i64 0])) w' := by
  obtain ⟨rfl, rfl, rfl, rfl⟩ := ht
  subst hr; exact ⟨⟨rfl, h⟩, hg⟩
theorem one_no {w w' : World} {b k : Nat} {cs : Array Value} {T : TypeId} {s x : ByteArray} {r : OEnd} {a c d y : Int} (hr : r = .bad y) (hg : w.grownBy w' (some b)) :
    OneAt w b cs T s k r (.returned (.tuple #[.agg #[.int .i64 a, .int .i64 c, .int .i64 d, .string x], .int .i64 y])) w' := by
  subst hr; exact ⟨⟨⟨a, c, d, x⟩, rfl⟩, hg⟩

/-- the world in which the result has its row -/
theorem grown_alloc {w w' : World} {b : Nat} {o : Obj} (h : (w.alloc o).grownBy w' (some b)) : w.grownBy w' (some b) :=
  grown_trans (grown_below (grown_refl _ _) ((Below.refl _ _).alloc (Nat.le_refl _) o)) h
theorem res_block {w w' : World} {b : Nat} {o : Obj} (h : (w.alloc o).grownBy w' (some b)) (hb : b < w.heap.size) : w'.heap[w.heap.size]? = some o := by
  rw [h.block _ (by simp) (by simp; omega)]; exact heap_alloc_new w o
theorem grown_four {w w' : World} {b n : Nat} (h : w.grownBy w' (some b)) (hn : w.heap.size ≤ n) (v0 v1 v2 v3 : Value) : w.grownBy ((((w'.setCell ⟨n, 0, none⟩ v0).setCell ⟨n, 1, none⟩ v1).setCell ⟨n, 2, none⟩ v2).setCell ⟨n, 3, none⟩ v3) (some b) := by
  have key : ∀ {x : World} (a : Addr) (v : Value), a.block = n → w.grownBy x (some b) → w.grownBy (x.setCell a v) (some b) := fun a v ha hx =>
    ⟨hx.os, hx.tape, hx.output, by simpa [World.setCell] using hx.size, fun k hk hne => by rw [Below.heap_setCell _ _ _ _ (by rw [ha]; omega), hx.block k hk hne]⟩
  exact key _ _ rfl (key _ _ rfl (key _ _ rfl (key _ _ rfl h)))
theorem text_four {w b cs T s k} {n : Nat} (h : TextAt w b cs T s k) (hn : b ≠ n) (v0 v1 v2 v3 : Value) : TextAt ((((w.setCell ⟨n, 0, none⟩ v0).setCell ⟨n, 1, none⟩ v1).setCell ⟨n, 2, none⟩ v2).setCell ⟨n, 3, none⟩ v3) b cs T s k := by
  refine ⟨?_, h.text, h.two⟩
  rw [Below.heap_setCell _ _ _ _ (by simpa using hn), Below.heap_setCell _ _ _ _ (by simpa using hn), Below.heap_setCell _ _ _ _ (by simpa using hn), Below.heap_setCell _ _ _ _ (by simpa using hn)]
  exact h.blk

theorem sfx_take_word (s : ByteArray) (k : Nat) : (s.extract k (k + wlen (s.data.toList.drop k))).data.toList = (sfx s k).take (wlen (sfx s k)) := extract_take s k _
theorem strOf_word (s : ByteArray) (k : Nat) : strOf ((sfx s k).take (wlen (sfx s k))) = s.extract k (k + wlen (s.data.toList.drop k)) := toList_eq (by rw [sfx_take_word]; rfl)
theorem oneL_word {s : ByteArray} {k : Nat} (hk : k < s.size) (h : letB s[k] = true) : oneL (sfx s k) = wordE (sfx s k) := by
  rw [sfx_cons s k hk, oneL, if_pos h]

set_option maxHeartbeats 4000000 in
set_option maxRecDepth 100000 in
theorem one_letter (b k : Nat) (cs : Array Value) (T : TypeId) (s : ByteArray) (w : World) (h : TextAt w b cs T s k) (hk : k < s.size) (hs : s.size ≤ 1048576) (hE : Env w) (hA : Apart b) (hl : letB s[k] = true) :
    Calls Tryd.prog 26 #[.pointer (some ⟨b, 0, none⟩)] w (OneAt w b cs T s k (oneL (sfx s k))) := by
  have hbw := h.lt
  have H := Lib.hid (h.below ((Below.refl w.heap.size w).alloc (Nat.le_refl _) (.cells #[.int .i64 0, .int .i64 0, .int .i64 0, .string ⟨#[]⟩] 34)))
  have HE := Lib.hid (hE.below ((Below.refl w.heap.size w).alloc (Nat.le_refl _) (.cells #[.int .i64 0, .int .i64 0, .int .i64 0, .string ⟨#[]⟩] 34)))
  have HA := Lib.hid hA
  have c0 := h.c0
  have c1 := h.c1
  obtain ⟨r, er⟩ : ∃ r, r = oneL (sfx s k) := ⟨_, rfl⟩
  rw [← er]
  have ER := Lib.hid (er.trans (oneL_word hk hl))
  have HL := Lib.hid hl
  clear er hl hA hE h
  go_enter Tryd.func26, Tryd.ntmps26
  go_wp2_with fail
  go_quiet (fail)
  go_wp2_with (first
    | (go_at_call 29; refine (lexLetter_is true _ _ HL.out).mono ?_; rintro e w' ⟨rfl, rfl⟩)
    | (go_at_call 30; refine (word_ok b k cs T s _ H.out.drew (by omega) hs).mono ?_))
  rintro e w1 ⟨rfl, hT1, hg1⟩
  have HT1 := Lib.hid hT1
  have HG1 := Lib.hid (grown_trans (grown_drewN (grown_refl _ _) _) hg1)
  clear hT1 hg1
  have HE1 := Lib.hid (HE.out.grown HG1.out HA.out)
  have HW := Lib.hid (strOf_word s k)
  obtain ⟨⟨a0, a1, a2, a3⟩, fa⟩ := tok_block (res_block HG1.out hbw)
  have fa0 := fa 0
  have fa1 := fa 1
  have fa2 := fa 2
  have fa3 := fa 3
  clear fa c0 c1
  have HSz := Lib.hid (show (s.extract k (k + wlen (s.data.toList.drop k))).size = wlen (sfx s k) by
    have := (word_end (s := s) (a := k) (by omega)).1
    rw [ByteArray.size_extract]; show _ = wlen (s.data.toList.drop k); omega)
  generalize s.extract k (k + wlen (s.data.toList.drop k)) = x at HW HSz ⊢
  rcases hkey : isKeyB x with _ | _
  · have HKey := Lib.hid hkey
    clear hkey
    by_cases h31 : 31 < x.size
    · have hfin := Lib.hid (show r = .bad 3 by rw [ER.out, wordE, HW.out, HKey.out, if_neg (by simp), if_pos (by rw [← HSz.out]; exact h31)])
      go_wp2_with (go_at_call 17; refine (lexIsKey_ok x _ HE1.out.keys).mono ?_; rintro e w' ⟨rfl, rfl⟩; rw [HKey.out])
      exact bodyPost_ret (v := .tuple #[.agg #[.int .i64 0, .int .i64 0, .int .i64 0, .string ⟨#[]⟩], .int .i64 3]) (by simp [results, Tryd.results26, go_sem, a0, a1, a2, a3]) rfl (one_no hfin.out (grown_four (grown_alloc HG1.out) (Nat.le_refl _) _ _ _ _))
    · have hfin := Lib.hid (show r = .good ⟨1, 0, 0, x⟩ (wlen (sfx s k)) by rw [ER.out, wordE, HW.out, HKey.out, if_neg (by simp), if_neg (by rw [← HSz.out]; exact h31)])
      go_wp2_with (go_at_call 17; refine (lexIsKey_ok x _ HE1.out.keys).mono ?_; rintro e w' ⟨rfl, rfl⟩; rw [HKey.out])
      exact bodyPost_ret (v := .tuple #[.agg #[.int .i64 1, .int .i64 0, .int .i64 0, .string x], .int .i64 0]) (by simp [results, Tryd.results26, go_sem, a0, a1, a2, a3]) rfl (one_yes ⟨1, 0, 0, x⟩ hfin.out ⟨rfl, rfl, rfl, rfl⟩ (text_four HT1.out (by omega) _ _ _ _) (grown_four (grown_alloc HG1.out) (Nat.le_refl _) _ _ _ _))
  · have HKey := Lib.hid hkey
    clear hkey
    have hfin := Lib.hid (show r = .good ⟨2, 0, 0, x⟩ (wlen (sfx s k)) by rw [ER.out, wordE, HW.out, HKey.out, if_pos rfl])
    go_wp2_with (go_at_call 17; refine (lexIsKey_ok x _ HE1.out.keys).mono ?_; rintro e w' ⟨rfl, rfl⟩; rw [HKey.out])
    exact bodyPost_ret (v := .tuple #[.agg #[.int .i64 2, .int .i64 0, .int .i64 0, .string x], .int .i64 0]) (by simp [results, Tryd.results26, go_sem, a0, a1, a2, a3]) rfl (one_yes ⟨2, 0, 0, x⟩ hfin.out ⟨rfl, rfl, rfl, rfl⟩ (text_four HT1.out (by omega) _ _ _ _) (grown_four (grown_alloc HG1.out) (Nat.le_refl _) _ _ _ _))

end Go.Proofs.YtncojfcdkigmiaaDoor
