/- Letters, digits, words, keywords and names, of both texts. -/
import Derived.Test.YtlomdlblohnfmaaDoorChecked
import Derived.Test.YtlomdlblohnfmaaDoorBase
import Derived.Test.YtlomdlblohnfmaaDoorPlain
import Derived.Test.YtlomdlblohnfmaaDoorShelf
import Derived.Deep.QuietTactic
import Derived.BigQuiet
namespace Go.Proofs.YtlomdlblohnfmaaDoor
open Go.RowKit

theorem letB_mk {c : UInt8} {b : Bool} (h : b = true ↔ (97 ≤ c.toNat ∧ c.toNat ≤ 122 ∨ 65 ≤ c.toNat ∧ c.toNat ≤ 90 ∨ c.toNat = 95)) : Ending.returned (.bool b) = .returned (.bool (letB c)) := by
  have : b = letB c := by rw [Bool.eq_iff_iff, h, letB, decide_eq_true_iff]
  rw [this]
theorem digB_mk {c : UInt8} {b : Bool} (h : b = true ↔ (48 ≤ c.toNat ∧ c.toNat ≤ 57)) : Ending.returned (.bool b) = .returned (.bool (digB c)) := by
  have : b = digB c := by rw [Bool.eq_iff_iff, h, digB, decide_eq_true_iff]
  rw [this]

theorem lexDigit_ok (c : UInt8) (w : World) :
    Calls Tryd.prog 80 #[.int .u8 (c.toNat : Int)] w fun e w' => e = .returned (.bool (digB c)) ∧ w' = w := by
  go_enter Tryd.func80, Tryd.ntmps80
  go_wp2
  all_goals go_ret
  all_goals exact ⟨digB_mk (by simp; omega), rfl⟩

set_option maxHeartbeats 400000 in
theorem lexLetter_ok (c : UInt8) (w : World) :
    Calls Tryd.prog 58 #[.int .u8 (c.toNat : Int)] w fun e w' => e = .returned (.bool (letB c)) ∧ w' = w := by
  go_enter Tryd.func58, Tryd.ntmps58
  go_wp2
  all_goals go_ret
  all_goals refine ⟨letB_mk ?_, rfl⟩
  all_goals (simp; omega)

/-- a text that is read stands at place k: what its block holds -/
structure TextAt (w : World) (b : Nat) (cs : Array Value) (T : TypeId) (s : ByteArray) (k : Nat) : Prop where
  blk : w.heap[b]? = some (.cells (cs.setIfInBounds 1 (.int .i64 (k : Int))) T (0, 0))
  text : cs[0]? = some (.string s)
  two : 1 < cs.size
theorem TextAt.c0 {w b cs T s k} (h : TextAt w b cs T s k) : w.cell? ⟨b, 0, none⟩ = some (.string s) := by
  simp [World.cell?, h.blk, h.text]
theorem TextAt.c1 {w b cs T s k} (h : TextAt w b cs T s k) : w.cell? ⟨b, 1, none⟩ = some (.int .i64 (k : Int)) := by
  simp [World.cell?, h.blk, h.two]
theorem TextAt.f1 {w b cs T s k} (h : TextAt w b cs T s k) (j : Nat) : w.frozen? ⟨b, j, none⟩ = false := by
  simp [World.frozen?, h.blk]
theorem TextAt.next {w b cs T s k} (h : TextAt w b cs T s k) (m : Nat) : TextAt (w.setCell ⟨b, 1, none⟩ (.int .i64 (m : Int))) b cs T s m := by
  refine ⟨?_, h.text, h.two⟩
  simp [World.setCell, Array.getElem?_modify, h.blk, Array.setIfInBounds_setIfInBounds]
theorem TextAt.drew {w b cs T s k n} (h : TextAt w b cs T s k) : TextAt (w.drewN n) b cs T s k := ⟨h.blk, h.text, h.two⟩
theorem TextAt.below {w w' b cs T s k} (h : TextAt w b cs T s k) (hb : Below w.heap.size w w') : TextAt w' b cs T s k :=
  ⟨by rw [hb.block b (lt_of_heap h.blk)]; exact h.blk, h.text, h.two⟩
theorem grown_set {w w' : World} {b : Nat} (h : w.grownBy w' (some b)) (a : Addr) (ha : a.block = b) (v : Value) : w.grownBy (w'.setCell a v) (some b) :=
  ⟨h.os, h.tape, h.output, by simpa [World.setCell] using h.size, fun k hk hne => by
    rw [Below.heap_setCell _ _ _ _ (by rw [ha]; intro e; exact hne (by rw [e])), h.block k hk hne]⟩
theorem grown_refl (w : World) (r : Option Nat) : w.grownBy w r := ⟨rfl, rfl, rfl, Nat.le_refl _, fun _ _ _ => rfl⟩
theorem grown_drewN {w w' : World} {r : Option Nat} (h : w.grownBy w' r) (n : Nat) : w.grownBy (w'.drewN n) r := ⟨h.os, h.tape, h.output, h.size, h.block⟩
theorem grown_trans {w w' w'' : World} {r : Option Nat} (h : w.grownBy w' r) (h' : w'.grownBy w'' r) : w.grownBy w'' r :=
  ⟨h'.os.trans h.os, h'.tape.trans h.tape, h'.output.trans h.output, Nat.le_trans h.size h'.size, fun k hk hne => (h'.block k (Nat.lt_of_lt_of_le hk h.size) hne).trans (h.block k hk hne)⟩
theorem grown_below {w w' w'' : World} {r : Option Nat} (h : w.grownBy w' r) (h' : Below w'.heap.size w' w'') : w.grownBy w'' r :=
  grown_trans h ⟨h'.os, h'.tape, h'.output, h'.size, fun k hk _ => h'.block k hk⟩
theorem below_grown {B : Nat} {w w' : World} {b : Nat} (h : w.grownBy w' (some b)) (hb : B ≤ b) (hB : B ≤ w.heap.size) : Below B w w' :=
  ⟨h.os, h.tape, h.output, h.size, fun k hk => h.block k (Nat.lt_of_lt_of_le hk hB) (by simp; omega)⟩

theorem more_ok (b k : Nat) (cs : Array Value) (T : TypeId) (s : ByteArray) (w : World) (h : TextAt w b cs T s k) :
    Calls Tryd.prog 79 #[.pointer (some ⟨b, 0, none⟩)] w fun e w' => e = .returned (.bool (decide ((k : Int) < s.size))) ∧ ∃ n, w' = w.drewN n := by
  have c0 := h.c0
  have c1 := h.c1
  clear h
  go_enter Tryd.func79, Tryd.ntmps79
  go_wp2
  go_quiet (fail)
  go_wp2
  go_ret
  exact ⟨by simp, _, rfl⟩

theorem more_is (r : Bool) (b k : Nat) (cs : Array Value) (T : TypeId) (s : ByteArray) (w : World) (h : TextAt w b cs T s k) (hr : decide (k < s.size) = r) :
    Calls Tryd.prog 79 #[.pointer (some ⟨b, 0, none⟩)] w fun e w' => e = .returned (.bool r) ∧ ∃ n, w' = w.drewN n :=
  (more_ok b k cs T s w h).mono fun _ _ ⟨he, hw⟩ => ⟨by rw [he, ← hr]; simp, hw⟩
theorem lexLetter_is (r : Bool) (c : UInt8) (w : World) (h : letB c = r) : Calls Tryd.prog 58 #[.int .u8 (c.toNat : Int)] w fun e w' => e = .returned (.bool r) ∧ w' = w := by
  subst h; exact lexLetter_ok c w
theorem lexDigit_is (r : Bool) (c : UInt8) (w : World) (h : digB c = r) : Calls Tryd.prog 80 #[.int .u8 (c.toNat : Int)] w fun e w' => e = .returned (.bool r) ∧ w' = w := by
  subst h; exact lexDigit_ok c w

/-- the bytes of the word that begins at a: each is one of a word; the next one is none -/
theorem word_byte {s : ByteArray} {a j : Nat} (h1 : a ≤ j) (h2 : j < a + wlen (s.data.toList.drop a)) : ∃ h : j < s.size, wordB s[j] = true := by
  obtain ⟨c, hc, hw⟩ := wlen_lt (l := s.data.toList.drop a) (k := j - a) (by omega)
  rw [List.getElem?_drop, show a + (j - a) = j by omega] at hc
  obtain ⟨h3, h4⟩ := List.getElem?_eq_some_iff.1 hc
  have h5 : j < s.size := by simpa using h3
  refine ⟨h5, ?_⟩
  rw [← h4] at hw; exact hw
theorem word_end {s : ByteArray} {a : Nat} (ha : a ≤ s.size) : a + wlen (s.data.toList.drop a) ≤ s.size ∧ ∀ h : a + wlen (s.data.toList.drop a) < s.size, wordB s[a + wlen (s.data.toList.drop a)] = false := by
  have hl : (s.data.toList.drop a).length = s.size - a := by simp
  have hle := wlen_le (s.data.toList.drop a)
  refine ⟨by omega, fun h => ?_⟩
  obtain ⟨c, hc, hw⟩ := wlen_at (l := s.data.toList.drop a) (by omega)
  rw [List.getElem?_drop] at hc
  obtain ⟨h3, h4⟩ := List.getElem?_eq_some_iff.1 hc
  rw [← h4] at hw; exact hw
set_option maxHeartbeats 2000000 in
theorem word_ok (b a : Nat) (cs : Array Value) (T : TypeId) (s : ByteArray) (w : World) (h : TextAt w b cs T s a) (ha : a ≤ s.size) (hs : s.size ≤ 1048576) :
    Calls Tryd.prog 59 #[.pointer (some ⟨b, 0, none⟩)] w fun e w' =>
      e = .returned (.string (s.extract a (a + wlen (s.data.toList.drop a)))) ∧ TextAt w' b cs T s (a + wlen (s.data.toList.drop a)) ∧ w.grownBy w' (some b) := by
  have c0 := h.c0
  have c1 := h.c1
  have H := Lib.hid h
  have HE := Lib.hid (word_end ha)
  clear h
  obtain ⟨m, em⟩ : ∃ m, m = a + wlen (s.data.toList.drop a) := ⟨_, rfl⟩
  rw [← em]
  have EM := Lib.hid em
  have ham : a ≤ m := by omega
  have hms : m ≤ s.size := by have := HE.out.1; omega
  clear em
  go_enter Tryd.func59, Tryd.ntmps59
  go_wp2_with fail
  clear c0 c1
  go_loopw [33] (fun _ wr => ∃ j : Nat, a ≤ j ∧ j ≤ m ∧ TextAt wr b cs T s j ∧ w.grownBy wr (some b)) (fun _ wr => s.size - (intOf ((wr.cell? ⟨b, 1, none⟩).getD undef)).toNat)
  case atStart => exact ⟨a, Nat.le_refl _, ham, H.out, grown_refl _ _⟩
  case round =>
    obtain ⟨j, hj1, hj2, hT, hgr⟩ := hrel
    have c0 := hT.c0
    have c1 := hT.c1
    have f1 := hT.f1 1
    have HT := Lib.hid hT
    have HG := Lib.hid hgr
    have C1 := Lib.hid c1
    clear hT hgr
    by_cases hlt : j < m
    · obtain ⟨hjs, hw⟩ := word_byte (s := s) hj1 (by have := EM.out; omega)
      have hM := Lib.hid (show decide (j < s.size) = true by simpa using hjs)
      rcases hL : letB s[j] with _ | _
      · have hD : digB s[j] = true := by simpa [wordB, hL] using hw
        have HL := Lib.hid hL
        have HD := Lib.hid hD
        clear hL hD hw
        go_wp2_with fail
        go_quiet ((first | (go_at_call 79; exact Calls.quiet_of (more_is true _ _ _ _ _ _ HT.out.drew hM.out)) | (go_at_call 58; exact Calls.quiet_of_same (lexLetter_is false _ _ HL.out)) | (go_at_call 80; exact Calls.quiet_of_same (lexDigit_is true _ _ HD.out))))
        go_wp2
        go_roundw
        case rel => exact ⟨j + 1, by omega, by omega, HT.out.drew.next (j + 1), grown_set (grown_drewN HG.out _) _ rfl _⟩
        case measure =>
          have e1 := (HT.out.drew (n := nq)).next (j + 1) |>.c1
          rw [show ((j + 1 : Nat) : Int) = (j : Int) + 1 from by omega] at e1
          rw [C1.out, e1]
          simp [intOf]; omega
      · have HL := Lib.hid hL
        clear hL hw
        go_wp2_with fail
        go_quiet ((first | (go_at_call 79; exact Calls.quiet_of (more_is true _ _ _ _ _ _ HT.out.drew hM.out)) | (go_at_call 58; exact Calls.quiet_of_same (lexLetter_is true _ _ HL.out))))
        go_wp2
        go_roundw
        case rel => exact ⟨j + 1, by omega, by omega, HT.out.drew.next (j + 1), grown_set (grown_drewN HG.out _) _ rfl _⟩
        case measure =>
          have e1 := (HT.out.drew (n := nq)).next (j + 1) |>.c1
          rw [show ((j + 1 : Nat) : Int) = (j : Int) + 1 from by omega] at e1
          rw [C1.out, e1]
          simp [intOf]; omega
    · obtain rfl : j = m := by omega
      by_cases hjs : j < s.size
      · have hw := HE.out.2 (by have := EM.out; omega)
        have hw' : wordB s[j] = false := by have e := EM.out; subst e; exact hw
        have hM := Lib.hid (show decide (j < s.size) = true by simpa using hjs)
        have HL := Lib.hid (show letB s[j] = false by simp [wordB] at hw'; exact hw'.1)
        have HD := Lib.hid (show digB s[j] = false by simp [wordB] at hw'; exact hw'.2)
        clear hw hw'
        go_wp2_with fail
        go_quiet ((first | (go_at_call 79; exact Calls.quiet_of (more_is true _ _ _ _ _ _ HT.out.drew hM.out)) | (go_at_call 58; exact Calls.quiet_of_same (lexLetter_is false _ _ HL.out)) | (go_at_call 80; exact Calls.quiet_of_same (lexDigit_is false _ _ HD.out))))
        go_wp2
        go_quiet (fail)
        go_wp2
        go_ret
        exact ⟨rfl, HT.out.drew.drew, grown_drewN (grown_drewN HG.out _) _⟩
      · have hM := Lib.hid (show decide (j < s.size) = false by simpa using hjs)
        go_wp2_with fail
        go_quiet ((go_at_call 79; exact Calls.quiet_of (more_is false _ _ _ _ _ _ HT.out.drew hM.out)))
        go_wp2
        go_quiet (fail)
        go_wp2
        go_ret
        exact ⟨rfl, HT.out.drew.drew, grown_drewN (grown_drewN HG.out _) _⟩

end Go.Proofs.YtlomdlblohnfmaaDoor

