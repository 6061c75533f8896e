/- The words of a line: registers, words put together. -/
import Derived.Test.YtlomdlblohnfmaaDoorIrOp
import Derived.Test.YtlomdlblohnfmaaDoorShelf
import Derived.Test.YtlomdlblohnfmaaDoorPow
import Derived.Lib.ItoaLen
import Derived.Lib.Join
namespace Go.Proofs.YtlomdlblohnfmaaDoor
open Go.RowKit

/-- the tables -/
structure IE (w : World) : Prop where
  keys : KeysAt w
  pow : PowAt w
  lt : 1 < w.heap.size
theorem IE.below {w w' : World} (h : IE w) (hb : Below w.heap.size w w') : IE w' := ⟨h.keys.below hb, h.pow.below hb h.lt, Nat.lt_of_lt_of_le h.lt hb.size⟩
theorem IE.drew {w : World} (h : IE w) : IE w.drew := h.below (Below.refl _ _).drew
def strL (l : List UInt8) : ByteArray := ⟨l.toArray⟩
def numZ (n : Int) : ByteArray := strL (Lib.itoa n)
def regL (n : Int) : ByteArray := strL (114 :: Lib.itoa n)
def I64 (n : Int) : Prop := -9223372036854775808 ≤ n ∧ n ≤ 9223372036854775807
theorem itoa_ok (n : Int) (w : World) (hE : IE w) (h : I64 n) : Calls Tryd.prog 51 #[.int .i64 n] w fun e w' => e = .returned (.string (numZ n)) ∧ Below w.heap.size w w' :=
  (Tryd.strconv_Itoa n h.1 h.2 w hE.pow).mono fun _ _ ⟨he, k, os, hw⟩ => ⟨he, by rw [hw]; exact blw_grow _ _ _⟩
theorem numZ_size {n : Int} (h : I64 n) : (numZ n).size ≤ 21 := by
  have := Lib.itoa_length_le n h.1 h.2
  unfold numZ strL
  simpa [ByteArray.size] using this
theorem regL_size {n : Int} (h : I64 n) : (regL n).size ≤ 22 := by
  have := Lib.itoa_length_le n h.1 h.2
  unfold regL strL
  simpa [ByteArray.size] using this
theorem add_reg {n : Int} (h : I64 n) : ∀ w, (Op.stringOp .add (⟨#[114]⟩ : ByteArray) (numZ n)).run Tryd.prog w = .ok (.string (regL n)) w := fun w => by
  have h1 := numZ_size h
  rw [run_string_add_sum w _ _ (by have : (⟨#[114]⟩ : ByteArray).size = 1 := rfl; omega)]
  rfl
theorem reg_text (n : Int) (w : World) (hE : IE w) (h : I64 n) : Calls Tryd.prog 50 #[.int .i64 n] w fun e w' => e = .returned (.string (regL n)) ∧ Below w.heap.size w w' := by
  have HI := Lib.hid (itoa_ok n w hE h)
  have ha := add_reg h
  generalize regL n = rx at *
  generalize numZ n = nx at *
  clear hE h
  go_enter Tryd.func50, Tryd.ntmps50
  go_wp2_with (go_at_call 51; (with_reducible refine HI.out.mono ?_); rintro e w1 ⟨rfl, hb1⟩)
  go_ret
  exact ⟨rfl, hb1⟩
/-- texts, as cells; a row of one's own that holds texts -/
def strCs (L : List ByteArray) : List Value := L.map Value.string
theorem strCs_append (L M : List ByteArray) : strCs (L ++ M) = strCs L ++ strCs M := by simp [strCs]
def RowS (w : World) (B : Nat) (v : Value) (L : List ByteArray) : Prop := w.ownsRow B 9 1 v L.length (strCs L)
theorem RowS.belowed {w w' : World} {B : Nat} {v : Value} {L : List ByteArray} (h : RowS w B v L) (hb : Below w.heap.size w w') : RowS w' B v L := World.ownsRow.belowed h hb
theorem RowS.mono {w : World} {B B' : Nat} {v : Value} {L : List ByteArray} (h : RowS w B v L) (hB : B' ≤ B) : RowS w B' v L := by
  obtain ⟨h1, h2⟩ := h
  refine ⟨h1, ?_⟩
  rcases h2 with h2 | ⟨g, cap, cur, e, hb, r⟩
  · exact .inl h2
  · exact .inr ⟨g, cap, cur, e, by omega, r⟩
/-- put together with blanks -/
def wordsL (L : List ByteArray) : ByteArray := strL (Lib.join (L.map (·.data.toList)) [32])
theorem join_bound (M : Nat) : ∀ (L : List ByteArray), (∀ x ∈ L, x.size ≤ M) → (Lib.join (L.map (·.data.toList)) [32]).length ≤ L.length * (M + 1)
  | [], _ => by simp [Lib.join_nil]
  | x :: r, h => by
    have hl : ∀ (r : List ByteArray), (∀ y ∈ r, y.size ≤ M) → Lib.lens (r.map (·.data.toList)) ≤ r.length * M := by
      intro r
      induction r with
      | nil => intro _; simp [Lib.lens]
      | cons y r ih =>
        intro h
        have h1 := ih (fun z hz => h z (by simp [hz]))
        have h2 : y.data.toList.length ≤ M := by rw [Array.length_toList]; exact h y List.mem_cons_self
        have e : Lib.lens ((y :: r).map (·.data.toList)) = y.data.toList.length + Lib.lens (r.map (·.data.toList)) := by rw [List.map_cons]; unfold Lib.lens; rw [List.map_cons, List.sum_cons]
        rw [e, List.length_cons, Nat.succ_mul]
        omega
    rw [List.map_cons, Lib.join_length]
    have h1 := hl (x :: r) h
    rw [List.map_cons] at h1
    have h3 : ([32] : List UInt8).length = 1 := rfl
    rw [h3, List.length_map, List.length_cons, Nat.mul_add]
    rw [List.length_cons] at h1
    omega
theorem words_ok (L : List ByteArray) (v : Value) (B : Nat) (w : World) (h : RowS w B v L) (M : Nat) (hM : ∀ x ∈ L, x.size ≤ M) (hN : L.length * (M + 1) ≤ 140737488355328) :
    Calls Tryd.prog 52 #[v] w fun e w' => e = .returned (.string (wordsL L)) ∧ Below w.heap.size w w' := by
  have hj := join_bound M L hM
  have hl : L.length ≤ 140737488355328 := by
    have : L.length * 1 ≤ L.length * (M + 1) := Nat.mul_le_mul_left _ (by omega)
    omega
  have H : Calls Tryd.prog 77 #[v, .string ⟨#[32]⟩] w fun e w' => e = .returned (.string (wordsL L)) ∧ Below w.heap.size w w' := by
    rcases h.2 with ⟨rfl, h0⟩ | ⟨g, cap, cur, rfl, _, hg, hc, _⟩
    · have : L = [] := List.eq_nil_of_length_eq_zero h0
      subst this
      exact (Tryd.strings_Join_none none 0 ⟨#[32]⟩ w).mono fun _ _ ⟨he, hw⟩ => ⟨he, hw ▸ Below.refl _ _⟩
    · have hgl : g < w.heap.size := by
        rcases Nat.lt_or_ge g w.heap.size with h' | h'
        · exact h'
        · rw [Array.getElem?_eq_none h'] at hg; cases hg
      exact Tryd.strings_Join g 0 cap L ⟨#[32]⟩ w (fun j x hx => by
        have hjl := (List.getElem?_eq_some_iff.1 hx).1
        rw [show 0 + j = j by omega, World.ownsRow.cellAt h j (by omega)]
        simp [strCs, hx]) hgl hl hc (by have : ((⟨#[32]⟩ : ByteArray).data.toList) = [32] := rfl; rw [this]; omega)
  have HJ := Lib.hid H
  clear H h hj hl hM hN
  generalize wordsL L = r at *
  go_enter Tryd.func52, Tryd.ntmps52
  go_wp2_with (go_at_call 77; (with_reducible refine HJ.out.mono ?_); rintro e w1 ⟨rfl, hb1⟩)
  go_ret
  exact ⟨rfl, hb1⟩
end Go.Proofs.YtlomdlblohnfmaaDoor

