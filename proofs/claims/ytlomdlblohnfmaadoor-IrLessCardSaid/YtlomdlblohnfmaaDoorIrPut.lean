/- A line is written. -/
import Derived.Test.YtlomdlblohnfmaaDoorIrBld
import Derived.Test.YtlomdlblohnfmaaDoorIrLine
namespace Go.Proofs.YtlomdlblohnfmaaDoor
open Go.RowKit

/-- the writer holds some bytes -/
def WriterAt (B b : Nat) (l : List UInt8) (w : World) : Prop := Lib.IsBuilder 93 5 B b (Lib.byteCells l) w
theorem WriterAt.base {B b : Nat} {l : List UInt8} {w : World} (h : WriterAt B b l w) : B ≤ b ∧ b < w.heap.size := by
  rcases h with h | h
  · obtain ⟨hB, v, hb, _⟩ := h
    exact ⟨hB, lt_of_heap hb⟩
  · obtain ⟨hB, v, hb, _⟩ := h
    exact ⟨hB, lt_of_heap hb⟩
theorem WriterAt.below {B b : Nat} {l : List UInt8} {w w' : World} (h : WriterAt B b l w) (hb : Below w.heap.size w w') : WriterAt B b l w' := by
  have key : ∀ p, Lib.BuilderAt 93 5 B b p (Lib.byteCells l) w → Lib.BuilderAt 93 5 B b p (Lib.byteCells l) w' := fun p ⟨hB, v, hbk, hown, hne⟩ =>
    ⟨hB, v, (hb.block b (lt_of_heap hbk)).trans hbk, World.ownsRow.belowed hown hb, hne⟩
  exact h.imp (key _) (key _)
/-- a line more, while there is room -/
def putL (l : List UInt8) (s : ByteArray) : List UInt8 := if l.length ≤ 1048576 then l ++ (s.data.toList ++ [10]) else l
theorem putL_len (l : List UInt8) (s : ByteArray) (hs : s.size ≤ 140000000000000) (h : l.length ≤ 140000001048577) : (putL l s).length ≤ 140000001048577 := by
  unfold putL
  split
  · have h1 : s.data.toList.length = s.size := by rw [Array.length_toList]; rfl
    rw [List.length_append, List.length_append, h1, List.length_singleton]
    omega
  · exact h
theorem put_ok (B b : Nat) (l : List UInt8) (s : ByteArray) (w : World) (h : WriterAt B b l w) (hs : s.size ≤ 140000000000000) (hl : l.length ≤ 140000001048577) (hB : B ≤ w.heap.size) :
    Calls Tryd.prog 29 #[.pointer (some ⟨b, 0, none⟩), .string s] w fun e w' => e = .returned (.tuple #[]) ∧ WriterAt B b (putL l s) w' ∧ Below B w w' ∧ KeepT b w w' := by
  have hlen := wLen B b (Lib.byteCells l) w h
  rw [Lib.byteCells_length] at hlen
  have HLn := Lib.hid hlen
  by_cases hc : l.length ≤ 1048576
  · have ha : ∀ w, (Op.stringOp .add s (⟨#[10]⟩ : ByteArray)).run Tryd.prog w = .ok (.string (s ++ ⟨#[10]⟩)) w := fun w => run_string_add_sum w _ _ (by have : (⟨#[10]⟩ : ByteArray).size = 1 := rfl; omega)
    have hsz : (s ++ ⟨#[10]⟩ : ByteArray).size = s.size + 1 := by rw [ByteArray.size_append]; rfl
    have hst := wstr B b (Lib.byteCells l) (s ++ ⟨#[10]⟩) w h (by rw [Lib.byteCells_length, hsz]; omega) hB
    have he : Lib.byteCells l ++ Lib.strCells (s ++ ⟨#[10]⟩) = Lib.byteCells (putL l s) := by
      unfold putL
      rw [if_pos hc]
      simp [Lib.byteCells, Lib.strCells]
    rw [he] at hst
    have HSt := Lib.hid hst
    have hci : (l.length : Int) ≤ 1048576 := by omega
    clear he hst hsz hlen h hs hl hc hB
    generalize putL l s = l2 at *
    generalize s ++ (⟨#[10]⟩ : ByteArray) = s2 at *
    go_enter Tryd.func29, Tryd.ntmps29
    go_wp2_with (first | (go_at_call 34; refine HLn.out.mono ?_; rintro e w1 ⟨rfl, hw1⟩; subst w1) | (go_at_call 53; refine HSt.out.mono ?_; rintro e w2 ⟨rfl, h2, hb2, hk2⟩; have H2 := Lib.hid (And.intro h2 (And.intro hb2 hk2)); clear h2 hb2 hk2))
    go_end0
    exact ⟨rfl, H2.out⟩
  · have he : putL l s = l := by unfold putL; rw [if_neg hc]
    rw [he]
    have hci : ¬ (l.length : Int) ≤ 1048576 := by omega
    have H2 := Lib.hid h
    clear hlen he h hs hl hc
    go_enter Tryd.func29, Tryd.ntmps29
    go_wp2_with (first | (go_at_call 34; refine HLn.out.mono ?_; rintro e w1 ⟨rfl, hw1⟩; subst w1))
    go_end0
    exact ⟨rfl, H2.out, Below.refl _ _, KeepT.refl _ _⟩
end Go.Proofs.YtlomdlblohnfmaaDoor

