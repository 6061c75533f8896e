/- The statements' own comparison of tokens. -/
import Derived.Test.YtncojfcdkigmiaaDoorLayRef
namespace Go.Proofs.YtncojfcdkigmiaaDoor
open Go.RowKit Go.Sort

theorem lexLay_long (a : Option Addr) (n cap : Nat) (w : World) (hn : 16384 < n) :
    Calls Tryd.prog 8 #[.slice a n cap] w fun e w' => e = .returned (.tuple #[.string ⟨#[]⟩, .int .i64 3]) ∧ w = w' := by
  go_enter Tryd.func8, Tryd.ntmps8
  go_wp2
  go_ret2
  exact ⟨rfl, rfl⟩
theorem refLay_long (a : Option Addr) (n cap : Nat) (w : World) (hn : 16384 < n) :
    Calls Tryd.prog 9 #[.slice a n cap] w fun e w' => e = .returned (.tuple #[.string ⟨#[]⟩, .int .i64 3]) ∧ w = w' := by
  go_enter Tryd.func9, Tryd.ntmps9
  go_wp2
  go_ret2
  exact ⟨rfl, rfl⟩

def eqTok (p : Bool) (x y : Tok) : Bool := decide (x.kind = y.kind) && ((!p || decide (x.place = y.place)) && (decide (x.num = y.num) && decide (x.text = y.text)))
def sameB (p : Bool) (A B : List Tok) : Bool := decide (A.length = B.length) && (A.zip B).all fun q => eqTok p q.1 q.2

theorem eq_yes {x y : Tok} (h1 : x.kind = y.kind) (h2 : x.place = y.place) (h3 : x.num = y.num) (h4 : x.text.toList = y.text.toList) : eqTok true x y = true := by
  rw [Lib.toList_data, Lib.toList_data] at h4
  simp [eqTok, h1, h2, h3, toList_eq h4]
theorem eq_no1 {x y : Tok} {p : Bool} (h : ¬ x.kind = y.kind) : eqTok p x y = false := by simp [eqTok, h]
theorem eq_no2 {x y : Tok} (h : ¬ x.place = y.place) : eqTok true x y = false := by simp [eqTok, h]
theorem eq_no3 {x y : Tok} {p : Bool} (h : ¬ x.num = y.num) : eqTok p x y = false := by simp [eqTok, h]
theorem eq_no4 {x y : Tok} {p : Bool} (h : ¬ x.text.toList = y.text.toList) : eqTok p x y = false := by
  have : ¬ x.text = y.text := fun e => h (by rw [e])
  simp [eqTok, this]
theorem same_no {p : Bool} {A B : List Tok} {k : Nat} (h1 : k < A.length) (h2 : k < B.length) (h : eqTok p A[k] B[k] = false) : sameB p A B = false := by
  rw [sameB, Bool.and_eq_false_iff]
  right
  rw [Bool.eq_false_iff]
  intro e
  rw [List.all_eq_true] at e
  have := e (A[k], B[k]) (by rw [← List.getElem_zip (h := by simp; omega)]; exact List.getElem_mem _)
  rw [h] at this; cases this
theorem same_yes {p : Bool} {A B : List Tok} (hl : A.length = B.length) (h : ∀ j (h1 : j < A.length) (h2 : j < B.length), j < A.length → eqTok p A[j] B[j] = true) : sameB p A B = true := by
  rw [sameB, Bool.and_eq_true]
  refine ⟨by simpa using hl, ?_⟩
  rw [List.all_eq_true]
  intro q hq
  obtain ⟨j, hj, rfl⟩ := List.getElem_of_mem hq
  rw [List.length_zip] at hj
  rw [List.getElem_zip]
  exact h j (by omega) (by omega) (by omega)
theorem ret_bool {a b : Bool} (h : a = b) : Ending.returned (.bool a) = .returned (.bool b) := by rw [h]

set_option maxHeartbeats 4000000 in
theorem same_true (a b : Option Addr) (ca cb : Nat) (A B : List Tok) (w : World) (hA : IsToks w.heap.size w a A) (hB : IsToks w.heap.size w b B) (hn : A.length ≤ 1048576) (hl : A.length = B.length) :
    Calls Tryd.prog 10 #[.slice a A.length ca, .slice b B.length cb, .bool true] w fun e w' => e = .returned (.bool (sameB true A B)) ∧ Below w.heap.size w w' := by
  have HA := Lib.hid hA
  have HB := Lib.hid hB
  have HE := Lib.hid hl
  clear hA hB
  rw [← hl]
  clear hl
  go_enter Tryd.func10, Tryd.ntmps10
  go_wp2_with fail
  go_loopw [7] (fun i wr => ∃ k : Nat, k ≤ A.length ∧ i = .int .i64 k ∧ Hid (∀ j (h1 : j < A.length) (h2 : j < B.length), j < k → eqTok true A[j] B[j] = true) ∧ Below w.heap.size w wr) (fun i _ => A.length - (intOf i).toNat)
  case atStart => exact ⟨0, Nat.zero_le _, rfl, fun j _ _ h => by omega, Below.refl _ _⟩
  case round =>
    obtain ⟨k, hk, rfl, hno, hb⟩ := hrel
    have HA1 := Lib.hid (HA.out.below hb (Nat.le_refl _))
    have HB1 := Lib.hid (HB.out.below hb (Nat.le_refl _))
    have HBl := Lib.hid hb
    have hsz := hb.size
    clear hb
    by_cases hlt : k < A.length
    · have hltB : k < B.length := by have := HE.out; omega
      obtain ⟨b1, o1, rfl, hb1, hr1⟩ := HA1.out (by intro h; rw [h] at hlt; simp at hlt)
      obtain ⟨b2, o2, rfl, hb2, hr2⟩ := HB1.out (by intro h; rw [h] at hltB; simp at hltB)
      obtain ⟨c0, c1, c2, c3⟩ := hr1 k A[k] (List.getElem?_eq_getElem hlt)
      obtain ⟨d0, d1, d2, d3⟩ := hr2 k B[k] (List.getElem?_eq_getElem hltB)
      clear hr1 hr2
      have l1 : b1 < wr.heap.size := by omega
      have l2 : b2 < wr.heap.size := by omega
      have l3 : b1 < wr.heap.size + 1 := by omega
      have l4 : b2 < wr.heap.size + 1 := by omega
      go_wp2_with fail
      go_region
      all_goals go_wp2
      all_goals first
        | (go_roundw
           case rel => exact ⟨k + 1, by omega, by go_num, fun j h1 h2 h => by
             rcases Nat.lt_or_ge j k with h' | h'
             · exact hno.out j h1 h2 h'
             · obtain rfl : j = k := by omega
               exact eq_yes ‹_› ‹_› ‹_› ‹_›, by repeat (first | exact HBl.out | apply Below.drew | refine Below.alloc ?_ (by first | omega | (simp; omega)) _)⟩
           case measure => simp [intOf]; omega)
        | (go_ret
           refine ⟨ret_bool (same_no hlt hltB ?_).symm, by repeat (first | exact HBl.out | apply Below.drew | refine Below.alloc ?_ (by first | omega | (simp; omega)) _)⟩
           first | exact eq_no1 ‹_› | exact eq_no2 ‹_› | exact eq_no3 ‹_› | exact eq_no4 ‹_›)
    · obtain rfl : k = A.length := by omega
      have hfin := Lib.hid (same_yes HE.out hno.out)
      clear hno
      go_wp2
      go_ret
      exact ⟨ret_bool hfin.out.symm, HBl.out⟩


end Go.Proofs.YtncojfcdkigmiaaDoor
