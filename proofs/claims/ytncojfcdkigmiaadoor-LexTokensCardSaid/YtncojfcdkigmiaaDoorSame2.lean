/- The statements' own comparison of tokens: places left out. -/
import Derived.Test.YtncojfcdkigmiaaDoorLexLays
import Derived.Test.YtncojfcdkigmiaaDoorRuns
namespace Go.Proofs.YtncojfcdkigmiaaDoor
open Go.RowKit Go.Sort

theorem eq_yes2 {x y : Tok} (h1 : x.kind = y.kind) (h3 : x.num = y.num) (h4 : x.text.toList = y.text.toList) : eqTok false x y = true := by
  rw [Lib.toList_data, Lib.toList_data] at h4
  simp [eqTok, h1, h3, toList_eq h4]

set_option maxHeartbeats 4000000 in
theorem same_false (a b : Option Addr) (ca cb : Nat) (A B : List Tok) (w : World) (hA : IsToks w.heap.size w a A) (hB : IsToks w.heap.size w b B) (hn : A.length ≤ 1048576) (hl : A.length = B.length) :
    Calls Tryd.prog 10 #[.slice a A.length ca, .slice b B.length cb, .bool false] w fun e w' => e = .returned (.bool (sameB false A B)) ∧ Below w.heap.size w w' := by
  have HA := Lib.hid hA
  have HB := Lib.hid hB
  have HE := Lib.hid hl
  clear hA hB
  rw [← hl]
  clear hl
  go_enter Tryd.func10, Tryd.ntmps10
  go_wp2_with fail
  go_loopw [7] (fun i wr => ∃ k : Nat, k ≤ A.length ∧ i = .int .i64 k ∧ Hid (∀ j (h1 : j < A.length) (h2 : j < B.length), j < k → eqTok false A[j] B[j] = true) ∧ Below w.heap.size w wr) (fun i _ => A.length - (intOf i).toNat)
  case atStart => exact ⟨0, Nat.zero_le _, rfl, fun j _ _ h => by omega, Below.refl _ _⟩
  case round =>
    obtain ⟨k, hk, rfl, hno, hb⟩ := hrel
    have HA1 := Lib.hid (HA.out.below hb (Nat.le_refl _))
    have HB1 := Lib.hid (HB.out.below hb (Nat.le_refl _))
    have HBl := Lib.hid hb
    have hsz := hb.size
    clear hb
    by_cases hlt : k < A.length
    · have hltB : k < B.length := by have := HE.out; omega
      obtain ⟨b1, o1, rfl, hb1, hr1⟩ := HA1.out (by intro h; rw [h] at hlt; simp at hlt)
      obtain ⟨b2, o2, rfl, hb2, hr2⟩ := HB1.out (by intro h; rw [h] at hltB; simp at hltB)
      obtain ⟨c0, c1, c2, c3⟩ := hr1 k A[k] (List.getElem?_eq_getElem hlt)
      obtain ⟨d0, d1, d2, d3⟩ := hr2 k B[k] (List.getElem?_eq_getElem hltB)
      clear hr1 hr2
      have l1 : b1 < wr.heap.size := by omega
      have l2 : b2 < wr.heap.size := by omega
      have l3 : b1 < wr.heap.size + 1 := by omega
      have l4 : b2 < wr.heap.size + 1 := by omega
      go_wp2_with fail
      go_region
      all_goals go_wp2
      all_goals first
        | (go_roundw
           case rel => exact ⟨k + 1, by omega, by go_num, fun j h1 h2 h => by
             rcases Nat.lt_or_ge j k with h' | h'
             · exact hno.out j h1 h2 h'
             · obtain rfl : j = k := by omega
               exact eq_yes2 ‹_› ‹_› ‹_›, by repeat (first | exact HBl.out | apply Below.drew | refine Below.alloc ?_ (by first | omega | (simp; omega)) _)⟩
           case measure => simp [intOf]; omega)
        | (go_ret
           refine ⟨ret_bool (same_no hlt hltB ?_).symm, by repeat (first | exact HBl.out | apply Below.drew | refine Below.alloc ?_ (by first | omega | (simp; omega)) _)⟩
           first | exact eq_no1 ‹_› | exact eq_no3 ‹_› | exact eq_no4 ‹_›)
    · obtain rfl : k = A.length := by omega
      have hfin := Lib.hid (same_yes HE.out hno.out)
      clear hno
      go_wp2
      go_ret
      exact ⟨ret_bool hfin.out.symm, HBl.out⟩

theorem unp_eq {x y : Tok} (h : unp x = unp y) : eqTok false x y = true := by
  simp only [unp, Tok.mk.injEq] at h
  simp [eqTok, h]
theorem same_unp {A B : List Tok} (h : A.map unp = B.map unp) : sameB false A B = true := by
  have hl : A.length = B.length := by have := congrArg List.length h; simpa using this
  refine same_yes hl fun j h1 h2 _ => unp_eq ?_
  have : (A.map unp)[j]? = (B.map unp)[j]? := by rw [h]
  rw [List.getElem?_map, List.getElem?_map, List.getElem?_eq_getElem h1, List.getElem?_eq_getElem h2] at this
  simpa using this
theorem same_is2 (a b : Option Addr) (n ca cb : Nat) (A B : List Tok) (w : World) (hA : IsToks w.heap.size w a A) (hB : IsToks w.heap.size w b B) (hn : n ≤ 1048576) (h1 : A.length = n) (h2 : B.length = n) (h : A.map unp = B.map unp) :
    Calls Tryd.prog 10 #[.slice a n ca, .slice b n cb, .bool false] w fun e w' => e = .returned (.bool true) ∧ Below w.heap.size w w' := by
  have := same_false a b ca cb A B w hA hB (by omega) (by omega)
  rw [h1, h2] at this
  exact this.mono fun _ _ ⟨he, hb⟩ => ⟨by rw [he, same_unp h], hb⟩
theorem same_is1 (a b : Option Addr) (n ca cb : Nat) (L : List Tok) (w : World) (hA : IsToks w.heap.size w a L) (hB : IsToks w.heap.size w b L) (hn : n ≤ 1048576) (h1 : L.length = n) :
    Calls Tryd.prog 10 #[.slice a n ca, .slice b n cb, .bool true] w fun e w' => e = .returned (.bool true) ∧ Below w.heap.size w w' := by
  subst h1; exact same_is a b ca cb L w hA hB hn

end Go.Proofs.YtncojfcdkigmiaaDoor
