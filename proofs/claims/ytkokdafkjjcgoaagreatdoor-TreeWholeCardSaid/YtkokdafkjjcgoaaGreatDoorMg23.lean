/- Check, Parts, Sub: the program, the reference. · Going over a tree: the program's walk, whatever a round does. · Any tree is judged, and taken apart, as the document says: the law's walk. · Walk: what is handed back. · Going over a tree, where a round makes a row longer: the program's walk. · The walk of LexPlaces. · A token that is laid is read again: plainly, no program here. · Tokens that are laid, with any blank behind each, are read again: plainly, no program here. -/
import Derived.Test.YtkokdafkjjcgoaaGreatDoorMg22
import Derived.RangeFuncNested
import Derived.RangeFuncBound
import Derived.RangeFuncCalls
import Derived.RangeFuncLeaves
import Derived.Shelf.Abstract
import Derived.WalkKit
import Derived.OwnWalkIn
import Derived.TacticsInMore
import Derived.LoopNIn
import Derived.LoopIn
import Derived.Test.YtkokdafkjjcgoaaGreatDoorMg10
import Derived.Test.YtkokdafkjjcgoaaGreatDoorMg9
import Derived.Test.YtkokdafkjjcgoaaGreatDoorMg3
import Derived.Test.YtkokdafkjjcgoaaGreatDoorMg8
import Derived.Deep.LoopGhost
import Derived.Deep.DeepCutAuto
namespace Go.Proofs.YtkokdafkjjcgoaaGreatDoor
open Go.RowKit

section
variable (a : Option Addr) (cap : Nat) (t : List Nd) (w : World) (hE : TE w) (hI : IsNds w.heap.size w a t) (hOk : ∀ x ∈ t, NdOk x) (hz : t.length * 64 ≤ 140737488351232)
include hE hI hOk hz
theorem looked_0 (h : checkN9 t = 0) : Calls Tryz.prog 37 #[.slice a t.length cap] w fun e w' => (∃ (b : Option Addr) (capb : Nat) (fr : List Nat), e = .returned (.tuple #[.agg #[.slice a t.length cap, .slice b fr.length capb], .int .i64 0]) ∧ beginsN t = some fr ∧ Given t fr ∧ WholeAt w' a b t fr ∧ FarB w b) ∧ Below w.heap.size w w' :=
  (looked_ok a cap t w hE hI hOk hz).mono fun e w' ⟨hd, hb⟩ => ⟨by rcases hd with ⟨_, h'⟩ | ⟨h', _⟩; exact h'; exact absurd h h', hb⟩
theorem looked_n (h : checkN9 t ≠ 0) : Calls Tryz.prog 37 #[.slice a t.length cap] w fun e w' => e = .returned (.tuple #[.agg #[.slice none 0 0, .slice none 0 0], .int .i64 (checkN9 t)]) ∧ Below w.heap.size w w' :=
  (looked_ok a cap t w hE hI hOk hz).mono fun e w' ⟨hd, hb⟩ => ⟨by rcases hd with ⟨h', _⟩ | ⟨_, h'⟩; exact absurd h' h; exact h', hb⟩
theorem treeCheck_ok : Calls Tryz.prog 10 #[.slice a t.length cap] w fun e w' => e = .returned (.int .i64 (checkN9 t)) ∧ Below w.heap.size w w' := by
  by_cases h : checkN9 t = 0
  · have HL := Lib.hid (looked_0 a cap t w hE hI hOk hz h)
    rw [h]
    clear hE hI hOk h
    go_enter Tryz.func10, Tryz.ntmps10
    go_wp2_with (go_at_call 37; (with_reducible refine HL.out.mono ?_); rintro e w1 ⟨⟨b, capb, fr, rfl, _⟩, hb1⟩; have HB := Lib.hid hb1; clear hb1)
    go_ret
    exact ⟨rfl, HB.out.trans ((ba1 _ _).mono HB.out.size)⟩
  · have HL := Lib.hid (looked_n a cap t w hE hI hOk hz h)
    generalize checkN9 t = c at *
    clear hE hI hOk h
    go_enter Tryz.func10, Tryz.ntmps10
    go_wp2_with (go_at_call 37; (with_reducible refine HL.out.mono ?_); rintro e w1 ⟨rfl, hb1⟩; have HB := Lib.hid hb1; clear hb1)
    go_ret
    exact ⟨rfl, HB.out.trans ((ba1 _ _).mono HB.out.size)⟩
end
/-- what Parts answers -/
def partsR (t : List Nd) (i : Int) : List Nat × Int :=
  if checkN9 t ≠ 0 then ([], checkN9 t) else if i < 0 ∨ (t.length : Int) ≤ i then ([], 1) else (partsAt t ((beginsN t).getD []) i.toNat, 0)
def PartsEnd (t : List Nd) (i : Int) (w : World) (e : Ending) (w' : World) : Prop := (∃ v, e = .returned (.tuple #[v, .int .i64 (partsR t i).2]) ∧ NatRow w' w.heap.size v (partsR t i).1) ∧ Below w.heap.size w w'
theorem nat_nil (w : World) (base : Nat) : NatRow w base (.slice none 0 0) [] := ⟨rfl, .inl ⟨rfl, rfl⟩⟩
theorem partsEnd_no {t : List Nd} {i : Int} {w w' : World} {c : Int} (h : partsR t i = ([], c)) (hb : Below w.heap.size w w') : PartsEnd t i w (.returned (.tuple #[.slice none 0 0, .int .i64 c])) w' := ⟨⟨_, by rw [h], by rw [h]; exact nat_nil _ _⟩, hb⟩
theorem partsEnd_yes {t : List Nd} {i : Int} {w w' : World} {v : Value} {L : List Nat} (h : partsR t i = (L, 0)) (hr : NatRow w' w.heap.size v L) (hb : Below w.heap.size w w') : PartsEnd t i w (.returned (.tuple #[v, .int .i64 0])) w' := ⟨⟨_, by rw [h], by rw [h]; exact hr⟩, hb⟩
theorem partsR_bad {t : List Nd} {i : Int} (h : checkN9 t ≠ 0) : partsR t i = ([], checkN9 t) := by unfold partsR; rw [if_pos h]
theorem partsR_out {t : List Nd} {i : Int} (h : checkN9 t = 0) (hi : i < 0 ∨ (t.length : Int) ≤ i) : partsR t i = ([], 1) := by unfold partsR; rw [if_neg (by rw [h]; decide), if_pos hi]
theorem partsR_in {t : List Nd} {k : Nat} {fr : List Nat} (h : checkN9 t = 0) (hk : k < t.length) (hb : beginsN t = some fr) : partsR t (k : Int) = (partsAt t fr k, 0) := by
  unfold partsR
  rw [if_neg (by rw [h]; decide), if_neg (by omega), hb]
  rfl
theorem check_formed {t : List Nd} (h : checkN9 t = 0) : ∃ fr, beginsN t = some fr ∧ Given t fr := by
  unfold checkN9 at h
  split at h
  · cases h
  split at h
  · cases h
  rename_i hl hw
  split at h
  · cases h
  rename_i fr hb
  exact ⟨fr, hb, given_of (by omega) (by simpa using hw) hb⟩

set_option maxHeartbeats 4000000 in
theorem treeParts_ok (a : Option Addr) (cap : Nat) (t : List Nd) (i : Int) (w : World) (hE : TE w) (hI : IsNds w.heap.size w a t) (hOk : ∀ x ∈ t, NdOk x) (hz : t.length * 64 ≤ 140737488351232) :
    Calls Tryz.prog 12 #[.slice a t.length cap, .int .i64 i] w (PartsEnd t i w) := by
  have hmx : (t.length : Int) ≤ 2199023255488 := by omega
  by_cases h : checkN9 t = 0
  · have HL := Lib.hid (looked_0 a cap t w hE hI hOk hz h)
    have HC := Lib.hid h
    clear hE hI hOk h
    rcases Int.lt_or_le i 0 with h0 | h0
    · have hv := Lib.hid (partsR_out HC.out (.inl h0))
      have t1 : decide (i < 0) = true := decide_eq_true h0
      go_enter Tryz.func12, Tryz.ntmps12
      go_wp2_with (go_at_call 37; (with_reducible refine HL.out.mono ?_); rintro e w1 ⟨⟨b, capb, fr, rfl, _⟩, hb1⟩; have HB := Lib.hid hb1; clear hb1)
      go_ret2
      exact partsEnd_no hv.out (HB.out.trans ((ba1 _ _).mono HB.out.size))
    have t1 : decide (i < 0) = false := decide_eq_false (by omega)
    rcases Int.lt_or_le i t.length with h1 | h1
    · obtain ⟨k, rfl⟩ : ∃ k : Nat, i = (k : Int) := ⟨i.toNat, by omega⟩
      have t2 : decide ((t.length : Int) ≤ (k : Int)) = false := decide_eq_false (by omega)
      have hk : k < t.length := by omega
      have HP := Lib.hid (fun b capb fr (hG : Given t fr) w (hW : WholeAt w a b t fr) => tparts_ok a cap t b capb fr w hW.nds hW.nats hG.le hG.formed k hk)
      go_enter Tryz.func12, Tryz.ntmps12
      go_upto_region 6 with (go_at_call 37; (with_reducible refine HL.out.mono ?_); rintro e w1 ⟨⟨b, capb, fr, rfl, hbe, hG, hW, _⟩, hb1⟩; have HB := Lib.hid hb1; have HBe := Lib.hid hbe; have HG := Lib.hid hG; have HW := Lib.hid hW; clear hb1 hbe hG hW)
      have hv := Lib.hid (partsR_in HC.out hk HBe.out)
      have HB2 := Lib.hid (HB.out.trans ((ba1 w1 (.cells #[.slice a t.length cap, .slice b fr.length capb] 81)).mono HB.out.size))
      have HP1 := Lib.hid (HP.out b capb fr HG.out _ (HW.out.below (ba1 w1 (.cells #[.slice a t.length cap, .slice b fr.length capb] 81))))
      go_wp2_with (go_at_call 42; (with_reducible refine HP1.out.mono ?_); rintro e w2 ⟨⟨v, rfl, hr⟩, hb2⟩; have HR := Lib.hid hr; have HB3 := Lib.hid hb2; clear hr hb2)
      go_ret2
      exact partsEnd_yes hv.out (own_le9 HR.out HB2.out.size) (HB2.out.trans (HB3.out.mono HB2.out.size))
    · have hv := Lib.hid (partsR_out HC.out (.inr h1))
      have t2 : decide ((t.length : Int) ≤ i) = true := decide_eq_true h1
      go_enter Tryz.func12, Tryz.ntmps12
      go_wp2_with (go_at_call 37; (with_reducible refine HL.out.mono ?_); rintro e w1 ⟨⟨b, capb, fr, rfl, _⟩, hb1⟩; have HB := Lib.hid hb1; clear hb1)
      go_ret2
      exact partsEnd_no hv.out (HB.out.trans ((ba1 _ _).mono HB.out.size))
  · have HL := Lib.hid (looked_n a cap t w hE hI hOk hz h)
    have hv := Lib.hid (partsR_bad (i := i) h)
    have t3 : (checkN9 t != 0) = true := by simpa using h
    generalize checkN9 t = c at *
    clear hE hI hOk h
    go_enter Tryz.func12, Tryz.ntmps12
    go_wp2_with (go_at_call 37; (with_reducible refine HL.out.mono ?_); rintro e w1 ⟨rfl, hb1⟩; have HB := Lib.hid hb1; clear hb1)
    go_ret2
    exact partsEnd_no hv.out (HB.out.trans ((ba1 _ _).mono HB.out.size))

/-- what Sub answers -/
def subT (t : List Nd) (fr : List Nat) (k : Nat) : List Nd := (t.drop (fr.getD k 0)).take (k + 1 - fr.getD k 0)
def subR (t : List Nd) (i : Int) : List Nd × Int :=
  if checkN9 t ≠ 0 then ([], checkN9 t) else if i < 0 ∨ (t.length : Int) ≤ i then ([], 1) else (subT t ((beginsN t).getD []) i.toNat, 0)
def SubEnd (t : List Nd) (i : Int) (w : World) (e : Ending) (w' : World) : Prop := (∃ v, e = .returned (.tuple #[v, .int .i64 (subR t i).2]) ∧ NdRow w' w.heap.size v (subR t i).1) ∧ Below w.heap.size w w'
theorem nd_nil (w : World) (base : Nat) : NdRow w base (.slice none 0 0) [] := ⟨rfl, .inl ⟨rfl, rfl⟩⟩
theorem subEnd_no {t : List Nd} {i : Int} {w w' : World} {c : Int} (h : subR t i = ([], c)) (hb : Below w.heap.size w w') : SubEnd t i w (.returned (.tuple #[.slice none 0 0, .int .i64 c])) w' := ⟨⟨_, by rw [h], by rw [h]; exact nd_nil _ _⟩, hb⟩
theorem subEnd_yes {t : List Nd} {i : Int} {w w' : World} {v : Value} {L : List Nd} (h : subR t i = (L, 0)) (hr : NdRow w' w.heap.size v L) (hb : Below w.heap.size w w') : SubEnd t i w (.returned (.tuple #[v, .int .i64 0])) w' := ⟨⟨_, by rw [h], by rw [h]; exact hr⟩, hb⟩
theorem subR_bad {t : List Nd} {i : Int} (h : checkN9 t ≠ 0) : subR t i = ([], checkN9 t) := by unfold subR; rw [if_pos h]
theorem subR_out {t : List Nd} {i : Int} (h : checkN9 t = 0) (hi : i < 0 ∨ (t.length : Int) ≤ i) : subR t i = ([], 1) := by unfold subR; rw [if_neg (by rw [h]; decide), if_pos hi]
theorem subR_in {t : List Nd} {k : Nat} {fr : List Nat} (h : checkN9 t = 0) (hk : k < t.length) (hb : beginsN t = some fr) : subR t (k : Int) = (subT t fr k, 0) := by
  unfold subR
  rw [if_neg (by rw [h]; decide), if_neg (by omega), hb]
  rfl
theorem subT_len {t : List Nd} {fr : List Nat} {k : Nat} (hk : k < t.length) (h : fr.getD k 0 ≤ k) : (subT t fr k).length = k + 1 - fr.getD k 0 := by
  unfold subT
  rw [List.length_take, List.length_drop]
  omega
theorem sub_nds {B : Nat} {w : World} {b off : Nat} {t : List Nd} {f m : Nat} (h : IsNds B w (some ⟨b, off, none⟩) t) : IsNds B w (some ⟨b, off + f * 6, none⟩) ((t.drop f).take m) := fun hn => by
  have ht : t ≠ [] := fun e => hn (by rw [e]; simp)
  obtain ⟨b2, off2, ha, hlt, hc⟩ := h ht
  obtain ⟨rfl, rfl⟩ : b = b2 ∧ off = off2 := by simpa using ha
  refine ⟨b, off + f * 6, rfl, hlt, fun i x hx j u hu => ?_⟩
  have h1 : i < m := by
    rcases Nat.lt_or_ge i m with h | h
    · exact h
    · rw [List.getElem?_take, if_neg (by omega)] at hx; cases hx
  rw [List.getElem?_take, if_pos h1, List.getElem?_drop] at hx
  have := hc (f + i) x hx j u hu
  rw [show off + f * 6 + i * 6 + j = off + (f + i) * 6 + j by omega]
  exact this

set_option maxHeartbeats 4000000 in
theorem treeSub_ok (a : Option Addr) (cap : Nat) (t : List Nd) (i : Int) (w : World) (hE : TE w) (hI : IsNds w.heap.size w a t) (hOk : ∀ x ∈ t, NdOk x) (hz : t.length * 64 ≤ 140737488351232) (hcap : t.length ≤ cap) (hcm : cap ≤ maxLen) :
    Calls Tryz.prog 15 #[.slice a t.length cap, .int .i64 i] w (SubEnd t i w) := by
  have hmx : (t.length : Int) ≤ 2199023255488 := by omega
  unfold maxLen at hcm
  by_cases h : checkN9 t = 0
  · have HL := Lib.hid (looked_0 a cap t w hE hI hOk hz h)
    have HC := Lib.hid h
    have HI := Lib.hid hI
    clear hE hI hOk h
    rcases Int.lt_or_le i 0 with h0 | h0
    · have hv := Lib.hid (subR_out HC.out (.inl h0))
      have t1 : decide (i < 0) = true := decide_eq_true h0
      go_enter Tryz.func15, Tryz.ntmps15
      go_wp2_with (go_at_call 37; (with_reducible refine HL.out.mono ?_); rintro e w1 ⟨⟨b, capb, fr, rfl, _⟩, hb1⟩; have HB := Lib.hid hb1; clear hb1)
      go_ret2
      exact subEnd_no hv.out (HB.out.trans ((ba1 _ _).mono HB.out.size))
    have t1 : decide (i < 0) = false := decide_eq_false (by omega)
    rcases Int.lt_or_le i t.length with h1 | h1
    · obtain ⟨k, rfl⟩ : ∃ k : Nat, i = (k : Int) := ⟨i.toNat, by omega⟩
      have t2 : decide ((t.length : Int) ≤ (k : Int)) = false := decide_eq_false (by omega)
      have hk : k < t.length := by omega
      obtain ⟨bb, oo, ha, hbl, _⟩ := nds_at HI.out hk
      subst ha
      go_enter Tryz.func15, Tryz.ntmps15
      go_upto_region 6 with (go_at_call 37; (with_reducible refine HL.out.mono ?_); rintro e w1 ⟨⟨b, capb, fr, rfl, hbe, hG, hW, _⟩, hb1⟩; have HB := Lib.hid hb1; have HBe := Lib.hid hbe; have HG := Lib.hid hG; have HW := Lib.hid hW; clear hb1 hbe hG hW)
      have hv := Lib.hid (subR_in HC.out hk HBe.out)
      have hfk := (HG.out.formed.node k _ (List.getElem?_eq_getElem hk)).2.2
      have hsl := subT_len hk hfk
      have hfl : k < fr.length := by have := HG.out.formed.len; omega
      have hx2 : (w1.alloc (.cells #[.slice (some ⟨bb, oo, none⟩) t.length cap, .slice b fr.length capb] 81)).heap[w1.heap.size]? = some (.cells #[.slice (some ⟨bb, oo, none⟩) t.length cap, .slice b fr.length capb] 81 (0, 0)) := heap_alloc_new _ _
      have hb2 := ba1 w1 (.cells #[.slice (some ⟨bb, oo, none⟩) t.length cap, .slice b fr.length capb] 81)
      generalize w1.alloc (.cells #[.slice (some ⟨bb, oo, none⟩) t.length cap, .slice b fr.length capb] 81) = w2 at *
      have HB2 := Lib.hid (HB.out.trans (hb2.mono HB.out.size))
      have HW2 := Lib.hid (HW.out.below hb2)
      obtain ⟨⟨z0, z1⟩, _⟩ := two_block hx2
      obtain ⟨bf, of, hbf, hbl2, c3⟩ := nats_at HW2.out.nats hfl
      subst hbf
      clear hx2 hb2
      rw [List.getD_eq_getElem?_getD, List.getElem?_eq_getElem hfl, Option.getD_some] at hfk hsl
      obtain ⟨f, hf⟩ : ∃ f, f = fr[k] := ⟨_, rfl⟩
      rw [← hf] at hfk hsl c3
      have hS : subT t fr k = (t.drop f).take (k + 1 - f) := by unfold subT; rw [List.getD_eq_getElem?_getD, List.getElem?_eq_getElem hfl, Option.getD_some, ← hf]
      have HC1 := Lib.hid (clone_ok bb (oo + f * 6) (cap - f) (subT t fr k) w2 (by rw [hS]; exact sub_nds HW2.out.nds) (by omega))
      rw [hsl] at HC1
      clear hf hS hsl
      go_wp2_with (go_at_call 44; go_loud (with_reducible refine HC1.out.mono ?_); rintro e w3 ⟨⟨v, rfl, hr⟩, hb3⟩; have HR := Lib.hid hr; have HB3 := Lib.hid hb3; clear hr hb3)
      go_ret2
      exact subEnd_yes hv.out (own_le9 HR.out HB2.out.size) (HB2.out.trans (HB3.out.mono HB2.out.size))
    · have hv := Lib.hid (subR_out HC.out (.inr h1))
      have t2 : decide ((t.length : Int) ≤ i) = true := decide_eq_true h1
      go_enter Tryz.func15, Tryz.ntmps15
      go_wp2_with (go_at_call 37; (with_reducible refine HL.out.mono ?_); rintro e w1 ⟨⟨b, capb, fr, rfl, _⟩, hb1⟩; have HB := Lib.hid hb1; clear hb1)
      go_ret2
      exact subEnd_no hv.out (HB.out.trans ((ba1 _ _).mono HB.out.size))
  · have HL := Lib.hid (looked_n a cap t w hE hI hOk hz h)
    have hv := Lib.hid (subR_bad (i := i) h)
    have t3 : (checkN9 t != 0) = true := by simpa using h
    generalize checkN9 t = c at *
    clear hE hI hOk h
    go_enter Tryz.func15, Tryz.ntmps15
    go_wp2_with (go_at_call 37; (with_reducible refine HL.out.mono ?_); rintro e w1 ⟨rfl, hb1⟩; have HB := Lib.hid hb1; clear hb1)
    go_ret2
    exact subEnd_no hv.out (HB.out.trans ((ba1 _ _).mono HB.out.size))

end Go.Proofs.YtkokdafkjjcgoaaGreatDoor
namespace Go.Proofs.YtkokdafkjjcgoaaGreatDoor
open Go.RowKit Go.Shelf

attribute [local go_sem] Oper.semAt_some

theorem grown_none {W W' : World} (h : Below W.heap.size W W') : W.grownBy W' none := ⟨h.os, h.tape, h.output, h.size, fun k hk _ => h.block k hk⟩
theorem abides_below {β : Type} {B : Nat} {J : β → World → Prop} (h : AbidesFrom B J) {s : β} {W W' : World} (hs : J s W) (hb : Below W.heap.size W W') : J s W' := h s W W' none hs (grown_none hb) (fun _ e => by cases e)
/-- numbers of one's own lie in a block that was not there -/
theorem nat_far_any {w : World} {base : Nat} {v : Value} {L : List Nat} (h : NatRow w base v L) : ∀ (g off n cap : Nat), v = .slice (some ⟨g, off, none⟩) n cap → L.length ≠ 0 → base ≤ g := fun g off n cap hv hn => by
  obtain ⟨g2, cap2, hv2, hb, _⟩ := h.far (fun e => hn (by rw [e]; rfl))
  rw [hv] at hv2
  simp only [Value.slice.injEq, Option.some.injEq, Addr.mk.injEq] at hv2
  omega
/-- a place in a tree, and how deep it is -/
abbrev Elt (t : List Nd) : Type := { x : Nat × Nat // x.1 < t.length }
def eltV {t : List Nd} (x : Elt t) : Array Value := #[.int .i64 (x.1.1 : Int), .int .i64 (x.1.2 : Int)]
def elts {t : List Nd} (l : List (Elt t)) : List (Nat × Nat) := l.map Subtype.val
theorem elts_app {t : List Nd} (l m : List (Elt t)) : elts (l ++ m) = elts l ++ elts m := List.map_append
theorem elts_len {t : List Nd} (l : List (Elt t)) : (elts l).length = l.length := List.length_map ..
/-- what has come when i parts are over -/
def doneF (t : List Nd) (fr P : List Nat) (d i : Nat) : List (Nat × Nat) := (P.take i).flatMap fun p => walkN t fr p d
theorem done_next {t : List Nd} {fr P : List Nat} {d i : Nat} (hi : i < P.length) : doneF t fr P d (i + 1) = doneF t fr P d i ++ walkN t fr P[i] d := by
  unfold doneF
  rw [List.take_succ_eq_append_getElem hi, List.flatMap_append]
  simp
theorem done_all {t : List Nd} {fr P : List Nat} {d : Nat} : doneF t fr P d P.length = P.flatMap fun p => walkN t fr p d := by unfold doneF; rw [List.take_length]
theorem done_pre {t : List Nd} {fr P : List Nat} {d i : Nat} : doneF t fr P d i <+: P.flatMap fun p => walkN t fr p d := by
  unfold doneF
  conv => rhs; rw [← List.take_append_drop i P, List.flatMap_append]
  exact List.prefix_append ..
/-- all places of a tree -/
def wholeL (t : List Nd) (fr : List Nat) : List (Nat × Nat) := walkN t fr (t.length - 1) 1
end Go.Proofs.YtkokdafkjjcgoaaGreatDoor
namespace Go.Proofs.YtkokdafkjjcgoaaGreatDoor
open Go.RowKit

theorem NdRow.opened {w : World} {base : Nat} {v : Value} {L : List Nd} (h : NdRow w base v L) : ∃ a cap, v = .slice a L.length cap ∧ L.length ≤ cap ∧ cap ≤ maxLen ∧ IsNds w.heap.size w a L ∧ (a = none → L = [] ∧ cap = 0) := by
  obtain ⟨a, cap, hv, hN, hn⟩ := own_sl nd_len h rfl
  refine ⟨a, cap, hv, ?_, ?_, hN, hn⟩
  · rcases h.2 with ⟨e, h0⟩ | ⟨g, c, cur, e, _, _, h1, _⟩
    · omega
    · rw [hv] at e; simp only [Value.slice.injEq] at e; omega
  · rcases h.2 with ⟨e, h0⟩ | ⟨g, c, cur, e, _, _, _, h1, _⟩
    · rw [hv] at e; simp only [Value.slice.injEq] at e; rw [e.2.2]; exact Nat.zero_le _
    · rw [hv] at e; simp only [Value.slice.injEq] at e; rw [e.2.2]; exact h1
end Go.Proofs.YtkokdafkjjcgoaaGreatDoor
namespace Go.Proofs.YtkokdafkjjcgoaaGreatDoor
open Go.RowKit

set_option maxRecDepth 100000 in
set_option maxHeartbeats 4000000 in
theorem clone_some (ad : Addr) (cap : Nat) (t : List Nd) (w : World) (hI : IsNds w.heap.size w (some ad) t) (hz : t.length * 64 ≤ 140737488351232) :
    Calls Tryz.prog 44 #[.slice (some ad) t.length cap] w fun e w' => (∃ v, e = .returned v ∧ NdRow w' w.heap.size v t) ∧ Below w.heap.size w w' := by
  obtain ⟨i0, hi, hz0, hz1, hz2⟩ := info_parts infoNd
  have HI0 := Lib.hid (And.intro hi (And.intro hz0 (And.intro hz1 hz2)))
  clear hi hz0 hz1 hz2
  have HI := Lib.hid hI
  have HL := Lib.hid (flat_len nd_len t)
  clear hI
  have hnl := fun wx => Lib.run_eql_slice_nil (P := Tryz.prog) wx 23 36 (some ad) t.length cap 0 0 Tryz.underlying23
  simp only [Option.isNone_some] at hnl
  go_enter Tryz.func44, Tryz.ntmps44
  go_wp2_with (at_builtin; go_loud (refine wpList_append_own _ rfl _ _ _ rfl w.heap.size 36 i0 _ 6 64 Tryz.underlying23 HI0.out.1 HI0.out.2.1 HI0.out.2.2.1 HI0.out.2.2.2 rfl (by decide) _ 0 [] rfl (nil_row _ (Nat.le_refl _)) ad t.length cap (t.flatMap ndCells) rfl HL.out (sl_news nd_len (HI.out.below (ba1 _ _) (Nat.le_refl _))) (nd_one t) (by unfold maxLen; omega) (by omega) (ba1 _ _).size ?_))
  intro v' w' hown hgrow _
  go_wp2_with fail
  go_ret
  refine ⟨⟨v', rfl, by unfold NdRow; simpa using hown⟩, (ba1 _ _).grown hgrow (ba1 _ _).size (fun k hk => by simp [Value.ownBlock] at hk; omega)⟩
set_option maxRecDepth 100000 in
set_option maxHeartbeats 4000000 in
theorem clone_any (a : Option Addr) (cap : Nat) (t : List Nd) (w : World) (hI : IsNds w.heap.size w a t) (hz : t.length * 64 ≤ 140737488351232) (hnil : a = none → t = [] ∧ cap = 0) :
    Calls Tryz.prog 44 #[.slice a t.length cap] w fun e w' => (∃ v, e = .returned v ∧ NdRow w' w.heap.size v t) ∧ Below w.heap.size w w' := by
  cases a with
  | none =>
    obtain ⟨rfl, rfl⟩ := hnil rfl
    clear hI hnil hz
    have hnl := fun wx => Lib.run_eql_slice_nil (P := Tryz.prog) wx 23 36 none 0 0 0 0 Tryz.underlying23
    simp only [Option.isNone_none] at hnl
    go_enter Tryz.func44, Tryz.ntmps44
    go_wp2_with fail
    go_ret
    exact ⟨⟨_, rfl, nd_nil _ _⟩, Below.refl _ _⟩
  | some ad => exact clone_some ad cap t w hI hz

/-- what Walk's answer leans on: its box; the tree of its own, and where its parts begin; all in blocks from B on -/
def SeqAt (t : List Nd) (fr : List Nat) (B : Nat) (W : World) (bw : Nat) : Prop :=
  ∃ (a : Option Addr) (c : Nat) (b : Option Addr) (capb : Nat), B ≤ bw ∧ W.heap[bw]? = some (.cells #[.slice a t.length c, .slice b fr.length capb] 81 (0, 0)) ∧ IsNds W.heap.size W a t ∧ IsNats W.heap.size W b fr ∧ (∀ g off, a = some ⟨g, off, none⟩ → B ≤ g) ∧ ∀ g off, b = some ⟨g, off, none⟩ → B ≤ g
theorem NdRow.far {w : World} {base : Nat} {v : Value} {L : List Nd} (h : NdRow w base v L) : ∀ (g off n cap : Nat), v = .slice (some ⟨g, off, none⟩) n cap → base ≤ g := fun g off n cap hv => by
  subst hv
  exact (World.ownsRow.lt h g rfl).1
section
variable (a : Option Addr) (cap : Nat) (t : List Nd) (w : World) (hE : TE w) (hI : IsNds w.heap.size w a t) (hOk : ∀ x ∈ t, NdOk x) (hz : t.length * 64 ≤ 140737488351232) (hnil : a = none → t = [] ∧ cap = 0)
include hE hI hOk hz hnil
set_option maxHeartbeats 4000000 in
theorem treeWalk_0 (h : checkN9 t = 0) : Calls Tryz.prog 21 #[.slice a t.length cap] w fun e w' => (∃ (bw : Nat) (fr : List Nat), e = .returned (.tuple #[.func (.func 46) #[] #[.pointer (some ⟨bw, 0, none⟩)], .int .i64 0]) ∧ beginsN t = some fr ∧ Given t fr ∧ SeqAt t fr w.heap.size w' bw) ∧ Below w.heap.size w w' := by
  have HCl := Lib.hid (clone_any a cap t w hI hz hnil)
  have HL := Lib.hid (fun a1 c1 w1 (hE : TE w1) (hI : IsNds w1.heap.size w1 a1 t) => looked_0 a1 c1 t w1 hE hI hOk hz h)
  have HE := Lib.hid hE
  clear hE hI hOk hnil h
  go_enter Tryz.func21, Tryz.ntmps21
  go_wp2_with (first | (go_at_call 44; (with_reducible refine HCl.out.mono ?_); rintro e w1 ⟨⟨v, rfl, hr⟩, hb1⟩; obtain ⟨a1, c1, rfl, _, _, hN, _⟩ := hr.opened; have HN := Lib.hid hN; have HFr := Lib.hid hr.far; have HB1 := Lib.hid hb1; have HL1 := Lib.hid (HL.out a1 c1 w1 (HE.out.below hb1) hN); clear hr hN hb1) | (go_at_call 37; (with_reducible refine HL1.out.mono ?_); rintro e w2 ⟨⟨b, capb, fr, rfl, hbe, hG, hW, hf⟩, hb2⟩; have HBe := Lib.hid hbe; have HG := Lib.hid hG; have HW := Lib.hid hW; have HF := Lib.hid hf; have HB2 := Lib.hid (HB1.out.trans (hb2.mono HB1.out.size)); clear hbe hG hW hf hb2))
  go_ret2
  have hb3 := ba1 w2 (.cells #[.slice a1 t.length c1, .slice b fr.length capb] 81)
  have hW3 := HW.out.below hb3
  exact ⟨⟨_, fr, rfl, HBe.out, HG.out, a1, c1, b, capb, HB2.out.size, heap_alloc_new _ _, hW3.nds, hW3.nats, fun g off e => HFr.out g off _ _ (by rw [e]), fun g off e => Nat.le_trans HB1.out.size (HF.out g off e)⟩, HB2.out.trans (hb3.mono HB2.out.size)⟩
end
end Go.Proofs.YtkokdafkjjcgoaaGreatDoor
namespace Go.Proofs.YtkokdafkjjcgoaaGreatDoor
open Go.RowKit Go.Shelf

attribute [local go_sem] Oper.semAt_some

/-- the block of the row that box bn holds -/
def rowB (bn : Nat) (W : World) : Option Nat := (W.cell? ⟨bn, 0, none⟩).bind Value.ownBlock
def RowOk (bn : Nat) (W : World) : Prop := (W.cell? ⟨bn, 0, none⟩).isSome = true ∧ ∀ g, rowB bn W = some g → bn < g ∧ g < W.heap.size
/-- what a round keeps: whatever is cells, but for one block and the row that it holds -/
structure KeepR (bn : Nat) (W W' : World) : Prop where
  os : W'.os = W.os
  tape : W'.tape = W.tape
  output : W'.output = W.output
  size : W.heap.size ≤ W'.heap.size
  rest : RowOk bn W → RowOk bn W' ∧ (∀ (k : Nat) (o : Obj), k ≠ bn → rowB bn W ≠ some k → W.heap[k]? = some o → o.isCells = true → W'.heap[k]? = some o) ∧ ∀ g, rowB bn W' = some g → rowB bn W = some g ∨ W.heap.size ≤ g
theorem KeepR.refl (bn : Nat) (W : World) : KeepR bn W W := ⟨rfl, rfl, rfl, Nat.le_refl _, fun h => ⟨h, fun _ _ _ _ h _ => h, fun _ h => .inl h⟩⟩
theorem KeepR.trans {bn : Nat} {A B C : World} (h : KeepR bn A B) (k : KeepR bn B C) : KeepR bn A C :=
  ⟨k.os.trans h.os, k.tape.trans h.tape, k.output.trans h.output, Nat.le_trans h.size k.size, fun hA => by
    obtain ⟨hB, b1, b2⟩ := h.rest hA
    obtain ⟨hC, c1, c2⟩ := k.rest hB
    refine ⟨hC, fun i o hi hr ho hc => c1 i o hi (fun e => ?_) (b1 i o hi hr ho hc) hc, fun g e => ?_⟩
    · rcases b2 i e with e | e
      · exact hr e
      · have := lt_of_heap ho; omega
    · rcases c2 g e with e | e
      · exact b2 g e
      · exact .inr (Nat.le_trans h.size e)⟩
theorem rowB_below {bn : Nat} {W W' : World} (h : Below W.heap.size W W') (hb : bn < W.heap.size) : rowB bn W' = rowB bn W := by unfold rowB; rw [h.cell hb]
theorem RowOk.below {bn : Nat} {W W' : World} (h : RowOk bn W) (hb : Below W.heap.size W W') (hbn : bn < W.heap.size) : RowOk bn W' :=
  ⟨by rw [hb.cell hbn]; exact h.1, fun g e => by rw [rowB_below hb hbn] at e; exact ⟨(h.2 g e).1, Nat.lt_of_lt_of_le (h.2 g e).2 hb.size⟩⟩
theorem KeepR.of_below {bn : Nat} {W W' : World} (h : Below W.heap.size W W') (hbn : bn < W.heap.size) : KeepR bn W W' :=
  ⟨h.os, h.tape, h.output, h.size, fun hr => ⟨hr.below h hbn, fun k _ _ _ ho _ => (h.block k (lt_of_heap ho)).trans ho, fun g e => .inl (by rw [← rowB_below h hbn]; exact e)⟩⟩
theorem KeepR.cell {bn : Nat} {W W' : World} (h : KeepR bn W W') (hr : RowOk bn W) {p : Addr} {v : Value} (hp : p.block ≠ bn) (hg : rowB bn W ≠ some p.block) (hc : W.cell? p = some v) : W'.cell? p = some v := by
  unfold World.cell? at hc ⊢
  split at hc
  · rename_i cs T fz hb
    rw [(h.rest hr).2.1 _ _ hp hg hb rfl]
    exact hc
  · cases hc
theorem KeepR.sl {α : Type} {kk : Nat} {cells : α → List Value} {bn B : Nat} {W W' : World} (h : KeepR bn W W') (hr : RowOk bn W) {a : Option Addr} {L : List α} (hs : IsSl kk cells B W a L) (hB : B ≤ bn) : IsSl kk cells B W' a L := fun hn => by
  obtain ⟨b, off, ha, hlt, hc⟩ := hs hn
  exact ⟨b, off, ha, hlt, fun i x hx j u hu => h.cell hr (by show b ≠ bn; omega) (fun e => by have := (hr.2 _ e).1; simp only at this; omega) (hc i x hx j u hu)⟩
end Go.Proofs.YtkokdafkjjcgoaaGreatDoor
namespace Go.Proofs.YtkokdafkjjcgoaaGreatDoor
open Go.RowKit

theorem TokRow.drop {w : World} {g : Nat} {L : List Tok} (h : TokRow w g 0 L) (i : Nat) : TokRow w g (i * 4) (L.drop i) := fun j t ht => by
  rw [List.getElem?_drop] at ht
  have := h (i + j) t ht
  rw [Nat.zero_add, Nat.add_mul] at this
  exact this
theorem TokRow.take {w : World} {g : Nat} {L : List Tok} (h : TokRow w g 0 L) (i : Nat) : TokRow w g 0 (L.take i) := fun j t ht => by
  rw [List.getElem?_take] at ht
  split at ht
  · exact h j t ht
  · cases ht

/-- what is known of a text's tokens -/
theorem tokE_good {s : ByteArray} {L : List Tok} (h : tokE s = .good L) : s.size ≤ 65536 ∧ tokL 0 s.data.toList [] = .good L ∧ (L.map (·.place)).Pairwise (· < ·) ∧ (∀ x ∈ L.map (·.place), (0 : Int) ≤ x ∧ x < s.size) := by
  have hs : s.size ≤ 65536 := by
    unfold tokE at h
    split at h
    · cases h
    · omega
  rw [tokE_L hs] at h
  obtain ⟨h1, h2⟩ := tokL_rise _ _ _ _ h (by simp) (by simp)
  refine ⟨hs, h, h1, fun x hx => ?_⟩
  have := h2 x hx
  rw [size_pos_toList] at this
  simpa using this
theorem tokL_len : ∀ k M out L, tokL k M out = .good L → out.length ≤ 16384 → L.length ≤ 16384 := by
  have key := tokL_ind (P := fun _ _ out e => ∀ L, e = .good L → out.length ≤ 16384 → L.length ≤ 16384) ?_ ?_
  · exact fun k M out L h => key k M out L h
  · intro k M out e h L he ho
    subst he
    obtain ⟨_, _, _, rfl⟩ := step_good h
    exact ho
  · intro k M out n out' h ih L he ho
    obtain ⟨b, t', j, _, _, h2, _, _, hp, _⟩ := step_more h
    refine ih L he ?_
    rcases hj : joins (M.drop b) out with _ | _
    · rw [put_new hj] at hp
      rw [hp, List.length_append]
      have : ¬ 16384 ≤ out.length := fun e => h2 ⟨hj, e⟩
      simp; omega
    · obtain ⟨q, t0, rfl⟩ := snoc_of (joins_ne hj)
      rw [put_joins hj, glue_snoc] at hp
      rw [hp]; simp at ho ⊢; exact ho
end Go.Proofs.YtkokdafkjjcgoaaGreatDoor
namespace Go.Proofs.YtkokdafkjjcgoaaGreatDoor
open Go.RowKit

theorem isName_parts {x : ByteArray} (h : isNameB x = true) : 0 < x.size ∧ x.size ≤ 31 ∧ (∃ c l, x.data.toList = c :: l ∧ letB c = true) ∧ wlen x.data.toList = x.data.toList.length ∧ isKeyB x = false := by
  unfold isNameB at h
  simp only [Bool.and_eq_true, decide_eq_true_eq, Bool.not_eq_true'] at h
  obtain ⟨h1, h2, h3, h4, h5⟩ := h
  refine ⟨h1, h2, ?_, by rw [h4, Array.length_toList]; rfl, h5⟩
  rcases hx : x.data.toList with _ | ⟨c, l⟩
  · rw [hx] at h3; simp at h3
  · rw [hx] at h3; exact ⟨c, l, rfl, by simpa using h3⟩
end Go.Proofs.YtkokdafkjjcgoaaGreatDoor
namespace Go.Proofs.YtkokdafkjjcgoaaGreatDoor
open Go.RowKit

/-- tokens as they are laid, each with what stands behind it -/
def body : List (Tok × List UInt8) → List UInt8
  | [] => []
  | (t, b) :: r => wordL t ++ (b ++ body r)
/-- no two texts in a row -/
def NoAdj : List Tok → Prop
  | [] => True
  | [_] => True
  | a :: b :: l => ¬ (isStr a = true ∧ isStr b = true) ∧ NoAdj (b :: l)

theorem good_size {t : Tok} (h : goodB t = true) : t.text.size ≤ 4096 := by
  unfold goodB at h
  split at h
  · unfold goodNum at h
    split at h
    · rename_i hu; rw [hu]; decide
    · rw [Bool.and_eq_true, decide_eq_true_eq] at h
      rw [h.1]; decide
  · split at h
    · cases h
    · split at h
      · have := (isName_parts h).2.1; omega
      · split at h
        · have key : ∀ x ∈ keyT, x.size ≤ 4096 := by decide
          exact key _ ((Lib.containsS_iff _ _).1 h)
        · split at h
          · exact of_decide_eq_true h
          · split at h
            · have key : ∀ x ∈ markT, x.size ≤ 4096 := by decide
              exact key _ ((Lib.containsS_iff _ _).1 h)
            · cases h
theorem let_word {c : UInt8} (h : letB c = true ∨ digB c = true) : spB c = false ∧ c.toNat ≠ 34 ∧ c.toNat ≠ 47 := by
  unfold spB
  rw [decide_eq_false_iff_not]
  rcases h with h | h
  · have := of_decide_eq_true h; omega
  · have := of_decide_eq_true h; omega
theorem noAdj_kind : ∀ {l l' : List Tok}, l.map isStr = l'.map isStr → NoAdj l → NoAdj l'
  | [], [], _, _ => trivial
  | [_], [_], _, _ => trivial
  | _ :: b :: l, _ :: b' :: l', h, hn => by
    simp only [List.map_cons, List.cons.injEq] at h
    exact ⟨by rw [← h.1, ← h.2.1]; exact hn.1, noAdj_kind (l := b :: l) (l' := b' :: l') (by simp [h.2.1, h.2.2]) hn.2⟩
  | [], _ :: _, h, _ => by simp at h
  | _ :: _, [], h, _ => by simp at h
  | [_], _ :: _ :: _, h, _ => by simp at h
  | _ :: _ :: _, [_], h, _ => by simp at h

end Go.Proofs.YtkokdafkjjcgoaaGreatDoor
