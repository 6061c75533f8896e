/- An expression laid out: what its walk begins with: the program. -/
import Derived.Test.YtkokdafkjjcgoaaGreatDoorPrintN
import Derived.Test.YtkokdafkjjcgoaaGreatDoorMg19
import Derived.Test.YtkokdafkjjcgoaaGreatDoorMg2
import Derived.Deep.RegionHeld3
namespace Go.Proofs.YtkokdafkjjcgoaaGreatDoor
open Go.RowKit

theorem nodeP_new (w : World) (x : Nd) : NodeP (w.alloc (ndObj x)) w.heap.size x := heap_alloc_new _ _
theorem NodeP.lt {w : World} {q : Nat} {x : Nd} (h : NodeP w q x) : q < w.heap.size := lt_of_heap h
theorem NodeP.below {w w' : World} {q : Nat} {x : Nd} (h : NodeP w q x) (hb : Below w.heap.size w w') : NodeP w' q x := (hb.block _ h.lt).trans h
abbrev set6P (w : World) (q : Nat) (x : Nd) : World := (((((w.setCell ⟨q, 0, none⟩ (.int .i64 x.kind)).setCell ⟨q, 1, none⟩ (.int .i64 x.n)).setCell ⟨q, 2, none⟩ (.int .i64 x.at_)).setCell ⟨q, 3, none⟩ (.int .i64 x.int)).setCell ⟨q, 4, none⟩ (.string x.text)).setCell ⟨q, 5, none⟩ (.string x.type)
theorem NodeP.set {w : World} {q : Nat} {y : Nd} (h : NodeP w q y) (x : Nd) : NodeP (set6P w q x) q x := by
  unfold NodeP set6P at *
  simp [World.setCell, Array.getElem?_modify, h]
theorem below_set6P {n : Nat} {w0 w : World} (h : Below n w0 w) {q : Nat} (hc : n ≤ q) (x : Nd) : Below n w0 (set6P w q x) := (((((h.setCell hc _).setCell hc _).setCell hc _).setCell hc _).setCell hc _).setCell hc _
theorem natRow_set6 {w : World} {base q : Nat} {v : Value} {P : List Nat} (h : NatRow w base v P) (hq : v.ownBlock ≠ some q) (x : Nd) : NatRow (set6P w q x) base v P := by
  unfold NatRow at *
  unfold set6P
  exact row_set9 (row_set9 (row_set9 (row_set9 (row_set9 (row_set9 h _ _ hq) _ _ hq) _ _ hq) _ _ hq) _ _ hq) _ _ hq
theorem natRow_le {w : World} {base base' : Nat} {v : Value} {P : List Nat} (h : NatRow w base v P) (hb : base' ≤ base) : NatRow w base' v P := own_le9 h hb
theorem natRow_open {w : World} {base : Nat} {v : Value} {P : List Nat} (h : NatRow w base v P) : ∃ a cap, v = .slice a P.length cap ∧ P.length ≤ cap ∧ IsNats w.heap.size w a P ∧ ∀ b off, a = some ⟨b, off, none⟩ → base ≤ b := by
  obtain ⟨a, cap, rfl, hN, _⟩ := h.is
  refine ⟨a, cap, rfl, ?_, hN, fun b off e => ?_⟩
  · unfold NatRow at h
    rcases h.2 with ⟨e, h0⟩ | ⟨g, c, cur, e, _, _, h1, _⟩
    · omega
    · simp only [Value.slice.injEq] at e; omega
  · subst e
    unfold NatRow at h
    exact (h.lt b rfl).1
/-- what an expression's walk begins with: the node in a box, its parts' places -/
structure ExprIn (pb : Nat) (a : Option Addr) (cap : Nat) (t : List Nd) (b : Option Addr) (capb : Nat) (fr : List Nat) (bx q : Nat) (pa : Option Addr) (pc : Nat) (P : List Nat) (x : Nd) (W : List ByteArray) (w0 w : World) : Prop where
  st : PrSt pb a cap t b capb fr bx w W w
  keep : KeepP pb w0 w
  node : ∀ w', KeepP pb w w' → NodeP w' q x
  sl : ∀ w', KeepP pb w w' → SlS 1 natCells pb w' pa P
  len : P.length ≤ pc
theorem ExprIn.mk' {pb : Nat} {a b pa : Option Addr} {cap capb pc bx q : Nat} {t : List Nd} {fr P : List Nat} {x : Nd} {W : List ByteArray} {w0 w1 w : World} (h : PrSt pb a cap t b capb fr bx w0 W w1) (hb : Below w1.heap.size w1 w) (hn : NodeP w q x) (hq : w1.heap.size ≤ q) (hP : IsNats w.heap.size w pa P) (hf : ∀ b off, pa = some ⟨b, off, none⟩ → w1.heap.size ≤ b) (hl : P.length ≤ pc) :
    ExprIn pb a cap t b capb fr bx q pa pc P x W w0 w := by
  have h2 := h.below hb
  have hs := SafeB.new h.pap.rowOk h.pap.lt hb hq hn.lt
  have hS : SlS 1 natCells pb w pa P := .new h.pap.rowOk h.pap.lt hb hP (fun _ => hf)
  exact ⟨h2.rebase, h2.keep, fun w' hk => hs.obj h2.pap.rowOk hk hn, fun w' hk => hS.kept h2.pap.rowOk hk, hl⟩
theorem ite_bd {c : Prop} [Decidable c] {x y : Int} (h1 : 0 ≤ x ∧ x ≤ 13) (h2 : 0 ≤ y ∧ y ≤ 13) : 0 ≤ (if c then x else y) ∧ (if c then x else y) ≤ 13 := by split <;> assumption
theorem level_small (s : ByteArray) : 0 ≤ levelN s ∧ levelN s ≤ 13 := by
  unfold levelN levelL
  repeat' first
    | exact ⟨by decide, by decide⟩
    | refine ite_bd ?_ ?_
/-- how many parts a node has -/
theorem parts_len9 {t : List Nd} {fr : List Nat} (h : Right9 t fr) {k : Nat} (hk : k < t.length) : (arityN (ndAt t k).kind).1 ≤ ((partsAt t fr k).length : Int) ∧ ((partsAt t fr k).length : Int) ≤ (arityN (ndAt t k).kind).2 := by
  obtain ⟨hx, hw⟩ := h.nd hk
  have := well_parts hw
  rw [partsAt_is hx, partsE_length]
  omega
end Go.Proofs.YtkokdafkjjcgoaaGreatDoor

