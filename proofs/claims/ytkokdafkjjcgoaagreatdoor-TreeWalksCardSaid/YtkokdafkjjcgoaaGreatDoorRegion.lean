/- A region that draws its order and begins with a call that writes: the call first, by force; the rest, which only reads, in the text's order. Nothing of the program. -/
import Derived.Deep.QuietTactic
import Derived.BigQuiet
import Derived.RegionTactic
import Derived.Deep.RegionWith
namespace Go
open Go.RowKit

theorem wpAny_rest {P : Program} {md : Region.Mode} {ops : Array Oper} {Q : Exit → Act → World → Prop} {fuel : Nat} {listed : Array Bool} {a : Act} {w : World} (k : Nat) (l : List Oper) (hl : ops.toList.drop k = l) (hn : l.length = fuel)
    (hns : Region.noSelect ops = true) (hB : Region.lexFrom md ops l.length k listed = true)
    (h : wpQuiet P ops (fun w' => ∃ n, w' = w.drewN n) (fun a' => ∀ w', (∃ n, w' = w.drewN n) → Q .normal a' w') l a) : wpAny P md ops Q fuel listed a w := by
  subst hn
  refine wpAny_of_quiet (C := fun w' => ∃ n, w' = w.drewN n) (Q := fun a' => ∀ w', (∃ n, w' = w.drewN n) → Q .normal a' w') (fun _ w' hw' h => h w' hw') _ _ _ _ ⟨0, rfl⟩ ?_
  refine wpAnyQ_lex hns l k listed a (fun j => ?_) hB h
  rw [← hl, List.getElem?_drop, Array.getElem?_toList]
end Go

