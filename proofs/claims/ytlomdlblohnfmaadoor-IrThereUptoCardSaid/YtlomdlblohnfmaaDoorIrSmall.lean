/- The law's first example. -/
import Derived.Test.YtlomdlblohnfmaaDoorIrPr
import Derived.Test.YtlomdlblohnfmaaDoorIrWfunc
namespace Go.Proofs.YtlomdlblohnfmaaDoor
open Go.RowKit

def smallOps : List IrO := [⟨1, 1, -1, -1, 5, ⟨#[]⟩, []⟩, ⟨3, 1, 0, 1, 0, ⟨#[]⟩, []⟩]
def smallF : IrF := ⟨⟨#[102]⟩, 1, 2, [], [⟨smallOps, ⟨3, 1, -1, 0, 0⟩⟩]⟩
def smallJ : IrF := ⟨⟨#[102]⟩, 1, 2, [], [⟨smallOps, ⟨1, -1, -1, 0, 0⟩⟩]⟩
theorem small_check : checkP ⟨[], [], [smallF]⟩ = (0, 0) := by decide +kernel
theorem smallJ_wrong : funcI smallJ 4611686018427387904 = false := by decide +kernel
theorem small_text : funcL [] smallF = [102, 117, 110, 99, 32, 102, 32, 49, 32, 50, 10, 98, 108, 111, 99, 107, 10, 114, 49, 32, 61, 32, 99, 111, 110, 115, 116, 32, 53, 10, 114, 49, 32, 61, 32, 97, 100, 100, 32, 114, 48, 32, 114, 49, 10, 114, 101, 116, 117, 114, 110, 32, 114, 49, 10] := by decide +kernel
/-- the example where it was laid: the blocks of its blocks and of its operations -/
structure SmallAt (w : World) (g ga : Nat) (x : IrX) : Prop where
  bl : w.heap[g]? = some (.cells #[.slice (some ⟨ga, 0, none⟩) 2 2, .int .i64 x.kind, .int .i64 x.a, .int .i64 x.d, .int .i64 x.to, .int .i64 x.els] 41 (0, 0))
  op : w.heap[ga]? = some (.cells #[.int .i64 1, .int .i64 1, .int .i64 (-1), .int .i64 (-1), .int .i64 5, .string ⟨#[]⟩, .slice none 0 0, .int .i64 3, .int .i64 1, .int .i64 0, .int .i64 1, .int .i64 0, .string ⟨#[]⟩, .slice none 0 0] 54 (0, 0))
theorem small_is {w : World} {g ga B : Nat} {x : IrX} (h : SmallAt w g ga x) (hg : g < B) (ha : ga < B) : IsFn B w ⟨⟨#[102]⟩, 1, 2, [], [⟨smallOps, x⟩]⟩ (.slice none 0 0) (.slice (some ⟨g, 0, none⟩) 1 1) := by
  have c1 : ∀ j, w.cell? ⟨ga, j, none⟩ = (#[.int .i64 1, .int .i64 1, .int .i64 (-1), .int .i64 (-1), .int .i64 5, .string ⟨#[]⟩, .slice none 0 0, .int .i64 3, .int .i64 1, .int .i64 0, .int .i64 1, .int .i64 0, .string ⟨#[]⟩, .slice none 0 0] : Array Value)[j]? := fun j => by simp [World.cell?, h.op]
  have c2 : ∀ j, w.cell? ⟨g, j, none⟩ = (#[.slice (some ⟨ga, 0, none⟩) 2 2, .int .i64 x.kind, .int .i64 x.a, .int .i64 x.d, .int .i64 x.to, .int .i64 x.els] : Array Value)[j]? := fun j => by simp [World.cell?, h.bl]
  have nil8 : IsNums B w (.slice none 0 0) [] := ⟨none, 0, rfl, ⟨by simp, fun _ => ⟨rfl, rfl⟩⟩, isSl_nil⟩
  have hops : IsOps B w (.slice (some ⟨ga, 0, none⟩) 2 2) smallOps := by
    refine ⟨some ⟨ga, 0, none⟩, 2, [(⟨1, 1, -1, -1, 5, ⟨#[]⟩, []⟩, .slice none 0 0), (⟨3, 1, 0, 1, 0, ⟨#[]⟩, []⟩, .slice none 0 0)], rfl, ⟨by decide, fun e => by cases e⟩, rfl, fun _ => ⟨ga, 0, rfl, ha, fun i t ht j u hu => ?_⟩, fun q hq => ?_⟩
    · rw [c1]
      match i, ht with
      | 0, ht =>
        obtain rfl := Option.some.inj ht
        match j, hu with
        | 0, hu => exact hu
        | 1, hu => exact hu
        | 2, hu => exact hu
        | 3, hu => exact hu
        | 4, hu => exact hu
        | 5, hu => exact hu
        | 6, hu => exact hu
      | 1, ht =>
        obtain rfl := Option.some.inj ht
        match j, hu with
        | 0, hu => exact hu
        | 1, hu => exact hu
        | 2, hu => exact hu
        | 3, hu => exact hu
        | 4, hu => exact hu
        | 5, hu => exact hu
        | 6, hu => exact hu
    · simp only [List.mem_cons, List.not_mem_nil, or_false] at hq
      rcases hq with rfl | rfl <;> exact ⟨by decide, nil8⟩
  refine ⟨(by decide : (1 : Nat) ≤ maxLen), ⟨none, 0, rfl, ⟨by simp, fun _ => ⟨rfl, rfl⟩⟩, isSl_nil⟩, some ⟨g, 0, none⟩, 1, [(⟨smallOps, x⟩, .slice (some ⟨ga, 0, none⟩) 2 2)], rfl, ⟨(by decide : 1 * 64 ≤ 140737488351232), fun e => by cases e⟩, rfl, fun _ => ⟨g, 0, rfl, hg, fun i t ht j u hu => ?_⟩, fun q hq => ?_⟩
  · rw [c2]
    match i, ht with
    | 0, ht =>
      obtain rfl := Option.some.inj ht
      match j, hu with
      | 0, hu => exact hu
      | 1, hu => exact hu
      | 2, hu => exact hu
      | 3, hu => exact hu
      | 4, hu => exact hu
      | 5, hu => exact hu
  · simp only [List.mem_cons, List.not_mem_nil, or_false] at hq
    subst hq
    exact hops
set_option maxRecDepth 100000 in
set_option maxHeartbeats 4000000 in
theorem small_ok (w : World) : Calls Tryd.prog 16 #[] w fun e w' => (∃ g ga, e = .returned (.agg #[.string ⟨#[102]⟩, .int .i64 1, .int .i64 2, .slice none 0 0, .slice (some ⟨g, 0, none⟩) 1 1]) ∧ w.heap.size ≤ g ∧ w.heap.size ≤ ga ∧ ga ≠ g ∧ SmallAt w' g ga ⟨3, 1, -1, 0, 0⟩) ∧ Below w.heap.size w w' := by
  go_enter Tryd.func16, Tryd.ntmps16
  go_wp2
  obtain ⟨hB, hC, hbl⟩ := three_new w (.cells #[.string ⟨#[102]⟩, .int .i64 1, .int .i64 2, .slice none 0 0, .slice (some ⟨w.heap.size + 1 + 1, 0, none⟩) 1 1] 35)
    (.cells #[.int .i64 1, .int .i64 1, .int .i64 (-1), .int .i64 (-1), .int .i64 5, .string ⟨#[]⟩, .slice none 0 0, .int .i64 3, .int .i64 1, .int .i64 0, .int .i64 1, .int .i64 0, .string ⟨#[]⟩, .slice none 0 0] 54)
    (.cells #[.slice (some ⟨w.heap.size + 1, 0, none⟩) 2 2, .int .i64 3, .int .i64 1, .int .i64 (-1), .int .i64 0, .int .i64 0] 41)
  have hA : (((w.alloc (.cells #[.string ⟨#[102]⟩, .int .i64 1, .int .i64 2, .slice none 0 0, .slice (some ⟨w.heap.size + 1 + 1, 0, none⟩) 1 1] 35)).alloc
    (.cells #[.int .i64 1, .int .i64 1, .int .i64 (-1), .int .i64 (-1), .int .i64 5, .string ⟨#[]⟩, .slice none 0 0, .int .i64 3, .int .i64 1, .int .i64 0, .int .i64 1, .int .i64 0, .string ⟨#[]⟩, .slice none 0 0] 54)).alloc
    (.cells #[.slice (some ⟨w.heap.size + 1, 0, none⟩) 2 2, .int .i64 3, .int .i64 1, .int .i64 (-1), .int .i64 0, .int .i64 0] 41)).heap[w.heap.size]? = some (.cells #[.string ⟨#[102]⟩, .int .i64 1, .int .i64 2, .slice none 0 0, .slice (some ⟨w.heap.size + 1 + 1, 0, none⟩) 1 1] 35 (0, 0)) := by
    rw [Below.heap_alloc _ _ _ (by simp; omega)]
    exact ir_new1 w _ _
  generalize World.alloc _ _ = w3 at *
  refine bodyPost_ret (v := .agg #[.string ⟨#[102]⟩, .int .i64 1, .int .i64 2, .slice none 0 0, .slice (some ⟨w.heap.size + 1 + 1, 0, none⟩) 1 1]) (by simp [results, Tryd.results16, go_sem, World.cell?, hA]) rfl ?_
  exact ⟨⟨_, _, rfl, by omega, by omega, by omega, hC, hB⟩, hbl⟩
end Go.Proofs.YtlomdlblohnfmaaDoor

