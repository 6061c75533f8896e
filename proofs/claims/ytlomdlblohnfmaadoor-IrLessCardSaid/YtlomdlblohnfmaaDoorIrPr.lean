/- A program of three-address code in memory. -/
import Derived.Test.YtlomdlblohnfmaaDoorIrBackw
import Derived.Test.YtlomdlblohnfmaaDoorIrGlobal
namespace Go.Proofs.YtlomdlblohnfmaaDoor
open Go.RowKit

/-- a program in memory: its three slices -/
def IsFns (B : Nat) (w : World) (v : Value) (L : List IrF) : Prop := ∃ a cap Q, v = .slice a L.length cap ∧ SlOk 80 a L.length cap ∧ Q.map Prod.fst = L ∧ IsSl 5 fnCells B w a Q ∧ ∀ q ∈ Q, IsFn B w q.1 q.2.1 q.2.2
def strCells1 (s : ByteArray) : List Value := [.string s]
def IsTxs (B : Nat) (w : World) (v : Value) (L : List ByteArray) : Prop := ∃ a cap, v = .slice a L.length cap ∧ SlOk 16 a L.length cap ∧ IsSl 1 strCells1 B w a L
structure IsPr (B : Nat) (w : World) (x : IrP) (gv sv fv : Value) : Prop where
  gs : IsGls B w gv x.globals
  ss : IsTxs B w sv x.strings
  fs : IsFns B w fv x.funcs
theorem IsFns.below {B B' : Nat} {w w' : World} {v : Value} {L : List IrF} (h : IsFns B w v L) (hb : Below B' w w') (hB : B ≤ B') : IsFns B w' v L := by
  obtain ⟨a, cap, Q, e, ho, hQ, hs, hq⟩ := h
  exact ⟨a, cap, Q, e, ho, hQ, hs.below hb hB, fun q hm => (hq q hm).below hb hB⟩
theorem IsFns.mono {B B' : Nat} {w : World} {v : Value} {L : List IrF} (h : IsFns B w v L) (hB : B ≤ B') : IsFns B' w v L := by
  obtain ⟨a, cap, Q, e, ho, hQ, hs, hq⟩ := h
  exact ⟨a, cap, Q, e, ho, hQ, hs.mono hB, fun q hm => (hq q hm).mono hB⟩
theorem IsTxs.below {B B' : Nat} {w w' : World} {v : Value} {L : List ByteArray} (h : IsTxs B w v L) (hb : Below B' w w') (hB : B ≤ B') : IsTxs B w' v L := by
  obtain ⟨a, cap, e, ho, hs⟩ := h
  exact ⟨a, cap, e, ho, hs.below hb hB⟩
theorem IsTxs.mono {B B' : Nat} {w : World} {v : Value} {L : List ByteArray} (h : IsTxs B w v L) (hB : B ≤ B') : IsTxs B' w v L := by
  obtain ⟨a, cap, e, ho, hs⟩ := h
  exact ⟨a, cap, e, ho, hs.mono hB⟩
theorem IsPr.below {B B' : Nat} {w w' : World} {x : IrP} {gv sv fv : Value} (h : IsPr B w x gv sv fv) (hb : Below B' w w') (hB : B ≤ B') : IsPr B w' x gv sv fv := ⟨h.gs.below hb hB, h.ss.below hb hB, h.fs.below hb hB⟩
theorem IsPr.mono {B B' : Nat} {w : World} {x : IrP} {gv sv fv : Value} (h : IsPr B w x gv sv fv) (hB : B ≤ B') : IsPr B' w x gv sv fv := ⟨h.gs.mono hB, h.ss.mono hB, h.fs.mono hB⟩
theorem fn_cells {w : World} {b : Nat} {f : IrF} {vs vb : Value} {T : TypeId} (h : w.heap[b]? = some (.cells #[.string f.name, .int .i64 f.params, .int .i64 f.regs, vs, vb] T (0, 0))) :
    ∀ w', Below w.heap.size w w' → w'.cell? ⟨b, 0, none⟩ = some (.string f.name) ∧ w'.cell? ⟨b, 1, none⟩ = some (.int .i64 f.params) ∧ w'.cell? ⟨b, 2, none⟩ = some (.int .i64 f.regs) ∧ w'.cell? ⟨b, 3, none⟩ = some vs ∧ w'.cell? ⟨b, 4, none⟩ = some vb := fun w' hb => by
  have h' := (hb.block b (lt_of_heap h)).trans h
  refine ⟨?_, ?_, ?_, ?_, ?_⟩ <;> simp [World.cell?, h']
end Go.Proofs.YtlomdlblohnfmaaDoor

