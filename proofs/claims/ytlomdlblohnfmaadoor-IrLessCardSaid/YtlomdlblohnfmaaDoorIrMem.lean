/- Functions of three-address code in memory. -/
import Derived.Test.YtlomdlblohnfmaaDoorIrP
import Derived.Test.YtlomdlblohnfmaaDoorOpenL
import Derived.Deep.DeepCutAuto
import Derived.Deep.CutBlock
import Derived.Deep.LoopGhost
import Derived.Deep.QuietTactic
import Derived.Deep.RegionWith
import Derived.BigQuiet
import Derived.Lib.QuietBelow
namespace Go.Proofs.YtlomdlblohnfmaaDoor
open Go.RowKit

def intCells (n : Int) : List Value := [.int .i64 n]
def opCells (q : IrO × Value) : List Value := [.int .i64 q.1.kind, .int .i64 q.1.d, .int .i64 q.1.a, .int .i64 q.1.b, .int .i64 q.1.imm, .string q.1.text, q.2]
def blkCells (q : IrB × Value) : List Value := [q.2, .int .i64 q.1.exit.kind, .int .i64 q.1.exit.a, .int .i64 q.1.exit.d, .int .i64 q.1.exit.to, .int .i64 q.1.exit.els]
def slotCells (s : IrS) : List Value := [.int .i64 s.bytes, .int .i64 s.align, .bool s.vol]
/-- a slice's length and address fit: elements of k bytes each -/
def SlOk (k : Nat) (a : Option Addr) (n cap : Nat) : Prop := n * k ≤ 140737488351232 ∧ (a = none → n = 0 ∧ cap = 0)
theorem sl_map {α β : Type} {k : Nat} {c1 : α → List Value} {c2 : β → List Value} (g : α → β) (he : ∀ x, c2 (g x) = c1 x) {B : Nat} {w : World} {a : Option Addr} {Q : List α} (h : IsSl k c1 B w a Q) : IsSl k c2 B w a (Q.map g) := fun hn => by
  obtain ⟨b, off, e, hlt, hc⟩ := h (fun e => hn (by rw [e]; rfl))
  refine ⟨b, off, e, hlt, fun i t ht j u hu => ?_⟩
  rw [List.getElem?_map, Option.map_eq_some_iff] at ht
  obtain ⟨q, hq, rfl⟩ := ht
  rw [he] at hu
  exact hc i q hq j u hu
/-- slices: of numbers, slots, operations, blocks -/
def IsNums (B : Nat) (w : World) (v : Value) (L : List Int) : Prop := ∃ a cap, v = .slice a L.length cap ∧ SlOk 8 a L.length cap ∧ IsSl 1 intCells B w a L
def IsSlots (B : Nat) (w : World) (v : Value) (L : List IrS) : Prop := ∃ a cap, v = .slice a L.length cap ∧ SlOk 24 a L.length cap ∧ IsSl 3 slotCells B w a L
def IsOps (B : Nat) (w : World) (v : Value) (L : List IrO) : Prop := ∃ a cap Q, v = .slice a L.length cap ∧ SlOk 80 a L.length cap ∧ Q.map Prod.fst = L ∧ IsSl 7 opCells B w a Q ∧ ∀ q ∈ Q, q.1.text.size ≤ maxLen ∧ IsNums B w q.2 q.1.args
def IsBlks (B : Nat) (w : World) (v : Value) (L : List IrB) : Prop := ∃ a cap Q, v = .slice a L.length cap ∧ SlOk 64 a L.length cap ∧ Q.map Prod.fst = L ∧ IsSl 6 blkCells B w a Q ∧ ∀ q ∈ Q, IsOps B w q.2 q.1.ops
theorem IsNums.below {B B' : Nat} {w w' : World} {v : Value} {L : List Int} (h : IsNums B w v L) (hb : Below B' w w') (hB : B ≤ B') : IsNums B w' v L := by
  obtain ⟨a, cap, e, ho, hs⟩ := h
  exact ⟨a, cap, e, ho, hs.below hb hB⟩
theorem IsSlots.below {B B' : Nat} {w w' : World} {v : Value} {L : List IrS} (h : IsSlots B w v L) (hb : Below B' w w') (hB : B ≤ B') : IsSlots B w' v L := by
  obtain ⟨a, cap, e, ho, hs⟩ := h
  exact ⟨a, cap, e, ho, hs.below hb hB⟩
theorem IsOps.below {B B' : Nat} {w w' : World} {v : Value} {L : List IrO} (h : IsOps B w v L) (hb : Below B' w w') (hB : B ≤ B') : IsOps B w' v L := by
  obtain ⟨a, cap, Q, e, ho, hq, hs, ha⟩ := h
  exact ⟨a, cap, Q, e, ho, hq, hs.below hb hB, fun q hm => ⟨(ha q hm).1, (ha q hm).2.below hb hB⟩⟩
theorem IsBlks.below {B B' : Nat} {w w' : World} {v : Value} {L : List IrB} (h : IsBlks B w v L) (hb : Below B' w w') (hB : B ≤ B') : IsBlks B w' v L := by
  obtain ⟨a, cap, Q, e, ho, hq, hs, ha⟩ := h
  exact ⟨a, cap, Q, e, ho, hq, hs.below hb hB, fun q hm => (ha q hm).below hb hB⟩
theorem IsNums.mono {B B' : Nat} {w : World} {v : Value} {L : List Int} (h : IsNums B w v L) (hB : B ≤ B') : IsNums B' w v L := by
  obtain ⟨a, cap, e, ho, hs⟩ := h
  exact ⟨a, cap, e, ho, hs.mono hB⟩
theorem IsSlots.mono {B B' : Nat} {w : World} {v : Value} {L : List IrS} (h : IsSlots B w v L) (hB : B ≤ B') : IsSlots B' w v L := by
  obtain ⟨a, cap, e, ho, hs⟩ := h
  exact ⟨a, cap, e, ho, hs.mono hB⟩
theorem IsOps.mono {B B' : Nat} {w : World} {v : Value} {L : List IrO} (h : IsOps B w v L) (hB : B ≤ B') : IsOps B' w v L := by
  obtain ⟨a, cap, Q, e, ho, hq, hs, ha⟩ := h
  exact ⟨a, cap, Q, e, ho, hq, hs.mono hB, fun q hm => ⟨(ha q hm).1, (ha q hm).2.mono hB⟩⟩
theorem IsBlks.mono {B B' : Nat} {w : World} {v : Value} {L : List IrB} (h : IsBlks B w v L) (hB : B ≤ B') : IsBlks B' w v L := by
  obtain ⟨a, cap, Q, e, ho, hq, hs, ha⟩ := h
  exact ⟨a, cap, Q, e, ho, hq, hs.mono hB, fun q hm => (ha q hm).mono hB⟩
/-- a function -/
structure IsFn (B : Nat) (w : World) (f : IrF) (vs vb : Value) : Prop where
  name : f.name.size ≤ maxLen
  slots : IsSlots B w vs f.slots
  blocks : IsBlks B w vb f.blocks
theorem IsFn.below {B B' : Nat} {w w' : World} {f : IrF} {vs vb : Value} (h : IsFn B w f vs vb) (hb : Below B' w w') (hB : B ≤ B') : IsFn B w' f vs vb := ⟨h.name, h.slots.below hb hB, h.blocks.below hb hB⟩
theorem IsFn.mono {B B' : Nat} {w : World} {f : IrF} {vs vb : Value} (h : IsFn B w f vs vb) (hB : B ≤ B') : IsFn B' w f vs vb := ⟨h.name, h.slots.mono hB, h.blocks.mono hB⟩
def fnV (f : IrF) (vs vb : Value) : Value := .agg #[.string f.name, .int .i64 f.params, .int .i64 f.regs, vs, vb]
def opV (o : IrO) (v : Value) : Value := .agg #[.int .i64 o.kind, .int .i64 o.d, .int .i64 o.a, .int .i64 o.b, .int .i64 o.imm, .string o.text, v]
def exitV (x : IrX) : Value := .agg #[.int .i64 x.kind, .int .i64 x.a, .int .i64 x.d, .int .i64 x.to, .int .i64 x.els]
end Go.Proofs.YtlomdlblohnfmaaDoor

