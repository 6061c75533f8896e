/- An operation: it uses just what it may; all together. -/
import Derived.Test.YtlomdlblohnfmaaDoorIrOp2
namespace Go.Proofs.YtlomdlblohnfmaaDoor
open Go.RowKit

theorem badArgs_not (regs : Int) (l : List Int) : (!badArgs regs l) = l.all (fun x => regI regs x true false) := by
  unfold badArgs
  induction l with
  | nil => rfl
  | cons x r ih => rw [List.any_cons, List.all_cons, Bool.not_or, ih, Bool.not_not]
theorem opI_some {regs slots strings : Int} {o : IrO} {r : IrRule} (h : ruleI o.kind = some r) : opI regs slots strings o =
    (regI regs o.d r.d r.maybe && (regI regs o.a r.a false && (regI regs o.b r.b false && (immI o.kind o.imm && (textI o.kind o.text && ((r.args || decide (o.args = [])) && (!badArgs regs o.args && lastI slots strings o))))))) := by
  unfold opI
  rw [h, badArgs_not]
  simp only [Bool.and_assoc]
  rfl
theorem op_ok (regs slots strings : Int) (o : IrO) (v : Value) (w : World) (hK : KeysAt w) (hA : IsNums w.heap.size w v o.args) :
    Calls Tryd.prog 27 #[.agg #[.int .i64 regs, .int .i64 slots, .int .i64 strings], opV o v] w fun e w' => e = .returned (.bool (opI regs slots strings o)) ∧ Below w.heap.size w w' := by
  cases h : ruleI o.kind with
  | none =>
    have he : opI regs slots strings o = false := by unfold opI; rw [h]
    rw [he]
    exact op_none regs slots strings o v h w
  | some r =>
    rw [opI_some h]
    exact op_some regs slots strings o v r h w hK hA _ _ _ _ _ _ _ _ rfl rfl rfl rfl rfl rfl rfl rfl
end Go.Proofs.YtlomdlblohnfmaaDoor

