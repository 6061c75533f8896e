/- Three-address code: what is right. Plain: nothing of the program. -/
import Derived.Test.YtlomdlblohnfmaaDoorPlain
import Derived.Lib.IndexLaws
import Derived.Lib.IndexMore
import Derived.Lib.Bytes2
namespace Go.Proofs.YtlomdlblohnfmaaDoor

structure IrO where
  kind : Int
  d : Int
  a : Int
  b : Int
  imm : Int
  text : ByteArray
  args : List Int
structure IrX where
  kind : Int
  a : Int
  d : Int
  to : Int
  els : Int
structure IrB where
  ops : List IrO
  exit : IrX
structure IrS where
  bytes : Int
  align : Int
  vol : Bool
structure IrF where
  name : ByteArray
  params : Int
  regs : Int
  slots : List IrS
  blocks : List IrB
/-- what a kind uses: D, A, B; whether there are Args; whether D may be none -/
structure IrRule where
  d : Bool
  a : Bool
  b : Bool
  args : Bool
  maybe : Bool
def ruleI (k : Int) : Option IrRule :=
  if 3 ≤ k ∧ k ≤ 19 then some ⟨true, true, true, false, false⟩
  else if k = 1 then some ⟨true, false, false, false, false⟩
  else if k = 2 then some ⟨true, true, false, false, false⟩
  else if k = 20 then some ⟨true, true, false, false, false⟩
  else if k = 21 ∨ k = 22 ∨ k = 23 ∨ k = 24 then some ⟨true, false, false, false, false⟩
  else if k = 25 then some ⟨true, true, false, false, false⟩
  else if k = 26 ∨ k = 27 then some ⟨false, true, true, false, false⟩
  else if k = 28 then some ⟨true, true, false, true, true⟩
  else if k = 29 then some ⟨true, false, false, true, true⟩
  else none
def builtI (s : ByteArray) : Option (Nat × Bool) :=
  let l := s.data.toList
  if l = [103, 101, 116, 99, 104, 97, 114] then some (0, true)
  else if l = [112, 117, 116, 99, 104, 97, 114] ∨ l = [99, 111, 95, 121, 105, 101, 108, 100] ∨ l = [99, 111, 95, 100, 111, 110, 101] then some (1, true)
  else if l = [101, 120, 105, 116] ∨ l = [99, 111, 95, 102, 114, 101, 101] then some (1, false)
  else if l = [108, 111, 110, 103, 106, 109, 112] then some (2, false)
  else if l = [99, 111, 95, 110, 101, 119] then some (3, true)
  else if l = [99, 111, 95, 114, 101, 115, 117, 109, 101] then some (2, true)
  else none
def regI (regs r : Int) (used maybe : Bool) : Bool := if r = -1 then !used || maybe else used && decide (0 ≤ r ∧ r < regs)
def immI (k n : Int) : Bool :=
  if k = 1 then decide (-2147483648 ≤ n ∧ n ≤ 4294967295)
  else if k = 20 then decide (n = 8 ∨ n = 16)
  else if k = 21 ∨ k = 23 then decide (0 ≤ n)
  else if k = 25 ∨ k = 26 then decide (n = 1 ∨ n = 2 ∨ n = 4)
  else if k = 27 then decide (1 ≤ n ∧ n ≤ 65536)
  else decide (n = 0)
def textI (k : Int) (s : ByteArray) : Bool :=
  if k = 22 ∨ k = 24 then isNameB s
  else if k = 29 then (builtI s).isSome
  else decide (s.size = 0)
/-- an operation that uses just what it may -/
def opI (regs slots strings : Int) (o : IrO) : Bool :=
  match ruleI o.kind with
  | none => false
  | some r => regI regs o.d r.d r.maybe && regI regs o.a r.a false && regI regs o.b r.b false && immI o.kind o.imm && textI o.kind o.text && (r.args || decide (o.args = [])) && o.args.all (fun x => regI regs x true false) &&
      (if o.kind = 21 then decide (o.imm < slots) else if o.kind = 23 then decide (o.imm < strings) else if o.kind = 29 then
        (match builtI o.text with
        | none => false
        | some (n, ans) => decide (o.args.length = n) && (ans || decide (o.d = -1))) else true)
def toI (blocks n : Int) : Bool := decide (1 ≤ n ∧ n < blocks)
def exitI (regs blocks : Int) (x : IrX) : Bool :=
  if x.kind = 1 then decide (x.a = -1) && decide (x.d = -1) && toI blocks x.to && decide (x.els = 0)
  else if x.kind = 2 then regI regs x.a true false && decide (x.d = -1) && toI blocks x.to && toI blocks x.els
  else if x.kind = 3 then regI regs x.a true true && decide (x.d = -1) && decide (x.to = 0) && decide (x.els = 0)
  else if x.kind = 4 then regI regs x.a true false && regI regs x.d true false && toI blocks x.to && toI blocks x.els && decide (x.to ≠ x.els)
  else false
/-- the registers that an exit reads; the blocks that it leads to -/
def exitsI (x : IrX) : List Int × List Int :=
  if x.kind = 1 then ([], [x.to])
  else if x.kind = 2 ∨ x.kind = 4 then ([x.a], [x.to, x.els])
  else if x.kind = 3 ∧ 0 ≤ x.a then ([x.a], [])
  else ([], [])
def ledI (bs : List IrB) (n : Int) : Nat := (bs.flatMap fun b => (exitsI b.exit).2).countP (fun y => decide (y = n))
def apartI (bs : List IrB) : Bool := bs.all fun b => decide (b.exit.kind ≠ 4) || decide (ledI bs b.exit.els ≤ 1)
def slotI (s : IrS) : Bool := decide (1 ≤ s.bytes ∧ s.bytes ≤ 65536 ∧ (s.align = 1 ∨ s.align = 2 ∨ s.align = 4))
def headI (f : IrF) : Bool := isNameB f.name && decide (0 ≤ f.params ∧ f.params ≤ 8 ∧ f.params ≤ f.regs ∧ f.regs ≤ 4096 ∧ f.slots.length ≤ 256 ∧ 1 ≤ f.blocks.length ∧ f.blocks.length ≤ 4096)
def bodyI (f : IrF) (strings : Int) : Bool := decide ((f.blocks.map fun b => b.ops.length).sum ≤ 4096) && f.blocks.all fun b => exitI f.regs f.blocks.length b.exit && b.ops.all (opI f.regs f.slots.length strings)
def funcI (f : IrF) (strings : Int) : Bool := headI f && f.slots.all slotI && bodyI f strings && apartI f.blocks
theorem regI_yes {regs r : Int} {used maybe : Bool} (h : regI regs r used maybe = true) : r = -1 ∨ (0 ≤ r ∧ r < regs) := by
  unfold regI at h
  split at h
  · exact .inl (by assumption)
  · simp only [Bool.and_eq_true, decide_eq_true_eq] at h
    exact .inr h.2
theorem regI_more {regs regs' r : Int} {used maybe : Bool} (hr : regs ≤ regs') (h : regI regs r used maybe = true) : regI regs' r used maybe = true := by
  unfold regI at h ⊢
  split
  · rw [if_pos (by assumption)] at h; exact h
  · rename_i hne
    rw [if_neg hne] at h
    simp only [Bool.and_eq_true, decide_eq_true_eq] at h ⊢
    exact ⟨h.1, h.2.1, by omega⟩
end Go.Proofs.YtlomdlblohnfmaaDoor

