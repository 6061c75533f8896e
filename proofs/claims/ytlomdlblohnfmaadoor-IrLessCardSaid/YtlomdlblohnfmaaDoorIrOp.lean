/- An operation: it uses just what it may. -/
import Derived.Test.YtlomdlblohnfmaaDoorIrBuilt
import Derived.Test.YtlomdlblohnfmaaDoorIrAny
namespace Go.Proofs.YtlomdlblohnfmaaDoor
open Go.RowKit

theorem reg_is (regs slots strings r : Int) (u m b : Bool) (hb : regI regs r u m = b) (w : World) :
    Calls Tryd.prog 47 #[.agg #[.int .i64 regs, .int .i64 slots, .int .i64 strings], .int .i64 r, .bool u, .bool m] w fun e w' => e = .returned (.bool b) ∧ Below w.heap.size w w' := by
  subst hb; exact reg_ok regs slots strings r u m w
theorem ir_new1 (w : World) (o o2 : Obj) : ((w.alloc o).alloc o2).heap[w.heap.size]? = some o := by
  rw [((Below.refl (w.alloc o).heap.size (w.alloc o)).alloc (Nat.le_refl _) o2).block _ (by simp)]; exact heap_alloc_new w o
theorem ir_new2 (w : World) (o o2 : Obj) : ((w.alloc o).alloc o2).heap[w.heap.size + 1]? = some o2 := by
  have := heap_alloc_new (w.alloc o) o2
  simpa using this
/-- bounds in a block -/
structure BndAt (w : World) (b : Nat) (regs slots strings : Int) : Prop where
  c0 : w.cell? ⟨b, 0, none⟩ = some (.int .i64 regs)
  c1 : w.cell? ⟨b, 1, none⟩ = some (.int .i64 slots)
  c2 : w.cell? ⟨b, 2, none⟩ = some (.int .i64 strings)
theorem BndAt.below {w w' : World} {b : Nat} {regs slots strings : Int} (h : BndAt w b regs slots strings) (hb : Below w.heap.size w w') : BndAt w' b regs slots strings := by
  have hl : b < w.heap.size := World.block_lt_of_cell? w _ h.c0
  exact ⟨by rw [hb.cell hl]; exact h.c0, by rw [hb.cell hl]; exact h.c1, by rw [hb.cell hl]; exact h.c2⟩
theorem opClo_ok (bb : Nat) (regs slots strings x : Int) (b : Bool) (hb : regI regs x true false = !b) (w : World) (h : BndAt w bb regs slots strings) :
    Calls Tryd.prog 49 #[.int .i64 x, .pointer (some ⟨bb, 0, none⟩)] w fun e w' => e = .returned (.bool b) ∧ Below w.heap.size w w' := by
  obtain ⟨c0, c1, c2⟩ := h
  have HR := Lib.hid (reg_is regs slots strings x true false (!b) hb w)
  clear hb
  go_enter Tryd.func49, Tryd.ntmps49
  go_wp2_with (go_at_call 47; (with_reducible refine HR.out.mono ?_); rintro e w1 ⟨rfl, hb1⟩)
  go_ret
  exact ⟨by simp, hb1⟩
/-- one of them is no register -/
def badArgs (regs : Int) (l : List Int) : Bool := l.any fun x => !regI regs x true false
theorem args_any (bb : Nat) (regs slots strings : Int) (v : Value) (L : List Int) (r : Bool) (hr : badArgs regs L = r) (w : World) (h : BndAt w bb regs slots strings) (hA : IsNums w.heap.size w v L) :
    Calls Tryd.prog 48 #[v, .func (.func 49) #[] #[.pointer (some ⟨bb, 0, none⟩)]] w fun e w' => e = .returned (.bool r) ∧ Below w.heap.size w w' := by
  obtain ⟨a, cap, rfl, ho, hs⟩ := hA
  refine any_int 49 _ (enters_of Tryd.func49 (by kernel_rfl) rfl) (fun x => !regI regs x true false) r a cap L w hs (fun W x hx hW => ?_) ?_ hr
  · exact opClo_ok bb regs slots strings x _ (by simp) W (h.below hW)
  · have := ho.1
    omega
/-- an operation in a block; a rule in a block -/
structure OpAt (w : World) (b : Nat) (o : IrO) (v : Value) : Prop where
  c0 : w.cell? ⟨b, 0, none⟩ = some (.int .i64 o.kind)
  c1 : w.cell? ⟨b, 1, none⟩ = some (.int .i64 o.d)
  c2 : w.cell? ⟨b, 2, none⟩ = some (.int .i64 o.a)
  c3 : w.cell? ⟨b, 3, none⟩ = some (.int .i64 o.b)
  c4 : w.cell? ⟨b, 4, none⟩ = some (.int .i64 o.imm)
  c5 : w.cell? ⟨b, 5, none⟩ = some (.string o.text)
  c6 : w.cell? ⟨b, 6, none⟩ = some v
theorem OpAt.below {w w' : World} {b : Nat} {o : IrO} {v : Value} (h : OpAt w b o v) (hb : Below w.heap.size w w') : OpAt w' b o v := by
  have hl : b < w.heap.size := World.block_lt_of_cell? w _ h.c0
  exact ⟨by rw [hb.cell hl]; exact h.c0, by rw [hb.cell hl]; exact h.c1, by rw [hb.cell hl]; exact h.c2, by rw [hb.cell hl]; exact h.c3, by rw [hb.cell hl]; exact h.c4, by rw [hb.cell hl]; exact h.c5, by rw [hb.cell hl]; exact h.c6⟩
structure RuleAt (w : World) (b : Nat) (r : IrRule) (im tx : Nat) : Prop where
  c1 : w.cell? ⟨b, 1, none⟩ = some (.bool r.d)
  c2 : w.cell? ⟨b, 2, none⟩ = some (.bool r.a)
  c3 : w.cell? ⟨b, 3, none⟩ = some (.bool r.b)
  c4 : w.cell? ⟨b, 4, none⟩ = some (.func (.func im) #[] #[])
  c5 : w.cell? ⟨b, 5, none⟩ = some (.func (.func tx) #[] #[])
  c6 : w.cell? ⟨b, 6, none⟩ = some (.bool r.args)
  c7 : w.cell? ⟨b, 7, none⟩ = some (.bool r.maybe)
theorem RuleAt.below {w w' : World} {b : Nat} {r : IrRule} {im tx : Nat} (h : RuleAt w b r im tx) (hb : Below w.heap.size w w') : RuleAt w' b r im tx := by
  have hl : b < w.heap.size := World.block_lt_of_cell? w _ h.c1
  exact ⟨by rw [hb.cell hl]; exact h.c1, by rw [hb.cell hl]; exact h.c2, by rw [hb.cell hl]; exact h.c3, by rw [hb.cell hl]; exact h.c4, by rw [hb.cell hl]; exact h.c5, by rw [hb.cell hl]; exact h.c6, by rw [hb.cell hl]; exact h.c7⟩
theorem bndAt_new {w : World} {b : Nat} {T : TypeId} {x y z : Int} (h : w.heap[b]? = some (.cells #[.int .i64 x, .int .i64 y, .int .i64 z] T (0, 0))) : BndAt w b x y z := by
  constructor <;> simp [World.cell?, h]
theorem opAt_new {w : World} {b : Nat} {T : TypeId} {o : IrO} {v : Value} (h : w.heap[b]? = some (.cells #[.int .i64 o.kind, .int .i64 o.d, .int .i64 o.a, .int .i64 o.b, .int .i64 o.imm, .string o.text, v] T (0, 0))) : OpAt w b o v := by
  constructor <;> simp [World.cell?, h]
theorem ruleAt_new {w : World} {b : Nat} {T : TypeId} {r : IrRule} {im tx : Nat} {s : ByteArray} (h : w.heap[b]? = some (.cells #[.string s, .bool r.d, .bool r.a, .bool r.b, .func (.func im) #[] #[], .func (.func tx) #[] #[], .bool r.args, .bool r.maybe] T (0, 0))) : RuleAt w b r im tx := by
  constructor <;> simp [World.cell?, h]
theorem rule_none {k : Int} (h : ruleI k = none) (w : World) : Calls Tryd.prog 46 #[.int .i64 k] w fun e w' => e = .returned (.tuple #[.agg #[.string ⟨#[]⟩, .bool false, .bool false, .bool false, .nilFunc, .nilFunc, .bool false, .bool false], .bool false]) ∧ Below w.heap.size w w' :=
  (ruleOf_ok k w).mono fun e w' he => by
    unfold RuleEnd at he
    rw [h] at he
    exact ⟨he.2, he.1⟩
theorem rule_some {k : Int} {r : IrRule} (h : ruleI k = some r) (w : World) : Calls Tryd.prog 46 #[.int .i64 k] w fun e w' => e = .returned (.tuple #[.agg #[.string ⟨(wordI k).toArray⟩, .bool r.d, .bool r.a, .bool r.b, .func (.func (immF k)) #[] #[], .func (.func (textF k)) #[] #[], .bool r.args, .bool r.maybe], .bool true]) ∧ Below w.heap.size w w' :=
  (ruleOf_ok k w).mono fun e w' he => by
    unfold RuleEnd at he
    rw [h] at he
    exact ⟨he.2, he.1⟩

set_option maxRecDepth 100000 in
set_option maxHeartbeats 4000000 in
theorem op_none (regs slots strings : Int) (o : IrO) (v : Value) (h : ruleI o.kind = none) (w : World) :
    Calls Tryd.prog 27 #[.agg #[.int .i64 regs, .int .i64 slots, .int .i64 strings], opV o v] w fun e w' => e = .returned (.bool false) ∧ Below w.heap.size w w' := by
  have HR := Lib.hid (fun w1 => rule_none h w1)
  clear h
  unfold opV
  go_enter Tryd.func27, Tryd.ntmps27
  go_wp2_with (go_at_call 46; refine (HR.out _).mono ?_; rintro e w1 ⟨rfl, hb1⟩; have HB1 := Lib.hid hb1; clear hb1)
  go_ret
  exact ⟨rfl, (((Below.refl _ _).alloc (Nat.le_refl _) _).alloc (by simp) _).trans ((HB1.out.mono (by simp; omega)).alloc (by have := HB1.out.size; simp at this; omega) _)⟩
end Go.Proofs.YtlomdlblohnfmaaDoor

