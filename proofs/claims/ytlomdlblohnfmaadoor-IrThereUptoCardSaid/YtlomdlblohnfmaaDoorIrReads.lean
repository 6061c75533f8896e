/- An operation's text, if it is right; the registers that it reads. -/
import Derived.Test.YtlomdlblohnfmaaDoorIrLine2
import Derived.Test.YtlomdlblohnfmaaDoorIrOp3
import Derived.Test.YtlomdlblohnfmaaDoorIrReach2
namespace Go.Proofs.YtlomdlblohnfmaaDoor
open Go.RowKit Go.Sort

theorem any_okI (w : World) : Calls Tryd.prog 26 #[] w fun e w' => e = .returned (.agg #[.int .i64 4096, .int .i64 4611686018427387904, .int .i64 4611686018427387904]) ∧ Below w.heap.size w w' := by
  go_enter Tryd.func26, Tryd.ntmps26
  go_wp2
  exact bodyPost_ret (v := .agg #[.int .i64 4096, .int .i64 4611686018427387904, .int .i64 4611686018427387904]) (by simp [results, Tryd.results26, go_sem]) rfl ⟨rfl, (Below.refl _ _).alloc (Nat.le_refl _) _⟩

set_option maxRecDepth 100000 in
set_option maxHeartbeats 4000000 in
theorem lineOf_ok (o : IrO) (v : Value) (w : World) (hE : IE w) (hA : IsNums w.heap.size w v o.args) (hv : anyI o = true) (hl : o.args.length ≤ 1048576) (ht : o.text.size ≤ 1048576) (hi : I64 o.imm) :
    Calls Tryd.prog 13 #[opV o v] w fun e w' => e = .returned (.tuple #[.string (wordsL (lineP o)), .int .i64 0]) ∧ Below w.heap.size w w' := by
  have hO := fun w1 (hb1 : Below w.heap.size w w1) => op_ok 4096 4611686018427387904 4611686018427387904 o v w1 (hE.keys.below hb1) ((hA.below hb1 (Nat.le_refl _)).mono hb1.size)
  rw [show opI 4096 4611686018427387904 4611686018427387904 o = true from hv] at hO
  have hL := fun w1 (hb1 : Below w.heap.size w w1) => line_ok o v w1 (hE.below hb1) ((hA.below hb1 (Nat.le_refl _)).mono hb1.size) hv hl ht hi
  obtain ⟨a, cap, rfl, _⟩ := hA
  unfold opV at hO hL ⊢
  have hba : Below w.heap.size w (w.alloc (.cells #[.int .i64 o.kind, .int .i64 o.d, .int .i64 o.a, .int .i64 o.b, .int .i64 o.imm, .string o.text, .slice a o.args.length cap] 54)) := (Below.refl _ _).alloc (Nat.le_refl _) _
  have hop := opAt_new (heap_alloc_new w (.cells #[.int .i64 o.kind, .int .i64 o.d, .int .i64 o.a, .int .i64 o.b, .int .i64 o.imm, .string o.text, .slice a o.args.length cap] 54))
  have HO := Lib.hid hO
  have HL := Lib.hid hL
  clear hO hL hE hv hl ht hi
  generalize wordsL (lineP o) = r at *
  go_enter Tryd.func13, Tryd.ntmps13
  go_upto_region 1 with fail
  generalize World.alloc w _ = wb at *
  have HBa := Lib.hid hba
  have HOp := Lib.hid hop
  clear hba hop
  have hHB := fun d os => HBa.out.trans ((below_regrown wb d os).mono HBa.out.size)
  have q0 := fun d os => cell_regrown HOp.out.c0 d os
  have q1 := fun d os => cell_regrown HOp.out.c1 d os
  have q2 := fun d os => cell_regrown HOp.out.c2 d os
  have q3 := fun d os => cell_regrown HOp.out.c3 d os
  have q4 := fun d os => cell_regrown HOp.out.c4 d os
  have q5 := fun d os => cell_regrown HOp.out.c5 d os
  have q6 := fun d os => cell_regrown HOp.out.c6 d os
  have C1 := fun d os => Calls.regrown_of (any_okI (grow (redrawn wb d) os))
  have C2 := fun d os => Calls.regrown_of (HO.out _ (hHB d os))
  have D1 := Lib.hid C1
  have D2 := Lib.hid C2
  clear hHB C1 C2
  refine wp_region_quiet_below (by kernel_rfl) (by kernel_rfl) ?_
  repeat (go_big_quiet_step (first | exact D1.out _ _ | exact D2.out _ _))
  refine wpQuiet_nil ?_
  intro _ hw'
  obtain ⟨⟨dq, osq⟩, hw''⟩ := hw'
  subst hw''
  have HB2 := Lib.hid (HBa.out.trans ((below_regrown wb dq osq).mono HBa.out.size))
  obtain ⟨c0, c1, c2, c3, c4, c5, c6⟩ := HOp.out.below (below_regrown wb dq osq)
  clear q0 q1 q2 q3 q4 q5 q6
  go_wp2_with (go_at_call 28; (with_reducible refine (HL.out _ HB2.out).mono ?_); rintro e w9 ⟨rfl, hb9⟩; have HB9 := Lib.hid (HB2.out.trans (hb9.mono HB2.out.size)); clear hb9)
  go_ret2
  exact ⟨rfl, HB9.out⟩
end Go.Proofs.YtlomdlblohnfmaaDoor

