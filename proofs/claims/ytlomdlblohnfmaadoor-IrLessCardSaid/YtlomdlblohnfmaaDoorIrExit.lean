/- An exit: it uses just what it may. -/
import Derived.Test.YtlomdlblohnfmaaDoorIrOp
namespace Go.Proofs.YtlomdlblohnfmaaDoor
open Go.RowKit

theorem to_ok (bb : Nat) (blocks n : Int) (b : Bool) (hb : toI blocks n = b) (w : World) (h : w.cell? ⟨bb, 0, none⟩ = some (.int .i64 blocks)) :
    Calls Tryd.prog 62 #[.int .i64 n, .pointer (some ⟨bb, 0, none⟩)] w fun e w' => e = .returned (.bool b) ∧ Below w.heap.size w w' := by
  unfold toI at hb
  by_cases h1 : 1 ≤ n
  · by_cases h2 : n < blocks
    · rw [decide_eq_true ⟨h1, h2⟩] at hb
      subst hb
      go_enter Tryd.func62, Tryd.ntmps62
      go_wp2
      go_ret
      exact ⟨by simp, Below.refl _ _⟩
    · rw [decide_eq_false (fun h => h2 h.2)] at hb
      subst hb
      go_enter Tryd.func62, Tryd.ntmps62
      go_wp2
      go_ret
      exact ⟨by simp, Below.refl _ _⟩
  · rw [decide_eq_false (fun h => h1 h.1)] at hb
    subst hb
    have t1 : n < 1 := by omega
    clear h1
    go_enter Tryd.func62, Tryd.ntmps62
    go_wp2
    go_ret
    exact ⟨rfl, Below.refl _ _⟩
/-- an exit in a block -/
structure ExAt (w : World) (b : Nat) (x : IrX) : Prop where
  c0 : w.cell? ⟨b, 0, none⟩ = some (.int .i64 x.kind)
  c1 : w.cell? ⟨b, 1, none⟩ = some (.int .i64 x.a)
  c2 : w.cell? ⟨b, 2, none⟩ = some (.int .i64 x.d)
  c3 : w.cell? ⟨b, 3, none⟩ = some (.int .i64 x.to)
  c4 : w.cell? ⟨b, 4, none⟩ = some (.int .i64 x.els)
theorem ExAt.below {w w' : World} {b : Nat} {x : IrX} (h : ExAt w b x) (hb : Below w.heap.size w w') : ExAt w' b x := by
  have hl : b < w.heap.size := World.block_lt_of_cell? w _ h.c0
  exact ⟨by rw [hb.cell hl]; exact h.c0, by rw [hb.cell hl]; exact h.c1, by rw [hb.cell hl]; exact h.c2, by rw [hb.cell hl]; exact h.c3, by rw [hb.cell hl]; exact h.c4⟩
theorem exAt_new {w : World} {b : Nat} {T : TypeId} {x : IrX} (h : w.heap[b]? = some (.cells #[.int .i64 x.kind, .int .i64 x.a, .int .i64 x.d, .int .i64 x.to, .int .i64 x.els] T (0, 0))) : ExAt w b x := by
  constructor <;> simp [World.cell?, h]
structure ExFacts (w : World) (bb xb nb : Nat) (regs slots strings : Int) (x : IrX) (blocks : Int) : Prop where
  bnd : BndAt w bb regs slots strings
  ex : ExAt w xb x
  num : w.cell? ⟨nb, 0, none⟩ = some (.int .i64 blocks)
theorem ExFacts.below {w w' : World} {bb xb nb : Nat} {regs slots strings : Int} {x : IrX} {blocks : Int} (h : ExFacts w bb xb nb regs slots strings x blocks) (hb : Below w.heap.size w w') : ExFacts w' bb xb nb regs slots strings x blocks :=
  ⟨h.bnd.below hb, h.ex.below hb, by rw [hb.cell (World.block_lt_of_cell? w _ h.num)]; exact h.num⟩
theorem exFacts_new (w : World) (regs slots strings : Int) (x : IrX) (blocks : Int) (T1 T2 T3 : TypeId) :
    Below w.heap.size w (((w.alloc (.cells #[.int .i64 regs, .int .i64 slots, .int .i64 strings] T1)).alloc (.cells #[.int .i64 x.kind, .int .i64 x.a, .int .i64 x.d, .int .i64 x.to, .int .i64 x.els] T2)).alloc (.cells #[.int .i64 blocks] T3)) ∧
    ExFacts (((w.alloc (.cells #[.int .i64 regs, .int .i64 slots, .int .i64 strings] T1)).alloc (.cells #[.int .i64 x.kind, .int .i64 x.a, .int .i64 x.d, .int .i64 x.to, .int .i64 x.els] T2)).alloc (.cells #[.int .i64 blocks] T3)) w.heap.size (w.heap.size + 1) (w.heap.size + 1 + 1) regs slots strings x blocks := by
  have h1 := bndAt_new (ir_new1 w (.cells #[.int .i64 regs, .int .i64 slots, .int .i64 strings] T1) (.cells #[.int .i64 x.kind, .int .i64 x.a, .int .i64 x.d, .int .i64 x.to, .int .i64 x.els] T2))
  have h2 := exAt_new (ir_new2 w (.cells #[.int .i64 regs, .int .i64 slots, .int .i64 strings] T1) (.cells #[.int .i64 x.kind, .int .i64 x.a, .int .i64 x.d, .int .i64 x.to, .int .i64 x.els] T2))
  have h3 := heap_alloc_new ((w.alloc (.cells #[.int .i64 regs, .int .i64 slots, .int .i64 strings] T1)).alloc (.cells #[.int .i64 x.kind, .int .i64 x.a, .int .i64 x.d, .int .i64 x.to, .int .i64 x.els] T2)) (.cells #[.int .i64 blocks] T3)
  simp only [World.size_alloc] at h3
  refine ⟨(((Below.refl _ _).alloc (Nat.le_refl _) _).alloc (by simp) _).alloc (by simp; omega) _, h1.below ((Below.refl _ _).alloc (Nat.le_refl _) _), h2.below ((Below.refl _ _).alloc (Nat.le_refl _) _), ?_⟩
  unfold World.cell?
  simp only [h3]
  rfl

set_option maxRecDepth 100000 in
set_option maxHeartbeats 4000000 in
theorem exit_1 (regs slots strings : Int) (x : IrX) (blocks : Int) (hk : x.kind = 1) (w : World) (b0 b1 b2 b3 : Bool) (h0 : decide (x.a = -1) = b0) (h1 : decide (x.d = -1) = b1) (h2 : toI blocks x.to = b2) (h3 : decide (x.els = 0) = b3) :
    Calls Tryd.prog 42 #[.agg #[.int .i64 regs, .int .i64 slots, .int .i64 strings], exitV x, .int .i64 blocks] w fun e w' => e = .returned (.bool (b0 && b1 && b2 && b3)) ∧ Below w.heap.size w w' := by
  have t0 : (x.a == -1) = b0 := by rw [← h0]; rfl
  have t1 : (x.d == -1) = b1 := by rw [← h1]; rfl
  have H2 := Lib.hid (fun w1 hn => to_ok (w.heap.size + 1 + 1) blocks x.to b2 h2 w1 hn)
  have t3 : (x.els == 0) = b3 := by rw [← h3]; rfl
  have k1 : (x.kind == 1) = true := by rw [hk]; rfl
  clear hk h0 h1 h2 h3
  unfold exitV
  go_enter Tryd.func42, Tryd.ntmps42
  go_upto_region 2 with fail
  obtain ⟨hb0, hf0⟩ := exFacts_new w regs slots strings x blocks 84 38 3
  generalize World.alloc _ (.cells #[.int .i64 blocks] _) = wa at *
  have HB0 := Lib.hid hb0
  have HF0 := Lib.hid hf0
  clear hb0 hf0
  obtain ⟨⟨p0, p1, p2⟩, ⟨q0, q1, q2, q3, q4⟩, s0⟩ := HF0.out
  cases b0 with
  | false =>
    go_wp2_with fail
    go_ret
    exact ⟨rfl, HB0.out⟩
  | true =>
    cases b1 with
    | false =>
      go_wp2_with fail
      go_ret
      exact ⟨rfl, HB0.out⟩
    | true =>
      cases b2 with
      | false =>
        go_wp2_with (first | (go_at_call 62; (with_reducible refine (H2.out _ HF0.out.num).mono ?_); rintro e w1 ⟨rfl, hb1⟩; have HB1 := Lib.hid (HB0.out.trans (hb1.mono HB0.out.size)); have HF1 := Lib.hid (HF0.out.below hb1); obtain ⟨⟨p0, p1, p2⟩, ⟨q0, q1, q2, q3, q4⟩, s0⟩ := HF1.out; clear hb1))
        go_ret
        exact ⟨rfl, HB1.out⟩
      | true =>
        go_wp2_with (first | (go_at_call 62; (with_reducible refine (H2.out _ HF0.out.num).mono ?_); rintro e w1 ⟨rfl, hb1⟩; have HB1 := Lib.hid (HB0.out.trans (hb1.mono HB0.out.size)); have HF1 := Lib.hid (HF0.out.below hb1); obtain ⟨⟨p0, p1, p2⟩, ⟨q0, q1, q2, q3, q4⟩, s0⟩ := HF1.out; clear hb1))
        go_ret
        exact ⟨by simp, HB1.out⟩
set_option maxRecDepth 100000 in
set_option maxHeartbeats 4000000 in
theorem exit_2 (regs slots strings : Int) (x : IrX) (blocks : Int) (hk : x.kind = 2) (w : World) (b0 b1 b2 b3 : Bool) (h0 : regI regs x.a true false = b0) (h1 : decide (x.d = -1) = b1) (h2 : toI blocks x.to = b2) (h3 : toI blocks x.els = b3) :
    Calls Tryd.prog 42 #[.agg #[.int .i64 regs, .int .i64 slots, .int .i64 strings], exitV x, .int .i64 blocks] w fun e w' => e = .returned (.bool (b0 && b1 && b2 && b3)) ∧ Below w.heap.size w w' := by
  have H0 := Lib.hid (fun w1 => reg_is regs slots strings x.a true false b0 h0 w1)
  have t1 : (x.d == -1) = b1 := by rw [← h1]; rfl
  have H2 := Lib.hid (fun w1 hn => to_ok (w.heap.size + 1 + 1) blocks x.to b2 h2 w1 hn)
  have H3 := Lib.hid (fun w1 hn => to_ok (w.heap.size + 1 + 1) blocks x.els b3 h3 w1 hn)
  have k1 : (x.kind == 1) = false := by rw [hk]; rfl
  have k2 : (x.kind == 2) = true := by rw [hk]; rfl
  clear hk h0 h1 h2 h3
  unfold exitV
  go_enter Tryd.func42, Tryd.ntmps42
  go_upto_region 2 with fail
  obtain ⟨hb0, hf0⟩ := exFacts_new w regs slots strings x blocks 84 38 3
  generalize World.alloc _ (.cells #[.int .i64 blocks] _) = wa at *
  have HB0 := Lib.hid hb0
  have HF0 := Lib.hid hf0
  clear hb0 hf0
  obtain ⟨⟨p0, p1, p2⟩, ⟨q0, q1, q2, q3, q4⟩, s0⟩ := HF0.out
  cases b0 with
  | false =>
    go_wp2_with (first | (go_at_call 47; (with_reducible refine (H0.out _).mono ?_); rintro e w1 ⟨rfl, hb1⟩; have HB1 := Lib.hid (HB0.out.trans (hb1.mono HB0.out.size)); have HF1 := Lib.hid (HF0.out.below hb1); obtain ⟨⟨p0, p1, p2⟩, ⟨q0, q1, q2, q3, q4⟩, s0⟩ := HF1.out; clear hb1))
    go_ret
    exact ⟨rfl, HB1.out⟩
  | true =>
    cases b1 with
    | false =>
      go_wp2_with (first | (go_at_call 47; (with_reducible refine (H0.out _).mono ?_); rintro e w1 ⟨rfl, hb1⟩; have HB1 := Lib.hid (HB0.out.trans (hb1.mono HB0.out.size)); have HF1 := Lib.hid (HF0.out.below hb1); obtain ⟨⟨p0, p1, p2⟩, ⟨q0, q1, q2, q3, q4⟩, s0⟩ := HF1.out; clear hb1))
      go_ret
      exact ⟨rfl, HB1.out⟩
    | true =>
      cases b2 with
      | false =>
        go_wp2_with (first | (go_at_call 47; (with_reducible refine (H0.out _).mono ?_); rintro e w1 ⟨rfl, hb1⟩; have HB1 := Lib.hid (HB0.out.trans (hb1.mono HB0.out.size)); have HF1 := Lib.hid (HF0.out.below hb1); obtain ⟨⟨p0, p1, p2⟩, ⟨q0, q1, q2, q3, q4⟩, s0⟩ := HF1.out; clear hb1) | (go_at_call 62; (with_reducible refine (H2.out _ HF1.out.num).mono ?_); rintro e w2 ⟨rfl, hb2⟩; have HB2 := Lib.hid (HB1.out.trans (hb2.mono HB1.out.size)); have HF2 := Lib.hid (HF1.out.below hb2); obtain ⟨⟨p0, p1, p2⟩, ⟨q0, q1, q2, q3, q4⟩, s0⟩ := HF2.out; clear hb2))
        go_ret
        exact ⟨rfl, HB2.out⟩
      | true =>
        go_wp2_with (first | (go_at_call 47; (with_reducible refine (H0.out _).mono ?_); rintro e w1 ⟨rfl, hb1⟩; have HB1 := Lib.hid (HB0.out.trans (hb1.mono HB0.out.size)); have HF1 := Lib.hid (HF0.out.below hb1); obtain ⟨⟨p0, p1, p2⟩, ⟨q0, q1, q2, q3, q4⟩, s0⟩ := HF1.out; clear hb1) | (go_at_call 62; (with_reducible refine (H2.out _ HF1.out.num).mono ?_); rintro e w2 ⟨rfl, hb2⟩; have HB2 := Lib.hid (HB1.out.trans (hb2.mono HB1.out.size)); have HF2 := Lib.hid (HF1.out.below hb2); obtain ⟨⟨p0, p1, p2⟩, ⟨q0, q1, q2, q3, q4⟩, s0⟩ := HF2.out; clear hb2) | (go_at_call 62; (with_reducible refine (H3.out _ HF2.out.num).mono ?_); rintro e w3 ⟨rfl, hb3⟩; have HB3 := Lib.hid (HB2.out.trans (hb3.mono HB2.out.size)); have HF3 := Lib.hid (HF2.out.below hb3); obtain ⟨⟨p0, p1, p2⟩, ⟨q0, q1, q2, q3, q4⟩, s0⟩ := HF3.out; clear hb3))
        go_ret
        exact ⟨by simp, HB3.out⟩
set_option maxRecDepth 100000 in
set_option maxHeartbeats 4000000 in
theorem exit_3 (regs slots strings : Int) (x : IrX) (blocks : Int) (hk : x.kind = 3) (w : World) (b0 b1 b2 b3 : Bool) (h0 : regI regs x.a true true = b0) (h1 : decide (x.d = -1) = b1) (h2 : decide (x.to = 0) = b2) (h3 : decide (x.els = 0) = b3) :
    Calls Tryd.prog 42 #[.agg #[.int .i64 regs, .int .i64 slots, .int .i64 strings], exitV x, .int .i64 blocks] w fun e w' => e = .returned (.bool (b0 && b1 && b2 && b3)) ∧ Below w.heap.size w w' := by
  have H0 := Lib.hid (fun w1 => reg_is regs slots strings x.a true true b0 h0 w1)
  have t1 : (x.d == -1) = b1 := by rw [← h1]; rfl
  have t2 : (x.to == 0) = b2 := by rw [← h2]; rfl
  have t3 : (x.els == 0) = b3 := by rw [← h3]; rfl
  have k1 : (x.kind == 1) = false := by rw [hk]; rfl
  have k2 : (x.kind == 2) = false := by rw [hk]; rfl
  have k3 : (x.kind == 3) = true := by rw [hk]; rfl
  clear hk h0 h1 h2 h3
  unfold exitV
  go_enter Tryd.func42, Tryd.ntmps42
  go_upto_region 2 with fail
  obtain ⟨hb0, hf0⟩ := exFacts_new w regs slots strings x blocks 84 38 3
  generalize World.alloc _ (.cells #[.int .i64 blocks] _) = wa at *
  have HB0 := Lib.hid hb0
  have HF0 := Lib.hid hf0
  clear hb0 hf0
  obtain ⟨⟨p0, p1, p2⟩, ⟨q0, q1, q2, q3, q4⟩, s0⟩ := HF0.out
  cases b0 with
  | false =>
    go_wp2_with (first | (go_at_call 47; (with_reducible refine (H0.out _).mono ?_); rintro e w1 ⟨rfl, hb1⟩; have HB1 := Lib.hid (HB0.out.trans (hb1.mono HB0.out.size)); have HF1 := Lib.hid (HF0.out.below hb1); obtain ⟨⟨p0, p1, p2⟩, ⟨q0, q1, q2, q3, q4⟩, s0⟩ := HF1.out; clear hb1))
    go_ret
    exact ⟨rfl, HB1.out⟩
  | true =>
    cases b1 with
    | false =>
      go_wp2_with (first | (go_at_call 47; (with_reducible refine (H0.out _).mono ?_); rintro e w1 ⟨rfl, hb1⟩; have HB1 := Lib.hid (HB0.out.trans (hb1.mono HB0.out.size)); have HF1 := Lib.hid (HF0.out.below hb1); obtain ⟨⟨p0, p1, p2⟩, ⟨q0, q1, q2, q3, q4⟩, s0⟩ := HF1.out; clear hb1))
      go_ret
      exact ⟨rfl, HB1.out⟩
    | true =>
      cases b2 with
      | false =>
        go_wp2_with (first | (go_at_call 47; (with_reducible refine (H0.out _).mono ?_); rintro e w1 ⟨rfl, hb1⟩; have HB1 := Lib.hid (HB0.out.trans (hb1.mono HB0.out.size)); have HF1 := Lib.hid (HF0.out.below hb1); obtain ⟨⟨p0, p1, p2⟩, ⟨q0, q1, q2, q3, q4⟩, s0⟩ := HF1.out; clear hb1))
        go_ret
        exact ⟨rfl, HB1.out⟩
      | true =>
        go_wp2_with (first | (go_at_call 47; (with_reducible refine (H0.out _).mono ?_); rintro e w1 ⟨rfl, hb1⟩; have HB1 := Lib.hid (HB0.out.trans (hb1.mono HB0.out.size)); have HF1 := Lib.hid (HF0.out.below hb1); obtain ⟨⟨p0, p1, p2⟩, ⟨q0, q1, q2, q3, q4⟩, s0⟩ := HF1.out; clear hb1))
        go_ret
        exact ⟨by simp, HB1.out⟩
set_option maxRecDepth 100000 in
set_option maxHeartbeats 4000000 in
theorem exit_4 (regs slots strings : Int) (x : IrX) (blocks : Int) (hk : x.kind = 4) (w : World) (b0 b1 b2 b3 b4 : Bool) (h0 : regI regs x.a true false = b0) (h1 : regI regs x.d true false = b1) (h2 : toI blocks x.to = b2) (h3 : toI blocks x.els = b3) (h4 : decide (x.to ≠ x.els) = b4) :
    Calls Tryd.prog 42 #[.agg #[.int .i64 regs, .int .i64 slots, .int .i64 strings], exitV x, .int .i64 blocks] w fun e w' => e = .returned (.bool (b0 && b1 && b2 && b3 && b4)) ∧ Below w.heap.size w w' := by
  have H0 := Lib.hid (fun w1 => reg_is regs slots strings x.a true false b0 h0 w1)
  have H1 := Lib.hid (fun w1 => reg_is regs slots strings x.d true false b1 h1 w1)
  have H2 := Lib.hid (fun w1 hn => to_ok (w.heap.size + 1 + 1) blocks x.to b2 h2 w1 hn)
  have H3 := Lib.hid (fun w1 hn => to_ok (w.heap.size + 1 + 1) blocks x.els b3 h3 w1 hn)
  have t4 : (x.to != x.els) = b4 := by rw [← h4]; by_cases e : x.to = x.els <;> simp [e]
  have k1 : (x.kind == 1) = false := by rw [hk]; rfl
  have k2 : (x.kind == 2) = false := by rw [hk]; rfl
  have k3 : (x.kind == 3) = false := by rw [hk]; rfl
  have k4 : (x.kind == 4) = true := by rw [hk]; rfl
  clear hk h0 h1 h2 h3 h4
  unfold exitV
  go_enter Tryd.func42, Tryd.ntmps42
  go_upto_region 2 with fail
  obtain ⟨hb0, hf0⟩ := exFacts_new w regs slots strings x blocks 84 38 3
  generalize World.alloc _ (.cells #[.int .i64 blocks] _) = wa at *
  have HB0 := Lib.hid hb0
  have HF0 := Lib.hid hf0
  clear hb0 hf0
  obtain ⟨⟨p0, p1, p2⟩, ⟨q0, q1, q2, q3, q4⟩, s0⟩ := HF0.out
  cases b0 with
  | false =>
    go_wp2_with (first | (go_at_call 47; (with_reducible refine (H0.out _).mono ?_); rintro e w1 ⟨rfl, hb1⟩; have HB1 := Lib.hid (HB0.out.trans (hb1.mono HB0.out.size)); have HF1 := Lib.hid (HF0.out.below hb1); obtain ⟨⟨p0, p1, p2⟩, ⟨q0, q1, q2, q3, q4⟩, s0⟩ := HF1.out; clear hb1))
    go_ret
    exact ⟨rfl, HB1.out⟩
  | true =>
    cases b1 with
    | false =>
      go_wp2_with (first | (go_at_call 47; (with_reducible refine (H0.out _).mono ?_); rintro e w1 ⟨rfl, hb1⟩; have HB1 := Lib.hid (HB0.out.trans (hb1.mono HB0.out.size)); have HF1 := Lib.hid (HF0.out.below hb1); obtain ⟨⟨p0, p1, p2⟩, ⟨q0, q1, q2, q3, q4⟩, s0⟩ := HF1.out; clear hb1) | (go_at_call 47; (with_reducible refine (H1.out _).mono ?_); rintro e w2 ⟨rfl, hb2⟩; have HB2 := Lib.hid (HB1.out.trans (hb2.mono HB1.out.size)); have HF2 := Lib.hid (HF1.out.below hb2); obtain ⟨⟨p0, p1, p2⟩, ⟨q0, q1, q2, q3, q4⟩, s0⟩ := HF2.out; clear hb2))
      go_ret
      exact ⟨rfl, HB2.out⟩
    | true =>
      cases b2 with
      | false =>
        go_wp2_with (first | (go_at_call 47; (with_reducible refine (H0.out _).mono ?_); rintro e w1 ⟨rfl, hb1⟩; have HB1 := Lib.hid (HB0.out.trans (hb1.mono HB0.out.size)); have HF1 := Lib.hid (HF0.out.below hb1); obtain ⟨⟨p0, p1, p2⟩, ⟨q0, q1, q2, q3, q4⟩, s0⟩ := HF1.out; clear hb1) | (go_at_call 47; (with_reducible refine (H1.out _).mono ?_); rintro e w2 ⟨rfl, hb2⟩; have HB2 := Lib.hid (HB1.out.trans (hb2.mono HB1.out.size)); have HF2 := Lib.hid (HF1.out.below hb2); obtain ⟨⟨p0, p1, p2⟩, ⟨q0, q1, q2, q3, q4⟩, s0⟩ := HF2.out; clear hb2) | (go_at_call 62; (with_reducible refine (H2.out _ HF2.out.num).mono ?_); rintro e w3 ⟨rfl, hb3⟩; have HB3 := Lib.hid (HB2.out.trans (hb3.mono HB2.out.size)); have HF3 := Lib.hid (HF2.out.below hb3); obtain ⟨⟨p0, p1, p2⟩, ⟨q0, q1, q2, q3, q4⟩, s0⟩ := HF3.out; clear hb3))
        go_ret
        exact ⟨rfl, HB3.out⟩
      | true =>
        cases b3 with
        | false =>
          go_wp2_with (first | (go_at_call 47; (with_reducible refine (H0.out _).mono ?_); rintro e w1 ⟨rfl, hb1⟩; have HB1 := Lib.hid (HB0.out.trans (hb1.mono HB0.out.size)); have HF1 := Lib.hid (HF0.out.below hb1); obtain ⟨⟨p0, p1, p2⟩, ⟨q0, q1, q2, q3, q4⟩, s0⟩ := HF1.out; clear hb1) | (go_at_call 47; (with_reducible refine (H1.out _).mono ?_); rintro e w2 ⟨rfl, hb2⟩; have HB2 := Lib.hid (HB1.out.trans (hb2.mono HB1.out.size)); have HF2 := Lib.hid (HF1.out.below hb2); obtain ⟨⟨p0, p1, p2⟩, ⟨q0, q1, q2, q3, q4⟩, s0⟩ := HF2.out; clear hb2) | (go_at_call 62; (with_reducible refine (H2.out _ HF2.out.num).mono ?_); rintro e w3 ⟨rfl, hb3⟩; have HB3 := Lib.hid (HB2.out.trans (hb3.mono HB2.out.size)); have HF3 := Lib.hid (HF2.out.below hb3); obtain ⟨⟨p0, p1, p2⟩, ⟨q0, q1, q2, q3, q4⟩, s0⟩ := HF3.out; clear hb3) | (go_at_call 62; (with_reducible refine (H3.out _ HF3.out.num).mono ?_); rintro e w4 ⟨rfl, hb4⟩; have HB4 := Lib.hid (HB3.out.trans (hb4.mono HB3.out.size)); have HF4 := Lib.hid (HF3.out.below hb4); obtain ⟨⟨p0, p1, p2⟩, ⟨q0, q1, q2, q3, q4⟩, s0⟩ := HF4.out; clear hb4))
          go_ret
          exact ⟨rfl, HB4.out⟩
        | true =>
          go_wp2_with (first | (go_at_call 47; (with_reducible refine (H0.out _).mono ?_); rintro e w1 ⟨rfl, hb1⟩; have HB1 := Lib.hid (HB0.out.trans (hb1.mono HB0.out.size)); have HF1 := Lib.hid (HF0.out.below hb1); obtain ⟨⟨p0, p1, p2⟩, ⟨q0, q1, q2, q3, q4⟩, s0⟩ := HF1.out; clear hb1) | (go_at_call 47; (with_reducible refine (H1.out _).mono ?_); rintro e w2 ⟨rfl, hb2⟩; have HB2 := Lib.hid (HB1.out.trans (hb2.mono HB1.out.size)); have HF2 := Lib.hid (HF1.out.below hb2); obtain ⟨⟨p0, p1, p2⟩, ⟨q0, q1, q2, q3, q4⟩, s0⟩ := HF2.out; clear hb2) | (go_at_call 62; (with_reducible refine (H2.out _ HF2.out.num).mono ?_); rintro e w3 ⟨rfl, hb3⟩; have HB3 := Lib.hid (HB2.out.trans (hb3.mono HB2.out.size)); have HF3 := Lib.hid (HF2.out.below hb3); obtain ⟨⟨p0, p1, p2⟩, ⟨q0, q1, q2, q3, q4⟩, s0⟩ := HF3.out; clear hb3) | (go_at_call 62; (with_reducible refine (H3.out _ HF3.out.num).mono ?_); rintro e w4 ⟨rfl, hb4⟩; have HB4 := Lib.hid (HB3.out.trans (hb4.mono HB3.out.size)); have HF4 := Lib.hid (HF3.out.below hb4); obtain ⟨⟨p0, p1, p2⟩, ⟨q0, q1, q2, q3, q4⟩, s0⟩ := HF4.out; clear hb4))
          go_ret
          exact ⟨by simp, HB4.out⟩
set_option maxRecDepth 100000 in
set_option maxHeartbeats 4000000 in
theorem exit_else (regs slots strings : Int) (x : IrX) (blocks : Int) (h1 : x.kind ≠ 1) (h2 : x.kind ≠ 2) (h3 : x.kind ≠ 3) (h4 : x.kind ≠ 4) (w : World) :
    Calls Tryd.prog 42 #[.agg #[.int .i64 regs, .int .i64 slots, .int .i64 strings], exitV x, .int .i64 blocks] w fun e w' => e = .returned (.bool false) ∧ Below w.heap.size w w' := by
  have k1 : (x.kind == 1) = false := by simpa using h1
  have k2 : (x.kind == 2) = false := by simpa using h2
  have k3 : (x.kind == 3) = false := by simpa using h3
  have k4 : (x.kind == 4) = false := by simpa using h4
  clear h1 h2 h3 h4
  unfold exitV
  go_enter Tryd.func42, Tryd.ntmps42
  go_wp2_with fail
  go_ret
  exact ⟨rfl, (((Below.refl _ _).alloc (Nat.le_refl _) _).alloc (by simp) _).alloc (by simp; omega) _⟩
theorem exit_ok (regs slots strings : Int) (x : IrX) (blocks : Int) (w : World) :
    Calls Tryd.prog 42 #[.agg #[.int .i64 regs, .int .i64 slots, .int .i64 strings], exitV x, .int .i64 blocks] w fun e w' => e = .returned (.bool (exitI regs blocks x)) ∧ Below w.heap.size w w' := by
  unfold exitI
  split
  · exact exit_1 regs slots strings x blocks (by assumption) w _ _ _ _ rfl rfl rfl rfl
  split
  · exact exit_2 regs slots strings x blocks (by assumption) w _ _ _ _ rfl rfl rfl rfl
  split
  · exact exit_3 regs slots strings x blocks (by assumption) w _ _ _ _ rfl rfl rfl rfl
  split
  · exact exit_4 regs slots strings x blocks (by assumption) w _ _ _ _ _ rfl rfl rfl rfl rfl
  · exact exit_else regs slots strings x blocks (by assumption) (by assumption) (by assumption) (by assumption) w
end Go.Proofs.YtlomdlblohnfmaaDoor

