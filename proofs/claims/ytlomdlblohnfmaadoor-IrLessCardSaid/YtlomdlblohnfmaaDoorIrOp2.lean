/- An operation of a kind that is: it uses just what it may. -/
import Derived.Test.YtlomdlblohnfmaaDoorIrOp
import Derived.Deep.DeepCutAuto
namespace Go.Proofs.YtlomdlblohnfmaaDoor
open Go.RowKit

/-- what is asked of a slot's, a string's, a built-in function's operation besides -/
def lastI (slots strings : Int) (o : IrO) : Bool := if o.kind = 21 then decide (o.imm < slots) else if o.kind = 23 then decide (o.imm < strings) else if o.kind = 29 then
        (match builtI o.text with
        | none => false
        | some (n, ans) => decide (o.args.length = n) && (ans || decide (o.d = -1))) else true
/-- all that a walk through an operation reads -/
structure OpFacts (w : World) (bb ob rb : Nat) (regs slots strings : Int) (o : IrO) (v : Value) (r : IrRule) (im tx : Nat) : Prop where
  bnd : BndAt w bb regs slots strings
  op : OpAt w ob o v
  rule : RuleAt w rb r im tx
theorem OpFacts.below {w w' : World} {bb ob rb : Nat} {regs slots strings : Int} {o : IrO} {v : Value} {r : IrRule} {im tx : Nat} (h : OpFacts w bb ob rb regs slots strings o v r im tx) (hb : Below w.heap.size w w') : OpFacts w' bb ob rb regs slots strings o v r im tx := ⟨h.bnd.below hb, h.op.below hb, h.rule.below hb⟩
theorem opFacts_new {w w1 : World} {regs slots strings : Int} {o : IrO} {v : Value} {r : IrRule} {im tx : Nat} {s : ByteArray} {T1 T2 T3 : TypeId}
    (hb : Below ((w.alloc (.cells #[.int .i64 regs, .int .i64 slots, .int .i64 strings] T1)).alloc (.cells #[.int .i64 o.kind, .int .i64 o.d, .int .i64 o.a, .int .i64 o.b, .int .i64 o.imm, .string o.text, v] T2)).heap.size ((w.alloc (.cells #[.int .i64 regs, .int .i64 slots, .int .i64 strings] T1)).alloc (.cells #[.int .i64 o.kind, .int .i64 o.d, .int .i64 o.a, .int .i64 o.b, .int .i64 o.imm, .string o.text, v] T2)) w1) :
    Below w.heap.size w (w1.alloc (.cells #[.string s, .bool r.d, .bool r.a, .bool r.b, .func (.func im) #[] #[], .func (.func tx) #[] #[], .bool r.args, .bool r.maybe] T3)) ∧
    OpFacts (w1.alloc (.cells #[.string s, .bool r.d, .bool r.a, .bool r.b, .func (.func im) #[] #[], .func (.func tx) #[] #[], .bool r.args, .bool r.maybe] T3)) w.heap.size (w.heap.size + 1) w1.heap.size regs slots strings o v r im tx := by
  have hs := hb.size
  simp at hs
  refine ⟨((((Below.refl _ _).alloc (Nat.le_refl _) _).alloc (by simp) _).trans (hb.mono (by simp; omega))).alloc (by omega) _, ⟨?_, ?_, ?_⟩⟩
  · have h0 := ir_new1 w (.cells #[.int .i64 regs, .int .i64 slots, .int .i64 strings] T1) (.cells #[.int .i64 o.kind, .int .i64 o.d, .int .i64 o.a, .int .i64 o.b, .int .i64 o.imm, .string o.text, v] T2)
    have h1 := (bndAt_new h0).below hb
    exact h1.below ((Below.refl _ _).alloc (Nat.le_refl _) _)
  · have h0 := ir_new2 w (.cells #[.int .i64 regs, .int .i64 slots, .int .i64 strings] T1) (.cells #[.int .i64 o.kind, .int .i64 o.d, .int .i64 o.a, .int .i64 o.b, .int .i64 o.imm, .string o.text, v] T2)
    have h1 := (opAt_new h0).below hb
    exact h1.below ((Below.refl _ _).alloc (Nat.le_refl _) _)
  · exact ruleAt_new (heap_alloc_new _ _)

theorem args_cases {b : Bool} {l : List Int} (h : (b || decide (l = [])) = true) : b = true ∨ (b = false ∧ (l.length : Int) ≤ 0) := by
  cases b with
  | true => exact .inl rfl
  | false =>
    have : l = [] := by simpa using h
    exact .inr ⟨rfl, by rw [this]; simp⟩

set_option maxRecDepth 100000 in
set_option maxHeartbeats 16000000 in
theorem op_some (regs slots strings : Int) (o : IrO) (v : Value) (r : IrRule) (h0 : ruleI o.kind = some r) (w : World) (hK : KeysAt w) (hA : IsNums w.heap.size w v o.args)
    (b1 b2 b3 b4 b5 b6 b7 b8 : Bool) (h1 : regI regs o.d r.d r.maybe = b1) (h2 : regI regs o.a r.a false = b2) (h3 : regI regs o.b r.b false = b3) (h4 : immI o.kind o.imm = b4) (h5 : textI o.kind o.text = b5) (h6 : (r.args || decide (o.args = [])) = b6) (h7 : badArgs regs o.args = b7) (h8 : lastI slots strings o = b8) :
    Calls Tryd.prog 27 #[.agg #[.int .i64 regs, .int .i64 slots, .int .i64 strings], opV o v] w fun e w' => e = .returned (.bool (b1 && (b2 && (b3 && (b4 && (b5 && (b6 && (!b7 && b8)))))))) ∧ Below w.heap.size w w' := by
  have HR := Lib.hid (fun w1 => rule_some h0 w1)
  have HD := Lib.hid (fun w1 => reg_is regs slots strings o.d r.d r.maybe b1 h1 w1)
  have HA := Lib.hid (fun w1 => reg_is regs slots strings o.a r.a false b2 h2 w1)
  have HB := Lib.hid (fun w1 => reg_is regs slots strings o.b r.b false b3 h3 w1)
  have HI := Lib.hid (fun w1 => imm_ok o.kind o.imm b4 h4 w1)
  have HT := Lib.hid (fun w1 hK1 => text_ok o.kind o.text b5 h5 w1 hK1)
  have HK := Lib.hid hK
  have HV := Lib.hid hA
  have ei := imm_enters o.kind
  have et := text_enters o.kind
  have H6 := Lib.hid h6
  have H5 := Lib.hid h5
  have H8 := Lib.hid h8
  have HC := Lib.hid (fun w1 bb hb1 hA1 => args_any bb regs slots strings v o.args b7 h7 w1 hb1 hA1)
  generalize immF o.kind = gi at *
  generalize textF o.kind = gt at *
  clear h0 h1 h2 h3 h4 h5 h6 h7 h8 hK hA
  obtain ⟨a, cap, rfl, ho, _⟩ := HV.out
  have hlen : (o.args.length : Int) ≤ 9223372036854775807 := by
    have := ho.1
    omega
  clear ho
  unfold opV
  go_enter Tryd.func27, Tryd.ntmps27
  go_upto_region 2 with (go_at_call 46; refine (HR.out _).mono ?_; rintro e w1 ⟨rfl, hb1⟩; have HB1 := Lib.hid hb1; clear hb1)
  obtain ⟨hb2, hf2⟩ := opFacts_new (T3 := 113) (r := r) (im := gi) (tx := gt) (s := ⟨(wordI o.kind).toArray⟩) HB1.out
  generalize w1.heap.size = rb at *
  generalize World.alloc w1 _ = w2 at *
  have HB2 := Lib.hid hb2
  have HF2 := Lib.hid hf2
  clear hb2 HB1
  obtain ⟨rd, ra, rb', rargs, rmaybe⟩ := r
  obtain ⟨⟨p0, p1, p2⟩, ⟨q0, q1, q2, q3, q4, q5, q6⟩, ⟨r1, r2, r3, r4, r5, r6, r7⟩⟩ := hf2
  dsimp only at *
  cases b1 with
  | false =>
    go_wp2_with (first | (go_at_call 47; (with_reducible refine (HD.out _).mono ?_); rintro e w3 ⟨rfl, hb3⟩; have HB3 := Lib.hid (HB2.out.trans (hb3.mono HB2.out.size)); have HF3 := Lib.hid (HF2.out.below hb3); obtain ⟨⟨p0, p1, p2⟩, ⟨q0, q1, q2, q3, q4, q5, q6⟩, ⟨r1, r2, r3, r4, r5, r6, r7⟩⟩ := HF3.out; dsimp only at r1 r2 r3 r6 r7; clear hb3))
    go_ret
    exact ⟨rfl, HB3.out⟩
  | true =>
    cases b2 with
    | false =>
      go_wp2_with (first | (go_at_call 47; (with_reducible refine (HD.out _).mono ?_); rintro e w3 ⟨rfl, hb3⟩; have HB3 := Lib.hid (HB2.out.trans (hb3.mono HB2.out.size)); have HF3 := Lib.hid (HF2.out.below hb3); obtain ⟨⟨p0, p1, p2⟩, ⟨q0, q1, q2, q3, q4, q5, q6⟩, ⟨r1, r2, r3, r4, r5, r6, r7⟩⟩ := HF3.out; dsimp only at r1 r2 r3 r6 r7; clear hb3) | (go_at_call 47; (with_reducible refine (HA.out _).mono ?_); rintro e w4 ⟨rfl, hb4⟩; have HB4 := Lib.hid (HB3.out.trans (hb4.mono HB3.out.size)); have HF4 := Lib.hid (HF3.out.below hb4); obtain ⟨⟨p0, p1, p2⟩, ⟨q0, q1, q2, q3, q4, q5, q6⟩, ⟨r1, r2, r3, r4, r5, r6, r7⟩⟩ := HF4.out; dsimp only at r1 r2 r3 r6 r7; clear hb4))
      go_ret
      exact ⟨rfl, HB4.out⟩
    | true =>
      cases b3 with
      | false =>
        go_wp2_with (first | (go_at_call 47; (with_reducible refine (HD.out _).mono ?_); rintro e w3 ⟨rfl, hb3⟩; have HB3 := Lib.hid (HB2.out.trans (hb3.mono HB2.out.size)); have HF3 := Lib.hid (HF2.out.below hb3); obtain ⟨⟨p0, p1, p2⟩, ⟨q0, q1, q2, q3, q4, q5, q6⟩, ⟨r1, r2, r3, r4, r5, r6, r7⟩⟩ := HF3.out; dsimp only at r1 r2 r3 r6 r7; clear hb3) | (go_at_call 47; (with_reducible refine (HA.out _).mono ?_); rintro e w4 ⟨rfl, hb4⟩; have HB4 := Lib.hid (HB3.out.trans (hb4.mono HB3.out.size)); have HF4 := Lib.hid (HF3.out.below hb4); obtain ⟨⟨p0, p1, p2⟩, ⟨q0, q1, q2, q3, q4, q5, q6⟩, ⟨r1, r2, r3, r4, r5, r6, r7⟩⟩ := HF4.out; dsimp only at r1 r2 r3 r6 r7; clear hb4) | (go_at_call 47; (with_reducible refine (HB.out _).mono ?_); rintro e w5 ⟨rfl, hb5⟩; have HB5 := Lib.hid (HB4.out.trans (hb5.mono HB4.out.size)); have HF5 := Lib.hid (HF4.out.below hb5); obtain ⟨⟨p0, p1, p2⟩, ⟨q0, q1, q2, q3, q4, q5, q6⟩, ⟨r1, r2, r3, r4, r5, r6, r7⟩⟩ := HF5.out; dsimp only at r1 r2 r3 r6 r7; clear hb5))
        go_ret
        exact ⟨rfl, HB5.out⟩
      | true =>
        cases b4 with
        | false =>
          go_wp2_with (first | (go_at_call 47; (with_reducible refine (HD.out _).mono ?_); rintro e w3 ⟨rfl, hb3⟩; have HB3 := Lib.hid (HB2.out.trans (hb3.mono HB2.out.size)); have HF3 := Lib.hid (HF2.out.below hb3); obtain ⟨⟨p0, p1, p2⟩, ⟨q0, q1, q2, q3, q4, q5, q6⟩, ⟨r1, r2, r3, r4, r5, r6, r7⟩⟩ := HF3.out; dsimp only at r1 r2 r3 r6 r7; clear hb3) | (go_at_call 47; (with_reducible refine (HA.out _).mono ?_); rintro e w4 ⟨rfl, hb4⟩; have HB4 := Lib.hid (HB3.out.trans (hb4.mono HB3.out.size)); have HF4 := Lib.hid (HF3.out.below hb4); obtain ⟨⟨p0, p1, p2⟩, ⟨q0, q1, q2, q3, q4, q5, q6⟩, ⟨r1, r2, r3, r4, r5, r6, r7⟩⟩ := HF4.out; dsimp only at r1 r2 r3 r6 r7; clear hb4) | (go_at_call 47; (with_reducible refine (HB.out _).mono ?_); rintro e w5 ⟨rfl, hb5⟩; have HB5 := Lib.hid (HB4.out.trans (hb5.mono HB4.out.size)); have HF5 := Lib.hid (HF4.out.below hb5); obtain ⟨⟨p0, p1, p2⟩, ⟨q0, q1, q2, q3, q4, q5, q6⟩, ⟨r1, r2, r3, r4, r5, r6, r7⟩⟩ := HF5.out; dsimp only at r1 r2 r3 r6 r7; clear hb5) | (go_at_fn gi; (with_reducible refine (HI.out _).mono ?_); rintro e w6 ⟨rfl, hb6⟩; have HB6 := Lib.hid (HB5.out.trans (hb6.mono HB5.out.size)); have HF6 := Lib.hid (HF5.out.below hb6); obtain ⟨⟨p0, p1, p2⟩, ⟨q0, q1, q2, q3, q4, q5, q6⟩, ⟨r1, r2, r3, r4, r5, r6, r7⟩⟩ := HF6.out; dsimp only at r1 r2 r3 r6 r7; clear hb6))
          go_ret
          exact ⟨rfl, HB6.out⟩
        | true =>
          cases b5 with
          | false =>
            go_wp2_with (first | (go_at_call 47; (with_reducible refine (HD.out _).mono ?_); rintro e w3 ⟨rfl, hb3⟩; have HB3 := Lib.hid (HB2.out.trans (hb3.mono HB2.out.size)); have HF3 := Lib.hid (HF2.out.below hb3); obtain ⟨⟨p0, p1, p2⟩, ⟨q0, q1, q2, q3, q4, q5, q6⟩, ⟨r1, r2, r3, r4, r5, r6, r7⟩⟩ := HF3.out; dsimp only at r1 r2 r3 r6 r7; clear hb3) | (go_at_call 47; (with_reducible refine (HA.out _).mono ?_); rintro e w4 ⟨rfl, hb4⟩; have HB4 := Lib.hid (HB3.out.trans (hb4.mono HB3.out.size)); have HF4 := Lib.hid (HF3.out.below hb4); obtain ⟨⟨p0, p1, p2⟩, ⟨q0, q1, q2, q3, q4, q5, q6⟩, ⟨r1, r2, r3, r4, r5, r6, r7⟩⟩ := HF4.out; dsimp only at r1 r2 r3 r6 r7; clear hb4) | (go_at_call 47; (with_reducible refine (HB.out _).mono ?_); rintro e w5 ⟨rfl, hb5⟩; have HB5 := Lib.hid (HB4.out.trans (hb5.mono HB4.out.size)); have HF5 := Lib.hid (HF4.out.below hb5); obtain ⟨⟨p0, p1, p2⟩, ⟨q0, q1, q2, q3, q4, q5, q6⟩, ⟨r1, r2, r3, r4, r5, r6, r7⟩⟩ := HF5.out; dsimp only at r1 r2 r3 r6 r7; clear hb5) | (go_at_fn gi; (with_reducible refine (HI.out _).mono ?_); rintro e w6 ⟨rfl, hb6⟩; have HB6 := Lib.hid (HB5.out.trans (hb6.mono HB5.out.size)); have HF6 := Lib.hid (HF5.out.below hb6); obtain ⟨⟨p0, p1, p2⟩, ⟨q0, q1, q2, q3, q4, q5, q6⟩, ⟨r1, r2, r3, r4, r5, r6, r7⟩⟩ := HF6.out; dsimp only at r1 r2 r3 r6 r7; clear hb6) | (go_at_fn gt; (with_reducible refine (HT.out _ (HK.out.below HB6.out)).mono ?_); rintro e w7 ⟨rfl, hb7⟩; have HB7 := Lib.hid (HB6.out.trans (hb7.mono HB6.out.size)); have HF7 := Lib.hid (HF6.out.below hb7); obtain ⟨⟨p0, p1, p2⟩, ⟨q0, q1, q2, q3, q4, q5, q6⟩, ⟨r1, r2, r3, r4, r5, r6, r7⟩⟩ := HF7.out; dsimp only at r1 r2 r3 r6 r7; clear hb7))
            go_ret
            exact ⟨rfl, HB7.out⟩
          | true =>
            have h6 := H6.out
            have h5 := H5.out
            have h8 := H8.out
            clear H5 H6 H8
            cases b6 with
            | false =>
              have h61 : rargs = false := by cases rargs <;> simp_all
              have h62 : o.args ≠ [] := by intro e; rw [e] at h6; simp at h6
              have h63 : (0 : Int) < o.args.length := by have := List.length_pos_iff.2 h62; omega
              subst h61
              clear h5 h6 h8 h62
              go_wp2_with (first | (go_at_call 47; (with_reducible refine (HD.out _).mono ?_); rintro e w3 ⟨rfl, hb3⟩; have HB3 := Lib.hid (HB2.out.trans (hb3.mono HB2.out.size)); have HF3 := Lib.hid (HF2.out.below hb3); obtain ⟨⟨p0, p1, p2⟩, ⟨q0, q1, q2, q3, q4, q5, q6⟩, ⟨r1, r2, r3, r4, r5, r6, r7⟩⟩ := HF3.out; dsimp only at r1 r2 r3 r6 r7; clear hb3) | (go_at_call 47; (with_reducible refine (HA.out _).mono ?_); rintro e w4 ⟨rfl, hb4⟩; have HB4 := Lib.hid (HB3.out.trans (hb4.mono HB3.out.size)); have HF4 := Lib.hid (HF3.out.below hb4); obtain ⟨⟨p0, p1, p2⟩, ⟨q0, q1, q2, q3, q4, q5, q6⟩, ⟨r1, r2, r3, r4, r5, r6, r7⟩⟩ := HF4.out; dsimp only at r1 r2 r3 r6 r7; clear hb4) | (go_at_call 47; (with_reducible refine (HB.out _).mono ?_); rintro e w5 ⟨rfl, hb5⟩; have HB5 := Lib.hid (HB4.out.trans (hb5.mono HB4.out.size)); have HF5 := Lib.hid (HF4.out.below hb5); obtain ⟨⟨p0, p1, p2⟩, ⟨q0, q1, q2, q3, q4, q5, q6⟩, ⟨r1, r2, r3, r4, r5, r6, r7⟩⟩ := HF5.out; dsimp only at r1 r2 r3 r6 r7; clear hb5) | (go_at_fn gi; (with_reducible refine (HI.out _).mono ?_); rintro e w6 ⟨rfl, hb6⟩; have HB6 := Lib.hid (HB5.out.trans (hb6.mono HB5.out.size)); have HF6 := Lib.hid (HF5.out.below hb6); obtain ⟨⟨p0, p1, p2⟩, ⟨q0, q1, q2, q3, q4, q5, q6⟩, ⟨r1, r2, r3, r4, r5, r6, r7⟩⟩ := HF6.out; dsimp only at r1 r2 r3 r6 r7; clear hb6) | (go_at_fn gt; (with_reducible refine (HT.out _ (HK.out.below HB6.out)).mono ?_); rintro e w7 ⟨rfl, hb7⟩; have HB7 := Lib.hid (HB6.out.trans (hb7.mono HB6.out.size)); have HF7 := Lib.hid (HF6.out.below hb7); obtain ⟨⟨p0, p1, p2⟩, ⟨q0, q1, q2, q3, q4, q5, q6⟩, ⟨r1, r2, r3, r4, r5, r6, r7⟩⟩ := HF7.out; dsimp only at r1 r2 r3 r6 r7; clear hb7))
              go_ret
              exact ⟨rfl, HB7.out⟩
            | true =>
              rcases args_cases h6 with hra | ⟨hra, hl0⟩ <;> subst hra
              all_goals
                clear h6
                cases b7 with
                | true =>
                  clear h5 h8
                  go_wp2_with (first | (go_at_call 47; (with_reducible refine (HD.out _).mono ?_); rintro e w3 ⟨rfl, hb3⟩; have HB3 := Lib.hid (HB2.out.trans (hb3.mono HB2.out.size)); have HF3 := Lib.hid (HF2.out.below hb3); obtain ⟨⟨p0, p1, p2⟩, ⟨q0, q1, q2, q3, q4, q5, q6⟩, ⟨r1, r2, r3, r4, r5, r6, r7⟩⟩ := HF3.out; dsimp only at r1 r2 r3 r6 r7; clear hb3) | (go_at_call 47; (with_reducible refine (HA.out _).mono ?_); rintro e w4 ⟨rfl, hb4⟩; have HB4 := Lib.hid (HB3.out.trans (hb4.mono HB3.out.size)); have HF4 := Lib.hid (HF3.out.below hb4); obtain ⟨⟨p0, p1, p2⟩, ⟨q0, q1, q2, q3, q4, q5, q6⟩, ⟨r1, r2, r3, r4, r5, r6, r7⟩⟩ := HF4.out; dsimp only at r1 r2 r3 r6 r7; clear hb4) | (go_at_call 47; (with_reducible refine (HB.out _).mono ?_); rintro e w5 ⟨rfl, hb5⟩; have HB5 := Lib.hid (HB4.out.trans (hb5.mono HB4.out.size)); have HF5 := Lib.hid (HF4.out.below hb5); obtain ⟨⟨p0, p1, p2⟩, ⟨q0, q1, q2, q3, q4, q5, q6⟩, ⟨r1, r2, r3, r4, r5, r6, r7⟩⟩ := HF5.out; dsimp only at r1 r2 r3 r6 r7; clear hb5) | (go_at_fn gi; (with_reducible refine (HI.out _).mono ?_); rintro e w6 ⟨rfl, hb6⟩; have HB6 := Lib.hid (HB5.out.trans (hb6.mono HB5.out.size)); have HF6 := Lib.hid (HF5.out.below hb6); obtain ⟨⟨p0, p1, p2⟩, ⟨q0, q1, q2, q3, q4, q5, q6⟩, ⟨r1, r2, r3, r4, r5, r6, r7⟩⟩ := HF6.out; dsimp only at r1 r2 r3 r6 r7; clear hb6) | (go_at_fn gt; (with_reducible refine (HT.out _ (HK.out.below HB6.out)).mono ?_); rintro e w7 ⟨rfl, hb7⟩; have HB7 := Lib.hid (HB6.out.trans (hb7.mono HB6.out.size)); have HF7 := Lib.hid (HF6.out.below hb7); obtain ⟨⟨p0, p1, p2⟩, ⟨q0, q1, q2, q3, q4, q5, q6⟩, ⟨r1, r2, r3, r4, r5, r6, r7⟩⟩ := HF7.out; dsimp only at r1 r2 r3 r6 r7; clear hb7) | (go_at_call 48; (with_reducible refine (HC.out _ _ HF7.out.bnd ((HV.out.below HB7.out (Nat.le_refl _)).mono HB7.out.size)).mono ?_); rintro e w8 ⟨rfl, hb8⟩; have HB8 := Lib.hid (HB7.out.trans (hb8.mono HB7.out.size)); have HF8 := Lib.hid (HF7.out.below hb8); obtain ⟨⟨p0, p1, p2⟩, ⟨q0, q1, q2, q3, q4, q5, q6⟩, ⟨r1, r2, r3, r4, r5, r6, r7⟩⟩ := HF8.out; dsimp only at r1 r2 r3 r6 r7; clear hb8))
                  go_ret
                  exact ⟨rfl, HB8.out⟩
                | false =>
                  unfold lastI at h8
                  by_cases k1 : o.kind = 21
                  · rw [if_pos k1] at h8
                    have H9 := Lib.hid h8
                    have t1 : (o.kind == 21) = true := by rw [k1]; rfl
                    clear h5 h8 k1
                    go_wp2_with (first | (go_at_call 47; (with_reducible refine (HD.out _).mono ?_); rintro e w3 ⟨rfl, hb3⟩; have HB3 := Lib.hid (HB2.out.trans (hb3.mono HB2.out.size)); have HF3 := Lib.hid (HF2.out.below hb3); obtain ⟨⟨p0, p1, p2⟩, ⟨q0, q1, q2, q3, q4, q5, q6⟩, ⟨r1, r2, r3, r4, r5, r6, r7⟩⟩ := HF3.out; dsimp only at r1 r2 r3 r6 r7; clear hb3) | (go_at_call 47; (with_reducible refine (HA.out _).mono ?_); rintro e w4 ⟨rfl, hb4⟩; have HB4 := Lib.hid (HB3.out.trans (hb4.mono HB3.out.size)); have HF4 := Lib.hid (HF3.out.below hb4); obtain ⟨⟨p0, p1, p2⟩, ⟨q0, q1, q2, q3, q4, q5, q6⟩, ⟨r1, r2, r3, r4, r5, r6, r7⟩⟩ := HF4.out; dsimp only at r1 r2 r3 r6 r7; clear hb4) | (go_at_call 47; (with_reducible refine (HB.out _).mono ?_); rintro e w5 ⟨rfl, hb5⟩; have HB5 := Lib.hid (HB4.out.trans (hb5.mono HB4.out.size)); have HF5 := Lib.hid (HF4.out.below hb5); obtain ⟨⟨p0, p1, p2⟩, ⟨q0, q1, q2, q3, q4, q5, q6⟩, ⟨r1, r2, r3, r4, r5, r6, r7⟩⟩ := HF5.out; dsimp only at r1 r2 r3 r6 r7; clear hb5) | (go_at_fn gi; (with_reducible refine (HI.out _).mono ?_); rintro e w6 ⟨rfl, hb6⟩; have HB6 := Lib.hid (HB5.out.trans (hb6.mono HB5.out.size)); have HF6 := Lib.hid (HF5.out.below hb6); obtain ⟨⟨p0, p1, p2⟩, ⟨q0, q1, q2, q3, q4, q5, q6⟩, ⟨r1, r2, r3, r4, r5, r6, r7⟩⟩ := HF6.out; dsimp only at r1 r2 r3 r6 r7; clear hb6) | (go_at_fn gt; (with_reducible refine (HT.out _ (HK.out.below HB6.out)).mono ?_); rintro e w7 ⟨rfl, hb7⟩; have HB7 := Lib.hid (HB6.out.trans (hb7.mono HB6.out.size)); have HF7 := Lib.hid (HF6.out.below hb7); obtain ⟨⟨p0, p1, p2⟩, ⟨q0, q1, q2, q3, q4, q5, q6⟩, ⟨r1, r2, r3, r4, r5, r6, r7⟩⟩ := HF7.out; dsimp only at r1 r2 r3 r6 r7; clear hb7) | (go_at_call 48; (with_reducible refine (HC.out _ _ HF7.out.bnd ((HV.out.below HB7.out (Nat.le_refl _)).mono HB7.out.size)).mono ?_); rintro e w8 ⟨rfl, hb8⟩; have HB8 := Lib.hid (HB7.out.trans (hb8.mono HB7.out.size)); have HF8 := Lib.hid (HF7.out.below hb8); obtain ⟨⟨p0, p1, p2⟩, ⟨q0, q1, q2, q3, q4, q5, q6⟩, ⟨r1, r2, r3, r4, r5, r6, r7⟩⟩ := HF8.out; dsimp only at r1 r2 r3 r6 r7; clear hb8))
                    go_ret
                    exact ⟨by rw [← H9.out]; simp, HB8.out⟩
                  have t1 : (o.kind == 21) = false := by simpa using k1
                  rw [if_neg k1] at h8
                  by_cases k2 : o.kind = 23
                  · rw [if_pos k2] at h8
                    have H9 := Lib.hid h8
                    have t2 : (o.kind == 23) = true := by rw [k2]; rfl
                    clear h5 h8 k1 k2
                    go_wp2_with (first | (go_at_call 47; (with_reducible refine (HD.out _).mono ?_); rintro e w3 ⟨rfl, hb3⟩; have HB3 := Lib.hid (HB2.out.trans (hb3.mono HB2.out.size)); have HF3 := Lib.hid (HF2.out.below hb3); obtain ⟨⟨p0, p1, p2⟩, ⟨q0, q1, q2, q3, q4, q5, q6⟩, ⟨r1, r2, r3, r4, r5, r6, r7⟩⟩ := HF3.out; dsimp only at r1 r2 r3 r6 r7; clear hb3) | (go_at_call 47; (with_reducible refine (HA.out _).mono ?_); rintro e w4 ⟨rfl, hb4⟩; have HB4 := Lib.hid (HB3.out.trans (hb4.mono HB3.out.size)); have HF4 := Lib.hid (HF3.out.below hb4); obtain ⟨⟨p0, p1, p2⟩, ⟨q0, q1, q2, q3, q4, q5, q6⟩, ⟨r1, r2, r3, r4, r5, r6, r7⟩⟩ := HF4.out; dsimp only at r1 r2 r3 r6 r7; clear hb4) | (go_at_call 47; (with_reducible refine (HB.out _).mono ?_); rintro e w5 ⟨rfl, hb5⟩; have HB5 := Lib.hid (HB4.out.trans (hb5.mono HB4.out.size)); have HF5 := Lib.hid (HF4.out.below hb5); obtain ⟨⟨p0, p1, p2⟩, ⟨q0, q1, q2, q3, q4, q5, q6⟩, ⟨r1, r2, r3, r4, r5, r6, r7⟩⟩ := HF5.out; dsimp only at r1 r2 r3 r6 r7; clear hb5) | (go_at_fn gi; (with_reducible refine (HI.out _).mono ?_); rintro e w6 ⟨rfl, hb6⟩; have HB6 := Lib.hid (HB5.out.trans (hb6.mono HB5.out.size)); have HF6 := Lib.hid (HF5.out.below hb6); obtain ⟨⟨p0, p1, p2⟩, ⟨q0, q1, q2, q3, q4, q5, q6⟩, ⟨r1, r2, r3, r4, r5, r6, r7⟩⟩ := HF6.out; dsimp only at r1 r2 r3 r6 r7; clear hb6) | (go_at_fn gt; (with_reducible refine (HT.out _ (HK.out.below HB6.out)).mono ?_); rintro e w7 ⟨rfl, hb7⟩; have HB7 := Lib.hid (HB6.out.trans (hb7.mono HB6.out.size)); have HF7 := Lib.hid (HF6.out.below hb7); obtain ⟨⟨p0, p1, p2⟩, ⟨q0, q1, q2, q3, q4, q5, q6⟩, ⟨r1, r2, r3, r4, r5, r6, r7⟩⟩ := HF7.out; dsimp only at r1 r2 r3 r6 r7; clear hb7) | (go_at_call 48; (with_reducible refine (HC.out _ _ HF7.out.bnd ((HV.out.below HB7.out (Nat.le_refl _)).mono HB7.out.size)).mono ?_); rintro e w8 ⟨rfl, hb8⟩; have HB8 := Lib.hid (HB7.out.trans (hb8.mono HB7.out.size)); have HF8 := Lib.hid (HF7.out.below hb8); obtain ⟨⟨p0, p1, p2⟩, ⟨q0, q1, q2, q3, q4, q5, q6⟩, ⟨r1, r2, r3, r4, r5, r6, r7⟩⟩ := HF8.out; dsimp only at r1 r2 r3 r6 r7; clear hb8))
                    go_ret
                    exact ⟨by rw [← H9.out]; simp, HB8.out⟩
                  have t2 : (o.kind == 23) = false := by simpa using k2
                  rw [if_neg k2] at h8
                  by_cases k3 : o.kind = 29
                  · rw [if_pos k3] at h8
                    have t3 : (o.kind == 29) = true := by rw [k3]; rfl
                    have hbu := fun w9 => built_ok o.text w9
                    unfold builtV at hbu
                    cases hb : builtI o.text with
                    | none => exfalso; unfold textI at h5; rw [if_neg (by omega), if_pos k3, hb] at h5; cases h5
                    | some z =>
                      obtain ⟨n, ans⟩ := z
                      rw [hb] at h8 hbu
                      have HBu := Lib.hid hbu
                      clear h5 k1 k2 k3 hb hbu
                      simp only at h8
                      by_cases hl : o.args.length = n
                      · have t4 : ((o.args.length : Int) == (n : Int)) = true := by rw [hl]; simp
                        rw [decide_eq_true hl, Bool.true_and] at h8
                        clear hl
                        cases ans with
                        | true =>
                          obtain rfl : b8 = true := by rw [← h8]; rfl
                          clear h8
                          go_wp2_with (first | (go_at_call 47; (with_reducible refine (HD.out _).mono ?_); rintro e w3 ⟨rfl, hb3⟩; have HB3 := Lib.hid (HB2.out.trans (hb3.mono HB2.out.size)); have HF3 := Lib.hid (HF2.out.below hb3); obtain ⟨⟨p0, p1, p2⟩, ⟨q0, q1, q2, q3, q4, q5, q6⟩, ⟨r1, r2, r3, r4, r5, r6, r7⟩⟩ := HF3.out; dsimp only at r1 r2 r3 r6 r7; clear hb3) | (go_at_call 47; (with_reducible refine (HA.out _).mono ?_); rintro e w4 ⟨rfl, hb4⟩; have HB4 := Lib.hid (HB3.out.trans (hb4.mono HB3.out.size)); have HF4 := Lib.hid (HF3.out.below hb4); obtain ⟨⟨p0, p1, p2⟩, ⟨q0, q1, q2, q3, q4, q5, q6⟩, ⟨r1, r2, r3, r4, r5, r6, r7⟩⟩ := HF4.out; dsimp only at r1 r2 r3 r6 r7; clear hb4) | (go_at_call 47; (with_reducible refine (HB.out _).mono ?_); rintro e w5 ⟨rfl, hb5⟩; have HB5 := Lib.hid (HB4.out.trans (hb5.mono HB4.out.size)); have HF5 := Lib.hid (HF4.out.below hb5); obtain ⟨⟨p0, p1, p2⟩, ⟨q0, q1, q2, q3, q4, q5, q6⟩, ⟨r1, r2, r3, r4, r5, r6, r7⟩⟩ := HF5.out; dsimp only at r1 r2 r3 r6 r7; clear hb5) | (go_at_fn gi; (with_reducible refine (HI.out _).mono ?_); rintro e w6 ⟨rfl, hb6⟩; have HB6 := Lib.hid (HB5.out.trans (hb6.mono HB5.out.size)); have HF6 := Lib.hid (HF5.out.below hb6); obtain ⟨⟨p0, p1, p2⟩, ⟨q0, q1, q2, q3, q4, q5, q6⟩, ⟨r1, r2, r3, r4, r5, r6, r7⟩⟩ := HF6.out; dsimp only at r1 r2 r3 r6 r7; clear hb6) | (go_at_fn gt; (with_reducible refine (HT.out _ (HK.out.below HB6.out)).mono ?_); rintro e w7 ⟨rfl, hb7⟩; have HB7 := Lib.hid (HB6.out.trans (hb7.mono HB6.out.size)); have HF7 := Lib.hid (HF6.out.below hb7); obtain ⟨⟨p0, p1, p2⟩, ⟨q0, q1, q2, q3, q4, q5, q6⟩, ⟨r1, r2, r3, r4, r5, r6, r7⟩⟩ := HF7.out; dsimp only at r1 r2 r3 r6 r7; clear hb7) | (go_at_call 48; (with_reducible refine (HC.out _ _ HF7.out.bnd ((HV.out.below HB7.out (Nat.le_refl _)).mono HB7.out.size)).mono ?_); rintro e w8 ⟨rfl, hb8⟩; have HB8 := Lib.hid (HB7.out.trans (hb8.mono HB7.out.size)); have HF8 := Lib.hid (HF7.out.below hb8); obtain ⟨⟨p0, p1, p2⟩, ⟨q0, q1, q2, q3, q4, q5, q6⟩, ⟨r1, r2, r3, r4, r5, r6, r7⟩⟩ := HF8.out; dsimp only at r1 r2 r3 r6 r7; clear hb8) | (go_at_call 17; refine (HBu.out _).mono ?_; rintro e w9 ⟨rfl, hw9⟩; subst w9))
                          go_ret
                          exact ⟨rfl, HB8.out⟩
                        | false =>
                          rw [Bool.false_or] at h8
                          have H9 := Lib.hid h8
                          clear h8
                          go_wp2_with (first | (go_at_call 47; (with_reducible refine (HD.out _).mono ?_); rintro e w3 ⟨rfl, hb3⟩; have HB3 := Lib.hid (HB2.out.trans (hb3.mono HB2.out.size)); have HF3 := Lib.hid (HF2.out.below hb3); obtain ⟨⟨p0, p1, p2⟩, ⟨q0, q1, q2, q3, q4, q5, q6⟩, ⟨r1, r2, r3, r4, r5, r6, r7⟩⟩ := HF3.out; dsimp only at r1 r2 r3 r6 r7; clear hb3) | (go_at_call 47; (with_reducible refine (HA.out _).mono ?_); rintro e w4 ⟨rfl, hb4⟩; have HB4 := Lib.hid (HB3.out.trans (hb4.mono HB3.out.size)); have HF4 := Lib.hid (HF3.out.below hb4); obtain ⟨⟨p0, p1, p2⟩, ⟨q0, q1, q2, q3, q4, q5, q6⟩, ⟨r1, r2, r3, r4, r5, r6, r7⟩⟩ := HF4.out; dsimp only at r1 r2 r3 r6 r7; clear hb4) | (go_at_call 47; (with_reducible refine (HB.out _).mono ?_); rintro e w5 ⟨rfl, hb5⟩; have HB5 := Lib.hid (HB4.out.trans (hb5.mono HB4.out.size)); have HF5 := Lib.hid (HF4.out.below hb5); obtain ⟨⟨p0, p1, p2⟩, ⟨q0, q1, q2, q3, q4, q5, q6⟩, ⟨r1, r2, r3, r4, r5, r6, r7⟩⟩ := HF5.out; dsimp only at r1 r2 r3 r6 r7; clear hb5) | (go_at_fn gi; (with_reducible refine (HI.out _).mono ?_); rintro e w6 ⟨rfl, hb6⟩; have HB6 := Lib.hid (HB5.out.trans (hb6.mono HB5.out.size)); have HF6 := Lib.hid (HF5.out.below hb6); obtain ⟨⟨p0, p1, p2⟩, ⟨q0, q1, q2, q3, q4, q5, q6⟩, ⟨r1, r2, r3, r4, r5, r6, r7⟩⟩ := HF6.out; dsimp only at r1 r2 r3 r6 r7; clear hb6) | (go_at_fn gt; (with_reducible refine (HT.out _ (HK.out.below HB6.out)).mono ?_); rintro e w7 ⟨rfl, hb7⟩; have HB7 := Lib.hid (HB6.out.trans (hb7.mono HB6.out.size)); have HF7 := Lib.hid (HF6.out.below hb7); obtain ⟨⟨p0, p1, p2⟩, ⟨q0, q1, q2, q3, q4, q5, q6⟩, ⟨r1, r2, r3, r4, r5, r6, r7⟩⟩ := HF7.out; dsimp only at r1 r2 r3 r6 r7; clear hb7) | (go_at_call 48; (with_reducible refine (HC.out _ _ HF7.out.bnd ((HV.out.below HB7.out (Nat.le_refl _)).mono HB7.out.size)).mono ?_); rintro e w8 ⟨rfl, hb8⟩; have HB8 := Lib.hid (HB7.out.trans (hb8.mono HB7.out.size)); have HF8 := Lib.hid (HF7.out.below hb8); obtain ⟨⟨p0, p1, p2⟩, ⟨q0, q1, q2, q3, q4, q5, q6⟩, ⟨r1, r2, r3, r4, r5, r6, r7⟩⟩ := HF8.out; dsimp only at r1 r2 r3 r6 r7; clear hb8) | (go_at_call 17; refine (HBu.out _).mono ?_; rintro e w9 ⟨rfl, hw9⟩; subst w9))
                          go_ret
                          exact ⟨by rw [← H9.out]; rfl, HB8.out⟩
                      · have t4 : ((o.args.length : Int) == (n : Int)) = false := by simp; omega
                        rw [decide_eq_false hl, Bool.false_and] at h8
                        subst h8
                        clear hl
                        go_wp2_with (first | (go_at_call 47; (with_reducible refine (HD.out _).mono ?_); rintro e w3 ⟨rfl, hb3⟩; have HB3 := Lib.hid (HB2.out.trans (hb3.mono HB2.out.size)); have HF3 := Lib.hid (HF2.out.below hb3); obtain ⟨⟨p0, p1, p2⟩, ⟨q0, q1, q2, q3, q4, q5, q6⟩, ⟨r1, r2, r3, r4, r5, r6, r7⟩⟩ := HF3.out; dsimp only at r1 r2 r3 r6 r7; clear hb3) | (go_at_call 47; (with_reducible refine (HA.out _).mono ?_); rintro e w4 ⟨rfl, hb4⟩; have HB4 := Lib.hid (HB3.out.trans (hb4.mono HB3.out.size)); have HF4 := Lib.hid (HF3.out.below hb4); obtain ⟨⟨p0, p1, p2⟩, ⟨q0, q1, q2, q3, q4, q5, q6⟩, ⟨r1, r2, r3, r4, r5, r6, r7⟩⟩ := HF4.out; dsimp only at r1 r2 r3 r6 r7; clear hb4) | (go_at_call 47; (with_reducible refine (HB.out _).mono ?_); rintro e w5 ⟨rfl, hb5⟩; have HB5 := Lib.hid (HB4.out.trans (hb5.mono HB4.out.size)); have HF5 := Lib.hid (HF4.out.below hb5); obtain ⟨⟨p0, p1, p2⟩, ⟨q0, q1, q2, q3, q4, q5, q6⟩, ⟨r1, r2, r3, r4, r5, r6, r7⟩⟩ := HF5.out; dsimp only at r1 r2 r3 r6 r7; clear hb5) | (go_at_fn gi; (with_reducible refine (HI.out _).mono ?_); rintro e w6 ⟨rfl, hb6⟩; have HB6 := Lib.hid (HB5.out.trans (hb6.mono HB5.out.size)); have HF6 := Lib.hid (HF5.out.below hb6); obtain ⟨⟨p0, p1, p2⟩, ⟨q0, q1, q2, q3, q4, q5, q6⟩, ⟨r1, r2, r3, r4, r5, r6, r7⟩⟩ := HF6.out; dsimp only at r1 r2 r3 r6 r7; clear hb6) | (go_at_fn gt; (with_reducible refine (HT.out _ (HK.out.below HB6.out)).mono ?_); rintro e w7 ⟨rfl, hb7⟩; have HB7 := Lib.hid (HB6.out.trans (hb7.mono HB6.out.size)); have HF7 := Lib.hid (HF6.out.below hb7); obtain ⟨⟨p0, p1, p2⟩, ⟨q0, q1, q2, q3, q4, q5, q6⟩, ⟨r1, r2, r3, r4, r5, r6, r7⟩⟩ := HF7.out; dsimp only at r1 r2 r3 r6 r7; clear hb7) | (go_at_call 48; (with_reducible refine (HC.out _ _ HF7.out.bnd ((HV.out.below HB7.out (Nat.le_refl _)).mono HB7.out.size)).mono ?_); rintro e w8 ⟨rfl, hb8⟩; have HB8 := Lib.hid (HB7.out.trans (hb8.mono HB7.out.size)); have HF8 := Lib.hid (HF7.out.below hb8); obtain ⟨⟨p0, p1, p2⟩, ⟨q0, q1, q2, q3, q4, q5, q6⟩, ⟨r1, r2, r3, r4, r5, r6, r7⟩⟩ := HF8.out; dsimp only at r1 r2 r3 r6 r7; clear hb8) | (go_at_call 17; refine (HBu.out _).mono ?_; rintro e w9 ⟨rfl, hw9⟩; subst w9))
                        go_ret
                        exact ⟨rfl, HB8.out⟩
                  · have t3 : (o.kind == 29) = false := by simpa using k3
                    rw [if_neg k3] at h8
                    subst h8
                    clear h5 k1 k2 k3
                    go_wp2_with (first | (go_at_call 47; (with_reducible refine (HD.out _).mono ?_); rintro e w3 ⟨rfl, hb3⟩; have HB3 := Lib.hid (HB2.out.trans (hb3.mono HB2.out.size)); have HF3 := Lib.hid (HF2.out.below hb3); obtain ⟨⟨p0, p1, p2⟩, ⟨q0, q1, q2, q3, q4, q5, q6⟩, ⟨r1, r2, r3, r4, r5, r6, r7⟩⟩ := HF3.out; dsimp only at r1 r2 r3 r6 r7; clear hb3) | (go_at_call 47; (with_reducible refine (HA.out _).mono ?_); rintro e w4 ⟨rfl, hb4⟩; have HB4 := Lib.hid (HB3.out.trans (hb4.mono HB3.out.size)); have HF4 := Lib.hid (HF3.out.below hb4); obtain ⟨⟨p0, p1, p2⟩, ⟨q0, q1, q2, q3, q4, q5, q6⟩, ⟨r1, r2, r3, r4, r5, r6, r7⟩⟩ := HF4.out; dsimp only at r1 r2 r3 r6 r7; clear hb4) | (go_at_call 47; (with_reducible refine (HB.out _).mono ?_); rintro e w5 ⟨rfl, hb5⟩; have HB5 := Lib.hid (HB4.out.trans (hb5.mono HB4.out.size)); have HF5 := Lib.hid (HF4.out.below hb5); obtain ⟨⟨p0, p1, p2⟩, ⟨q0, q1, q2, q3, q4, q5, q6⟩, ⟨r1, r2, r3, r4, r5, r6, r7⟩⟩ := HF5.out; dsimp only at r1 r2 r3 r6 r7; clear hb5) | (go_at_fn gi; (with_reducible refine (HI.out _).mono ?_); rintro e w6 ⟨rfl, hb6⟩; have HB6 := Lib.hid (HB5.out.trans (hb6.mono HB5.out.size)); have HF6 := Lib.hid (HF5.out.below hb6); obtain ⟨⟨p0, p1, p2⟩, ⟨q0, q1, q2, q3, q4, q5, q6⟩, ⟨r1, r2, r3, r4, r5, r6, r7⟩⟩ := HF6.out; dsimp only at r1 r2 r3 r6 r7; clear hb6) | (go_at_fn gt; (with_reducible refine (HT.out _ (HK.out.below HB6.out)).mono ?_); rintro e w7 ⟨rfl, hb7⟩; have HB7 := Lib.hid (HB6.out.trans (hb7.mono HB6.out.size)); have HF7 := Lib.hid (HF6.out.below hb7); obtain ⟨⟨p0, p1, p2⟩, ⟨q0, q1, q2, q3, q4, q5, q6⟩, ⟨r1, r2, r3, r4, r5, r6, r7⟩⟩ := HF7.out; dsimp only at r1 r2 r3 r6 r7; clear hb7) | (go_at_call 48; (with_reducible refine (HC.out _ _ HF7.out.bnd ((HV.out.below HB7.out (Nat.le_refl _)).mono HB7.out.size)).mono ?_); rintro e w8 ⟨rfl, hb8⟩; have HB8 := Lib.hid (HB7.out.trans (hb8.mono HB7.out.size)); have HF8 := Lib.hid (HF7.out.below hb8); obtain ⟨⟨p0, p1, p2⟩, ⟨q0, q1, q2, q3, q4, q5, q6⟩, ⟨r1, r2, r3, r4, r5, r6, r7⟩⟩ := HF8.out; dsimp only at r1 r2 r3 r6 r7; clear hb8))
                    go_ret
                    exact ⟨rfl, HB8.out⟩
end Go.Proofs.YtlomdlblohnfmaaDoor

