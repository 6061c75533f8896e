/- A function is right: what comes of its head; what a closure asks of its operations. -/
import Derived.Test.YtlomdlblohnfmaaDoorIrOp3
import Derived.Test.YtlomdlblohnfmaaDoorIrApart2
namespace Go.Proofs.YtlomdlblohnfmaaDoor
open Go.RowKit

/-- a function in a block -/
structure FnAt (w : World) (b : Nat) (f : IrF) (vs vb : Value) : Prop where
  c0 : w.cell? ⟨b, 0, none⟩ = some (.string f.name)
  c1 : w.cell? ⟨b, 1, none⟩ = some (.int .i64 f.params)
  c2 : w.cell? ⟨b, 2, none⟩ = some (.int .i64 f.regs)
  c3 : w.cell? ⟨b, 3, none⟩ = some vs
  c4 : w.cell? ⟨b, 4, none⟩ = some vb
theorem FnAt.below {w w' : World} {b : Nat} {f : IrF} {vs vb : Value} (h : FnAt w b f vs vb) (hb : Below w.heap.size w w') : FnAt w' b f vs vb := by
  have hl : b < w.heap.size := World.block_lt_of_cell? w _ h.c0
  exact ⟨by rw [hb.cell hl]; exact h.c0, by rw [hb.cell hl]; exact h.c1, by rw [hb.cell hl]; exact h.c2, by rw [hb.cell hl]; exact h.c3, by rw [hb.cell hl]; exact h.c4⟩
theorem fnAt_new {w : World} {b : Nat} {T : TypeId} {f : IrF} {vs vb : Value} (h : w.heap[b]? = some (.cells #[.string f.name, .int .i64 f.params, .int .i64 f.regs, vs, vb] T (0, 0))) : FnAt w b f vs vb := by
  constructor <;> simp [World.cell?, h]
theorem fnClo_ok (bb : Nat) (regs slots strings : Int) (q : IrO × Value) (b : Bool) (hb : opI regs slots strings q.1 = !b) (w : World) (hK : KeysAt w) (h : BndAt w bb regs slots strings) (hA : IsNums w.heap.size w q.2 q.1.args) :
    Calls Tryd.prog 44 #[opVal q, .pointer (some ⟨bb, 0, none⟩)] w fun e w' => e = .returned (.bool b) ∧ Below w.heap.size w w' := by
  obtain ⟨o, v⟩ := q
  dsimp only at hb hA
  have H0 := fun w1 (hK1 : KeysAt w1) (hA1 : IsNums w1.heap.size w1 v o.args) => op_ok regs slots strings o v w1 hK1 hA1
  rw [hb] at H0
  unfold opV at H0
  have HO := Lib.hid H0
  have HK := Lib.hid hK
  have HN := Lib.hid hA
  have HB := Lib.hid h
  obtain ⟨c0, c1, c2⟩ := h.below ((Below.refl _ _).alloc (Nat.le_refl _) (.cells #[.int .i64 o.kind, .int .i64 o.d, .int .i64 o.a, .int .i64 o.b, .int .i64 o.imm, .string o.text, v] 54))
  unfold opVal
  obtain ⟨a, cap, rfl, _⟩ := hA
  clear hb hK H0 h
  go_enter Tryd.func44, Tryd.ntmps44
  go_wp2_with (go_at_call 27; (with_reducible refine (HO.out _ (HK.out.below ((Below.refl _ _).alloc (Nat.le_refl _) _)) ((HN.out.below ((Below.refl _ _).alloc (Nat.le_refl _) _) (Nat.le_refl _)).mono (by simp))).mono ?_); rintro e w1 ⟨rfl, hb1⟩; have HB1 := Lib.hid (((Below.refl _ _).alloc (Nat.le_refl _) _).trans (hb1.mono (by simp))); clear hb1)
  go_ret
  exact ⟨by simp, HB1.out⟩

set_option maxRecDepth 100000 in
set_option maxHeartbeats 4000000 in
theorem func_head (f : IrF) (vs vb : Value) (strings : Int) (w : World) (hK : KeysAt w) (hs : ∃ a c, vs = .slice a f.slots.length c) (hb : ∃ a c, vb = .slice a f.blocks.length c) (h : headI f = false) :
    Calls Tryd.prog 21 #[fnV f vs vb, .int .i64 strings] w fun e w' => e = .returned (.bool false) ∧ Below w.heap.size w w' := by
  obtain ⟨a1, c1, rfl⟩ := hs
  obtain ⟨a2, c2, rfl⟩ := hb
  have HN := fun w1 (hK1 : KeysAt w1) => lexIsName_any f.name w1 hK1
  have HK := Lib.hid (hK.below ((Below.refl w.heap.size w).alloc (Nat.le_refl _) (.cells #[.string f.name, .int .i64 f.params, .int .i64 f.regs, .slice a1 f.slots.length c1, .slice a2 f.blocks.length c2] 35)))
  have hf0 := fnAt_new (heap_alloc_new w (.cells #[.string f.name, .int .i64 f.params, .int .i64 f.regs, .slice a1 f.slots.length c1, .slice a2 f.blocks.length c2] 35))
  have HF := Lib.hid hf0
  obtain ⟨b0, hb0⟩ : ∃ b, isNameB f.name = b := ⟨_, rfl⟩
  rw [hb0] at HN
  have HNm := Lib.hid HN
  clear hK hf0 HN
  unfold fnV
  cases b0 with
  | false =>
    clear h hb0
    go_enter Tryd.func21, Tryd.ntmps21
    go_wp2_with (go_at_call 38; (with_reducible refine (HNm.out _ HK.out).mono ?_); rintro e w1 ⟨rfl, hb1⟩; have HB1 := Lib.hid (((Below.refl _ _).alloc (Nat.le_refl _) _).trans (hb1.mono (by simp))); clear hb1)
    go_ret
    exact ⟨rfl, HB1.out⟩
  | true =>
    rcases (show (f.params < 0) ∨ (0 ≤ f.params) by omega) with p0 | p0
    · clear h hb0
      go_enter Tryd.func21, Tryd.ntmps21
      go_wp2_with (go_at_call 38; (with_reducible refine (HNm.out _ HK.out).mono ?_); rintro e w1 ⟨rfl, hb1⟩; have HB1 := Lib.hid (((Below.refl _ _).alloc (Nat.le_refl _) _).trans (hb1.mono (by simp))); obtain ⟨c0, c1, c2, c3, c4⟩ := HF.out.below hb1; clear hb1)
      go_ret
      exact ⟨rfl, HB1.out⟩
    rcases (show (8 < f.params) ∨ (f.params ≤ 8) by omega) with p1 | p1
    · clear h hb0
      go_enter Tryd.func21, Tryd.ntmps21
      go_wp2_with (go_at_call 38; (with_reducible refine (HNm.out _ HK.out).mono ?_); rintro e w1 ⟨rfl, hb1⟩; have HB1 := Lib.hid (((Below.refl _ _).alloc (Nat.le_refl _) _).trans (hb1.mono (by simp))); obtain ⟨c0, c1, c2, c3, c4⟩ := HF.out.below hb1; clear hb1)
      go_ret
      exact ⟨rfl, HB1.out⟩
    rcases (show (f.regs < f.params) ∨ (f.params ≤ f.regs) by omega) with p2 | p2
    · clear h hb0
      go_enter Tryd.func21, Tryd.ntmps21
      go_wp2_with (go_at_call 38; (with_reducible refine (HNm.out _ HK.out).mono ?_); rintro e w1 ⟨rfl, hb1⟩; have HB1 := Lib.hid (((Below.refl _ _).alloc (Nat.le_refl _) _).trans (hb1.mono (by simp))); obtain ⟨c0, c1, c2, c3, c4⟩ := HF.out.below hb1; clear hb1)
      go_ret
      exact ⟨rfl, HB1.out⟩
    rcases (show (4096 < f.regs) ∨ (f.regs ≤ 4096) by omega) with p3 | p3
    · clear h hb0
      go_enter Tryd.func21, Tryd.ntmps21
      go_wp2_with (go_at_call 38; (with_reducible refine (HNm.out _ HK.out).mono ?_); rintro e w1 ⟨rfl, hb1⟩; have HB1 := Lib.hid (((Below.refl _ _).alloc (Nat.le_refl _) _).trans (hb1.mono (by simp))); obtain ⟨c0, c1, c2, c3, c4⟩ := HF.out.below hb1; clear hb1)
      go_ret
      exact ⟨rfl, HB1.out⟩
    rcases (show ((256 : Int) < f.slots.length) ∨ ((f.slots.length : Int) ≤ 256) by omega) with p4 | p4
    · clear h hb0
      go_enter Tryd.func21, Tryd.ntmps21
      go_wp2_with (go_at_call 38; (with_reducible refine (HNm.out _ HK.out).mono ?_); rintro e w1 ⟨rfl, hb1⟩; have HB1 := Lib.hid (((Below.refl _ _).alloc (Nat.le_refl _) _).trans (hb1.mono (by simp))); obtain ⟨c0, c1, c2, c3, c4⟩ := HF.out.below hb1; clear hb1)
      go_ret
      exact ⟨rfl, HB1.out⟩
    rcases (show ((f.blocks.length : Int) < 1) ∨ (1 ≤ (f.blocks.length : Int)) by omega) with p5 | p5
    · clear h hb0
      go_enter Tryd.func21, Tryd.ntmps21
      go_wp2_with (go_at_call 38; (with_reducible refine (HNm.out _ HK.out).mono ?_); rintro e w1 ⟨rfl, hb1⟩; have HB1 := Lib.hid (((Below.refl _ _).alloc (Nat.le_refl _) _).trans (hb1.mono (by simp))); obtain ⟨c0, c1, c2, c3, c4⟩ := HF.out.below hb1; clear hb1)
      go_ret
      exact ⟨rfl, HB1.out⟩
    rcases (show ((4096 : Int) < f.blocks.length) ∨ ((f.blocks.length : Int) ≤ 4096) by omega) with p6 | p6
    · clear h hb0
      go_enter Tryd.func21, Tryd.ntmps21
      go_wp2_with (go_at_call 38; (with_reducible refine (HNm.out _ HK.out).mono ?_); rintro e w1 ⟨rfl, hb1⟩; have HB1 := Lib.hid (((Below.refl _ _).alloc (Nat.le_refl _) _).trans (hb1.mono (by simp))); obtain ⟨c0, c1, c2, c3, c4⟩ := HF.out.below hb1; clear hb1)
      go_ret
      exact ⟨rfl, HB1.out⟩
    exfalso
    unfold headI at h
    rw [hb0, Bool.true_and, decide_eq_false_iff_not] at h
    exact h (by omega)
end Go.Proofs.YtlomdlblohnfmaaDoor

