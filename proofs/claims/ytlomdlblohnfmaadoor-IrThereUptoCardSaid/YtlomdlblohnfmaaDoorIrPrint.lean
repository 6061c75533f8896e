/- The text of a program of one function without slots. -/
import Derived.Test.YtlomdlblohnfmaaDoorIrCheck
import Derived.Test.YtlomdlblohnfmaaDoorIrSmall
namespace Go.Proofs.YtlomdlblohnfmaaDoor
open Go.RowKit

theorem writer_new (w : World) (B : Nat) (hB : B ≤ w.heap.size) : WriterAt B w.heap.size [] (w.alloc (.cells #[.pointer none, .slice none 0 0] 93)) := by
  refine .inl ⟨hB, .slice none 0 0, heap_alloc_new _ _, ?_, ?_⟩
  · exact World.ownsRow_nil _ _ _ _
  · intro h; cases h
set_option maxRecDepth 100000 in
set_option maxHeartbeats 8000000 in
theorem print_one (f : IrF) (vs vb : Value) (b : Nat) (w : World) (hE : IE w) (hk : 0 < w.heap.size) (hF : IsFn w.heap.size w f vs vb) (hb : b < w.heap.size)
    (hx : w.heap[b]? = some (.cells #[.string f.name, .int .i64 f.params, .int .i64 f.regs, vs, vb] 35 (0, 0)))
    (hs : f.slots = []) (hops : ∀ bl ∈ f.blocks, ∀ o ∈ bl.ops, OpFine o) (hex : ∀ bl ∈ f.blocks, ExOk bl.exit) (hp : I64 f.params) (hr : I64 f.regs) (hnm : f.name.size ≤ 1048576)
    (hc : checkP ⟨[], [], [f]⟩ = (0, 0)) (hne : funcL [] f ≠ []) (hlen : (funcL [] f).length ≤ 1048576) :
    Calls Tryd.prog 15 #[.agg #[.slice none 0 0, .slice none 0 0, .slice (some ⟨b, 0, none⟩) 1 1]] w fun e w' => e = .returned (.tuple #[.string ⟨(funcL [] f).toArray⟩, .agg #[.int .i64 0, .int .i64 0]]) ∧ Below w.heap.size w w' := by
  obtain ⟨a1, n1, c1, rfl⟩ : ∃ a n c, vs = .slice a n c := by obtain ⟨a, c, e, _⟩ := hF.slots; exact ⟨a, _, c, e⟩
  obtain ⟨a2, n2, c2, rfl⟩ : ∃ a n c, vb = .slice a n c := by obtain ⟨a, c, _, e, _⟩ := hF.blocks; exact ⟨a, _, c, e⟩
  have hP : IsPr w.heap.size w ⟨[], [], [f]⟩ (.slice none 0 0) (.slice none 0 0) (.slice (some ⟨b, 0, none⟩) 1 1) := by
    refine ⟨⟨none, 0, [], rfl, ⟨by simp, fun _ => ⟨rfl, rfl⟩⟩, rfl, isSl_nil, fun q hq => by cases hq⟩, ⟨none, 0, rfl, ⟨by simp, fun _ => ⟨rfl, rfl⟩⟩, isSl_nil⟩, some ⟨b, 0, none⟩, 1, [(f, .slice a1 n1 c1, .slice a2 n2 c2)], rfl, ⟨(by decide : 1 * 80 ≤ 140737488351232), fun e => by cases e⟩, rfl, fun _ => ⟨b, 0, rfl, hb, fun i t ht j u hu => ?_⟩, fun q hq => ?_⟩
    · have c : ∀ j, w.cell? ⟨b, j, none⟩ = (#[.string f.name, .int .i64 f.params, .int .i64 f.regs, .slice a1 n1 c1, .slice a2 n2 c2] : Array Value)[j]? := fun j => by simp [World.cell?, hx]
      match i, ht with
      | 0, ht =>
        obtain rfl := Option.some.inj ht
        rw [c]
        match j, hu with
        | 0, hu => exact hu
        | 1, hu => exact hu
        | 2, hu => exact hu
        | 3, hu => exact hu
        | 4, hu => exact hu
    · simp only [List.mem_cons, List.not_mem_nil, or_false] at hq
      subst hq
      exact hF
  have hck := fun w1 (h1 : Below w.heap.size w w1) => check_fit ⟨[], [], [f]⟩ _ _ _ w1 (hE.keys.below h1) ((hP.below h1 (Nat.le_refl _)).mono h1.size) (by simp) (by simp) (by simp)
  rw [hc] at hck
  dsimp only at hck
  have HCk := Lib.hid hck
  have HWf := Lib.hid (fun (B : Nat) (bw : Nat) (w1 : World) (h1 : Below w.heap.size w w1) (hB : w.heap.size ≤ B) (hB1 : B ≤ w1.heap.size) (hW : WriterAt B bw [] w1) =>
    wfunc_ok B bw [] f (.slice a1 n1 c1) (.slice a2 n2 c2) w1 ⟨hE.below h1, Nat.lt_of_lt_of_le hk hB, Nat.lt_of_lt_of_le hE.lt hB, hB1⟩ hW ((hF.below h1 (Nat.le_refl _)).mono hB) hs hops hex hp hr hnm (by simp))
  unfold fnV at HWf
  obtain ⟨w2, hw2⟩ : ∃ x, x = (w.alloc (.cells #[.slice none 0 0, .slice none 0 0, .slice (some ⟨b, 0, none⟩) 1 1] 26)).alloc (.cells #[.int .i64 0, .int .i64 0] 30) := ⟨_, rfl⟩
  have HX1 := Lib.hid (show w2.heap[w.heap.size]? = some (.cells #[.slice none 0 0, .slice none 0 0, .slice (some ⟨b, 0, none⟩) 1 1] 26 (0, 0)) from by rw [hw2]; exact ir_new1 w _ _)
  have HB2 := Lib.hid (show Below w.heap.size w w2 from by rw [hw2]; exact (two_new w _ _).2)
  have HX2 := Lib.hid (show w2.heap[w.heap.size + 1]? = some (.cells #[.int .i64 0, .int .i64 0] 30 (0, 0)) from by rw [hw2]; exact (two_new w _ _).1)
  have HX := Lib.hid hx
  clear hP hck hE hk hF hs hops hex hp hr hnm hc hx
  generalize hl : funcL [] f = l at *
  go_enter Tryd.func15, Tryd.ntmps15
  go_upto_region 1 with fail
  rw [← hw2]
  have hz2 : w.heap.size + 2 ≤ w2.heap.size := by rw [hw2]; simp
  clear hw2
  obtain ⟨x0, x1, x2⟩ := three_cells HX1.out
  go_upto_region 2 with (go_at_call 6; (with_reducible refine (HCk.out _ HB2.out).mono ?_); rintro e w3 ⟨rfl, hb3⟩; have HB3 := Lib.hid hb3; clear hb3)
  have hx4 := heap_alloc_new w3 (.cells #[.int .i64 0, .int .i64 0] 30)
  have hb4 : Below w3.heap.size w3 (w3.alloc (.cells #[.int .i64 0, .int .i64 0] 30)) := (Below.refl _ _).alloc (Nat.le_refl _) _
  have HB4 := Lib.hid (HB3.out.trans (hb4.mono HB3.out.size))
  generalize World.alloc w3 _ = w4 at *
  obtain ⟨f0, f1, _, _⟩ := fault_cells hx4
  clear x0 x1 x2 hb4
  go_upto_region 5 with fail
  have hw5 := writer_new w4 w4.heap.size (Nat.le_refl _)
  have hb5 : Below w4.heap.size w4 (w4.alloc (.cells #[.pointer none, .slice none 0 0] 93)) := (Below.refl _ _).alloc (Nat.le_refl _) _
  have hz5 : (w4.alloc (.cells #[.pointer none, .slice none 0 0] 93)).heap.size = w4.heap.size + 1 := by simp
  generalize World.alloc w4 _ = w5 at *
  have hz4 := HB3.out.size
  have hz34 := HB4.out.size
  have hlt4 : w3.heap.size < w4.heap.size := lt_of_heap hx4
  have hbx : ∀ w', Below w4.heap.size w5 w' → Below w2.heap.size w2 w' := fun w' h => (HB4.out.trans (hb5.mono HB4.out.size)).trans (h.mono HB4.out.size)
  have HBx := Lib.hid hbx
  have HXx := Lib.hid (fun w' (h : Below w4.heap.size w5 w') => three_cells ((Below.block (hbx w' h) _ (by omega)).trans HX1.out))
  have HFx := Lib.hid (fun w' (h : Below w4.heap.size w5 w') => fault_cells ((Below.block (hbx w' h) _ (by omega)).trans HX2.out))
  have HW5 := Lib.hid hw5
  have HCx := Lib.hid (show ∀ w', Below w4.heap.size w5 w' → w'.cell? ⟨b, 0, none⟩ = some (.string f.name) ∧ w'.cell? ⟨b, 1, none⟩ = some (.int .i64 f.params) ∧ w'.cell? ⟨b, 2, none⟩ = some (.int .i64 f.regs) ∧ w'.cell? ⟨b, 3, none⟩ = some (.slice a1 n1 c1) ∧ w'.cell? ⟨b, 4, none⟩ = some (.slice a2 n2 c2) from fun w' h =>
    fn_cells HX.out w' (HB2.out.trans ((hbx w' h).mono HB2.out.size)))
  clear hbx hw5 f0 f1 hx4
  have hz45 : w4.heap.size < w5.heap.size := by omega
  obtain ⟨x0, x1, x2⟩ := HXx.out w5 (Below.refl _ _)
  go_wp2_with fail
  go_loopg [25] 1 (fun g v25 wy => v25 = .int .i64 0 ∧ g = 1 ∧ wy = w5)
  case atStart => exact ⟨rfl, rfl, rfl⟩
  case round =>
    obtain ⟨rfl, _, hw⟩ := hrel
    subst hw
    go_wp2_with fail
    go_loopg [49] 1 (fun g v49 wy => v49 = .int .i64 0 ∧ g = 1 ∧ wy = wr)
    case atStart => exact ⟨rfl, rfl, rfl⟩
    case round =>
      obtain ⟨rfl, _, hw⟩ := hrel
      subst hw
      go_wp2_with fail
      go_loopg [62] 2 (fun g v62 wy => (v62 = .int .i64 0 ∧ g = 2 ∧ wy = wr) ∨ (v62 = .int .i64 1 ∧ g = 1 ∧ Hid (WriterAt w4.heap.size w4.heap.size l wy ∧ Below w4.heap.size wr wy)))
      case atStart => exact .inl ⟨rfl, rfl, rfl⟩
      case round =>
        rcases hrel with ⟨rfl, _, hw⟩ | ⟨rfl, _, hW⟩
        · subst hw
          obtain ⟨e0, e1, e2, e3, e4⟩ := HCx.out wr (Below.refl _ _)
          have HB6 := Lib.hid (show Below wr.heap.size wr (wr.alloc (.cells #[.string f.name, .int .i64 f.params, .int .i64 f.regs, .slice a1 n1 c1, .slice a2 n2 c2] 35)) from (Below.refl _ _).alloc (Nat.le_refl _) _)
          have HB64 := Lib.hid (HB6.out.mono (show w4.heap.size ≤ wr.heap.size by omega))
          have HFn := Lib.hid (HWf.out w4.heap.size w4.heap.size _ (HB2.out.trans ((HBx.out _ HB64.out).mono HB2.out.size)) (by have := HB2.out.size; omega) (Nat.le_trans (by omega) HB64.out.size) (HW5.out.below HB6.out))
          obtain ⟨g0, g1, g2, g3, g4⟩ := fn_cells (heap_alloc_new wr (.cells #[.string f.name, .int .i64 f.params, .int .i64 f.regs, .slice a1 n1 c1, .slice a2 n2 c2] 35)) _ (Below.refl _ _)
          go_wp2_with (go_at_call 33; (with_reducible refine HFn.out.mono ?_); rintro e w6 ⟨rfl, hw6, hb6, _⟩; have HW6 := Lib.hid (And.intro hw6 (HB64.out.trans hb6)); clear hw6 hb6)
          go_roundg 1
          case measure => omega
          case rel => exact .inr ⟨rfl, rfl, HW6⟩
        · have hln := wLen w4.heap.size w4.heap.size (Lib.byteCells l) _ hW.out.1
          rw [Lib.byteCells_length] at hln
          have HLn := Lib.hid hln
          have HSt := Lib.hid (wString w4.heap.size w4.heap.size l _ hW.out.1 hne)
          have hll : (l.length : Int) ≤ 1048576 := by omega
          clear hln
          go_wp2_with (first
            | (go_at_call 34; (with_reducible refine HLn.out.mono ?_); rintro e w6 ⟨rfl, hw6⟩; subst hw6)
            | (go_at_call 35; (with_reducible refine HSt.out.mono ?_); rintro e w6 ⟨rfl, hb6⟩; have HB6 := Lib.hid (hW.out.2.trans hb6); obtain ⟨r0, r1, r2, r3⟩ := HFx.out _ HB6.out; clear hb6))
          have hr := fault_set ((Below.block (HBx.out _ HB6.out) _ (by omega)).trans HX2.out) 0 0
          refine bodyPost_ret (v := .tuple #[.string ⟨l.toArray⟩, .agg #[.int .i64 0, .int .i64 0]]) (by simp [results, Tryd.results15, go_sem, World.cell?, hr]) rfl ⟨rfl, ?_⟩
          exact ((HB2.out.trans ((HBx.out _ HB6.out).mono HB2.out.size)).setCell (Nat.le_succ _) _).setCell (Nat.le_succ _) _
end Go.Proofs.YtlomdlblohnfmaaDoor

