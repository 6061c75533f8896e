/- The law's first example. · The text of a program of one function without slots. · The law's fixed whole. -/
import Derived.Test.YtlomdlblohnfmaaDoorIrPr
import Derived.Test.YtlomdlblohnfmaaDoorIrWfunc
import Derived.Test.YtlomdlblohnfmaaDoorCheckM
namespace Go.Proofs.YtlomdlblohnfmaaDoor
open Go.RowKit

def smallOps : List IrO := [⟨1, 1, -1, -1, 5, ⟨#[]⟩, []⟩, ⟨3, 1, 0, 1, 0, ⟨#[]⟩, []⟩]
def smallF : IrF := ⟨⟨#[102]⟩, 1, 2, [], [⟨smallOps, ⟨3, 1, -1, 0, 0⟩⟩]⟩
def smallJ : IrF := ⟨⟨#[102]⟩, 1, 2, [], [⟨smallOps, ⟨1, -1, -1, 0, 0⟩⟩]⟩
theorem small_check : checkP ⟨[], [], [smallF]⟩ = (0, 0) := by decide +kernel
theorem smallJ_wrong : funcI smallJ 4611686018427387904 = false := by decide +kernel
theorem small_text : funcL [] smallF = [102, 117, 110, 99, 32, 102, 32, 49, 32, 50, 10, 98, 108, 111, 99, 107, 10, 114, 49, 32, 61, 32, 99, 111, 110, 115, 116, 32, 53, 10, 114, 49, 32, 61, 32, 97, 100, 100, 32, 114, 48, 32, 114, 49, 10, 114, 101, 116, 117, 114, 110, 32, 114, 49, 10] := by decide +kernel
/-- the example where it was laid: the blocks of its blocks and of its operations -/
structure SmallAt (w : World) (g ga : Nat) (x : IrX) : Prop where
  bl : w.heap[g]? = some (.cells #[.slice (some ⟨ga, 0, none⟩) 2 2, .int .i64 x.kind, .int .i64 x.a, .int .i64 x.d, .int .i64 x.to, .int .i64 x.els] 41 (0, 0))
  op : w.heap[ga]? = some (.cells #[.int .i64 1, .int .i64 1, .int .i64 (-1), .int .i64 (-1), .int .i64 5, .string ⟨#[]⟩, .slice none 0 0, .int .i64 3, .int .i64 1, .int .i64 0, .int .i64 1, .int .i64 0, .string ⟨#[]⟩, .slice none 0 0] 54 (0, 0))
theorem small_is {w : World} {g ga B : Nat} {x : IrX} (h : SmallAt w g ga x) (hg : g < B) (ha : ga < B) : IsFn B w ⟨⟨#[102]⟩, 1, 2, [], [⟨smallOps, x⟩]⟩ (.slice none 0 0) (.slice (some ⟨g, 0, none⟩) 1 1) := by
  have c1 : ∀ j, w.cell? ⟨ga, j, none⟩ = (#[.int .i64 1, .int .i64 1, .int .i64 (-1), .int .i64 (-1), .int .i64 5, .string ⟨#[]⟩, .slice none 0 0, .int .i64 3, .int .i64 1, .int .i64 0, .int .i64 1, .int .i64 0, .string ⟨#[]⟩, .slice none 0 0] : Array Value)[j]? := fun j => by simp [World.cell?, h.op]
  have c2 : ∀ j, w.cell? ⟨g, j, none⟩ = (#[.slice (some ⟨ga, 0, none⟩) 2 2, .int .i64 x.kind, .int .i64 x.a, .int .i64 x.d, .int .i64 x.to, .int .i64 x.els] : Array Value)[j]? := fun j => by simp [World.cell?, h.bl]
  have nil8 : IsNums B w (.slice none 0 0) [] := ⟨none, 0, rfl, ⟨by simp, fun _ => ⟨rfl, rfl⟩⟩, isSl_nil⟩
  have hops : IsOps B w (.slice (some ⟨ga, 0, none⟩) 2 2) smallOps := by
    refine ⟨some ⟨ga, 0, none⟩, 2, [(⟨1, 1, -1, -1, 5, ⟨#[]⟩, []⟩, .slice none 0 0), (⟨3, 1, 0, 1, 0, ⟨#[]⟩, []⟩, .slice none 0 0)], rfl, ⟨by decide, fun e => by cases e⟩, rfl, fun _ => ⟨ga, 0, rfl, ha, fun i t ht j u hu => ?_⟩, fun q hq => ?_⟩
    · rw [c1]
      match i, ht with
      | 0, ht =>
        obtain rfl := Option.some.inj ht
        match j, hu with
        | 0, hu => exact hu
        | 1, hu => exact hu
        | 2, hu => exact hu
        | 3, hu => exact hu
        | 4, hu => exact hu
        | 5, hu => exact hu
        | 6, hu => exact hu
      | 1, ht =>
        obtain rfl := Option.some.inj ht
        match j, hu with
        | 0, hu => exact hu
        | 1, hu => exact hu
        | 2, hu => exact hu
        | 3, hu => exact hu
        | 4, hu => exact hu
        | 5, hu => exact hu
        | 6, hu => exact hu
    · simp only [List.mem_cons, List.not_mem_nil, or_false] at hq
      rcases hq with rfl | rfl <;> exact ⟨by decide, nil8⟩
  refine ⟨(by decide : (1 : Nat) ≤ maxLen), ⟨none, 0, rfl, ⟨by simp, fun _ => ⟨rfl, rfl⟩⟩, isSl_nil⟩, some ⟨g, 0, none⟩, 1, [(⟨smallOps, x⟩, .slice (some ⟨ga, 0, none⟩) 2 2)], rfl, ⟨(by decide : 1 * 64 ≤ 140737488351232), fun e => by cases e⟩, rfl, fun _ => ⟨g, 0, rfl, hg, fun i t ht j u hu => ?_⟩, fun q hq => ?_⟩
  · rw [c2]
    match i, ht with
    | 0, ht =>
      obtain rfl := Option.some.inj ht
      match j, hu with
      | 0, hu => exact hu
      | 1, hu => exact hu
      | 2, hu => exact hu
      | 3, hu => exact hu
      | 4, hu => exact hu
      | 5, hu => exact hu
  · simp only [List.mem_cons, List.not_mem_nil, or_false] at hq
    subst hq
    exact hops
set_option maxRecDepth 100000 in
set_option maxHeartbeats 4000000 in
theorem small_ok (w : World) : Calls Tryd.prog 16 #[] w fun e w' => (∃ g ga, e = .returned (.agg #[.string ⟨#[102]⟩, .int .i64 1, .int .i64 2, .slice none 0 0, .slice (some ⟨g, 0, none⟩) 1 1]) ∧ w.heap.size ≤ g ∧ w.heap.size ≤ ga ∧ ga ≠ g ∧ SmallAt w' g ga ⟨3, 1, -1, 0, 0⟩) ∧ Below w.heap.size w w' := by
  go_enter Tryd.func16, Tryd.ntmps16
  go_wp2
  obtain ⟨hB, hC, hbl⟩ := three_new w (.cells #[.string ⟨#[102]⟩, .int .i64 1, .int .i64 2, .slice none 0 0, .slice (some ⟨w.heap.size + 1 + 1, 0, none⟩) 1 1] 35)
    (.cells #[.int .i64 1, .int .i64 1, .int .i64 (-1), .int .i64 (-1), .int .i64 5, .string ⟨#[]⟩, .slice none 0 0, .int .i64 3, .int .i64 1, .int .i64 0, .int .i64 1, .int .i64 0, .string ⟨#[]⟩, .slice none 0 0] 54)
    (.cells #[.slice (some ⟨w.heap.size + 1, 0, none⟩) 2 2, .int .i64 3, .int .i64 1, .int .i64 (-1), .int .i64 0, .int .i64 0] 41)
  have hA : (((w.alloc (.cells #[.string ⟨#[102]⟩, .int .i64 1, .int .i64 2, .slice none 0 0, .slice (some ⟨w.heap.size + 1 + 1, 0, none⟩) 1 1] 35)).alloc
    (.cells #[.int .i64 1, .int .i64 1, .int .i64 (-1), .int .i64 (-1), .int .i64 5, .string ⟨#[]⟩, .slice none 0 0, .int .i64 3, .int .i64 1, .int .i64 0, .int .i64 1, .int .i64 0, .string ⟨#[]⟩, .slice none 0 0] 54)).alloc
    (.cells #[.slice (some ⟨w.heap.size + 1, 0, none⟩) 2 2, .int .i64 3, .int .i64 1, .int .i64 (-1), .int .i64 0, .int .i64 0] 41)).heap[w.heap.size]? = some (.cells #[.string ⟨#[102]⟩, .int .i64 1, .int .i64 2, .slice none 0 0, .slice (some ⟨w.heap.size + 1 + 1, 0, none⟩) 1 1] 35 (0, 0)) := by
    rw [Below.heap_alloc _ _ _ (by simp; omega)]
    exact ir_new1 w _ _
  generalize World.alloc _ _ = w3 at *
  refine bodyPost_ret (v := .agg #[.string ⟨#[102]⟩, .int .i64 1, .int .i64 2, .slice none 0 0, .slice (some ⟨w.heap.size + 1 + 1, 0, none⟩) 1 1]) (by simp [results, Tryd.results16, go_sem, World.cell?, hA]) rfl ?_
  exact ⟨⟨_, _, rfl, by omega, by omega, by omega, hC, hB⟩, hbl⟩
end Go.Proofs.YtlomdlblohnfmaaDoor
namespace Go.Proofs.YtlomdlblohnfmaaDoor
open Go.RowKit

theorem writer_new (w : World) (B : Nat) (hB : B ≤ w.heap.size) : WriterAt B w.heap.size [] (w.alloc (.cells #[.pointer none, .slice none 0 0] 93)) := by
  refine .inl ⟨hB, .slice none 0 0, heap_alloc_new _ _, ?_, ?_⟩
  · exact World.ownsRow_nil _ _ _ _
  · intro h; cases h
set_option maxRecDepth 100000 in
set_option maxHeartbeats 8000000 in
theorem print_one (f : IrF) (vs vb : Value) (b : Nat) (w : World) (hE : IE w) (hk : 0 < w.heap.size) (hF : IsFn w.heap.size w f vs vb) (hb : b < w.heap.size)
    (hx : w.heap[b]? = some (.cells #[.string f.name, .int .i64 f.params, .int .i64 f.regs, vs, vb] 35 (0, 0)))
    (hs : f.slots = []) (hops : ∀ bl ∈ f.blocks, ∀ o ∈ bl.ops, OpFine o) (hex : ∀ bl ∈ f.blocks, ExOk bl.exit) (hp : I64 f.params) (hr : I64 f.regs) (hnm : f.name.size ≤ 1048576)
    (hc : checkP ⟨[], [], [f]⟩ = (0, 0)) (hne : funcL [] f ≠ []) (hlen : (funcL [] f).length ≤ 1048576) :
    Calls Tryd.prog 15 #[.agg #[.slice none 0 0, .slice none 0 0, .slice (some ⟨b, 0, none⟩) 1 1]] w fun e w' => e = .returned (.tuple #[.string ⟨(funcL [] f).toArray⟩, .agg #[.int .i64 0, .int .i64 0]]) ∧ Below w.heap.size w w' := by
  obtain ⟨a1, n1, c1, rfl⟩ : ∃ a n c, vs = .slice a n c := by obtain ⟨a, c, e, _⟩ := hF.slots; exact ⟨a, _, c, e⟩
  obtain ⟨a2, n2, c2, rfl⟩ : ∃ a n c, vb = .slice a n c := by obtain ⟨a, c, _, e, _⟩ := hF.blocks; exact ⟨a, _, c, e⟩
  have hP : IsPr w.heap.size w ⟨[], [], [f]⟩ (.slice none 0 0) (.slice none 0 0) (.slice (some ⟨b, 0, none⟩) 1 1) := by
    refine ⟨⟨none, 0, [], rfl, ⟨by simp, fun _ => ⟨rfl, rfl⟩⟩, rfl, isSl_nil, fun q hq => by cases hq⟩, ⟨none, 0, rfl, ⟨by simp, fun _ => ⟨rfl, rfl⟩⟩, isSl_nil⟩, some ⟨b, 0, none⟩, 1, [(f, .slice a1 n1 c1, .slice a2 n2 c2)], rfl, ⟨(by decide : 1 * 80 ≤ 140737488351232), fun e => by cases e⟩, rfl, fun _ => ⟨b, 0, rfl, hb, fun i t ht j u hu => ?_⟩, fun q hq => ?_⟩
    · have c : ∀ j, w.cell? ⟨b, j, none⟩ = (#[.string f.name, .int .i64 f.params, .int .i64 f.regs, .slice a1 n1 c1, .slice a2 n2 c2] : Array Value)[j]? := fun j => by simp [World.cell?, hx]
      match i, ht with
      | 0, ht =>
        obtain rfl := Option.some.inj ht
        rw [c]
        match j, hu with
        | 0, hu => exact hu
        | 1, hu => exact hu
        | 2, hu => exact hu
        | 3, hu => exact hu
        | 4, hu => exact hu
    · simp only [List.mem_cons, List.not_mem_nil, or_false] at hq
      subst hq
      exact hF
  have hck := fun w1 (h1 : Below w.heap.size w w1) => check_fit ⟨[], [], [f]⟩ _ _ _ w1 (hE.keys.below h1) ((hP.below h1 (Nat.le_refl _)).mono h1.size) (by simp) (by simp) (by simp)
  rw [hc] at hck
  dsimp only at hck
  have HCk := Lib.hid hck
  have HWf := Lib.hid (fun (B : Nat) (bw : Nat) (w1 : World) (h1 : Below w.heap.size w w1) (hB : w.heap.size ≤ B) (hB1 : B ≤ w1.heap.size) (hW : WriterAt B bw [] w1) =>
    wfunc_ok B bw [] f (.slice a1 n1 c1) (.slice a2 n2 c2) w1 ⟨hE.below h1, Nat.lt_of_lt_of_le hk hB, Nat.lt_of_lt_of_le hE.lt hB, hB1⟩ hW ((hF.below h1 (Nat.le_refl _)).mono hB) hs hops hex hp hr hnm (by simp))
  unfold fnV at HWf
  obtain ⟨w2, hw2⟩ : ∃ x, x = (w.alloc (.cells #[.slice none 0 0, .slice none 0 0, .slice (some ⟨b, 0, none⟩) 1 1] 26)).alloc (.cells #[.int .i64 0, .int .i64 0] 30) := ⟨_, rfl⟩
  have HX1 := Lib.hid (show w2.heap[w.heap.size]? = some (.cells #[.slice none 0 0, .slice none 0 0, .slice (some ⟨b, 0, none⟩) 1 1] 26 (0, 0)) from by rw [hw2]; exact ir_new1 w _ _)
  have HB2 := Lib.hid (show Below w.heap.size w w2 from by rw [hw2]; exact (two_new w _ _).2)
  have HX2 := Lib.hid (show w2.heap[w.heap.size + 1]? = some (.cells #[.int .i64 0, .int .i64 0] 30 (0, 0)) from by rw [hw2]; exact (two_new w _ _).1)
  have HX := Lib.hid hx
  clear hP hck hE hk hF hs hops hex hp hr hnm hc hx
  generalize hl : funcL [] f = l at *
  go_enter Tryd.func15, Tryd.ntmps15
  go_upto_region 1 with fail
  rw [← hw2]
  have hz2 : w.heap.size + 2 ≤ w2.heap.size := by rw [hw2]; simp
  clear hw2
  obtain ⟨x0, x1, x2⟩ := three_cells HX1.out
  go_upto_region 2 with (go_at_call 6; (with_reducible refine (HCk.out _ HB2.out).mono ?_); rintro e w3 ⟨rfl, hb3⟩; have HB3 := Lib.hid hb3; clear hb3)
  have hx4 := heap_alloc_new w3 (.cells #[.int .i64 0, .int .i64 0] 30)
  have hb4 : Below w3.heap.size w3 (w3.alloc (.cells #[.int .i64 0, .int .i64 0] 30)) := (Below.refl _ _).alloc (Nat.le_refl _) _
  have HB4 := Lib.hid (HB3.out.trans (hb4.mono HB3.out.size))
  generalize World.alloc w3 _ = w4 at *
  obtain ⟨f0, f1, _, _⟩ := fault_cells hx4
  clear x0 x1 x2 hb4
  go_upto_region 5 with fail
  have hw5 := writer_new w4 w4.heap.size (Nat.le_refl _)
  have hb5 : Below w4.heap.size w4 (w4.alloc (.cells #[.pointer none, .slice none 0 0] 93)) := (Below.refl _ _).alloc (Nat.le_refl _) _
  have hz5 : (w4.alloc (.cells #[.pointer none, .slice none 0 0] 93)).heap.size = w4.heap.size + 1 := by simp
  generalize World.alloc w4 _ = w5 at *
  have hz4 := HB3.out.size
  have hz34 := HB4.out.size
  have hlt4 : w3.heap.size < w4.heap.size := lt_of_heap hx4
  have hbx : ∀ w', Below w4.heap.size w5 w' → Below w2.heap.size w2 w' := fun w' h => (HB4.out.trans (hb5.mono HB4.out.size)).trans (h.mono HB4.out.size)
  have HBx := Lib.hid hbx
  have HXx := Lib.hid (fun w' (h : Below w4.heap.size w5 w') => three_cells ((Below.block (hbx w' h) _ (by omega)).trans HX1.out))
  have HFx := Lib.hid (fun w' (h : Below w4.heap.size w5 w') => fault_cells ((Below.block (hbx w' h) _ (by omega)).trans HX2.out))
  have HW5 := Lib.hid hw5
  have HCx := Lib.hid (show ∀ w', Below w4.heap.size w5 w' → w'.cell? ⟨b, 0, none⟩ = some (.string f.name) ∧ w'.cell? ⟨b, 1, none⟩ = some (.int .i64 f.params) ∧ w'.cell? ⟨b, 2, none⟩ = some (.int .i64 f.regs) ∧ w'.cell? ⟨b, 3, none⟩ = some (.slice a1 n1 c1) ∧ w'.cell? ⟨b, 4, none⟩ = some (.slice a2 n2 c2) from fun w' h =>
    fn_cells HX.out w' (HB2.out.trans ((hbx w' h).mono HB2.out.size)))
  clear hbx hw5 f0 f1 hx4
  have hz45 : w4.heap.size < w5.heap.size := by omega
  obtain ⟨x0, x1, x2⟩ := HXx.out w5 (Below.refl _ _)
  go_wp2_with fail
  go_loopg [25] 1 (fun g v25 wy => v25 = .int .i64 0 ∧ g = 1 ∧ wy = w5)
  case atStart => exact ⟨rfl, rfl, rfl⟩
  case round =>
    obtain ⟨rfl, _, hw⟩ := hrel
    subst hw
    go_wp2_with fail
    go_loopg [49] 1 (fun g v49 wy => v49 = .int .i64 0 ∧ g = 1 ∧ wy = wr)
    case atStart => exact ⟨rfl, rfl, rfl⟩
    case round =>
      obtain ⟨rfl, _, hw⟩ := hrel
      subst hw
      go_wp2_with fail
      go_loopg [62] 2 (fun g v62 wy => (v62 = .int .i64 0 ∧ g = 2 ∧ wy = wr) ∨ (v62 = .int .i64 1 ∧ g = 1 ∧ Hid (WriterAt w4.heap.size w4.heap.size l wy ∧ Below w4.heap.size wr wy)))
      case atStart => exact .inl ⟨rfl, rfl, rfl⟩
      case round =>
        rcases hrel with ⟨rfl, _, hw⟩ | ⟨rfl, _, hW⟩
        · subst hw
          obtain ⟨e0, e1, e2, e3, e4⟩ := HCx.out wr (Below.refl _ _)
          have HB6 := Lib.hid (show Below wr.heap.size wr (wr.alloc (.cells #[.string f.name, .int .i64 f.params, .int .i64 f.regs, .slice a1 n1 c1, .slice a2 n2 c2] 35)) from (Below.refl _ _).alloc (Nat.le_refl _) _)
          have HB64 := Lib.hid (HB6.out.mono (show w4.heap.size ≤ wr.heap.size by omega))
          have HFn := Lib.hid (HWf.out w4.heap.size w4.heap.size _ (HB2.out.trans ((HBx.out _ HB64.out).mono HB2.out.size)) (by have := HB2.out.size; omega) (Nat.le_trans (by omega) HB64.out.size) (HW5.out.below HB6.out))
          obtain ⟨g0, g1, g2, g3, g4⟩ := fn_cells (heap_alloc_new wr (.cells #[.string f.name, .int .i64 f.params, .int .i64 f.regs, .slice a1 n1 c1, .slice a2 n2 c2] 35)) _ (Below.refl _ _)
          go_wp2_with (go_at_call 33; (with_reducible refine HFn.out.mono ?_); rintro e w6 ⟨rfl, hw6, hb6, _⟩; have HW6 := Lib.hid (And.intro hw6 (HB64.out.trans hb6)); clear hw6 hb6)
          go_roundg 1
          case measure => omega
          case rel => exact .inr ⟨rfl, rfl, HW6⟩
        · have hln := wLen w4.heap.size w4.heap.size (Lib.byteCells l) _ hW.out.1
          rw [Lib.byteCells_length] at hln
          have HLn := Lib.hid hln
          have HSt := Lib.hid (wString w4.heap.size w4.heap.size l _ hW.out.1 hne)
          have hll : (l.length : Int) ≤ 1048576 := by omega
          clear hln
          go_wp2_with (first
            | (go_at_call 34; (with_reducible refine HLn.out.mono ?_); rintro e w6 ⟨rfl, hw6⟩; subst hw6)
            | (go_at_call 35; (with_reducible refine HSt.out.mono ?_); rintro e w6 ⟨rfl, hb6⟩; have HB6 := Lib.hid (hW.out.2.trans hb6); obtain ⟨r0, r1, r2, r3⟩ := HFx.out _ HB6.out; clear hb6))
          have hr := fault_set ((Below.block (HBx.out _ HB6.out) _ (by omega)).trans HX2.out) 0 0
          refine bodyPost_ret (v := .tuple #[.string ⟨l.toArray⟩, .agg #[.int .i64 0, .int .i64 0]]) (by simp [results, Tryd.results15, go_sem, World.cell?, hr]) rfl ⟨rfl, ?_⟩
          exact ((HB2.out.trans ((HBx.out _ HB6.out).mono HB2.out.size)).setCell (Nat.le_succ _) _).setCell (Nat.le_succ _) _
end Go.Proofs.YtlomdlblohnfmaaDoor
namespace Go.Proofs.YtlomdlblohnfmaaDoor
open Go.RowKit

theorem small_print (w : World) (hE : IE w) (hk : 0 < w.heap.size) (g ga b : Nat) (hg : g < w.heap.size) (ha : ga < w.heap.size) (hb : b < w.heap.size) (hS : SmallAt w g ga ⟨3, 1, -1, 0, 0⟩)
    (hx : w.heap[b]? = some (.cells #[.string ⟨#[102]⟩, .int .i64 1, .int .i64 2, .slice none 0 0, .slice (some ⟨g, 0, none⟩) 1 1] 35 (0, 0))) :
    Calls Tryd.prog 15 #[.agg #[.slice none 0 0, .slice none 0 0, .slice (some ⟨b, 0, none⟩) 1 1]] w fun e w' => e = .returned (.tuple #[.string ⟨#[102, 117, 110, 99, 32, 102, 32, 49, 32, 50, 10, 98, 108, 111, 99, 107, 10, 114, 49, 32, 61, 32, 99, 111, 110, 115, 116, 32, 53, 10, 114, 49, 32, 61, 32, 97, 100, 100, 32, 114, 48, 32, 114, 49, 10, 114, 101, 116, 117, 114, 110, 32, 114, 49, 10]⟩, .agg #[.int .i64 0, .int .i64 0]]) ∧ Below w.heap.size w w' := by
  have h := print_one smallF (.slice none 0 0) (.slice (some ⟨g, 0, none⟩) 1 1) b w hE hk (small_is hS hg ha) hb hx rfl (fun bl hbl o ho => by
      simp only [smallF, List.mem_cons, List.not_mem_nil, or_false] at hbl
      subst hbl
      simp only [smallOps, List.mem_cons, List.not_mem_nil, or_false] at ho
      rcases ho with rfl | rfl
      · exact ⟨by decide +kernel, by decide, by decide, by constructor <;> decide⟩
      · exact ⟨by decide +kernel, by decide, by decide, by constructor <;> decide⟩) (fun bl hbl => by
      simp only [smallF, List.mem_cons, List.not_mem_nil, or_false] at hbl
      subst hbl
      exact ⟨by constructor <;> decide, by constructor <;> decide, by constructor <;> decide, by constructor <;> decide⟩) (by constructor <;> decide) (by constructor <;> decide) (by decide) small_check (by rw [small_text]; simp) (by rw [small_text]; decide)
  rw [small_text] at h
  exact h
theorem small_turn {w : World} {g ga : Nat} {x y : IrX} (h : SmallAt w g ga x) (hne : ga ≠ g) : SmallAt (((((w.setCell ⟨g, 1, none⟩ (.int .i64 y.kind)).setCell ⟨g, 2, none⟩ (.int .i64 y.a)).setCell ⟨g, 3, none⟩ (.int .i64 y.d)).setCell ⟨g, 4, none⟩ (.int .i64 y.to)).setCell ⟨g, 5, none⟩ (.int .i64 y.els)) g ga y := by
  have h1 := heap_setCell_same w g 1 _ _ (.int .i64 y.kind) h.bl
  have h2 := heap_setCell_same _ g 2 _ _ (.int .i64 y.a) h1
  have h3 := heap_setCell_same _ g 3 _ _ (.int .i64 y.d) h2
  have h4 := heap_setCell_same _ g 4 _ _ (.int .i64 y.to) h3
  have h5 := heap_setCell_same _ g 5 _ _ (.int .i64 y.els) h4
  refine ⟨h5, ?_⟩
  rw [heap_setCell_other _ _ _ _ hne, heap_setCell_other _ _ _ _ hne, heap_setCell_other _ _ _ _ hne, heap_setCell_other _ _ _ _ hne, heap_setCell_other _ _ _ _ hne]
  exact h.op
theorem turn_other {w : World} {g k : Nat} {x : IrX} (h : k ≠ g) : (((((w.setCell ⟨g, 1, none⟩ (.int .i64 x.kind)).setCell ⟨g, 2, none⟩ (.int .i64 x.a)).setCell ⟨g, 3, none⟩ (.int .i64 x.d)).setCell ⟨g, 4, none⟩ (.int .i64 x.to)).setCell ⟨g, 5, none⟩ (.int .i64 x.els)).heap[k]? = w.heap[k]? := by
  rw [heap_setCell_other _ _ _ _ h, heap_setCell_other _ _ _ _ h, heap_setCell_other _ _ _ _ h, heap_setCell_other _ _ _ _ h, heap_setCell_other _ _ _ _ h]
theorem turn_below {B : Nat} {w0 w : World} {g : Nat} {x : IrX} (h : Below B w0 w) (hg : B ≤ g) : Below B w0 (((((w.setCell ⟨g, 1, none⟩ (.int .i64 x.kind)).setCell ⟨g, 2, none⟩ (.int .i64 x.a)).setCell ⟨g, 3, none⟩ (.int .i64 x.d)).setCell ⟨g, 4, none⟩ (.int .i64 x.to)).setCell ⟨g, 5, none⟩ (.int .i64 x.els)) :=
  ((((h.setCell hg _).setCell hg _).setCell hg _).setCell hg _).setCell hg _
theorem six_cells {w : World} {b : Nat} {a0 a1 a2 a3 a4 a5 : Value} {T : TypeId} (h : w.heap[b]? = some (.cells #[a0, a1, a2, a3, a4, a5] T (0, 0))) :
    (w.cell? ⟨b, 0, none⟩ = some a0 ∧ w.cell? ⟨b, 1, none⟩ = some a1 ∧ w.cell? ⟨b, 2, none⟩ = some a2 ∧ w.cell? ⟨b, 3, none⟩ = some a3 ∧ w.cell? ⟨b, 4, none⟩ = some a4 ∧ w.cell? ⟨b, 5, none⟩ = some a5) ∧ (w.frozen? ⟨b, 1, none⟩ = false ∧ w.frozen? ⟨b, 2, none⟩ = false ∧ w.frozen? ⟨b, 3, none⟩ = false ∧ w.frozen? ⟨b, 4, none⟩ = false ∧ w.frozen? ⟨b, 5, none⟩ = false) := by
  refine ⟨⟨?_, ?_, ?_, ?_, ?_, ?_⟩, ?_, ?_, ?_, ?_, ?_⟩ <;> simp [World.cell?, World.frozen?, h]
theorem five_cells {w : World} {b : Nat} {a0 a1 a2 a3 a4 : Value} {T : TypeId} (h : w.heap[b]? = some (.cells #[a0, a1, a2, a3, a4] T (0, 0))) :
    w.cell? ⟨b, 0, none⟩ = some a0 ∧ w.cell? ⟨b, 1, none⟩ = some a1 ∧ w.cell? ⟨b, 2, none⟩ = some a2 ∧ w.cell? ⟨b, 3, none⟩ = some a3 ∧ w.cell? ⟨b, 4, none⟩ = some a4 := by
  refine ⟨?_, ?_, ?_, ?_, ?_⟩ <;> simp [World.cell?, h]
theorem SmallAt.below {w w' : World} {g ga : Nat} {x : IrX} (h : SmallAt w g ga x) (hb : Below w.heap.size w w') : SmallAt w' g ga x :=
  ⟨(hb.block _ (lt_of_heap h.bl)).trans h.bl, (hb.block _ (lt_of_heap h.op)).trans h.op⟩
set_option maxRecDepth 100000 in
set_option maxHeartbeats 8000000 in
theorem works18_ok (w : World) (hE : IE w) (hk : 0 < w.heap.size) : Calls Tryd.prog 5 #[] w fun e w' => e = .returned (.bool true) ∧ Below w.heap.size w w' := by
  have HE := Lib.hid hE
  have HK := Lib.hid hk
  have HB := Lib.hid (show builtV ⟨#[99, 111, 95, 110, 101, 119]⟩ = .tuple #[.int .i64 3, .bool true, .bool true] from by kernel_rfl)
  clear hE hk
  go_enter Tryd.func5, Tryd.ntmps5
  go_upto_region 2 with (first
    | (go_at_call 16; refine (small_ok _).mono ?_; rintro e w1 ⟨⟨g, ga, rfl, _, _, _, hS⟩, hb1⟩;
       have HB1 := Lib.hid hb1;
       have hgl : g < w1.heap.size := lt_of_heap hS.bl;
       have hal : ga < w1.heap.size := lt_of_heap hS.op;
       have HBa := Lib.hid (show Below w1.heap.size w1 (w1.alloc (.cells #[.string ⟨#[102]⟩, .int .i64 1, .int .i64 2, .slice none 0 0, .slice (some ⟨g, 0, none⟩) 1 1] 35)) from (Below.refl _ _).alloc (Nat.le_refl _) _);
       have HPr := Lib.hid (small_print (w1.alloc (.cells #[.string ⟨#[102]⟩, .int .i64 1, .int .i64 2, .slice none 0 0, .slice (some ⟨g, 0, none⟩) 1 1] 35)) (HE.out.below (HB1.out.trans (HBa.out.mono HB1.out.size))) (Nat.lt_of_lt_of_le HK.out (Nat.le_trans HB1.out.size HBa.out.size)) g ga w1.heap.size (by simp; omega) (by simp; omega) (by simp) (hS.below HBa.out) (heap_alloc_new _ _));
       clear hb1 hS)
    | (go_at_call 15; (with_reducible refine HPr.out.mono ?_); rintro e w2 ⟨rfl, hb2⟩; have HB2 := Lib.hid ((HB1.out.trans (HBa.out.mono HB1.out.size)).trans (hb2.mono (Nat.le_trans HB1.out.size HBa.out.size))); clear hb2 HPr))
  have hx3 := heap_alloc_new w2 (.cells #[.int .i64 0, .int .i64 0] 30)
  have HB3 := Lib.hid (HB2.out.trans (((Below.refl w2.heap.size w2).alloc (Nat.le_refl _) (.cells #[.int .i64 0, .int .i64 0] 30)).mono HB2.out.size))
  generalize hr2 : w2.heap.size = r2 at *
  generalize World.alloc w2 _ = w3 at *
  have HX3 := Lib.hid hx3
  clear hx3 hr2 HB1 HBa hgl hal
  go_upto_region 3 with (go_at_call 16; refine (small_ok _).mono ?_; rintro e w4 ⟨⟨g2, ga2, rfl, hg2, ha2, hne2, hS⟩, hb4⟩; have HB4 := Lib.hid hb4; have HS4 := Lib.hid hS; clear hb4 hS)
  have hr3 : r2 < w3.heap.size := lt_of_heap HX3.out
  have hx5 := heap_alloc_new w4 (.cells #[.string ⟨#[102]⟩, .int .i64 1, .int .i64 2, .slice none 0 0, .slice (some ⟨g2, 0, none⟩) 1 1] 35)
  have hb5 : Below w4.heap.size w4 (w4.alloc (.cells #[.string ⟨#[102]⟩, .int .i64 1, .int .i64 2, .slice none 0 0, .slice (some ⟨g2, 0, none⟩) 1 1] 35)) := (Below.refl _ _).alloc (Nat.le_refl _) _
  generalize hr4 : w4.heap.size = r4 at *
  generalize World.alloc w4 _ = w5 at *
  have hw34 := HB4.out.size
  have hw03 := HB3.out.size
  have HB5 := Lib.hid ((HB3.out.trans (HB4.out.mono hw03)).trans (hb5.mono (show w.heap.size ≤ r4 by omega)))
  have HS5 := Lib.hid (HS4.out.below (by rw [hr4]; exact hb5))
  have hr24 : r2 < r4 := by omega
  have hx35 : w5.heap[r2]? = some (.cells #[.int .i64 0, .int .i64 0] 30 (0, 0)) := (hb5.block r2 hr24).trans ((HB4.out.block r2 hr3).trans HX3.out)
  obtain ⟨_, _, _, _, c4⟩ := five_cells hx5
  obtain ⟨⟨s0, s1, s2, s3, s4, s5⟩, z1, z2, z3, z4, z5⟩ := six_cells HS5.out.bl
  go_upto_region 4 with fail
  have HS6 := Lib.hid (small_turn (y := ⟨1, -1, -1, 0, 0⟩) HS5.out hne2)
  have HB6 := Lib.hid (turn_below (x := ⟨1, -1, -1, 0, 0⟩) HB5.out (show w.heap.size ≤ g2 by omega))
  have hg4 : r4 ≠ g2 := fun e => by
    have h1 := HS5.out.bl
    rw [← e, hx5] at h1
    cases h1
  have hx56 := (turn_other (w := w5) (x := ⟨1, -1, -1, 0, 0⟩) hg4).trans hx5
  have hx36 := (turn_other (w := w5) (x := ⟨1, -1, -1, 0, 0⟩) (show r2 ≠ g2 by omega)).trans hx35
  dsimp only at HS6 HB6 hx56 hx36
  generalize World.setCell _ _ _ = w6 at *
  clear s0 s1 s2 s3 s4 s5 z1 z2 z3 z4 z5 c4 hx5 hx35
  obtain ⟨f0, f1, f2, f3, f4⟩ := five_cells hx56
  obtain ⟨e0, e1, _, _⟩ := fault_cells hx36
  have hck := checkFunc_ok smallJ (.slice none 0 0) (.slice (some ⟨g2, 0, none⟩) 1 1) w6 (HE.out.below HB6.out).keys (small_is HS6.out (lt_of_heap HS6.out.bl) (lt_of_heap HS6.out.op))
  rw [smallJ_wrong] at hck
  have HCk := Lib.hid hck
  clear hck
  go_wp2_with (first
    | (go_at_call 17; refine (built_ok _ _).mono ?_; rintro e w7 ⟨rfl, hw7⟩; subst hw7; rw [HB.out])
    | (go_at_call 8; refine HCk.out.mono ?_; rintro e w8 ⟨rfl, hb8⟩; have HB8 := Lib.hid (HB6.out.trans (hb8.mono HB6.out.size)); clear hb8))
  go_ret
  exact ⟨rfl, HB8.out⟩
end Go.Proofs.YtlomdlblohnfmaaDoor
