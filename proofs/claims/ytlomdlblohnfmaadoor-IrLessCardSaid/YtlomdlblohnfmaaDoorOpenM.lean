/- An argument that is a function of three-address code, opened. · An argument that is a program of three-address code, opened. -/
import Derived.Test.YtlomdlblohnfmaaDoorIrLine
import Derived.SizedLaws
import Derived.Test.YtlomdlblohnfmaaDoorIrPr
namespace Go.Proofs.YtlomdlblohnfmaaDoor
open Go.ChangeShapes Go.WideShapes Go.ChangeAt Go.RowKit Go.Deep

/-- what bounds all slices and strings of a reading: M elements, M bytes -/
structure Fits {H : Type} (M : Nat) (Fit : TypeId → DataW H → Prop) : Prop where
  sl : ∀ {t e : TypeId} {k : Nat} {l rest : List (DataW H)}, Tryd.prog.underlying t = some (.slice e) → Tryd.prog.bytesOf e = k → 1 ≤ k ∧ k ≤ 128 → Fit t (.slice l rest) → (l.length ≤ M ∧ l.length * k ≤ 140737488351232) ∧ ∀ d ∈ l, Fit e d
  st : ∀ {t : TypeId} {fs : Array Field} {l : List (DataW H)}, Tryd.prog.underlying t = some (.struct fs) → Fit t (.agg l) → ∀ (j : Nat) (f : Field) (d : DataW H), fs[j]? = some f → l[j]? = some d → Fit f.type d
  tx : ∀ {t : TypeId} {s : List UInt8}, Fit t (.lit (.string s)) → s.length ≤ M

section
variable {H : Type} {enc : TypeId × Value → H} {w : World} {base : Nat} {spare : Nat → Bool} {held : Bool} {M : Nat} {Fit : TypeId → DataW H → Prop}
def intData (n : Int) : DataW H := .lit (.int .i64 n)
theorem cellsI18 : Tryd.prog.cellsOf 3 = 1 := by kernel_rfl
theorem cellsS18 : Tryd.prog.cellsOf 9 = 1 := by kernel_rfl
theorem cellsB18 : Tryd.prog.cellsOf 4 = 1 := by kernel_rfl
theorem cellsIs18 : Tryd.prog.cellsOf 43 = 1 := by kernel_rfl
theorem cellsOp18 : Tryd.prog.cellsOf 54 = 7 := by kernel_rfl
theorem cellsOps18 : Tryd.prog.cellsOf 39 = 1 := by kernel_rfl
theorem cellsEx18 : Tryd.prog.cellsOf 38 = 5 := by kernel_rfl
theorem cellsBlk18 : Tryd.prog.cellsOf 41 = 6 := by kernel_rfl
theorem cellsBlks18 : Tryd.prog.cellsOf 33 = 1 := by kernel_rfl
theorem cellsSlot18 : Tryd.prog.cellsOf 108 = 3 := by kernel_rfl
theorem cellsSlots18 : Tryd.prog.cellsOf 32 = 1 := by kernel_rfl
theorem cellsFn18 : Tryd.prog.cellsOf 35 = 5 := by kernel_rfl
theorem i64_of {n : Int} (h : (Lit.int .i64 n).wf = true) : I64 n := bounds_i64 h
/-- registers -/
theorem open_regs (HF : Fits M Fit) {fuel : Nat} {v : Value} {x : DataW H × List MemPlace} (h : DataW.trod enc Tryd.prog w base spare held fuel 43 [v] = some x) :
    ∃ L : List Int, (∀ n ∈ L, I64 n) ∧ (Fit 43 x.1 → L.length ≤ M ∧ IsNums w.heap.size w v L) := by
  obtain ⟨a, cap, L, hv, hl, hc, hn, hd, hs, hok⟩ := open_list (by decide) Tryd.underlying43 cellsI18 intCells intData I64 (fun h => by
    obtain ⟨n, e, r, wf⟩ := DataW.trod_int Tryd.underlying3 h
    exact ⟨n, e, congrArg Prod.fst r, i64_of wf⟩) h
  refine ⟨L, hok, fun hf => ?_⟩
  have hz : L.length ≤ M ∧ L.length * 8 ≤ 140737488351232 := by
    rcases hd with ⟨_, rfl⟩ | ⟨rest, e⟩
    · exact ⟨Nat.zero_le _, by simp⟩
    · rw [e] at hf
      have := (HF.sl Tryd.underlying43 (show Tryd.prog.bytesOf 3 = 8 by kernel_rfl) (by decide) hf).1
      rwa [List.length_map] at this
  exact ⟨hz.1, a, cap, hv, ⟨hz.2, fun e => ⟨by rw [(hn e).1]; rfl, (hn e).2⟩⟩, hs⟩
/-- an operation as it comes: its parts, the slice of its Args; the whole of how it reads -/
def OpI (o : IrO) : Prop := I64 o.kind ∧ I64 o.d ∧ I64 o.a ∧ I64 o.b ∧ I64 o.imm ∧ ∀ n ∈ o.args, I64 n
def OpSz (M : Nat) (o : IrO) : Prop := o.args.length ≤ M ∧ o.text.size ≤ M
def OpRd (M : Nat) (Fit : TypeId → DataW H → Prop) (w : World) (q : (IrO × Value) × DataW H) : Prop := OpI q.1.1 ∧ q.1.1.text.size ≤ maxLen ∧ (Fit 54 q.2 → OpSz M q.1.1 ∧ IsNums w.heap.size w q.1.2 q.1.1.args)
set_option maxRecDepth 100000 in
theorem open_op (HF : Fits M Fit) {n : Nat} {cs : List Value} {D : DataW H} {pl : List MemPlace} (h : DataW.trod enc Tryd.prog w base spare held n 54 cs = some (D, pl)) :
    ∃ q : (IrO × Value) × DataW H, cs = opCells q.1 ∧ D = q.2 ∧ OpRd M Fit w q := by
  obtain ⟨xs, n', _, hx, hlen, hxs, hf⟩ := DataW.trod_struct Tryd.underlying54 h
  rw [cellsOp18] at hlen
  match cs, hlen with
  | [c0, c1, c2, c3, c4, c5, c6], _ =>
    match xs, hxs with
    | [y0, y1, y2, y3, y4, y5, y6], _ =>
      have f0 := hf 0 _ rfl
      have f1 := hf 1 _ rfl
      have f2 := hf 2 _ rfl
      have f3 := hf 3 _ rfl
      have f4 := hf 4 _ rfl
      have f5 := hf 5 _ rfl
      have f6 := hf 6 _ rfl
      simp [cellsI18] at f0 f1 f2 f3 f4
      simp [cellsS18] at f5
      simp [cellsIs18] at f6
      obtain ⟨a0, e0, r0, w0⟩ := DataW.trod_int Tryd.underlying3 f0
      obtain ⟨a1, e1, r1, w1⟩ := DataW.trod_int Tryd.underlying3 f1
      obtain ⟨a2, e2, r2, w2⟩ := DataW.trod_int Tryd.underlying3 f2
      obtain ⟨a3, e3, r3, w3⟩ := DataW.trod_int Tryd.underlying3 f3
      obtain ⟨a4, e4, r4, w4⟩ := DataW.trod_int Tryd.underlying3 f4
      obtain ⟨a5, e5, r5, w5⟩ := DataW.trod_string Tryd.underlying9 f5
      obtain ⟨L, hL, hN⟩ := open_regs HF f6
      simp only [List.cons.injEq, and_true] at e0 e1 e2 e3 e4 e5
      subst e0 e1 e2 e3 e4 e5 r0 r1 r2 r3 r4 r5
      refine ⟨(⟨⟨a0, a1, a2, a3, a4, a5, L⟩, c6⟩, D), rfl, rfl, ⟨i64_of w0, i64_of w1, i64_of w2, i64_of w3, i64_of w4, hL⟩, w5, fun hft => ?_⟩
      have hD := congrArg Prod.fst hx
      dsimp only at hD
      rw [hD] at hft
      have g5 := HF.tx (HF.st Tryd.underlying54 hft 5 _ _ rfl rfl)
      have g6 := hN (HF.st Tryd.underlying54 hft 6 _ _ rfl rfl)
      exact ⟨⟨g6.1, by simpa using g5⟩, g6.2⟩
theorem open_ops (HF : Fits M Fit) {fuel : Nat} {v : Value} {x : DataW H × List MemPlace} (h : DataW.trod enc Tryd.prog w base spare held fuel 39 [v] = some x) :
    ∃ L : List IrO, (∀ o ∈ L, OpI o) ∧ (Fit 39 x.1 → (∀ o ∈ L, OpSz M o) ∧ IsOps w.heap.size w v L) := by
  obtain ⟨a, cap, Q, hv, hl, hc, hn, hd, hs, hok⟩ := open_list (by decide) Tryd.underlying39 cellsOp18 (fun q : (IrO × Value) × DataW H => opCells q.1) Prod.snd (OpRd M Fit w) (fun h => open_op HF h) h
  refine ⟨Q.map fun q => q.1.1, fun o ho => ?_, fun hf => ?_⟩
  · obtain ⟨q, hq, rfl⟩ := List.mem_map.1 ho
    exact (hok q hq).1
  have hz : Q.length * 80 ≤ 140737488351232 ∧ ∀ q ∈ Q, Fit 54 q.2 := by
    rcases hd with ⟨_, rfl⟩ | ⟨rest, e⟩
    · exact ⟨by simp, fun q hq => by cases hq⟩
    · rw [e] at hf
      have := HF.sl Tryd.underlying39 (show Tryd.prog.bytesOf 54 = 80 by kernel_rfl) (by decide) hf
      rw [List.length_map] at this
      exact ⟨this.1.2, fun q hq => this.2 _ (List.mem_map_of_mem hq)⟩
  refine ⟨fun o ho => ?_, a, cap, Q.map Prod.fst, by rw [List.length_map]; exact hv, ⟨by rw [List.length_map]; exact hz.1, fun e => ⟨by rw [(hn e).1]; rfl, (hn e).2⟩⟩, by rw [List.map_map]; rfl, ?_, fun q hq => ?_⟩
  · obtain ⟨q, hq, rfl⟩ := List.mem_map.1 ho
    exact ((hok q hq).2.2 (hz.2 q hq)).1
  · exact sl_map Prod.fst (fun _ => rfl) hs
  · obtain ⟨q', hq', rfl⟩ := List.mem_map.1 hq
    exact ⟨(hok q' hq').2.1, ((hok q' hq').2.2 (hz.2 q' hq')).2⟩
/-- an exit -/
def exCells (x : IrX) : List Value := [.int .i64 x.kind, .int .i64 x.a, .int .i64 x.d, .int .i64 x.to, .int .i64 x.els]
def ExI (x : IrX) : Prop := I64 x.kind ∧ I64 x.a ∧ I64 x.d ∧ I64 x.to ∧ I64 x.els
set_option maxRecDepth 100000 in
theorem open_exit {n : Nat} {cs : List Value} {y : DataW H × List MemPlace} (h : DataW.trod enc Tryd.prog w base spare held n 38 cs = some y) : ∃ x : IrX, cs = exCells x ∧ ExI x := by
  obtain ⟨xs, n', _, hx, hlen, hxs, hf⟩ := DataW.trod_struct Tryd.underlying38 h
  rw [cellsEx18] at hlen
  match cs, hlen with
  | [c0, c1, c2, c3, c4], _ =>
    match xs, hxs with
    | [y0, y1, y2, y3, y4], _ =>
      have f0 := hf 0 _ rfl
      have f1 := hf 1 _ rfl
      have f2 := hf 2 _ rfl
      have f3 := hf 3 _ rfl
      have f4 := hf 4 _ rfl
      simp [cellsI18] at f0 f1 f2 f3 f4
      obtain ⟨a0, e0, r0, w0⟩ := DataW.trod_int Tryd.underlying3 f0
      obtain ⟨a1, e1, r1, w1⟩ := DataW.trod_int Tryd.underlying3 f1
      obtain ⟨a2, e2, r2, w2⟩ := DataW.trod_int Tryd.underlying3 f2
      obtain ⟨a3, e3, r3, w3⟩ := DataW.trod_int Tryd.underlying3 f3
      obtain ⟨a4, e4, r4, w4⟩ := DataW.trod_int Tryd.underlying3 f4
      simp only [List.cons.injEq, and_true] at e0 e1 e2 e3 e4
      subst e0 e1 e2 e3 e4
      exact ⟨⟨a0, a1, a2, a3, a4⟩, rfl, i64_of w0, i64_of w1, i64_of w2, i64_of w3, i64_of w4⟩
/-- a block -/
def BlkI (b : IrB) : Prop := (∀ o ∈ b.ops, OpI o) ∧ ExI b.exit
def BlkRd (M : Nat) (Fit : TypeId → DataW H → Prop) (w : World) (q : (IrB × Value) × DataW H) : Prop := BlkI q.1.1 ∧ (Fit 41 q.2 → (∀ o ∈ q.1.1.ops, OpSz M o) ∧ IsOps w.heap.size w q.1.2 q.1.1.ops)
set_option maxRecDepth 100000 in
theorem open_blk (HF : Fits M Fit) {n : Nat} {cs : List Value} {D : DataW H} {pl : List MemPlace} (h : DataW.trod enc Tryd.prog w base spare held n 41 cs = some (D, pl)) :
    ∃ q : (IrB × Value) × DataW H, cs = blkCells q.1 ∧ D = q.2 ∧ BlkRd M Fit w q := by
  obtain ⟨xs, n', _, hx, hlen, hxs, hf⟩ := DataW.trod_struct Tryd.underlying41 h
  rw [cellsBlk18] at hlen
  match cs, hlen with
  | [c0, c1, c2, c3, c4, c5], _ =>
    match xs, hxs with
    | [y0, y1], _ =>
      have f0 := hf 0 _ rfl
      have f1 := hf 1 _ rfl
      simp [cellsOps18] at f0
      simp [cellsEx18] at f1
      obtain ⟨L, hL, hN⟩ := open_ops HF f0
      obtain ⟨x, e, hX⟩ := open_exit f1
      simp only [exCells, List.cons.injEq, and_true] at e
      obtain ⟨rfl, rfl, rfl, rfl, rfl⟩ := e
      refine ⟨((⟨L, x⟩, c0), D), rfl, rfl, ⟨hL, hX⟩, fun hft => ?_⟩
      have hD := congrArg Prod.fst hx
      dsimp only at hD
      rw [hD] at hft
      exact hN (HF.st Tryd.underlying41 hft 0 _ _ rfl rfl)
theorem open_blks (HF : Fits M Fit) {fuel : Nat} {v : Value} {x : DataW H × List MemPlace} (h : DataW.trod enc Tryd.prog w base spare held fuel 33 [v] = some x) :
    ∃ L : List IrB, (∀ b ∈ L, BlkI b) ∧ (Fit 33 x.1 → (∀ b ∈ L, ∀ o ∈ b.ops, OpSz M o) ∧ IsBlks w.heap.size w v L) := by
  obtain ⟨a, cap, Q, hv, hl, hc, hn, hd, hs, hok⟩ := open_list (by decide) Tryd.underlying33 cellsBlk18 (fun q : (IrB × Value) × DataW H => blkCells q.1) Prod.snd (BlkRd M Fit w) (fun h => open_blk HF h) h
  refine ⟨Q.map fun q => q.1.1, fun o ho => ?_, fun hf => ?_⟩
  · obtain ⟨q, hq, rfl⟩ := List.mem_map.1 ho
    exact (hok q hq).1
  have hz : Q.length * 64 ≤ 140737488351232 ∧ ∀ q ∈ Q, Fit 41 q.2 := by
    rcases hd with ⟨_, rfl⟩ | ⟨rest, e⟩
    · exact ⟨by simp, fun q hq => by cases hq⟩
    · rw [e] at hf
      have := HF.sl Tryd.underlying33 (show Tryd.prog.bytesOf 41 = 64 by kernel_rfl) (by decide) hf
      rw [List.length_map] at this
      exact ⟨this.1.2, fun q hq => this.2 _ (List.mem_map_of_mem hq)⟩
  refine ⟨fun o ho => ?_, a, cap, Q.map Prod.fst, by rw [List.length_map]; exact hv, ⟨by rw [List.length_map]; exact hz.1, fun e => ⟨by rw [(hn e).1]; rfl, (hn e).2⟩⟩, by rw [List.map_map]; rfl, ?_, fun q hq => ?_⟩
  · obtain ⟨q, hq, rfl⟩ := List.mem_map.1 ho
    exact ((hok q hq).2 (hz.2 q hq)).1
  · exact sl_map Prod.fst (fun _ => rfl) hs
  · obtain ⟨q', hq', rfl⟩ := List.mem_map.1 hq
    exact ((hok q' hq').2 (hz.2 q' hq')).2
/-- slots -/
def SlotI (s : IrS) : Prop := I64 s.bytes ∧ I64 s.align
set_option maxRecDepth 100000 in
theorem open_slot {n : Nat} {cs : List Value} {D : DataW H} {pl : List MemPlace} (h : DataW.trod enc Tryd.prog w base spare held n 108 cs = some (D, pl)) :
    ∃ q : IrS × DataW H, cs = slotCells q.1 ∧ D = q.2 ∧ SlotI q.1 := by
  obtain ⟨xs, n', _, hx, hlen, hxs, hf⟩ := DataW.trod_struct Tryd.underlying108 h
  rw [cellsSlot18] at hlen
  match cs, hlen with
  | [c0, c1, c2], _ =>
    match xs, hxs with
    | [y0, y1, y2], _ =>
      have f0 := hf 0 _ rfl
      have f1 := hf 1 _ rfl
      have f2 := hf 2 _ rfl
      simp [cellsI18] at f0 f1
      simp [cellsB18] at f2
      obtain ⟨a0, e0, r0, w0⟩ := DataW.trod_int Tryd.underlying3 f0
      obtain ⟨a1, e1, r1, w1⟩ := DataW.trod_int Tryd.underlying3 f1
      obtain ⟨a2, e2, r2⟩ := DataW.trod_bool Tryd.underlying4 f2
      simp only [List.cons.injEq, and_true] at e0 e1 e2
      subst e0 e1 e2
      exact ⟨(⟨a0, a1, a2⟩, D), rfl, rfl, i64_of w0, i64_of w1⟩
theorem open_slots (HF : Fits M Fit) {fuel : Nat} {v : Value} {x : DataW H × List MemPlace} (h : DataW.trod enc Tryd.prog w base spare held fuel 32 [v] = some x) :
    ∃ L : List IrS, (∀ s ∈ L, SlotI s) ∧ (Fit 32 x.1 → IsSlots w.heap.size w v L) := by
  obtain ⟨a, cap, Q, hv, hl, hc, hn, hd, hs, hok⟩ := open_list (by decide) Tryd.underlying32 cellsSlot18 (fun q : IrS × DataW H => slotCells q.1) Prod.snd (fun q => SlotI q.1) (fun h => open_slot h) h
  refine ⟨Q.map Prod.fst, fun o ho => ?_, fun hf => ?_⟩
  · obtain ⟨q, hq, rfl⟩ := List.mem_map.1 ho
    exact hok q hq
  have hz : Q.length * 24 ≤ 140737488351232 := by
    rcases hd with ⟨_, rfl⟩ | ⟨rest, e⟩
    · simp
    · rw [e] at hf
      have := HF.sl Tryd.underlying32 (show Tryd.prog.bytesOf 108 = 24 by kernel_rfl) (by decide) hf
      rw [List.length_map] at this
      exact this.1.2
  exact ⟨a, cap, by rw [List.length_map]; exact hv, ⟨by rw [List.length_map]; exact hz, fun e => ⟨by rw [(hn e).1]; rfl, (hn e).2⟩⟩, sl_map Prod.fst (fun _ => rfl) hs⟩
/-- a function -/
def fn5Cells (q : IrF × Value × Value) : List Value := [.string q.1.name, .int .i64 q.1.params, .int .i64 q.1.regs, q.2.1, q.2.2]
def FnI (f : IrF) : Prop := I64 f.params ∧ I64 f.regs ∧ (∀ s ∈ f.slots, SlotI s) ∧ ∀ b ∈ f.blocks, BlkI b
def FnRd (M : Nat) (Fit : TypeId → DataW H → Prop) (w : World) (q : (IrF × Value × Value) × DataW H) : Prop := FnI q.1.1 ∧ (Fit 35 q.2 → (∀ b ∈ q.1.1.blocks, ∀ o ∈ b.ops, OpSz M o) ∧ IsFn w.heap.size w q.1.1 q.1.2.1 q.1.2.2)
set_option maxRecDepth 100000 in
theorem open_fn (HF : Fits M Fit) {n : Nat} {cs : List Value} {D : DataW H} {pl : List MemPlace} (h : DataW.trod enc Tryd.prog w base spare held n 35 cs = some (D, pl)) :
    ∃ q : (IrF × Value × Value) × DataW H, cs = fn5Cells q.1 ∧ D = q.2 ∧ FnRd M Fit w q := by
  obtain ⟨xs, n', _, hx, hlen, hxs, hf⟩ := DataW.trod_struct Tryd.underlying35 h
  rw [cellsFn18] at hlen
  match cs, hlen with
  | [c0, c1, c2, c3, c4], _ =>
    match xs, hxs with
    | [y0, y1, y2, y3, y4], _ =>
      have f0 := hf 0 _ rfl
      have f1 := hf 1 _ rfl
      have f2 := hf 2 _ rfl
      have f3 := hf 3 _ rfl
      have f4 := hf 4 _ rfl
      simp [cellsS18] at f0
      simp [cellsI18] at f1 f2
      simp [cellsSlots18] at f3
      simp [cellsBlks18] at f4
      obtain ⟨a0, e0, r0, w0⟩ := DataW.trod_string Tryd.underlying9 f0
      obtain ⟨a1, e1, r1, w1⟩ := DataW.trod_int Tryd.underlying3 f1
      obtain ⟨a2, e2, r2, w2⟩ := DataW.trod_int Tryd.underlying3 f2
      obtain ⟨L3, hL3, hN3⟩ := open_slots HF f3
      obtain ⟨L4, hL4, hN4⟩ := open_blks HF f4
      simp only [List.cons.injEq, and_true] at e0 e1 e2
      subst e0 e1 e2
      refine ⟨((⟨a0, a1, a2, L3, L4⟩, c3, c4), D), rfl, rfl, ⟨i64_of w1, i64_of w2, hL3, hL4⟩, fun hft => ?_⟩
      have hD := congrArg Prod.fst hx
      dsimp only at hD
      rw [hD] at hft
      have g3 := hN3 (HF.st Tryd.underlying35 hft 3 _ _ rfl rfl)
      have g4 := hN4 (HF.st Tryd.underlying35 hft 4 _ _ rfl rfl)
      exact ⟨g4.1, w0, g3, g4.2⟩
end
end Go.Proofs.YtlomdlblohnfmaaDoor
namespace Go.Proofs.YtlomdlblohnfmaaDoor
open Go.ChangeShapes Go.WideShapes Go.ChangeAt Go.RowKit Go.Deep

section
variable {H : Type} {enc : TypeId × Value → H} {w : World} {base : Nat} {spare : Nat → Bool} {held : Bool} {M : Nat} {Fit : TypeId → DataW H → Prop}
theorem cellsU18b : Tryd.prog.cellsOf 5 = 1 := by kernel_rfl
theorem cellsWd18 : Tryd.prog.cellsOf 52 = 4 := by kernel_rfl
theorem cellsWds18 : Tryd.prog.cellsOf 48 = 1 := by kernel_rfl
theorem cellsBs18 : Tryd.prog.cellsOf 47 = 1 := by kernel_rfl
theorem cellsGl18 : Tryd.prog.cellsOf 50 = 4 := by kernel_rfl
theorem cellsGls18 : Tryd.prog.cellsOf 22 = 1 := by kernel_rfl
theorem cellsTxs18 : Tryd.prog.cellsOf 23 = 1 := by kernel_rfl
theorem cellsFns18 : Tryd.prog.cellsOf 24 = 1 := by kernel_rfl
theorem cellsIr18 : Tryd.prog.cellsOf 26 = 3 := by kernel_rfl
theorem open_byts (HF : Fits M Fit) {fuel : Nat} {v : Value} {x : DataW H × List MemPlace} (h : DataW.trod enc Tryd.prog w base spare held fuel 47 [v] = some x) :
    ∃ L : List UInt8, Fit 47 x.1 → IsByt w.heap.size w v L := by
  obtain ⟨a, cap, L, hv, hl, hc, hn, hd, hs, hok⟩ := open_list (by decide) Tryd.underlying47 cellsU18b byteCells1 (fun c : UInt8 => (.lit (.int .u8 (c.toNat : Int)) : DataW H)) (fun _ => True) (fun h => by
    obtain ⟨n, e, r, wf⟩ := DataW.trod_int Tryd.underlying5 h
    have h1 : IntKind.u8.min = 0 := by decide
    have h2 : IntKind.u8.max = 255 := by decide
    rw [Lit.wf, h1, h2, Bool.and_eq_true, decide_eq_true_iff, decide_eq_true_iff] at wf
    have hn : ((UInt8.ofNat n.toNat).toNat : Int) = n := by
      rw [UInt8.toNat_ofNat']
      omega
    exact ⟨UInt8.ofNat n.toNat, by rw [e]; unfold byteCells1; rw [hn], by rw [hn]; exact congrArg Prod.fst r, trivial⟩) h
  refine ⟨L, fun hf => ⟨a, cap, hv, hl, ⟨?_, fun e => ⟨by rw [(hn e).1]; rfl, (hn e).2⟩⟩, hs⟩⟩
  rcases hd with ⟨_, rfl⟩ | ⟨rest, e⟩
  · simp
  · rw [e] at hf
    have := (HF.sl Tryd.underlying47 (show Tryd.prog.bytesOf 5 = 1 by kernel_rfl) (by decide) hf).1.2
    rwa [List.length_map] at this
set_option maxRecDepth 100000 in
theorem open_word {n : Nat} {cs : List Value} {D : DataW H} {pl : List MemPlace} (h : DataW.trod enc Tryd.prog w base spare held n 52 cs = some (D, pl)) :
    ∃ q : IrW × DataW H, cs = wdCells q.1 ∧ D = q.2 ∧ q.1.text.size ≤ maxLen := by
  obtain ⟨xs, n', _, hx, hlen, hxs, hf⟩ := DataW.trod_struct Tryd.underlying52 h
  rw [cellsWd18] at hlen
  match cs, hlen with
  | [c0, c1, c2, c3], _ =>
    match xs, hxs with
    | [y0, y1, y2, y3], _ =>
      have f0 := hf 0 _ rfl
      have f1 := hf 1 _ rfl
      have f2 := hf 2 _ rfl
      have f3 := hf 3 _ rfl
      simp [cellsI18] at f0 f1 f2
      simp [cellsS18] at f3
      obtain ⟨a0, e0, r0, w0⟩ := DataW.trod_int Tryd.underlying3 f0
      obtain ⟨a1, e1, r1, w1⟩ := DataW.trod_int Tryd.underlying3 f1
      obtain ⟨a2, e2, r2, w2⟩ := DataW.trod_int Tryd.underlying3 f2
      obtain ⟨a3, e3, r3, w3⟩ := DataW.trod_string Tryd.underlying9 f3
      simp only [List.cons.injEq, and_true] at e0 e1 e2 e3
      subst e0 e1 e2 e3
      exact ⟨(⟨a0, a1, a2, a3⟩, D), rfl, rfl, w3⟩
theorem open_wds (HF : Fits M Fit) {fuel : Nat} {v : Value} {x : DataW H × List MemPlace} (h : DataW.trod enc Tryd.prog w base spare held fuel 48 [v] = some x) :
    ∃ L : List IrW, Fit 48 x.1 → IsWds w.heap.size w v L := by
  obtain ⟨a, cap, Q, hv, hl, hc, hn, hd, hs, hok⟩ := open_list (by decide) Tryd.underlying48 cellsWd18 (fun q : IrW × DataW H => wdCells q.1) Prod.snd (fun q => q.1.text.size ≤ maxLen) (fun h => open_word h) h
  refine ⟨Q.map Prod.fst, fun hf => ⟨a, cap, by rw [List.length_map]; exact hv, ⟨?_, fun e => ⟨by rw [(hn e).1]; rfl, (hn e).2⟩⟩, sl_map Prod.fst (fun _ => rfl) hs, fun y hy => ?_⟩⟩
  · rw [List.length_map]
    rcases hd with ⟨_, rfl⟩ | ⟨rest, e⟩
    · simp
    · rw [e] at hf
      have := (HF.sl Tryd.underlying48 (show Tryd.prog.bytesOf 52 = 40 by kernel_rfl) (by decide) hf).1.2
      rwa [List.length_map] at this
  · obtain ⟨q, hq, rfl⟩ := List.mem_map.1 hy
    exact hok q hq
def GlRd (Fit : TypeId → DataW H → Prop) (w : World) (q : (IrG × Value × Value) × DataW H) : Prop := Fit 50 q.2 → q.1.1.name.size ≤ maxLen ∧ IsByt w.heap.size w q.1.2.1 q.1.1.bytes ∧ IsWds w.heap.size w q.1.2.2 q.1.1.words
set_option maxRecDepth 100000 in
theorem open_gl (HF : Fits M Fit) {n : Nat} {cs : List Value} {D : DataW H} {pl : List MemPlace} (h : DataW.trod enc Tryd.prog w base spare held n 50 cs = some (D, pl)) :
    ∃ q : (IrG × Value × Value) × DataW H, cs = glCells q.1 ∧ D = q.2 ∧ GlRd Fit w q := by
  obtain ⟨xs, n', _, hx, hlen, hxs, hf⟩ := DataW.trod_struct Tryd.underlying50 h
  rw [cellsGl18] at hlen
  match cs, hlen with
  | [c0, c1, c2, c3], _ =>
    match xs, hxs with
    | [y0, y1, y2, y3], _ =>
      have f0 := hf 0 _ rfl
      have f1 := hf 1 _ rfl
      have f2 := hf 2 _ rfl
      have f3 := hf 3 _ rfl
      simp [cellsS18] at f0
      simp [cellsBs18] at f1
      simp [cellsI18] at f2
      simp [cellsWds18] at f3
      obtain ⟨a0, e0, r0, w0⟩ := DataW.trod_string Tryd.underlying9 f0
      obtain ⟨L1, hN1⟩ := open_byts HF f1
      obtain ⟨a2, e2, r2, w2⟩ := DataW.trod_int Tryd.underlying3 f2
      obtain ⟨L3, hN3⟩ := open_wds HF f3
      simp only [List.cons.injEq, and_true] at e0 e2
      subst e0 e2
      refine ⟨((⟨a0, L1, a2, L3⟩, c1, c3), D), rfl, rfl, fun hft => ?_⟩
      have hD := congrArg Prod.fst hx
      dsimp only at hD
      rw [hD] at hft
      exact ⟨w0, hN1 (HF.st Tryd.underlying50 hft 1 _ _ rfl rfl), hN3 (HF.st Tryd.underlying50 hft 3 _ _ rfl rfl)⟩
theorem open_gls (HF : Fits M Fit) {fuel : Nat} {v : Value} {x : DataW H × List MemPlace} (h : DataW.trod enc Tryd.prog w base spare held fuel 22 [v] = some x) :
    ∃ L : List IrG, Fit 22 x.1 → IsGls w.heap.size w v L := by
  obtain ⟨a, cap, Q, hv, hl, hc, hn, hd, hs, hok⟩ := open_list (by decide) Tryd.underlying22 cellsGl18 (fun q : (IrG × Value × Value) × DataW H => glCells q.1) Prod.snd (GlRd Fit w) (fun h => open_gl HF h) h
  refine ⟨Q.map fun q => q.1.1, fun hf => ?_⟩
  have hz : Q.length * 72 ≤ 140737488351232 ∧ ∀ q ∈ Q, Fit 50 q.2 := by
    rcases hd with ⟨_, rfl⟩ | ⟨rest, e⟩
    · exact ⟨by simp, fun q hq => by cases hq⟩
    · rw [e] at hf
      have := HF.sl Tryd.underlying22 (show Tryd.prog.bytesOf 50 = 72 by kernel_rfl) (by decide) hf
      rw [List.length_map] at this
      exact ⟨this.1.2, fun q hq => this.2 _ (List.mem_map_of_mem hq)⟩
  refine ⟨a, cap, Q.map Prod.fst, by rw [List.length_map]; exact hv, ⟨by rw [List.length_map]; exact hz.1, fun e => ⟨by rw [(hn e).1]; rfl, (hn e).2⟩⟩, by rw [List.map_map]; rfl, sl_map Prod.fst (fun _ => rfl) hs, fun q hq => ?_⟩
  obtain ⟨q', hq', rfl⟩ := List.mem_map.1 hq
  exact hok q' hq' (hz.2 q' hq')
theorem open_txs (HF : Fits M Fit) {fuel : Nat} {v : Value} {x : DataW H × List MemPlace} (h : DataW.trod enc Tryd.prog w base spare held fuel 23 [v] = some x) :
    ∃ L : List ByteArray, Fit 23 x.1 → IsTxs w.heap.size w v L := by
  obtain ⟨a, cap, L, hv, hl, hc, hn, hd, hs, hok⟩ := open_list (by decide) Tryd.underlying23 cellsS18 strCells1 (fun s : ByteArray => (.lit (.string s.data.toList) : DataW H)) (fun _ => True) (fun h => by
    obtain ⟨s, e, r, _⟩ := DataW.trod_string Tryd.underlying9 h
    exact ⟨s, e, congrArg Prod.fst r, trivial⟩) h
  refine ⟨L, fun hf => ⟨a, cap, hv, ⟨?_, fun e => ⟨by rw [(hn e).1]; rfl, (hn e).2⟩⟩, hs⟩⟩
  rcases hd with ⟨_, rfl⟩ | ⟨rest, e⟩
  · simp
  · rw [e] at hf
    have := (HF.sl Tryd.underlying23 (show Tryd.prog.bytesOf 9 = 16 by kernel_rfl) (by decide) hf).1.2
    rwa [List.length_map] at this
theorem open_fns (HF : Fits M Fit) {fuel : Nat} {v : Value} {x : DataW H × List MemPlace} (h : DataW.trod enc Tryd.prog w base spare held fuel 24 [v] = some x) :
    ∃ L : List IrF, (∀ a n c, v = .slice a n c → L.length ≤ c) ∧ (Fit 24 x.1 → IsFns w.heap.size w v L) := by
  obtain ⟨a, cap, Q, hv, hl, hc, hn, hd, hs, hok⟩ := open_list (by decide) Tryd.underlying24 cellsFn18 (fun q : (IrF × Value × Value) × DataW H => fn5Cells q.1) Prod.snd (FnRd M Fit w) (fun h => open_fn HF h) h
  refine ⟨Q.map fun q => q.1.1, fun a' n c e => by rw [hv] at e; cases e; rw [List.length_map]; exact hl, fun hf => ?_⟩
  have hz : Q.length * 80 ≤ 140737488351232 ∧ ∀ q ∈ Q, Fit 35 q.2 := by
    rcases hd with ⟨_, rfl⟩ | ⟨rest, e⟩
    · exact ⟨by simp, fun q hq => by cases hq⟩
    · rw [e] at hf
      have := HF.sl Tryd.underlying24 (show Tryd.prog.bytesOf 35 = 80 by kernel_rfl) (by decide) hf
      rw [List.length_map] at this
      exact ⟨this.1.2, fun q hq => this.2 _ (List.mem_map_of_mem hq)⟩
  refine ⟨a, cap, Q.map Prod.fst, by rw [List.length_map]; exact hv, ⟨by rw [List.length_map]; exact hz.1, fun e => ⟨by rw [(hn e).1]; rfl, (hn e).2⟩⟩, by rw [List.map_map]; rfl, sl_map Prod.fst (fun _ => rfl) hs, fun q hq => ?_⟩
  obtain ⟨q', hq', rfl⟩ := List.mem_map.1 hq
  exact ((hok q' hq').2 (hz.2 q' hq')).2
set_option maxRecDepth 100000 in
theorem open_ir (HF : Fits M Fit) {n : Nat} {cs : List Value} {D : DataW H} {pl : List MemPlace} (h : DataW.trod enc Tryd.prog w base spare held n 26 cs = some (D, pl)) (hft : Fit 26 D) :
    ∃ (x : IrP) (gv sv fv : Value), cs = [gv, sv, fv] ∧ IsPr w.heap.size w x gv sv fv ∧ ∀ a n c, fv = .slice a n c → x.funcs.length ≤ c := by
  obtain ⟨xs, n', _, hx, hlen, hxs, hf⟩ := DataW.trod_struct Tryd.underlying26 h
  rw [cellsIr18] at hlen
  match cs, hlen with
  | [c0, c1, c2], _ =>
    match xs, hxs with
    | [y0, y1, y2], _ =>
      have f0 := hf 0 _ rfl
      have f1 := hf 1 _ rfl
      have f2 := hf 2 _ rfl
      simp [cellsGls18] at f0
      simp [cellsTxs18] at f1
      simp [cellsFns18] at f2
      obtain ⟨L0, hN0⟩ := open_gls HF f0
      obtain ⟨L1, hN1⟩ := open_txs HF f1
      obtain ⟨L2, hc2, hN2⟩ := open_fns HF f2
      have hD := congrArg Prod.fst hx
      dsimp only at hD
      rw [hD] at hft
      exact ⟨⟨L0, L1, L2⟩, c0, c1, c2, rfl, ⟨hN0 (HF.st Tryd.underlying26 hft 0 _ _ rfl rfl), hN1 (HF.st Tryd.underlying26 hft 1 _ _ rfl rfl), hN2 (HF.st Tryd.underlying26 hft 2 _ _ rfl rfl)⟩, hc2⟩
theorem weightsAll_mem18 {e : TypeId} {l : List (DataW H)} {d : DataW H} (h : d ∈ l) {n : Nat} (hn : n ∈ d.weights Tryd.prog e) : n ∈ DataW.weightsAll Tryd.prog e l := by
  induction l with
  | nil => cases h
  | cons x r ih =>
    rw [DataW.weightsAll]
    rcases List.mem_cons.1 h with rfl | h
    · exact List.mem_append_left _ hn
    · exact List.mem_append_right _ (ih h)
theorem weights_fits : Fits (H := H) 140737488351232 (fun t d => ∀ n ∈ d.weights Tryd.prog t, n ≤ 140737488351232) := by
  refine ⟨fun {t e k l rest} ht hk hb h => ?_, fun {t fs l} ht h j f d hf hd n hn => ?_, fun {t s} h => ?_⟩
  · rw [DataW.weights, ht] at h
    have h0 := h _ List.mem_cons_self
    rw [hk] at h0
    have h1 : l.length * k ≤ (l.length + rest.length) * k := Nat.mul_le_mul_right k (Nat.le_add_right _ _)
    have h2 : l.length * 1 ≤ l.length * k := Nat.mul_le_mul_left _ hb.1
    exact ⟨⟨by omega, by omega⟩, fun d hd n hn => h n (List.mem_cons_of_mem _ (List.mem_append_left _ (weightsAll_mem18 hd hn)))⟩
  · rw [DataW.weights, ht] at h
    refine h n (DataW.weights_mem_each (j := j) (t := f.type) (d := d) ?_ hd n hn)
    rw [List.getElem?_map, Array.getElem?_toList, hf]
    rfl
  · rw [DataW.weights] at h
    exact h _ List.mem_cons_self
end
end Go.Proofs.YtlomdlblohnfmaaDoor
