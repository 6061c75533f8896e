/- A program copied. -/
import Derived.Test.YtlomdlblohnfmaaDoorIrCopyG
import Derived.Shelf.RegionOpen
namespace Go.Proofs.YtlomdlblohnfmaaDoor
open Go.RowKit

theorem gl_bytes {w6 : World} {B : Nat} {v' : Value} {g : IrG} (hz : SlOk 1 (some (⟨0, 0, none⟩ : Addr)) g.bytes.length 0) (hown : w6.ownsRow B 5 1 v' g.bytes.length (g.bytes.flatMap byteCells1)) :
    ∃ a cap, v' = .slice a g.bytes.length cap ∧ g.bytes.length ≤ cap ∧ SlOk 1 a g.bytes.length cap ∧ IsSlP 1 byteCells1 (fun b => v'.ownBlock = some b ∧ B ≤ b ∧ b < w6.heap.size) w6 a g.bytes := by
  obtain ⟨a, cap, e, hs, ha⟩ := own_slP bytes18_len hown rfl
  exact ⟨a, cap, e, row_cap hown a _ cap e, ⟨hz.1, fun e => ⟨by rw [(ha e).1]; rfl, (ha e).2⟩⟩, hs⟩
/-- an element put behind a row that a box holds in its first or third cell -/
theorem box_step {α : Type} {T : TypeId} {k : Nat} {cells : α → List Value} {Ok : (Nat → Prop) → World → α → Prop} (hk : KeepOk Ok) {w3 wx w11 : World} {o : Obj} {r3 : Nat} {v0 vs vf : Value} {i g cap : Nat} {Qn : List α} {q : α}
    (hR : RowOf T k cells Ok (r3 + 1) wx v0 Qn) (hq : Ok (OffB (r3 + 1) wx v0) wx q) (hi : Qn.length = i) (hX : wx.heap[r3]? = some (.cells #[v0, vs, vf] 26 (0, 0))) (hG : w3.grownBy wx (some r3)) (_hz : r3 + 1 ≤ w3.heap.size)
    (hown : w11.ownsRow (r3 + 1) T k (.slice (some ⟨g, 0, none⟩) (i + 1) cap) (i + 1) (Qn.flatMap cells ++ cells q)) (hgr : (wx.alloc o).grownBy w11 v0.ownBlock) (hg : v0.ownBlock = some g ∨ g = wx.heap.size + 1) (hfar : ∀ b, v0.ownBlock = some b → w3.heap.size ≤ b) :
    (w11.cell? ⟨r3, 0, none⟩ = some v0 ∧ w11.frozen? ⟨r3, 0, none⟩ = false) ∧ RowOf T k cells Ok (r3 + 1) (w11.setCell ⟨r3, 0, none⟩ (.slice (some ⟨g, 0, none⟩) (i + 1) cap)) (.slice (some ⟨g, 0, none⟩) (i + 1) cap) (Qn ++ [q]) ∧
      (w11.setCell ⟨r3, 0, none⟩ (.slice (some ⟨g, 0, none⟩) (i + 1) cap)).heap[r3]? = some (.cells #[.slice (some ⟨g, 0, none⟩) (i + 1) cap, vs, vf] 26 (0, 0)) ∧
      w3.grownBy (w11.setCell ⟨r3, 0, none⟩ (.slice (some ⟨g, 0, none⟩) (i + 1) cap)) (some r3) := by
  have ga := World.grownBy_alloc wx o none
  have hR10 := hR.kept hk ga (by simp)
  have hq10 := hk _ _ _ _ _ hq (keep_off ga (by simp))
  have hrow := hR10.step hk hq10 hi hown hgr (by rcases hg with h | h; exact .inl h; exact .inr (by rw [h]; simp))
  have hlt : r3 < (wx.alloc o).heap.size := by have := lt_of_heap hX; simp; omega
  have hne : some r3 ≠ v0.ownBlock := fun e => by have := (hR.1.lt _ e.symm).1; omega
  have hX11 : w11.heap[r3]? = some (.cells #[v0, vs, vf] 26 (0, 0)) := (hgr.block _ hlt hne).trans (((ba18 wx o).block _ (lt_of_heap hX)).trans hX)
  have hg11 : w3.grownBy w11 (some r3) := by
    have h1 := hG.trans (World.grownBy_alloc wx o (some r3))
    exact ⟨hgr.os.trans h1.os, hgr.tape.trans h1.tape, hgr.output.trans h1.output, Nat.le_trans h1.size hgr.size, fun b hb hn => (hgr.block b (Nat.lt_of_lt_of_le hb h1.size) (fun e => by have := hfar b e.symm; omega)).trans (h1.block b hb hn)⟩
  exact ⟨⟨by simp [World.cell?, hX11], by simp [World.frozen?, hX11]⟩, hrow.kept hk (grn_set _ _ _ _) (fun r e => by cases e; exact Nat.lt_succ_self _), heap_setCell_same _ _ 0 _ _ _ hX11, hg11.trans (grn_set _ _ _ _)⟩
theorem box_step2 {wS wx w11 : World} {o : Obj} {r3 : Nat} {v0 vs v2 : Value} {i g cap : Nat} {Qn : List (IrF × Value × Value)} {q : IrF × Value × Value}
    (hR : FnsRow wS.heap.size wx v2 Qn) (hq : FnP (OffB wS.heap.size wx v2) wx q.1 q.2.1 q.2.2) (hi : Qn.length = i) (hX : wx.heap[r3]? = some (.cells #[v0, vs, v2] 26 (0, 0))) (hG : wS.grownBy wx (some r3)) (hz : r3 < wS.heap.size)
    (hown : w11.ownsRow wS.heap.size 35 5 (.slice (some ⟨g, 0, none⟩) (i + 1) cap) (i + 1) (Qn.flatMap fnCells ++ fnCells q)) (hgr : (wx.alloc o).grownBy w11 v2.ownBlock) (hg : v2.ownBlock = some g ∨ g = wx.heap.size + 1) :
    (w11.cell? ⟨r3, 2, none⟩ = some v2 ∧ w11.frozen? ⟨r3, 2, none⟩ = false) ∧ FnsRow wS.heap.size (w11.setCell ⟨r3, 2, none⟩ (.slice (some ⟨g, 0, none⟩) (i + 1) cap)) (.slice (some ⟨g, 0, none⟩) (i + 1) cap) (Qn ++ [q]) ∧
      (w11.setCell ⟨r3, 2, none⟩ (.slice (some ⟨g, 0, none⟩) (i + 1) cap)).heap[r3]? = some (.cells #[v0, vs, .slice (some ⟨g, 0, none⟩) (i + 1) cap] 26 (0, 0)) ∧
      wS.grownBy (w11.setCell ⟨r3, 2, none⟩ (.slice (some ⟨g, 0, none⟩) (i + 1) cap)) (some r3) := by
  have ga := World.grownBy_alloc wx o none
  have hR10 := hR.kept fnP_keep ga (by simp)
  have hq10 := hq.keep (keep_off ga (by simp))
  have hrow := hR10.step fnP_keep hq10 hi hown hgr (by rcases hg with h | h; exact .inl h; exact .inr (by rw [h]; simp))
  have hlt : r3 < (wx.alloc o).heap.size := by have := lt_of_heap hX; simp; omega
  have hne : some r3 ≠ v2.ownBlock := fun e => by have := (hR.1.lt _ e.symm).1; omega
  have hX11 : w11.heap[r3]? = some (.cells #[v0, vs, v2] 26 (0, 0)) := (hgr.block _ hlt hne).trans (((ba18 wx o).block _ (lt_of_heap hX)).trans hX)
  have hg11 : wS.grownBy w11 (some r3) := by
    have h1 := hG.trans (World.grownBy_alloc wx o (some r3))
    exact ⟨hgr.os.trans h1.os, hgr.tape.trans h1.tape, hgr.output.trans h1.output, Nat.le_trans h1.size hgr.size, fun b hb hn => (hgr.block b (Nat.lt_of_lt_of_le hb h1.size) (fun e => by have := (hR.1.lt _ e.symm).1; omega)).trans (h1.block b hb hn)⟩
  exact ⟨⟨by simp [World.cell?, hX11], by simp [World.frozen?, hX11]⟩, hrow.kept fnP_keep (grn_set _ _ _ _) (fun r e => by cases e; exact hz), heap_setCell_same _ _ 2 _ _ _ hX11, hg11.trans (grn_set _ _ _ _)⟩
/-- a function's copy put behind, where it was made out of a world w that holds the row -/
theorem fns_after {wS wr w6 w11 : World} {o : Obj} {r3 : Nat} {v0 vs v2 : Value} {i g cap : Nat} {Qn : List (IrF × Value × Value)} {fn : IrF} {u1 u2 : Value}
    (hR : FnsRow wS.heap.size wr v2 Qn) (hq : FnP (NewB wr.heap.size w6) w6 fn u1 u2) (hi : Qn.length = i) (hX : wr.heap[r3]? = some (.cells #[v0, vs, v2] 26 (0, 0))) (hG : wS.grownBy wr (some r3)) (hz : r3 < wS.heap.size) (hb6 : Below wr.heap.size wr w6)
    (hown : w11.ownsRow wS.heap.size 35 5 (.slice (some ⟨g, 0, none⟩) (i + 1) cap) (i + 1) (Qn.flatMap fnCells ++ fnCells (fn, u1, u2))) (hgr : (w6.alloc o).grownBy w11 v2.ownBlock) (hg : v2.ownBlock = some g ∨ g = w6.heap.size + 1) :
    (w11.cell? ⟨r3, 2, none⟩ = some v2 ∧ w11.frozen? ⟨r3, 2, none⟩ = false) ∧ FnsRow wS.heap.size (w11.setCell ⟨r3, 2, none⟩ (.slice (some ⟨g, 0, none⟩) (i + 1) cap)) (.slice (some ⟨g, 0, none⟩) (i + 1) cap) (Qn ++ [(fn, u1, u2)]) ∧
      (w11.setCell ⟨r3, 2, none⟩ (.slice (some ⟨g, 0, none⟩) (i + 1) cap)).heap[r3]? = some (.cells #[v0, vs, .slice (some ⟨g, 0, none⟩) (i + 1) cap] 26 (0, 0)) ∧
      wS.grownBy (w11.setCell ⟨r3, 2, none⟩ (.slice (some ⟨g, 0, none⟩) (i + 1) cap)) (some r3) := by
  have hzw := hG.size
  refine box_step2 (hR.kept fnP_keep (grn_blw none hb6) (by simp)) (hq.keep (fun b ⟨h1, h2⟩ => ⟨rfl, by omega, h2, fun e => by have := (hR.1.lt b e).2; omega⟩)) hi ((hb6.block _ (lt_of_heap hX)).trans hX) (hG.trans (grn_blw (some r3) hb6)) hz hown hgr hg
theorem three_set18 {W : World} {b : Nat} {a0 a1 a2 v0 v1 v2 : Value} {T : TypeId} (h : W.heap[b]? = some (.cells #[a0, a1, a2] T (0, 0))) :
    (((W.setCell ⟨b, 0, none⟩ v0).setCell ⟨b, 1, none⟩ v1).setCell ⟨b, 2, none⟩ v2).heap[b]? = some (.cells #[v0, v1, v2] T (0, 0)) := by
  have h0 := heap_setCell_same W b 0 _ _ v0 h
  have h1 := heap_setCell_same _ b 1 _ _ v1 h0
  exact heap_setCell_same _ b 2 _ _ v2 h1
theorem ci_end {w w1 w2 w3 wS wr : World} {x : IrP} {r3 n c2 : Nat} {v0 v2 : Value} {a2 : Option Addr} {Qn : List (IrG × Value × Value)} {Qm : List (IrF × Value × Value)} (hB : Below w.heap.size w wr) (hX1 : wr.heap[w.heap.size + 1]? = some (.cells #[.slice none 0 0, .slice none 0 0, .slice none 0 0] 26 (0, 0))) (hr : w.heap.size + 2 ≤ r3)
    (hG : GlsRow (r3 + 1) wr v0 Qn) (hQn : Qn.map Prod.fst = x.globals.take n) (hn : x.globals.length ≤ n ∧ Qn.length ≤ 4096)
    (hS : ∃ a cap, Value.slice a2 x.strings.length c2 = .slice a x.strings.length cap ∧ IsSlP 1 strCells1 (fun b => (Value.slice a2 x.strings.length c2).ownBlock = some b ∧ w1.heap.size ≤ b ∧ b < r3) w2 a x.strings ∧ (a = none → x.strings = [] ∧ cap = 0)) (hw1 : w.heap.size + 2 ≤ w1.heap.size) (hr3w : r3 ≤ w3.heap.size)
    (hb3 : Below r3 w2 w3) (hg3 : w3.grownBy wr (some r3)) {ca : Nat} {aa : Option Addr} (hso : SlOk 16 aa x.strings.length ca) (hF : FnsRow wS.heap.size wr v2 Qm) (hrS : r3 < wS.heap.size) {m : Nat} (hQm : Qm.map Prod.fst = x.funcs.take m) (hm : x.funcs.length ≤ m ∧ Qm.length ≤ 4096) :
    (((wr.setCell ⟨w.heap.size + 1, 0, none⟩ v0).setCell ⟨w.heap.size + 1, 1, none⟩ (.slice a2 x.strings.length c2)).setCell ⟨w.heap.size + 1, 2, none⟩ v2).heap[w.heap.size + 1]? = some (.cells #[v0, .slice a2 x.strings.length c2, v2] 26 (0, 0)) ∧
    IsPr (((wr.setCell ⟨w.heap.size + 1, 0, none⟩ v0).setCell ⟨w.heap.size + 1, 1, none⟩ (.slice a2 x.strings.length c2)).setCell ⟨w.heap.size + 1, 2, none⟩ v2).heap.size (((wr.setCell ⟨w.heap.size + 1, 0, none⟩ v0).setCell ⟨w.heap.size + 1, 1, none⟩ (.slice a2 x.strings.length c2)).setCell ⟨w.heap.size + 1, 2, none⟩ v2) x v0 (.slice a2 x.strings.length c2) v2 ∧
    Below w.heap.size w (((wr.setCell ⟨w.heap.size + 1, 0, none⟩ v0).setCell ⟨w.heap.size + 1, 1, none⟩ (.slice a2 x.strings.length c2)).setCell ⟨w.heap.size + 1, 2, none⟩ v2) := by
  have hg : wr.grownBy (((wr.setCell ⟨w.heap.size + 1, 0, none⟩ v0).setCell ⟨w.heap.size + 1, 1, none⟩ (.slice a2 x.strings.length c2)).setCell ⟨w.heap.size + 1, 2, none⟩ v2) (some (w.heap.size + 1)) := ((grn_set _ _ _ _).trans (grn_set _ _ _ _)).trans (grn_set _ _ _ _)
  have h1 := three_set18 (v0 := v0) (v1 := .slice a2 x.strings.length c2) (v2 := v2) hX1
  have hb := ((hB.setCell (p := ⟨w.heap.size + 1, 0, none⟩) (Nat.le_succ _) v0).setCell (p := ⟨w.heap.size + 1, 1, none⟩) (Nat.le_succ _) (.slice a2 x.strings.length c2)).setCell (p := ⟨w.heap.size + 1, 2, none⟩) (Nat.le_succ _) v2
  refine ⟨h1, ?_, hb⟩
  generalize World.setCell _ _ _ = W at *
  have g1 := GlsRow.is (hG.kept glP_keep hg (fun r e => by cases e; omega)) hn.2
  rw [hQn, List.take_of_length_le hn.1] at g1
  have f1 := FnsRow.is (hF.kept fnP_keep hg (fun r e => by cases e; omega)) hm.2
  rw [hQm, List.take_of_length_le hm.1] at f1
  obtain ⟨a, cap, e, hs, ha⟩ := hS
  refine ⟨g1, ⟨a, cap, e, ⟨hso.1, fun e => ⟨by rw [(ha e).1]; rfl, (ha e).2⟩⟩, ?_⟩, f1⟩
  refine (hs.keep (P' := fun b => b < W.heap.size) (fun b hb2 => ?_)).sl (fun b h => h)
  obtain ⟨_, b1, b2⟩ := hb2
  have s4 := hg3.size
  have s5 := hg.size
  refine ⟨?_, by omega⟩
  rw [hg.block b (by omega) (fun e => by have := Option.some.inj e; omega), hg3.block b (by omega) (fun e => by have := Option.some.inj e; omega), hb3.block b b2]
/-- a global's box, its bytes copied -/
theorem gl_step {wr w5 w6 : World} {gl : IrG} {a6 : Option Addr} {c6 : Nat} {vb vw : Value} (hX : w6.heap[wr.heap.size]? = some (.cells #[.string gl.name, vb, .int .i64 gl.align, vw] 50 (0, 0))) (hb5 : Below wr.heap.size wr w5) (hz5 : wr.heap.size + 1 ≤ w5.heap.size) (hb6 : Below w5.heap.size w5 w6)
    (hs : IsSlP 1 byteCells1 (fun b => (Value.slice a6 gl.bytes.length c6).ownBlock = some b ∧ w5.heap.size ≤ b ∧ b < w6.heap.size) w6 a6 gl.bytes) :
    (w6.setCell ⟨wr.heap.size, 1, none⟩ (.slice a6 gl.bytes.length c6)).heap[wr.heap.size]? = some (.cells #[.string gl.name, .slice a6 gl.bytes.length c6, .int .i64 gl.align, vw] 50 (0, 0)) ∧ Below wr.heap.size wr (w6.setCell ⟨wr.heap.size, 1, none⟩ (.slice a6 gl.bytes.length c6)) ∧
    IsSlP 1 byteCells1 (fun b => w5.heap.size ≤ b ∧ b < (w6.setCell ⟨wr.heap.size, 1, none⟩ (.slice a6 gl.bytes.length c6)).heap.size) (w6.setCell ⟨wr.heap.size, 1, none⟩ (.slice a6 gl.bytes.length c6)) a6 gl.bytes := by
  have hst := grn_set w6 wr.heap.size 1 (.slice a6 gl.bytes.length c6)
  refine ⟨heap_setCell_same _ _ 1 _ _ _ hX, (hb5.trans (hb6.mono hb5.size)).setCell (Nat.le_refl _) _, hs.keep (fun b hb => ?_)⟩
  obtain ⟨_, h1, h2⟩ := hb
  exact ⟨hst.block b h2 (fun e => by have := Option.some.inj e; omega), h1, by simpa using h2⟩
/-- its words copied -/
theorem gl_step2 {wr w5 w7 w8 : World} {B : Nat} {v0 : Value} {gl : IrG} {a6 : Option Addr} {c6 : Nat} {v8 vw : Value} (hnm : gl.name.size ≤ maxLen) (hbc : gl.bytes.length ≤ c6) (hob : SlOk 1 a6 gl.bytes.length c6) (hzw : gl.words.length * 40 ≤ 140737488351232) (htw : ∀ x ∈ gl.words, x.text.size ≤ maxLen)
    (hX : w7.heap[wr.heap.size]? = some (.cells #[.string gl.name, .slice a6 gl.bytes.length c6, .int .i64 gl.align, vw] 50 (0, 0))) (hb7 : Below wr.heap.size wr w7) (hz5 : wr.heap.size + 1 ≤ w5.heap.size) (hz57 : w5.heap.size ≤ w7.heap.size)
    (hs : IsSlP 1 byteCells1 (fun b => w5.heap.size ≤ b ∧ b < w7.heap.size) w7 a6 gl.bytes) (hb8 : Below w7.heap.size w7 w8) (hown : w8.ownsRow w7.heap.size 52 4 v8 gl.words.length (gl.words.flatMap wdCells)) (hv0 : ∀ k, v0.ownBlock = some k → k < wr.heap.size) (hB : B ≤ wr.heap.size) :
    (w8.cell? ⟨wr.heap.size, 3, none⟩ = some vw ∧ w8.frozen? ⟨wr.heap.size, 3, none⟩ = false) ∧ (w8.setCell ⟨wr.heap.size, 3, none⟩ v8).heap[wr.heap.size]? = some (.cells #[.string gl.name, .slice a6 gl.bytes.length c6, .int .i64 gl.align, v8] 50 (0, 0)) ∧
    GlP (OffB B (w8.setCell ⟨wr.heap.size, 3, none⟩ v8) v0) (w8.setCell ⟨wr.heap.size, 3, none⟩ v8) (gl, .slice a6 gl.bytes.length c6, v8) ∧ Below wr.heap.size wr (w8.setCell ⟨wr.heap.size, 3, none⟩ v8) := by
  have hst := grn_set w8 wr.heap.size 3 v8
  have hX8 := (hb8.block _ (lt_of_heap hX)).trans hX
  obtain ⟨a, cap, e, hsw, ha⟩ := own_slP wd_len hown rfl
  have hz8 := hb8.size
  refine ⟨⟨by simp [World.cell?, hX8], by simp [World.frozen?, hX8]⟩, heap_setCell_same _ _ 3 _ _ _ hX8, ⟨hnm, ⟨a6, c6, rfl, hbc, hob, hs.keep (fun b hb => ?_)⟩, ⟨a, cap, e, ⟨hzw, fun e => ⟨by rw [(ha e).1]; rfl, (ha e).2⟩⟩, hsw.keep (fun b hb => ?_), htw⟩⟩, (hb7.trans (hb8.mono hb7.size)).setCell (Nat.le_refl _) _⟩
  · obtain ⟨h1, h2⟩ := hb
    exact ⟨(hst.block b (by omega) (fun e => by have := Option.some.inj e; omega)).trans (hb8.block b h2), by omega, by simp; omega, fun e => by have := hv0 b e; omega⟩
  · obtain ⟨_, h1, h2⟩ := hb
    exact ⟨hst.block b h2 (fun e => by have := Option.some.inj e; omega), by omega, by simpa using h2, fun e => by have := hv0 b e; omega⟩
set_option maxRecDepth 100000 in
set_option maxHeartbeats 16000000 in
theorem copyIr_ok (x : IrP) (gv sv fv : Value) (w : World) (hP : IsPr w.heap.size w x gv sv fv) (hg : x.globals.length ≤ 4096) (hf : x.funcs.length ≤ 4096) (hfb : ∀ f ∈ x.funcs, f.blocks.length ≤ 4096 ∧ ∀ b ∈ f.blocks, b.ops.length ≤ 4096) :
    Calls Tryd.prog 11 #[.agg #[gv, sv, fv]] w fun e w' => (∃ gv' sv' fv', e = .returned (.agg #[gv', sv', fv']) ∧ IsPr w'.heap.size w' x gv' sv' fv' ∧ ∀ a n c, fv' = .slice a n c → x.funcs.length ≤ c) ∧ Below w.heap.size w w' := by
  obtain ⟨i0, hi, hz0, hz1, hz2⟩ := info_parts (show (Tryd.prog.info? 52).map (fun i => (i.zero, i.size, i.bytes)) = some (some (.agg #[.int .i64 0, .int .i64 0, .int .i64 0, .string ⟨#[]⟩]), 4, 40) by kernel_rfl)
  have HI0 := Lib.hid (And.intro hi (And.intro hz0 (And.intro hz1 hz2)))
  clear hi hz0 hz1 hz2
  obtain ⟨i1, hi, hz0, hz1, hz2⟩ := info_parts (show (Tryd.prog.info? 50).map (fun i => (i.zero, i.size, i.bytes)) = some (some (.agg #[.string ⟨#[]⟩, .slice none 0 0, .int .i64 0, .slice none 0 0]), 4, 72) by kernel_rfl)
  have HI1 := Lib.hid (And.intro hi (And.intro hz0 (And.intro hz1 hz2)))
  clear hi hz0 hz1 hz2
  obtain ⟨i2, hi, hz0, hz1, hz2⟩ := info_parts (show (Tryd.prog.info? 35).map (fun i => (i.zero, i.size, i.bytes)) = some (some (.agg #[.string ⟨#[]⟩, .int .i64 0, .int .i64 0, .slice none 0 0, .slice none 0 0]), 5, 80) by kernel_rfl)
  have HI2 := Lib.hid (And.intro hi (And.intro hz0 (And.intro hz1 hz2)))
  clear hi hz0 hz1 hz2
  obtain ⟨⟨ag, cg, Qg, rfl, hog, hQg, hsg, hqg⟩, ⟨as1, cs, rfl, hos, hss⟩, ⟨af, cf, Qf, rfl, hof, hQf, hsf, hqf⟩⟩ := hP
  have hQl : Qg.length = x.globals.length := by rw [← hQg, List.length_map]
  have hFl : Qf.length = x.funcs.length := by rw [← hQf, List.length_map]
  have hgl : (x.globals.length : Int) ≤ 4096 := by omega
  have hfl : (x.funcs.length : Int) ≤ 4096 := by omega
  have hx0 := ir_new1 w (.cells #[.slice ag x.globals.length cg, .slice as1 x.strings.length cs, .slice af x.funcs.length cf] 26) (.cells #[.slice none 0 0, .slice none 0 0, .slice none 0 0] 26)
  obtain ⟨hx1, hba⟩ := two_new w (.cells #[.slice ag x.globals.length cg, .slice as1 x.strings.length cs, .slice af x.funcs.length cf] 26) (.cells #[.slice none 0 0, .slice none 0 0, .slice none 0 0] 26)
  have hz0 := Nat.le_of_eq (show w.heap.size + 2 = ((w.alloc (.cells #[.slice ag x.globals.length cg, .slice as1 x.strings.length cs, .slice af x.funcs.length cf] 26)).alloc (.cells #[.slice none 0 0, .slice none 0 0, .slice none 0 0] 26)).heap.size by simp)
  have HGs := Lib.hid hsg
  have HGq := Lib.hid hqg
  have HFs := Lib.hid hsf
  have HFq := Lib.hid hqf
  have HQg := Lib.hid hQg
  have HQf := Lib.hid hQf
  have HQl := Lib.hid hQl
  have HFl := Lib.hid hFl
  have HSs := Lib.hid hss
  have HSo := Lib.hid hos
  have HFb := Lib.hid hfb
  clear hsg hqg hsf hqf hQg hQf hss hos hog hof hfb hQl hFl
  go_enter Tryd.func11, Tryd.ntmps11
  go_upto_region 1 with fail
  generalize World.alloc _ (.cells #[.slice none 0 0, .slice none 0 0, .slice none 0 0] _) = w1 at *
  have HX0 := Lib.hid hx0
  have HX1 := Lib.hid hx1
  have HB1 := Lib.hid hba
  obtain ⟨⟨d0, d1, d2⟩, _⟩ := three18 hx0
  have HTx := Lib.hid (copyTexts_ok as1 cs x.strings w1 ((HSs.out.below HB1.out (Nat.le_refl _)).mono HB1.out.size) HSo.out.1 (fun e => ⟨List.eq_nil_of_length_eq_zero (HSo.out.2 e).1, (HSo.out.2 e).2⟩))
  clear hx0 hx1 hba
  go_upto_region 2 with (go_at_call 24; (with_reducible refine HTx.out.mono ?_); rintro e w2 ⟨⟨v2, rfl, hown2⟩, hb2⟩; have hsl := own_slP texts18_len hown2 rfl; have HSl := Lib.hid hsl; obtain ⟨a2, c2, rfl, _⟩ := hsl; have HB2 := Lib.hid hb2; clear hown2 hb2)
  clear d0 d1 d2
  have hx3 := heap_alloc_new w2 (.cells #[.slice none 0 0, .slice a2 x.strings.length c2, .slice none 0 0] 26)
  have hb3 := ba18 w2 (.cells #[.slice none 0 0, .slice a2 x.strings.length c2, .slice none 0 0] 26)
  have hz3 := Nat.le_of_eq (show w2.heap.size + 1 = (w2.alloc (.cells #[.slice none 0 0, .slice a2 x.strings.length c2, .slice none 0 0] 26)).heap.size by simp)
  have hz3b : (w2.alloc (.cells #[.slice none 0 0, .slice a2 x.strings.length c2, .slice none 0 0] 26)).heap.size ≤ w2.heap.size + 1 := by simp
  generalize hr3 : w2.heap.size = r3 at *
  generalize World.alloc w2 _ = w3 at *
  have HX3 := Lib.hid hx3
  have HB3 := Lib.hid hb3
  have hz2 : w1.heap.size ≤ r3 := by rw [← hr3]; exact HB2.out.size
  clear hx3 hb3
  have HXx := Lib.hid (show ∀ wy, w3.grownBy wy (some r3) → (wy.heap[w.heap.size]? = some (.cells #[.slice ag x.globals.length cg, .slice as1 x.strings.length cs, .slice af x.funcs.length cf] 26 (0, 0)) ∧ wy.heap[w.heap.size + 1]? = some (.cells #[.slice none 0 0, .slice none 0 0, .slice none 0 0] 26 (0, 0)) ∧ Below w.heap.size w wy) from fun wy hg => by
    have hb23 : Below w1.heap.size w1 w3 := HB2.out.trans (HB3.out.mono hz2)
    have h1 : ∀ k, k < w1.heap.size → wy.heap[k]? = w1.heap[k]? := fun k hk => by
      rw [hg.block k (by omega) (fun e => by have := Option.some.inj e; omega)]
      exact hb23.block k hk
    refine ⟨(h1 _ (by omega)).trans HX0.out, (h1 _ (by omega)).trans HX1.out, ?_⟩
    exact (HB1.out.trans (hb23.mono HB1.out.size)).grown hg (by omega) (fun k e => by cases e; omega))
  go_wp2_with fail
  go_loopg [4] x.globals.length (fun g v4 wy => ∃ (i : Nat) (Qn : List (IrG × Value × Value)) (v0 : Value), i ≤ x.globals.length ∧ i + g = x.globals.length ∧ v4 = .int .i64 (i : Int) ∧ Qn.length = i ∧ Hid (Qn.map Prod.fst = x.globals.take i) ∧ Hid (GlsRow (r3 + 1) wy v0 Qn) ∧ (∃ a c, v0 = .slice a i c) ∧
    Hid (wy.heap[r3]? = some (.cells #[v0, .slice a2 x.strings.length c2, .slice none 0 0] 26 (0, 0))) ∧ Hid (w3.grownBy wy (some r3)))
  case atStart => exact ⟨0, [], _, by omega, by omega, rfl, rfl, Lib.hid rfl, Lib.hid (rowOf_nil _ _), ⟨_, _, rfl⟩, HX3, Lib.hid (World.grownBy.refl _ _)⟩
  case round =>
    obtain ⟨i, Qn, v0, hi, hig, rfl, hqn, HQn, HRow, ⟨a0, c0, hv0⟩, HXr, HG⟩ := hrel
    subst hv0
    obtain ⟨X0, X1, XB⟩ := HXx.out _ HG.out
    have HXB := Lib.hid XB
    obtain ⟨⟨d0, d1, d2⟩, _⟩ := three18 X0
    clear X0 X1 XB
    by_cases hlt : i < x.globals.length
    · have hlq : i < Qg.length := by rw [HQl.out]; exact hlt
      obtain ⟨bb, off, ha, hbl2, hrow⟩ := HGs.out (fun e => by rw [e] at hlq; simp at hlq)
      subst ha
      have hqb := Lib.hid (show Qg[i].1 = x.globals[i] by
        have h1 : (Qg.map Prod.fst)[i]? = x.globals[i]? := by rw [HQg.out]
        rw [List.getElem?_map, List.getElem?_eq_getElem hlq, List.getElem?_eq_getElem hlt] at h1
        exact Option.some.inj h1)
      have e0 := hrow i _ (List.getElem?_eq_getElem hlq) 0 _ rfl
      have e1 := hrow i _ (List.getElem?_eq_getElem hlq) 1 _ rfl
      have e2 := hrow i _ (List.getElem?_eq_getElem hlq) 2 _ rfl
      have e3 := hrow i _ (List.getElem?_eq_getElem hlq) 3 _ rfl
      rw [← HXB.out.cell hbl2] at e0 e1 e2 e3
      simp only [Nat.add_zero] at e0
      have hgq := HGq.out _ (List.getElem_mem hlq)
      have HTk := Lib.hid (List.take_succ_eq_append_getElem hlt)
      rw [← hqb.out] at HTk
      have hil : (i : Int) < (x.globals.length : Int) := by omega
      clear hrow hqb
      generalize Qg[i]'hlq = q at *
      obtain ⟨gl, vb, vw⟩ := q
      simp only at e0 e1 e2 e3 hgq HTk
      obtain ⟨hnm, ⟨ab, cb, rfl, hbc, hob, hsb⟩, ⟨aw, cw, rfl, how, hsw, htw⟩⟩ := hgq
      have hnm2 := Lib.hid hnm
      have HSb := Lib.hid hsb
      have HSw := Lib.hid hsw
      have HOb := Lib.hid hob
      have HOw := Lib.hid how
      have HTw := Lib.hid htw
      clear hlq hsb hsw hob how htw hlt hnm hbc
      have hx5 := heap_alloc_new wr (.cells #[.string gl.name, .slice ab gl.bytes.length cb, .int .i64 gl.align, .slice aw gl.words.length cw] 50)
      have hb5 := ba18 wr (.cells #[.string gl.name, .slice ab gl.bytes.length cb, .int .i64 gl.align, .slice aw gl.words.length cw] 50)
      have hz5 := Nat.le_of_eq (show wr.heap.size + 1 = (wr.alloc (.cells #[.string gl.name, .slice ab gl.bytes.length cb, .int .i64 gl.align, .slice aw gl.words.length cw] 50)).heap.size by simp)
      go_upto_region 6 with fail
      generalize World.alloc wr _ = w5 at *
      have HX5 := Lib.hid hx5
      have HB5 := Lib.hid hb5
      have hr3r : r3 < wr.heap.size := lt_of_heap HXr.out
      have HBw5 := Lib.hid (HXB.out.trans (hb5.mono HXB.out.size))
      obtain ⟨⟨g0, g1, g2, g3⟩, z1, z3⟩ := four18 hx5
      have HBy := Lib.hid (copyBytes_ok ab cb gl.bytes w5 ((HSb.out.below HBw5.out (Nat.le_refl _)).mono HBw5.out.size) HOb.out.1 (fun e => ⟨List.eq_nil_of_length_eq_zero (HOb.out.2 e).1, (HOb.out.2 e).2⟩))
      clear e0 e1 e2 e3 hx5 hb5 d0 d1 d2
      go_upto_region 7 with (go_at_call 25; (with_reducible refine HBy.out.mono ?_); rintro e w6 ⟨⟨v6, rfl, hown6⟩, hb6⟩; have hgb := gl_bytes (g := gl) ⟨HOb.out.1, fun e => by cases e⟩ hown6; have HGb := Lib.hid hgb; obtain ⟨a6, c6, rfl, _⟩ := hgb; have HB6 := Lib.hid hb6; have hx6 := (hb6.block _ (lt_of_heap HX5.out)).trans HX5.out; have HX6 := Lib.hid hx6; clear g0 g1 g2 g3 z1 z3; obtain ⟨⟨g0, g1, g2, g3⟩, z1, z3⟩ := four18 hx6; clear hown6 hb6 hx6)
      obtain ⟨a6', c6', e6, hbc6, hob6, hs6⟩ := HGb.out
      cases e6
      obtain ⟨x7, b7, s7⟩ := gl_step HX6.out HB5.out hz5 HB6.out hs6
      have HX7 := Lib.hid x7
      have HB7 := Lib.hid b7
      have HS7 := Lib.hid s7
      have HOb6 := Lib.hid hob6
      have hz57 : w5.heap.size ≤ (w6.setCell ⟨wr.heap.size, 1, none⟩ (.slice a6 gl.bytes.length c6)).heap.size := by have := HB6.out.size; simpa using this
      clear hob6 hs6 s7 b7 g0 g1 g2 g3 z1 z3
      generalize World.setCell _ _ _ = w7 at *
      have HBw7 := Lib.hid (HXB.out.trans (HB7.out.mono HXB.out.size))
      have HV0 := Lib.hid (fun k e => (HRow.out.1.lt k e))
      have HStep := Lib.hid (fun (w8 : World) (v8 : Value) (hb8 : Below w7.heap.size w7 w8) hown => gl_step2 (v0 := .slice a0 i c0) (B := r3 + 1) (v8 := v8) hnm2.out hbc6 HOb6.out HOw.out.1 HTw.out HX7.out HB7.out hz5 hz57 HS7.out hb8 hown (fun k e => (HV0.out k e).2) (by omega))
      obtain ⟨⟨g0, g1, g2, g3⟩, z1, z3⟩ := four18 x7
      have HLw := Lib.hid (flat_len18 wd_len gl.words)
      have hsn := HOw.out.2
      have hr57 : wr.heap.size < w7.heap.size := lt_of_heap x7
      clear x7
      go_cut [30] (fun s30 wx => ∃ v8, s30 = v8 ∧ (∃ a n c, v8 = .slice a n c) ∧ Hid (wx.heap[wr.heap.size]? = some (.cells #[.string gl.name, .slice a6 gl.bytes.length c6, .int .i64 gl.align, v8] 50 (0, 0))) ∧ Hid (GlP (OffB (r3 + 1) wx (.slice a0 i c0)) wx (gl, .slice a6 gl.bytes.length c6, v8)) ∧ Hid (Below wr.heap.size wr wx))
      case first =>
        cases aw with
        | none =>
          obtain ⟨hf0, rfl⟩ := hsn rfl
          have hsn0 : gl.words = [] := List.eq_nil_of_length_eq_zero hf0
          clear hsn
          have hb8 := ba18 w7 (.cells #[] 52)
          have hown : (w7.alloc (.cells #[] 52)).ownsRow w7.heap.size 52 4 (.slice (some ⟨w7.heap.size, 0, none⟩) 0 0) 0 [] := World.ownsRow_lit w7 #[] 0 (Nat.le_refl _) (by decide) rfl
          obtain ⟨⟨c3, y3⟩, q1, q2, q3⟩ := HStep.out _ (.slice (some ⟨w7.heap.size, 0, none⟩) 0 0) hb8 (by rw [hsn0]; exact hown)
          have hcm : (w7.alloc (.cells #[] 52)).setCell ⟨wr.heap.size, 3, none⟩ (.slice (some ⟨w7.heap.size, 0, none⟩) 0 0) = (w7.setCell ⟨wr.heap.size, 3, none⟩ (.slice (some ⟨w7.heap.size, 0, none⟩) 0 0)).alloc (.cells #[] 52) := World.setCell_alloc_past _ _ _ _ hr57
          rw [hcm] at q1 q2 q3
          clear hcm
          have HE1 := Lib.hid q1
          have HE2 := Lib.hid q2
          have HE3 := Lib.hid q3
          have HNl := Lib.hid (show Value.slice none gl.words.length 0 = .slice none 0 0 by rw [hf0])
          clear hf0 hsn0 q1 q2 q3
          go_wp2_with (at_builtin; go_loud (refine wpList_append_own_none rfl _ _ _ rfl w7.heap.size 52 i0 4 Tryd.underlying48 HI0.out.1 _ 0 [] rfl hown HNl.out ?_))
          go_meet
          exact ⟨_, rfl, ⟨_, _, _, rfl⟩, HE1, HE2, HE3⟩
        | some ad =>
          have hb8 := ba18 w7 (.cells #[] 52)
          have hown : (w7.alloc (.cells #[] 52)).ownsRow w7.heap.size 52 4 (.slice (some ⟨w7.heap.size, 0, none⟩) 0 0) 0 [] := World.ownsRow_lit w7 #[] 0 (Nat.le_refl _) (by decide) rfl
          have c3 : (w7.alloc (.cells #[] 52)).cell? ⟨wr.heap.size, 3, none⟩ = some (.slice (some ad) gl.words.length cw) := by rw [hb8.cell hr57]; exact g3
          have HNw := Lib.hid (sl_news18 wd_len (((HSw.out.below HBw7.out (Nat.le_refl _)).mono HBw7.out.size).below hb8 (Nat.le_refl _)))
          have hwz : gl.words.length * 40 ≤ 140737488351232 := HOw.out.1
          go_wp2_with (at_builtin; go_loud (refine wpList_append_own _ rfl _ _ _ rfl w7.heap.size 52 i0 _ 4 40 Tryd.underlying48 HI0.out.1 HI0.out.2.1 HI0.out.2.2.1 HI0.out.2.2.2 rfl (by decide) _ 0 [] rfl hown ad gl.words.length cw (gl.words.flatMap wdCells) rfl HLw.out HNw.out (wds_one _) (by unfold maxLen; omega) (by omega) hb8.size ?_))
          intro v8 W hown2 hgr _
          have hbW : Below w7.heap.size w7 W := hb8.grown hgr hb8.size (fun k e => by cases e; exact Nat.le_refl _)
          obtain ⟨⟨y2, y3⟩, q1, q2, q3⟩ := HStep.out W v8 hbW hown2
          have HE1 := Lib.hid q1
          have HE2 := Lib.hid q2
          have HE3 := Lib.hid q3
          have hv' : ∃ a n c, v8 = .slice a n c := by
            obtain ⟨a, cap, e, _⟩ := own_sl18 wd_len hown2 rfl
            exact ⟨a, _, cap, e⟩
          obtain ⟨av, nv, cv, rfl⟩ := hv'
          clear hown2 hgr q1 q2 q3
          go_wp2_with fail
          go_meet
          exact ⟨_, rfl, ⟨_, _, _, rfl⟩, HE1, HE2, HE3⟩
      case rest =>
        obtain ⟨v8, hu, ⟨a8, n8, c8, rfl⟩, HX8, HGl8, HB8⟩ := hcut
        clear hu g0 g1 g2 g3 z1 z3 hsn
        obtain ⟨⟨g0, g1, g2, g3⟩, _⟩ := four18 HX8.out
        have HXr8 := Lib.hid ((HB8.out.block _ hr3r).trans HXr.out)
        obtain ⟨⟨x30, x31, x32⟩, _⟩ := three18 HXr8.out
        have HR8 := Lib.hid (HRow.out.kept glP_keep (grn_blw none HB8.out) (by simp))
        have hrow8 := HR8.out.1
        rw [hqn] at hrow8
        have HRw8 := Lib.hid hrow8
        have hw8 := HB8.out.size
        have HOne := Lib.hid (glCells_one (gl, .slice a6 gl.bytes.length c6, .slice a8 n8 c8) ⟨_, _, _, rfl⟩ ⟨_, _, _, rfl⟩)
        have hil3 : (i + 1) * 72 ≤ 140737488355328 := by omega
        have hil4 : i + 1 ≤ maxLen := by unfold maxLen; omega
        have hba8 : r3 + 1 ≤ (wc.alloc (.cells #[.string gl.name, .slice a6 gl.bytes.length c6, .int .i64 gl.align, .slice a8 n8 c8] 50)).heap.size := by simp; omega
        have HNum := Lib.hid (And.intro hil4 (And.intro hil3 hba8))
        have HG8 := Lib.hid (HG.out.trans (grn_blw (some r3) HB8.out))
        have hz03 : w3.heap.size ≤ wr.heap.size := HG.out.size
        clear hrow8 hil3 hil4 hba8
        go_wp2_with (at_builtin; go_loud (refine wpList_append_lies _ rfl _ _ _ rfl (r3 + 1) 50 i1 _ 4 72 Tryd.underlying22 HI1.out.1 HI1.out.2.1 HI1.out.2.2.1 HI1.out.2.2.2 rfl (by decide) _ i (Qn.flatMap glCells) rfl (HRw8.out.alloc _) ⟨_, 0, none⟩ 1 1 (glCells (gl, .slice a6 gl.bytes.length c6, .slice a8 n8 c8)) rfl rfl (World.news_of_block (cs := #[.string gl.name, .slice a6 gl.bytes.length c6, .int .i64 gl.align, .slice a8 n8 c8]) (heap_alloc_new _ _)) HOne.out (by decide) HNum.out.1 HNum.out.2.1 HNum.out.2.2 _ rfl ?_))
        intro g cap w11 hown hgr hg2 _
        have hs := box_step glP_keep HR8.out HGl8.out hqn HXr8.out HG8.out hz3 hown hgr hg2 (fun b e => by have := (HV0.out b e).1; omega)
        obtain ⟨⟨s0, s1⟩, r1, r2, r4⟩ := hs
        have HE1 := Lib.hid r1
        have HE2 := Lib.hid r2
        have HE3 := Lib.hid r4
        clear r1 r2 r4 hown hgr hg2
        go_wp2_with fail
        go_roundg (x.globals.length - (i + 1))
        case measure => omega
        case rel => exact ⟨i + 1, Qn ++ [(gl, .slice a6 gl.bytes.length c6, .slice a8 n8 c8)], _, by omega, by omega, by rw [Int.natCast_add]; rfl, by rw [List.length_append, hqn]; rfl, Lib.hid (by rw [List.map_append, HQn.out, HTk.out]; rfl), HE1, ⟨_, _, rfl⟩, HE2, HE3⟩
    · obtain rfl : i = x.globals.length := by omega
      have hi2 : (x.globals.length : Int) ≤ (x.globals.length : Int) := Int.le_refl _
      clear hlt
      obtain ⟨wS, hwS⟩ : ∃ y, y = wr := ⟨_, rfl⟩
      subst hwS
      have hgls := GlsRow.is HRow.out (by omega)
      rw [HQn.out, List.take_length] at hgls
      have HGls := Lib.hid hgls
      have HGS := Lib.hid HG.out
      have hr3s : r3 < wS.heap.size := lt_of_heap HXr.out
      clear hgls d0 d1 d2
      obtain ⟨X0, X1, XB⟩ := HXx.out _ HGS.out
      obtain ⟨⟨d0, d1, d2⟩, _⟩ := three18 X0
      clear X0 X1 XB HXB
      go_wp2_with fail
      clear d0 d1 d2
      go_loopg [6] x.funcs.length (fun g v6 wy => ∃ (i : Nat) (Qm : List (IrF × Value × Value)) (v2 : Value), i ≤ x.funcs.length ∧ i + g = x.funcs.length ∧ v6 = .int .i64 (i : Int) ∧ Qm.length = i ∧ Hid (Qm.map Prod.fst = x.funcs.take i) ∧ Hid (FnsRow wS.heap.size wy v2 Qm) ∧ (∃ a c, v2 = .slice a i c) ∧
        Hid (wy.heap[r3]? = some (.cells #[.slice a0 x.globals.length c0, .slice a2 x.strings.length c2, v2] 26 (0, 0))) ∧ Hid (wS.grownBy wy (some r3)))
      case atStart => exact ⟨0, [], _, by omega, by omega, rfl, rfl, Lib.hid rfl, Lib.hid (rowOf_nil _ _), ⟨_, _, rfl⟩, HXr, Lib.hid (World.grownBy.refl _ _)⟩
      case round =>
        obtain ⟨i, Qm, v2, hi, hig, rfl, hqm, HQm, HRm, ⟨am, cm, hv2⟩, HXm, HGm⟩ := hrel
        subst hv2
        obtain ⟨X0, X1, XB⟩ := HXx.out _ (HGS.out.trans HGm.out)
        have HXB := Lib.hid XB
        have HX1m := Lib.hid X1
        obtain ⟨⟨d0, d1, d2⟩, _⟩ := three18 X0
        obtain ⟨⟨x30, x31, x32⟩, _, _, z32⟩ := three18 HXm.out
        clear X0 X1 XB
        by_cases hlt : i < x.funcs.length
        · have hlq : i < Qf.length := by rw [HFl.out]; exact hlt
          obtain ⟨bb, off, ha, hbl2, hrow⟩ := HFs.out (fun e => by rw [e] at hlq; simp at hlq)
          subst ha
          have hqb := Lib.hid (show Qf[i].1 = x.funcs[i] by
            have h1 : (Qf.map Prod.fst)[i]? = x.funcs[i]? := by rw [HQf.out]
            rw [List.getElem?_map, List.getElem?_eq_getElem hlq, List.getElem?_eq_getElem hlt] at h1
            exact Option.some.inj h1)
          have e0 := hrow i _ (List.getElem?_eq_getElem hlq) 0 _ rfl
          have e1 := hrow i _ (List.getElem?_eq_getElem hlq) 1 _ rfl
          have e2 := hrow i _ (List.getElem?_eq_getElem hlq) 2 _ rfl
          have e3 := hrow i _ (List.getElem?_eq_getElem hlq) 3 _ rfl
          have e4 := hrow i _ (List.getElem?_eq_getElem hlq) 4 _ rfl
          rw [← HXB.out.cell hbl2] at e0 e1 e2 e3 e4
          simp only [Nat.add_zero] at e0
          have hF := HFq.out _ (List.getElem_mem hlq)
          have hfb := HFb.out _ (List.getElem_mem hlt)
          have HTk := Lib.hid (List.take_succ_eq_append_getElem hlt)
          rw [← hqb.out] at HTk hfb
          have hil : (i : Int) < (x.funcs.length : Int) := by omega
          clear hrow hqb
          generalize Qf[i]'hlq = q at *
          obtain ⟨fn, vs, vb⟩ := q
          simp only at e0 e1 e2 e3 e4 hF HTk hfb
          have hcp := copyFunc_ok fn vs vb wr.drew ((hF.below HXB.out.drew (Nat.le_refl _)).mono HXB.out.size) hfb.1 hfb.2
          obtain ⟨a9, c9, e9, _⟩ := hF.slots
          obtain ⟨a10, c10, _, e10, _⟩ := hF.blocks
          subst e9 e10
          unfold fnV at hcp
          have HCp := Lib.hid hcp
          have hr3w : r3 < wr.heap.size := lt_of_heap HXm.out
          have HV2 := Lib.hid (fun k e => HRm.out.1.lt k e)
          have hi0 : (0 : Int) ≤ (i : Int) := by omega
          have hrm := HRm.out.1
          rw [hqm] at hrm
          have HRw := Lib.hid hrm
          have hzS : wS.heap.size ≤ wr.heap.size := HGm.out.size
          clear hcp hlq hF hfb hlt hrm
          have HAfter := Lib.hid (show ∀ w6, Below wr.heap.size wr w6 → w6.cell? ⟨r3, 2, none⟩ = some (.slice am i cm) ∧ w6.frozen? ⟨r3, 2, none⟩ = false ∧ r3 < w6.heap.size ∧ w6.ownsRow wS.heap.size 35 5 (.slice am i cm) i (Qm.flatMap fnCells) ∧ wS.heap.size ≤ w6.heap.size from fun w6 h => ⟨by rw [h.cell hr3w]; exact x32, by rw [h.frozen hr3w]; exact z32, Nat.lt_of_lt_of_le hr3w h.size, HRw.out.kept (grn_blw none h) (by by_cases hv : (Value.slice am i cm).ownBlock = none; exact .inl hv; exact .inr hv), Nat.le_trans hzS h.size⟩)
          have hil3 : (i + 1) * 80 ≤ 140737488355328 := by omega
          have hil4 : i + 1 ≤ maxLen := by unfold maxLen; omega
          have HNum := Lib.hid (And.intro hil4 hil3)
          clear hil3 hil4
          go_wp2_with fail
          go_region_law ((first
            | (go_simp; go_at_call 7; (with_reducible refine HCp.out.mono ?_); rintro e w6 ⟨⟨vs', vb', rfl, hfn⟩, hb6⟩; have hb6' := (show Below wr.heap.size wr w6 from (Below.refl _ _).drew.trans hb6); have HB6 := Lib.hid hb6'; have HFn6 := Lib.hid (show FnP (NewB wr.heap.size w6) w6 fn vs' vb' from hfn); obtain ⟨⟨b9, l9, q9, _⟩, ⟨b10, l10, _, q10, _⟩⟩ := And.intro hfn.slots hfn.blocks; subst q9 q10; obtain ⟨x6, z6, hr6, hrw6, hsz6⟩ := HAfter.out _ hb6'; have HRw6 := Lib.hid hrw6; clear hfn hb6 hb6' hrw6)
            | (refine step_append_lies _ (by rfl) _ _ _ (by rfl) wS.heap.size 35 i2 _ 5 80 Tryd.underlying24 HI2.out.1 HI2.out.2.1 HI2.out.2.2.1 HI2.out.2.2.2 rfl (by omega) (.slice am i cm) i (Qm.flatMap fnCells) (by rfl) (HRw6.out.alloc _) ⟨w6.heap.size, 0, none⟩ 1 1 [.string fn.name, .int .i64 fn.params, .int .i64 fn.regs, .slice b9 fn.slots.length l9, .slice b10 fn.blocks.length l10] (by rfl) (by rfl) (World.news_of_block (cs := #[.string fn.name, .int .i64 fn.params, .int .i64 fn.regs, .slice b9 fn.slots.length l9, .slice b10 fn.blocks.length l10]) (t := 35) (fr := (0, 0)) (heap_alloc_new w6 _)) (by simp [Value.oneCell']) (by omega) HNum.out.1 HNum.out.2 (by simp; omega) (w6.heap.size + 1) (by simp) ?_; intro gg cp w11 hown hgr hg2 hlt11; have hs := fns_after HRm.out HFn6.out hqm HXm.out HGm.out hr3s HB6.out hown hgr hg2; obtain ⟨⟨s0, s1⟩, hs2⟩ := hs; have HEnd := Lib.hid hs2; clear hs2 hown hgr hg2 hlt11)))
          all_goals
            go_wp2_with fail
            go_roundg (x.funcs.length - (i + 1))
            case measure => omega
            case rel => exact ⟨i + 1, Qm ++ [(fn, .slice b9 fn.slots.length l9, .slice b10 fn.blocks.length l10)], _, by omega, by omega, by rw [Int.natCast_add]; rfl, by rw [List.length_append, hqm]; rfl, Lib.hid (by rw [List.map_append, HQm.out, HTk.out]; rfl), Lib.hid HEnd.out.1, ⟨_, _, rfl⟩, Lib.hid HEnd.out.2.1, Lib.hid HEnd.out.2.2⟩
        · obtain rfl : i = x.funcs.length := by omega
          have hi3 : (x.funcs.length : Int) ≤ (x.funcs.length : Int) := Int.le_refl _
          obtain ⟨⟨q0, q1, q2⟩, z0, z1, z2⟩ := three18 HX1m.out
          clear hlt
          go_wp2_with fail
          have hfin := ci_end HXB.out HX1m.out (show w.heap.size + 2 ≤ r3 by omega) (HRow.out.kept glP_keep HGm.out (fun r e => by cases e; exact Nat.lt_succ_self _)) HQn.out ⟨Nat.le_refl _, by omega⟩ HSl.out (show w.heap.size + 2 ≤ w1.heap.size by omega) (show r3 ≤ w3.heap.size by omega) HB3.out (HGS.out.trans HGm.out) HSo.out HRm.out (show r3 < wS.heap.size by omega) HQm.out ⟨Nat.le_refl _, by omega⟩
          obtain ⟨hx, hpr, hbw⟩ := hfin
          generalize World.setCell _ _ _ = W at *
          refine bodyPost_ret (v := .agg #[.slice a0 x.globals.length c0, .slice a2 x.strings.length c2, .slice am x.funcs.length cm]) (by simp [results, Tryd.results11, go_sem, World.cell?, hx]) rfl ?_
          exact ⟨⟨_, _, _, rfl, hpr, fun a n c e => by cases e; have := row_cap HRm.out.1 _ _ _ rfl; omega⟩, hbw⟩
end Go.Proofs.YtlomdlblohnfmaaDoor

