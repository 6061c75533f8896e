/- A function copied. -/
import Derived.Test.YtlomdlblohnfmaaDoorOwnM
namespace Go.Proofs.YtlomdlblohnfmaaDoor
open Go.RowKit

theorem slots18_one (t : List IrS) : ∀ u ∈ t.flatMap slotCells, u.oneCell' = true := fun u hu => by
  obtain ⟨x, _, hx⟩ := List.mem_flatMap.1 hu
  simp only [slotCells, List.mem_cons, List.not_mem_nil, or_false] at hx
  rcases hx with rfl | rfl | rfl <;> rfl
theorem opCells_one (q : IrO × Value) (h : ∃ a n c, q.2 = .slice a n c) : ∀ u ∈ opCells q, u.oneCell' = true := fun u hu => by
  obtain ⟨a, n, c, e⟩ := h
  simp only [opCells, e, List.mem_cons, List.not_mem_nil, or_false] at hu
  rcases hu with rfl | rfl | rfl | rfl | rfl | rfl | rfl <;> rfl
theorem blkCells_one (q : IrB × Value) (h : ∃ a n c, q.2 = .slice a n c) : ∀ u ∈ blkCells q, u.oneCell' = true := fun u hu => by
  obtain ⟨a, n, c, e⟩ := h
  simp only [blkCells, e, List.mem_cons, List.not_mem_nil, or_false] at hu
  rcases hu with rfl | rfl | rfl | rfl | rfl | rfl <;> rfl
/-- the function whose copy is under way, its slots copied -/
structure CpAt (w : World) (n0 : Nat) (f : IrF) (v3 vb : Value) (W : World) : Prop where
  xb : W.heap[n0]? = some (.cells #[.string f.name, .int .i64 f.params, .int .i64 f.regs, v3, vb] 35 (0, 0))
  rb : W.heap[n0 + 1]? = some (.cells #[.string ⟨#[]⟩, .int .i64 0, .int .i64 0, .slice none 0 0, .slice none 0 0] 35 (0, 0))
  below : Below n0 w W
  slots : SlotsP (NewB (n0 + 2) W) W v3 f.slots
  size : n0 + 2 ≤ W.heap.size
theorem five18 {w : World} {b : Nat} {a0 a1 a2 a3 a4 : Value} {T : TypeId} (h : w.heap[b]? = some (.cells #[a0, a1, a2, a3, a4] T (0, 0))) :
    (w.cell? ⟨b, 0, none⟩ = some a0 ∧ w.cell? ⟨b, 1, none⟩ = some a1 ∧ w.cell? ⟨b, 2, none⟩ = some a2 ∧ w.cell? ⟨b, 3, none⟩ = some a3 ∧ w.cell? ⟨b, 4, none⟩ = some a4) ∧ (w.frozen? ⟨b, 0, none⟩ = false ∧ w.frozen? ⟨b, 1, none⟩ = false ∧ w.frozen? ⟨b, 2, none⟩ = false ∧ w.frozen? ⟨b, 3, none⟩ = false ∧ w.frozen? ⟨b, 4, none⟩ = false) := by
  refine ⟨⟨?_, ?_, ?_, ?_, ?_⟩, ?_, ?_, ?_, ?_, ?_⟩ <;> simp [World.cell?, World.frozen?, h]
theorem five_set18 {W : World} {b : Nat} {a0 a1 a2 a3 a4 v0 v1 v2 v3 v4 : Value} {T : TypeId} (h : W.heap[b]? = some (.cells #[a0, a1, a2, a3, a4] T (0, 0))) :
    (((((W.setCell ⟨b, 0, none⟩ v0).setCell ⟨b, 1, none⟩ v1).setCell ⟨b, 2, none⟩ v2).setCell ⟨b, 3, none⟩ v3).setCell ⟨b, 4, none⟩ v4).heap[b]? = some (.cells #[v0, v1, v2, v3, v4] T (0, 0)) := by
  have h0 := heap_setCell_same W b 0 _ _ v0 h
  have h1 := heap_setCell_same _ b 1 _ _ v1 h0
  have h2 := heap_setCell_same _ b 2 _ _ v2 h1
  have h3 := heap_setCell_same _ b 3 _ _ v3 h2
  exact heap_setCell_same _ b 4 _ _ v4 h3
theorem cp_slots {w w1 W : World} {f : IrF} {v3 vb v' : Value} (hx : w1.heap[w.heap.size]? = some (.cells #[.string f.name, .int .i64 f.params, .int .i64 f.regs, v3, vb] 35 (0, 0)))
    (hr : w1.heap[w.heap.size + 1]? = some (.cells #[.string ⟨#[]⟩, .int .i64 0, .int .i64 0, .slice none 0 0, .slice none 0 0] 35 (0, 0))) (hb : Below w.heap.size w w1) (hz : w.heap.size + 2 ≤ w1.heap.size) (hW : Below w1.heap.size w1 W)
    (hown : W.ownsRow w1.heap.size 108 3 v' f.slots.length (f.slots.flatMap slotCells)) (hl : f.slots.length * 24 ≤ 140737488351232) : CpAt w w.heap.size f v' vb (W.setCell ⟨w.heap.size, 3, none⟩ v') := by
  obtain ⟨a, cap, e, hs, ha⟩ := own_slP slot_len hown rfl
  have hg := grn_set W w.heap.size 3 v'
  refine ⟨heap_setCell_same _ _ 3 _ _ v' ((hW.block _ (by omega)).trans hx), ?_, (hb.trans (hW.mono (by omega))).setCell (Nat.le_refl _) _, ⟨a, cap, e, ⟨hl, fun e => ⟨by rw [(ha e).1]; rfl, (ha e).2⟩⟩, hs.keep (fun b hb => ?_)⟩, by have := hW.size; simp; omega⟩
  · rw [heap_setCell_other _ _ _ _ (by simp), hW.block _ (by omega)]; exact hr
  · obtain ⟨_, h1, h2⟩ := hb
    exact ⟨hg.block b h2 (fun e => by have := Option.some.inj e; omega), by omega, by simpa using h2⟩
theorem ops_step {wo wx w11 : World} {o : Obj} {v5 : Value} {i g cap : Nat} {Qi : List (IrO × Value)} {q : IrO × Value} {x : IrX}
    (hR : OpsRow (wo.heap.size + 1) wx v5 Qi) (hq : OpP (OffB (wo.heap.size + 1) wx v5) wx q) (hi : Qi.length = i) (hX : wx.heap[wo.heap.size]? = some (.cells #[v5, .int .i64 x.kind, .int .i64 x.a, .int .i64 x.d, .int .i64 x.to, .int .i64 x.els] 41 (0, 0))) (hB : Below wo.heap.size wo wx)
    (hown : w11.ownsRow (wo.heap.size + 1) 54 7 (.slice (some ⟨g, 0, none⟩) (i + 1) cap) (i + 1) (Qi.flatMap opCells ++ opCells q)) (hgr : (wx.alloc o).grownBy w11 v5.ownBlock) (hg : v5.ownBlock = some g ∨ g = wx.heap.size + 1) :
    (w11.cell? ⟨wo.heap.size, 0, none⟩ = some v5 ∧ w11.frozen? ⟨wo.heap.size, 0, none⟩ = false) ∧ OpsRow (wo.heap.size + 1) (w11.setCell ⟨wo.heap.size, 0, none⟩ (.slice (some ⟨g, 0, none⟩) (i + 1) cap)) (.slice (some ⟨g, 0, none⟩) (i + 1) cap) (Qi ++ [q]) ∧
      (w11.setCell ⟨wo.heap.size, 0, none⟩ (.slice (some ⟨g, 0, none⟩) (i + 1) cap)).heap[wo.heap.size]? = some (.cells #[.slice (some ⟨g, 0, none⟩) (i + 1) cap, .int .i64 x.kind, .int .i64 x.a, .int .i64 x.d, .int .i64 x.to, .int .i64 x.els] 41 (0, 0)) ∧
      Below wo.heap.size wo (w11.setCell ⟨wo.heap.size, 0, none⟩ (.slice (some ⟨g, 0, none⟩) (i + 1) cap)) := by
  have ga := World.grownBy_alloc wx o none
  have hR10 := hR.kept ga (by simp)
  have hq10 := hq.keep (keep_off ga (by simp))
  have hrow := hR10.push hq10 (by rw [hi]; exact hown) hgr (fun g' e => by cases e; rcases hg with h | h; exact .inl h; exact .inr (by rw [h]; simp))
  have hlt : wo.heap.size < (wx.alloc o).heap.size := by have := lt_of_heap hX; simp; omega
  have hne : some wo.heap.size ≠ v5.ownBlock := fun e => by have := (hR.1.lt _ e.symm).1; omega
  have hX11 : w11.heap[wo.heap.size]? = some (.cells #[v5, .int .i64 x.kind, .int .i64 x.a, .int .i64 x.d, .int .i64 x.to, .int .i64 x.els] 41 (0, 0)) :=
    (hgr.block _ hlt hne).trans (((ba18 wx o).block _ (lt_of_heap hX)).trans hX)
  have hb11 : Below wo.heap.size wo w11 := (hB.trans ((ba18 wx o).mono hB.size)).grown hgr (Nat.le_of_lt hlt) (fun k e => by have := (hR.1.lt k e).1; omega)
  refine ⟨⟨by simp [World.cell?, hX11], by simp [World.frozen?, hX11]⟩, hrow.kept (grn_set _ _ _ _) (fun r e => by cases e; exact Nat.lt_succ_self _), heap_setCell_same _ _ 0 _ _ _ hX11, hb11.setCell (Nat.le_refl _) _⟩
theorem nums_new {B : Nat} {w7 w8 : World} {v5 v' : Value} {L : List Int} (hl : L.length * 8 ≤ 140737488351232) (hv5 : ∀ k, v5.ownBlock = some k → k < w7.heap.size) (hB : B ≤ w7.heap.size) (hown : w8.ownsRow w7.heap.size 3 1 v' L.length (L.flatMap intCells)) : NumsP (OffB B w8 v5) w8 v' L := by
  obtain ⟨a, cap, e, hs, ha⟩ := own_slP ints18_len hown rfl
  refine ⟨a, cap, e, ⟨hl, fun e => ⟨by rw [(ha e).1]; rfl, (ha e).2⟩⟩, hs.keep (fun b hb => ?_)⟩
  obtain ⟨_, h1, h2⟩ := hb
  exact ⟨rfl, by omega, h2, fun e => by have := hv5 b e; omega⟩
theorem seven18 {w : World} {b : Nat} {a0 a1 a2 a3 a4 a5 a6 : Value} {T : TypeId} (h : w.heap[b]? = some (.cells #[a0, a1, a2, a3, a4, a5, a6] T (0, 0))) :
    (w.cell? ⟨b, 0, none⟩ = some a0 ∧ w.cell? ⟨b, 1, none⟩ = some a1 ∧ w.cell? ⟨b, 2, none⟩ = some a2 ∧ w.cell? ⟨b, 3, none⟩ = some a3 ∧ w.cell? ⟨b, 4, none⟩ = some a4 ∧ w.cell? ⟨b, 5, none⟩ = some a5 ∧ w.cell? ⟨b, 6, none⟩ = some a6) ∧ w.frozen? ⟨b, 6, none⟩ = false := by
  refine ⟨⟨?_, ?_, ?_, ?_, ?_, ?_, ?_⟩, ?_⟩ <;> simp [World.cell?, World.frozen?, h]
theorem six18 {w : World} {b : Nat} {a0 a1 a2 a3 a4 a5 : Value} {T : TypeId} (h : w.heap[b]? = some (.cells #[a0, a1, a2, a3, a4, a5] T (0, 0))) :
    w.cell? ⟨b, 0, none⟩ = some a0 ∧ w.cell? ⟨b, 1, none⟩ = some a1 ∧ w.cell? ⟨b, 2, none⟩ = some a2 ∧ w.cell? ⟨b, 3, none⟩ = some a3 ∧ w.cell? ⟨b, 4, none⟩ = some a4 ∧ w.cell? ⟨b, 5, none⟩ = some a5 := by
  refine ⟨?_, ?_, ?_, ?_, ?_, ?_⟩ <;> simp [World.cell?, h]
theorem blks_step {w0 wx w11 : World} {o : Obj} {v : Value} {j g cap : Nat} {Qn : List (IrB × Value)} {q : IrB × Value}
    (hR : BlksRow w0.heap.size wx v Qn) (hq : OpsP (OffB w0.heap.size wx v) wx q.2 q.1.ops) (hj : Qn.length = j) (hB : Below w0.heap.size w0 wx)
    (hown : w11.ownsRow w0.heap.size 41 6 (.slice (some ⟨g, 0, none⟩) (j + 1) cap) (j + 1) (Qn.flatMap blkCells ++ blkCells q)) (hgr : (wx.alloc o).grownBy w11 v.ownBlock) (hg : v.ownBlock = some g ∨ g = wx.heap.size + 1) :
    BlksRow w0.heap.size w11 (.slice (some ⟨g, 0, none⟩) (j + 1) cap) (Qn ++ [q]) ∧ Below w0.heap.size w0 w11 := by
  have ga := World.grownBy_alloc wx o none
  have hR10 := hR.kept ga (by simp)
  have hq10 := hq.keep (keep_off ga (by simp))
  refine ⟨hR10.push hq10 (by rw [hj]; exact hown) hgr (fun g' e => by cases e; rcases hg with h | h; exact .inl h; exact .inr (by rw [h]; simp)), ?_⟩
  exact (hB.trans ((ba18 wx o).mono hB.size)).grown hgr (Nat.le_trans hB.size (ba18 wx o).size) (fun k e => (hR.1.lt k e).1)
/-- a function of one's own: its blocks in a row that may grow, its slots ahead of them -/
def FnOwn (B0 : Nat) (W : World) (f : IrF) (vs vb : Value) : Prop := f.name.size ≤ maxLen ∧ ∃ (B : Nat) (Q : List (IrB × Value)), B0 ≤ B ∧ B ≤ W.heap.size ∧ SlotsP (fun b => B0 ≤ b ∧ b < B) W vs f.slots ∧ BlksRow B W vb Q ∧ Q.map Prod.fst = f.blocks ∧ Q.length ≤ 4096
theorem FnOwn.p {B0 : Nat} {W : World} {f : IrF} {vs vb : Value} (h : FnOwn B0 W f vs vb) : FnP (NewB B0 W) W f vs vb := by
  obtain ⟨hn, B, Q, h0, h1, hs, hb, hQ, hl⟩ := h
  have hbk := hb.is (by omega)
  rw [hQ] at hbk
  exact ⟨hn, hs.keep (fun b ⟨b1, b2⟩ => ⟨rfl, b1, by omega⟩), hbk.keep (fun b ⟨b1, b2⟩ => ⟨rfl, by omega, b2⟩)⟩
theorem cp_end {w ws wr : World} {f : IrF} {v3 vb v : Value} {Qn : List (IrB × Value)} (hC : CpAt w w.heap.size f v3 vb ws) (hB : Below ws.heap.size ws wr) (hR : BlksRow ws.heap.size wr v Qn) (hQ : Qn.map Prod.fst = f.blocks) (hl : Qn.length ≤ 4096) (hn : f.name.size ≤ maxLen) :
    (wr.setCell ⟨w.heap.size, 4, none⟩ v).heap[w.heap.size]? = some (.cells #[.string f.name, .int .i64 f.params, .int .i64 f.regs, v3, v] 35 (0, 0)) ∧
    (wr.setCell ⟨w.heap.size, 4, none⟩ v).heap[w.heap.size + 1]? = some (.cells #[.string ⟨#[]⟩, .int .i64 0, .int .i64 0, .slice none 0 0, .slice none 0 0] 35 (0, 0)) ∧
    ∀ W, W = (((((wr.setCell ⟨w.heap.size, 4, none⟩ v).setCell ⟨w.heap.size + 1, 0, none⟩ (.string f.name)).setCell ⟨w.heap.size + 1, 1, none⟩ (.int .i64 f.params)).setCell ⟨w.heap.size + 1, 2, none⟩ (.int .i64 f.regs)).setCell ⟨w.heap.size + 1, 3, none⟩ v3).setCell ⟨w.heap.size + 1, 4, none⟩ v →
      W.heap[w.heap.size + 1]? = some (.cells #[.string f.name, .int .i64 f.params, .int .i64 f.regs, v3, v] 35 (0, 0)) ∧ FnOwn w.heap.size W f v3 v ∧ Below w.heap.size w W := by
  have hz := hC.size
  have h0 := heap_setCell_same wr w.heap.size 4 _ _ v ((hB.block _ (by omega)).trans hC.xb)
  have h1 : (wr.setCell ⟨w.heap.size, 4, none⟩ v).heap[w.heap.size + 1]? = some (.cells #[.string ⟨#[]⟩, .int .i64 0, .int .i64 0, .slice none 0 0, .slice none 0 0] 35 (0, 0)) := by
    rw [heap_setCell_other _ _ _ _ (by simp), hB.block _ (by omega)]; exact hC.rb
  refine ⟨h0, h1, fun W hW => ?_⟩
  have hfar : ∀ b, w.heap.size + 2 ≤ b → W.heap[b]? = wr.heap[b]? := fun b hb => by
    have n1 : b ≠ w.heap.size + 1 := by omega
    have n0 : b ≠ w.heap.size := by omega
    rw [hW, heap_setCell_other _ _ _ _ n1, heap_setCell_other _ _ _ _ n1, heap_setCell_other _ _ _ _ n1, heap_setCell_other _ _ _ _ n1, heap_setCell_other _ _ _ _ n1, heap_setCell_other _ _ _ _ n0]
  have hsz : W.heap.size = wr.heap.size := by rw [hW]; simp
  have hs1 := hB.size
  refine ⟨by rw [hW]; exact five_set18 h1, ⟨hn, ws.heap.size, Qn, by omega, by omega, hC.slots.keep (fun b ⟨b1, b2⟩ => ⟨by rw [hfar b b1]; exact hB.block b b2, by omega, b2⟩), ?_, hQ, hl⟩, ?_⟩
  · refine ⟨?_, fun q hq => (hR.2 q hq).keep (fun b ⟨b1, b2, b3⟩ => ⟨hfar b (by omega), b1, by omega, b3⟩)⟩
    have hne : ∀ r, r < ws.heap.size → (v.ownBlock = none ∨ v.ownBlock ≠ some r) := fun r hr => by
      cases hv : v.ownBlock with
      | none => exact .inl rfl
      | some k => exact .inr (fun e => by have := (hR.1.lt k hv).1; have := Option.some.inj e; omega)
    rw [hW]
    exact (((((hR.1.kept (grn_set _ _ _ _) (hne _ (by omega))).kept (grn_set _ _ _ _) (hne _ (by omega))).kept (grn_set _ _ _ _) (hne _ (by omega))).kept (grn_set _ _ _ _) (hne _ (by omega))).kept (grn_set _ _ _ _) (hne _ (by omega))).kept (grn_set _ _ _ _) (hne _ (by omega))
  rw [hW]
  exact ((((((hC.below.trans (hB.mono (by omega))).setCell (Nat.le_refl _) _).setCell (Nat.le_succ _) _).setCell (Nat.le_succ _) _).setCell (Nat.le_succ _) _).setCell (Nat.le_succ _) _).setCell (Nat.le_succ _) _
set_option maxRecDepth 100000 in
set_option maxHeartbeats 16000000 in
theorem copyFunc_own (f : IrF) (vs vb : Value) (w : World) (hF : IsFn w.heap.size w f vs vb) (hb : f.blocks.length ≤ 4096) (ho : ∀ b ∈ f.blocks, b.ops.length ≤ 4096) :
    Calls Tryd.prog 7 #[fnV f vs vb] w fun e w' => (∃ vs' vb', e = .returned (fnV f vs' vb') ∧ FnOwn w.heap.size w' f vs' vb') ∧ Below w.heap.size w w' := by
  obtain ⟨i0, hi, hz0, hz1, hz2⟩ := info_parts (show (Tryd.prog.info? 108).map (fun i => (i.zero, i.size, i.bytes)) = some (some (.agg #[.int .i64 0, .int .i64 0, .bool false]), 3, 24) by kernel_rfl)
  have HI0 := Lib.hid (And.intro hi (And.intro hz0 (And.intro hz1 hz2)))
  clear hi hz0 hz1 hz2
  obtain ⟨i1, hi, hz0, hz1, hz2⟩ := info_parts (show (Tryd.prog.info? 41).map (fun i => (i.zero, i.size, i.bytes)) = some (some (.agg #[.slice none 0 0, .int .i64 0, .int .i64 0, .int .i64 0, .int .i64 0, .int .i64 0]), 6, 64) by kernel_rfl)
  have HI1 := Lib.hid (And.intro hi (And.intro hz0 (And.intro hz1 hz2)))
  clear hi hz0 hz1 hz2
  obtain ⟨i2, hi, hz0, hz1, hz2⟩ := info_parts (show (Tryd.prog.info? 54).map (fun i => (i.zero, i.size, i.bytes)) = some (some (.agg #[.int .i64 0, .int .i64 0, .int .i64 0, .int .i64 0, .int .i64 0, .string ⟨#[]⟩, .slice none 0 0]), 7, 80) by kernel_rfl)
  have HI2 := Lib.hid (And.intro hi (And.intro hz0 (And.intro hz1 hz2)))
  clear hi hz0 hz1 hz2
  obtain ⟨a1, c1, e1, hos, hss⟩ := hF.slots
  subst e1
  obtain ⟨a2, c2, Q, e2, hok, hQ, hq, hops⟩ := hF.blocks
  subst e2
  have hnm := hF.name
  have hQl : Q.length = f.blocks.length := by rw [← hQ, List.length_map]
  have hz0 : ((w.alloc (.cells #[.string f.name, .int .i64 f.params, .int .i64 f.regs, .slice a1 f.slots.length c1, .slice a2 f.blocks.length c2] 35)).alloc (.cells #[.string ⟨#[]⟩, .int .i64 0, .int .i64 0, .slice none 0 0, .slice none 0 0] 35)).heap.size = w.heap.size + 2 := by simp
  replace hz0 := Nat.le_of_eq hz0.symm
  have hx0 := ir_new1 w (.cells #[.string f.name, .int .i64 f.params, .int .i64 f.regs, .slice a1 f.slots.length c1, .slice a2 f.blocks.length c2] 35) (.cells #[.string ⟨#[]⟩, .int .i64 0, .int .i64 0, .slice none 0 0, .slice none 0 0] 35)
  obtain ⟨hx1, hba⟩ := two_new w (.cells #[.string f.name, .int .i64 f.params, .int .i64 f.regs, .slice a1 f.slots.length c1, .slice a2 f.blocks.length c2] 35) (.cells #[.string ⟨#[]⟩, .int .i64 0, .int .i64 0, .slice none 0 0, .slice none 0 0] 35)
  unfold fnV
  go_enter Tryd.func7, Tryd.ntmps7
  go_upto_region 1 with fail
  generalize World.alloc _ (.cells #[.string ⟨#[]⟩, _, _, _, _] _) = w1 at *
  have HO := Lib.hid hops
  have HQ := Lib.hid hQ
  have HQs := Lib.hid hq
  have HQL := Lib.hid hQl
  have HSs := Lib.hid hss
  have HLs := Lib.hid (flat_len18 slot_len f.slots)
  have hsl : f.slots.length * 24 ≤ 140737488351232 := hos.1
  have hsn := hos.2
  have HCs := Lib.hid (fun W v' (hW : Below w1.heap.size w1 W) hown => cp_slots (v' := v') hx0 hx1 hba hz0 hW hown hsl)
  have hbl : (f.blocks.length : Int) ≤ 4096 := by omega
  obtain ⟨⟨d0, d1, d2, d3, d4⟩, z0, z1, z2, z3, z4⟩ := five18 hx0
  have HB1 := Lib.hid hba
  clear hops hQ hq hQl hss hos hF hx1 hok hba
  go_cut [11] (fun s11 wx => ∃ v3, s11 = v3 ∧ (∃ a n c, v3 = .slice a n c) ∧ Hid (CpAt w w.heap.size f v3 (.slice a2 f.blocks.length c2) wx))
  case first =>
    cases a1 with
    | none =>
      obtain ⟨hf0, rfl⟩ := hsn rfl
      have hsn0 : f.slots = [] := List.eq_nil_of_length_eq_zero hf0
      clear hsn
      have hb2 := ba18 w1 (.cells #[] 108)
      have hown : (w1.alloc (.cells #[] 108)).ownsRow w1.heap.size 108 3 (.slice (some ⟨w1.heap.size, 0, none⟩) 0 0) 0 [] := World.ownsRow_lit w1 #[] 0 (Nat.le_refl _) (by decide) rfl
      have HEnd := Lib.hid (HCs.out (w1.alloc (.cells #[] 108)) (.slice (some ⟨w1.heap.size, 0, none⟩) 0 0) hb2 (by rw [hsn0]; exact hown))
      have hnl : Value.slice none f.slots.length 0 = .slice none 0 0 := by rw [hf0]
      have c3 : (w1.alloc (.cells #[] 108)).cell? ⟨w.heap.size, 3, none⟩ = some (.slice none f.slots.length 0) := by rw [hb2.cell (show w.heap.size < w1.heap.size by omega)]; exact d3
      have y3 : (w1.alloc (.cells #[] 108)).frozen? ⟨w.heap.size, 3, none⟩ = false := by rw [hb2.frozen (show w.heap.size < w1.heap.size by omega)]; exact z3
      have HNl := Lib.hid hnl
      clear hnl hf0 hsn0
      go_wp2_with (at_builtin; go_loud (refine wpList_append_own_none rfl _ _ _ rfl w1.heap.size 108 i0 3 Tryd.underlying32 HI0.out.1 _ 0 [] rfl hown HNl.out ?_))
      go_meet
      exact ⟨_, rfl, ⟨_, _, _, rfl⟩, HEnd⟩
    | some ad =>
      have hb2 := ba18 w1 (.cells #[] 108)
      have hown : (w1.alloc (.cells #[] 108)).ownsRow w1.heap.size 108 3 (.slice (some ⟨w1.heap.size, 0, none⟩) 0 0) 0 [] := World.ownsRow_lit w1 #[] 0 (Nat.le_refl _) (by decide) rfl
      have c3 : (w1.alloc (.cells #[] 108)).cell? ⟨w.heap.size, 3, none⟩ = some (.slice (some ad) f.slots.length c1) := by rw [hb2.cell (show w.heap.size < w1.heap.size by omega)]; exact d3
      have HNw := Lib.hid (sl_news18 slot_len (((HSs.out.below HB1.out (Nat.le_refl _)).mono HB1.out.size).below hb2 (Nat.le_refl _)))
      have HFar := Lib.hid (fun (W : World) (v' : Value) (hg : (w1.alloc (.cells #[] 108)).grownBy W (some w1.heap.size)) => show W.frozen? ⟨w.heap.size, 3, none⟩ = false ∧ (W.cell? ⟨w.heap.size, 3, none⟩ = some (.slice (some ad) f.slots.length c1)) ∧ Below w1.heap.size w1 W from
        ⟨by rw [hg.frozen_far _ (by simp; omega) (by simp; omega), hb2.frozen (show w.heap.size < w1.heap.size by omega)]; exact z3, by rw [hg.cell_far _ (by simp; omega) (by simp; omega)]; exact c3, hb2.grown hg hb2.size (fun k e => by cases e; exact Nat.le_refl _)⟩)
      go_wp2_with (at_builtin; go_loud (refine wpList_append_own _ rfl _ _ _ rfl w1.heap.size 108 i0 _ 3 24 Tryd.underlying32 HI0.out.1 HI0.out.2.1 HI0.out.2.2.1 HI0.out.2.2.2 rfl (by decide) _ 0 [] rfl hown ad f.slots.length c1 (f.slots.flatMap slotCells) rfl HLs.out HNw.out (slots18_one _) (by unfold maxLen; omega) (by omega) hb2.size ?_))
      intro v' W hown2 hgr _
      obtain ⟨y3, y4, hbW⟩ := HFar.out W v' hgr
      have HEnd := Lib.hid (HCs.out W v' hbW hown2)
      have hv' : ∃ a n c, v' = .slice a n c := by
        obtain ⟨a, cap, e, _⟩ := own_sl18 slot_len hown2 rfl
        exact ⟨a, _, cap, e⟩
      obtain ⟨av, nv, cv, rfl⟩ := hv'
      clear hown2 hgr
      go_wp2_with fail
      go_meet
      exact ⟨_, rfl, ⟨_, _, _, rfl⟩, HEnd⟩
  case rest =>
    obtain ⟨v3, hu, ⟨a3, n3, c3, rfl⟩, HCp⟩ := hcut
    clear hu
    obtain ⟨WS, hws⟩ : ∃ x, x = wc := ⟨_, rfl⟩
    subst hws
    clear d0 d1 d2 d3 d4 z0 z1 z2 z3 z4 HCs HB1 hx0
    have hnl2 : (WS.alloc (.cells #[] 41)).ownsRow WS.heap.size 41 6 (.slice (some ⟨WS.heap.size, 0, none⟩) 0 0) 0 [] := World.ownsRow_lit WS #[] 0 (Nat.le_refl _) (by decide) rfl
    have HR0 := Lib.hid (show BlksRow WS.heap.size (WS.alloc (.cells #[] 41)) (.slice (some ⟨WS.heap.size, 0, none⟩) 0 0) [] from ⟨hnl2, fun _ h => by cases h⟩)
    have HB0 := Lib.hid (ba18 WS (.cells #[] 41))
    clear hnl2
    go_wp2_with fail
    have hzc := HCp.out.size
    have HW0 := Lib.hid (show WS.heap.size ≤ (WS.alloc (.cells #[] 41)).heap.size from HB0.out.size)
    have HNm := Lib.hid hnm
    clear hnm
    go_loopg [3, 4] f.blocks.length (fun g v3' v4 wy => ∃ (j : Nat) (Qn : List (IrB × Value)), j ≤ f.blocks.length ∧ j + g = f.blocks.length ∧ v4 = .int .i64 (j : Int) ∧ Qn.length = j ∧ Hid (Qn.map Prod.fst = f.blocks.take j) ∧ Hid (BlksRow WS.heap.size wy v3' Qn) ∧ (∃ a c, v3' = .slice a j c) ∧ Hid (Below WS.heap.size WS wy))
    case atStart => exact ⟨0, [], by omega, by omega, rfl, rfl, Lib.hid rfl, HR0, ⟨_, _, rfl⟩, HB0⟩
    case round =>
      obtain ⟨j, Qn, hj, hjg, rfl, hqn, HQn, HRow, ⟨ar, cr, hvr⟩, HW⟩ := hrel
      subst hvr
      obtain ⟨wo, hwo⟩ : ∃ x, x = wr := ⟨_, rfl⟩
      subst hwo
      obtain ⟨⟨d0, d1, d2, d3, d4⟩, _⟩ := five18 ((HW.out.block _ (show w.heap.size < WS.heap.size by omega)).trans HCp.out.xb)
      by_cases hlt : j < f.blocks.length
      · have hlq : j < Q.length := by rw [HQL.out]; exact hlt
        obtain ⟨bb, off, ha, hbl2, hrow⟩ := HQs.out (fun e => by rw [e] at hlq; simp at hlq)
        subst ha
        have hqb := Lib.hid (show Q[j].1 = f.blocks[j] by
          have h1 : (Q.map Prod.fst)[j]? = f.blocks[j]? := by rw [HQ.out]
          rw [List.getElem?_map, List.getElem?_eq_getElem hlq, List.getElem?_eq_getElem hlt] at h1
          exact Option.some.inj h1)
        have HWw := Lib.hid (HCp.out.below.trans (HW.out.mono (show w.heap.size ≤ WS.heap.size by omega)))
        have e0 := hrow j _ (List.getElem?_eq_getElem hlq) 0 _ rfl
        have e1 := hrow j _ (List.getElem?_eq_getElem hlq) 1 _ rfl
        have e2 := hrow j _ (List.getElem?_eq_getElem hlq) 2 _ rfl
        have e3 := hrow j _ (List.getElem?_eq_getElem hlq) 3 _ rfl
        have e4 := hrow j _ (List.getElem?_eq_getElem hlq) 4 _ rfl
        have e5 := hrow j _ (List.getElem?_eq_getElem hlq) 5 _ rfl
        have HE0 := Lib.hid (show ∀ W, Below w.heap.size w W → W.cell? ⟨bb, off + j * 6 + 0, none⟩ = some Q[j].2 from fun W h => by rw [h.cell hbl2]; exact e0)
        simp only [Nat.add_zero] at HE0
        rw [← HWw.out.cell hbl2] at e0 e1 e2 e3 e4 e5
        simp only [Nat.add_zero] at e0
        have hvo := HO.out _ (List.getElem_mem hlq)
        have HTk := Lib.hid (List.take_succ_eq_append_getElem hlt)
        have hob := ho _ (List.getElem_mem hlt)
        rw [← hqb.out] at HTk hob
        clear hrow hqb
        generalize Q[j]'hlq = q at *
        obtain ⟨bk, vo⟩ := q
        simp only at e0 e1 e2 e3 e4 e5 hvo HTk hob HE0
        obtain ⟨ao, co, Qo, rfl, hoks, hQo, hso, hno⟩ := hvo
        have HQo := Lib.hid hQo
        have HSo := Lib.hid hso
        have HNo := Lib.hid hno
        have hln : (bk.ops.length : Int) ≤ 4096 := by omega
        have hQol := Lib.hid (show Qo.length = bk.ops.length by rw [← hQo, List.length_map])
        have hjl : (j : Int) < (f.blocks.length : Int) := by omega
        clear hlq hoks hQo hso hno
        have hx5 := heap_alloc_new wo (.cells #[.slice none 0 0, .int .i64 bk.exit.kind, .int .i64 bk.exit.a, .int .i64 bk.exit.d, .int .i64 bk.exit.to, .int .i64 bk.exit.els] 41)
        have hb5 := ba18 wo (.cells #[.slice none 0 0, .int .i64 bk.exit.kind, .int .i64 bk.exit.a, .int .i64 bk.exit.d, .int .i64 bk.exit.to, .int .i64 bk.exit.els] 41)
        have hz5 : (wo.alloc (.cells #[.slice none 0 0, .int .i64 bk.exit.kind, .int .i64 bk.exit.a, .int .i64 bk.exit.d, .int .i64 bk.exit.to, .int .i64 bk.exit.els] 41)).heap.size = wo.heap.size + 1 := by simp
        replace hz5 := Nat.le_of_eq hz5.symm
        go_upto_region 7 with fail
        generalize World.alloc wo _ = w5 at *
        have HX5 := Lib.hid hx5
        have HB5 := Lib.hid hb5
        have HR5 := Lib.hid (opsRow_nil (wo.heap.size + 1) w5)
        clear hx5 hb5 e0 e1 e2 e3 e4 e5 d0 d1 d2 d3 d4 hlt
        go_wp2_with fail
        go_loopg [6] bk.ops.length (fun g v6 wy => ∃ (i : Nat) (Qi : List (IrO × Value)) (v5 : Value), i ≤ bk.ops.length ∧ i + g = bk.ops.length ∧ v6 = .int .i64 (i : Int) ∧ Qi.length = i ∧ Hid (Qi.map Prod.fst = bk.ops.take i) ∧ Hid (OpsRow (wo.heap.size + 1) wy v5 Qi) ∧ (∃ a c, v5 = .slice a i c) ∧
          Hid (wy.heap[wo.heap.size]? = some (.cells #[v5, .int .i64 bk.exit.kind, .int .i64 bk.exit.a, .int .i64 bk.exit.d, .int .i64 bk.exit.to, .int .i64 bk.exit.els] 41 (0, 0))) ∧ Hid (Below wo.heap.size wo wy))
        case atStart => exact ⟨0, [], _, by omega, by omega, rfl, rfl, Lib.hid rfl, HR5, ⟨_, _, rfl⟩, HX5, HB5⟩
        case round =>
          obtain ⟨i, Qi, v5, hi, hig, rfl, hqi, HQi, HRi, ⟨a5, c5, hv5⟩, HXi, HBi⟩ := hrel
          subst hv5
          have HBc := Lib.hid (HW.out.trans (HBi.out.mono HW.out.size))
          have HBw := Lib.hid (HWw.out.trans (HBi.out.mono HWw.out.size))
          obtain ⟨⟨d0, d1, d2, d3, d4⟩, _⟩ := five18 ((HBc.out.block _ (show w.heap.size < WS.heap.size by omega)).trans HCp.out.xb)
          have e0 := HE0.out _ HBw.out
          by_cases hil : i < bk.ops.length
          · have hlqo : i < Qo.length := by rw [hQol.out]; exact hil
            obtain ⟨b3, off3, ha, hbl3, hrow⟩ := HSo.out (fun e => by rw [e] at hlqo; simp at hlqo)
            subst ha
            have hqb := Lib.hid (show Qo[i].1 = bk.ops[i] by
              have h1 : (Qo.map Prod.fst)[i]? = bk.ops[i]? := by rw [HQo.out]
              rw [List.getElem?_map, List.getElem?_eq_getElem hlqo, List.getElem?_eq_getElem hil] at h1
              exact Option.some.inj h1)
            have y0 := hrow i _ (List.getElem?_eq_getElem hlqo) 0 _ rfl
            have y1 := hrow i _ (List.getElem?_eq_getElem hlqo) 1 _ rfl
            have y2 := hrow i _ (List.getElem?_eq_getElem hlqo) 2 _ rfl
            have y3 := hrow i _ (List.getElem?_eq_getElem hlqo) 3 _ rfl
            have y4 := hrow i _ (List.getElem?_eq_getElem hlqo) 4 _ rfl
            have y5 := hrow i _ (List.getElem?_eq_getElem hlqo) 5 _ rfl
            have y6 := hrow i _ (List.getElem?_eq_getElem hlqo) 6 _ rfl
            rw [← HBw.out.cell hbl3] at y0 y1 y2 y3 y4 y5 y6
            simp only [Nat.add_zero] at y0
            have hnv := HNo.out _ (List.getElem_mem hlqo)
            have HTi := Lib.hid (List.take_succ_eq_append_getElem hil)
            rw [← hqb.out] at HTi
            have hil2 : (i : Int) < (bk.ops.length : Int) := by omega
            clear hrow hqb
            generalize Qo[i]'hlqo = qo at *
            obtain ⟨ob, va⟩ := qo
            simp only at y0 y1 y2 y3 y4 y5 y6 hnv HTi
            obtain ⟨htx, av, cv, rfl, hov, hsv⟩ := hnv
            have HSv := Lib.hid hsv
            have hlv : (ob.args.length : Int) ≤ 140737488351232 := by have := hov.1; omega
            have HOv := Lib.hid hov
            clear hlqo hsv hov hil
            have hx7 := heap_alloc_new wr (.cells #[.int .i64 ob.kind, .int .i64 ob.d, .int .i64 ob.a, .int .i64 ob.b, .int .i64 ob.imm, .string ob.text, .slice av ob.args.length cv] 54)
            have hb7 := ba18 wr (.cells #[.int .i64 ob.kind, .int .i64 ob.d, .int .i64 ob.a, .int .i64 ob.b, .int .i64 ob.imm, .string ob.text, .slice av ob.args.length cv] 54)
            have hz7 := Nat.le_of_eq (show wr.heap.size + 1 = (wr.alloc (.cells #[.int .i64 ob.kind, .int .i64 ob.d, .int .i64 ob.a, .int .i64 ob.b, .int .i64 ob.imm, .string ob.text, .slice av ob.args.length cv] 54)).heap.size by simp)
            go_upto_region 11 with fail
            generalize World.alloc wr _ = w7 at *
            have HX7 := Lib.hid hx7
            have HB7 := Lib.hid hb7
            clear hb7 y0 y1 y2 y3 y4 y5 y6 d0 d1 d2 d3 d4 e0
            obtain ⟨⟨g0, g1, g2, g3, g4, g5, g6⟩, z6⟩ := seven18 hx7
            clear hx7
            have HVr := Lib.hid (show ∀ k, (Value.slice a5 i c5).ownBlock = some k → wo.heap.size + 1 ≤ k ∧ k < wr.heap.size from fun k e => HRi.out.1.lt k e)
            have hor : wo.heap.size < wr.heap.size := lt_of_heap HXi.out
            go_upto_if 51 with fail
            go_cut [54] (fun s54 wx => ∃ (v : Value) (va' : Value), s54 = v ∧ (∃ a n c, va' = .slice a n c) ∧ Hid (wx.heap[wr.heap.size]? = some (.cells #[.int .i64 ob.kind, .int .i64 ob.d, .int .i64 ob.a, .int .i64 ob.b, .int .i64 ob.imm, .string ob.text, va'] 54 (0, 0))) ∧ Hid (OpP (OffB (wo.heap.size + 1) wx (.slice a5 i c5)) wx (ob, va')) ∧ Hid (Below wr.heap.size wr wx))
            case first =>
              by_cases hn0 : ob.args = []
              · have t0 : ¬ ((0 : Int) < (ob.args.length : Int)) := by rw [hn0]; simp
                have HOp := Lib.hid (show OpP (OffB (wo.heap.size + 1) w7 (.slice a5 i c5)) w7 (ob, .slice av ob.args.length cv) from ⟨htx, av, cv, rfl, HOv.out, fun h => absurd hn0 h⟩)
                clear hn0
                go_wp2_with fail
                go_meet
                exact ⟨_, _, rfl, ⟨_, _, _, rfl⟩, HX7, HOp, HB7⟩
              · have t0 : (0 : Int) < (ob.args.length : Int) := by have := List.length_pos_iff.2 hn0; omega
                have hci := copyInts_ok av cv ob.args w7 ((HSv.out.below (HBw.out.trans (HB7.out.mono HBw.out.size)) (Nat.le_refl _)).mono (HBw.out.trans (HB7.out.mono HBw.out.size)).size) HOv.out.1 (fun e => ⟨List.eq_nil_of_length_eq_zero (HOv.out.2 e).1, (HOv.out.2 e).2⟩)
                have HCi := Lib.hid hci
                clear hci hn0
                go_wp2_with (go_at_call 23; (with_reducible refine HCi.out.mono ?_); rintro e w8 ⟨⟨v8, rfl, hown8⟩, hb8⟩; have hnp := nums_new (v5 := .slice a5 i c5) HOv.out.1 (fun k e => by have := (HVr.out k e).2; omega) (Nat.le_refl w7.heap.size) hown8; have HNp := Lib.hid hnp; obtain ⟨a8, n8, rfl, _⟩ := hnp; have HB8 := Lib.hid hb8; have hx8 := (hb8.block _ (lt_of_heap HX7.out)).trans HX7.out; have HX8 := Lib.hid hx8; clear g0 g1 g2 g3 g4 g5 g6 z6; obtain ⟨⟨g0, g1, g2, g3, g4, g5, g6⟩, z6⟩ := seven18 hx8; clear hx8 hown8 hb8)
                go_meet
                have hst := grn_set w8 wr.heap.size 6 (.slice a8 ob.args.length n8)
                exact ⟨_, _, rfl, ⟨_, _, _, rfl⟩, Lib.hid (heap_setCell_same _ _ 6 _ _ _ HX8.out), Lib.hid ⟨htx, HNp.out.keep (fun b ⟨h1, h2, h3⟩ => ⟨hst.block b h2 (fun e => by have := Option.some.inj e; omega), by omega, by simpa using h2, h3⟩)⟩, Lib.hid ((HB7.out.trans (HB8.out.mono HB7.out.size)).setCell (Nat.le_refl _) _)⟩
            case rest =>
              obtain ⟨v54, va', hu, ⟨av', nv', cv', rfl⟩, HX8, HOp8, HB8⟩ := hcut
              clear hu g0 g1 g2 g3 g4 g5 g6 z6
              obtain ⟨⟨g0, g1, g2, g3, g4, g5, g6⟩, _⟩ := seven18 HX8.out
              have HXi8 := Lib.hid ((HB8.out.block _ hor).trans HXi.out)
              obtain ⟨x50, _⟩ := six18 HXi8.out
              have HR8 := Lib.hid (HRi.out.kept (grn_blw none HB8.out) (by simp))
              have HBi8 := Lib.hid (HBi.out.trans (HB8.out.mono HBi.out.size))
              have hrow8 := HR8.out.1
              rw [hqi] at hrow8
              have HRw8 := Lib.hid hrow8
              have hw8 := HB8.out.size
              have HOne := Lib.hid (opCells_one (ob, .slice av' nv' cv') ⟨_, _, _, rfl⟩)
              have hil3 : (i + 1) * 80 ≤ 140737488355328 := by omega
              have hil4 : i + 1 ≤ maxLen := by unfold maxLen; omega
              have hba8 : wo.heap.size + 1 ≤ (wc.alloc (.cells #[.int .i64 ob.kind, .int .i64 ob.d, .int .i64 ob.a, .int .i64 ob.b, .int .i64 ob.imm, .string ob.text, .slice av' nv' cv'] 54)).heap.size := by simp; omega
              have HNum := Lib.hid (And.intro hil4 (And.intro hil3 hba8))
              clear hrow8 hil3 hil4 hba8
              go_wp2_with (at_builtin; go_loud (refine wpList_append_lies _ rfl _ _ _ rfl (wo.heap.size + 1) 54 i2 _ 7 80 Tryd.underlying39 HI2.out.1 HI2.out.2.1 HI2.out.2.2.1 HI2.out.2.2.2 rfl (by decide) _ i (Qi.flatMap opCells) rfl (HRw8.out.alloc _) ⟨_, 0, none⟩ 1 1 (opCells (ob, .slice av' nv' cv')) rfl rfl (World.news_of_block (cs := #[.int .i64 ob.kind, .int .i64 ob.d, .int .i64 ob.a, .int .i64 ob.b, .int .i64 ob.imm, .string ob.text, .slice av' nv' cv']) (heap_alloc_new _ _)) HOne.out (by decide) HNum.out.1 HNum.out.2.1 HNum.out.2.2 _ rfl ?_))
              intro g cap w11 hown hgr hg _
              have hs := ops_step HR8.out HOp8.out hqi HXi8.out HBi8.out hown hgr hg
              obtain ⟨⟨s0, s1⟩, r1, r2, r3⟩ := hs
              have HE1 := Lib.hid r1
              have HE2 := Lib.hid r2
              have HE3 := Lib.hid r3
              clear r1 r2 r3 hown hgr hg
              go_wp2_with fail
              go_roundg (bk.ops.length - (i + 1))
              case measure => omega
              case rel => exact ⟨i + 1, Qi ++ [(ob, .slice av' nv' cv')], _, by omega, by omega, by rw [Int.natCast_add]; rfl, by rw [List.length_append, hqi]; rfl, Lib.hid (by rw [List.map_append, HQi.out, HTi.out]; rfl), HE1, ⟨_, _, rfl⟩, HE2, HE3⟩
          · obtain rfl : i = bk.ops.length := by omega
            have hi2 : (bk.ops.length : Int) ≤ (bk.ops.length : Int) := Int.le_refl _
            have hops5 := (HRi.out.is (by omega))
            rw [HQi.out, List.take_length] at hops5
            have HRo := Lib.hid (HRow.out.kept (grn_blw none HBi.out) (by simp))
            have hro := HRo.out.1
            rw [hqn] at hro
            have HRw := Lib.hid hro
            have HOwn := Lib.hid (fun k e => (HRow.out.1.lt k e))
            have HO5 := Lib.hid (show OpsP (OffB WS.heap.size wr (.slice ar j cr)) wr (.slice a5 bk.ops.length c5) bk.ops from hops5.keep (fun b ⟨h1, h2⟩ => ⟨rfl, by have := HW.out.size; omega, h2, fun e => by have := (HOwn.out b e).2; omega⟩))
            have hx6 := six18 HXi.out
            obtain ⟨x50, x51, x52, x53, x54, x55⟩ := hx6
            have HOne := Lib.hid (blkCells_one (bk, .slice a5 bk.ops.length c5) ⟨_, _, _, rfl⟩)
            have hil3 : (j + 1) * 64 ≤ 140737488355328 := by omega
            have hil4 : j + 1 ≤ maxLen := by unfold maxLen; omega
            have hba8 : WS.heap.size ≤ (wr.alloc (.cells #[.slice a5 bk.ops.length c5, .int .i64 bk.exit.kind, .int .i64 bk.exit.a, .int .i64 bk.exit.d, .int .i64 bk.exit.to, .int .i64 bk.exit.els] 41)).heap.size := by have := HBc.out.size; simp; omega
            have HNum := Lib.hid (And.intro hil4 (And.intro hil3 hba8))
            clear hops5 hro hil3 hil4 hba8 hil
            go_wp2_with (at_builtin; go_loud (refine wpList_append_lies _ rfl _ _ _ rfl WS.heap.size 41 i1 _ 6 64 Tryd.underlying33 HI1.out.1 HI1.out.2.1 HI1.out.2.2.1 HI1.out.2.2.2 rfl (by decide) _ j (Qn.flatMap blkCells) rfl (HRw.out.alloc _) ⟨_, 0, none⟩ 1 1 (blkCells (bk, .slice a5 bk.ops.length c5)) rfl rfl (World.news_of_block (cs := #[.slice a5 bk.ops.length c5, .int .i64 bk.exit.kind, .int .i64 bk.exit.a, .int .i64 bk.exit.d, .int .i64 bk.exit.to, .int .i64 bk.exit.els]) (heap_alloc_new _ _)) HOne.out (by decide) HNum.out.1 HNum.out.2.1 HNum.out.2.2 _ rfl ?_))
            intro g cap w11 hown hgr hg _
            have hs := blks_step HRo.out HO5.out hqn HBc.out hown hgr hg
            obtain ⟨r1, r2⟩ := hs
            have HE1 := Lib.hid r1
            have HE2 := Lib.hid r2
            clear r1 r2 hown hgr hg
            go_wp2_with fail
            go_roundg (f.blocks.length - (j + 1))
            case measure => omega
            case rel => exact ⟨j + 1, Qn ++ [(bk, .slice a5 bk.ops.length c5)], by omega, by omega, by rw [Int.natCast_add]; rfl, by rw [List.length_append, hqn]; rfl, Lib.hid (by rw [List.map_append, HQn.out, HTk.out]; rfl), HE1, ⟨_, _, rfl⟩, HE2⟩
      · obtain rfl : j = f.blocks.length := by omega
        have hi2 : (f.blocks.length : Int) ≤ (f.blocks.length : Int) := Int.le_refl _
        obtain ⟨h1, h2, h3⟩ := cp_end HCp.out HW.out HRow.out (by rw [HQn.out, List.take_length]) (by omega) HNm.out
        obtain ⟨_, _, _, _, _, fz4⟩ := five18 ((HW.out.block _ (show w.heap.size < WS.heap.size by omega)).trans HCp.out.xb)
        obtain ⟨⟨p0, p1, p2, p3, p4⟩, _⟩ := five18 h1
        obtain ⟨⟨q0, q1, q2, q3, q4⟩, z0, z1, z2, z3, z4⟩ := five18 h2
        have H3 := Lib.hid h3
        clear hlt h1 h2 h3
        go_wp2_with fail
        obtain ⟨hx, hfn, hbw⟩ := H3.out _ rfl
        generalize World.setCell _ _ _ = W at *
        refine bodyPost_ret (v := .agg #[.string f.name, .int .i64 f.params, .int .i64 f.regs, .slice a3 n3 c3, .slice ar f.blocks.length cr]) (by simp [results, Tryd.results7, go_sem, World.cell?, hx]) rfl ?_
        exact ⟨⟨_, _, rfl, hfn⟩, hbw⟩
theorem copyFunc_ok (f : IrF) (vs vb : Value) (w : World) (hF : IsFn w.heap.size w f vs vb) (hb : f.blocks.length ≤ 4096) (ho : ∀ b ∈ f.blocks, b.ops.length ≤ 4096) :
    Calls Tryd.prog 7 #[fnV f vs vb] w fun e w' => (∃ vs' vb', e = .returned (fnV f vs' vb') ∧ FnP (NewB w.heap.size w') w' f vs' vb') ∧ Below w.heap.size w w' :=
  (copyFunc_own f vs vb w hF hb ho).mono fun _ _ ⟨⟨vs', vb', e, h⟩, hb⟩ => ⟨⟨vs', vb', e, h.p⟩, hb⟩
end Go.Proofs.YtlomdlblohnfmaaDoor

