/- A unit copied: rows that grow in a box. · A unit of one's own, written to: a parameter, a node. -/
import Derived.Test.YtbbaooeioogijaaDoorMg29
import Derived.Test.YtbbaooeioogijaaDoorMg28
namespace Go.Proofs.YtbbaooeioogijaaDoor
open Go.RowKit

theorem grn_setU (W : World) (b j : Nat) (v : Value) : W.grownBy (W.setCell ⟨b, j, none⟩ v) (some b) :=
  ⟨rfl, rfl, rfl, by simp, fun k _ hne => Below.heap_setCell _ _ _ _ (fun e => hne (by rw [e]))⟩
theorem set_blkU {w : World} {b i : Nat} {c : Array Value} {T : TypeId} (h : w.heap[b]? = some (.cells c T (0, 0))) (v : Value) : (w.setCell ⟨b, i, none⟩ v).heap[b]? = some (.cells (c.setIfInBounds i v) T (0, 0)) := by
  simp [World.setCell, Array.getElem?_modify, h]
theorem box_stepU {wB wx w11 : World} {o : Obj} {r3 j : Nat} {c : Array Value} {vj : Value} {T : TypeId} (hr3 : r3 < wB.heap.size) (hX : wx.heap[r3]? = some (.cells c T (0, 0))) (hj : c[j]? = some vj) (hG : wB.grownBy wx (some r3)) (hrow : ∀ b, vj.ownBlock = some b → wB.heap.size ≤ b) (hgr : (wx.alloc o).grownBy w11 vj.ownBlock) (v' : Value) :
    (w11.cell? ⟨r3, j, none⟩ = some vj ∧ w11.frozen? ⟨r3, j, none⟩ = false) ∧ (w11.setCell ⟨r3, j, none⟩ v').heap[r3]? = some (.cells (c.setIfInBounds j v') T (0, 0)) ∧ w11.grownBy (w11.setCell ⟨r3, j, none⟩ v') (some r3) ∧ wB.grownBy (w11.setCell ⟨r3, j, none⟩ v') (some r3) := by
  have hlt : r3 < (wx.alloc o).heap.size := by have := lt_of_heap hX; simp; omega
  have hne : some r3 ≠ vj.ownBlock := fun e => by have := hrow _ e.symm; omega
  have hX11 : w11.heap[r3]? = some (.cells c T (0, 0)) := (hgr.block _ hlt hne).trans (((ba1 wx o).block _ (lt_of_heap hX)).trans hX)
  have hst := grn_setU w11 r3 j v'
  have hg11 : wB.grownBy w11 (some r3) := by
    have h1 := hG.trans (World.grownBy_alloc wx o (some r3))
    exact ⟨hgr.os.trans h1.os, hgr.tape.trans h1.tape, hgr.output.trans h1.output, Nat.le_trans h1.size hgr.size, fun b hb hn => (hgr.block b (Nat.lt_of_lt_of_le hb h1.size) (fun e => by have := hrow b e.symm; omega)).trans (h1.block b hb hn)⟩
  exact ⟨⟨by simp [World.cell?, hX11, hj], by simp [World.frozen?, hX11]⟩, set_blkU hX11 v', hst, hg11.trans hst⟩
theorem rowU_box {α : Type} {T TU : TypeId} {k : Nat} {cells : α → List Value} {Ok : (Nat → Prop) → World → α → Prop} (hk : KeepOkU Ok) {wB wx w11 : World} {o : Obj} {r3 j : Nat} {c : Array Value} {v0 : Value} {i g cap : Nat} {Qn : List α} {q : α}
    (hr3 : r3 < wB.heap.size) (hR : RowU T k cells Ok wB.heap.size wx v0 Qn) (hq : Ok (OffU wB.heap.size wx v0) wx q) (hi : Qn.length = i) (hX : wx.heap[r3]? = some (.cells c TU (0, 0))) (hj : c[j]? = some v0) (hG : wB.grownBy wx (some r3))
    (hown : w11.ownsRow wB.heap.size T k (.slice (some ⟨g, 0, none⟩) (i + 1) cap) (i + 1) (Qn.flatMap cells ++ cells q)) (hgr : (wx.alloc o).grownBy w11 v0.ownBlock) (hg : v0.ownBlock = some g ∨ g = wx.heap.size + 1) :
    (w11.cell? ⟨r3, j, none⟩ = some v0 ∧ w11.frozen? ⟨r3, j, none⟩ = false) ∧ RowU T k cells Ok wB.heap.size (w11.setCell ⟨r3, j, none⟩ (.slice (some ⟨g, 0, none⟩) (i + 1) cap)) (.slice (some ⟨g, 0, none⟩) (i + 1) cap) (Qn ++ [q]) ∧
      (w11.setCell ⟨r3, j, none⟩ (.slice (some ⟨g, 0, none⟩) (i + 1) cap)).heap[r3]? = some (.cells (c.setIfInBounds j (.slice (some ⟨g, 0, none⟩) (i + 1) cap)) TU (0, 0)) ∧ wB.grownBy (w11.setCell ⟨r3, j, none⟩ (.slice (some ⟨g, 0, none⟩) (i + 1) cap)) (some r3) := by
  have ga := World.grownBy_alloc wx o none
  have hR10 := hR.kept hk ga (fun r e => by cases e)
  have hq10 := hk _ _ _ _ _ hq (keep_offU ga (fun r e => by cases e))
  have hrow := hR10.step hk hq10 hi hown hgr (by rcases hg with h | h; exact .inl h; exact .inr (by rw [h]; simp))
  obtain ⟨h1, h2, h3, h4⟩ := box_stepU hr3 hX hj hG (fun b e => (hR.1.lt b e).1) hgr (.slice (some ⟨g, 0, none⟩) (i + 1) cap)
  exact ⟨h1, hrow.kept hk h3 (fun r e => by cases e; exact hr3), h2, h4⟩
theorem fnsC_box {TU : TypeId} {wB wx w11 : World} {o : Obj} {r3 j : Nat} {c : Array Value} {v0 : Value} {i g cap : Nat} {Qn : List (FnU × Value × Value)} {q : FnU × Value × Value}
    (hr3 : r3 < wB.heap.size) (hR : FnsC wB.heap.size wx v0 Qn) (hq : FnC wB.heap.size wx q) (hv : ∀ k, BlkU q k → v0.ownBlock ≠ some k) (hn : ∀ x ∈ Qn, ApartU x q) (hi : Qn.length = i) (hX : wx.heap[r3]? = some (.cells c TU (0, 0))) (hj : c[j]? = some v0) (hG : wB.grownBy wx (some r3))
    (hown : w11.ownsRow wB.heap.size 44 5 (.slice (some ⟨g, 0, none⟩) (i + 1) cap) (i + 1) (Qn.flatMap fnUCells ++ fnUCells q)) (hgr : (wx.alloc o).grownBy w11 v0.ownBlock) (hg : v0.ownBlock = some g ∨ g = wx.heap.size + 1) :
    (w11.cell? ⟨r3, j, none⟩ = some v0 ∧ w11.frozen? ⟨r3, j, none⟩ = false) ∧ FnsC wB.heap.size (w11.setCell ⟨r3, j, none⟩ (.slice (some ⟨g, 0, none⟩) (i + 1) cap)) (.slice (some ⟨g, 0, none⟩) (i + 1) cap) (Qn ++ [q]) ∧
      (w11.setCell ⟨r3, j, none⟩ (.slice (some ⟨g, 0, none⟩) (i + 1) cap)).heap[r3]? = some (.cells (c.setIfInBounds j (.slice (some ⟨g, 0, none⟩) (i + 1) cap)) TU (0, 0)) ∧ wB.grownBy (w11.setCell ⟨r3, j, none⟩ (.slice (some ⟨g, 0, none⟩) (i + 1) cap)) (some r3) := by
  have ga := World.grownBy_alloc wx o none
  have hR10 := hR.kept ga (fun r e => by cases e)
  have hq10 := hq.kept ga (fun r e => by cases e)
  have hrow := hR10.step hq10 hv hn hi hown hgr (by rcases hg with h | h; exact .inl h; exact .inr (by rw [h]; simp))
  obtain ⟨h1, h2, h3, h4⟩ := box_stepU hr3 hX hj hG (fun b e => (hR.1.lt b e).1) hgr (.slice (some ⟨g, 0, none⟩) (i + 1) cap)
  exact ⟨h1, hrow.kept h3 (fun r e => by cases e; exact hr3), h2, h4⟩
/-- members made anew -/
theorem flat_me : ∀ ms : List (ByteArray × ByteArray), flat2 (pairM ms) = ms.flatMap meCells
  | [] => rfl
  | m :: ms => by
    have := flat_me ms
    simp only [pairM, List.map_cons, flat2, List.flatMap_cons, meCells] at *
    rw [this]
    rfl
theorem srs_next {wB wr w3 w5 : World} {o : Obj} {r3 i g cap : Nat} {c : Array Value} {v0 v1 : Value} {Qn : List (Sr × Value)} {x : Sr} {TU : TypeId} (hr3 : r3 < wB.heap.size) (hR : SrsRowU wB.heap.size wr v0 Qn) (hi : Qn.length = i) (hX : wr.heap[r3]? = some (.cells c TU (0, 0))) (hj : c[0]? = some v0) (hG : wB.grownBy wr (some r3)) (hnm : x.name.size ≤ maxLen) (hz : x.mems.length * 32 ≤ 140737488351232)
    (h3 : Below wr.heap.size wr w3) (hown1 : w3.ownsRow wr.heap.size 151 2 v1 x.mems.length (flat2 (pairM x.mems)))
    (hown : w5.ownsRow wB.heap.size 75 2 (.slice (some ⟨g, 0, none⟩) (i + 1) cap) (i + 1) (Qn.flatMap srCellsU ++ [.string x.name, v1])) (hgr : (w3.alloc o).grownBy w5 v0.ownBlock) (hg : v0.ownBlock = some g ∨ g = w3.heap.size + 1) :
    (w5.cell? ⟨r3, 0, none⟩ = some v0 ∧ w5.frozen? ⟨r3, 0, none⟩ = false) ∧ SrsRowU wB.heap.size (w5.setCell ⟨r3, 0, none⟩ (.slice (some ⟨g, 0, none⟩) (i + 1) cap)) (.slice (some ⟨g, 0, none⟩) (i + 1) cap) (Qn ++ [(x, v1)]) ∧
      (w5.setCell ⟨r3, 0, none⟩ (.slice (some ⟨g, 0, none⟩) (i + 1) cap)).heap[r3]? = some (.cells (c.setIfInBounds 0 (.slice (some ⟨g, 0, none⟩) (i + 1) cap)) TU (0, 0)) ∧ wB.grownBy (w5.setCell ⟨r3, 0, none⟩ (.slice (some ⟨g, 0, none⟩) (i + 1) cap)) (some r3) := by
  rw [flat_me] at hown1
  obtain ⟨a, cap1, e, hc1, hc2, hs, hn⟩ := own_slU me_lenU hown1 rfl
  have hBr := hG.size
  refine rowU_box srP_keep hr3 (hR.kept srP_keep (grn_blwU none h3) (fun r e => by cases e)) (q := (x, v1)) ⟨hnm, a, cap1, e, ⟨hz, hc1, hc2, hn⟩, hs.keep (fun b hb => ⟨rfl, by have := hb.2.1; omega, hb.2.2, fun e => by have := (hR.1.lt b e).2; have := hb.2.1; omega⟩)⟩ hi ((h3.block _ (lt_of_heap hX)).trans hX) hj (hG.trans (grn_blwU (some r3) h3)) hown hgr hg
/-- a tree's copy put behind trees -/
theorem trs_push {w5 wr w6 w11 : World} {o : Obj} {k g cap : Nat} {v7 v6 : Value} {T : List Nd} {Qt : List (List Nd × Value)} {at_ : Option Addr} {ct : Nat} (hB : w5.heap.size ≤ wr.heap.size) (hR : TrsRowU w5.heap.size wr v7 Qt) (hot : SlK 64 at_ T.length ct) (hvt : ∀ x ∈ T, NdOk x) (hk : Qt.length = k) (hown6 : NdRow w6 wr.heap.size v6 T) (hb6 : Below wr.heap.size wr w6)
    (hown : w11.ownsRow w5.heap.size 42 1 (.slice (some ⟨g, 0, none⟩) (k + 1) cap) (k + 1) (Qt.flatMap trCells ++ [v6])) (hgr : (w6.alloc o).grownBy w11 v7.ownBlock) (hg : v7.ownBlock = some g ∨ g = (w6.alloc o).heap.size) : TrsRowU w5.heap.size w11 (.slice (some ⟨g, 0, none⟩) (k + 1) cap) (Qt ++ [(T, v6)]) := by
  have hb := hb6.trans ((ba1 w6 o).mono hb6.size)
  have hR2 := hR.kept trP_keep (grn_blwU none hb) (fun r e => by cases e)
  obtain ⟨a, c, e, hc1, hc2, hs, hn⟩ := own_slU nd_len hown6 rfl
  have hq : TrPU (OffU w5.heap.size (w6.alloc o) v7) (w6.alloc o) (T, v6) := by
    refine ⟨a, c, e, ⟨hot.1, hc1, hc2, hn⟩, hs.keep (fun b h => ⟨(ba1 w6 o).block b h.2.2, ?_, ?_, ?_⟩), hvt⟩
    · have := h.2.1
      omega
    · have := (ba1 w6 o).size; have := h.2.2; omega
    · intro e
      have := (hR.1.lt b e).2
      have := h.2.1
      omega
  exact hR2.step trP_keep hq hk hown hgr hg
theorem glU_oneU (q : GlU × Value) (h : ∃ a n c, q.2 = .slice a n c) : ∀ u ∈ glUCells q, u.oneCell' = true := fun u hu => by
  obtain ⟨a, n, c, e⟩ := h
  simp only [glUCells, e, List.mem_cons, List.not_mem_nil, or_false] at hu
  rcases hu with rfl | rfl | rfl | rfl | rfl <;> rfl
/-- a global's box, its trees copied -/
theorem gl_set {wo w5 wr : World} {B : Nat} {v1 v7 vo : Value} {ga : Int} {gn gt : ByteArray} {gv : Bool} {L : List (List Nd)} (hvr : VrOk ⟨gn, gt, gv⟩) (hat : i64In ga) (hX : wr.heap[wo.heap.size]? = some (.cells #[.int .i64 ga, .string gn, .string gt, .bool gv, vo] 66 (0, 0))) (hb : Below wo.heap.size wo wr)
    (hz5 : wo.heap.size + 1 ≤ w5.heap.size) (_hz : w5.heap.size ≤ wr.heap.size) (hT : TrsP (fun b => w5.heap.size ≤ b ∧ b < wr.heap.size) wr v7 L) (hv1 : ∀ b, v1.ownBlock = some b → b < wo.heap.size) (hB : B ≤ wo.heap.size) :
    (wr.setCell ⟨wo.heap.size, 4, none⟩ v7).heap[wo.heap.size]? = some (.cells #[.int .i64 ga, .string gn, .string gt, .bool gv, v7] 66 (0, 0)) ∧ Below wo.heap.size wo (wr.setCell ⟨wo.heap.size, 4, none⟩ v7) ∧ GlPU (OffU B (wr.setCell ⟨wo.heap.size, 4, none⟩ v7) v1) (wr.setCell ⟨wo.heap.size, 4, none⟩ v7) (⟨ga, ⟨gn, gt, gv⟩, L⟩, v7) := by
  refine ⟨by simpa using set_blkU (i := 4) hX v7, hb.setCell (Nat.le_refl _) _, hvr, hat, hT.keep (fun b h => ⟨Below.heap_setCell _ _ _ _ (show b ≠ wo.heap.size by have := h.1; omega), by have := h.1; omega, by have := h.2; simpa using this, fun e => by have := hv1 b e; have := h.1; omega⟩)⟩
/-- a function's box, its parameters copied -/
theorem par_set {wo w5 W : World} {fi : FnU} {vo vb v8 : Value} (hX : w5.heap[wo.heap.size]? = some (.cells #[.int .i64 fi.at_, .string fi.name, .string fi.type, vo, vb] 44 (0, 0))) (hb5 : Below wo.heap.size wo w5) (hlt : wo.heap.size < w5.heap.size) (hb : Below w5.heap.size w5 W)
    (hown : W.ownsRow w5.heap.size 46 3 v8 fi.params.length (fi.params.flatMap vrCells)) :
    (W.setCell ⟨wo.heap.size, 3, none⟩ v8).heap[wo.heap.size]? = some (.cells #[.int .i64 fi.at_, .string fi.name, .string fi.type, v8, vb] 44 (0, 0)) ∧ (W.setCell ⟨wo.heap.size, 3, none⟩ v8).ownsRow w5.heap.size 46 3 v8 fi.params.length (fi.params.flatMap vrCells) ∧ Below wo.heap.size wo (W.setCell ⟨wo.heap.size, 3, none⟩ v8) ∧ W.cell? ⟨wo.heap.size, 3, none⟩ = some vo ∧ W.frozen? ⟨wo.heap.size, 3, none⟩ = false := by
  have hXW := (hb.block _ hlt).trans hX
  refine ⟨by simpa using set_blkU (i := 3) hXW v8, own_keptU hown (grn_setU W wo.heap.size 3 v8) (fun r e hv => by cases e; have := (hown.lt _ hv).1; omega), (hb5.trans (hb.mono hb5.size)).setCell (Nat.le_refl _) _, by simp [World.cell?, hXW], by simp [World.frozen?, hXW]⟩
/-- its body copied too -/
theorem fn_new {B : Nat} {wF wo w5 wX w8 w0 : World} {fi : FnU} {vp vb vp' vo vb' : Value} (hf : IsFnU B w0 fi vp vb) (hop : wX.ownsRow w5.heap.size 46 3 vp' fi.params.length (fi.params.flatMap vrCells)) (hbX : Below wo.heap.size wo wX) (hX : wX.heap[wo.heap.size]? = some (.cells #[.int .i64 fi.at_, .string fi.name, .string fi.type, vp', vo] 44 (0, 0)))
    (hlt : wo.heap.size < w5.heap.size) (hb8 : Below wX.heap.size wX w8) (hown8 : NdRow w8 wX.heap.size vb' fi.body) (hB : wF.heap.size ≤ wo.heap.size) :
    (w8.setCell ⟨wo.heap.size, 4, none⟩ vb').heap[wo.heap.size]? = some (.cells #[.int .i64 fi.at_, .string fi.name, .string fi.type, vp', vb'] 44 (0, 0)) ∧ Below wo.heap.size wo (w8.setCell ⟨wo.heap.size, 4, none⟩ vb') ∧ FnC wF.heap.size (w8.setCell ⟨wo.heap.size, 4, none⟩ vb') (fi, vp', vb') ∧ (∀ k, BlkU (fi, vp', vb') k → wo.heap.size ≤ k) ∧ w8.cell? ⟨wo.heap.size, 4, none⟩ = some vo ∧ w8.frozen? ⟨wo.heap.size, 4, none⟩ = false := by
  obtain ⟨ap, cp, _, h1, _, h2⟩ := hf.params
  obtain ⟨ab, cb, _, h3, _, h4⟩ := hf.body
  have hXl := lt_of_heap hX
  have hX8 := (hb8.block _ hXl).trans hX
  have hg := grn_setU w8 wo.heap.size 4 vb'
  have hp : ∀ k, vp'.ownBlock = some k → w5.heap.size ≤ k ∧ k < wX.heap.size := fun k hk => hop.lt k hk
  have hb : ∀ k, vb'.ownBlock = some k → wX.heap.size ≤ k := fun k hk => (hown8.lt k hk).1
  have hop8 := own_keptU (hop.belowed hb8) hg (fun r e hv => by cases e; have := (hp _ hv).1; omega)
  have hob8 := own_keptU hown8 hg (fun r e hv => by cases e; have := hb _ hv; omega)
  refine ⟨by simpa using set_blkU (i := 4) hX8 vb', (hbX.trans (hb8.mono hbX.size)).setCell (Nat.le_refl _) _, ⟨hf.name, hf.type, hf.at_, h1.1, h2, h3.1, h4, own_move hop8 (by omega) (fun _ _ => rfl), own_move hob8 (by omega) (fun _ _ => rfl), fun k hk hk' => ?_⟩, fun k hk => ?_, by simp [World.cell?, hX8], by simp [World.frozen?, hX8]⟩
  · have := (hp k hk).2
    have := hb k hk'
    omega
  · rcases hk with hk | hk
    · have := (hp k hk).1; omega
    · have := hb k hk; omega
theorem fnU_oneU (q : FnU × Value × Value) (h1 : ∃ a n c, q.2.1 = .slice a n c) (h2 : ∃ a n c, q.2.2 = .slice a n c) : ∀ u ∈ fnUCells q, u.oneCell' = true := fun u hu => by
  obtain ⟨a, n, c, e⟩ := h1
  obtain ⟨a2, n2, c2, e2⟩ := h2
  simp only [fnUCells, e, e2, List.mem_cons, List.not_mem_nil, or_false] at hu
  rcases hu with rfl | rfl | rfl | rfl | rfl <;> rfl
/-- the copy handed out -/
theorem unC_end {w w3 wG wF wr : World} {u : UnU} {r3 : Nat} {v0 v1 v2 : Value} {Qf : List (FnU × Value × Value)} (hB : Below w.heap.size w wr) (hX1 : wr.heap[w.heap.size + 1]? = some (.cells #[.slice none 0 0, .slice none 0 0, .slice none 0 0] 26 (0, 0))) (h3 : w.heap.size + 2 ≤ w3.heap.size) (hr3 : r3 < w3.heap.size)
    (hS : StsP (fun b => w3.heap.size ≤ b ∧ b < wG.heap.size) wF v0 u.structs) (hGl : GlsP (fun b => wG.heap.size ≤ b ∧ b < wF.heap.size) wF v1 u.globals) (h3G : w3.heap.size ≤ wG.heap.size) (hGF : wG.heap.size ≤ wF.heap.size) (hG : wF.grownBy wr (some r3)) (hF : FnsC wF.heap.size wr v2 Qf) (hQ : Qf.map Prod.fst = u.funcs) (hz : u.funcs.length * 88 ≤ 140737488351232) :
    (((wr.setCell ⟨w.heap.size + 1, 0, none⟩ v0).setCell ⟨w.heap.size + 1, 1, none⟩ v1).setCell ⟨w.heap.size + 1, 2, none⟩ v2).heap[w.heap.size + 1]? = some (.cells #[v0, v1, v2] 26 (0, 0)) ∧
    UnC w.heap.size (((wr.setCell ⟨w.heap.size + 1, 0, none⟩ v0).setCell ⟨w.heap.size + 1, 1, none⟩ v1).setCell ⟨w.heap.size + 1, 2, none⟩ v2) u v0 v1 v2 wF.heap.size Qf ∧
    Below w.heap.size w (((wr.setCell ⟨w.heap.size + 1, 0, none⟩ v0).setCell ⟨w.heap.size + 1, 1, none⟩ v1).setCell ⟨w.heap.size + 1, 2, none⟩ v2) := by
  have hg : wr.grownBy (((wr.setCell ⟨w.heap.size + 1, 0, none⟩ v0).setCell ⟨w.heap.size + 1, 1, none⟩ v1).setCell ⟨w.heap.size + 1, 2, none⟩ v2) (some (w.heap.size + 1)) := ((grn_setU _ _ _ _).trans (grn_setU _ _ _ _)).trans (grn_setU _ _ _ _)
  have hx : (((wr.setCell ⟨w.heap.size + 1, 0, none⟩ v0).setCell ⟨w.heap.size + 1, 1, none⟩ v1).setCell ⟨w.heap.size + 1, 2, none⟩ v2).heap[w.heap.size + 1]? = some (.cells #[v0, v1, v2] 26 (0, 0)) := by
    have := set_blkU (i := 2) (set_blkU (i := 1) (set_blkU (i := 0) hX1 v0) v1) v2
    simpa using this
  have hb := ((hB.setCell (p := ⟨w.heap.size + 1, 0, none⟩) (Nat.le_succ _) v0).setCell (p := ⟨w.heap.size + 1, 1, none⟩) (Nat.le_succ _) v1).setCell (p := ⟨w.heap.size + 1, 2, none⟩) (Nat.le_succ _) v2
  refine ⟨hx, ?_, hb⟩
  generalize World.setCell _ _ _ = W at *
  have hsz := hG.size
  have key : ∀ b, w3.heap.size ≤ b → b < wF.heap.size → W.heap[b]? = wF.heap[b]? := fun b h1 h2 => by
    rw [hg.block b (by omega) (fun e => by have := Option.some.inj e; omega), hG.block b h2 (fun e => by have := Option.some.inj e; omega)]
  exact ⟨hS.keep (fun b h => ⟨key b h.1 (by have := h.2; omega), by have := h.1; omega, by have := h.2; omega⟩), hGl.keep (fun b h => ⟨key b (by have := h.1; omega) h.2, by have := h.1; omega, h.2⟩), hF.kept hg (fun r e => by cases e; omega), hQ, hz, by omega, Nat.le_trans hsz hg.size⟩
end Go.Proofs.YtbbaooeioogijaaDoor
namespace Go.Proofs.YtbbaooeioogijaaDoor
open Go.RowKit

theorem flat_set1 {α : Type} {k : Nat} {cells : α → List Value} (hk : ∀ a, (cells a).length = k) {x x' : α} {j : Nat} {u : Value} (hj : j < k) (hc : cells x' = (cells x).set j u) : ∀ (L : List α) (i : Nat), L[i]? = some x → (L.flatMap cells).set (i * k + j) u = (L.set i x').flatMap cells
  | [], _, h => by simp at h
  | y :: L, 0, h => by
    obtain rfl : y = x := by simpa using h
    rw [List.set_cons_zero, List.flatMap_cons, List.flatMap_cons, hc, Nat.zero_mul, Nat.zero_add, List.set_append_left _ _ (by rw [hk]; exact hj)]
  | y :: L, i + 1, h => by
    rw [List.set_cons_succ, List.flatMap_cons, List.flatMap_cons, ← flat_set1 hk hj hc L i (by simpa using h), List.set_append_right _ _ (by rw [hk, Nat.add_mul]; omega), hk]
    congr 2
    rw [Nat.add_mul]
    omega
theorem own_set1 {α : Type} {k : Nat} {cells : α → List Value} (hk : ∀ a, (cells a).length = k) {w : World} {base n g cap i j : Nat} {T : TypeId} {L : List α} {x x' : α} {u : Value} (h : w.ownsRow base T k (.slice (some ⟨g, 0, none⟩) n cap) n (L.flatMap cells)) (hj : j < k) (hc : cells x' = (cells x).set j u) (hx : L[i]? = some x) :
    (w.setCell ⟨g, i * k + j, none⟩ u).ownsRow base T k (.slice (some ⟨g, 0, none⟩) n cap) n ((L.set i x').flatMap cells) := by
  rw [← flat_set1 hk hj hc L i hx]
  exact own_put h
theorem flat_same {α : Type} {cells : α → List Value} {x x' : α} (hc : cells x' = cells x) : ∀ (L : List α) (i : Nat), L[i]? = some x → (L.set i x').flatMap cells = L.flatMap cells
  | [], _, h => by simp at h
  | y :: L, 0, h => by
    obtain rfl : y = x := by simpa using h
    rw [List.set_cons_zero, List.flatMap_cons, List.flatMap_cons, hc]
  | y :: L, i + 1, h => by
    rw [List.set_cons_succ, List.flatMap_cons, List.flatMap_cons, flat_same hc L i (by simpa using h)]
theorem FnsC.put {B : Nat} {w w' : World} {v : Value} {Q : List (FnU × Value × Value)} (h : FnsC B w v Q) {j k : Nat} {q q' : FnU × Value × Value} (hq : Q[j]? = some q) (hs : q'.2 = q.2) (hc : fnUCells q' = fnUCells q) (hg : w.grownBy w' (some k)) (hk : BlkU q k) (hq' : FnC B w' q') : FnsC B w' v (Q.set j q') := by
  have hbl : ∀ b, BlkU q' b ↔ BlkU q b := fun b => by unfold BlkU; rw [hs]
  have hjl := (List.getElem?_eq_some_iff.1 hq).1
  have hpw := List.pairwise_iff_getElem.1 h.2.2
  have hap : ∀ (a b : Nat) (x y : FnU × Value × Value), Q[a]? = some x → Q[b]? = some y → a ≠ b → ApartU x y := fun a b x y ha hb hne => by
    obtain ⟨ha1, rfl⟩ := List.getElem?_eq_some_iff.1 ha
    obtain ⟨hb1, rfl⟩ := List.getElem?_eq_some_iff.1 hb
    rcases Nat.lt_or_gt_of_ne hne with h1 | h1
    · exact hpw a b ha1 hb1 h1
    · exact fun c hc hc' => hpw b a hb1 ha1 h1 c hc' hc
  refine ⟨?_, fun x hx => ?_, ?_⟩
  · rw [List.length_set, flat_same hc Q j hq]
    exact own_keptU h.1 hg (fun r e => by cases e; exact (h.2.1 q (List.mem_of_getElem? hq)).2 k hk)
  · obtain ⟨a, ha⟩ := List.mem_iff_getElem?.1 hx
    by_cases e : j = a
    · subst e
      rw [List.getElem?_set_self hjl] at ha
      obtain rfl := Option.some.inj ha
      exact ⟨hq', fun b hb => (h.2.1 q (List.mem_of_getElem? hq)).2 b ((hbl b).1 hb)⟩
    · rw [List.getElem?_set_ne e] at ha
      obtain ⟨h1, h2⟩ := h.2.1 x (List.mem_of_getElem? ha)
      exact ⟨h1.kept hg (fun r e' hb => by cases e'; exact hap j a q x hq ha e k hk hb), h2⟩
  · rw [List.pairwise_iff_getElem]
    intro a b ha hb hlt c hc1 hc2
    rw [List.length_set] at ha hb
    have key : ∀ (a : Nat) (ha : a < Q.length) (ha' : a < (Q.set j q').length), BlkU (Q.set j q')[a] c → BlkU Q[a] c := fun a ha ha' hb => by
      rw [List.getElem_set] at hb
      split at hb
      · rename_i e
        subst e
        rw [List.getElem?_eq_getElem ha] at hq
        obtain rfl := Option.some.inj hq
        exact (hbl c).1 hb
      · exact hb
    exact hpw a b ha hb hlt c (key a ha _ hc1) (key b hb _ hc2)
theorem fnU_same {q q' : FnU × Value × Value} (h1 : q'.1.at_ = q.1.at_) (h2 : q'.1.name = q.1.name) (h3 : q'.1.type = q.1.type) (h4 : q'.2 = q.2) : fnUCells q' = fnUCells q := by
  unfold fnUCells
  rw [h1, h2, h3, h4]
/-- a function of a unit of one's own, written to -/
theorem UnC.put {B M : Nat} {w w' : World} {u : UnU} {vs vg vf : Value} {Q : List (FnU × Value × Value)} (h : UnC B w u vs vg vf M Q) {j k : Nat} {q q' : FnU × Value × Value} (hq : Q[j]? = some q) (hs : q'.2 = q.2) (hc : fnUCells q' = fnUCells q) (hg : w.grownBy w' (some k)) (hk : BlkU q k) (hq' : FnC M w' q') : UnC B w' ⟨u.structs, u.globals, u.funcs.set j q'.1⟩ vs vg vf M (Q.set j q') := by
  have hkM : M ≤ k := ((h.funcs.2.1 q (List.mem_of_getElem? hq)).1.lt hk).1
  have hkp : KeepPU (fun b => B ≤ b ∧ b < M) (fun b => B ≤ b ∧ b < M) w w' := fun b hb => ⟨hg.block b (Nat.lt_of_lt_of_le hb.2 h.low.2) (fun e => by have := Option.some.inj e; have := hb.2; omega), hb⟩
  exact ⟨h.structs.keep hkp, h.globals.keep hkp, h.funcs.put hq hs hc hg hk hq', by rw [List.map_set, h.fns], by rw [List.length_set]; exact h.few, h.low.1, Nat.le_trans h.low.2 hg.size⟩
theorem UnC.putA {B M : Nat} {w w' : World} {st : List Sr} {gl : List GlU} {L : List FnU} {vs vg vf a b : Value} {Q : List (FnU × Value × Value)} {j k : Nat} {f f' : FnU} (h : UnC B w ⟨st, gl, L⟩ vs vg vf M Q) (hq : Q[j]? = some (f, a, b)) (h1 : f'.at_ = f.at_) (h2 : f'.name = f.name) (h3 : f'.type = f.type) (hg : w.grownBy w' (some k)) (hk : BlkU (f, a, b) k) (hq' : FnC M w' (f', a, b)) : UnC B w' ⟨st, gl, L.set j f'⟩ vs vg vf M (Q.set j (f', a, b)) :=
  h.put (q' := (f', a, b)) hq rfl (fnU_same h1 h2 h3 rfl) hg hk hq'
theorem UnC.putB {B M : Nat} {w w' : World} {st : List Sr} {gl : List GlU} {L : List FnU} {vs vg vf a b : Value} {Q : List (FnU × Value × Value)} {j k : Nat} {f f' : FnU} (h : UnC B w ⟨st, gl, L.set j f⟩ vs vg vf M Q) (hq : Q[j]? = some (f, a, b)) (h1 : f'.at_ = f.at_) (h2 : f'.name = f.name) (h3 : f'.type = f.type) (hg : w.grownBy w' (some k)) (hk : BlkU (f, a, b) k) (hq' : FnC M w' (f', a, b)) : UnC B w' ⟨st, gl, L.set j f'⟩ vs vg vf M (Q.set j (f', a, b)) := by
  have := h.putA hq h1 h2 h3 hg hk hq'
  rw [List.set_set] at this
  exact this
theorem FnC.par {B : Nat} {w : World} {f : FnU} {gp n cp i : Nat} {vb : Value} {p p' : VrU} {u : Value} (j : Nat) (h : FnC B w (f, .slice (some ⟨gp, 0, none⟩) n cp, vb)) (hp : f.params[i]? = some p) (hj : j < 3) (hc : vrCells p' = (vrCells p).set j u) (hn : VrOk p') : FnC B (w.setCell ⟨gp, i * 3 + j, none⟩ u) (⟨f.at_, f.name, f.type, f.params.set i p', f.body⟩, .slice (some ⟨gp, 0, none⟩) n cp, vb) := by
  have hl : n = f.params.length := by
    obtain ⟨a, c, e, _⟩ := own_slU vr_len h.params rfl
    simp only [Value.slice.injEq] at e
    exact e.2.1
  subst hl
  refine ⟨h.name, h.type, h.at_, by simpa using h.plen, fun x hx => ?_, h.blen, h.bok, ?_, own_keptU h.body (grn_setU w gp _ _) (fun r e => by cases e; exact h.apart gp rfl), h.apart⟩
  · rcases List.mem_or_eq_of_mem_set hx with hx | rfl
    · exact h.pok x hx
    · exact hn
  · show World.ownsRow _ _ _ _ _ (f.params.set i p').length _
    rw [List.length_set]
    exact own_set1 vr_len h.params hj hc hp
theorem FnC.nd {B : Nat} {w : World} {f : FnU} {gb n cb i : Nat} {vp : Value} {x x' : Nd} {u : Value} (j : Nat) (h : FnC B w (f, vp, .slice (some ⟨gb, 0, none⟩) n cb)) (hx : f.body[i]? = some x) (hj : j < 6) (hc : ndCells x' = (ndCells x).set j u) (hn : NdOk x') : FnC B (w.setCell ⟨gb, i * 6 + j, none⟩ u) (⟨f.at_, f.name, f.type, f.params, f.body.set i x'⟩, vp, .slice (some ⟨gb, 0, none⟩) n cb) := by
  have hl : n = f.body.length := by
    obtain ⟨a, c, e, _⟩ := own_slU nd_len h.body rfl
    simp only [Value.slice.injEq] at e
    exact e.2.1
  subst hl
  refine ⟨h.name, h.type, h.at_, h.plen, h.pok, by simpa using h.blen, fun y hy => ?_, own_keptU h.params (grn_setU w gb _ _) (fun r e hv => by cases e; exact h.apart _ hv rfl), ?_, h.apart⟩
  · rcases List.mem_or_eq_of_mem_set hy with hy | rfl
    · exact h.bok y hy
    · exact hn
  · show World.ownsRow _ _ _ _ _ (f.body.set i x').length _
    rw [List.length_set]
    exact own_set1 nd_len h.body hj hc hx
end Go.Proofs.YtbbaooeioogijaaDoor
