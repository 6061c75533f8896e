/- The law IrLess, walked: a right program. -/
import Derived.Test.YtlomdlblohnfmaaDoorLessM
namespace Go.Proofs.YtlomdlblohnfmaaDoor
open Go.RowKit

/-- the copy of the last function, in a box, with what else is known -/
theorem more_fn {w2 wA : World} {B0 : Nat} {f : IrF} {vs vb v' : Value} {B : Nat} {Q : List (IrB × Value)} (hs : SlotsP (fun b => B0 ≤ b ∧ b < B) w2 vs f.slots) (hb : BlksRow B w2 vb Q) (hQ : Q.map Prod.fst = f.blocks) (hl : Q.length + 1 ≤ 4096) (hn : f.name.size ≤ maxLen) (hB : B ≤ w2.heap.size)
    (hk : ∀ b, b < w2.heap.size → vb.ownBlock ≠ some b → wA.heap[b]? = w2.heap[b]?) (hz : w2.heap.size ≤ wA.heap.size) (hown : wA.ownsRow B 41 6 v' (Q.length + 1) (Q.flatMap blkCells ++ blkCells ((⟨[], ⟨3, f.regs, -1, 0, 0⟩⟩ : IrB), Value.slice none 0 0) )) :
    IsFn wA.heap.size wA (moreF f) vs v' := by
  have hown2 : wA.ownsRow B 41 6 v' (Q.length + 1) ((Q ++ [((⟨[], ⟨3, f.regs, -1, 0, 0⟩⟩ : IrB), Value.slice none 0 0)]).flatMap blkCells) := by
    rw [List.flatMap_append]
    simpa using hown
  obtain ⟨a, cap, e, hsl, ha⟩ := own_sl18 blk_len hown2 (by rw [List.length_append]; rfl)
  obtain ⟨a1, c1, e1, ho1, hs1⟩ := hs
  refine ⟨hn, ⟨a1, c1, e1, ho1, (hs1.keep (P' := fun b => b < wA.heap.size) (fun b ⟨b1, b2⟩ => ⟨hk b (by omega) (fun e => by have := (hb.1.lt b e).1; omega), by omega⟩)).sl (fun b h => h)⟩, a, cap, Q ++ [((⟨[], ⟨3, f.regs, -1, 0, 0⟩⟩ : IrB), Value.slice none 0 0)], ?_, ⟨?_, fun e => ?_⟩, ?_, hsl, fun q hq => ?_⟩
  · rw [e]
    unfold moreF
    simp [← hQ]
  · unfold moreF
    simp only [List.length_append, ← hQ, List.length_map, List.length_cons, List.length_nil]
    omega
  · have := (ha e).1
    simp at this
  · unfold moreF
    rw [List.map_append, hQ]
    rfl
  · rcases List.mem_append.1 hq with hq | hq
    · exact ((hb.2 q hq).keep (P' := fun b => b < wA.heap.size) (fun b ⟨b1, b2, b3⟩ => ⟨hk b b2 b3, by omega⟩)).is (fun b h => h)
    · rw [List.mem_singleton.1 hq]
      exact ⟨none, 0, [], rfl, ⟨by simp, fun _ => ⟨rfl, rfl⟩⟩, rfl, isSl_nil, fun q hq => by cases hq⟩
theorem size_set18 (W : World) (a : Addr) (v : Value) : (W.setCell a v).heap.size = W.heap.size := by simp
theorem less_step {w2 w3 w4 : World} {f : IrF} {vs : Value} {b10 : Option Addr} {l10 : Nat} (hfo : FnOwn w2.heap.size w3 f vs (.slice b10 f.blocks.length l10)) (hb3 : Below w2.heap.size w2 w3) (hX : w4.heap[w3.heap.size]? = some (.cells #[.string f.name, .int .i64 f.params, .int .i64 f.regs, vs, .slice b10 f.blocks.length l10] 35 (0, 0))) (hb4 : Below w3.heap.size w3 w4) (hl : f.blocks.length < 4096) :
    ∃ (B : Nat) (xs : List Value), B ≤ w3.heap.size ∧ (w4.setCell ⟨w3.heap.size, 2, none⟩ (.int .i64 (f.regs + 1))).ownsRow B 41 6 (.slice b10 f.blocks.length l10) f.blocks.length xs ∧
      (w4.setCell ⟨w3.heap.size, 2, none⟩ (.int .i64 (f.regs + 1))).heap[w3.heap.size]? = some (.cells #[.string f.name, .int .i64 f.params, .int .i64 (f.regs + 1), vs, .slice b10 f.blocks.length l10] 35 (0, 0)) ∧
      ∀ (o : Obj) (g cap : Nat) (w7 : World), w7.ownsRow B 41 6 (.slice (some ⟨g, 0, none⟩) (f.blocks.length + 1) cap) (f.blocks.length + 1) (xs ++ blkCells ((⟨[], ⟨3, f.regs, -1, 0, 0⟩⟩ : IrB), Value.slice none 0 0)) → ((w4.setCell ⟨w3.heap.size, 2, none⟩ (.int .i64 (f.regs + 1))).alloc o).grownBy w7 (Value.slice b10 f.blocks.length l10).ownBlock →
        (w7.cell? ⟨w3.heap.size, 4, none⟩ = some (.slice b10 f.blocks.length l10) ∧ w7.frozen? ⟨w3.heap.size, 4, none⟩ = false) ∧
        (w7.setCell ⟨w3.heap.size, 4, none⟩ (.slice (some ⟨g, 0, none⟩) (f.blocks.length + 1) cap)).heap[w3.heap.size]? = some (.cells #[.string f.name, .int .i64 f.params, .int .i64 (f.regs + 1), vs, .slice (some ⟨g, 0, none⟩) (f.blocks.length + 1) cap] 35 (0, 0)) ∧
        IsFn (w7.setCell ⟨w3.heap.size, 4, none⟩ (.slice (some ⟨g, 0, none⟩) (f.blocks.length + 1) cap)).heap.size (w7.setCell ⟨w3.heap.size, 4, none⟩ (.slice (some ⟨g, 0, none⟩) (f.blocks.length + 1) cap)) (moreF f) vs (.slice (some ⟨g, 0, none⟩) (f.blocks.length + 1) cap) ∧
        Below w2.heap.size w2 (w7.setCell ⟨w3.heap.size, 4, none⟩ (.slice (some ⟨g, 0, none⟩) (f.blocks.length + 1) cap)) := by
  obtain ⟨hn, B, Q, h0, h1, hs, hb, hQ, hlq⟩ := hfo
  have hql : Q.length = f.blocks.length := by rw [← hQ, List.length_map]
  have hlt4 : w3.heap.size < w4.heap.size := lt_of_heap hX
  have hX5 := heap_setCell_same w4 w3.heap.size 2 _ _ (.int .i64 (f.regs + 1)) hX
  have hown3 := hb.1
  rw [hql] at hown3
  have hne : (Value.slice b10 f.blocks.length l10).ownBlock = none ∨ (Value.slice b10 f.blocks.length l10).ownBlock ≠ some w3.heap.size := by
    cases hv : (Value.slice b10 f.blocks.length l10).ownBlock with
    | none => exact .inl rfl
    | some k => exact .inr (fun e => by have := (hb.1.lt k hv).2; have := Option.some.inj e; omega)
  have hne2 : some w3.heap.size ≠ (Value.slice b10 f.blocks.length l10).ownBlock := fun e => by
    have := (hb.1.lt _ e.symm).2
    omega
  have hown5 := (hown3.kept (grn_blw none hb4) (by by_cases hv : (Value.slice b10 f.blocks.length l10).ownBlock = none; exact .inl hv; exact .inr hv)).kept (grn_set w4 w3.heap.size 2 (.int .i64 (f.regs + 1))) hne
  refine ⟨B, Q.flatMap blkCells, h1, hown5, hX5, fun o g cap w7 hown hgr => ?_⟩
  have hz5 : w3.heap.size < ((w4.setCell ⟨w3.heap.size, 2, none⟩ (.int .i64 (f.regs + 1))).alloc o).heap.size := by simp; omega
  have hX7 := (hgr.block _ hz5 hne2).trans (((ba18 _ o).block _ (lt_of_heap hX5)).trans hX5)
  have hk : ∀ b, b < w3.heap.size → (Value.slice b10 f.blocks.length l10).ownBlock ≠ some b → (w7.setCell ⟨w3.heap.size, 4, none⟩ (.slice (some ⟨g, 0, none⟩) (f.blocks.length + 1) cap)).heap[b]? = w3.heap[b]? := fun b hb3 hbn => by
    have n1 : b ≠ w3.heap.size := by omega
    rw [heap_setCell_other _ _ _ _ n1, hgr.block b (by omega) (fun e => hbn e.symm), (ba18 _ o).block b (by simp; omega), heap_setCell_other _ _ _ _ n1, hb4.block b hb3]
  have hz7 : w3.heap.size ≤ (w7.setCell ⟨w3.heap.size, 4, none⟩ (.slice (some ⟨g, 0, none⟩) (f.blocks.length + 1) cap)).heap.size := by
    have := hgr.size
    simp only [size_set18]
    omega
  have hown8 : (w7.setCell ⟨w3.heap.size, 4, none⟩ (.slice (some ⟨g, 0, none⟩) (f.blocks.length + 1) cap)).ownsRow B 41 6 (.slice (some ⟨g, 0, none⟩) (f.blocks.length + 1) cap) (Q.length + 1) (Q.flatMap blkCells ++ blkCells ((⟨[], ⟨3, f.regs, -1, 0, 0⟩⟩ : IrB), Value.slice none 0 0)) := by
    rw [hql]
    refine hown.kept (grn_set _ _ _ _) (.inr (fun e => ?_))
    have e1 : g = w3.heap.size := Option.some.inj e
    obtain ⟨_, h2 | ⟨g', cap', cur, e2, _, hg2, _⟩⟩ := hown
    · simp at h2
    · cases e2
      rw [e1, hX7] at hg2
      cases hg2
  refine ⟨⟨by simp [World.cell?, hX7], by simp [World.frozen?, hX7]⟩, heap_setCell_same _ _ 4 _ _ _ hX7, more_fn hs hb hQ (by omega) hn h1 hk hz7 hown8, ?_⟩
  have hb5 : Below w2.heap.size w2 (w4.setCell ⟨w3.heap.size, 2, none⟩ (.int .i64 (f.regs + 1))) := (hb3.trans (hb4.mono hb3.size)).setCell hb3.size _
  exact ((hb5.trans ((ba18 _ o).mono hb5.size)).grown hgr (Nat.le_trans hb5.size (ba18 _ o).size) (fun k e => by have := (hb.1.lt k e).1; omega)).setCell hb3.size _
theorem str_eq18 (a b : ByteArray) : (a.toList == b.toList) = decide (a = b) := by
  rw [Bool.eq_iff_iff, beq_iff_eq, decide_eq_true_iff, Lib.toList_data, Lib.toList_data]
  constructor
  · intro h
    cases a; cases b
    simpa using h
  · intro h; rw [h]
theorem fns_take {B i cap : Nat} {w : World} {a : Option Addr} {L : List IrF} (h : IsFns B w (.slice a L.length cap) L) (hi : i ≤ L.length) : IsFns B w (.slice a i cap) (L.take i) := by
  obtain ⟨a', cap', Q, e, ho, hQ, hs, hq⟩ := h
  simp only [Value.slice.injEq, true_and] at e
  obtain ⟨rfl, rfl⟩ := e
  have hl : (L.take i).length = i := by rw [List.length_take]; omega
  refine ⟨a, cap, Q.take i, by rw [hl], ⟨by rw [hl]; have := ho.1; omega, fun e => ⟨by rw [hl]; have := (ho.2 e).1; omega, (ho.2 e).2⟩⟩, by rw [← hQ, List.map_take], fun hn => ?_, fun q hm => hq q (List.mem_of_mem_take hm)⟩
  obtain ⟨b, off, e, hlt, hc⟩ := hs (fun e => hn (by rw [e]; simp))
  refine ⟨b, off, e, hlt, fun k t ht j u hu => hc k t ?_ j u hu⟩
  rw [List.getElem?_take] at ht
  split at ht
  · exact ht
  · cases ht
set_option maxRecDepth 100000 in
set_option maxHeartbeats 16000000 in
theorem less_main (x : IrP) (gv sv fv : Value) (w : World) (hE : IE w) (hk : 0 < w.heap.size) (hP : IsPr w.heap.size w x gv sv fv) (hcap : ∀ a n c, fv = .slice a n c → x.funcs.length ≤ c) (h : checkP x = (0, 0)) (n : Nat) (hn : x.funcs.length = n + 1) :
    Calls Tryd.prog 3 #[.agg #[gv, sv, fv]] w fun e w' => e = .returned (.bool true) ∧ Below w.heap.size w w' := by
  have hwk := fun w1 (hb1 : Below w.heap.size w w1) => works18_ok w1 (hE.below hb1) (Nat.lt_of_lt_of_le hk hb1.size)
  have hck := fun w1 (hb1 : Below w.heap.size w w1) => check_ok x gv sv fv w1 (hE.keys.below hb1) ((hP.below hb1 (Nat.le_refl _)).mono hb1.size)
  rw [h] at hck
  dsimp only at hck
  have hR := right_of h
  have hfb := fun f (hf : f ∈ x.funcs) => func_lens (right_func hR hf)
  have hci := fun w1 (hb1 : Below w.heap.size w w1) => copyIr_ok x gv sv fv w1 ((hP.below hb1 (Nat.le_refl _)).mono hb1.size) (by have := hR.gs; omega) (by have := hR.fs; omega) hfb
  have HR := Lib.hid hR
  have HE := Lib.hid hE
  have HH := Lib.hid h
  have HP := Lib.hid hP
  obtain ⟨⟨ag, cg, Qg, rfl, hog, hQg, hsg, hqg⟩, ⟨as1, cs, rfl, hos, hss⟩, ⟨af, cf, Qf, rfl, hof, hQf, hsf, hqf⟩⟩ := hP
  have hQl : Qg.length = x.globals.length := by rw [← hQg, List.length_map]
  have hFl : Qf.length = x.funcs.length := by rw [← hQf, List.length_map]
  have hcf := hcap _ _ _ rfl
  have HWk := Lib.hid hwk
  have HCk := Lib.hid hck
  have HCi := Lib.hid hci
  have HBa := Lib.hid ((Below.refl w.heap.size w).alloc (Nat.le_refl _) (.cells #[.slice ag x.globals.length cg, .slice as1 x.strings.length cs, .slice af x.funcs.length cf] 26))
  have HXx := Lib.hid (ir_cells (heap_alloc_new w (.cells #[.slice ag x.globals.length cg, .slice as1 x.strings.length cs, .slice af x.funcs.length cf] 26)))
  have hgl : (x.globals.length : Int) ≤ 256 := by have := hR.gs; omega
  have hfl : (x.funcs.length : Int) ≤ 128 := by have := hR.fs; omega
  have hsl0 : (x.strings.length : Int) ≤ 4096 := by have := hR.ss; omega
  have t0 : ((x.funcs.length : Int) == 0) = false := by rw [beq_eq_false_iff_ne]; omega
  have hn1 : (x.funcs.length : Int) - 1 = (n : Int) := by omega
  have hn2 : (n : Int) < (x.funcs.length : Int) := by omega
  have hnq : n < Qf.length := by omega
  have hnf : n < x.funcs.length := by omega
  obtain ⟨bb, off, rfl, hbl2, hrow⟩ := hsf (fun e => by rw [e] at hnq; simp at hnq)
  have hqb := Lib.hid (show Qf[n].1 = x.funcs[n] by
    have h1 : (Qf.map Prod.fst)[n]? = x.funcs[n]? := by rw [hQf]
    rw [List.getElem?_map, List.getElem?_eq_getElem hnq, List.getElem?_eq_getElem hnf] at h1
    exact Option.some.inj h1)
  have e0 := hrow n _ (List.getElem?_eq_getElem hnq) 0 _ rfl
  have e1 := hrow n _ (List.getElem?_eq_getElem hnq) 1 _ rfl
  have e2 := hrow n _ (List.getElem?_eq_getElem hnq) 2 _ rfl
  have e3 := hrow n _ (List.getElem?_eq_getElem hnq) 3 _ rfl
  have e4 := hrow n _ (List.getElem?_eq_getElem hnq) 4 _ rfl
  simp only [Nat.add_zero] at e0
  have hF := hqf _ (List.getElem_mem hnq)
  have hrf := right_func hR (List.getElem_mem hnf)
  have HLess := Lib.hid (fun hg ho => less_check h hnf hn hg ho)
  rw [← hqb.out] at hrf HLess
  have HFs := Lib.hid hsf
  have HFq := Lib.hid hqf
  have HGs := Lib.hid hsg
  have HGq := Lib.hid hqg
  have HQg := Lib.hid hQg
  have HQf := Lib.hid hQf
  have HQl := Lib.hid hQl
  have HFl := Lib.hid hFl
  have HHn := Lib.hid hn
  clear hn hrow hqb hE hk hwk hck hci hfb hcap h hog hQg hsg hqg hos hss hof hQf hsf hqf hR hQl hFl
  generalize Qf[n]'hnq = q at *
  obtain ⟨f, v1, v2⟩ := q
  simp only at e0 e1 e2 e3 e4 hF hrf HLess
  have HRf := Lib.hid hrf
  have hlens := func_lens hrf
  obtain ⟨s1, k1, e5, _⟩ := hF.slots
  obtain ⟨s2, k2, _, e6, _⟩ := hF.blocks
  subst e5 e6
  have HF4 := Lib.hid (fun V' (h : Below w.heap.size w V') => (hF.below h (Nat.le_refl _)).mono h.size)
  have hcf4 := fun V' (h : Below w.heap.size w V') => copyFunc_own f (.slice s1 f.slots.length k1) (.slice s2 f.blocks.length k2) V' (HF4.out V' h) hlens.1 hlens.2
  unfold fnV at hcf4
  have HCf := Lib.hid hcf4
  have HEc := Lib.hid (show ∀ V', Below w.heap.size w V' → V'.cell? ⟨bb, off + n * 5, none⟩ = some (.string f.name) ∧ V'.cell? ⟨bb, off + n * 5 + 1, none⟩ = some (.int .i64 f.params) ∧ V'.cell? ⟨bb, off + n * 5 + 2, none⟩ = some (.int .i64 f.regs) ∧ V'.cell? ⟨bb, off + n * 5 + 3, none⟩ = some (.slice s1 f.slots.length k1) ∧ V'.cell? ⟨bb, off + n * 5 + 4, none⟩ = some (.slice s2 f.blocks.length k2) from fun V' h =>
    ⟨by rw [h.cell hbl2]; exact e0, by rw [h.cell hbl2]; exact e1, by rw [h.cell hbl2]; exact e2, by rw [h.cell hbl2]; exact e3, by rw [h.cell hbl2]; exact e4⟩)
  clear e0 e1 e2 e3 e4 hF hrf hnq hnf hcf4 hlens
  go_enter Tryd.func3, Tryd.ntmps3
  go_upto_region 1 with fail
  have HBs := Lib.hid HBa.out.size
  have hn0 : w.heap.size < (World.alloc w (.cells #[.slice ag x.globals.length cg, .slice as1 x.strings.length cs, .slice (some ⟨bb, off, none⟩) x.funcs.length cf] 26)).heap.size := by simp
  generalize World.alloc w _ = wa at *
  go_upto_region 3 with (go_at_call 5; (with_reducible refine (HWk.out _ HBa.out).mono ?_); rintro e w1 ⟨rfl, hb1⟩; have HB1 := Lib.hid hb1; clear hb1)
  obtain ⟨d0, d1, d2⟩ := HXx.out _ HB1.out
  have HW1 := Lib.hid (HBa.out.trans (HB1.out.mono HBs.out))
  go_upto_region 5 with (go_at_call 6; (with_reducible refine (HCk.out _ HW1.out).mono ?_); rintro e w2 ⟨rfl, hb2⟩; have HB2 := Lib.hid (HB1.out.trans (hb2.mono HB1.out.size)); have HW2 := Lib.hid (HW1.out.trans (hb2.mono HW1.out.size)); clear d0 d1 d2; obtain ⟨d0, d1, d2⟩ := HXx.out _ HB2.out; clear hb2)
  obtain ⟨e0, e1, e2, e3, e4⟩ := HEc.out _ HW2.out
  go_upto_region 7 with (go_at_call 7; (with_reducible refine (HCf.out _ HW2.out).mono ?_); rintro e w3 ⟨⟨vs', vb', rfl, hfo⟩, hb3⟩; have HFo := Lib.hid hfo; have HBc3 := Lib.hid hb3; obtain ⟨⟨b9, l9, q9, _⟩, ⟨b10, l10, _, q10, _⟩⟩ := And.intro hfo.p.slots hfo.p.blocks; subst q9 q10; have HB3 := Lib.hid (HB2.out.trans (hb3.mono HB2.out.size)); have HW3 := Lib.hid (HW2.out.trans (hb3.mono HW2.out.size)); clear hfo hb3)
  have hX4 := heap_alloc_new w3 (.cells #[.string f.name, .int .i64 f.params, .int .i64 f.regs, .slice b9 f.slots.length l9, .slice b10 f.blocks.length l10] 35)
  have hb4 := ba18 w3 (.cells #[.string f.name, .int .i64 f.params, .int .i64 f.regs, .slice b9 f.slots.length l9, .slice b10 f.blocks.length l10] 35)
  generalize World.alloc w3 _ = w4 at *
  have HX4 := Lib.hid hX4
  have HB4 := Lib.hid hb4
  have HB23 := Lib.hid (show Below w2.heap.size w2 w3 from HBc3.out)
  obtain ⟨⟨g0, g1, g2, g3, g4⟩, z0, z1, z2, z3, z4⟩ := five18 hX4
  obtain ⟨gh, _⟩ := funcI_parts HRf.out
  obtain ⟨_, r1, r2, r3, r4, _, r6, r7⟩ := headI_parts gh
  have hr0 : 0 ≤ f.regs := by omega
  have HN0 := Lib.hid (show (w4.cell? ⟨w3.heap.size, 0, none⟩ = some (.string f.name)) from g0)
  have hlt4 : w3.heap.size < w4.heap.size := lt_of_heap hX4
  clear hX4 hb4 d0 d1 d2 e0 e1 e2 e3 e4 gh
  go_cut [48] (fun s48 wx => ∃ b : Bool, s48 = .bool b ∧ Hid (b = true → f.regs < 4096 ∧ f.blocks.length < 4096) ∧ wx = w4)
  case first =>
    by_cases hc1 : f.regs < 4096
    · by_cases hc2 : f.blocks.length < 4096
      · have hc3 : (f.blocks.length : Int) < 4096 := by omega
        have HI := Lib.hid (And.intro hc1 hc2)
        clear hc2
        go_wp2_with fail
        go_meet
        exact ⟨true, rfl, Lib.hid (fun _ => HI.out), rfl⟩
      · have hc3 : ¬ ((f.blocks.length : Int) < 4096) := by omega
        clear hc2
        go_wp2_with fail
        go_meet
        exact ⟨false, rfl, Lib.hid (fun h => by cases h), rfl⟩
    · have hc3 : ¬ (f.regs < 4096) := hc1
      go_wp2_with fail
      go_meet
      exact ⟨false, rfl, Lib.hid (fun h => by cases h), rfl⟩
  case rest =>
  obtain ⟨b48, hu, HI48, hwc⟩ := hcut
  subst hu
  obtain ⟨wb, hwb⟩ : ∃ y, y = wc := ⟨_, rfl⟩
  subst hwb
  subst hwc
  go_upto_if 48 with fail
  go_cut [49] (fun s49 wx => ∃ v, s49 = v ∧ Hid (Below w2.heap.size w2 wx) ∧ Hid (wx.cell? ⟨w3.heap.size, 0, none⟩ = some (.string f.name)))
  case first =>
    cases b48 with
    | true =>
        obtain ⟨hc1, hc2⟩ := HI48.out rfl
        have hc3 : (f.blocks.length : Int) < 4096 := by omega
        obtain ⟨B, xs, hBl, hown, hX5, hst⟩ := less_step HFo.out HB23.out HX4.out HB4.out hc2
        have HOwn := Lib.hid hown
        have HSt := Lib.hid hst
        have hlt5 : w3.heap.size < (wb.setCell ⟨w3.heap.size, 2, none⟩ (.int .i64 (f.regs + 1))).heap.size := lt_of_heap hX5
        obtain ⟨⟨h0, h1, h2, h3, h4⟩, y0, y1, y2, y3, y4⟩ := five18 hX5
        have HMr := Lib.hid (more_right HRf.out (by omega) hc1 hc2)
        obtain ⟨i1, hi, hz0, hz1, hz2⟩ := info_parts (show (Tryd.prog.info? 41).map (fun i => (i.zero, i.size, i.bytes)) = some (some (.agg #[.slice none 0 0, .int .i64 0, .int .i64 0, .int .i64 0, .int .i64 0, .int .i64 0]), 6, 64) by kernel_rfl)
        have HI1 := Lib.hid (And.intro hi (And.intro hz0 (And.intro hz1 hz2)))
        clear hi hz0 hz1 hz2 hown hX5 hst
        go_upto_region 9 with fail
        generalize World.setCell wb _ _ = w5 at *
        have HNum := Lib.hid (show f.blocks.length + 1 ≤ maxLen ∧ (f.blocks.length + 1) * 64 ≤ 140737488355328 ∧ B ≤ (w5.alloc (.cells #[.slice none 0 0, .int .i64 3, .int .i64 f.regs, .int .i64 (-1), .int .i64 0, .int .i64 0] 41)).heap.size from ⟨by unfold maxLen; omega, by omega, by simp; omega⟩)
        have HOne := Lib.hid (blkCells_one ((⟨[], ⟨3, f.regs, -1, 0, 0⟩⟩ : IrB), Value.slice none 0 0) ⟨_, _, _, rfl⟩)
        go_wp2_with (at_builtin; go_loud (refine wpList_append_lies _ rfl _ _ _ rfl B 41 i1 _ 6 64 Tryd.underlying33 HI1.out.1 HI1.out.2.1 HI1.out.2.2.1 HI1.out.2.2.2 rfl (by decide) _ f.blocks.length xs rfl (HOwn.out.alloc _) ⟨_, 0, none⟩ 1 1 (blkCells ((⟨[], ⟨3, f.regs, -1, 0, 0⟩⟩ : IrB), Value.slice none 0 0)) rfl rfl (World.news_of_block (cs := #[.slice none 0 0, .int .i64 3, .int .i64 f.regs, .int .i64 (-1), .int .i64 0, .int .i64 0]) (heap_alloc_new _ _)) HOne.out (by decide) HNum.out.1 HNum.out.2.1 HNum.out.2.2 _ rfl ?_))
        intro g cap w7 hown hgr _ _
        obtain ⟨⟨m0, m1⟩, hX8, hF8, hB8⟩ := HSt.out _ g cap w7 hown hgr
        have HX8 := Lib.hid hX8
        have HF8 := Lib.hid hF8
        have HB8 := Lib.hid hB8
        clear hX8 hF8 hB8 hown hgr h0 h1 h2 h3 h4 y0 y1 y2 y3 y4 g0 g1 g2 g3 g4 z0 z1 z2 z3 z4
        have HW8 := Lib.hid (HW2.out.trans (HB8.out.mono HW2.out.size))
        go_upto_region 10 with fail
        generalize World.setCell w7 _ _ = w8 at *
        clear m0 m1
        have hcF : Calls Tryd.prog 8 #[.agg #[.string f.name, .int .i64 f.params, .int .i64 (f.regs + 1), .slice b9 f.slots.length l9, .slice (some ⟨g, 0, none⟩) (f.blocks.length + 1) cap]] w8 fun e w' => e = .returned (.int .i64 (if funcI (moreF f) 4611686018427387904 = true then 0 else 180)) ∧ Below w8.heap.size w8 w' :=
          checkFunc_ok (moreF f) (.slice b9 f.slots.length l9) (.slice (some ⟨g, 0, none⟩) (f.blocks.length + 1) cap) w8 (HE.out.below HW8.out).keys HF8.out
        rw [HMr.out] at hcF
        have hrF : ∀ w9, Below w8.heap.size w8 w9 → Calls Tryd.prog 9 #[.agg #[.string f.name, .int .i64 f.params, .int .i64 (f.regs + 1), .slice b9 f.slots.length l9, .slice (some ⟨g, 0, none⟩) (f.blocks.length + 1) cap]] w9 (ReachEnd (moreF f) w9) := fun w9 h9 =>
          reach_ok (moreF f) (.slice b9 f.slots.length l9) (.slice (some ⟨g, 0, none⟩) (f.blocks.length + 1) cap) w9 (HE.out.below (HW8.out.trans (h9.mono HW8.out.size))).keys ((HF8.out.below h9 (Nat.le_refl _)).mono h9.size) HMr.out
        have HcF := Lib.hid hcF
        have HrF := Lib.hid hrF
        obtain ⟨⟨h0, h1, h2, h3, h4⟩, _⟩ := five18 HX8.out
        have HX9 := Lib.hid (fun w9 (h9 : Below w8.heap.size w8 w9) => (five18 ((h9.block _ (lt_of_heap HX8.out)).trans HX8.out)).1)
        clear hcF hrF
        go_upto_region 12 with (go_at_call 8; (with_reducible refine HcF.out.mono ?_); rintro e w9 ⟨rfl, hb9⟩; have HB9 := Lib.hid hb9; clear h0 h1 h2 h3 h4; obtain ⟨h0, h1, h2, h3, h4⟩ := HX9.out _ hb9; clear hb9)
        go_upto_region 13 with (go_at_call 9; (with_reducible refine (HrF.out _ HB9.out).mono ?_); rintro e w10 ⟨⟨S, v10, rfl, hS, hn10⟩, hb10⟩; have HS := Lib.hid hS; have HN10 := Lib.hid hn10; obtain ⟨a10, c10, rfl, ho10, hs10⟩ := hn10; have HB10 := Lib.hid (HB9.out.trans (hb10.mono HB9.out.size)); clear h0 h1 h2 h3 h4; obtain ⟨h0, h1, h2, h3, h4⟩ := HX9.out _ HB10.out; clear hb10 hS)
        have hhas := has18_ok a10 c10 (markedI S (moreF f).blocks.length) (f.blocks.length : Int) w10 hs10 (by have := ho10.1; omega)
        rw [more_unreached HRf.out HS.out] at hhas
        have HHas := Lib.hid hhas
        have hbl1 : ((f.blocks.length + 1 : Nat) : Int) - 1 = (f.blocks.length : Int) := by omega
        have HB2a := Lib.hid (HB8.out.trans (HB10.out.mono HB8.out.size))
        clear hhas ho10 hs10
        go_wp2_with (go_at_call 10; (with_reducible refine HHas.out.mono ?_); rintro e w11 ⟨rfl, hb11⟩; have HB11 := Lib.hid hb11; clear hb11)
        go_meet
        exact ⟨_, rfl, Lib.hid (HB2a.out.trans (HB11.out.mono HB2a.out.size)), Lib.hid (HX9.out _ (HB10.out.trans (HB11.out.mono HB10.out.size))).1⟩
    | false =>
      have HBx := Lib.hid (HB23.out.trans (HB4.out.mono HB23.out.size))
      go_wp2_with fail
      go_meet
      exact ⟨_, rfl, HBx, HN0⟩
  case rest =>
    obtain ⟨v49, hu, HB2c, HNc⟩ := hcut
    clear hu g0 g1 g2 g3 g4 z0 z1 z2 z3 z4
    obtain ⟨wr0, hwr0⟩ : ∃ y, y = wc := ⟨_, rfl⟩
    subst hwr0
    have HWc := Lib.hid (HW2.out.trans (HB2c.out.mono HW2.out.size))
    have hr4c : w3.heap.size < wr0.heap.size := World.block_lt_of_cell? wr0 _ HNc.out
    have HXc := Lib.hid (fun wy (hy : Below wr0.heap.size wr0 wy) => HXx.out wy (HB2.out.trans ((HB2c.out.trans (hy.mono HB2c.out.size)).mono HB2.out.size)))
    have HNy := Lib.hid (show ∀ wy, Below wr0.heap.size wr0 wy → wy.cell? ⟨w3.heap.size, 0, none⟩ = some (.string f.name) from fun wy hy => by rw [hy.cell hr4c]; exact HNc.out)
    have HWy := Lib.hid (fun wy (hy : Below wr0.heap.size wr0 wy) => HWc.out.trans (hy.mono HWc.out.size))
    obtain ⟨d0, d1, d2⟩ := HXc.out _ (Below.refl _ _)
    clear hlt4 hr0 r1 r2 r3 r4 r6 r7
    go_wp2_with fail
    clear d0 d1 d2
    go_loopg [84] x.globals.length (fun g v84 wy => ∃ i : Nat, i ≤ x.globals.length ∧ i + g = x.globals.length ∧ v84 = .int .i64 (i : Int) ∧ Hid (∀ k (hk : k < x.globals.length), k < i → ∀ wd ∈ x.globals[k].words, ¬ (wd.kind = 3 ∧ wd.text = f.name)) ∧ Hid (Below wr0.heap.size wr0 wy))
    case atStart => exact ⟨0, by omega, by omega, rfl, Lib.hid (fun k _ h => by omega), Lib.hid (Below.refl _ _)⟩
    case round =>
      obtain ⟨i, hi, hig, rfl, HGn, HBy⟩ := hrel
      have HWr := Lib.hid (HWy.out _ HBy.out)
      by_cases hlt : i < x.globals.length
      · have hlq : i < Qg.length := by rw [HQl.out]; exact hlt
        obtain ⟨bg, og, ha, hbl3, hrow⟩ := HGs.out (fun e => by rw [e] at hlq; simp at hlq)
        subst ha
        have hqb := Lib.hid (show Qg[i].1 = x.globals[i] by
          have h1 : (Qg.map Prod.fst)[i]? = x.globals[i]? := by rw [HQg.out]
          rw [List.getElem?_map, List.getElem?_eq_getElem hlq, List.getElem?_eq_getElem hlt] at h1
          exact Option.some.inj h1)
        have e0 := hrow i _ (List.getElem?_eq_getElem hlq) 0 _ rfl
        have e1 := hrow i _ (List.getElem?_eq_getElem hlq) 1 _ rfl
        have e2 := hrow i _ (List.getElem?_eq_getElem hlq) 2 _ rfl
        have e3 := hrow i _ (List.getElem?_eq_getElem hlq) 3 _ rfl
        rw [← HWr.out.cell hbl3] at e0 e1 e2 e3
        simp only [Nat.add_zero] at e0
        have hgq := HGq.out _ (List.getElem_mem hlq)
        have HNx := Lib.hid (fun (hb : ∀ wd ∈ x.globals[i].words, ¬ (wd.kind = 3 ∧ wd.text = f.name)) => show ∀ k (hk : k < x.globals.length), k < i + 1 → ∀ wd ∈ x.globals[k].words, ¬ (wd.kind = 3 ∧ wd.text = f.name) from fun k hk h => by
          rcases Nat.lt_or_ge k i with h' | h'
          · exact HGn.out k hk h'
          · obtain rfl : k = i := by omega
            exact hb)
        rw [← hqb.out] at HNx
        have hil : (i : Int) < (x.globals.length : Int) := by omega
        clear hrow hqb
        generalize Qg[i]'hlq = q at *
        obtain ⟨gl, vb, vw⟩ := q
        simp only at e0 e1 e2 e3 hgq HNx
        obtain ⟨_, ⟨ab, cb, rfl, _, _, _⟩, ⟨aw, cw, rfl, how, hsw, _⟩⟩ := hgq
        have HSw := Lib.hid hsw
        have hwl : (gl.words.length : Int) ≤ 140737488351232 := by have := how.1; omega
        clear hlq how hsw hlt
        have hx8 := heap_alloc_new wr (.cells #[.string gl.name, .slice ab gl.bytes.length cb, .int .i64 gl.align, .slice aw gl.words.length cw] 50)
        have HB8 := Lib.hid (HBy.out.trans ((ba18 wr (.cells #[.string gl.name, .slice ab gl.bytes.length cb, .int .i64 gl.align, .slice aw gl.words.length cw] 50)).mono HBy.out.size))
        go_upto_region 18 with fail
        generalize World.alloc wr _ = w8 at *
        obtain ⟨⟨g0, g1, g2, g3⟩, _⟩ := four18 hx8
        clear e0 e1 e2 e3 hx8
        go_wp2_with fail
        clear g0 g1 g2 g3
        go_loopg [91] gl.words.length (fun g v91 wy => ∃ j : Nat, j ≤ gl.words.length ∧ j + g = gl.words.length ∧ v91 = .int .i64 (j : Int) ∧ Hid (∀ k (hk : k < gl.words.length), k < j → ¬ (gl.words[k].kind = 3 ∧ gl.words[k].text = f.name)) ∧ Hid (Below wr0.heap.size wr0 wy))
        case atStart => exact ⟨0, by omega, by omega, rfl, Lib.hid (fun k _ h => by omega), HB8⟩
        case round =>
          obtain ⟨j, hj, hjg, rfl, HWn, HBj⟩ := hrel
          have HWj := Lib.hid (HWy.out _ HBj.out)
          by_cases hjl : j < gl.words.length
          · obtain ⟨bw, ow, ha, hbl4, hrow⟩ := HSw.out (fun e => by rw [e] at hjl; simp at hjl)
            subst ha
            have e0 := hrow j _ (List.getElem?_eq_getElem hjl) 0 _ rfl
            have e1 := hrow j _ (List.getElem?_eq_getElem hjl) 1 _ rfl
            have e2 := hrow j _ (List.getElem?_eq_getElem hjl) 2 _ rfl
            have e3 := hrow j _ (List.getElem?_eq_getElem hjl) 3 _ rfl
            rw [← HWj.out.cell hbl4] at e0 e1 e2 e3
            simp only [Nat.add_zero] at e0
            have HWx := Lib.hid (fun (hb : ¬ (gl.words[j].kind = 3 ∧ gl.words[j].text = f.name)) => show ∀ k (hk : k < gl.words.length), k < j + 1 → ¬ (gl.words[k].kind = 3 ∧ gl.words[k].text = f.name) from fun k hk h => by
              rcases Nat.lt_or_ge k j with h' | h'
              · exact HWn.out k hk h'
              · obtain rfl : k = j := by omega
                exact hb)
            have hjl2 : (j : Int) < (gl.words.length : Int) := by omega
            clear hrow
            generalize gl.words[j]'hjl = wd at *
            have HB9 := Lib.hid (HBj.out.trans ((ba18 wr (.cells #[.int .i64 wd.at_, .int .i64 wd.kind, .int .i64 wd.num, .string wd.text] 52)).mono HBj.out.size))
            have hx9 := heap_alloc_new wr (.cells #[.int .i64 wd.at_, .int .i64 wd.kind, .int .i64 wd.num, .string wd.text] 52)
            clear hjl
            go_upto_region 21 with fail
            generalize World.alloc wr _ = w9 at *
            obtain ⟨⟨g0, g1, g2, g3⟩, _⟩ := four18 hx9
            have g4 := HNy.out _ HB9.out
            have HWf := Lib.hid (HWy.out _ HB9.out)
            clear e0 e1 e2 e3 hx9
            by_cases hk3 : wd.kind = 3
            · have k3 : (wd.kind == 3) = true := by rw [hk3]; rfl
              by_cases htx : wd.text = f.name
              · have k4 : (wd.text.toList == f.name.toList) = true := by rw [str_eq18, decide_eq_true htx]
                clear hk3 htx
                go_wp2_with fail
                go_ret
                exact ⟨rfl, HWf.out⟩
              · have k4 : (wd.text.toList == f.name.toList) = false := by rw [str_eq18, decide_eq_false htx]
                have HOk := Lib.hid (HWx.out (fun h => htx h.2))
                clear hk3 htx
                go_wp2_with fail
                go_roundg (gl.words.length - (j + 1))
                case measure => omega
                case rel => exact ⟨j + 1, by omega, by omega, by rw [Int.natCast_add]; rfl, HOk, HB9⟩
            · have k3 : (wd.kind == 3) = false := by simpa using hk3
              have HOk := Lib.hid (HWx.out (fun h => hk3 h.1))
              clear hk3
              go_wp2_with fail
              go_roundg (gl.words.length - (j + 1))
              case measure => omega
              case rel => exact ⟨j + 1, by omega, by omega, by rw [Int.natCast_add]; rfl, HOk, HB9⟩
          · obtain rfl : j = gl.words.length := by omega
            have hi3 : (gl.words.length : Int) ≤ (gl.words.length : Int) := Int.le_refl _
            have HOk := Lib.hid (HNx.out (fun wd hm => by
              obtain ⟨k, hk, e⟩ := List.getElem_of_mem hm
              rw [← e]
              exact HWn.out k hk hk))
            clear hjl
            go_wp2_with fail
            go_roundg (x.globals.length - (i + 1))
            case measure => omega
            case rel => exact ⟨i + 1, by omega, by omega, by rw [Int.natCast_add]; rfl, HOk, HBj⟩
      · obtain rfl : i = x.globals.length := by omega
        have hi2 : (x.globals.length : Int) ≤ (x.globals.length : Int) := Int.le_refl _
        have HGa := Lib.hid (show ∀ g ∈ x.globals, ∀ wd ∈ g.words, ¬ (wd.kind = 3 ∧ wd.text = f.name) from fun g hm => by
          obtain ⟨k, hk, e⟩ := List.getElem_of_mem hm
          rw [← e]
          exact HGn.out k hk hk)
        obtain ⟨d0, d1, d2⟩ := HXc.out _ HBy.out
        have hn0' : (0 : Int) ≤ (n : Int) := by omega
        have hncf : (n : Int) ≤ (cf : Int) := by omega
        clear hlt
        go_wp2_with fail
        clear d0 d1 d2
        go_loopg [112] n (fun g v112 wy => ∃ i : Nat, i ≤ n ∧ i + g = n ∧ v112 = .int .i64 (i : Int) ∧ Hid (∀ k (hk : k < x.funcs.length), k < i → ∀ b ∈ x.funcs[k].blocks, ∀ o ∈ b.ops, ¬ (o.kind = 24 ∧ o.text = f.name)) ∧ Hid (Below wr0.heap.size wr0 wy))
        case atStart => exact ⟨0, by omega, by omega, rfl, Lib.hid (fun k _ h => by omega), HBy⟩
        case round =>
          clear HWr HBy
          obtain ⟨i, hi, hig, rfl, HFn, HBy⟩ := hrel
          have HWr := Lib.hid (HWy.out _ HBy.out)
          by_cases hlt : i < n
          · have hltf : i < x.funcs.length := by omega
            have hlq : i < Qf.length := by rw [HFl.out]; exact hltf
            obtain ⟨bg, og, ha, hbl3, hrow⟩ := HFs.out (fun e => absurd hlq (by rw [e]; exact Nat.not_lt_zero _))
            obtain ⟨rfl, rfl⟩ : bb = bg ∧ off = og := by cases ha; exact ⟨rfl, rfl⟩
            clear ha
            have hqb := Lib.hid (show Qf[i].1 = x.funcs[i] by
              have h1 : (Qf.map Prod.fst)[i]? = x.funcs[i]? := by rw [HQf.out]
              rw [List.getElem?_map, List.getElem?_eq_getElem hlq, List.getElem?_eq_getElem hltf] at h1
              exact Option.some.inj h1)
            have e0 := hrow i _ (List.getElem?_eq_getElem hlq) 0 _ rfl
            have e1 := hrow i _ (List.getElem?_eq_getElem hlq) 1 _ rfl
            have e2 := hrow i _ (List.getElem?_eq_getElem hlq) 2 _ rfl
            have e3 := hrow i _ (List.getElem?_eq_getElem hlq) 3 _ rfl
            have e4 := hrow i _ (List.getElem?_eq_getElem hlq) 4 _ rfl
            rw [← HWr.out.cell hbl3] at e0 e1 e2 e3 e4
            simp only [Nat.add_zero] at e0
            have hfq := HFq.out _ (List.getElem_mem hlq)
            have HNx := Lib.hid (fun (hb : ∀ b ∈ x.funcs[i].blocks, ∀ o ∈ b.ops, ¬ (o.kind = 24 ∧ o.text = f.name)) => show ∀ k (hk : k < x.funcs.length), k < i + 1 → ∀ b ∈ x.funcs[k].blocks, ∀ o ∈ b.ops, ¬ (o.kind = 24 ∧ o.text = f.name) from fun k hk h => by
              rcases Nat.lt_or_ge k i with h' | h'
              · exact HFn.out k hk h'
              · obtain rfl : k = i := by omega
                exact hb)
            rw [← hqb.out] at HNx
            have hil : (i : Int) < (n : Int) := by omega
            clear hrow hqb
            generalize Qf[i]'hlq = q at *
            obtain ⟨fn, vs, vb⟩ := q
            simp only at e0 e1 e2 e3 e4 hfq HNx
            obtain ⟨a9, c9, e9, _⟩ := hfq.slots
            obtain ⟨a10, c10, Qb, e10, hob, hQb, hsb, hqb2⟩ := hfq.blocks
            subst e9 e10
            have HQb := Lib.hid hQb
            have HSb := Lib.hid hsb
            have HOb := Lib.hid hqb2
            have HQbl := Lib.hid (show Qb.length = fn.blocks.length by rw [← hQb, List.length_map])
            have hbl : (fn.blocks.length : Int) ≤ 140737488351232 := by have := hob.1; omega
            clear hlq hltf hlt hfq hob hQb hsb hqb2
            have hx8 := heap_alloc_new wr (.cells #[.string fn.name, .int .i64 fn.params, .int .i64 fn.regs, .slice a9 fn.slots.length c9, .slice a10 fn.blocks.length c10] 35)
            have HB8 := Lib.hid (HBy.out.trans ((ba18 wr (.cells #[.string fn.name, .int .i64 fn.params, .int .i64 fn.regs, .slice a9 fn.slots.length c9, .slice a10 fn.blocks.length c10] 35)).mono HBy.out.size))
            go_upto_region 28 with fail
            generalize World.alloc wr _ = w8 at *
            obtain ⟨⟨g0, g1, g2, g3, g4⟩, _⟩ := five18 hx8
            clear e0 e1 e2 e3 e4 hx8
            go_wp2_with fail
            clear g0 g1 g2 g3 g4
            go_loopg [119] fn.blocks.length (fun g v119 wy => ∃ j : Nat, j ≤ fn.blocks.length ∧ j + g = fn.blocks.length ∧ v119 = .int .i64 (j : Int) ∧ Hid (∀ k (hk : k < fn.blocks.length), k < j → ∀ o ∈ fn.blocks[k].ops, ¬ (o.kind = 24 ∧ o.text = f.name)) ∧ Hid (Below wr0.heap.size wr0 wy))
            case atStart => exact ⟨0, by omega, by omega, rfl, Lib.hid (fun k _ h => by omega), HB8⟩
            case round =>
              obtain ⟨j, hj, hjg, rfl, HBn, HBj⟩ := hrel
              have HWj := Lib.hid (HWy.out _ HBj.out)
              by_cases hjl : j < fn.blocks.length
              · have hjq : j < Qb.length := by rw [HQbl.out]; exact hjl
                obtain ⟨bw, ow, ha, hbl4, hrow⟩ := HSb.out (fun e => by rw [e] at hjq; simp at hjq)
                subst ha
                have hqb := Lib.hid (show Qb[j].1 = fn.blocks[j] by
                  have h1 : (Qb.map Prod.fst)[j]? = fn.blocks[j]? := by rw [HQb.out]
                  rw [List.getElem?_map, List.getElem?_eq_getElem hjq, List.getElem?_eq_getElem hjl] at h1
                  exact Option.some.inj h1)
                have e0 := hrow j _ (List.getElem?_eq_getElem hjq) 0 _ rfl
                have e1 := hrow j _ (List.getElem?_eq_getElem hjq) 1 _ rfl
                have e2 := hrow j _ (List.getElem?_eq_getElem hjq) 2 _ rfl
                have e3 := hrow j _ (List.getElem?_eq_getElem hjq) 3 _ rfl
                have e4 := hrow j _ (List.getElem?_eq_getElem hjq) 4 _ rfl
                have e5 := hrow j _ (List.getElem?_eq_getElem hjq) 5 _ rfl
                rw [← HWj.out.cell hbl4] at e0 e1 e2 e3 e4 e5
                simp only [Nat.add_zero] at e0
                have hvo := HOb.out _ (List.getElem_mem hjq)
                have HBx := Lib.hid (fun (hb : ∀ o ∈ fn.blocks[j].ops, ¬ (o.kind = 24 ∧ o.text = f.name)) => show ∀ k (hk : k < fn.blocks.length), k < j + 1 → ∀ o ∈ fn.blocks[k].ops, ¬ (o.kind = 24 ∧ o.text = f.name) from fun k hk h => by
                  rcases Nat.lt_or_ge k j with h' | h'
                  · exact HBn.out k hk h'
                  · obtain rfl : k = j := by omega
                    exact hb)
                rw [← hqb.out] at HBx
                have hjl2 : (j : Int) < (fn.blocks.length : Int) := by omega
                clear hrow hqb
                generalize Qb[j]'hjq = q at *
                obtain ⟨bk, vo⟩ := q
                simp only at e0 e1 e2 e3 e4 e5 hvo HBx
                obtain ⟨ao, co, Qo, rfl, hoo, hQo, hso, hno⟩ := hvo
                have HQo := Lib.hid hQo
                have HSo := Lib.hid hso
                have HNo := Lib.hid hno
                have HQol := Lib.hid (show Qo.length = bk.ops.length by rw [← hQo, List.length_map])
                have hol : (bk.ops.length : Int) ≤ 140737488351232 := by have := hoo.1; omega
                clear hjq hjl hoo hQo hso hno
                have hx9 := heap_alloc_new wr (.cells #[.slice ao bk.ops.length co, .int .i64 bk.exit.kind, .int .i64 bk.exit.a, .int .i64 bk.exit.d, .int .i64 bk.exit.to, .int .i64 bk.exit.els] 41)
                have HB9 := Lib.hid (HBj.out.trans ((ba18 wr (.cells #[.slice ao bk.ops.length co, .int .i64 bk.exit.kind, .int .i64 bk.exit.a, .int .i64 bk.exit.d, .int .i64 bk.exit.to, .int .i64 bk.exit.els] 41)).mono HBj.out.size))
                go_upto_region 31 with fail
                generalize World.alloc wr _ = w9 at *
                obtain ⟨g0, g1, g2, g3, g4, g5⟩ := six18 hx9
                clear e0 e1 e2 e3 e4 e5 hx9
                go_wp2_with fail
                clear g0 g1 g2 g3 g4 g5
                go_loopg [126] bk.ops.length (fun g v126 wy => ∃ m : Nat, m ≤ bk.ops.length ∧ m + g = bk.ops.length ∧ v126 = .int .i64 (m : Int) ∧ Hid (∀ k (hk : k < bk.ops.length), k < m → ¬ (bk.ops[k].kind = 24 ∧ bk.ops[k].text = f.name)) ∧ Hid (Below wr0.heap.size wr0 wy))
                case atStart => exact ⟨0, by omega, by omega, rfl, Lib.hid (fun k _ h => by omega), HB9⟩
                case round =>
                  obtain ⟨m, hm, hmg, rfl, HMn, HBm⟩ := hrel
                  have HWm := Lib.hid (HWy.out _ HBm.out)
                  by_cases hml : m < bk.ops.length
                  · have hmq : m < Qo.length := by rw [HQol.out]; exact hml
                    obtain ⟨b6, o6, ha, hbl5, hrow⟩ := HSo.out (fun e => by rw [e] at hmq; simp at hmq)
                    subst ha
                    have hqb := Lib.hid (show Qo[m].1 = bk.ops[m] by
                      have h1 : (Qo.map Prod.fst)[m]? = bk.ops[m]? := by rw [HQo.out]
                      rw [List.getElem?_map, List.getElem?_eq_getElem hmq, List.getElem?_eq_getElem hml] at h1
                      exact Option.some.inj h1)
                    have e0 := hrow m _ (List.getElem?_eq_getElem hmq) 0 _ rfl
                    have e1 := hrow m _ (List.getElem?_eq_getElem hmq) 1 _ rfl
                    have e2 := hrow m _ (List.getElem?_eq_getElem hmq) 2 _ rfl
                    have e3 := hrow m _ (List.getElem?_eq_getElem hmq) 3 _ rfl
                    have e4 := hrow m _ (List.getElem?_eq_getElem hmq) 4 _ rfl
                    have e5 := hrow m _ (List.getElem?_eq_getElem hmq) 5 _ rfl
                    have e6 := hrow m _ (List.getElem?_eq_getElem hmq) 6 _ rfl
                    rw [← HWm.out.cell hbl5] at e0 e1 e2 e3 e4 e5 e6
                    simp only [Nat.add_zero] at e0
                    obtain ⟨_, av, cv, hva, _, _⟩ := HNo.out _ (List.getElem_mem hmq)
                    have HMx := Lib.hid (fun (hb : ¬ (bk.ops[m].kind = 24 ∧ bk.ops[m].text = f.name)) => show ∀ k (hk : k < bk.ops.length), k < m + 1 → ¬ (bk.ops[k].kind = 24 ∧ bk.ops[k].text = f.name) from fun k hk h => by
                      rcases Nat.lt_or_ge k m with h' | h'
                      · exact HMn.out k hk h'
                      · obtain rfl : k = m := by omega
                        exact hb)
                    rw [← hqb.out] at HMx
                    have hml2 : (m : Int) < (bk.ops.length : Int) := by omega
                    clear hrow hqb
                    generalize Qo[m]'hmq = q at *
                    obtain ⟨ob, va⟩ := q
                    simp only at e0 e1 e2 e3 e4 e5 e6 hva HMx
                    subst hva
                    have hx7 := heap_alloc_new wr (.cells #[.int .i64 ob.kind, .int .i64 ob.d, .int .i64 ob.a, .int .i64 ob.b, .int .i64 ob.imm, .string ob.text, .slice av ob.args.length cv] 54)
                    have HB7 := Lib.hid (HBm.out.trans ((ba18 wr (.cells #[.int .i64 ob.kind, .int .i64 ob.d, .int .i64 ob.a, .int .i64 ob.b, .int .i64 ob.imm, .string ob.text, .slice av ob.args.length cv] 54)).mono HBm.out.size))
                    clear hml hmq
                    go_upto_region 34 with fail
                    generalize World.alloc wr _ = w7 at *
                    obtain ⟨⟨g0, g1, g2, g3, g4, g5, g6⟩, _⟩ := seven18 hx7
                    have gn := HNy.out _ HB7.out
                    have HWf := Lib.hid (HWy.out _ HB7.out)
                    clear e0 e1 e2 e3 e4 e5 e6 hx7
                    by_cases hk3 : ob.kind = 24
                    · have k3 : (ob.kind == 24) = true := by rw [hk3]; rfl
                      by_cases htx : ob.text = f.name
                      · have k4 : (ob.text.toList == f.name.toList) = true := by rw [str_eq18, decide_eq_true htx]
                        clear hk3 htx
                        go_wp2_with fail
                        go_ret
                        exact ⟨rfl, HWf.out⟩
                      · have k4 : (ob.text.toList == f.name.toList) = false := by rw [str_eq18, decide_eq_false htx]
                        have HOk := Lib.hid (HMx.out (fun h => htx h.2))
                        clear hk3 htx
                        go_wp2_with fail
                        go_roundg (bk.ops.length - (m + 1))
                        case measure => omega
                        case rel => exact ⟨m + 1, by omega, by omega, by rw [Int.natCast_add]; rfl, HOk, HB7⟩
                    · have k3 : (ob.kind == 24) = false := by simpa using hk3
                      have HOk := Lib.hid (HMx.out (fun h => hk3 h.1))
                      clear hk3
                      go_wp2_with fail
                      go_roundg (bk.ops.length - (m + 1))
                      case measure => omega
                      case rel => exact ⟨m + 1, by omega, by omega, by rw [Int.natCast_add]; rfl, HOk, HB7⟩
                  · obtain rfl : m = bk.ops.length := by omega
                    have hi3 : (bk.ops.length : Int) ≤ (bk.ops.length : Int) := Int.le_refl _
                    have HOk := Lib.hid (HBx.out (fun o hm => by
                      obtain ⟨k, hk, e⟩ := List.getElem_of_mem hm
                      rw [← e]
                      exact HMn.out k hk hk))
                    clear hml
                    go_wp2_with fail
                    go_roundg (fn.blocks.length - (j + 1))
                    case measure => omega
                    case rel => exact ⟨j + 1, by omega, by omega, by rw [Int.natCast_add]; rfl, HOk, HBm⟩
              · obtain rfl : j = fn.blocks.length := by omega
                have hi3 : (fn.blocks.length : Int) ≤ (fn.blocks.length : Int) := Int.le_refl _
                have HOk := Lib.hid (HNx.out (fun b hm => by
                  obtain ⟨k, hk, e⟩ := List.getElem_of_mem hm
                  rw [← e]
                  exact HBn.out k hk hk))
                clear hjl
                go_wp2_with fail
                go_roundg (n - (i + 1))
                case measure => omega
                case rel => exact ⟨i + 1, by omega, by omega, by rw [Int.natCast_add]; rfl, HOk, HBj⟩
          · obtain rfl : i = n := by omega
            have hi3 : (i : Int) ≤ (i : Int) := Int.le_refl _
            have HFa := Lib.hid (HLess.out HGa.out (fun fn hm => by
              obtain ⟨k, hk, e⟩ := List.getElem_of_mem hm
              rw [← e]
              have hk0 : k < (x.funcs.take i).length := hk
              rw [List.length_take] at hk0
              rw [List.getElem_take]
              exact HFn.out k (by omega) (by omega)))
            obtain ⟨d0, d1, d2⟩ := HXc.out _ HBy.out
            have HCi1 := Lib.hid (HCi.out _ HWr.out)
            clear hlt
            go_upto_region 40 with (go_at_call 11; (with_reducible refine HCi1.out.mono ?_); rintro e w20 ⟨⟨gv', sv', fv', rfl, hpr, hcp⟩, hb20⟩; have HPr := Lib.hid hpr; obtain ⟨⟨ag', cg', _, q1, _⟩, ⟨as', cs', q2, _⟩, ⟨af', cf', _, q3, hof', _⟩⟩ := hpr; subst q1 q2 q3; have HOf := Lib.hid hof'; clear hof'; have hcp2 := hcp _ _ _ rfl; have HW20 := Lib.hid (HWr.out.trans (hb20.mono HWr.out.size)); clear hcp hb20)
            obtain ⟨ad, rfl⟩ : ∃ ad, af' = some ad := by
              cases af' with
              | none => exact absurd (HOf.out.2 rfl).1 (by have := HHn.out; omega)
              | some ad => exact ⟨ad, rfl⟩
            have hx21 := heap_alloc_new w20 (.cells #[.slice ag' x.globals.length cg', .slice as' x.strings.length cs', .slice (some ad) i cf'] 26)
            have hb21 := ba18 w20 (.cells #[.slice ag' x.globals.length cg', .slice as' x.strings.length cs', .slice (some ad) i cf'] 26)
            have hicf : (i : Int) ≤ (cf' : Int) := by omega
            have hpr2 := (HPr.out.below hb21 (Nat.le_refl _)).mono hb21.size
            have HW21 := Lib.hid (HW20.out.trans (hb21.mono HW20.out.size))
            have hck2 := check_ok ⟨x.globals, x.strings, x.funcs.take i⟩ (.slice ag' x.globals.length cg') (.slice as' x.strings.length cs') (.slice (some ad) i cf') (w20.alloc (.cells #[.slice ag' x.globals.length cg', .slice as' x.strings.length cs', .slice (some ad) i cf'] 26)) (HE.out.below HW21.out).keys ⟨hpr2.gs, hpr2.ss, fns_take hpr2.fs (by have := HHn.out; omega)⟩
            rw [HFa.out] at hck2
            dsimp only at hck2
            have HCk2 := Lib.hid hck2
            clear hck2 hpr2 d0 d1 d2 hb21 hcp2
            go_upto_region 41 with fail
            generalize World.alloc w20 _ = w21 at *
            obtain ⟨⟨m0, m1, m2⟩, _⟩ := three18 hx21
            clear hx21
            go_wp2_with (go_at_call 6; (with_reducible refine HCk2.out.mono ?_); rintro e w22 ⟨rfl, hb22⟩; have HW22 := Lib.hid (HW21.out.trans (hb22.mono HW21.out.size)); clear hb22)
            go_ret
            exact ⟨rfl, HW22.out⟩
end Go.Proofs.YtlomdlblohnfmaaDoor

