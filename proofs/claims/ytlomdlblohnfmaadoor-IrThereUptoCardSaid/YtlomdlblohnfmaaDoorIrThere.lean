/- What a right function reads, writes and leads to is there: the law, walked. -/
import Derived.Test.YtlomdlblohnfmaaDoorIrWorks
import Derived.Test.YtlomdlblohnfmaaDoorIrReach2
import Derived.Test.YtlomdlblohnfmaaDoorIrReads2
import Derived.Test.YtlomdlblohnfmaaDoorIrOpen
namespace Go.Proofs.YtlomdlblohnfmaaDoor
open Go.RowKit

/-- an element of a list of numbers -/
theorem nums_cell {B : Nat} {w : World} {a : Option Addr} {L : List Int} (h : IsSl 1 intCells B w a L) {j : Nat} (hj : j < L.length) : ∃ b off, a = some ⟨b, off, none⟩ ∧ b < B ∧ w.cell? ⟨b, off + j, none⟩ = some (.int .i64 L[j]) := by
  obtain ⟨b, off, e, hlt, hc⟩ := h (fun e => by rw [e] at hj; simp at hj)
  refine ⟨b, off, e, hlt, ?_⟩
  have := hc j _ (List.getElem?_eq_getElem hj) 0 _ rfl
  rwa [Nat.mul_one, Nat.add_zero] at this
structure OpAll (regs : Int) (o : IrO) : Prop where
  any : anyI o = true
  rd : ∀ n ∈ readsI o, 0 ≤ n ∧ n < regs
  d : -1 ≤ o.d ∧ o.d < regs
  args : o.args.length ≤ 1048576
  text : o.text.size ≤ 1048576
  imm : I64 o.imm
structure BlkAll (regs blocks : Int) (b : IrB) : Prop where
  ops : ∀ o ∈ b.ops, OpAll regs o
  regs : ∀ n ∈ (exitsI b.exit).1, 0 ≤ n ∧ n < regs
  goes : ∀ n ∈ (exitsI b.exit).2, 1 ≤ n ∧ n < blocks
theorem blk_all {f : IrF} (h : funcI f 4611686018427387904 = true) (hI : FnI f) (hZ : ∀ b ∈ f.blocks, ∀ o ∈ b.ops, OpSz 1048576 o) : ∀ b ∈ f.blocks, BlkAll f.regs f.blocks.length b := fun b hb =>
  ⟨fun o ho => ⟨there_any h hb ho, fun _ hn => there_reads h hb ho hn, there_d h hb ho, (hZ b hb o ho).1, (hZ b hb o ho).2, ((hI.2.2.2 b hb).1 o ho).2.2.2.2.1⟩, (there_exit h hb).1, (there_exit h hb).2⟩
theorem blk_cells {w : World} {b : Nat} {x : IrX} {v : Value} {T : TypeId} (h : w.heap[b]? = some (.cells #[v, .int .i64 x.kind, .int .i64 x.a, .int .i64 x.d, .int .i64 x.to, .int .i64 x.els] T (0, 0))) :
    ∀ w', Below w.heap.size w w' → w'.cell? ⟨b, 0, none⟩ = some v ∧ ExCells w' b x := fun w' hb => by
  have h' := (hb.block b (lt_of_heap h)).trans h
  refine ⟨?_, ?_, ?_, ?_, ?_, ?_⟩ <;> simp [World.cell?, h']
theorem op_cells {w : World} {b : Nat} {o : IrO} {v : Value} {T : TypeId} (h : w.heap[b]? = some (.cells #[.int .i64 o.kind, .int .i64 o.d, .int .i64 o.a, .int .i64 o.b, .int .i64 o.imm, .string o.text, v] T (0, 0))) :
    ∀ w', Below w.heap.size w w' → w'.cell? ⟨b, 0, none⟩ = some (.int .i64 o.kind) ∧ w'.cell? ⟨b, 1, none⟩ = some (.int .i64 o.d) ∧ w'.cell? ⟨b, 2, none⟩ = some (.int .i64 o.a) ∧ w'.cell? ⟨b, 3, none⟩ = some (.int .i64 o.b) ∧ w'.cell? ⟨b, 4, none⟩ = some (.int .i64 o.imm) ∧ w'.cell? ⟨b, 5, none⟩ = some (.string o.text) ∧ w'.cell? ⟨b, 6, none⟩ = some v := fun w' hb => by
  have h' := (hb.block b (lt_of_heap h)).trans h
  refine ⟨?_, ?_, ?_, ?_, ?_, ?_, ?_⟩ <;> simp [World.cell?, h']
set_option maxRecDepth 100000 in
set_option maxHeartbeats 16000000 in
theorem there_right (f : IrF) (vs vb : Value) (w : World) (hE : IE w) (hk : 0 < w.heap.size) (hF : IsFn w.heap.size w f vs vb) (hI : FnI f) (hZ : ∀ b ∈ f.blocks, ∀ o ∈ b.ops, OpSz 1048576 o) (hr : funcI f 4611686018427387904 = true) :
    Calls Tryd.prog 4 #[fnV f vs vb] w fun e w' => e = .returned (.bool true) ∧ Below w.heap.size w w' := by
  obtain ⟨a1, c1, e1, _⟩ := hF.slots
  subst e1
  have hBk := hF.blocks
  obtain ⟨a2, c2, Q, e2, hok, hQ, hq, hops⟩ := hBk
  subst e2
  have hQl : Q.length = f.blocks.length := by rw [← hQ, List.length_map]
  have hbl : (f.blocks.length : Int) ≤ 140737488351232 := by have := hok.1; omega
  have hwk := fun w1 (hb1 : Below w.heap.size w w1) => works18_ok w1 (hE.below hb1) (Nat.lt_of_lt_of_le hk hb1.size)
  have hc := fun w1 (hb1 : Below w.heap.size w w1) => checkFunc_ok f (.slice a1 f.slots.length c1) (.slice a2 f.blocks.length c2) w1 (hE.keys.below hb1) ((hF.below hb1 (Nat.le_refl _)).mono hb1.size)
  rw [hr] at hc
  have hrc := fun w1 (hb1 : Below w.heap.size w w1) => reach_ok f (.slice a1 f.slots.length c1) (.slice a2 f.blocks.length c2) w1 (hE.keys.below hb1) ((hF.below hb1 (Nat.le_refl _)).mono hb1.size) hr
  unfold fnV at hc hrc
  obtain ⟨_, _, _, _, _, _, g6, _⟩ := headI_parts (funcI_parts hr).1
  have HG6 := Lib.hid g6
  have HAll := Lib.hid (blk_all hr hI hZ)
  have HWk := Lib.hid hwk
  have HC := Lib.hid hc
  have HR := Lib.hid hrc
  have HE := Lib.hid hE
  have HQ := Lib.hid hQ
  have HB := Lib.hid hq
  have HO := Lib.hid hops
  have HQL := Lib.hid hQl
  have HBa := Lib.hid ((Below.refl w.heap.size w).alloc (Nat.le_refl _) (.cells #[.string f.name, .int .i64 f.params, .int .i64 f.regs, .slice a1 f.slots.length c1, .slice a2 f.blocks.length c2] 35))
  have HFc := Lib.hid (fn_cells (heap_alloc_new w (.cells #[.string f.name, .int .i64 f.params, .int .i64 f.regs, .slice a1 f.slots.length c1, .slice a2 f.blocks.length c2] 35)))
  clear hE hk hF hI hZ hr hok hQ hq hops hQl hwk hc hrc g6
  unfold fnV
  go_enter Tryd.func4, Tryd.ntmps4
  go_upto_region 1 with fail
  have hn0 : w.heap.size < (World.alloc w (.cells #[.string f.name, .int .i64 f.params, .int .i64 f.regs, .slice a1 f.slots.length c1, .slice a2 f.blocks.length c2] 35)).heap.size := by simp
  have HBs := Lib.hid HBa.out.size
  generalize World.alloc w _ = wa at *
  go_upto_region 3 with (go_at_call 5; (with_reducible refine (HWk.out _ HBa.out).mono ?_); rintro e w1 ⟨rfl, hb1⟩; have HB1 := Lib.hid hb1; clear hb1)
  obtain ⟨d0, d1, d2, d3, d4⟩ := HFc.out _ HB1.out
  have HW1 := Lib.hid (HBa.out.trans (HB1.out.mono HBs.out))
  go_upto_region 5 with (go_at_call 8; (with_reducible refine (HC.out _ HW1.out).mono ?_); rintro e w2 ⟨rfl, hb2⟩; have HB2 := Lib.hid (HB1.out.trans (hb2.mono HB1.out.size)); have HW2 := Lib.hid (HW1.out.trans (hb2.mono HW1.out.size)); clear hb2)
  clear d0 d1 d2 d3 d4
  obtain ⟨d0, d1, d2, d3, d4⟩ := HFc.out _ HB2.out
  go_upto_region 6 with (go_at_call 9; (with_reducible refine (HR.out _ HW2.out).mono ?_); rintro e w3 ⟨⟨S, v3, rfl, hS, hn3⟩, hb3⟩; have HB3 := Lib.hid (HB2.out.trans (hb3.mono HB2.out.size)); have HW3 := Lib.hid (HW2.out.trans (hb3.mono HW2.out.size)); have HS := Lib.hid hS; have HN3 := Lib.hid hn3; clear hb3 hS hn3)
  clear d0 d1 d2 d3 d4
  obtain ⟨a3, c3, rfl, ho3, hs3⟩ := HN3.out
  obtain ⟨L3, hL3⟩ : ∃ L, L = markedI S f.blocks.length := ⟨_, rfl⟩
  have hhd := markedI_head HS.out.first (k := f.blocks.length) (by have := HG6.out; omega)
  rw [← hL3] at ho3 hs3 hhd ⊢
  obtain ⟨hl3, hv3⟩ := List.getElem?_eq_some_iff.1 hhd
  obtain ⟨b3, off3, rfl, _, e3⟩ := nums_cell hs3 hl3
  rw [hv3, Nat.add_zero] at e3
  have t3 : ((L3.length : Int) == 0) = false := by rw [beq_eq_false_iff_ne]; intro h; omega
  have t4 : (0 : Int) < (L3.length : Int) := by omega
  clear hL3 hhd hl3 hv3 hs3 ho3 HN3 HS HC HR HWk HG6
  obtain ⟨d0, d1, d2, d3, d4⟩ := HFc.out _ HB3.out
  go_wp2_with fail
  clear e3 t3 t4 d0 d1 d2 d3 d4
  go_loopg [45] f.blocks.length (fun g v45 wy => ∃ j : Nat, j ≤ f.blocks.length ∧ j + g = f.blocks.length ∧ v45 = .int .i64 (j : Int) ∧ Hid (Below wa.heap.size wa wy ∧ Below w.heap.size w wy))
  case atStart => exact ⟨0, by omega, by omega, rfl, Lib.hid ⟨HB3.out, HW3.out⟩⟩
  case round =>
    obtain ⟨j, hj, hjg, rfl, HW⟩ := hrel
    by_cases hlt : j < f.blocks.length
    · have hlq : j < Q.length := by rw [HQL.out]; exact hlt
      obtain ⟨bb, off, ha, hbl2, hrow⟩ := HB.out (fun e => by rw [e] at hlq; simp at hlq)
      subst ha
      have hqb := Lib.hid (show Q[j].1 = f.blocks[j] by
        have h1 : (Q.map Prod.fst)[j]? = f.blocks[j]? := by rw [HQ.out]
        rw [List.getElem?_map, List.getElem?_eq_getElem hlq, List.getElem?_eq_getElem hlt] at h1
        exact Option.some.inj h1)
      have e0 := hrow j _ (List.getElem?_eq_getElem hlq) 0 _ rfl
      have e1 := hrow j _ (List.getElem?_eq_getElem hlq) 1 _ rfl
      have e2 := hrow j _ (List.getElem?_eq_getElem hlq) 2 _ rfl
      have e3 := hrow j _ (List.getElem?_eq_getElem hlq) 3 _ rfl
      have e4 := hrow j _ (List.getElem?_eq_getElem hlq) 4 _ rfl
      have e5 := hrow j _ (List.getElem?_eq_getElem hlq) 5 _ rfl
      rw [← HW.out.2.cell hbl2] at e0 e1 e2 e3 e4 e5
      simp only [Nat.add_zero] at e0
      have hvo := HO.out _ (List.getElem_mem hlq)
      have HBk := Lib.hid (HAll.out _ (List.getElem_mem hlt))
      rw [← hqb.out] at HBk
      clear hrow hqb
      generalize Q[j]'hlq = q at *
      obtain ⟨bk, vo⟩ := q
      simp only at e0 e1 e2 e3 e4 e5 hvo HBk
      obtain ⟨ao, co, Qo, rfl, hoks, hQo, hso, hno⟩ := hvo
      have HQo := Lib.hid hQo
      have HSo := Lib.hid hso
      have HNo := Lib.hid hno
      have hln : (bk.ops.length : Int) ≤ 140737488351232 := by have := hoks.1; omega
      have hQol := Lib.hid (show Qo.length = bk.ops.length by rw [← hQo, List.length_map])
      have hjl : (j : Int) < (f.blocks.length : Int) := by omega
      clear hlt hlq hoks hQo hso hno
      have HX4 := Lib.hid (blk_cells (heap_alloc_new wr (.cells #[.slice ao bk.ops.length co, .int .i64 bk.exit.kind, .int .i64 bk.exit.a, .int .i64 bk.exit.d, .int .i64 bk.exit.to, .int .i64 bk.exit.els] 41)))
      have HB4 := Lib.hid (show Below wr.heap.size wr (wr.alloc (.cells #[.slice ao bk.ops.length co, .int .i64 bk.exit.kind, .int .i64 bk.exit.a, .int .i64 bk.exit.d, .int .i64 bk.exit.to, .int .i64 bk.exit.els] 41)) from (Below.refl _ _).alloc (Nat.le_refl _) _)
      go_upto_region 11 with fail
      have HW4 := Lib.hid (And.intro (HW.out.1.trans (HB4.out.mono HW.out.1.size)) (HW.out.2.trans (HB4.out.mono HW.out.2.size)))
      have hb4 : wr.heap.size < (World.alloc wr (.cells #[.slice ao bk.ops.length co, .int .i64 bk.exit.kind, .int .i64 bk.exit.a, .int .i64 bk.exit.d, .int .i64 bk.exit.to, .int .i64 bk.exit.els] 41)).heap.size := by simp
      generalize hbx : wr.heap.size = bx at *
      generalize hw4 : World.alloc wr _ = w4 at *
      clear hbx hw4 e0 e1 e2 e3 e4 e5 HB4
      obtain ⟨x0, _⟩ := HX4.out _ (Below.refl _ _)
      go_wp2_with fail
      clear x0
      go_loopg [52] bk.ops.length (fun g v52 wy => ∃ i : Nat, i ≤ bk.ops.length ∧ i + g = bk.ops.length ∧ v52 = .int .i64 (i : Int) ∧ Hid (Below w4.heap.size w4 wy))
      case atStart => exact ⟨0, by omega, by omega, rfl, Lib.hid (Below.refl _ _)⟩
      case round =>
        obtain ⟨i, hi, hig, rfl, HJ⟩ := hrel
        have HWj := Lib.hid (And.intro (HW4.out.1.trans (HJ.out.mono HW4.out.1.size)) (HW4.out.2.trans (HJ.out.mono HW4.out.2.size)))
        by_cases hil : i < bk.ops.length
        · have hlqo : i < Qo.length := by rw [hQol.out]; exact hil
          obtain ⟨b3, off3, ha, hbl3, hrow⟩ := HSo.out (fun e => by rw [e] at hlqo; simp at hlqo)
          subst ha
          have hqb := Lib.hid (show Qo[i].1 = bk.ops[i] by
            have h1 : (Qo.map Prod.fst)[i]? = bk.ops[i]? := by rw [HQo.out]
            rw [List.getElem?_map, List.getElem?_eq_getElem hlqo, List.getElem?_eq_getElem hil] at h1
            exact Option.some.inj h1)
          have e0 := hrow i _ (List.getElem?_eq_getElem hlqo) 0 _ rfl
          have e1 := hrow i _ (List.getElem?_eq_getElem hlqo) 1 _ rfl
          have e2 := hrow i _ (List.getElem?_eq_getElem hlqo) 2 _ rfl
          have e3 := hrow i _ (List.getElem?_eq_getElem hlqo) 3 _ rfl
          have e4 := hrow i _ (List.getElem?_eq_getElem hlqo) 4 _ rfl
          have e5 := hrow i _ (List.getElem?_eq_getElem hlqo) 5 _ rfl
          have e6 := hrow i _ (List.getElem?_eq_getElem hlqo) 6 _ rfl
          rw [← HWj.out.2.cell hbl3] at e0 e1 e2 e3 e4 e5 e6
          simp only [Nat.add_zero] at e0
          have hnv := (HNo.out _ (List.getElem_mem hlqo)).2
          have HOp := Lib.hid (HBk.out.ops _ (List.getElem_mem hil))
          rw [← hqb.out] at HOp
          have hil2 : (i : Int) < (bk.ops.length : Int) := by omega
          clear hrow hqb hil
          generalize Qo[i]'hlqo = qo at *
          obtain ⟨ob, va⟩ := qo
          simp only at e0 e1 e2 e3 e4 e5 e6 hnv HOp
          have HNv := Lib.hid hnv
          obtain ⟨av, cv, rfl, _, _⟩ := hnv
          clear hlqo
          have HX5 := Lib.hid (op_cells (heap_alloc_new wr (.cells #[.int .i64 ob.kind, .int .i64 ob.d, .int .i64 ob.a, .int .i64 ob.b, .int .i64 ob.imm, .string ob.text, .slice av ob.args.length cv] 54)))
          have HB5 := Lib.hid (show Below wr.heap.size wr (wr.alloc (.cells #[.int .i64 ob.kind, .int .i64 ob.d, .int .i64 ob.a, .int .i64 ob.b, .int .i64 ob.imm, .string ob.text, .slice av ob.args.length cv] 54)) from (Below.refl _ _).alloc (Nat.le_refl _) _)
          go_upto_region 14 with fail
          have HJ5 := Lib.hid (HJ.out.trans (HB5.out.mono HJ.out.size))
          have hb5 : wr.heap.size < (World.alloc wr (.cells #[.int .i64 ob.kind, .int .i64 ob.d, .int .i64 ob.a, .int .i64 ob.b, .int .i64 ob.imm, .string ob.text, .slice av ob.args.length cv] 54)).heap.size := by simp
          generalize hbo : wr.heap.size = bo at *
          generalize hw5 : World.alloc wr _ = w5 at *
          clear hbo hw5 e0 e1 e2 e3 e4 e5 e6 HB5
          have HW5 := Lib.hid (HW4.out.2.trans (HJ5.out.mono HW4.out.2.size))
          have HRd := Lib.hid (reads_ok ob (.slice av ob.args.length cv) w5 (HE.out.below HW5.out).keys ((HNv.out.below HW5.out (Nat.le_refl _)).mono HW5.out.size) HOp.out.any HOp.out.args)
          have HLn := Lib.hid (fun w6 (hb6 : Below w5.heap.size w5 w6) => lineOf_ok ob (.slice av ob.args.length cv) w6 (HE.out.below (HW5.out.trans (hb6.mono HW5.out.size))) ((HNv.out.below (HW5.out.trans (hb6.mono HW5.out.size)) (Nat.le_refl _)).mono (HW5.out.trans (hb6.mono HW5.out.size)).size) HOp.out.any HOp.out.args HOp.out.text HOp.out.imm)
          unfold opV at HRd HLn
          obtain ⟨x0, x1, x2, x3, x4, x5, x6⟩ := HX5.out _ (Below.refl _ _)
          go_upto_region 15 with (go_at_call 12; (with_reducible refine HRd.out.mono ?_); rintro e w6 ⟨⟨v6, rfl, hn6⟩, hb6⟩; have HN6 := Lib.hid hn6; have HB6 := Lib.hid hb6; obtain ⟨a6, c6, rfl, ho6, hs6⟩ := hn6; clear hb6)
          clear x0 x1 x2 x3 x4 x5 x6
          have hl6 : ((readsI ob).length : Int) ≤ 140737488351232 := by have := ho6.1; omega
          have HS6 := Lib.hid hs6
          clear hs6 ho6
          go_loopg [59] (readsI ob).length (fun g v59 wy => ∃ k : Nat, k ≤ (readsI ob).length ∧ k + g = (readsI ob).length ∧ v59 = .int .i64 (k : Int) ∧ wy = w6)
          case atStart => exact ⟨0, by omega, by omega, rfl, rfl⟩
          case round =>
            obtain ⟨k, hk, hkg, rfl, hw6⟩ := hrel
            subst hw6
            by_cases hkl : k < (readsI ob).length
            · obtain ⟨b6, off6, rfl, hlt6, y0⟩ := nums_cell HS6.out hkl
              have hn := HOp.out.rd _ (List.getElem_mem hkl)
              have hk2 : (k : Int) < ((readsI ob).length : Int) := by omega
              obtain ⟨d0, d1, d2, d3, d4⟩ := HFc.out _ (HW4.out.1.trans ((HJ5.out.trans (HB6.out.mono HJ5.out.size)).mono HW4.out.1.size))
              generalize (readsI ob)[k]'hkl = n at *
              obtain ⟨n0, n1⟩ := hn
              clear hkl
              go_wp2_with fail
              go_roundg ((readsI ob).length - (k + 1))
              case measure => omega
              case rel => exact ⟨k + 1, by omega, by omega, by rw [Int.natCast_add]; rfl, rfl⟩
            · obtain rfl : k = (readsI ob).length := by omega
              have hk2 : ((readsI ob).length : Int) ≤ ((readsI ob).length : Int) := Int.le_refl _
              obtain ⟨x0, x1, x2, x3, x4, x5, x6⟩ := HX5.out _ HB6.out
              obtain ⟨y1, y2⟩ := HOp.out.d
              have HLn6 := Lib.hid (HLn.out _ HB6.out)
              have HFc7 := Lib.hid (fun w7 (hb7 : Below w4.heap.size w4 w7) => HFc.out w7 (HW4.out.1.trans (hb7.mono HW4.out.1.size)))
              have HJ6 := Lib.hid (HJ5.out.trans (HB6.out.mono HJ5.out.size))
              clear hkl
              go_wp2_with (go_at_call 13; (with_reducible refine HLn6.out.mono ?_); rintro e w7 ⟨rfl, hb7⟩; have HB7 := Lib.hid hb7; have HJ7 := Lib.hid (HJ6.out.trans (hb7.mono HJ6.out.size)); clear x0 x1 x2 x3 x4 x5 x6; obtain ⟨x0, x1, x2, x3, x4, x5, x6⟩ := HX5.out _ (HB6.out.trans (hb7.mono HB6.out.size)); obtain ⟨d0, d1, d2, d3, d4⟩ := HFc7.out _ HJ7.out; clear hb7)
              go_roundg (bk.ops.length - (i + 1))
              case measure => omega
              case rel => exact ⟨i + 1, by omega, by omega, by rw [Int.natCast_add]; rfl, HJ7⟩
        · obtain rfl : i = bk.ops.length := by omega
          have hi2 : (bk.ops.length : Int) ≤ (bk.ops.length : Int) := Int.le_refl _
          obtain ⟨_, x1, x2, x3, x4, x5⟩ := HX4.out _ HJ.out
          have HEx := Lib.hid (exits_ok bk.exit wr)
          unfold exitV at HEx
          clear hil
          go_upto_region 25 with (go_at_call 14; (with_reducible refine HEx.out.mono ?_); rintro e w8 ⟨⟨v1, v2, rfl, _, hn1, hn2⟩, hb8⟩; have HJ8 := Lib.hid (HJ.out.trans (hb8.mono HJ.out.size)); obtain ⟨a1', c1', rfl, ho1, hs1⟩ := hn1; obtain ⟨a2', c2', rfl, ho2, hs2⟩ := hn2; clear hb8)
          clear x1 x2 x3 x4 x5
          have HS1 := Lib.hid hs1
          have HS2 := Lib.hid hs2
          have hl1 : ((exitsI bk.exit).1.length : Int) ≤ 140737488351232 := by have := ho1.1; omega
          have hl2 : ((exitsI bk.exit).2.length : Int) ≤ 140737488351232 := by have := ho2.1; omega
          clear hs1 hs2 ho1 ho2
          obtain ⟨d0, d1, d2, d3, d4⟩ := HFc.out _ (HW4.out.1.trans (HJ8.out.mono HW4.out.1.size))
          go_wp2_with fail
          go_loopg [100] (exitsI bk.exit).1.length (fun g v100 wy => ∃ k : Nat, k ≤ (exitsI bk.exit).1.length ∧ k + g = (exitsI bk.exit).1.length ∧ v100 = .int .i64 (k : Int) ∧ wy = w8)
          case atStart => exact ⟨0, by omega, by omega, rfl, rfl⟩
          case round =>
            obtain ⟨k, hk, hkg, rfl, hw8⟩ := hrel
            subst hw8
            by_cases hkl : k < (exitsI bk.exit).1.length
            · obtain ⟨b6, off6, rfl, hlt6, y0⟩ := nums_cell HS1.out hkl
              have hn := HBk.out.regs _ (List.getElem_mem hkl)
              have hk2 : (k : Int) < ((exitsI bk.exit).1.length : Int) := by omega
              generalize (exitsI bk.exit).1[k]'hkl = n at *
              obtain ⟨n0, n1⟩ := hn
              clear hkl
              go_wp2_with fail
              go_roundg ((exitsI bk.exit).1.length - (k + 1))
              case measure => omega
              case rel => exact ⟨k + 1, by omega, by omega, by rw [Int.natCast_add]; rfl, rfl⟩
            · obtain rfl : k = (exitsI bk.exit).1.length := by omega
              have hk2 : ((exitsI bk.exit).1.length : Int) ≤ ((exitsI bk.exit).1.length : Int) := Int.le_refl _
              clear hkl
              go_wp2_with fail
              go_loopg [115] (exitsI bk.exit).2.length (fun g v115 wy => ∃ k : Nat, k ≤ (exitsI bk.exit).2.length ∧ k + g = (exitsI bk.exit).2.length ∧ v115 = .int .i64 (k : Int) ∧ wy = wr)
              case atStart => exact ⟨0, by omega, by omega, rfl, rfl⟩
              case round =>
                obtain ⟨k, hk, hkg, rfl, hw9⟩ := hrel
                subst hw9
                by_cases hkl : k < (exitsI bk.exit).2.length
                · obtain ⟨b6, off6, rfl, hlt6, y0⟩ := nums_cell HS2.out hkl
                  have hn := HBk.out.goes _ (List.getElem_mem hkl)
                  have hk3 : (k : Int) < ((exitsI bk.exit).2.length : Int) := by omega
                  generalize (exitsI bk.exit).2[k]'hkl = n at *
                  obtain ⟨n0, n1⟩ := hn
                  clear hkl
                  go_wp2_with fail
                  go_roundg ((exitsI bk.exit).2.length - (k + 1))
                  case measure => omega
                  case rel => exact ⟨k + 1, by omega, by omega, by rw [Int.natCast_add]; rfl, rfl⟩
                · obtain rfl : k = (exitsI bk.exit).2.length := by omega
                  have hk3 : ((exitsI bk.exit).2.length : Int) ≤ ((exitsI bk.exit).2.length : Int) := Int.le_refl _
                  clear hkl
                  go_wp2_with fail
                  go_roundg (f.blocks.length - (j + 1))
                  case measure => omega
                  case rel => exact ⟨j + 1, by omega, by omega, by rw [Int.natCast_add]; rfl, Lib.hid ⟨HW4.out.1.trans (HJ8.out.mono HW4.out.1.size), HW4.out.2.trans (HJ8.out.mono HW4.out.2.size)⟩⟩
    · obtain rfl : j = f.blocks.length := by omega
      have hi2 : (f.blocks.length : Int) ≤ (f.blocks.length : Int) := Int.le_refl _
      clear hlt
      go_wp2_with fail
      go_ret
      exact ⟨rfl, HW.out.2⟩
set_option maxRecDepth 100000 in
set_option maxHeartbeats 4000000 in
theorem there_wrong (f : IrF) (vs vb : Value) (w : World) (hE : IE w) (hk : 0 < w.heap.size) (hF : IsFn w.heap.size w f vs vb) (hr : funcI f 4611686018427387904 ≠ true) :
    Calls Tryd.prog 4 #[fnV f vs vb] w fun e w' => e = .returned (.bool true) ∧ Below w.heap.size w w' := by
  obtain ⟨a1, c1, e1, _⟩ := hF.slots
  subst e1
  obtain ⟨a2, c2, _, e2, _⟩ := hF.blocks
  subst e2
  have hwk := fun w1 (hb1 : Below w.heap.size w w1) => works18_ok w1 (hE.below hb1) (Nat.lt_of_lt_of_le hk hb1.size)
  have hc := fun w1 (hb1 : Below w.heap.size w w1) => checkFunc_ok f (.slice a1 f.slots.length c1) (.slice a2 f.blocks.length c2) w1 (hE.keys.below hb1) ((hF.below hb1 (Nat.le_refl _)).mono hb1.size)
  rw [if_neg hr] at hc
  unfold fnV at hc
  have HWk := Lib.hid hwk
  have HC := Lib.hid hc
  have HBa := Lib.hid ((Below.refl w.heap.size w).alloc (Nat.le_refl _) (.cells #[.string f.name, .int .i64 f.params, .int .i64 f.regs, .slice a1 f.slots.length c1, .slice a2 f.blocks.length c2] 35))
  have HFc := Lib.hid (fn_cells (heap_alloc_new w (.cells #[.string f.name, .int .i64 f.params, .int .i64 f.regs, .slice a1 f.slots.length c1, .slice a2 f.blocks.length c2] 35)))
  clear hE hk hF hr hwk hc
  unfold fnV
  go_enter Tryd.func4, Tryd.ntmps4
  go_upto_region 1 with fail
  have HBs := Lib.hid HBa.out.size
  generalize World.alloc w _ = wa at *
  go_upto_region 3 with (go_at_call 5; (with_reducible refine (HWk.out _ HBa.out).mono ?_); rintro e w1 ⟨rfl, hb1⟩; have HB1 := Lib.hid hb1; clear hb1)
  obtain ⟨d0, d1, d2, d3, d4⟩ := HFc.out _ HB1.out
  have HW1 := Lib.hid (HBa.out.trans (HB1.out.mono HBs.out))
  go_wp2_with (go_at_call 8; (with_reducible refine (HC.out _ HW1.out).mono ?_); rintro e w2 ⟨rfl, hb2⟩; have HW2 := Lib.hid (HW1.out.trans (hb2.mono HW1.out.size)); clear hb2)
  go_ret
  exact ⟨rfl, HW2.out⟩
theorem irThere_ok (f : IrF) (vs vb : Value) (w : World) (hE : IE w) (hk : 0 < w.heap.size) (hF : IsFn w.heap.size w f vs vb) (hI : FnI f) (hZ : ∀ b ∈ f.blocks, ∀ o ∈ b.ops, OpSz 1048576 o) :
    Calls Tryd.prog 4 #[fnV f vs vb] w fun e w' => e = .returned (.bool true) ∧ Below w.heap.size w w' := by
  by_cases hr : funcI f 4611686018427387904 = true
  · exact there_right f vs vb w hE hk hF hI hZ hr
  · exact there_wrong f vs vb w hE hk hF hr
end Go.Proofs.YtlomdlblohnfmaaDoor

