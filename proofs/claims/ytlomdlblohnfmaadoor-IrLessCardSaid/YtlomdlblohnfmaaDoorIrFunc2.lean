/- A function is right. -/
import Derived.Test.YtlomdlblohnfmaaDoorIrFunc
namespace Go.Proofs.YtlomdlblohnfmaaDoor
open Go.RowKit

theorem slot_bad {f : IrF} {strings : Int} {j : Nat} (hj : j < f.slots.length) (h : slotI f.slots[j] = false) : funcI f strings = false := by
  unfold funcI
  have : f.slots.all slotI = false := by
    rw [List.all_eq_false]
    exact ⟨f.slots[j], List.getElem_mem hj, by rw [h]; simp⟩
  rw [this]
  simp
/-- the operations of the first blocks -/
def opsI (bs : List IrB) (j : Nat) : Nat := ((bs.take j).map fun b => b.ops.length).sum
theorem opsI_next {bs : List IrB} {j : Nat} (h : j < bs.length) : opsI bs (j + 1) = opsI bs j + bs[j].ops.length := by
  unfold opsI
  rw [List.take_succ_eq_append_getElem h, List.map_append, List.sum_append]
  simp
theorem opsI_le (bs : List IrB) : ∀ j, opsI bs j ≤ (bs.map fun b => b.ops.length).sum := by
  intro j
  unfold opsI
  have : (bs.map fun b => b.ops.length).sum = ((bs.take j).map fun b => b.ops.length).sum + ((bs.drop j).map fun b => b.ops.length).sum := by
    rw [← List.sum_append, ← List.map_append, List.take_append_drop]
  omega
/-- a block is right by itself -/
def blkI (f : IrF) (strings : Int) (b : IrB) : Bool := exitI f.regs f.blocks.length b.exit && b.ops.all (opI f.regs f.slots.length strings)
theorem body_many {f : IrF} {strings : Int} {j : Nat} (h : 4096 < opsI f.blocks j) : funcI f strings = false := by
  have := opsI_le f.blocks j
  have hb : bodyI f strings = false := by
    unfold bodyI
    rw [decide_eq_false (by omega)]
    rfl
  unfold funcI
  rw [hb]
  simp
theorem body_bad {f : IrF} {strings : Int} {j : Nat} (hj : j < f.blocks.length) (h : blkI f strings f.blocks[j] = false) : funcI f strings = false := by
  have hb : bodyI f strings = false := by
    unfold bodyI
    have : (f.blocks.all fun b => exitI f.regs f.blocks.length b.exit && b.ops.all (opI f.regs f.slots.length strings)) = false := by
      rw [List.all_eq_false]
      exact ⟨f.blocks[j], List.getElem_mem hj, by unfold blkI at h; rw [h]; simp⟩
    rw [this]
    simp
  unfold funcI
  rw [hb]
  simp
theorem body_good {f : IrF} {strings : Int} (h1 : headI f = true) (h2 : ∀ j (hj : j < f.slots.length), slotI f.slots[j] = true) (h3 : ∀ j (hj : j < f.blocks.length), blkI f strings f.blocks[j] = true) (h4 : opsI f.blocks f.blocks.length ≤ 4096) : funcI f strings = apartI f.blocks := by
  have hs : f.slots.all slotI = true := by
    rw [List.all_eq_true]
    intro x hx
    obtain ⟨j, hj, rfl⟩ := List.getElem_of_mem hx
    exact h2 j hj
  have hb : bodyI f strings = true := by
    unfold bodyI
    rw [Bool.and_eq_true]
    refine ⟨?_, ?_⟩
    · unfold opsI at h4
      rw [List.take_length] at h4
      exact decide_eq_true h4
    · rw [List.all_eq_true]
      intro x hx
      obtain ⟨j, hj, rfl⟩ := List.getElem_of_mem hx
      exact h3 j hj
  unfold funcI
  rw [h1, hs, hb]
  rfl
theorem blk_exits {f : IrF} {strings : Int} (h3 : ∀ j (hj : j < f.blocks.length), blkI f strings f.blocks[j] = true) : ∀ b ∈ f.blocks, ∀ y ∈ (exitsI b.exit).2, 1 ≤ y ∧ y < (f.blocks.length : Int) := by
  intro b hb
  obtain ⟨j, hj, rfl⟩ := List.getElem_of_mem hb
  have := h3 j hj
  unfold blkI at this
  rw [Bool.and_eq_true] at this
  exact (exitI_there this.1).2

/-- one of them is not right -/
def badOps (regs slots strings : Int) (l : List IrO) : Bool := l.any fun o => !opI regs slots strings o
theorem ops_any (bb : Nat) (regs slots strings : Int) (v : Value) (L : List IrO) (r : Bool) (hr : badOps regs slots strings L = r) (w : World) (hK : KeysAt w) (h : BndAt w bb regs slots strings) (hA : IsOps w.heap.size w v L) :
    Calls Tryd.prog 43 #[v, .func (.func 44) #[] #[.pointer (some ⟨bb, 0, none⟩)]] w fun e w' => e = .returned (.bool r) ∧ Below w.heap.size w w' := by
  obtain ⟨a, cap, Q, rfl, ho, hQ, hs, ha⟩ := hA
  subst hQ
  have hp : Tells Tryd.prog 44 #[.pointer (some ⟨bb, 0, none⟩)] opVal (fun q : IrO × Value => !opI regs slots strings q.1) Q w := fun W q hq hW =>
    fnClo_ok bb regs slots strings q _ (by simp) W (hK.below hW) (h.below hW) (((ha q hq).2.below hW (Nat.le_refl _)).mono hW.size)
  have := any_op 44 _ (enters_of Tryd.func44 (by kernel_rfl) rfl) (fun q : IrO × Value => !opI regs slots strings q.1) r a cap Q w hs hp (by
    have := ho.1
    rw [List.length_map] at this
    omega) (by
    rw [← hr]
    unfold badOps
    rw [List.any_map]
    rfl)
  rw [List.length_map]
  exact this
theorem badOps_not (regs slots strings : Int) (l : List IrO) : l.all (opI regs slots strings) = !badOps regs slots strings l := by
  unfold badOps
  induction l with
  | nil => rfl
  | cons x r ih => rw [List.any_cons, List.all_cons, Bool.not_or, ih, Bool.not_not]

set_option maxRecDepth 100000 in
set_option maxHeartbeats 16000000 in
theorem func_good (f : IrF) (vs vb : Value) (strings : Int) (w : World) (hK : KeysAt w) (hF : IsFn w.heap.size w f vs vb) (h : headI f = true) :
    Calls Tryd.prog 21 #[fnV f vs vb, .int .i64 strings] w fun e w' => e = .returned (.bool (funcI f strings)) ∧ Below w.heap.size w w' := by
  obtain ⟨hname, hS, hB⟩ := hF
  have HBk := Lib.hid hB
  obtain ⟨a1, c1, rfl, _, hs⟩ := hS
  obtain ⟨a2, c2, Q, rfl, _, hQ, hq, hops⟩ := hB
  have HN0 := fun w1 (hK1 : KeysAt w1) => lexIsName_any f.name w1 hK1
  obtain ⟨g0, g1, g2, g3, g4, g5, g6, g7⟩ := headI_parts h
  rw [g0] at HN0
  have HNm := Lib.hid HN0
  have HH := Lib.hid h
  have HS := Lib.hid hs
  have HQ := Lib.hid hQ
  have HB := Lib.hid hq
  have HO := Lib.hid hops
  have hQl : Q.length = f.blocks.length := by rw [← hQ, List.length_map]
  have HQL := Lib.hid hQl
  have HG7 := Lib.hid g7
  have HK0 := Lib.hid hK
  have p5 : (f.slots.length : Int) ≤ 256 := by omega
  have p6 : 1 ≤ (f.blocks.length : Int) := by omega
  have p7 : (f.blocks.length : Int) ≤ 4096 := by omega
  have HK := Lib.hid (hK.below ((Below.refl w.heap.size w).alloc (Nat.le_refl _) (.cells #[.string f.name, .int .i64 f.params, .int .i64 f.regs, .slice a1 f.slots.length c1, .slice a2 f.blocks.length c2] 35)))
  have hf0 := fnAt_new (heap_alloc_new w (.cells #[.string f.name, .int .i64 f.params, .int .i64 f.regs, .slice a1 f.slots.length c1, .slice a2 f.blocks.length c2] 35))
  have HF := Lib.hid hf0
  clear hK hf0 HN0 h hs hQ hq hops hQl g0 g5 g6 g7 hname
  unfold fnV
  go_enter Tryd.func21, Tryd.ntmps21
  go_wp2_with (go_at_call 38; (with_reducible refine (HNm.out _ HK.out).mono ?_); rintro e w1 ⟨rfl, hb1⟩; have HB1 := Lib.hid (((Below.refl _ _).alloc (Nat.le_refl _) _).trans (hb1.mono (by simp))); have HF1 := Lib.hid (HF.out.below hb1); obtain ⟨c0, c1, c2, c3, c4⟩ := HF.out.below hb1; clear hb1)
  clear c0 c1 c2 c3 c4
  go_loopg [58] f.slots.length (fun g v58 wy => ∃ j : Nat, j ≤ f.slots.length ∧ j + g = f.slots.length ∧ v58 = .int .i64 (j : Int) ∧ Hid (∀ i (hi : i < f.slots.length), i < j → slotI f.slots[i] = true) ∧ Hid (Below w1.heap.size w1 wy))
  case atStart => exact ⟨0, by omega, by omega, rfl, fun i _ hi => by omega, Below.refl _ _⟩
  case round =>
    obtain ⟨j, hj, hjg, rfl, HSl, HW⟩ := hrel
    by_cases hlt : j < f.slots.length
    · have hslf : j < f.slots.length := hlt
      obtain ⟨bb, off, ha, hbl, hrow⟩ := HS.out (fun e => by rw [e] at hlt; simp at hlt)
      subst ha
      have HBw := Lib.hid (HB1.out.trans (HW.out.mono HB1.out.size))
      have e0 := hrow j _ (List.getElem?_eq_getElem hlt) 0 _ rfl
      have e1 := hrow j _ (List.getElem?_eq_getElem hlt) 1 _ rfl
      have e2 := hrow j _ (List.getElem?_eq_getElem hlt) 2 _ rfl
      rw [← HBw.out.cell hbl] at e0 e1 e2
      simp only [Nat.add_zero] at e0
      have hjl : (j : Int) < (f.slots.length : Int) := by omega
      cases hsl : slotI f.slots[j] with
      | false =>
        have HFin := Lib.hid (slot_bad (strings := strings) hlt hsl)
        clear HSl
        generalize f.slots[j]'hlt = s at *
        obtain ⟨sb, sa, sv⟩ := s
        simp only at e0 e1 e2
        have hsl2 : ¬ (1 ≤ sb ∧ sb ≤ 65536 ∧ (sa = 1 ∨ sa = 2 ∨ sa = 4)) := by
          unfold slotI at hsl
          exact of_decide_eq_false hsl
        rcases (show sb < 1 ∨ (1 ≤ sb ∧ 65536 < sb) ∨ (1 ≤ sb ∧ sb ≤ 65536 ∧ sa ≠ 1 ∧ sa ≠ 2 ∧ sa ≠ 4) by omega) with q0 | ⟨q0, q1⟩ | ⟨q0, q1, q2, q3, q4⟩
        · clear hsl2
          clear hrow hsl
          go_wp2_with fail
          go_ret
          exact ⟨by rw [HFin.out]; rfl, HBw.out.alloc HBw.out.size _⟩
        · clear hsl2
          clear hrow hsl
          go_wp2_with fail
          go_ret
          exact ⟨by rw [HFin.out]; rfl, HBw.out.alloc HBw.out.size _⟩
        · have t1 : (sa != 1) = true := by simpa using q2
          have t2 : (sa != 2) = true := by simpa using q3
          have t4 : (sa != 4) = true := by simpa using q4
          clear hsl2 q2 q3 q4
          clear hrow hsl
          go_wp2_with fail
          go_ret
          exact ⟨by rw [HFin.out]; rfl, HBw.out.alloc HBw.out.size _⟩
      | true =>
        have HSn := Lib.hid (show ∀ i (hi : i < f.slots.length), i < j + 1 → slotI f.slots[i] = true from fun i hi hij => by
          rcases Nat.lt_or_ge i j with h' | h'
          · exact HSl.out i hi h'
          · obtain rfl : i = j := by omega
            exact hsl)
        clear HSl
        generalize f.slots[j]'hlt = s at *
        obtain ⟨sb, sa, sv⟩ := s
        simp only at e0 e1 e2
        have hsl2 : 1 ≤ sb ∧ sb ≤ 65536 ∧ (sa = 1 ∨ sa = 2 ∨ sa = 4) := by
          unfold slotI at hsl
          exact of_decide_eq_true hsl
        obtain ⟨q0, q1, q2⟩ := hsl2
        rcases q2 with rfl | rfl | rfl
        · clear hrow hsl
          go_wp2_with fail
          go_roundg (f.slots.length - (j + 1))
          case measure => omega
          case rel => exact ⟨j + 1, by omega, by omega, by rw [Int.natCast_add]; rfl, HSn.out, HW.out.alloc HW.out.size _⟩
        · clear hrow hsl
          go_wp2_with fail
          go_roundg (f.slots.length - (j + 1))
          case measure => omega
          case rel => exact ⟨j + 1, by omega, by omega, by rw [Int.natCast_add]; rfl, HSn.out, HW.out.alloc HW.out.size _⟩
        · clear hrow hsl
          go_wp2_with fail
          go_roundg (f.slots.length - (j + 1))
          case measure => omega
          case rel => exact ⟨j + 1, by omega, by omega, by rw [Int.natCast_add]; rfl, HSn.out, HW.out.alloc HW.out.size _⟩
    · obtain rfl : j = f.slots.length := by omega
      have HSa := Lib.hid (show ∀ i (hi : i < f.slots.length), slotI f.slots[i] = true from fun i hi => HSl.out i hi hi)
      have t3 : (f.slots.length : Int) ≤ (f.slots.length : Int) := Int.le_refl _
      clear HSl hlt
      have HBw := Lib.hid (HB1.out.trans (HW.out.mono HB1.out.size))
      have HFw := Lib.hid (HF1.out.below HW.out)
      obtain ⟨c0, k1, k2, c3, c4⟩ := HFw.out
      clear c0 k1
      go_upto_region 10 with fail
      have hbn := bndAt_new (heap_alloc_new wr (.cells #[.int .i64 f.regs, .int .i64 (f.slots.length : Int), .int .i64 strings] 84))
      have hbb : Below wr.heap.size wr (wr.alloc (.cells #[.int .i64 f.regs, .int .i64 (f.slots.length : Int), .int .i64 strings] 84)) := (Below.refl _ _).alloc (Nat.le_refl _) _
      have HFb := Lib.hid (HFw.out.below hbb)
      have HBb := Lib.hid (HBw.out.trans (hbb.mono HBw.out.size))
      have HBn := Lib.hid hbn
      clear k2 c3 c4 hbn hbb
      generalize hwb : World.alloc wr (.cells #[.int .i64 f.regs, .int .i64 (f.slots.length : Int), .int .i64 strings] _) = wb at *
      clear hwb
      generalize wr.heap.size = bb at *
      obtain ⟨_, _, k2, c3, c4⟩ := HFb.out
      go_wp2_with fail
      clear k2 c3 c4
      go_loopg [8, 96] f.blocks.length (fun g v8 v96 wy => ∃ j : Nat, j ≤ f.blocks.length ∧ j + g = f.blocks.length ∧ v8 = .int .i64 (opsI f.blocks j : Int) ∧ v96 = .int .i64 (j : Int) ∧ Hid (opsI f.blocks j ≤ 4096) ∧ Hid (∀ i (hi : i < f.blocks.length), i < j → blkI f strings f.blocks[i] = true) ∧ Hid (Below wb.heap.size wb wy))
      case atStart => exact ⟨0, by omega, by omega, rfl, rfl, Nat.zero_le _, fun i _ hi => by omega, Below.refl _ _⟩
      case round =>
        obtain ⟨j, hj, hjg, rfl, rfl, HN4, HSl, HW2⟩ := hrel
        have HBw2 := Lib.hid (HBb.out.trans (HW2.out.mono HBb.out.size))
        by_cases hlt : j < f.blocks.length
        · have hlq : j < Q.length := by rw [HQL.out]; exact hlt
          obtain ⟨b2, off, ha, hbl, hrow⟩ := HB.out (fun e => by rw [e] at hlq; simp at hlq)
          subst ha
          have hqb := Lib.hid (show Q[j].1 = f.blocks[j] by
            have h1 : (Q.map Prod.fst)[j]? = f.blocks[j]? := by rw [HQ.out]
            rw [List.getElem?_map, List.getElem?_eq_getElem hlq, List.getElem?_eq_getElem hlt] at h1
            exact Option.some.inj h1)
          have e0 := hrow j _ (List.getElem?_eq_getElem hlq) 0 _ rfl
          have e1 := hrow j _ (List.getElem?_eq_getElem hlq) 1 _ rfl
          have e2 := hrow j _ (List.getElem?_eq_getElem hlq) 2 _ rfl
          have e3 := hrow j _ (List.getElem?_eq_getElem hlq) 3 _ rfl
          have e4 := hrow j _ (List.getElem?_eq_getElem hlq) 4 _ rfl
          have e5 := hrow j _ (List.getElem?_eq_getElem hlq) 5 _ rfl
          rw [← HBw2.out.cell hbl] at e0 e1 e2 e3 e4 e5
          simp only [Nat.add_zero] at e0
          have hvo := HO.out _ (List.getElem_mem hlq)
          have hnx := opsI_next hlt
          have HBad := Lib.hid (fun (h : blkI f strings f.blocks[j] = false) => body_bad (strings := strings) hlt h)
          have HMany := Lib.hid (fun (h : 4096 < opsI f.blocks (j + 1)) => body_many (strings := strings) (j := j + 1) h)
          have HGood := Lib.hid (fun (h : blkI f strings f.blocks[j] = true) => show ∀ i (hi : i < f.blocks.length), i < j + 1 → blkI f strings f.blocks[i] = true from fun i hi hij => by
            rcases Nat.lt_or_ge i j with h' | h'
            · exact HSl.out i hi h'
            · obtain rfl : i = j := by omega
              exact h)
          rw [← hqb.out] at HBad HGood hnx
          clear hrow hqb HSl
          generalize Q[j]'hlq = q at *
          obtain ⟨b, vo⟩ := q
          simp only at e0 e1 e2 e3 e4 e5 hvo HBad HGood hnx
          have HVo := Lib.hid hvo
          obtain ⟨ao, co, Qo, rfl, hok, _⟩ := hvo
          have hln : (b.ops.length : Int) ≤ 140737488351232 := by have := hok.1; omega
          clear hok hlq
          have hjl : (j : Int) < (f.blocks.length : Int) := by omega
          have hn4 : (opsI f.blocks j : Int) ≤ 4096 := by have := HN4.out; omega
          have hn0 : 0 ≤ (opsI f.blocks j : Int) := by omega
          clear hlt
          have HNx := Lib.hid hnx
          clear hnx
          generalize opsI f.blocks j = nj at *
          by_cases hbig : (4096 : Int) < (nj : Int) + (b.ops.length : Int)
          · have HFin := Lib.hid (HMany.out (by rw [HNx.out]; omega))
            go_wp2_with fail
            go_ret
            exact ⟨by rw [HFin.out]; rfl, HBw2.out.alloc HBw2.out.size _⟩
          · have hsm : (nj : Int) + (b.ops.length : Int) ≤ 4096 := by omega
            clear hbig
            have HX0 := Lib.hid (show (wr.alloc (.cells #[.slice ao b.ops.length co, .int .i64 b.exit.kind, .int .i64 b.exit.a, .int .i64 b.exit.d, .int .i64 b.exit.to, .int .i64 b.exit.els] 41)).cell? ⟨wr.heap.size, 0, none⟩ = some (.slice ao b.ops.length co) by unfold World.cell?; simp only [heap_alloc_new]; rfl)
            have HBn2 := Lib.hid ((HBn.out.below HW2.out).below ((Below.refl wr.heap.size wr).alloc (Nat.le_refl _) (.cells #[.slice ao b.ops.length co, .int .i64 b.exit.kind, .int .i64 b.exit.a, .int .i64 b.exit.d, .int .i64 b.exit.to, .int .i64 b.exit.els] 41)))
            obtain ⟨k0, k1, k2⟩ := HBn2.out
            obtain ⟨c0, c1', c2', c3, c4⟩ := (HFb.out.below HW2.out).below ((Below.refl wr.heap.size wr).alloc (Nat.le_refl _) (.cells #[.slice ao b.ops.length co, .int .i64 b.exit.kind, .int .i64 b.exit.a, .int .i64 b.exit.d, .int .i64 b.exit.to, .int .i64 b.exit.els] 41))
            clear c0 c1' c2' c3
            obtain ⟨b1, hb1⟩ : ∃ r, exitI f.regs f.blocks.length b.exit = r := ⟨_, rfl⟩
            obtain ⟨b2', hb2⟩ : ∃ r, badOps f.regs f.slots.length strings b.ops = r := ⟨_, rfl⟩
            have HBI := Lib.hid (show blkI f strings b = (b1 && !b2') by unfold blkI; rw [hb1, badOps_not, hb2])
            have hE := fun w1 => exit_ok f.regs f.slots.length strings b.exit f.blocks.length w1
            unfold exitV at hE
            rw [hb1] at hE
            have HE := Lib.hid hE
            have HAn := Lib.hid (fun w1 hK1 h1 hA1 => ops_any bb f.regs f.slots.length strings (.slice ao b.ops.length co) b.ops b2' hb2 w1 hK1 h1 hA1)
            clear hE hb1 hb2
            cases b1 with
            | false =>
              have HFin := Lib.hid (HBad.out (by rw [HBI.out]; rfl))
              go_wp2_with (go_at_call 42; (with_reducible refine (HE.out _).mono ?_); rintro e w5 ⟨rfl, hb5⟩; have HB5 := Lib.hid (((HBw2.out.alloc HBw2.out.size _).trans (hb5.mono (by have := HBw2.out.size; simp; omega)))); have HW5 := Lib.hid ((HW2.out.alloc HW2.out.size _).trans (hb5.mono (by have := HW2.out.size; simp; omega))); have x0 := (hb5.cell (World.block_lt_of_cell? _ _ HX0.out)).trans HX0.out; obtain ⟨k0, k1, k2⟩ := HBn2.out.below hb5; clear hb5)
              go_ret
              exact ⟨by rw [HFin.out]; rfl, HB5.out⟩
            | true =>
              cases b2' with
              | true =>
                have HFin := Lib.hid (HBad.out (by rw [HBI.out]; rfl))
                go_wp2_with (first | (go_at_call 42; (with_reducible refine (HE.out _).mono ?_); rintro e w5 ⟨rfl, hb5⟩; have HB5 := Lib.hid (((HBw2.out.alloc HBw2.out.size _).trans (hb5.mono (by have := HBw2.out.size; simp; omega)))); have HW5 := Lib.hid ((HW2.out.alloc HW2.out.size _).trans (hb5.mono (by have := HW2.out.size; simp; omega))); have x0 := (hb5.cell (World.block_lt_of_cell? _ _ HX0.out)).trans HX0.out; obtain ⟨k0, k1, k2⟩ := HBn2.out.below hb5; clear hb5) | (go_at_call 43; (with_reducible refine (HAn.out _ (HK0.out.below HB5.out) (HBn.out.below HW5.out) ((HVo.out.below HB5.out (Nat.le_refl _)).mono HB5.out.size)).mono ?_); rintro e w6 ⟨rfl, hb6⟩; have HB6 := Lib.hid (HB5.out.trans (hb6.mono HB5.out.size)); have HW6 := Lib.hid (HW5.out.trans (hb6.mono HW5.out.size)); clear hb6))
                go_ret
                exact ⟨by rw [HFin.out]; rfl, HB6.out⟩
              | false =>
                have HSn := Lib.hid (HGood.out (by rw [HBI.out]; rfl))
                go_wp2_with (first | (go_at_call 42; (with_reducible refine (HE.out _).mono ?_); rintro e w5 ⟨rfl, hb5⟩; have HB5 := Lib.hid (((HBw2.out.alloc HBw2.out.size _).trans (hb5.mono (by have := HBw2.out.size; simp; omega)))); have HW5 := Lib.hid ((HW2.out.alloc HW2.out.size _).trans (hb5.mono (by have := HW2.out.size; simp; omega))); have x0 := (hb5.cell (World.block_lt_of_cell? _ _ HX0.out)).trans HX0.out; obtain ⟨k0, k1, k2⟩ := HBn2.out.below hb5; clear hb5) | (go_at_call 43; (with_reducible refine (HAn.out _ (HK0.out.below HB5.out) (HBn.out.below HW5.out) ((HVo.out.below HB5.out (Nat.le_refl _)).mono HB5.out.size)).mono ?_); rintro e w6 ⟨rfl, hb6⟩; have HB6 := Lib.hid (HB5.out.trans (hb6.mono HB5.out.size)); have HW6 := Lib.hid (HW5.out.trans (hb6.mono HW5.out.size)); clear hb6))
                go_roundg (f.blocks.length - (j + 1))
                case measure => omega
                case rel => exact ⟨j + 1, by omega, by omega, by rw [HNx.out, Int.natCast_add], by rw [Int.natCast_add]; rfl, (by have := HNx.out; omega : opsI f.blocks (j + 1) ≤ 4096), HSn.out, HW6.out⟩
        · obtain rfl : j = f.blocks.length := by omega
          have HG := Lib.hid (body_good (strings := strings) HH.out HSa.out (fun i hi => HSl.out i hi hi) HN4.out)
          have HEx := Lib.hid (blk_exits (f := f) (strings := strings) (fun i hi => HSl.out i hi hi))
          have HA := Lib.hid (fun w1 (hb1 : Below w.heap.size w w1) => apart_ok f (.slice a1 f.slots.length c1) (.slice a2 f.blocks.length c2) w1 ((HBk.out.below hb1 (Nat.le_refl _)).mono hb1.size) HG7.out HEx.out)
          unfold fnV at HA
          obtain ⟨d0, d1, d2, d3, d4⟩ := HFb.out.below HW2.out
          have t4 : (f.blocks.length : Int) ≤ (f.blocks.length : Int) := Int.le_refl _
          clear HSl hlt
          go_wp2_with (go_at_call 45; (with_reducible refine (HA.out _ HBw2.out).mono ?_); rintro e w6 ⟨rfl, hb6⟩; have HB6 := Lib.hid (HBw2.out.trans (hb6.mono HBw2.out.size)); clear hb6)
          go_ret
          exact ⟨by rw [HG.out]; rfl, HB6.out⟩
theorem func_ok (f : IrF) (vs vb : Value) (strings : Int) (w : World) (hK : KeysAt w) (hF : IsFn w.heap.size w f vs vb) :
    Calls Tryd.prog 21 #[fnV f vs vb, .int .i64 strings] w fun e w' => e = .returned (.bool (funcI f strings)) ∧ Below w.heap.size w w' := by
  cases h : headI f with
  | true => exact func_good f vs vb strings w hK hF h
  | false =>
    have he : funcI f strings = false := by unfold funcI; rw [h]; rfl
    rw [he]
    obtain ⟨a1, c1, e1, _⟩ := hF.slots
    obtain ⟨a2, c2, _, e2, _⟩ := hF.blocks
    exact func_head f vs vb strings w hK ⟨a1, c1, e1⟩ ⟨a2, c2, e2⟩ h
theorem checkFunc_ok (f : IrF) (vs vb : Value) (w : World) (hK : KeysAt w) (hF : IsFn w.heap.size w f vs vb) :
    Calls Tryd.prog 8 #[fnV f vs vb] w fun e w' => e = .returned (.int .i64 (if funcI f 4611686018427387904 = true then 0 else 180)) ∧ Below w.heap.size w w' := by
  obtain ⟨a1, c1, e1, _⟩ := hF.slots
  obtain ⟨a2, c2, _, e2, _⟩ := hF.blocks
  subst e1 e2
  have HF := Lib.hid (fun w1 (hb1 : Below w.heap.size w w1) => func_ok f (.slice a1 f.slots.length c1) (.slice a2 f.blocks.length c2) 4611686018427387904 w1 (hK.below hb1) ((hF.below hb1 (Nat.le_refl _)).mono hb1.size))
  obtain ⟨d0, d1, d2, d3, d4⟩ := fnAt_new (heap_alloc_new w (.cells #[.string f.name, .int .i64 f.params, .int .i64 f.regs, .slice a1 f.slots.length c1, .slice a2 f.blocks.length c2] 35))
  have HBa := Lib.hid ((Below.refl w.heap.size w).alloc (Nat.le_refl _) (.cells #[.string f.name, .int .i64 f.params, .int .i64 f.regs, .slice a1 f.slots.length c1, .slice a2 f.blocks.length c2] 35))
  unfold fnV at HF ⊢
  clear hK hF
  generalize funcI f 4611686018427387904 = r at *
  cases r with
  | true =>
    go_enter Tryd.func8, Tryd.ntmps8
    go_wp2_with (go_at_call 21; (with_reducible refine (HF.out _ HBa.out).mono ?_); rintro e w6 ⟨rfl, hb6⟩; have HB6 := Lib.hid (HBa.out.trans (hb6.mono HBa.out.size)); clear hb6)
    go_ret
    exact ⟨rfl, HB6.out⟩
  | false =>
    go_enter Tryd.func8, Tryd.ntmps8
    go_wp2_with (go_at_call 21; (with_reducible refine (HF.out _ HBa.out).mono ?_); rintro e w6 ⟨rfl, hb6⟩; have HB6 := Lib.hid (HBa.out.trans (hb6.mono HBa.out.size)); clear hb6)
    go_ret
    exact ⟨rfl, HB6.out⟩
end Go.Proofs.YtlomdlblohnfmaaDoor
