/- The blocks that can be come to: the program. -/
import Derived.Test.YtlomdlblohnfmaaDoorIrReach
namespace Go.Proofs.YtlomdlblohnfmaaDoor
open Go.RowKit

theorem make_bools (n : Nat) (h : n ≤ 4096) (w : World) : (Instr.makeSlice 80 (.int .i64 (n : Int)) (.int .i64 (n : Int))).run Tryd.prog w = .ok (.slice (some ⟨w.heap.size, 0, none⟩) n n) (w.alloc (.cells (cellsB (List.replicate n false)).toArray 4)) := by
  obtain ⟨i0, hi, hz0, hz1, hz2⟩ := info_parts (show (Tryd.prog.info? 4).map (fun i => (i.zero, i.size, i.bytes)) = some (some (.bool false), 1, 1) by kernel_rfl)
  have := run_make (P := Tryd.prog) w 80 4 i0 (.bool false) Tryd.underlying80 hi hz0 .i64 .i64 (n : Int) (n : Int) (by omega) (Int.le_refl _) (by rw [hz2]; omega) (by omega)
  rw [this, hz1, made_one _ rfl]
  simp [cellsB]
/-- the start of Reach: a row of marks, a row of blocks to be gone to -/
theorem reach_start (w1 : World) (bs : List IrB) (hn : bs.length ≤ 4096) (h0 : bs ≠ []) :
    ReachInv w1 bs (((w1.alloc (.cells (cellsB (List.replicate bs.length false)).toArray 4)).alloc (.cells #[.int .i64 0] 3)).setCell ⟨w1.heap.size, 0, none⟩ (.bool true)) w1.heap.size ((List.replicate bs.length false).set 0 true) (w1.heap.size + 1) 1 [0] ∧ [0].length + unseen ((List.replicate bs.length false).set 0 true) = bs.length ∧
    (((w1.alloc (.cells (cellsB (List.replicate bs.length false)).toArray 4)).alloc (.cells #[.int .i64 0] 3))).cell? ⟨w1.heap.size, 0, none⟩ = some (.bool false) ∧ (((w1.alloc (.cells (cellsB (List.replicate bs.length false)).toArray 4)).alloc (.cells #[.int .i64 0] 3))).frozen? ⟨w1.heap.size, 0, none⟩ = false := by
  have hp : 0 < bs.length := List.length_pos_iff.2 h0
  have hu : unseen ((List.replicate bs.length false).set 0 true) + 1 = bs.length := by
    have h := unseen_set (S := List.replicate bs.length false) (j := 0) (by rw [List.getElem?_replicate, if_pos hp])
    rw [h]
    unfold unseen
    rw [List.countP_replicate]
    simp
  have h1 := World.ownsRow_lit (base := w1.heap.size) (e := 4) (size := 1) w1 (cellsB (List.replicate bs.length false)).toArray bs.length (Nat.le_refl _) (by unfold maxLen; omega) (by simp [cellsB])
  have h2 := World.ownsRow.alloc h1 (.cells #[.int .i64 0] 3)
  have h3 := World.ownsRow_lit (base := w1.heap.size) (e := 3) (size := 1) (w1.alloc (.cells (cellsB (List.replicate bs.length false)).toArray 4)) #[.int .i64 0] 1 (by simp) (by decide) (by simp)
  have hsz : (w1.alloc (.cells (cellsB (List.replicate bs.length false)).toArray 4)).heap.size = w1.heap.size + 1 := by simp
  rw [hsz] at h3
  refine ⟨⟨?_, seenOk_start h0, ?_, fun t ht => ?_, by omega, by simp; omega, below_set (((Below.refl _ _).alloc (Nat.le_refl _) _).alloc (by simp) _) (Nat.le_refl _) _⟩, by simp; omega, ?_, World.ownsRow.frozenAt h2 0⟩
  · have := (World.ownsRow.stored h2 0 (.bool true)).1
    rw [show (cellsB (List.replicate bs.length false)).toArray.toList = cellsB (List.replicate bs.length false) from rfl, cellsB_set] at this
    exact this
  · exact ownsRow_setCell_other h3 (by simp [Value.ownBlock]) _
  · rw [List.mem_singleton.1 ht]; exact hp
  · rw [World.ownsRow.cellAt h2 0 (by omega)]
    simp [cellsB, hp]
/-- a row of one's own, as a slice of numbers -/
theorem nums_owned {w : World} {base : Nat} {v : Value} {L : List Int} {T : TypeId} (h : w.ownsRow base T 1 v L.length (cellsI L)) (hl : L.length * 8 ≤ 140737488351232) : IsNums w.heap.size w v L := by
  rcases h.2 with ⟨rfl, h0⟩ | ⟨g, cap, cur, rfl, _, hg, _⟩
  · have : L = [] := List.eq_nil_of_length_eq_zero h0
    subst this
    exact nums_nil _ _
  · have hgl : g < w.heap.size := by
      rcases Nat.lt_or_ge g w.heap.size with h' | h'
      · exact h'
      · rw [Array.getElem?_eq_none h'] at hg; cases hg
    refine ⟨_, _, rfl, ⟨hl, fun e => by cases e⟩, fun _ => ⟨g, 0, rfl, hgl, fun i t ht j u hu => ?_⟩⟩
    obtain rfl : j = 0 := by
      have := (List.getElem?_eq_some_iff.1 hu).1
      simp [intCells] at this
      omega
    obtain rfl : Value.int .i64 t = u := by simpa [intCells] using hu
    rw [show 0 + i * 1 + 0 = i by omega, World.ownsRow.cellAt h i (by have := (List.getElem?_eq_some_iff.1 ht).1; omega)]
    exact cellsI_get ht
/-- how Reach ends, at a right function -/
def ReachEnd (f : IrF) (w : World) (e : Ending) (w' : World) : Prop := (∃ S v, e = .returned (.tuple #[v, .int .i64 0]) ∧ SeenOk f.blocks S ∧ IsNums w'.heap.size w' v (markedI S f.blocks.length)) ∧ Below w.heap.size w w'

set_option maxRecDepth 100000 in
set_option maxHeartbeats 16000000 in
theorem reach_ok (f : IrF) (vs vb : Value) (w : World) (hK : KeysAt w) (hF : IsFn w.heap.size w f vs vb) (hr : funcI f 4611686018427387904 = true) :
    Calls Tryd.prog 9 #[fnV f vs vb] w (ReachEnd f w) := by
  obtain ⟨a1, c1, e1, _⟩ := hF.slots
  subst e1
  have hBk := hF.blocks
  obtain ⟨a2, c2, Q, e2, _, hQ, hq, _⟩ := hBk
  subst e2
  have hc := fun w1 (hb1 : Below w.heap.size w w1) => checkFunc_ok f (.slice a1 f.slots.length c1) (.slice a2 f.blocks.length c2) w1 (hK.below hb1) ((hF.below hb1 (Nat.le_refl _)).mono hb1.size)
  rw [hr] at hc
  unfold fnV at hc
  have HC := Lib.hid hc
  obtain ⟨g0, _, g2, _⟩ := funcI_parts hr
  obtain ⟨_, _, _, _, _, _, g6, g7⟩ := headI_parts g0
  have hne : f.blocks ≠ [] := fun e => by rw [e] at g6; simp at g6
  have hQl : Q.length = f.blocks.length := by rw [← hQ, List.length_map]
  have HX := Lib.hid (show ∀ b ∈ f.blocks, ∀ y ∈ (exitsI b.exit).2, 1 ≤ y ∧ y < (f.blocks.length : Int) from fun b hb => (there_exit hr hb).2)
  have HQ := Lib.hid hQ
  have HB := Lib.hid hq
  have HQL := Lib.hid hQl
  have HG7 := Lib.hid g7
  have HNe := Lib.hid hne
  have p6 : 1 ≤ (f.blocks.length : Int) := by omega
  have p7 : (f.blocks.length : Int) ≤ 4096 := by omega
  have HBa := Lib.hid ((Below.refl w.heap.size w).alloc (Nat.le_refl _) (.cells #[.string f.name, .int .i64 f.params, .int .i64 f.regs, .slice a1 f.slots.length c1, .slice a2 f.blocks.length c2] 35))
  have hf0 := fnAt_new (heap_alloc_new w (.cells #[.string f.name, .int .i64 f.params, .int .i64 f.regs, .slice a1 f.slots.length c1, .slice a2 f.blocks.length c2] 35))
  have HF := Lib.hid hf0
  obtain ⟨c0, k1, k2, k3, k4⟩ := hf0
  have hmk := make_bools f.blocks.length g7
  obtain ⟨i0, hi, hz0, hz1, hz2⟩ := info_parts (show (Tryd.prog.info? 3).map (fun i => (i.zero, i.size, i.bytes)) = some (some (.int .i64 0), 1, 8) by kernel_rfl)
  have HI0i := Lib.hid (And.intro hi (And.intro hz0 (And.intro hz1 hz2)))
  clear hi hz0 hz1 hz2
  clear hK hF hr hc g0 g2 g6 g7 hne hQl hQ hq
  unfold fnV
  go_enter Tryd.func9, Tryd.ntmps9
  go_upto_region 4 with (go_at_call 8; (with_reducible refine (HC.out _ HBa.out).mono ?_); rintro e w1 ⟨rfl, hb1⟩; have HB1 := Lib.hid (HBa.out.trans (hb1.mono HBa.out.size)); have HF1 := Lib.hid (HF.out.below hb1); clear hb1)
  obtain ⟨_, _, _, _, m4⟩ := HF1.out
  clear c0 k1 k2 k3 k4
  obtain ⟨hI0, hm0, hs0, hs1⟩ := reach_start w1 f.blocks HG7.out HNe.out
  have HM0 := Lib.hid hm0
  go_upto_region 6 with fail
  generalize World.alloc _ (.cells #[.int .i64 0] _) = w3 at *
  have HI0 := Lib.hid hI0
  have hw3 : w1.heap.size < w3.heap.size := World.block_lt_of_cell? w3 _ hs0
  clear hI0 hm0
  go_upto_region 7 with fail
  clear hs0 hs1 hmk m4 hw3
  generalize World.setCell _ _ _ = w4 at *
  generalize (List.replicate f.blocks.length false).set 0 true = S0 at *
  have hgs := Nat.le_refl w1.heap.size
  go_loopg [6] f.blocks.length (fun g v6 wy => ∃ (S : List Bool) (gt cap : Nat) (T : List Nat), v6 = .slice (some ⟨gt, 0, none⟩) T.length cap ∧ T.length + unseen S = g ∧ Hid (ReachInv w1 f.blocks wy w1.heap.size S gt cap T))
  case atStart => exact ⟨S0, w1.heap.size + 1, 1, [0], rfl, HM0.out, HI0⟩
  case round =>
    obtain ⟨S, gt, cap, T, rfl, hm, HI⟩ := hrel
    have hTl : (T.length : Int) ≤ 4096 := by have := HI.out.many; omega
    rcases List.eq_nil_or_concat T with rfl | ⟨T', b, rfl⟩
    · have hHI := HI.out.seen
      have hok := HI.out.ok
      have HSe := Lib.hid HI.out.seen
      have HOk := Lib.hid HI.out.ok
      have HBl := Lib.hid HI.out.below
      have hgsl := HI.out.capped.2.2.2.2
      clear hHI hok HI hm hTl
      go_wp2_with fail
      go_loopg [12, 72] f.blocks.length (fun g v12 v72 wy => ∃ j : Nat, j ≤ f.blocks.length ∧ j + g = f.blocks.length ∧ v72 = .int .i64 (j : Int) ∧ Hid (wy.ownsRow w1.heap.size 4 1 (.slice (some ⟨w1.heap.size, 0, none⟩) f.blocks.length f.blocks.length) f.blocks.length (cellsB S)) ∧ Hid (wy.ownsRow w1.heap.size 3 1 v12 (markedI S j).length (cellsI (markedI S j))) ∧ Hid (v12.ownBlock ≠ some w1.heap.size) ∧ Hid (Below w1.heap.size w1 wy))
      case atStart => exact ⟨0, by omega, by omega, rfl, HSe, World.ownsRow_nil _ _ _ _, Lib.hid (by intro h; cases h), HBl⟩
      case round =>
        obtain ⟨j, hj, hjg, rfl, HR, HO, HV, HW⟩ := hrel
        have HM := Lib.hid (markedI_len S j)
        by_cases hlt : j < f.blocks.length
        · obtain ⟨s, hs⟩ : ∃ s, S[j]? = some s := ⟨_, List.getElem?_eq_getElem (by rw [HOk.out.len]; exact hlt)⟩
          have d1 : wr.cell? ⟨w1.heap.size, j, none⟩ = some (.bool s) := by
            rw [World.ownsRow.cellAt HR.out j (by omega)]
            simp [cellsB, hs]
          have hjl : (j : Int) < (f.blocks.length : Int) := by omega
          cases s with
          | false =>
            have HMk := Lib.hid (markedI_no (S := S) (k := j) (by rw [hs]; simp))
            clear hs hlt
            go_wp2_with fail
            go_roundg (f.blocks.length - (j + 1))
            case measure => omega
            case rel => exact ⟨j + 1, by omega, by omega, by rw [Int.natCast_add]; rfl, HR, by rw [HMk.out]; exact HO, HV, HW⟩
          | true =>
            have HMk := Lib.hid (markedI_yes (S := S) (k := j) hs)
            have HNum := Lib.hid (show (markedI S j).length + 1 ≤ maxLen ∧ ((markedI S j).length + 1) * 8 ≤ 140737488355328 from by
              have h1 := HM.out
              have h2 := HG7.out
              exact ⟨by unfold maxLen; omega, by omega⟩)
            have HBx := Lib.hid (show Below wr.heap.size wr (wr.alloc (.cells #[.int .i64 (j : Int)] 3)) from (Below.refl _ _).alloc (Nat.le_refl _) _)
            clear hs hlt
            go_wp2_with (at_builtin; go_loud (refine wpList_append_lies _ rfl _ _ _ rfl w1.heap.size 3 i0 (.int .i64 0) 1 8 Tryd.underlying43 HI0i.out.1 HI0i.out.2.1 HI0i.out.2.2.1 HI0i.out.2.2.2 rfl (by decide) _ (markedI S j).length (cellsI (markedI S j)) rfl (HO.out.belowed HBx.out) ⟨_, 0, none⟩ 1 1 [.int .i64 (j : Int)] rfl rfl (World.news_of_block (cs := #[.int .i64 (j : Int)]) (heap_alloc_new _ _)) (by simp [Value.oneCell']) (by decide) HNum.out.1 HNum.out.2 (Nat.le_trans HW.out.size HBx.out.size) _ rfl ?_))
            intro g5 cp5 w8 hown5 hgrow5 hat5 hlt5
            have HR5 := Lib.hid (World.ownsRow.kept (HR.out.belowed HBx.out) hgrow5 (.inr (Ne.symm HV.out)))
            have HV5 := Lib.hid (show (Value.slice (some ⟨g5, 0, none⟩) ((markedI S j).length + 1) cp5).ownBlock ≠ some w1.heap.size by
              rcases hat5 with h | h
              · rw [show (Value.slice (some ⟨g5, 0, none⟩) ((markedI S j).length + 1) cp5).ownBlock = some g5 from rfl, ← h]
                exact HV.out
              · have h1 := (HR.out.belowed HBx.out).lt w1.heap.size rfl
                rw [show (Value.slice (some ⟨g5, 0, none⟩) ((markedI S j).length + 1) cp5).ownBlock = some g5 from rfl]
                intro e
                have h4 := Option.some.inj e
                have h5 := HR.out.lt w1.heap.size rfl
                omega)
            have HW5 := Lib.hid (((HW.out.trans (HBx.out.mono HW.out.size))).grown hgrow5 (Nat.le_trans HW.out.size HBx.out.size) (fun x hx => (HO.out.lt x hx).1))
            have HO5 := Lib.hid (show w8.ownsRow w1.heap.size 3 1 (.slice (some ⟨g5, 0, none⟩) ((markedI S j).length + 1) cp5) (markedI S (j + 1)).length (cellsI (markedI S (j + 1))) by
              rw [HMk.out, List.length_append]
              simpa [cellsI] using hown5)
            clear hown5 hgrow5 hat5 hlt5
            go_wp2_with fail
            go_roundg (f.blocks.length - (j + 1))
            case measure => omega
            case rel => exact ⟨j + 1, by omega, by omega, by rw [Int.natCast_add]; rfl, HR5, HO5, HV5, HW5⟩
        · obtain rfl : j = f.blocks.length := by omega
          have t3 : (f.blocks.length : Int) ≤ (f.blocks.length : Int) := Int.le_refl _
          clear hlt
          go_wp2_with fail
          go_ret2
          exact ⟨⟨S, _, rfl, HOk.out, nums_owned HO.out (by have h1 := HM.out; have h2 := HG7.out; omega)⟩, HB1.out.trans (HW.out.mono HB1.out.size)⟩
    · rw [List.concat_eq_append] at HI hm ⊢
      have hbn := HI.out.in_ b (by simp)
      have hl := HI.out.last
      have hcp := HI.out.capped.1
      rw [List.length_append, List.length_singleton] at hm hcp ⊢
      have HP := Lib.hid HI.out.pop
      have HMf := Lib.hid (HF1.out.below HI.out.below)
      obtain ⟨_, _, _, _, m4⟩ := HMf.out
      have HBr := Lib.hid (HB1.out.trans (HI.out.below.mono HB1.out.size))
      have hlq : b < Q.length := by rw [HQL.out]; exact hbn
      obtain ⟨b2, off, ha, hbl, hrow⟩ := HB.out (fun e => by rw [e] at hlq; simp at hlq)
      subst ha
      have hqb := Lib.hid (show Q[b].1 = f.blocks[b] by
        have h1 : (Q.map Prod.fst)[b]? = f.blocks[b]? := by rw [HQ.out]
        rw [List.getElem?_map, List.getElem?_eq_getElem hlq, List.getElem?_eq_getElem hbn] at h1
        exact Option.some.inj h1)
      have e1 := hrow b _ (List.getElem?_eq_getElem hlq) 1 _ rfl
      have e2 := hrow b _ (List.getElem?_eq_getElem hlq) 2 _ rfl
      have e3 := hrow b _ (List.getElem?_eq_getElem hlq) 3 _ rfl
      have e4 := hrow b _ (List.getElem?_eq_getElem hlq) 4 _ rfl
      have e5 := hrow b _ (List.getElem?_eq_getElem hlq) 5 _ rfl
      rw [← HBr.out.cell hbl] at e1 e2 e3 e4 e5
      have HL := Lib.hid (show ∀ y ∈ (exitsI Q[b].1.exit).2, (1 ≤ y ∧ y < (f.blocks.length : Int)) ∧ ∃ b' ∈ f.blocks, y ∈ (exitsI b'.exit).2 from fun y hy => by
        rw [hqb.out] at hy
        exact ⟨HX.out _ (List.getElem_mem hbn) y hy, _, List.getElem_mem hbn, hy⟩)
      have HLt := Lib.hid (exits_two Q[b].1.exit)
      clear hrow hqb
      generalize Q[b]'hlq = q at *
      obtain ⟨bl, vo⟩ := q
      simp only at e1 e2 e3 e4 e5 HL HLt
      have HE := Lib.hid (fun w1 => exits_ok bl.exit w1)
      unfold exitV at HE
      have hbi : (b : Int) < (f.blocks.length : Int) := by omega
      have hT'l : (T'.length : Int) ≤ 4096 := by simp at hTl; omega
      have hcp2 : ((T'.length : Int) + 1) ≤ (cap : Int) := by omega
      clear hlq hbn hTl HI
      go_wp2_with (go_at_call 14; (with_reducible refine (HE.out _).mono ?_); rintro e w5 ⟨⟨v1, v2, rfl, hk2, _, hn2⟩, hb5⟩; obtain ⟨a3, cap3, rfl, _, hs3⟩ := hn2; have HP5 := Lib.hid (HP.out.belowed hb5); have HR5 := Lib.hid (show LedRow w5 a3 (exitsI bl.exit).2 w1.heap.size gt from fun hn => by
        obtain ⟨b5, o5, rfl, hlt5, hc5⟩ := hs3 hn
        obtain ⟨_, _, q1, _, q2⟩ := HP.out.capped
        have q3 : wr.heap.size ≤ b5 := by simpa [Value.ownBlock] using hk2
        refine ⟨b5, o5, rfl, hlt5, by omega, by omega, fun i x hx => ?_⟩
        have := hc5 i x hx 0 _ rfl
        simpa using this); clear hk2 hs3 hb5)
      generalize (exitsI bl.exit).2 = l at *
      have hl2 : (l.length : Int) ≤ 2 := by have := HLt.out; omega
      clear e1 e2 e3 e4 e5 m4 hl
      go_loopg [6, 53] l.length (fun g v6 v53 wy => ∃ (i : Nat) (S : List Bool) (gt cap : Nat) (T : List Nat), i ≤ l.length ∧ i + g = l.length ∧ v53 = .int .i64 (i : Int) ∧ v6 = .slice (some ⟨gt, 0, none⟩) T.length cap ∧ T.length + 1 + unseen S = gk ∧ Hid (ReachInv w1 f.blocks wy w1.heap.size S gt cap T) ∧ Hid (LedRow wy a3 l w1.heap.size gt))
      case atStart => exact ⟨0, S, gt, cap, T', by omega, by omega, rfl, rfl, hm, HP5, HR5⟩
      case round =>
        obtain ⟨i, S, gt, cap, T, hi, hig, rfl, rfl, hm2, HI, HR⟩ := hrel
        have hTl : (T.length : Int) ≤ 4096 := by have := HI.out.many; omega
        by_cases hil : i < l.length
        · have hr2 := HR.out (fun e => by rw [e] at hil; simp at hil)
          obtain ⟨b6, o6, e, hlt6, _, _, hc6⟩ := hr2
          subst e
          have d0 := hc6 i _ (List.getElem?_eq_getElem hil)
          have hin := HL.out _ (List.getElem_mem hil)
          clear hc6
          generalize l[i]'hil = x at *
          obtain ⟨⟨h1, h2⟩, hex⟩ := hin
          obtain ⟨k, rfl⟩ : ∃ k : Nat, x = (k : Int) := ⟨x.toNat, by omega⟩
          have hkn : k < f.blocks.length := by omega
          obtain ⟨s, hs⟩ : ∃ s, S[k]? = some s := ⟨_, List.getElem?_eq_getElem (by rw [HI.out.ok.len]; exact hkn)⟩
          obtain ⟨d1, d2⟩ := HI.out.mark hs
          have hil2 : (i : Int) < (l.length : Int) := by omega
          have HEx := Lib.hid hex
          clear hex h1
          cases s with
          | true =>
            clear hs hkn
            go_wp2_with fail
            go_roundg (l.length - (i + 1))
            case measure => omega
            case rel => exact ⟨i + 1, S, gt, cap, T, by omega, by omega, by rw [Int.natCast_add]; rfl, rfl, hm2, HI, HR⟩
          | false =>
            obtain ⟨hset, hcnt⟩ := HI.out.set hs HEx.out
            have HSet := Lib.hid hset
            have HKn := Lib.hid (And.intro hkn (show T.length + 1 + unseen (S.set k true) ≤ f.blocks.length by have := HI.out.many; omega))
            have hm3 : (T ++ [k]).length + 1 + unseen (S.set k true) = T.length + 1 + unseen S := by rw [List.length_append, List.length_singleton]; omega
            have HM3 := Lib.hid hm3
            have HNum := Lib.hid (show T.length + 1 ≤ maxLen ∧ (T.length + 1) * 8 ≤ 140737488355328 from ⟨by unfold maxLen; omega, by omega⟩)
            have HRs := Lib.hid (fun (w8 w9 : World) (g9 : Nat) (hb : Below (wr.setCell ⟨w1.heap.size, k, none⟩ (.bool true)).heap.size (wr.setCell ⟨w1.heap.size, k, none⟩ (.bool true)) w8) (hg : w8.grownBy w9 (some gt)) (hat : (some gt = some g9) ∨ g9 = w8.heap.size) => HR.out.push (k := k) (u := .bool true) hb hg hat)
            clear hset hcnt hm3 hs hkn
            go_upto_region 16 with fail
            generalize hw7 : World.setCell wr ⟨w1.heap.size, k, none⟩ (.bool true) = w7 at *
            clear hw7 d0 d1 d2
            have HBx := Lib.hid (show Below w7.heap.size w7 (w7.alloc (.cells #[.int .i64 (k : Int)] 3)) from (Below.refl _ _).alloc (Nat.le_refl _) _)
            go_wp2_with (at_builtin; go_loud (refine wpList_append_lies _ rfl _ _ _ rfl w1.heap.size 3 i0 (.int .i64 0) 1 8 Tryd.underlying43 HI0i.out.1 HI0i.out.2.1 HI0i.out.2.2.1 HI0i.out.2.2.2 rfl (by decide) (.slice (some ⟨gt, 0, none⟩) T.length cap) T.length (cellsT T) rfl (HSet.out.todo.belowed HBx.out) ⟨_, 0, none⟩ 1 1 [.int .i64 (k : Int)] rfl rfl (World.news_of_block (cs := #[.int .i64 (k : Int)]) (heap_alloc_new _ _)) (by simp [Value.oneCell']) (by decide) HNum.out.1 HNum.out.2 (Nat.le_trans HSet.out.below.size HBx.out.size) _ rfl ?_))
            intro g5 cp5 w8 hown5 hgrow5 hat5 hlt5
            have HN5 := Lib.hid (HSet.out.push HBx.out HKn.out.1 HKn.out.2 hown5 hgrow5 (by simpa using hat5))
            have HR5' := Lib.hid (HRs.out _ w8 g5 HBx.out hgrow5 (by simpa [Value.ownBlock] using hat5))
            clear hown5 hgrow5 hat5 hlt5
            go_wp2_with fail
            go_roundg (l.length - (i + 1))
            case measure => omega
            case rel => exact ⟨i + 1, S.set k true, g5, cp5, T ++ [k], by omega, by omega, by rw [Int.natCast_add]; rfl, by rw [List.length_append]; rfl, HM3.out.trans hm2, HN5, HR5'⟩
        · obtain rfl : i = l.length := by omega
          have t3 : (l.length : Int) ≤ (l.length : Int) := Int.le_refl _
          go_wp2_with fail
          go_roundg (T.length + unseen S)
          case measure => omega
          case rel => exact ⟨S, gt, cap, T, rfl, rfl, HI⟩
end Go.Proofs.YtlomdlblohnfmaaDoor
