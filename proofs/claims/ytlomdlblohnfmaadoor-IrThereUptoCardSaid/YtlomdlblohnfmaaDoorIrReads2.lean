/- The registers that an operation reads. -/
import Derived.Test.YtlomdlblohnfmaaDoorIrReads
import Derived.Laws.AppendOwnNone
namespace Go.Proofs.YtlomdlblohnfmaaDoor
open Go.RowKit Go.Sort

/-- how Reads ends -/
def ReadsEnd (o : IrO) (w : World) (e : Ending) (w' : World) : Prop := (∃ v, e = .returned v ∧ IsNums w'.heap.size w' v (readsI o)) ∧ Below w.heap.size w w'
/-- the registers, filtered one by one -/
def posI (L : List Int) : List Int := L.filter fun r => decide (0 ≤ r)
theorem posI_yes {L : List Int} {j : Nat} (h : j < L.length) (h0 : 0 ≤ L[j]) : posI (L.take (j + 1)) = posI (L.take j) ++ [L[j]] := by
  unfold posI
  rw [List.take_succ_eq_append_getElem h, List.filter_append, List.filter_cons_of_pos (by simpa using h0)]
  rfl
theorem posI_no {L : List Int} {j : Nat} (h : j < L.length) (h0 : ¬ 0 ≤ L[j]) : posI (L.take (j + 1)) = posI (L.take j) := by
  unfold posI
  rw [List.take_succ_eq_append_getElem h, List.filter_append, List.filter_cons_of_neg (by simpa using h0)]
  simp
theorem posI_len (L : List Int) (j : Nat) : (posI (L.take j)).length ≤ L.length := by
  unfold posI
  have h1 := List.length_filter_le (fun r => decide (0 ≤ r)) (L.take j)
  have h2 : (L.take j).length ≤ L.length := by rw [List.length_take]; omega
  omega
theorem cellsI_one (L : List Int) : ∀ u ∈ cellsI L, u.oneCell' = true := fun u hu => by
  unfold cellsI at hu
  rw [List.mem_map] at hu
  obtain ⟨x, _, rfl⟩ := hu
  rfl
theorem nums_news {B : Nat} {w : World} {ad : Addr} {L : List Int} (h : IsSl 1 intCells B w (some ad) L) : ∀ (j : Nat) u, (cellsI L)[j]? = some u → w.cell? (ad.add j) = some u := fun j u hu => by
  unfold cellsI at hu
  rw [List.getElem?_map, Option.map_eq_some_iff] at hu
  obtain ⟨x, hx, rfl⟩ := hu
  obtain ⟨b, off, e, _, hc⟩ := h (fun e => by rw [e] at hx; simp at hx)
  have ha : ad = ⟨b, off, none⟩ := Option.some.inj e
  subst ha
  have := hc j x hx 0 _ rfl
  simp only [Nat.mul_one, Nat.add_zero] at this
  have he : (⟨b, off, none⟩ : Addr).add j = ⟨b, off + j, none⟩ := by unfold Addr.add; split <;> simp_all
  rw [he]
  exact this

set_option maxRecDepth 100000 in
set_option maxHeartbeats 8000000 in
theorem reads_ok (o : IrO) (v : Value) (w : World) (hK : KeysAt w) (hA : IsNums w.heap.size w v o.args) (hv : anyI o = true) (hl : o.args.length ≤ 1048576) :
    Calls Tryd.prog 12 #[opV o v] w (ReadsEnd o w) := by
  have hO := fun w1 (hb1 : Below w.heap.size w w1) => op_ok 4096 4611686018427387904 4611686018427387904 o v w1 (hK.below hb1) ((hA.below hb1 (Nat.le_refl _)).mono hb1.size)
  rw [show opI 4096 4611686018427387904 4611686018427387904 o = true from hv] at hO
  have HRd := Lib.hid (show readsI o = posI (o.a :: o.b :: o.args) by unfold readsI; rw [if_pos (show opI 4096 4611686018427387904 4611686018427387904 o = true from hv)]; rfl)
  obtain ⟨i0, hi, hz0, hz1, hz2⟩ := info_parts (show (Tryd.prog.info? 3).map (fun i => (i.zero, i.size, i.bytes)) = some (some (.int .i64 0), 1, 8) by kernel_rfl)
  have HI0i := Lib.hid (And.intro hi (And.intro hz0 (And.intro hz1 hz2)))
  clear hi hz0 hz1 hz2
  obtain ⟨a, cap, rfl, hok, hs⟩ := hA
  have HS := Lib.hid hs
  have HOk := Lib.hid hok
  have HL := Lib.hid hl
  unfold opV at hO ⊢
  have hba : Below w.heap.size w (w.alloc (.cells #[.int .i64 o.kind, .int .i64 o.d, .int .i64 o.a, .int .i64 o.b, .int .i64 o.imm, .string o.text, .slice a o.args.length cap] 54)) := (Below.refl _ _).alloc (Nat.le_refl _) _
  have hop := opAt_new (heap_alloc_new w (.cells #[.int .i64 o.kind, .int .i64 o.d, .int .i64 o.a, .int .i64 o.b, .int .i64 o.imm, .string o.text, .slice a o.args.length cap] 54))
  have HO := Lib.hid hO
  clear hO hK hv hl hs hok
  go_enter Tryd.func12, Tryd.ntmps12
  go_upto_region 1 with fail
  generalize World.alloc w _ = wb at *
  have HBa := Lib.hid hba
  have HOp := Lib.hid hop
  clear hba hop
  have hHB := fun d os => HBa.out.trans ((below_regrown wb d os).mono HBa.out.size)
  have q0 := fun d os => cell_regrown HOp.out.c0 d os
  have q1 := fun d os => cell_regrown HOp.out.c1 d os
  have q2 := fun d os => cell_regrown HOp.out.c2 d os
  have q3 := fun d os => cell_regrown HOp.out.c3 d os
  have q4 := fun d os => cell_regrown HOp.out.c4 d os
  have q5 := fun d os => cell_regrown HOp.out.c5 d os
  have q6 := fun d os => cell_regrown HOp.out.c6 d os
  have C1 := fun d os => Calls.regrown_of (any_okI (grow (redrawn wb d) os))
  have C2 := fun d os => Calls.regrown_of (HO.out _ (hHB d os))
  have D1 := Lib.hid C1
  have D2 := Lib.hid C2
  clear hHB C1 C2
  refine wp_region_quiet_below (by kernel_rfl) (by kernel_rfl) ?_
  repeat (go_big_quiet_step (first | exact D1.out _ _ | exact D2.out _ _))
  refine wpQuiet_nil ?_
  intro _ hw'
  obtain ⟨⟨dq, osq⟩, hw''⟩ := hw'
  have HB2 := Lib.hid (HBa.out.trans ((below_regrown wb dq osq).mono HBa.out.size))
  obtain ⟨c0, c1, c2, c3, c4, c5, c6⟩ := HOp.out.below (below_regrown wb dq osq)
  rw [← hw''] at HB2 c0 c1 c2 c3 c4 c5 c6
  rename_i w2
  clear q0 q1 q2 q3 q4 q5 q6 hw''
  obtain ⟨L, hL⟩ : ∃ L, L = o.a :: o.b :: o.args := ⟨_, rfl⟩
  rw [← hL] at HRd
  have hLl : L.length = o.args.length + 2 := by rw [hL]; rfl
  have hLb : (L.length : Int) ≤ 1048578 := by have := HL.out; omega
  have HLE := Lib.hid hL
  have HLl := Lib.hid hLl
  have HBx := Lib.hid (show Below w2.heap.size w2 (w2.alloc (.cells #[.int .i64 o.a, .int .i64 o.b] 3)) from (Below.refl _ _).alloc (Nat.le_refl _) _)
  have HO2 := Lib.hid (show OpAt (w2.alloc (.cells #[.int .i64 o.a, .int .i64 o.b] 3)) w.heap.size o (.slice a o.args.length cap) from (OpAt.mk c0 c1 c2 c3 c4 c5 c6).below HBx.out)
  obtain ⟨_, _, _, _, _, _, d6⟩ := HO2.out
  have HRow := Lib.hid (World.ownsRow_lit (base := w2.heap.size) (e := 3) (size := 1) w2 #[.int .i64 o.a, .int .i64 o.b] 2 (Nat.le_refl _) (by decide) (by simp))
  clear hL hLl
  cases a with
  | none =>
    have hz : o.args.length = 0 ∧ cap = 0 := HOk.out.2 rfl
    have he : o.args = [] := List.eq_nil_of_length_eq_zero hz.1
    obtain ⟨hz1, rfl⟩ := hz
    have HNl := Lib.hid (show L.length = 2 by rw [HLl.out, hz1])
    have HR1 := Lib.hid (show (w2.alloc (.cells #[.int .i64 o.a, .int .i64 o.b] 3)).ownsRow w2.heap.size 3 1 (.slice (some ⟨w2.heap.size, 0, none⟩) 2 2) 2 (cellsI L) by
      have h1 : L = [o.a, o.b] := by rw [HLE.out, he]
      rw [h1]
      exact HRow.out)
    have HB5 := HBx
    rw [hz1] at d6
    clear hz1 he HO2
    go_wp2_with (at_builtin; go_loud (refine wpList_append_own_none rfl _ _ _ rfl w2.heap.size 3 i0 1 Tryd.underlying43 HI0i.out.1 _ 2 [.int .i64 o.a, .int .i64 o.b] rfl HRow.out rfl ?_))
    clear c0 c1 c2 c3 c4 c5 c6 d6
    go_loopg [3, 19] (2) (fun g v3 v19 wy => ∃ j : Nat, j ≤ 2 ∧ j + g = 2 ∧ v19 = .int .i64 (j : Int) ∧ Hid (wy.ownsRow w2.heap.size 3 1 (.slice (some ⟨w2.heap.size, 0, none⟩) (2) 2) (2) (cellsI L)) ∧ Hid (wy.ownsRow w2.heap.size 3 1 v3 (posI (L.take j)).length (cellsI (posI (L.take j)))) ∧ Hid (v3.ownBlock ≠ some w2.heap.size) ∧ Hid (Below w2.heap.size w2 wy))
    case atStart => exact ⟨0, by omega, by omega, rfl, HR1, World.ownsRow_nil _ _ _ _, Lib.hid (by intro h; cases h), HB5⟩
    case round =>
      obtain ⟨j, hj, hjg, rfl, HR, HP, HV, HW⟩ := hrel
      by_cases hlt : j < 2
      · have hltL : j < L.length := by rw [HNl.out]; exact hlt
        have d1 : wr.cell? ⟨w2.heap.size, j, none⟩ = some (.int .i64 L[j]) := by
          rw [World.ownsRow.cellAt HR.out j (by omega)]
          exact cellsI_get (List.getElem?_eq_getElem hltL)
        have HM := Lib.hid (posI_len L j)
        have HLb := Lib.hid hLb
        by_cases h0 : 0 ≤ L[j]
        · have HPy := Lib.hid (posI_yes hltL h0)
          generalize L[j]'hltL = x at *
          clear hltL
          have HNum := Lib.hid (show (posI (L.take j)).length + 1 ≤ maxLen ∧ ((posI (L.take j)).length + 1) * 8 ≤ 140737488355328 from by
            have h1 := HM.out
            have h2 := HLb.out
            exact ⟨by unfold maxLen; omega, by omega⟩)
          have HBy := Lib.hid (show Below wr.heap.size wr (wr.alloc (.cells #[.int .i64 x] 3)) from (Below.refl _ _).alloc (Nat.le_refl _) _)
          obtain ⟨P, hP⟩ : ∃ P, P = posI (L.take j) := ⟨_, rfl⟩
          rw [← hP] at HP HPy HNum
          clear hP
          go_wp2_with (at_builtin; go_loud (refine wpList_append_lies _ rfl _ _ _ rfl w2.heap.size 3 i0 (.int .i64 0) 1 8 Tryd.underlying43 HI0i.out.1 HI0i.out.2.1 HI0i.out.2.2.1 HI0i.out.2.2.2 rfl (by decide) _ P.length (cellsI P) rfl (HP.out.belowed HBy.out) ⟨_, 0, none⟩ 1 1 [.int .i64 x] rfl rfl (World.news_of_block (cs := #[.int .i64 x]) (heap_alloc_new _ _)) (by simp [Value.oneCell']) (by decide) HNum.out.1 HNum.out.2 (Nat.le_trans HW.out.size HBy.out.size) _ rfl ?_))
          intro g5 cp5 w8 hown5 hgrow5 hat5 hlt5
          have HR5 := Lib.hid (World.ownsRow.kept (HR.out.belowed HBy.out) hgrow5 (.inr (Ne.symm HV.out)))
          have HV5 := Lib.hid (show (Value.slice (some ⟨g5, 0, none⟩) (P.length + 1) cp5).ownBlock ≠ some w2.heap.size by
            rcases hat5 with h | h
            · rw [show (Value.slice (some ⟨g5, 0, none⟩) (P.length + 1) cp5).ownBlock = some g5 from rfl, ← h]
              exact HV.out
            · have h1 := HR.out.lt w2.heap.size rfl
              rw [show (Value.slice (some ⟨g5, 0, none⟩) (P.length + 1) cp5).ownBlock = some g5 from rfl]
              intro e
              have h4 := Option.some.inj e
              omega)
          have HW5 := Lib.hid (((HW.out.trans (HBy.out.mono HW.out.size))).grown hgrow5 (Nat.le_trans HW.out.size HBy.out.size) (fun x hx => (HP.out.lt x hx).1))
          have HO5 := Lib.hid (show w8.ownsRow w2.heap.size 3 1 (.slice (some ⟨g5, 0, none⟩) (P.length + 1) cp5) (posI (L.take (j + 1))).length (cellsI (posI (L.take (j + 1)))) by
            rw [HPy.out, List.length_append]
            simpa [cellsI] using hown5)
          clear hown5 hgrow5 hat5 hlt5
          go_wp2_with fail
          go_roundg (2 - (j + 1))
          case measure => omega
          case rel => exact ⟨j + 1, by omega, by omega, by rw [Int.natCast_add]; rfl, HR5, HO5, HV5, HW5⟩
        · have HPn := Lib.hid (posI_no hltL h0)
          generalize L[j]'hltL = x at *
          clear hltL
          have h1 : x < 0 := by omega
          clear h0
          go_wp2_with fail
          go_roundg (2 - (j + 1))
          case measure => omega
          case rel => exact ⟨j + 1, by omega, by omega, by rw [Int.natCast_add]; rfl, HR, Lib.hid (by rw [HPn.out]; exact HP.out), HV, HW⟩
      · obtain rfl : j = 2 := by omega
        have HM := Lib.hid (posI_len L (2))
        have HLb := Lib.hid hLb
        clear hlt
        go_wp2_with fail
        go_ret
        refine ⟨⟨_, rfl, ?_⟩, HB2.out.trans (HW.out.mono HB2.out.size)⟩
        have h1 := HP.out
        rw [← HNl.out, List.take_length] at h1
        rw [HRd.out]
        exact nums_owned h1 (by have h2 := HM.out; have h3 := HLb.out; rw [← HNl.out, List.take_length] at h2; omega)
  | some ad =>
    have HNum := Lib.hid (show 2 + o.args.length ≤ maxLen ∧ (2 + o.args.length) * 8 ≤ 140737488355328 from ⟨by unfold maxLen; have := HL.out; omega, by have := HL.out; omega⟩)
    have HNw := Lib.hid (nums_news ((HS.out.below HB2.out (Nat.le_refl _)).below HBx.out HB2.out.size))
    have HNl := Lib.hid (show L.length = 2 + o.args.length by rw [HLl.out]; omega)
    have HAl := Lib.hid (cellsI_len o.args)
    clear HO2
    go_wp2_with (at_builtin; go_loud (refine wpList_append_own _ rfl _ _ _ rfl w2.heap.size 3 i0 (.int .i64 0) 1 8 Tryd.underlying43 HI0i.out.1 HI0i.out.2.1 HI0i.out.2.2.1 HI0i.out.2.2.2 rfl (by decide) _ 2 [.int .i64 o.a, .int .i64 o.b] rfl HRow.out ad o.args.length cap (cellsI o.args) rfl (by rw [HAl.out, Nat.mul_one]) HNw.out (cellsI_one _) HNum.out.1 HNum.out.2 HBx.out.size ?_))
    intro v5 w5 hown5 hgrow5 _
    obtain ⟨g1, c1', e, _, _⟩ := hown5.form (by omega)
    subst e
    have HR1 := Lib.hid (show w5.ownsRow w2.heap.size 3 1 (.slice (some ⟨g1, 0, none⟩) (2 + o.args.length) c1') (2 + o.args.length) (cellsI L) by
      rw [HLE.out]
      simpa [cellsI] using hown5)
    have HB5 := Lib.hid (HBx.out.grown hgrow5 HBx.out.size (fun x hx => (HRow.out.lt x hx).1))
    have hL2 : ((2 + o.args.length : Nat) : Int) ≤ 1048578 := by have := HL.out; omega
    clear hown5 hgrow5 c0 c1 c2 c3 c4 c5 c6 d6
    go_wp2_with fail
    go_loopg [3, 19] (2 + o.args.length) (fun g v3 v19 wy => ∃ j : Nat, j ≤ 2 + o.args.length ∧ j + g = 2 + o.args.length ∧ v19 = .int .i64 (j : Int) ∧ Hid (wy.ownsRow w2.heap.size 3 1 (.slice (some ⟨g1, 0, none⟩) (2 + o.args.length) c1') (2 + o.args.length) (cellsI L)) ∧ Hid (wy.ownsRow w2.heap.size 3 1 v3 (posI (L.take j)).length (cellsI (posI (L.take j)))) ∧ Hid (v3.ownBlock ≠ some g1) ∧ Hid (Below w2.heap.size w2 wy))
    case atStart => exact ⟨0, by omega, by omega, rfl, HR1, World.ownsRow_nil _ _ _ _, Lib.hid (by intro h; cases h), HB5⟩
    case round =>
      obtain ⟨j, hj, hjg, rfl, HR, HP, HV, HW⟩ := hrel
      by_cases hlt : j < 2 + o.args.length
      · have hltL : j < L.length := by rw [HNl.out]; exact hlt
        have d1 : wr.cell? ⟨g1, j, none⟩ = some (.int .i64 L[j]) := by
          rw [World.ownsRow.cellAt HR.out j (by omega)]
          exact cellsI_get (List.getElem?_eq_getElem hltL)
        have HM := Lib.hid (posI_len L j)
        have HLb := Lib.hid hLb
        by_cases h0 : 0 ≤ L[j]
        · have HPy := Lib.hid (posI_yes hltL h0)
          generalize L[j]'hltL = x at *
          clear hltL
          have HNum := Lib.hid (show (posI (L.take j)).length + 1 ≤ maxLen ∧ ((posI (L.take j)).length + 1) * 8 ≤ 140737488355328 from by
            have h1 := HM.out
            have h2 := HLb.out
            exact ⟨by unfold maxLen; omega, by omega⟩)
          have HBy := Lib.hid (show Below wr.heap.size wr (wr.alloc (.cells #[.int .i64 x] 3)) from (Below.refl _ _).alloc (Nat.le_refl _) _)
          obtain ⟨P, hP⟩ : ∃ P, P = posI (L.take j) := ⟨_, rfl⟩
          rw [← hP] at HP HPy HNum
          clear hP
          go_wp2_with (at_builtin; go_loud (refine wpList_append_lies _ rfl _ _ _ rfl w2.heap.size 3 i0 (.int .i64 0) 1 8 Tryd.underlying43 HI0i.out.1 HI0i.out.2.1 HI0i.out.2.2.1 HI0i.out.2.2.2 rfl (by decide) _ P.length (cellsI P) rfl (HP.out.belowed HBy.out) ⟨_, 0, none⟩ 1 1 [.int .i64 x] rfl rfl (World.news_of_block (cs := #[.int .i64 x]) (heap_alloc_new _ _)) (by simp [Value.oneCell']) (by decide) HNum.out.1 HNum.out.2 (Nat.le_trans HW.out.size HBy.out.size) _ rfl ?_))
          intro g5 cp5 w8 hown5 hgrow5 hat5 hlt5
          have HR5 := Lib.hid (World.ownsRow.kept (HR.out.belowed HBy.out) hgrow5 (.inr (Ne.symm HV.out)))
          have HV5 := Lib.hid (show (Value.slice (some ⟨g5, 0, none⟩) (P.length + 1) cp5).ownBlock ≠ some g1 by
            rcases hat5 with h | h
            · rw [show (Value.slice (some ⟨g5, 0, none⟩) (P.length + 1) cp5).ownBlock = some g5 from rfl, ← h]
              exact HV.out
            · have h1 := HR.out.lt g1 rfl
              rw [show (Value.slice (some ⟨g5, 0, none⟩) (P.length + 1) cp5).ownBlock = some g5 from rfl]
              intro e
              have h4 := Option.some.inj e
              omega)
          have HW5 := Lib.hid (((HW.out.trans (HBy.out.mono HW.out.size))).grown hgrow5 (Nat.le_trans HW.out.size HBy.out.size) (fun x hx => (HP.out.lt x hx).1))
          have HO5 := Lib.hid (show w8.ownsRow w2.heap.size 3 1 (.slice (some ⟨g5, 0, none⟩) (P.length + 1) cp5) (posI (L.take (j + 1))).length (cellsI (posI (L.take (j + 1)))) by
            rw [HPy.out, List.length_append]
            simpa [cellsI] using hown5)
          clear hown5 hgrow5 hat5 hlt5
          go_wp2_with fail
          go_roundg (2 + o.args.length - (j + 1))
          case measure => omega
          case rel => exact ⟨j + 1, by omega, by omega, by rw [Int.natCast_add]; rfl, HR5, HO5, HV5, HW5⟩
        · have HPn := Lib.hid (posI_no hltL h0)
          generalize L[j]'hltL = x at *
          clear hltL
          have h1 : x < 0 := by omega
          clear h0
          go_wp2_with fail
          go_roundg (2 + o.args.length - (j + 1))
          case measure => omega
          case rel => exact ⟨j + 1, by omega, by omega, by rw [Int.natCast_add]; rfl, HR, Lib.hid (by rw [HPn.out]; exact HP.out), HV, HW⟩
      · obtain rfl : j = 2 + o.args.length := by omega
        have HM := Lib.hid (posI_len L (2 + o.args.length))
        have HLb := Lib.hid hLb
        clear hlt
        go_wp2_with fail
        go_ret
        refine ⟨⟨_, rfl, ?_⟩, HB2.out.trans (HW.out.mono HB2.out.size)⟩
        have h1 := HP.out
        rw [← HNl.out, List.take_length] at h1
        rw [HRd.out]
        exact nums_owned h1 (by have h2 := HM.out; have h3 := HLb.out; rw [← HNl.out, List.take_length] at h2; omega)
end Go.Proofs.YtlomdlblohnfmaaDoor

