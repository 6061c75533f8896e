/- Depths. Plain: nothing of the program. · Depths: the reference. · A node that is right by itself: declarations; all nodes: the program. · Is there a node that is not right: the program. · What is wrong with a tree: the reference, the program. -/
import Derived.Test.YtkokdafkjjcgoaaGreatDoorMg10
import Derived.Test.YtkokdafkjjcgoaaGreatDoorMg19
import Derived.Test.YtkokdafkjjcgoaaGreatDoorWell
import Derived.Test.YtkokdafkjjcgoaaGreatDoorFits
import Derived.Test.YtkokdafkjjcgoaaGreatDoorMg20
import Derived.Deep.CutBlock
import Derived.Deep.RegionHeld3
namespace Go.Proofs.YtkokdafkjjcgoaaGreatDoor

theorem fold_max : ∀ (l : List Nat) (a : Nat), l.foldl max a = max a (l.foldl max 0)
  | [], a => by simp
  | x :: l, a => by
    rw [List.foldl_cons, List.foldl_cons, fold_max l (max a x), fold_max l (max 0 x)]
    omega
theorem fold_rev (l : List Nat) : l.reverse.foldl max 0 = l.foldl max 0 := by
  induction l with
  | nil => rfl
  | cons x l ih =>
    rw [List.reverse_cons, List.foldl_append, ih]
    simp only [List.foldl_cons, List.foldl_nil]
    rw [fold_max l (max 0 x)]
    omega
theorem fold_le {l : List Nat} {B : Nat} (h : ∀ d ∈ l, d ≤ B) : l.foldl max 0 ≤ B := by
  induction l with
  | nil => simp
  | cons x l ih =>
    rw [List.foldl_cons, fold_max l (max 0 x)]
    have := ih (fun d hd => h d (List.mem_cons_of_mem _ hd))
    have := h x List.mem_cons_self
    omega
/-- what is so of depths at the i-th node: ds the depths that wait, the last one first -/
structure DeepAt (t : List Nd) (i : Nat) (ds : List Nat) : Prop where
  rest : deepN t = (deepF (t.drop i) ds).getD 0 0
  goes : ∃ st f s, st.length = ds.length ∧ beginsF (t.drop i) i st = some (f, [s])
  le : ∀ d ∈ ds, d ≤ i
theorem DeepAt.start {t : List Nd} {fr : List Nat} (h : beginsN t = some fr) : DeepAt t 0 [] := by
  unfold beginsN at h
  split at h
  · rename_i f s hb
    exact ⟨by rw [List.drop_zero]; rfl, ⟨[], f, s, rfl, by rw [List.drop_zero]; exact hb⟩, fun d hd => by cases hd⟩
  · cases h
theorem DeepAt.step {t : List Nd} {i : Nat} {ds : List Nat} (h : DeepAt t i ds) (hi : i < t.length) : 0 ≤ t[i].n ∧ t[i].n.toNat ≤ ds.length ∧ DeepAt t (i + 1) (((ds.take t[i].n.toNat).foldl max 0 + 1) :: ds.drop t[i].n.toNat) := by
  obtain ⟨hr, ⟨st, f, s, hl, hg⟩, hle⟩ := h
  rw [List.drop_eq_getElem_cons hi] at hr hg
  rw [beginsF] at hg
  split at hg
  · cases hg
  · rename_i hn
    simp only [Option.map_eq_some_iff] at hg
    obtain ⟨⟨g, st2⟩, hg, e⟩ := hg
    obtain ⟨_, rfl⟩ := Prod.mk.inj e
    refine ⟨by omega, by omega, ⟨by rw [hr, deepF], ⟨_, g, s, ?_, hg⟩, fun d hd => ?_⟩⟩
    · simp [hl]
    · rcases List.mem_cons.1 hd with rfl | hd
      · have := fold_le (fun d hd => hle d (List.mem_of_mem_take hd)) (l := ds.take t[i].n.toNat)
        omega
      · have := hle d (List.mem_of_mem_drop hd); omega
theorem DeepAt.done {t : List Nd} {ds : List Nat} (h : DeepAt t t.length ds) : ∃ d, ds = [d] ∧ deepN t = d := by
  obtain ⟨hr, ⟨st, f, s, hl, hg⟩, hle⟩ := h
  rw [List.drop_length] at hr hg
  rw [beginsF] at hg
  obtain ⟨_, rfl⟩ := Prod.mk.inj (Option.some.inj hg)
  obtain ⟨d, rfl⟩ := List.length_eq_one_iff.1 (show ds.length = 1 by rw [← hl]; rfl)
  exact ⟨d, rfl, by rw [hr, deepF]; rfl⟩
end Go.Proofs.YtkokdafkjjcgoaaGreatDoor
namespace Go.Proofs.YtkokdafkjjcgoaaGreatDoor
open Go.RowKit

structure DeepInv (w : World) (t : List Nd) (wy : World) (g cap i : Nat) (ds : List Nat) : Prop where
  at_ : DeepAt t i ds
  stk : wy.ownsRow w.heap.size 3 1 (.slice (some ⟨g, 0, none⟩) ds.length cap) ds.length (ds.reverse.map natV)
  stl : ds.length ≤ i
  below : Below w.heap.size w wy
theorem DeepInv.cell {w wy : World} {t : List Nd} {g cap i : Nat} {ds : List Nat} (h : DeepInv w t wy g cap i ds) {q m j : Nat} (hq : ds.length = q + m) (hj : j < m) : wy.cell? ⟨g, q + j, none⟩ = some (.int .i64 (((ds.take m).reverse.getD j 0 : Nat) : Int)) := by
  have hl : (ds.take m).reverse.length = m := by rw [List.length_reverse, List.length_take]; omega
  rw [h.stk.cellAt (q + j) (by omega), List.getElem?_map, List.getElem?_reverse (by omega), List.getD_eq_getElem?_getD, List.getElem?_reverse (by rw [List.length_take]; omega), List.getElem?_take, List.length_take, show min m ds.length - 1 - j = ds.length - 1 - (q + j) by omega, if_pos (by omega), List.getElem?_eq_getElem (by omega)]
  rfl
theorem DeepInv.node {w wy : World} {t : List Nd} {g cap i : Nat} {ds : List Nat} (h : DeepInv w t wy g cap i ds) {q m : Nat} (hq : ds.length = q + m) : wy.ownsRow w.heap.size 3 1 (.slice (some ⟨g, 0, none⟩) q cap) q ((ds.drop m).reverse.map natV) := by
  have := own_take h.stk (m := q) (by omega)
  rw [Nat.mul_one, ← List.map_take, show q = ds.length - m by omega, rev_take ds m (by omega)] at this
  rw [show q = ds.length - m by omega]
  exact this
theorem DeepInv.push {w wy w4 w5 : World} {t : List Nd} {g cap i d g5 cp5 : Nat} {ds : List Nat} (h : DeepInv w t wy g cap i ds) {q m : Nat} (hq : ds.length = q + m) (hb : Below wy.heap.size wy w4)
    (hown : w5.ownsRow w.heap.size 3 1 (.slice (some ⟨g5, 0, none⟩) (q + 1) cp5) (q + 1) ((ds.drop m).reverse.map natV ++ [.int .i64 ((d : Int) + 1)])) (hgrow : w4.grownBy w5 (some g)) (hst : DeepAt t (i + 1) ((d + 1) :: ds.drop m)) : DeepInv w t w5 g5 cp5 (i + 1) ((d + 1) :: ds.drop m) := by
  obtain ⟨_, _, hg1, hg2⟩ := own_at h.stk
  have e : ((d + 1) :: ds.drop m).length = q + 1 := by simp; omega
  have := h.stl
  refine ⟨hst, ?_, by rw [e]; omega, (h.below.trans (hb.mono h.below.size)).grown hgrow (Nat.le_trans h.below.size hb.size) (fun k hk => by simp only [Option.some.injEq] at hk; omega)⟩
  rw [e, List.reverse_cons, List.map_append]
  exact hown
theorem DeepInv.belowed {w wy w2 : World} {t : List Nd} {g cap i : Nat} {ds : List Nat} (h : DeepInv w t wy g cap i ds) (hb : Below wy.heap.size wy w2) : DeepInv w t w2 g cap i ds := ⟨h.at_, h.stk.belowed hb, h.stl, h.below.trans (hb.mono h.below.size)⟩
theorem fold_next (l : List Nat) {j : Nat} (hj : j < l.length) : (l.take (j + 1)).foldl max 0 = max ((l.take j).foldl max 0) (l.getD j 0) := by
  rw [List.take_succ_eq_append_getElem hj, List.foldl_append, List.getD_eq_getElem?_getD, List.getElem?_eq_getElem hj]
  rfl

set_option maxRecDepth 100000 in
set_option maxHeartbeats 8000000 in
theorem treeDeep_ok (a : Option Addr) (cap : Nat) (t : List Nd) {fr : List Nat} (w : World) (hI : IsNds w.heap.size w a t) (hl : t.length ≤ 4096) (hb : beginsN t = some fr) (_hOk : ∀ x ∈ t, NdOk x) :
    Calls Tryz.prog 85 #[.slice a t.length cap] w fun e w' => e = .returned (.int .i64 (deepN t : Int)) ∧ Below w.heap.size w w' := by
  have HI := Lib.hid hI
  have hli : (t.length : Int) ≤ 4096 := by omega
  obtain ⟨i0, hi, hz0, hz1, hz2⟩ := info_parts infoInt
  have HI0 := Lib.hid (And.intro hi (And.intro hz0 (And.intro hz1 hz2)))
  have HB0 := Lib.hid (show DeepInv w t (w.alloc (.cells #[] 3)) w.heap.size 0 0 [] from ⟨DeepAt.start hb, own_nil9 (Nat.le_refl _), Nat.le_refl _, ba1 _ _⟩)
  clear hi hz0 hz1 hz2 hI hb
  go_enter Tryz.func85, Tryz.ntmps85
  go_wp2_with fail
  go_loopg [3, 13] t.length (fun m v3 v13 wy => ∃ (i g' c' : Nat) (ds : List Nat), i ≤ t.length ∧ i + m = t.length ∧ v13 = .int .i64 (i : Int) ∧ v3 = .slice (some ⟨g', 0, none⟩) ds.length c' ∧ Hid (DeepInv w t wy g' c' i ds))
  case atStart => exact ⟨0, _, _, [], by omega, by omega, rfl, rfl, HB0⟩
  case round =>
    obtain ⟨i, g', c', ds, hi, him, rfl, rfl, HG⟩ := hrel
    have hdl : (ds.length : Int) ≤ 4096 := by have := HG.out.stl; omega
    by_cases hlt : i < t.length
    · obtain ⟨b, off, ha, hbl, x0, x1, x2, x3, x4, x5⟩ := nds_at HI.out hlt
      subst ha
      rw [← HG.out.below.cell hbl] at x0 x1 x2 x3 x4 x5
      obtain ⟨hn0, hnl, hst⟩ := HG.out.at_.step hlt
      have HSt := Lib.hid hst
      clear hst
      generalize t[i]'hlt = x at *
      obtain ⟨kk, xn, pp, ii, s, ty⟩ := x
      simp only at x0 x1 x2 x3 x4 x5 hn0 hnl HSt
      obtain ⟨m, rfl⟩ : ∃ n : Nat, xn = (n : Int) := ⟨xn.toNat, by omega⟩
      go_upto_region 5 with fail
      have hx2 : (wr.alloc (ndObj ⟨kk, (m : Int), pp, ii, s, ty⟩)).heap[wr.heap.size]? = some (.cells #[.int .i64 kk, .int .i64 (m : Int), .int .i64 pp, .int .i64 ii, .string s, .string ty] 36 (0, 0)) := heap_alloc_new _ _
      have HG2 := Lib.hid (HG.out.belowed (ba1 wr (ndObj ⟨kk, (m : Int), pp, ii, s, ty⟩)))
      simp only [ndObj] at hx2 HG2
      generalize wr.alloc (.cells #[.int .i64 kk, .int .i64 (m : Int), .int .i64 pp, .int .i64 ii, .string s, .string ty] 36) = w2 at *
      obtain ⟨⟨_, d1, _⟩, _⟩ := six_block hx2
      clear x0 x1 x2 x3 x4 x5 hx2 HG
      have HG := HG2
      clear HG2
      rw [Int.toNat_natCast] at hnl HSt
      obtain ⟨q, hq⟩ : ∃ q, ds.length = q + m := ⟨ds.length - m, by omega⟩
      have hqc : q ≤ c' := by have := (own_at HG.out.stk).1; omega
      have how := HG.out.node hq
      obtain ⟨L, hL⟩ : ∃ L, L = (ds.drop m).reverse.map natV := ⟨_, rfl⟩
      rw [← hL] at how
      have HOw := Lib.hid how
      have HL := Lib.hid hL
      clear how hL
      obtain ⟨M, hM⟩ : ∃ M, M = (ds.take m).reverse := ⟨_, rfl⟩
      have hMl : M.length = m := by rw [hM, List.length_reverse, List.length_take]; omega
      have HM := Lib.hid hM
      clear hM
      by_cases hc : c' = q
      · have hm0 : m = 0 := by have := (own_at HG.out.stk).1; omega
        obtain rfl : q = c' := hc.symm
        go_wp2_with fail
        go_loopg [7, 26] m (fun r v7 v26 wy => ∃ (p d : Nat), p + r = m ∧ v26 = .int .i64 (p : Int) ∧ v7 = .int .i64 (d : Int) ∧ Hid (d = (M.take p).foldl max 0) ∧ wy = w2)
        case atStart => exact ⟨0, 0, by omega, rfl, rfl, Lib.hid (by simp), rfl⟩
        case round =>
          obtain ⟨p, d, hpr, rfl, rfl, HD, rfl⟩ := hrel
          · obtain rfl : p = m := by omega
            have hd : d = (ds.take p).foldl max 0 := by
              rw [HD.out, List.take_of_length_le (show M.length ≤ p by omega), HM.out, fold_rev]
            rw [← hd] at HSt
            have hd4 : (d : Int) ≤ 4096 := by have := HSt.out.le (d + 1) List.mem_cons_self; omega
            have HDl := Lib.hid (show 0 + 1 ≤ 1 ∧ q + 1 ≤ maxLen ∧ (q + 1) * 8 ≤ 140737488355328 from ⟨by omega, by unfold maxLen; omega, by omega⟩)
            clear hd
            go_wp2_with (at_builtin; go_loud (refine wpList_append_lies _ rfl _ _ _ rfl w.heap.size 3 i0 (.int .i64 0) 1 8 Tryz.underlying27 HI0.out.1 HI0.out.2.1 HI0.out.2.2.1 HI0.out.2.2.2 rfl (by decide) (.slice (some ⟨g', 0, none⟩) q q) q L rfl (HOw.out.belowed (ba1 _ _)) ⟨_, 0, none⟩ 1 1 [.int .i64 ((d : Int) + 1)] rfl rfl (World.news_of_block (cs := #[.int .i64 ((d : Int) + 1)]) (heap_alloc_new _ _)) (by simp [Value.oneCell']) (by decide) HDl.out.2.1 HDl.out.2.2 (Nat.le_trans HG.out.below.size (ba1 _ _).size) _ rfl ?_))
            intro g5 cp5 w5 hown5 hgrow5 hat5 hlt5
            rw [HL.out] at hown5
            have HN5 := Lib.hid (HG.out.push hq (ba1 _ _) hown5 hgrow5 HSt.out)
            clear hown5 hgrow5 hat5 hlt5
            go_wp2_with fail
            go_roundg (t.length - (i + 1))
            case measure => omega
            case rel => exact ⟨i + 1, g5, cp5, (d + 1) :: ds.drop p, by omega, by omega, by rw [Int.natCast_add]; rfl, by rw [List.length_cons, List.length_drop, show ds.length - p = q by omega], HN5⟩
      · have hc2 : q < c' := by omega
        go_wp2_with fail
        go_loopg [7, 26] m (fun r v7 v26 wy => ∃ (p d : Nat), p + r = m ∧ v26 = .int .i64 (p : Int) ∧ v7 = .int .i64 (d : Int) ∧ Hid (d = (M.take p).foldl max 0) ∧ wy = w2)
        case atStart => exact ⟨0, 0, by omega, rfl, rfl, Lib.hid (by simp), rfl⟩
        case round =>
          obtain ⟨p, d, hpr, rfl, rfl, HD, rfl⟩ := hrel
          by_cases hpl : p < m
          · have c2 := HG.out.cell hq hpl
            rw [← HM.out] at c2
            have HF := Lib.hid (fold_next M (show p < M.length by omega))
            obtain ⟨z, hz⟩ : ∃ z, z = M.getD p 0 := ⟨_, rfl⟩
            rw [← hz] at c2 HF
            clear hz
            have h1 : (p : Int) < (m : Int) := by omega
            go_wp2_with fail
            go_roundg (m - (p + 1))
            case measure => omega
            case rel => exact ⟨p + 1, max d z, by omega, by rw [Int.natCast_add]; rfl, by rw [show max (d : Int) (z : Int) = ((max d z : Nat) : Int) by omega], Lib.hid (by rw [HD.out, HF.out]), rfl⟩
          · obtain rfl : p = m := by omega
            have hd : d = (ds.take p).foldl max 0 := by
              rw [HD.out, List.take_of_length_le (show M.length ≤ p by omega), HM.out, fold_rev]
            rw [← hd] at HSt
            have hd4 : (d : Int) ≤ 4096 := by have := HSt.out.le (d + 1) List.mem_cons_self; omega
            have HDl := Lib.hid (show 0 + 1 ≤ 1 ∧ q + 1 ≤ maxLen ∧ (q + 1) * 8 ≤ 140737488355328 from ⟨by omega, by unfold maxLen; omega, by omega⟩)
            clear hd
            go_wp2_with (at_builtin; go_loud (refine wpList_append_lies _ rfl _ _ _ rfl w.heap.size 3 i0 (.int .i64 0) 1 8 Tryz.underlying27 HI0.out.1 HI0.out.2.1 HI0.out.2.2.1 HI0.out.2.2.2 rfl (by decide) (.slice (some ⟨g', 0, none⟩) q c') q L rfl (HOw.out.belowed (ba1 _ _)) ⟨_, 0, none⟩ 1 1 [.int .i64 ((d : Int) + 1)] rfl rfl (World.news_of_block (cs := #[.int .i64 ((d : Int) + 1)]) (heap_alloc_new _ _)) (by simp [Value.oneCell']) (by decide) HDl.out.2.1 HDl.out.2.2 (Nat.le_trans HG.out.below.size (ba1 _ _).size) _ rfl ?_))
            intro g5 cp5 w5 hown5 hgrow5 hat5 hlt5
            rw [HL.out] at hown5
            have HN5 := Lib.hid (HG.out.push hq (ba1 _ _) hown5 hgrow5 HSt.out)
            clear hown5 hgrow5 hat5 hlt5
            go_wp2_with fail
            go_roundg (t.length - (i + 1))
            case measure => omega
            case rel => exact ⟨i + 1, g5, cp5, (d + 1) :: ds.drop p, by omega, by omega, by rw [Int.natCast_add]; rfl, by rw [List.length_cons, List.length_drop, show ds.length - p = q by omega], HN5⟩
    · obtain rfl : i = t.length := by omega
      obtain ⟨d, rfl, hd⟩ := HG.out.at_.done
      have c0 := HG.out.stk.cellAt 0 (by simp)
      simp only [List.reverse_singleton, List.map_cons, List.map_nil, List.getElem?_cons_zero, natV] at c0
      go_wp2_with fail
      go_ret
      exact ⟨by rw [hd]; rfl, HG.out.below⟩
end Go.Proofs.YtkokdafkjjcgoaaGreatDoor
namespace Go.Proofs.YtkokdafkjjcgoaaGreatDoor
open Go.RowKit

set_option maxHeartbeats 4000000 in
theorem well_22 (k n p i : Int) (s t : ByteArray) (w : World) (hE : TE w) (h : sizeOk ⟨k, n, p, i, s, t⟩ = true) (hk : k = 22) (hi2 : intOk ⟨k, n, p, i, s, t⟩ = true) : Calls Tryz.prog 83 #[.agg #[.int .i64 k, .int .i64 n, .int .i64 p, .int .i64 i, .string s, .string t]] w fun e w' => e = .returned (.bool (isNameB s && (typedS t && objectS t))) ∧ Below w.heap.size w w' := by
  have HE := Lib.hid hE
  have HA := Lib.hid (fun w => arity_ok k w)
  clear hE
  have hii := int_yes hi2
  clear hi2
  have HNm := Lib.hid (fun w (hK : KeysAt w) => lexIsName_any s w hK)
  have HTy := Lib.hid (fun w (hE : TE w) => typed_ok t w hE)
  have HOb0 := Lib.hid (fun (h : typedS t = true) w => objectS_ok t w h)
  obtain ⟨a1, a2, a3, a4, a5⟩ := size_yes h
  clear h
  generalize arityN k = ar at *
  obtain ⟨lo, hi⟩ := ar
  simp only at a1 a2 a3 HA
  have g1 : (k == 1) = false := by rw [hk]; rfl
  have g2 : (k == 2) = false := by rw [hk]; rfl
  have g3 : (k == 3) = false := by rw [hk]; rfl
  have g13 : (k == 13) = false := by rw [hk]; rfl
  have g14 : (k == 14) = false := by rw [hk]; rfl
  have g22 : (k == 22) = true := by rw [hk]; rfl
  have g4 : (k == 4) = false := by rw [hk]; rfl
  have g5 : (k == 5) = false := by rw [hk]; rfl
  have g6 : (k == 6) = false := by rw [hk]; rfl
  have g7 : (k == 7) = false := by rw [hk]; rfl
  have g8 : (k == 8) = false := by rw [hk]; rfl
  have g15 : (k == 15) = false := by rw [hk]; rfl
  have g17 : (k == 17) = false := by rw [hk]; rfl
  have g22n : (k != 22) = false := by rw [hk]; rfl
  clear hk
  generalize isNameB s = b at *
  cases b
  case' true =>
    rcases hty : typedS t with _ | _
    case' true => have HOb := Lib.hid (HOb0.out hty)
    all_goals
      rw [hty] at HTy
      clear hty HOb0
  case' false => clear HTy HOb0
  all_goals
    rcases hii with g44 | ⟨g44, g46, g45⟩
  case' false.inl => have g0 : (i == 0) = true := by rw [g44]; rfl
  case' true.false.inl => have g0 : (i == 0) = true := by rw [g44]; rfl
  case' true.true.inl => have g0 : (i == 0) = true := by rw [g44]; rfl
  case' false.inr => have g0 : (i == 0) = false := by simpa using g44
  case' true.false.inr => have g0 : (i == 0) = false := by simpa using g44
  case' true.true.inr => have g0 : (i == 0) = false := by simpa using g44
  case' false.inr => have g1' : (i == 1) = true := by rw [g45]; rfl
  case' true.false.inr => have g1' : (i == 1) = true := by rw [g45]; rfl
  case' true.true.inr => have g1' : (i == 1) = true := by rw [g45]; rfl
  case' false.inl => have g0n : (i != 0) = false := by rw [g44]; rfl
  case' true.false.inl => have g0n : (i != 0) = false := by rw [g44]; rfl
  case' true.true.inl => have g0n : (i != 0) = false := by rw [g44]; rfl
  case' false.inr => have g1n : (i != 1) = false := by rw [g45]; rfl
  case' true.false.inr => have g1n : (i != 1) = false := by rw [g45]; rfl
  case' true.true.inr => have g1n : (i != 1) = false := by rw [g45]; rfl
  case' false.inr => clear g45 g46
  case' true.false.inr => clear g45 g46
  case' true.true.inr => clear g45 g46
  all_goals
    clear g44
    go_enter Tryz.func83, Tryz.ntmps83
    go_upto_region 1 with fail
    have hx1 : (w.alloc (ndObj ⟨k, n, p, i, s, t⟩)).heap[w.heap.size]? = some (.cells #[.int .i64 k, .int .i64 n, .int .i64 p, .int .i64 i, .string s, .string t] 36 (0, 0)) := heap_alloc_new _ _
    have hb1 : Below w.heap.size w (w.alloc (ndObj ⟨k, n, p, i, s, t⟩)) := (Below.refl _ _).alloc (Nat.le_refl _) _
    simp only [ndObj] at hx1 hb1
    generalize w.alloc (.cells #[.int .i64 k, .int .i64 n, .int .i64 p, .int .i64 i, .string s, .string t] 36) = w1 at *
    have hz1 := lt_of_heap hx1
    obtain ⟨⟨d0, d1, d2, d3, d4, d5⟩, _⟩ := six_block hx1
    have HX1 := Lib.hid hx1
    have HB1 := Lib.hid hb1
    clear hx1 hb1
    have HN1 := Lib.hid (HNm.out w1 ((HE.out.below HB1.out).keys))
    go_wp2_with (first | (go_at_call 130; (with_reducible refine (HA.out _).mono ?_); rintro e w2 ⟨rfl, hw2⟩; subst w2) | (go_at_call 124; (with_reducible refine HN1.out.mono ?_); rintro e w2 ⟨rfl, hb2⟩; have hx2 := (hb2.block _ hz1).trans HX1.out; obtain ⟨⟨e0, e1, e2, e3, e4, e5⟩, _⟩ := six_block hx2; have HX2 := Lib.hid hx2; have HB2 := Lib.hid (HB1.out.trans (hb2.mono HB1.out.size)); clear hx2; clear hb2) | (go_at_call 132; (with_reducible refine (HTy.out w2 (HE.out.below HB2.out)).mono ?_); rintro e w3 ⟨rfl, hb3⟩; have hx3 := (hb3.block _ (lt_of_heap HX2.out)).trans HX2.out; obtain ⟨⟨y0, y1, y2, y3, y4, y5⟩, _⟩ := six_block hx3; have HB3 := Lib.hid (HB2.out.trans (hb3.mono HB2.out.size)); clear hx3 hb3) | (go_at_call 126; (with_reducible refine (HOb.out _).mono ?_); rintro e w4 ⟨rfl, hw4⟩; subst w4))
    all_goals go_ret
    all_goals (first | exact ⟨by simp, HB3.out⟩ | exact ⟨by simp_all, HB3.out⟩ | exact ⟨rfl, HB2.out⟩)

theorem well_ok (x : Nd) (w : World) (hE : TE w) : Calls Tryz.prog 83 #[ndV x] w fun e w' => e = .returned (.bool (wellN x)) ∧ Below w.heap.size w w' := by
  obtain ⟨k, n, p, i, s, t⟩ := x
  rw [well_split]
  rcases hs : sizeOk ⟨k, n, p, i, s, t⟩ with _ | _
  · exact well_size k n p i s t w hE hs
  · rw [Bool.true_and]
    simp only
    by_cases h1 : k = 1
    · rw [if_pos h1]
      exact well_num k n p i s t w hE hs h1
    · rw [if_neg h1]
      rcases hi : intOk ⟨k, n, p, i, s, t⟩ with _ | _
      · exact well_int k n p i s t w hE hs h1 hi
      · rw [Bool.true_and]
        rcases body_kinds k with h | h | h | h | h | h
        · subst h; rw [body_2]; exact well_2 2 n p i s t w hE hs rfl hi
        · rw [body_3 h]; exact well_3 k n p i s t w hE hs h hi
        · subst h; rw [body_22]; exact well_22 22 n p i s t w hE hs rfl hi
        · rw [body_4 h]; exact well_4 k n p i s t w hE hs h hi
        · rw [body_15 h]; exact well_15 k n p i s t w hE hs h hi
        · rw [body_x h]; exact well_x k n p i s t w hE hs h1 h hi
end Go.Proofs.YtkokdafkjjcgoaaGreatDoor
namespace Go.Proofs.YtkokdafkjjcgoaaGreatDoor
open Go.RowKit

theorem looked1_ok (x : Nd) (w : World) (hE : TE w) : Calls Tryz.prog 82 #[ndV x] w fun e w' => e = .returned (.bool (!wellN x)) ∧ Below w.heap.size w w' := by
  have HE := Lib.hid hE
  have HWl := Lib.hid (fun w (hE : TE w) => well_ok x w hE)
  clear hE
  generalize wellN x = r at *
  obtain ⟨k, n, p, i, s, t⟩ := x
  simp only [ndV] at HWl ⊢
  go_enter Tryz.func82, Tryz.ntmps82
  go_upto_region 1 with fail
  have hx1 : (w.alloc (ndObj ⟨k, n, p, i, s, t⟩)).heap[w.heap.size]? = some (.cells #[.int .i64 k, .int .i64 n, .int .i64 p, .int .i64 i, .string s, .string t] 36 (0, 0)) := heap_alloc_new _ _
  have hb1 : Below w.heap.size w (w.alloc (ndObj ⟨k, n, p, i, s, t⟩)) := ba1 _ _
  simp only [ndObj] at hx1 hb1
  generalize w.alloc (.cells #[.int .i64 k, .int .i64 n, .int .i64 p, .int .i64 i, .string s, .string t] 36) = w1 at *
  obtain ⟨⟨d0, d1, d2, d3, d4, d5⟩, _⟩ := six_block hx1
  have HB1 := Lib.hid hb1
  clear hx1 hb1
  go_wp2_with (go_at_call 83; (with_reducible refine (HWl.out w1 (HE.out.below HB1.out)).mono ?_); rintro e w2 ⟨rfl, hb2⟩; have HB2 := Lib.hid (HB1.out.trans (hb2.mono HB1.out.size)); clear hb2)
  go_ret
  exact ⟨by simp, HB2.out⟩
set_option maxHeartbeats 2000000 in
theorem looked_idx (xs : List Nd) (a : Option Addr) (cap : Nat) (w : World) (hE : TE w) (h : IsNds w.heap.size w a xs) (hl : (xs.length : Int) ≤ 9223372036854775807) :
    Calls Tryz.prog 129 #[.slice a xs.length cap, .func (.func 82) #[] #[]] w fun e w' => ∃ o : Int, e = .returned (.int .i64 o) ∧ decide (0 ≤ o) = (!xs.all wellN) ∧ Below w.heap.size w w' := by
  have HE := Lib.hid hE
  have HR := Lib.hid h
  clear hE h
  go_enter Tryz.func129, Tryz.ntmps129
  go_wp2_with fail
  go_loopg [8] xs.length (fun g v8 wy => ∃ k : Nat, k ≤ xs.length ∧ k + g = xs.length ∧ v8 = .int .i64 (k : Int) ∧ Hid (∀ j (hj : j < xs.length), j < k → wellN xs[j] = true) ∧ Hid (Below w.heap.size w wy))
  case atStart => exact ⟨0, by omega, by omega, rfl, fun j _ h => by omega, Below.refl _ _⟩
  case round =>
    obtain ⟨k, hk, hkg, rfl, hno, HB⟩ := hrel
    by_cases hlk : k < xs.length
    · obtain ⟨bb, off, ha, hbl, x0, x1, x2, x3, x4, x5⟩ := nds_at HR.out hlk
      subst ha
      rw [← HB.out.cell hbl] at x0 x1 x2 x3 x4 x5
      rcases h : wellN xs[k] with _ | _
      · have HC := Lib.hid ((fun w hE => looked1_ok xs[k] w hE) wr (HE.out.below HB.out))
        have hfin := Lib.hid (show (!xs.all wellN) = true by
          rw [Bool.not_eq_true', List.all_eq_false]
          exact ⟨xs[k], List.getElem_mem hlk, by rw [h]; simp⟩)
        simp only [h] at HC
        clear h hno
        generalize xs[k]'hlk = mt at *
        obtain ⟨kk, n, p, i, s, t⟩ := mt
        simp only [ndV] at HC x0 x1 x2 x3 x4 x5
        go_wp2_with (go_at_call 82; (with_reducible refine HC.out.mono ?_); rintro e w2 ⟨rfl, hb2⟩; have HB2 := Lib.hid hb2; clear hb2)
        go_ret
        exact ⟨_, rfl, by rw [hfin.out]; simp, HB.out.trans (HB2.out.mono HB.out.size)⟩
      · have HC := Lib.hid ((fun w hE => looked1_ok xs[k] w hE) wr (HE.out.below HB.out))
        have HN := Lib.hid (show ∀ j (hj : j < xs.length), j < k + 1 → wellN xs[j] = true from fun j hj hjk => by
          rcases Nat.lt_or_ge j k with h' | h'
          · exact hno.out j hj h'
          · obtain rfl : j = k := by omega
            exact h)
        simp only [h] at HC
        clear h hno
        generalize xs[k]'hlk = mt at *
        obtain ⟨kk, n, p, i, s, t⟩ := mt
        simp only [ndV] at HC x0 x1 x2 x3 x4 x5
        go_wp2_with (go_at_call 82; (with_reducible refine HC.out.mono ?_); rintro e w2 ⟨rfl, hb2⟩; have HB2 := Lib.hid (HB.out.trans (hb2.mono HB.out.size)); clear hb2)
        go_roundg (xs.length - (k + 1))
        case measure => omega
        case rel => exact ⟨k + 1, by omega, by omega, by rw [Int.natCast_add]; rfl, HN.out, HB2.out⟩
    · obtain rfl : k = xs.length := by omega
      have hfin := Lib.hid (show (!xs.all wellN) = false by
        rw [Bool.not_eq_false', List.all_eq_true]
        intro m hm
        obtain ⟨j, hj, rfl⟩ := List.getElem_of_mem hm
        simp [hno.out j hj hj])
      have t3 : (xs.length : Int) ≤ (xs.length : Int) := Int.le_refl _
      go_wp2_with fail
      go_ret
      exact ⟨_, rfl, by rw [hfin.out]; rfl, HB.out⟩
set_option maxHeartbeats 2000000 in
theorem looked_has (xs : List Nd) (a : Option Addr) (cap : Nat) (w : World) (hE : TE w) (h : IsNds w.heap.size w a xs) (hl : (xs.length : Int) ≤ 9223372036854775807) :
    Calls Tryz.prog 81 #[.slice a xs.length cap, .func (.func 82) #[] #[]] w fun e w' => e = .returned (.bool ((!xs.all wellN))) ∧ Below w.heap.size w w' := by
  have H := Lib.hid (looked_idx xs a cap w hE h hl)
  clear hE h
  go_enter Tryz.func81, Tryz.ntmps81
  go_wp2_with (go_at_call 129; (with_reducible refine H.out.mono ?_); rintro e w1 ⟨o, rfl, ho, hb1⟩; have HO := Lib.hid ho; clear ho)
  go_ret
  exact ⟨by rw [← HO.out]; rfl, hb1⟩

end Go.Proofs.YtkokdafkjjcgoaaGreatDoor
namespace Go.Proofs.YtkokdafkjjcgoaaGreatDoor
open Go.RowKit

theorem check_long {t : List Nd} (h : 4096 < t.length) : checkN9 t = 3 := by unfold checkN9; rw [if_pos h]
theorem check_well {t : List Nd} (h : t.length ≤ 4096) (hw : t.all wellN = false) : checkN9 t = 90 := by unfold checkN9; rw [if_neg (by omega), if_pos hw]
theorem check_begins {t : List Nd} (h : t.length ≤ 4096) (hb : beginsN t = none) : checkN9 t = 90 := by
  unfold checkN9
  rw [if_neg (by omega)]
  by_cases hw : t.all wellN = false
  · rw [if_pos hw]
  · rw [if_neg hw, hb]
theorem check_rest {t : List Nd} {fr : List Nat} (h : t.length ≤ 4096) (hw : t.all wellN = true) (hb : beginsN t = some fr) : checkN9 t = if (List.range t.length).all (fitsN t fr) = false then 90 else if 48 < deepN t then 3 else 0 := by
  unfold checkN9
  rw [if_neg (by omega), if_neg (by rw [hw]; simp), hb]
theorem check_unfit {t : List Nd} {fr : List Nat} {i : Nat} (h : t.length ≤ 4096) (hw : t.all wellN = true) (hb : beginsN t = some fr) (hi : i < t.length) (hf : fitsN t fr i = false) : checkN9 t = 90 := by
  rw [check_rest h hw hb, if_pos (List.all_eq_false.2 ⟨i, List.mem_range.2 hi, by rw [hf]; simp⟩)]
theorem check_deep {t : List Nd} {fr : List Nat} (h : t.length ≤ 4096) (hw : t.all wellN = true) (hb : beginsN t = some fr) (hf : ∀ i, i < t.length → fitsN t fr i = true) : checkN9 t = if 48 < deepN t then 3 else 0 := by
  rw [check_rest h hw hb, if_neg (by rw [List.all_eq_true.2 (fun i hi => hf i (List.mem_range.1 hi))]; simp)]
theorem given_of {t : List Nd} {fr : List Nat} (h : t.length ≤ 4096) (hw : t.all wellN = true) (hb : beginsN t = some fr) : Given t fr :=
  ⟨h, formed_of hb, fun _ x hx => List.all_eq_true.1 hw x (List.mem_of_getElem? hx)⟩
/-- a node's cells, loaded as one value -/
theorem fits_next {t : List Nd} {fr : List Nat} {i : Nat} (h : ∀ j, j < i → fitsN t fr j = true) (hf : fitsN t fr i = true) : ∀ j, j < i + 1 → fitsN t fr j = true := fun j hj => by
  rcases Nat.lt_or_ge j i with h' | h'
  · exact h j h'
  · obtain rfl : j = i := by omega
    exact hf

end Go.Proofs.YtkokdafkjjcgoaaGreatDoor
