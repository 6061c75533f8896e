/- Open ifs: the reference, the program. -/
import Derived.Test.YtkokdafkjjcgoaaGreatDoorMg19
namespace Go.Proofs.YtkokdafkjjcgoaaGreatDoor
open Go.RowKit

/-- how open ends -/
def OpenEnd (r : Bool) (w : World) (e : Ending) (w' : World) : Prop := e = .returned (.bool r) ∧ Below w.heap.size w w'
/-- a tree, and where its parts begin, in the world -/
structure WholeAt (w : World) (a b : Option Addr) (t : List Nd) (fr : List Nat) : Prop where
  nds : IsNds w.heap.size w a t
  nats : IsNats w.heap.size w b fr
theorem WholeAt.below {w w' : World} {a b : Option Addr} {t : List Nd} {fr : List Nat} (h : WholeAt w a b t fr) (hb : Below w.heap.size w w') : WholeAt w' a b t fr := ⟨(h.nds.below hb (Nat.le_refl _)).mono hb.size, (h.nats.below hb (Nat.le_refl _)).mono hb.size⟩
/-- what is given of a tree -/
structure Given (t : List Nd) (fr : List Nat) : Prop where
  le : t.length ≤ 4096
  formed : Formed t fr
  well : ∀ (k : Nat) x, t[k]? = some x → wellN x = true
theorem kind_at {w : World} {a b : Option Addr} {t : List Nd} {fr : List Nat} (h : WholeAt w a b t fr) {k : Nat} (hk : k < t.length) : ∃ ba off, a = some ⟨ba, off, none⟩ ∧ ba < w.heap.size ∧ w.cell? ⟨ba, off + k * 6, none⟩ = some (.int .i64 (kindAt t k)) := by
  obtain ⟨ba, off, ha, hbl, x0, _⟩ := nds_at h.nds hk
  refine ⟨ba, off, ha, hbl, ?_⟩
  rw [kindAt_is (List.getElem?_eq_getElem hk)]
  exact x0
theorem getD_mem {L : List Nat} {i : Nat} (h : i < L.length) : L.getD i 0 = L[i] ∧ L[i] ∈ L := by
  rw [List.getD_eq_getElem?_getD, List.getElem?_eq_getElem h]
  exact ⟨rfl, List.getElem_mem h⟩

set_option maxRecDepth 100000 in
set_option maxHeartbeats 8000000 in
theorem open_ok (a : Option Addr) (cap : Nat) (t : List Nd) (b : Option Addr) (capb : Nat) (fr : List Nat) (hG : Given t fr) : ∀ (m k : Nat), k < m → k < t.length → ∀ w, WholeAt w a b t fr →
    Calls Tryz.prog 135 #[.agg #[.slice a t.length cap, .slice b fr.length capb], .int .i64 (k : Int)] w (OpenEnd (openN t fr k) w)
  | 0, k, hm, _, _, _ => by omega
  | m + 1, k, hm, hk, w, hW => by
    have HRec := Lib.hid (open_ok a cap t b capb fr hG m)
    have HPt := Lib.hid (fun w (hW : WholeAt w a b t fr) => tparts_ok a cap t b capb fr w hW.nds hW.nats hG.le hG.formed k hk)
    have HW := Lib.hid hW
    obtain ⟨ba, off, ha, hbl, x0⟩ := kind_at hW hk
    subst ha
    have HLt := Lib.hid (fun p (h : p ∈ partsAt t fr k) => hG.formed.parts_lt h)
    have HFL := Lib.hid hG.formed.len
    have hl := hG.le
    have hpl : (partsAt t fr k).length ≤ 4096 := by rw [partsAt_is (List.getElem?_eq_getElem hk), partsE_length]; have := (hG.formed.node k _ (List.getElem?_eq_getElem hk)).2.1.le; omega
    clear hW
    by_cases h23 : kindAt t k = 23
    · have hop := open_if hG.formed hG.well hk h23
      obtain ⟨hlo, hhi, _⟩ := well_parts (hG.well k _ (List.getElem?_eq_getElem hk))
      rw [← kindAt_is (List.getElem?_eq_getElem hk), h23, show arityN 23 = (2, 3) by decide] at hlo hhi
      have hlen : (partsAt t fr k).length = t[k].n.toNat := by rw [partsAt_is (List.getElem?_eq_getElem hk), partsE_length]
      simp only at hlo hhi
      have hlen2 : 2 ≤ (partsAt t fr k).length ∧ (partsAt t fr k).length ≤ 3 := by omega
      clear hlo hhi hlen
      rw [hop]
      clear hop
      generalize hkd : kindAt t k = kd at *
      have hk := hk
      clear hkd
      subst h23
      generalize partsAt t fr k = P at *
      by_cases h2 : P.length = 2
      · have t2 : ((P.length : Int) == 2) = true := by rw [h2]; rfl
        have hv : (decide (P.length = 2) || (decide (2 < P.length) && openN t fr (P.getD 2 0))) = true := by simp [h2]
        rw [hv]
        clear hv h2
        go_enter Tryz.func135, Tryz.ntmps135
        go_upto_region 1 with fail
        have hxw : (w.alloc (.cells #[.slice (some ⟨ba, off, none⟩) t.length cap, .slice b fr.length capb] 81)).heap[w.heap.size]? = some (.cells #[.slice (some ⟨ba, off, none⟩) t.length cap, .slice b fr.length capb] 81 (0, 0)) := heap_alloc_new _ _
        have hbw : Below w.heap.size w (w.alloc (.cells #[.slice (some ⟨ba, off, none⟩) t.length cap, .slice b fr.length capb] 81)) := ba1 _ _
        generalize w.alloc (.cells #[.slice (some ⟨ba, off, none⟩) t.length cap, .slice b fr.length capb] 81) = w0 at *
        have hzw := lt_of_heap hxw
        obtain ⟨⟨z0, z1⟩, _⟩ := two_block hxw
        have HBW := Lib.hid hbw
        have HW0 := Lib.hid (HW.out.below hbw)
        have v0 := x0
        rw [← hbw.cell hbl] at v0
        have hbl0 := Nat.lt_of_lt_of_le hbl hbw.size
        clear hxw hbw
        go_upto_region 2 with (go_at_call 42; go_loud (with_reducible refine (HPt.out _ HW0.out).mono ?_); rintro e w1 ⟨⟨v, rfl, hrow⟩, hb1⟩; obtain ⟨pa, pc, rfl, _⟩ := hrow.is; have HB1 := Lib.hid (HBW.out.trans (hb1.mono HBW.out.size)); have y0 := v0; rw [← hb1.cell hbl0] at y0; have y1 := z0; have y2 := z1; rw [← hb1.cell hzw] at y1 y2; have hz1 := Nat.lt_of_lt_of_le hzw hb1.size; clear hrow hb1)
        go_upto_region 4 with fail
        have HCl := Lib.hid (show ∀ w', Below w1.heap.size w1 w' → w'.cell? ⟨w.heap.size, 0, none⟩ = some (.slice (some ⟨ba, off, none⟩) t.length cap) ∧ w'.cell? ⟨w.heap.size, 1, none⟩ = some (.slice b fr.length capb) from fun w' hb => ⟨by rw [hb.cell hz1]; exact y1, by rw [hb.cell hz1]; exact y2⟩)
        go_quiet (fail)
        go_wp2_with fail
        go_ret
        exact ⟨rfl, blw_drewN HB1.out _⟩
      · have h3 : 2 < P.length := by omega
        have t2 : ((P.length : Int) == 2) = false := by simp; omega
        have hv : (decide (P.length = 2) || (decide (2 < P.length) && openN t fr (P.getD 2 0))) = openN t fr (P.getD 2 0) := by simp [h2, h3]
        rw [hv, (getD_mem h3).1]
        have hlt := HLt.out _ (getD_mem h3).2
        obtain ⟨q, hq⟩ : ∃ q, q = P[2] := ⟨_, rfl⟩
        rw [← hq] at hlt ⊢
        have HQ := Lib.hid hq
        clear hq
        clear hv
        go_enter Tryz.func135, Tryz.ntmps135
        go_upto_region 1 with fail
        have hxw : (w.alloc (.cells #[.slice (some ⟨ba, off, none⟩) t.length cap, .slice b fr.length capb] 81)).heap[w.heap.size]? = some (.cells #[.slice (some ⟨ba, off, none⟩) t.length cap, .slice b fr.length capb] 81 (0, 0)) := heap_alloc_new _ _
        have hbw : Below w.heap.size w (w.alloc (.cells #[.slice (some ⟨ba, off, none⟩) t.length cap, .slice b fr.length capb] 81)) := ba1 _ _
        generalize w.alloc (.cells #[.slice (some ⟨ba, off, none⟩) t.length cap, .slice b fr.length capb] 81) = w0 at *
        have hzw := lt_of_heap hxw
        obtain ⟨⟨z0, z1⟩, _⟩ := two_block hxw
        have HBW := Lib.hid hbw
        have HW0 := Lib.hid (HW.out.below hbw)
        have v0 := x0
        rw [← hbw.cell hbl] at v0
        have hbl0 := Nat.lt_of_lt_of_le hbl hbw.size
        clear hxw hbw
        go_upto_region 2 with (go_at_call 42; go_loud (with_reducible refine (HPt.out _ HW0.out).mono ?_); rintro e w1 ⟨⟨v, rfl, hrow⟩, hb1⟩; obtain ⟨pa, pc, rfl, hP, _⟩ := hrow.is; obtain ⟨pb, po, hpa, hpb, c2⟩ := nats_at hP h3; rw [← HQ.out] at c2; have HB1 := Lib.hid (HBW.out.trans (hb1.mono HBW.out.size)); have y0 := v0; rw [← hb1.cell hbl0] at y0; have y1 := z0; have y2 := z1; rw [← hb1.cell hzw] at y1 y2; have hz1 := Nat.lt_of_lt_of_le hzw hb1.size; clear hrow hb1 hP)
        subst hpa
        have HIH := Lib.hid (fun w' (hb : Below w1.heap.size w1 w') => HRec.out q (by omega) (by omega) w' (HW.out.below (HB1.out.trans (hb.mono HB1.out.size))))
        have h3i : (2 : Int) < (P.length : Int) := by omega
        go_upto_region 4 with fail
        have HCl := Lib.hid (show ∀ w', Below w1.heap.size w1 w' → w'.cell? ⟨w.heap.size, 0, none⟩ = some (.slice (some ⟨ba, off, none⟩) t.length cap) ∧ w'.cell? ⟨w.heap.size, 1, none⟩ = some (.slice b fr.length capb) ∧ w'.cell? ⟨pb, po + 2, none⟩ = some (.int .i64 (q : Int)) from fun w' hb => ⟨by rw [hb.cell hz1]; exact y1, by rw [hb.cell hz1]; exact y2, by rw [hb.cell hpb]; exact c2⟩)
        go_region_held3 (fun w' => w'.cell? ⟨w.heap.size, 0, none⟩ = some (.slice (some ⟨ba, off, none⟩) t.length cap) ∧ w'.cell? ⟨w.heap.size, 1, none⟩ = some (.slice b fr.length capb) ∧ w'.cell? ⟨pb, po + 2, none⟩ = some (.int .i64 (q : Int))) (first | (refine ⟨?_, ?_, ?_⟩ <;> assumption) | exact HCl.out _ ((Below.refl _ _).drew) | exact HCl.out _ HB9.out) ((go_at_call 135; (with_reducible refine (HIH.out _ (Below.refl _ _).drew).mono ?_); rintro e w2 ⟨rfl, hb2⟩; have HB9 := Lib.hid (((Below.refl w1.heap.size w1).drew).trans (hb2.mono (Nat.le_refl _))); have HB2 := Lib.hid (HB1.out.trans (HB9.out.mono HB1.out.size)); obtain ⟨u1, u2, u3⟩ := HCl.out _ HB9.out; clear hb2))
        go_wp2_with fail
        go_ret
        exact ⟨rfl, HB2.out⟩
    · by_cases h5 : kindAt t k = 24 ∨ kindAt t k = 26 ∨ kindAt t k = 27 ∨ kindAt t k = 28 ∨ kindAt t k = 29
      · obtain ⟨h0, hop⟩ := open_last hG.formed hG.well hk h5
        rw [hop]
        clear hop
        generalize hkd : kindAt t k = kd at *
        clear hkd h23
        generalize partsAt t fr k = P at *
        obtain ⟨j, hj⟩ : ∃ j, j = P.length - 1 := ⟨_, rfl⟩
        rw [← hj]
        have hjl : j < P.length := by omega
        have hgm := getD_mem hjl
        have hlt := HLt.out _ hgm.2
        rw [← hgm.1] at hlt
        obtain ⟨q, hq⟩ : ∃ q, q = P.getD j 0 := ⟨_, rfl⟩
        rw [← hq] at hlt ⊢
        have HQ := Lib.hid (hq.trans hgm.1)
        have hj4 : (j : Int) ≤ 4096 := by omega
        have hj5 : (j : Int) < (P.length : Int) := by omega
        have hj6 : (P.length : Int) - 1 = (j : Int) := by omega
        have hj7 : (0 : Int) ≤ (j : Int) := by omega
        have hj8 : Go.RowKit.wrap64 (j : Int) = (j : Int) := by unfold Go.RowKit.wrap64; omega
        have hj9 : Go.RowKit.wrap64 ((P.length : Int) - 1) = (j : Int) := by rw [hj6]; exact hj8
        have hj10 : IntKind.i64.wrap ((P.length : Int) - 1) = (j : Int) := by rw [IntWalk.i64_left]; exact hj9
        have hj11 : IntKind.i64.wrap (j : Int) = (j : Int) := by rw [IntWalk.i64_left]; exact hj8
        have hj12 : (j : Int) ≤ (P.length : Int) := by omega
        clear hj hgm hq
        rcases h5 with rfl | rfl | rfl | rfl | rfl
        all_goals
          go_enter Tryz.func135, Tryz.ntmps135
          go_upto_region 1 with fail
          have hxw : (w.alloc (.cells #[.slice (some ⟨ba, off, none⟩) t.length cap, .slice b fr.length capb] 81)).heap[w.heap.size]? = some (.cells #[.slice (some ⟨ba, off, none⟩) t.length cap, .slice b fr.length capb] 81 (0, 0)) := heap_alloc_new _ _
          have hbw : Below w.heap.size w (w.alloc (.cells #[.slice (some ⟨ba, off, none⟩) t.length cap, .slice b fr.length capb] 81)) := ba1 _ _
          generalize w.alloc (.cells #[.slice (some ⟨ba, off, none⟩) t.length cap, .slice b fr.length capb] 81) = w0 at *
          have hzw := lt_of_heap hxw
          obtain ⟨⟨z0, z1⟩, _⟩ := two_block hxw
          have HBW := Lib.hid hbw
          have HW0 := Lib.hid (HW.out.below hbw)
          have v0 := x0
          rw [← hbw.cell hbl] at v0
          have hbl0 := Nat.lt_of_lt_of_le hbl hbw.size
          clear hxw hbw
          go_upto_region 2 with (go_at_call 42; go_loud (with_reducible refine (HPt.out _ HW0.out).mono ?_); rintro e w1 ⟨⟨v, rfl, hrow⟩, hb1⟩; obtain ⟨pa, pc, rfl, hP, _⟩ := hrow.is; obtain ⟨pb, po, hpa, hpb, c2⟩ := nats_at hP hjl; rw [← HQ.out] at c2; have HB1 := Lib.hid (HBW.out.trans (hb1.mono HBW.out.size)); have y0 := v0; rw [← hb1.cell hbl0] at y0; have y1 := z0; have y2 := z1; rw [← hb1.cell hzw] at y1 y2; have hz1 := Nat.lt_of_lt_of_le hzw hb1.size; clear hrow hb1 hP)
          subst hpa
          have HIH := Lib.hid (fun w' (hb : Below w1.heap.size w1 w') => HRec.out q (by omega) (by omega) w' (HW.out.below (HB1.out.trans (hb.mono HB1.out.size))))
          go_upto_region 10 with fail
          have HCl := Lib.hid (show ∀ w', Below w1.heap.size w1 w' → w'.cell? ⟨w.heap.size, 0, none⟩ = some (.slice (some ⟨ba, off, none⟩) t.length cap) ∧ w'.cell? ⟨w.heap.size, 1, none⟩ = some (.slice b fr.length capb) ∧ w'.cell? ⟨pb, po + j, none⟩ = some (.int .i64 (q : Int)) from fun w' hb => ⟨by rw [hb.cell hz1]; exact y1, by rw [hb.cell hz1]; exact y2, by rw [hb.cell hpb]; exact c2⟩)
          go_region_held3 (fun w' => w'.cell? ⟨w.heap.size, 0, none⟩ = some (.slice (some ⟨ba, off, none⟩) t.length cap) ∧ w'.cell? ⟨w.heap.size, 1, none⟩ = some (.slice b fr.length capb) ∧ w'.cell? ⟨pb, po + j, none⟩ = some (.int .i64 (q : Int))) (first | (refine ⟨?_, ?_, ?_⟩ <;> assumption) | exact HCl.out _ ((Below.refl _ _).drew) | exact HCl.out _ HB9.out) ((go_at_call 135; (with_reducible refine (HIH.out _ (Below.refl _ _).drew).mono ?_); rintro e w2 ⟨rfl, hb2⟩; have HB9 := Lib.hid (((Below.refl w1.heap.size w1).drew).trans (hb2.mono (Nat.le_refl _))); have HB2 := Lib.hid (HB1.out.trans (HB9.out.mono HB1.out.size)); obtain ⟨u1, u2, u3⟩ := HCl.out _ HB9.out; clear hb2))
          go_wp2_with fail
          go_ret
          exact ⟨rfl, HB2.out⟩
      · rw [open_no (by omega)]
        generalize kindAt t k = kd at *
        have g23 : (kd == 23) = false := by simp; omega
        have g24 : (kd == 24) = false := by simp; omega
        have g26 : (kd == 26) = false := by simp; omega
        have g27 : (kd == 27) = false := by simp; omega
        have g28 : (kd == 28) = false := by simp; omega
        have g29 : (kd == 29) = false := by simp; omega
        clear h23 h5
        go_enter Tryz.func135, Tryz.ntmps135
        go_upto_region 1 with fail
        have hxw : (w.alloc (.cells #[.slice (some ⟨ba, off, none⟩) t.length cap, .slice b fr.length capb] 81)).heap[w.heap.size]? = some (.cells #[.slice (some ⟨ba, off, none⟩) t.length cap, .slice b fr.length capb] 81 (0, 0)) := heap_alloc_new _ _
        have hbw : Below w.heap.size w (w.alloc (.cells #[.slice (some ⟨ba, off, none⟩) t.length cap, .slice b fr.length capb] 81)) := ba1 _ _
        generalize w.alloc (.cells #[.slice (some ⟨ba, off, none⟩) t.length cap, .slice b fr.length capb] 81) = w0 at *
        have hzw := lt_of_heap hxw
        obtain ⟨⟨z0, z1⟩, _⟩ := two_block hxw
        have HBW := Lib.hid hbw
        have HW0 := Lib.hid (HW.out.below hbw)
        have v0 := x0
        rw [← hbw.cell hbl] at v0
        have hbl0 := Nat.lt_of_lt_of_le hbl hbw.size
        clear hxw hbw
        go_upto_region 2 with (go_at_call 42; go_loud (with_reducible refine (HPt.out _ HW0.out).mono ?_); rintro e w1 ⟨⟨v, rfl, hrow⟩, hb1⟩; obtain ⟨pa, pc, rfl, _⟩ := hrow.is; have HB1 := Lib.hid (HBW.out.trans (hb1.mono HBW.out.size)); have y0 := v0; rw [← hb1.cell hbl0] at y0; have y1 := z0; have y2 := z1; rw [← hb1.cell hzw] at y1 y2; have hz1 := Nat.lt_of_lt_of_le hzw hb1.size; clear hrow hb1)
        go_wp2_with fail
        go_ret
        exact ⟨rfl, HB1.out⟩
end Go.Proofs.YtkokdafkjjcgoaaGreatDoor

