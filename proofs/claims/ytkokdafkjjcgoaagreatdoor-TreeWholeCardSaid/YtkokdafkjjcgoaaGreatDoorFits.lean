/- Whether a node's parts fit: the program. -/
import Derived.Test.YtkokdafkjjcgoaaGreatDoorOpen
import Derived.Test.YtkokdafkjjcgoaaGreatDoorFitsP
namespace Go.Proofs.YtkokdafkjjcgoaaGreatDoor
open Go.RowKit

theorem parts_num {t : List Nd} {fr : List Nat} (hG : Given t fr) {k n : Nat} (hk : k < t.length) {c : Int} (h : kindAt t k = c) (ha : arityN c = ((n : Int), (n : Int))) : (partsAt t fr k).length = n := by
  obtain ⟨hlo, hhi, _⟩ := well_parts (hG.well k _ (List.getElem?_eq_getElem hk))
  rw [← kindAt_is (List.getElem?_eq_getElem hk), h, ha] at hlo hhi
  rw [partsAt_is (List.getElem?_eq_getElem hk), partsE_length]
  simp only at hlo hhi
  omega
theorem parts_two {t : List Nd} {fr : List Nat} (hG : Given t fr) {k : Nat} (hk : k < t.length) (h : kindAt t k = 23) : 2 ≤ (partsAt t fr k).length ∧ (partsAt t fr k).length ≤ 3 := by
  obtain ⟨hlo, hhi, _⟩ := well_parts (hG.well k _ (List.getElem?_eq_getElem hk))
  rw [← kindAt_is (List.getElem?_eq_getElem hk), h, show arityN 23 = (2, 3) by decide] at hlo hhi
  rw [partsAt_is (List.getElem?_eq_getElem hk), partsE_length]
  simp only at hlo hhi
  omega

set_option maxRecDepth 100000 in
set_option maxHeartbeats 8000000 in
theorem fits_ok (a : Option Addr) (cap : Nat) (t : List Nd) (b : Option Addr) (capb : Nat) (fr : List Nat) (hG : Given t fr) (k : Nat) (hk : k < t.length) (w : World) (hW : WholeAt w a b t fr) :
    Calls Tryz.prog 84 #[.agg #[.slice a t.length cap, .slice b fr.length capb], .int .i64 (k : Int)] w (OpenEnd (fitsN t fr k) w) := by
  have HPt := Lib.hid (fun w (hW : WholeAt w a b t fr) => tparts_ok a cap t b capb fr w hW.nds hW.nats hG.le hG.formed k hk)
  have HW := Lib.hid hW
  have HOp := Lib.hid (fun p (hp : p < t.length) w hW => open_ok a cap t b capb fr hG (p + 1) p (Nat.lt_succ_self p) hp w hW)
  obtain ⟨ba, off, ha, hbl, x0⟩ := kind_at hW hk
  subst ha
  have HLt := Lib.hid (fun p (h : p ∈ partsAt t fr k) => hG.formed.parts_lt h)
  have hl := hG.le
  have hpl : (partsAt t fr k).length ≤ 4096 := by rw [partsAt_is (List.getElem?_eq_getElem hk), partsE_length]; have := (hG.formed.node k _ (List.getElem?_eq_getElem hk)).2.1.le; omega
  have H25 := Lib.hid (show kindAt t k = 25 → (partsAt t fr k).length = 2 from fun h => parts_num hG hk h (by decide))
  have H23 := Lib.hid (show kindAt t k = 23 → 2 ≤ (partsAt t fr k).length ∧ (partsAt t fr k).length ≤ 3 from fun h => parts_two hG hk h)
  have hfit := Lib.hid (show fitsN t fr k = (mayAll t (kindAt t k) 0 (partsAt t fr k) && (decide (kindAt t k ≠ 23) || (decide ((partsAt t fr k).length < 3) || !openN t fr ((partsAt t fr k).getD 1 0)))) from rfl)
  generalize fitsN t fr k = fit at *
  generalize hkd : kindAt t k = kd at *
  have HKd := Lib.hid hkd
  clear hW hkd
  generalize partsAt t fr k = P at *
  go_enter Tryz.func84, Tryz.ntmps84
  go_upto_region 1 with fail
  have hxw : (w.alloc (.cells #[.slice (some ⟨ba, off, none⟩) t.length cap, .slice b fr.length capb] 81)).heap[w.heap.size]? = some (.cells #[.slice (some ⟨ba, off, none⟩) t.length cap, .slice b fr.length capb] 81 (0, 0)) := heap_alloc_new _ _
  have hbw : Below w.heap.size w (w.alloc (.cells #[.slice (some ⟨ba, off, none⟩) t.length cap, .slice b fr.length capb] 81)) := ba1 _ _
  generalize w.alloc (.cells #[.slice (some ⟨ba, off, none⟩) t.length cap, .slice b fr.length capb] 81) = w0 at *
  have hzw := lt_of_heap hxw
  obtain ⟨⟨z0, z1⟩, _⟩ := two_block hxw
  have HBW := Lib.hid hbw
  have HW0 := Lib.hid (HW.out.below hbw)
  have v0 := x0
  rw [← hbw.cell hbl] at v0
  have hbl0 := Nat.lt_of_lt_of_le hbl hbw.size
  clear hxw hbw
  go_upto_region 2 with (go_at_call 42; (with_reducible refine (HPt.out _ HW0.out).mono ?_); rintro e w1 ⟨⟨v, rfl, hrow⟩, hb1⟩; obtain ⟨pa, pc, rfl, hP, _⟩ := hrow.is; have HP := Lib.hid hP; have HB1 := Lib.hid (HBW.out.trans (hb1.mono HBW.out.size)); have y0 := v0; rw [← hb1.cell hbl0] at y0; have y1 := z0; have y2 := z1; rw [← hb1.cell hzw] at y1 y2; have hz1 := Nat.lt_of_lt_of_le hzw hb1.size; clear hrow hb1 hP)
  go_wp2_with fail
  go_loopg [13] P.length (fun m v13 wy => ∃ i : Nat, i ≤ P.length ∧ i + m = P.length ∧ v13 = .int .i64 (i : Int) ∧ Hid (∀ (j p : Nat), j < i → P[j]? = some p → mayN kd j (kindAt t p) = true) ∧ Hid (Below w1.heap.size w1 wy))
  case atStart => exact ⟨0, by omega, by omega, rfl, fun j p h => by omega, Below.refl _ _⟩
  case round =>
    obtain ⟨i, hi, him, rfl, HY, HB⟩ := hrel
    by_cases hlt : i < P.length
    · have hplt := HLt.out _ (List.getElem_mem hlt)
      obtain ⟨pb, po, hpa, hpb, c2⟩ := nats_at HP.out hlt
      subst hpa
      obtain ⟨q, hq⟩ : ∃ q, q = P[i] := ⟨_, rfl⟩
      rw [← hq] at hplt c2
      have HQ := Lib.hid hq
      clear hq
      obtain ⟨ba2, off2, hba, _, x2⟩ := kind_at HW.out (show q < t.length by omega)
      obtain ⟨rfl, rfl⟩ : ba2 = ba ∧ off2 = off := by simpa using hba.symm
      clear hba
      rw [← (HB1.out.trans (HB.out.mono HB1.out.size)).cell hbl] at x2
      rw [← HB.out.cell (Nat.lt_of_lt_of_le hbl HB1.out.size)] at y0
      rw [← HB.out.cell hz1] at y1 y2
      rw [← HB.out.cell hpb] at c2
      have HM := Lib.hid (fun w => may_ok kd (kindAt t q) i w (fun h => by have := H25.out h; omega))
      rcases hm : mayN kd i (kindAt t q) with _ | _
      · have hv := Lib.hid (show fit = false by rw [hfit.out, mayAll_no (j := i) (p := q) (by rw [List.getElem?_eq_getElem hlt, HQ.out]) (by rw [Nat.zero_add]; exact hm)]; rfl)
        rw [hm] at HM
        clear hm
        generalize kindAt t q = kq at *
        go_upto_region 5 with fail
        go_quiet ((go_at_call 134; exact Calls.quiet_of_same (HM.out _)))
        go_wp2_with fail
        go_ret
        rw [hv.out]
        exact ⟨rfl, blw_drewN (HB1.out.trans (HB.out.mono HB1.out.size)) _⟩
      · have HY2 := Lib.hid (show ∀ (j p : Nat), j < i + 1 → P[j]? = some p → mayN kd j (kindAt t p) = true from fun j p hj hp => by
          rcases Nat.lt_or_ge j i with h' | h'
          · exact HY.out j p h' hp
          · obtain rfl : j = i := by omega
            rw [List.getElem?_eq_getElem hlt, ← HQ.out] at hp
            obtain rfl := Option.some.inj hp
            exact hm)
        rw [hm] at HM
        clear hm HY
        generalize kindAt t q = kq at *
        go_upto_region 5 with fail
        go_quiet ((go_at_call 134; exact Calls.quiet_of_same (HM.out _)))
        go_wp2_with fail
        go_roundg (P.length - (i + 1))
        case measure => omega
        case rel => exact ⟨i + 1, by omega, by omega, by rw [Int.natCast_add]; rfl, HY2, Lib.hid (blw_drewN HB.out _)⟩
    · obtain rfl : i = P.length := by omega
      have hall := Lib.hid (show mayAll t kd 0 P = true from mayAll_yes fun j p hp => by rw [Nat.zero_add]; exact HY.out j p (List.getElem?_eq_some_iff.1 hp).1 hp)
      clear HY
      rw [← HB.out.cell (Nat.lt_of_lt_of_le hbl HB1.out.size)] at y0
      rw [← HB.out.cell hz1] at y1 y2
      by_cases h23 : kd = 23
      · have g23 : (kd == 23) = true := by rw [h23]; rfl
        have g23n : (kd != 23) = false := by rw [h23]; rfl
        have hP := H23.out h23
        by_cases h3 : P.length = 2
        · have t2 : decide ((P.length : Int) < 3) = true := by simp; omega
          have hv := Lib.hid (show fit = true by rw [hfit.out, hall.out]; simp [h3])
          go_upto_region 8 with fail
          go_quiet (fail)
          go_wp2_with fail
          go_ret
          rw [hv.out]
          exact ⟨rfl, blw_drewN (HB1.out.trans (HB.out.mono HB1.out.size)) _⟩
        · have h3 : P.length = 3 := by omega
          have t2 : decide ((P.length : Int) < 3) = false := by simp; omega
          have hP1 : 1 < P.length := by omega
          have hplt := HLt.out _ (List.getElem_mem hP1)
          obtain ⟨pb, po, hpa, hpb, c2⟩ := nats_at HP.out hP1
          subst hpa
          have hv := Lib.hid (show fit = !openN t fr P[1] by rw [hfit.out, hall.out, (getD_mem hP1).1]; simp [h23, h3])
          obtain ⟨q, hq⟩ : ∃ q, q = P[1] := ⟨_, rfl⟩
          rw [← hq] at hplt c2 hv
          clear hq h23 hall
          rw [← HB.out.cell hpb] at c2
          have HBr := Lib.hid (HB1.out.trans (HB.out.mono HB1.out.size))
          have hz2 := Nat.lt_of_lt_of_le hz1 HB.out.size
          have hpb2 := Nat.lt_of_lt_of_le hpb HB.out.size
          have hbar := Nat.lt_of_lt_of_le hbl HBr.out.size
          have HIH := Lib.hid (fun w' (hb : Below wr.heap.size wr w') => HOp.out q (by omega) w' (HW.out.below (HBr.out.trans (hb.mono HBr.out.size))))
          go_upto_region 8 with fail
          have HCl := Lib.hid (show ∀ w', Below wr.heap.size wr w' → w'.cell? ⟨w.heap.size, 0, none⟩ = some (.slice (some ⟨ba, off, none⟩) t.length cap) ∧ w'.cell? ⟨w.heap.size, 1, none⟩ = some (.slice b fr.length capb) ∧ w'.cell? ⟨pb, po + 1, none⟩ = some (.int .i64 (q : Int)) ∧ w'.cell? ⟨ba, off + k * 6, none⟩ = some (.int .i64 kd) from fun w' hb => ⟨by rw [hb.cell hz2]; exact y1, by rw [hb.cell hz2]; exact y2, by rw [hb.cell hpb2]; exact c2, by rw [hb.cell hbar]; exact y0⟩)
          go_region_held3 (fun w' => w'.cell? ⟨w.heap.size, 0, none⟩ = some (.slice (some ⟨ba, off, none⟩) t.length cap) ∧ w'.cell? ⟨w.heap.size, 1, none⟩ = some (.slice b fr.length capb) ∧ w'.cell? ⟨pb, po + 1, none⟩ = some (.int .i64 (q : Int)) ∧ w'.cell? ⟨ba, off + k * 6, none⟩ = some (.int .i64 kd)) (first | (refine ⟨?_, ?_, ?_, ?_⟩ <;> assumption) | exact HCl.out _ ((Below.refl _ _).drew) | exact HCl.out _ HB9.out) ((go_at_call 135; (with_reducible refine (HIH.out _ (Below.refl _ _).drew).mono ?_); rintro e w2 ⟨rfl, hb2⟩; have HB9 := Lib.hid (((Below.refl wr.heap.size wr).drew).trans (hb2.mono (Nat.le_refl _))); have HB2 := Lib.hid (HBr.out.trans (HB9.out.mono HBr.out.size)); obtain ⟨u1, u2, u3, u4⟩ := HCl.out _ HB9.out; clear hb2))
          go_wp2_with fail
          go_ret
          rw [hv.out]
          exact ⟨by simp, HB2.out⟩
      · have g23 : (kd == 23) = false := by simpa using h23
        have g23n : (kd != 23) = true := by rw [bne, g23]; rfl
        have hv := Lib.hid (show fit = true by rw [hfit.out, hall.out]; simp [h23])
        go_upto_region 8 with fail
        go_quiet (fail)
        go_wp2_with fail
        go_ret
        rw [hv.out]
        exact ⟨rfl, blw_drewN (HB1.out.trans (HB.out.mono HB1.out.size)) _⟩
end Go.Proofs.YtkokdafkjjcgoaaGreatDoor

