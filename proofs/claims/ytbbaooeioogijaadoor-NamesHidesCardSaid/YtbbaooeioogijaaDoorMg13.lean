/- Whether a node's parts fit: the program. · How many parts a kind has: both texts. · The reference: what is wrong with structs; with a type, and structs. · What is wrong with structs; with a type, and structs: the program, and the reference. -/
import Derived.Test.YtbbaooeioogijaaDoorMg12
import Derived.Test.YtbbaooeioogijaaDoorMg6
import Derived.Test.YtbbaooeioogijaaDoorChecked
import Derived.Test.YtbbaooeioogijaaDoorMg1
import Derived.Test.YtbbaooeioogijaaDoorMg10
import Derived.Deep.RegionHeld3
import Derived.Deep.AppendLies
namespace Go.Proofs.YtbbaooeioogijaaDoor
open Go.RowKit

theorem parts_num {t : List Nd} {fr : List Nat} (hG : Given t fr) {k n : Nat} (hk : k < t.length) {c : Int} (h : kindAt t k = c) (ha : arityN c = ((n : Int), (n : Int))) : (partsAt t fr k).length = n := by
  obtain ⟨hlo, hhi, _⟩ := well_parts (hG.well k _ (List.getElem?_eq_getElem hk))
  rw [← kindAt_is (List.getElem?_eq_getElem hk), h, ha] at hlo hhi
  rw [partsAt_is (List.getElem?_eq_getElem hk), partsE_length]
  simp only at hlo hhi
  omega
theorem parts_two {t : List Nd} {fr : List Nat} (hG : Given t fr) {k : Nat} (hk : k < t.length) (h : kindAt t k = 23) : 2 ≤ (partsAt t fr k).length ∧ (partsAt t fr k).length ≤ 3 := by
  obtain ⟨hlo, hhi, _⟩ := well_parts (hG.well k _ (List.getElem?_eq_getElem hk))
  rw [← kindAt_is (List.getElem?_eq_getElem hk), h, show arityN 23 = (2, 3) by decide] at hlo hhi
  rw [partsAt_is (List.getElem?_eq_getElem hk), partsE_length]
  simp only at hlo hhi
  omega

set_option maxRecDepth 100000 in
set_option maxHeartbeats 8000000 in
theorem fits_ok (a : Option Addr) (cap : Nat) (t : List Nd) (b : Option Addr) (capb : Nat) (fr : List Nat) (hG : Given t fr) (k : Nat) (hk : k < t.length) (w : World) (hW : WholeAt w a b t fr) :
    Calls Tryd.prog 48 #[.agg #[.slice a t.length cap, .slice b fr.length capb], .int .i64 (k : Int)] w (OpenEnd (fitsN t fr k) w) := by
  have HPt := Lib.hid (fun w (hW : WholeAt w a b t fr) => tparts_ok a cap t b capb fr w hW.nds hW.nats hG.le hG.formed k hk)
  have HW := Lib.hid hW
  have HOp := Lib.hid (fun p (hp : p < t.length) w hW => open_ok a cap t b capb fr hG (p + 1) p (Nat.lt_succ_self p) hp w hW)
  obtain ⟨ba, off, ha, hbl, x0⟩ := kind_at hW hk
  subst ha
  have HLt := Lib.hid (fun p (h : p ∈ partsAt t fr k) => hG.formed.parts_lt h)
  have hl := hG.le
  have hpl : (partsAt t fr k).length ≤ 4096 := by rw [partsAt_is (List.getElem?_eq_getElem hk), partsE_length]; have := (hG.formed.node k _ (List.getElem?_eq_getElem hk)).2.1.le; omega
  have H25 := Lib.hid (show kindAt t k = 25 → (partsAt t fr k).length = 2 from fun h => parts_num hG hk h (by decide))
  have H23 := Lib.hid (show kindAt t k = 23 → 2 ≤ (partsAt t fr k).length ∧ (partsAt t fr k).length ≤ 3 from fun h => parts_two hG hk h)
  have hfit := Lib.hid (show fitsN t fr k = (mayAll t (kindAt t k) 0 (partsAt t fr k) && (decide (kindAt t k ≠ 23) || (decide ((partsAt t fr k).length < 3) || !openN t fr ((partsAt t fr k).getD 1 0)))) from rfl)
  generalize fitsN t fr k = fit at *
  generalize hkd : kindAt t k = kd at *
  have HKd := Lib.hid hkd
  clear hW hkd
  generalize partsAt t fr k = P at *
  go_enter Tryd.func48, Tryd.ntmps48
  go_upto_region 1 with fail
  have hxw : (w.alloc (.cells #[.slice (some ⟨ba, off, none⟩) t.length cap, .slice b fr.length capb] 105)).heap[w.heap.size]? = some (.cells #[.slice (some ⟨ba, off, none⟩) t.length cap, .slice b fr.length capb] 105 (0, 0)) := heap_alloc_new _ _
  have hbw : Below w.heap.size w (w.alloc (.cells #[.slice (some ⟨ba, off, none⟩) t.length cap, .slice b fr.length capb] 105)) := ba1 _ _
  generalize w.alloc (.cells #[.slice (some ⟨ba, off, none⟩) t.length cap, .slice b fr.length capb] 105) = w0 at *
  have hzw := lt_of_heap hxw
  obtain ⟨⟨z0, z1⟩, _⟩ := two_block hxw
  have HBW := Lib.hid hbw
  have HW0 := Lib.hid (HW.out.below hbw)
  have v0 := x0
  rw [← hbw.cell hbl] at v0
  have hbl0 := Nat.lt_of_lt_of_le hbl hbw.size
  clear hxw hbw
  go_upto_region 2 with (go_at_call 50; (with_reducible refine (HPt.out _ HW0.out).mono ?_); rintro e w1 ⟨⟨v, rfl, hrow⟩, hb1⟩; obtain ⟨pa, pc, rfl, hP, _⟩ := hrow.is; have HP := Lib.hid hP; have HB1 := Lib.hid (HBW.out.trans (hb1.mono HBW.out.size)); have y0 := v0; rw [← hb1.cell hbl0] at y0; have y1 := z0; have y2 := z1; rw [← hb1.cell hzw] at y1 y2; have hz1 := Nat.lt_of_lt_of_le hzw hb1.size; clear hrow hb1 hP)
  go_wp2_with fail
  go_loopg [13] P.length (fun m v13 wy => ∃ i : Nat, i ≤ P.length ∧ i + m = P.length ∧ v13 = .int .i64 (i : Int) ∧ Hid (∀ (j p : Nat), j < i → P[j]? = some p → mayN kd j (kindAt t p) = true) ∧ Hid (Below w1.heap.size w1 wy))
  case atStart => exact ⟨0, by omega, by omega, rfl, fun j p h => by omega, Below.refl _ _⟩
  case round =>
    obtain ⟨i, hi, him, rfl, HY, HB⟩ := hrel
    by_cases hlt : i < P.length
    · have hplt := HLt.out _ (List.getElem_mem hlt)
      obtain ⟨pb, po, hpa, hpb, c2⟩ := nats_at HP.out hlt
      subst hpa
      obtain ⟨q, hq⟩ : ∃ q, q = P[i] := ⟨_, rfl⟩
      rw [← hq] at hplt c2
      have HQ := Lib.hid hq
      clear hq
      obtain ⟨ba2, off2, hba, _, x2⟩ := kind_at HW.out (show q < t.length by omega)
      obtain ⟨rfl, rfl⟩ : ba2 = ba ∧ off2 = off := by simpa using hba.symm
      clear hba
      rw [← (HB1.out.trans (HB.out.mono HB1.out.size)).cell hbl] at x2
      rw [← HB.out.cell (Nat.lt_of_lt_of_le hbl HB1.out.size)] at y0
      rw [← HB.out.cell hz1] at y1 y2
      rw [← HB.out.cell hpb] at c2
      have HM := Lib.hid (fun w => may_ok kd (kindAt t q) i w (fun h => by have := H25.out h; omega))
      rcases hm : mayN kd i (kindAt t q) with _ | _
      · have hv := Lib.hid (show fit = false by rw [hfit.out, mayAll_no (j := i) (p := q) (by rw [List.getElem?_eq_getElem hlt, HQ.out]) (by rw [Nat.zero_add]; exact hm)]; rfl)
        rw [hm] at HM
        clear hm
        generalize kindAt t q = kq at *
        go_upto_region 5 with fail
        go_quiet ((go_at_call 64; exact Calls.quiet_of_same (HM.out _)))
        go_wp2_with fail
        go_ret
        rw [hv.out]
        exact ⟨rfl, blw_drewN (HB1.out.trans (HB.out.mono HB1.out.size)) _⟩
      · have HY2 := Lib.hid (show ∀ (j p : Nat), j < i + 1 → P[j]? = some p → mayN kd j (kindAt t p) = true from fun j p hj hp => by
          rcases Nat.lt_or_ge j i with h' | h'
          · exact HY.out j p h' hp
          · obtain rfl : j = i := by omega
            rw [List.getElem?_eq_getElem hlt, ← HQ.out] at hp
            obtain rfl := Option.some.inj hp
            exact hm)
        rw [hm] at HM
        clear hm HY
        generalize kindAt t q = kq at *
        go_upto_region 5 with fail
        go_quiet ((go_at_call 64; exact Calls.quiet_of_same (HM.out _)))
        go_wp2_with fail
        go_roundg (P.length - (i + 1))
        case measure => omega
        case rel => exact ⟨i + 1, by omega, by omega, by rw [Int.natCast_add]; rfl, HY2, Lib.hid (blw_drewN HB.out _)⟩
    · obtain rfl : i = P.length := by omega
      have hall := Lib.hid (show mayAll t kd 0 P = true from mayAll_yes fun j p hp => by rw [Nat.zero_add]; exact HY.out j p (List.getElem?_eq_some_iff.1 hp).1 hp)
      clear HY
      rw [← HB.out.cell (Nat.lt_of_lt_of_le hbl HB1.out.size)] at y0
      rw [← HB.out.cell hz1] at y1 y2
      by_cases h23 : kd = 23
      · have g23 : (kd == 23) = true := by rw [h23]; rfl
        have g23n : (kd != 23) = false := by rw [h23]; rfl
        have hP := H23.out h23
        by_cases h3 : P.length = 2
        · have t2 : decide ((P.length : Int) < 3) = true := by simp; omega
          have hv := Lib.hid (show fit = true by rw [hfit.out, hall.out]; simp [h3])
          go_upto_region 8 with fail
          go_quiet (fail)
          go_wp2_with fail
          go_ret
          rw [hv.out]
          exact ⟨rfl, blw_drewN (HB1.out.trans (HB.out.mono HB1.out.size)) _⟩
        · have h3 : P.length = 3 := by omega
          have t2 : decide ((P.length : Int) < 3) = false := by simp; omega
          have hP1 : 1 < P.length := by omega
          have hplt := HLt.out _ (List.getElem_mem hP1)
          obtain ⟨pb, po, hpa, hpb, c2⟩ := nats_at HP.out hP1
          subst hpa
          have hv := Lib.hid (show fit = !openN t fr P[1] by rw [hfit.out, hall.out, (getD_mem hP1).1]; simp [h23, h3])
          obtain ⟨q, hq⟩ : ∃ q, q = P[1] := ⟨_, rfl⟩
          rw [← hq] at hplt c2 hv
          clear hq h23 hall
          rw [← HB.out.cell hpb] at c2
          have HBr := Lib.hid (HB1.out.trans (HB.out.mono HB1.out.size))
          have hz2 := Nat.lt_of_lt_of_le hz1 HB.out.size
          have hpb2 := Nat.lt_of_lt_of_le hpb HB.out.size
          have hbar := Nat.lt_of_lt_of_le hbl HBr.out.size
          have HIH := Lib.hid (fun w' (hb : Below wr.heap.size wr w') => HOp.out q (by omega) w' (HW.out.below (HBr.out.trans (hb.mono HBr.out.size))))
          go_upto_region 8 with fail
          have HCl := Lib.hid (show ∀ w', Below wr.heap.size wr w' → w'.cell? ⟨w.heap.size, 0, none⟩ = some (.slice (some ⟨ba, off, none⟩) t.length cap) ∧ w'.cell? ⟨w.heap.size, 1, none⟩ = some (.slice b fr.length capb) ∧ w'.cell? ⟨pb, po + 1, none⟩ = some (.int .i64 (q : Int)) ∧ w'.cell? ⟨ba, off + k * 6, none⟩ = some (.int .i64 kd) from fun w' hb => ⟨by rw [hb.cell hz2]; exact y1, by rw [hb.cell hz2]; exact y2, by rw [hb.cell hpb2]; exact c2, by rw [hb.cell hbar]; exact y0⟩)
          go_region_held3 (fun w' => w'.cell? ⟨w.heap.size, 0, none⟩ = some (.slice (some ⟨ba, off, none⟩) t.length cap) ∧ w'.cell? ⟨w.heap.size, 1, none⟩ = some (.slice b fr.length capb) ∧ w'.cell? ⟨pb, po + 1, none⟩ = some (.int .i64 (q : Int)) ∧ w'.cell? ⟨ba, off + k * 6, none⟩ = some (.int .i64 kd)) (first | (refine ⟨?_, ?_, ?_, ?_⟩ <;> assumption) | exact HCl.out _ ((Below.refl _ _).drew) | exact HCl.out _ HB9.out) ((go_at_call 65; (with_reducible refine (HIH.out _ (Below.refl _ _).drew).mono ?_); rintro e w2 ⟨rfl, hb2⟩; have HB9 := Lib.hid (((Below.refl wr.heap.size wr).drew).trans (hb2.mono (Nat.le_refl _))); have HB2 := Lib.hid (HBr.out.trans (HB9.out.mono HBr.out.size)); obtain ⟨u1, u2, u3, u4⟩ := HCl.out _ HB9.out; clear hb2))
          go_wp2_with fail
          go_ret
          rw [hv.out]
          exact ⟨by simp, HB2.out⟩
      · have g23 : (kd == 23) = false := by simpa using h23
        have g23n : (kd != 23) = true := by rw [bne, g23]; rfl
        have hv := Lib.hid (show fit = true by rw [hfit.out, hall.out]; simp [h23])
        go_upto_region 8 with fail
        go_quiet (fail)
        go_wp2_with fail
        go_ret
        rw [hv.out]
        exact ⟨rfl, blw_drewN (HB1.out.trans (HB.out.mono HB1.out.size)) _⟩
end Go.Proofs.YtbbaooeioogijaaDoor
namespace Go.Proofs.YtbbaooeioogijaaDoor
open Go.RowKit

theorem kinds (k : Int) : k = 1 ∨ k = 2 ∨ k = 3 ∨ k = 17 ∨ k = 30 ∨ k = 31 ∨ k = 33 ∨ k = 4 ∨ k = 5 ∨ k = 6 ∨ k = 13 ∨ k = 14 ∨ k = 15 ∨ k = 16 ∨ k = 20 ∨ k = 29 ∨ k = 7 ∨ k = 8 ∨ k = 10 ∨ k = 12 ∨ k = 24 ∨ k = 25 ∨ k = 27 ∨ k = 28 ∨ k = 9 ∨ k = 26 ∨ k = 11 ∨ k = 21 ∨ k = 22 ∨ k = 32 ∨ k = 23 ∨ (k ≠ 1 ∧ k ≠ 2 ∧ k ≠ 3 ∧ k ≠ 17 ∧ k ≠ 30 ∧ k ≠ 31 ∧ k ≠ 33 ∧ k ≠ 4 ∧ k ≠ 5 ∧ k ≠ 6 ∧ k ≠ 13 ∧ k ≠ 14 ∧ k ≠ 15 ∧ k ≠ 16 ∧ k ≠ 20 ∧ k ≠ 29 ∧ k ≠ 7 ∧ k ≠ 8 ∧ k ≠ 10 ∧ k ≠ 12 ∧ k ≠ 24 ∧ k ≠ 25 ∧ k ≠ 27 ∧ k ≠ 28 ∧ k ≠ 9 ∧ k ≠ 26 ∧ k ≠ 11 ∧ k ≠ 21 ∧ k ≠ 22 ∧ k ≠ 32 ∧ k ≠ 23) := by omega

theorem arity_no {k : Int} (h : k ≠ 1 ∧ k ≠ 2 ∧ k ≠ 3 ∧ k ≠ 17 ∧ k ≠ 30 ∧ k ≠ 31 ∧ k ≠ 33 ∧ k ≠ 4 ∧ k ≠ 5 ∧ k ≠ 6 ∧ k ≠ 13 ∧ k ≠ 14 ∧ k ≠ 15 ∧ k ≠ 16 ∧ k ≠ 20 ∧ k ≠ 29 ∧ k ≠ 7 ∧ k ≠ 8 ∧ k ≠ 10 ∧ k ≠ 12 ∧ k ≠ 24 ∧ k ≠ 25 ∧ k ≠ 27 ∧ k ≠ 28 ∧ k ≠ 9 ∧ k ≠ 26 ∧ k ≠ 11 ∧ k ≠ 21 ∧ k ≠ 22 ∧ k ≠ 32 ∧ k ≠ 23) : arityN k = (-1, -1) := by
  unfold arityN
  rw [if_neg (by omega), if_neg (by omega), if_neg (by omega), if_neg (by omega), if_neg (by omega), if_neg (by omega), if_neg (by omega), if_neg (by omega), if_neg (by omega)]
set_option maxHeartbeats 8000000 in
theorem arity_ok (k : Int) (w : World) : Calls Tryd.prog 60 #[.int .i64 k] w fun e w' => e = .returned (.tuple #[.int .i64 (arityN k).1, .int .i64 (arityN k).2]) ∧ w' = w := by
  rcases kinds k with rfl | rfl | rfl | rfl | rfl | rfl | rfl | rfl | rfl | rfl | rfl | rfl | rfl | rfl | rfl | rfl | rfl | rfl | rfl | rfl | rfl | rfl | rfl | rfl | rfl | rfl | rfl | rfl | rfl | rfl | rfl | h
  case' inr.inr.inr.inr.inr.inr.inr.inr.inr.inr.inr.inr.inr.inr.inr.inr.inr.inr.inr.inr.inr.inr.inr.inr.inr.inr.inr.inr.inr.inr.inr =>
    rw [arity_no h]
    obtain ⟨n1, n2, n3, n17, n30, n31, n33, n4, n5, n6, n13, n14, n15, n16, n20, n29, n7, n8, n10, n12, n24, n25, n27, n28, n9, n26, n11, n21, n22, n32, n23⟩ := h
    have t1 : (k == 1) = false := by rw [beq_eq_false_iff_ne]; exact n1
    have t2 : (k == 2) = false := by rw [beq_eq_false_iff_ne]; exact n2
    have t3 : (k == 3) = false := by rw [beq_eq_false_iff_ne]; exact n3
    have t4 : (k == 4) = false := by rw [beq_eq_false_iff_ne]; exact n4
    have t5 : (k == 5) = false := by rw [beq_eq_false_iff_ne]; exact n5
    have t6 : (k == 6) = false := by rw [beq_eq_false_iff_ne]; exact n6
    have t7 : (k == 7) = false := by rw [beq_eq_false_iff_ne]; exact n7
    have t8 : (k == 8) = false := by rw [beq_eq_false_iff_ne]; exact n8
    have t9 : (k == 9) = false := by rw [beq_eq_false_iff_ne]; exact n9
    have t10 : (k == 10) = false := by rw [beq_eq_false_iff_ne]; exact n10
    have t11 : (k == 11) = false := by rw [beq_eq_false_iff_ne]; exact n11
    have t12 : (k == 12) = false := by rw [beq_eq_false_iff_ne]; exact n12
    have t13 : (k == 13) = false := by rw [beq_eq_false_iff_ne]; exact n13
    have t14 : (k == 14) = false := by rw [beq_eq_false_iff_ne]; exact n14
    have t15 : (k == 15) = false := by rw [beq_eq_false_iff_ne]; exact n15
    have t16 : (k == 16) = false := by rw [beq_eq_false_iff_ne]; exact n16
    have t17 : (k == 17) = false := by rw [beq_eq_false_iff_ne]; exact n17
    have t20 : (k == 20) = false := by rw [beq_eq_false_iff_ne]; exact n20
    have t21 : (k == 21) = false := by rw [beq_eq_false_iff_ne]; exact n21
    have t22 : (k == 22) = false := by rw [beq_eq_false_iff_ne]; exact n22
    have t23 : (k == 23) = false := by rw [beq_eq_false_iff_ne]; exact n23
    have t24 : (k == 24) = false := by rw [beq_eq_false_iff_ne]; exact n24
    have t25 : (k == 25) = false := by rw [beq_eq_false_iff_ne]; exact n25
    have t26 : (k == 26) = false := by rw [beq_eq_false_iff_ne]; exact n26
    have t27 : (k == 27) = false := by rw [beq_eq_false_iff_ne]; exact n27
    have t28 : (k == 28) = false := by rw [beq_eq_false_iff_ne]; exact n28
    have t29 : (k == 29) = false := by rw [beq_eq_false_iff_ne]; exact n29
    have t30 : (k == 30) = false := by rw [beq_eq_false_iff_ne]; exact n30
    have t31 : (k == 31) = false := by rw [beq_eq_false_iff_ne]; exact n31
    have t32 : (k == 32) = false := by rw [beq_eq_false_iff_ne]; exact n32
    have t33 : (k == 33) = false := by rw [beq_eq_false_iff_ne]; exact n33
    clear n1 n2 n3 n17 n30 n31 n33 n4 n5 n6 n13 n14 n15 n16 n20 n29 n7 n8 n10 n12 n24 n25 n27 n28 n9 n26 n11 n21 n22 n32 n23
  all_goals
    go_enter Tryd.func60, Tryd.ntmps60
    go_wp2_with fail
    go_ret2
    exact ⟨by rfl, rfl⟩
end Go.Proofs.YtbbaooeioogijaaDoor
namespace Go.Proofs.YtbbaooeioogijaaDoor
open Go.RowKit

/-- what Structs tells -/
def faultN (L : List Sr) : Int × Int := match learnK L with
  | .inl (i, c) => (((i : Nat) : Int), c)
  | .inr _ => (0, 0)
theorem faultN_bad {L : List Sr} {i : Nat} {c : Int} (h : learnK L = .inl (i, c)) : faultN L = (((i : Nat) : Int), c) := by unfold faultN; rw [h]
theorem faultN_ok {L : List Sr} {K : List Kn} (h : learnK L = .inr K) : faultN L = (0, 0) := by unfold faultN; rw [h]
def StructsEnd (L : List Sr) (w : World) (e : Ending) (w' : World) : Prop := e = .returned (.agg #[.int .i64 (faultN L).1, .int .i64 (faultN L).2]) ∧ Below w.heap.size w w'
theorem structsEnd {L : List Sr} {x y : Int} {w w' : World} (h : faultN L = (x, y)) (hb : Below w.heap.size w w') : StructsEnd L w (.returned (.agg #[.int .i64 x, .int .i64 y])) w' := ⟨by rw [h], hb⟩
theorem IsSrs.take {B : Nat} {w : World} {a : Option Addr} {L : List Sr} {mv : List Value} (h : IsSrs B w a L mv) (k : Nat) : IsSrs B w a (L.take k) (mv.take k) := by
  refine ⟨by rw [List.length_take, List.length_take, h.len], fun hn => ?_, fun x hx => h.names x (List.mem_of_mem_take hx)⟩
  obtain ⟨b, off, e, hlt, hr⟩ := h.at_ (fun e => hn (by rw [e]; simp))
  refine ⟨b, off, e, hlt, fun i x v hx hv => hr i x v ?_ ?_⟩
  · rw [List.getElem?_take] at hx; split at hx; exact hx; cases hx
  · rw [List.getElem?_take] at hv; split at hv; exact hv; cases hv

end Go.Proofs.YtbbaooeioogijaaDoor
namespace Go.Proofs.YtbbaooeioogijaaDoor
open Go.RowKit

/-- what Check tells -/
def checkN (L : List Sr) (s : ByteArray) : Int := match learnK L with
  | .inl (_, c) => c
  | .inr K => checkS K s
theorem checkN_bad {L : List Sr} {s : ByteArray} {i : Nat} {c : Int} (h : learnK L = .inl (i, c)) : checkN L s = c := by unfold checkN; rw [h]
theorem checkN_ok {L : List Sr} {s : ByteArray} {K : List Kn} (h : learnK L = .inr K) : checkN L s = checkS K s := by unfold checkN; rw [h]
theorem learnF_ne : ∀ (l : List Sr) (K : List Kn) {i : Nat} {c : Int}, learnF K l = .inl (i, c) → c ≠ 0
  | [], _, _, _, h => by rw [learnF] at h; cases h
  | x :: l, K, i, c, h => by
    rw [learnF] at h
    split at h
    · rename_i e he
      have := Sum.inl.inj h
      have h2 : e = c := (Prod.mk.inj this).2
      subst h2
      exact addK_ne he
    · exact learnF_ne l _ h
theorem learnK_ne {L : List Sr} {i : Nat} {c : Int} (h : learnK L = .inl (i, c)) : c ≠ 0 := by
  unfold learnK at h
  split at h
  · have h2 : (3 : Int) = c := (Prod.mk.inj (Sum.inl.inj h)).2
    subst h2; decide
  · exact learnF_ne _ _ h
theorem fault_blk (w : World) (x y : Value) : (w.alloc (.cells #[x, y] 32)).heap[w.heap.size]? = some (.cells #[x, y] 32 (0, 0)) := heap_alloc_new _ _

set_option maxRecDepth 100000 in
set_option maxHeartbeats 4000000 in
theorem checkAll_ok (s : ByteArray) (a : Option Addr) (cap : Nat) (L : List Sr) (mv : List Value) (w : World) (hE : TE w) (hS : IsSrs w.heap.size w a L mv) :
    Calls Tryd.prog 54 #[.string s, .slice a L.length cap] w fun e w' => e = .returned (.int .i64 (checkN L s)) ∧ Below w.heap.size w w' := by
  have HE := Lib.hid hE
  have HL := Lib.hid (learn_ok a cap L mv w hE hS)
  clear hE hS
  go_enter Tryd.func54, Tryd.ntmps54
  go_wp2_with (go_at_call 52; (with_reducible refine HL.out.mono ?_))
  intro e w1 hend
  obtain ⟨hb1, ⟨i, c, hl, hc, rfl⟩ | ⟨K, b, mb, lv, sv, av, hl, rfl, hF, hkn⟩⟩ := hend
  · have hfin := Lib.hid (checkN_bad (s := s) hl)
    have t1 : (c != 0) = true := by simp [hc]
    have HB1 := Lib.hid hb1
    clear hl hc hb1
    go_wp2_with fail
    go_ret
    exact ⟨by rw [hfin.out]; rfl, HB1.out.alloc HB1.out.size _⟩
  · have HB1 := Lib.hid hb1
    have hg : Below (w1.heap.size) w1 (w1.alloc (.cells #[.int .i64 0, .int .i64 0] 32)) := (Below.refl _ _).alloc (Nat.le_refl _) _
    have HG := Lib.hid (hb1.trans (hg.mono hb1.size))
    have HC := Lib.hid (check_ok s _ (HE.out.below HG.out) (hkn.below hg) hF)
    have hfin := Lib.hid (checkN_ok (s := s) hl)
    clear hkn hb1 hg hF hl
    generalize checkS K s = c at *
    go_wp2_with (go_at_call 70; (with_reducible refine HC.out.mono ?_); rintro e w5 ⟨rfl, hb5⟩; have HB5 := Lib.hid (HG.out.trans (hb5.mono HG.out.size)); clear hb5)
    go_ret
    exact ⟨by rw [hfin.out]; rfl, HB5.out⟩

set_option maxRecDepth 100000 in
set_option maxHeartbeats 4000000 in
theorem structs_ok (a : Option Addr) (cap : Nat) (L : List Sr) (mv : List Value) (w : World) (hE : TE w) (hS : IsSrs w.heap.size w a L mv) :
    Calls Tryd.prog 41 #[.slice a L.length cap] w (StructsEnd L w) := by
  have HE := Lib.hid hE
  have HS := Lib.hid hS
  clear hE hS
  have hat := fault_blk w (.int .i64 0) (.int .i64 0)
  have hb1 : Below w.heap.size w (w.alloc (.cells #[.int .i64 0, .int .i64 0] 32)) := (Below.refl _ _).alloc (Nat.le_refl _) _
  go_enter Tryd.func41, Tryd.ntmps41
  go_upto_region 1 with fail
  generalize w.alloc (.cells #[.int .i64 0, .int .i64 0] 32) = w0 at *
  have HAt := Lib.hid hat
  have HB0 := Lib.hid hb1
  have hz0 := lt_of_heap hat
  have HL0 := Lib.hid (show Calls Tryd.prog 52 #[.slice a L.length cap] w0 (fun e w' => (∃ p : Value, e = .returned (.tuple #[p, .agg #[.int .i64 (faultN L).1, .int .i64 (faultN L).2]])) ∧ Below w0.heap.size w0 w') from (learn_ok a cap L mv w0 (HE.out.below hb1) ((HS.out.below hb1).mono hb1.size)).mono fun e w' h => by
    obtain ⟨hb, ⟨i, c, hl, hc, rfl⟩ | ⟨K, b, mb, lv, sv, av, hl, rfl, hF, hkn⟩⟩ := h
    · exact ⟨⟨_, by rw [faultN_bad hl]⟩, hb⟩
    · exact ⟨⟨_, by rw [faultN_ok hl]⟩, hb⟩)
  have HF := Lib.hid (show faultN L = ((faultN L).1, (faultN L).2) from rfl)
  generalize (faultN L).1 = x at *
  generalize (faultN L).2 = c at *
  clear hat hb1
  go_upto_region 2 with (go_at_call 52; (with_reducible refine HL0.out.mono ?_); rintro e w1 ⟨⟨p, rfl⟩, hb1⟩; have HB1 := Lib.hid hb1; clear hb1)
  have hb2 : Below w1.heap.size w1 (w1.alloc (.cells #[.int .i64 x, .int .i64 c] 32)) := (Below.refl _ _).alloc (Nat.le_refl _) _
  have hk := fault_blk w1 (.int .i64 x) (.int .i64 c)
  generalize w1.alloc (.cells #[.int .i64 x, .int .i64 c] 32) = w2 at *
  obtain ⟨⟨k0, k1⟩, _⟩ := two_block hk
  have h31 := (HB1.out.block _ hz0).trans HAt.out
  obtain ⟨⟨d0, d1⟩, fd⟩ := two_block ((hb2.block _ (lt_of_heap h31)).trans h31)
  have fd0 := fd 0
  have fd1 := fd 1
  have HB2 := Lib.hid (HB0.out.trans ((HB1.out.trans (hb2.mono HB1.out.size)).mono HB0.out.size))
  clear fd h31 hb2 hk
  go_wp2_with fail
  exact bodyPost_ret (v := .agg #[.int .i64 x, .int .i64 c]) (by simp [results, Tryd.results41, go_sem, d0, d1]) rfl (structsEnd HF.out (set_fault HB2.out _ _))
end Go.Proofs.YtbbaooeioogijaaDoor
