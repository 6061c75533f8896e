/- Whether parts fit. Plain: nothing of the program. · Whether a node's parts fit: the program. · The reference: what is wrong with structs; with a type, and structs. · What is wrong with structs; with a type, and structs: the program, and the reference. · Types and numbers that a node may have: both texts. -/
import Derived.Test.YtlcfejgjeljjdaaDoorMg14
import Derived.Test.YtlcfejgjeljjdaaDoorOpen
import Derived.Test.YtlcfejgjeljjdaaDoorMg18
import Derived.Deep.RegionHeld3
import Derived.Deep.AppendLies
import Derived.Test.YtlcfejgjeljjdaaDoorMg12
import Derived.Test.YtlcfejgjeljjdaaDoorMg10
import Derived.Test.YtlcfejgjeljjdaaDoorMg17
import Derived.Test.YtlcfejgjeljjdaaDoorMarks
import Derived.Test.YtlcfejgjeljjdaaDoorMg11
namespace Go.Proofs.YtlcfejgjeljjdaaDoor

theorem mayAll_yes {t : List Nd} {k : Int} : ∀ {l : List Nat} {i : Nat}, (∀ (j p : Nat), l[j]? = some p → mayN k (i + j) (kindAt t p) = true) → mayAll t k i l = true
  | [], _, _ => rfl
  | p :: l, i, h => by
    rw [mayAll, Bool.and_eq_true]
    exact ⟨h 0 p rfl, mayAll_yes fun j q hq => by rw [show i + 1 + j = i + (j + 1) by omega]; exact h (j + 1) q (by simpa using hq)⟩
theorem mayAll_no {t : List Nd} {k : Int} : ∀ {l : List Nat} {i j p : Nat}, l[j]? = some p → mayN k (i + j) (kindAt t p) = false → mayAll t k i l = false
  | [], _, _, _, h, _ => by simp at h
  | q :: l, i, 0, p, h, hm => by
    obtain rfl := Option.some.inj h
    rw [mayAll, show mayN k i (kindAt t q) = false from hm]
    rfl
  | q :: l, i, j + 1, p, h, hm => by
    rw [mayAll, mayAll_no (i := i + 1) (j := j) (by simpa using h) (by rw [show i + 1 + j = i + (j + 1) by omega]; exact hm), Bool.and_false]
end Go.Proofs.YtlcfejgjeljjdaaDoor
namespace Go.Proofs.YtlcfejgjeljjdaaDoor
open Go.RowKit

theorem parts_num {t : List Nd} {fr : List Nat} (hG : Given t fr) {k n : Nat} (hk : k < t.length) {c : Int} (h : kindAt t k = c) (ha : arityN c = ((n : Int), (n : Int))) : (partsAt t fr k).length = n := by
  obtain ⟨hlo, hhi, _⟩ := well_parts (hG.well k _ (List.getElem?_eq_getElem hk))
  rw [← kindAt_is (List.getElem?_eq_getElem hk), h, ha] at hlo hhi
  rw [partsAt_is (List.getElem?_eq_getElem hk), partsE_length]
  simp only at hlo hhi
  omega
theorem parts_two {t : List Nd} {fr : List Nat} (hG : Given t fr) {k : Nat} (hk : k < t.length) (h : kindAt t k = 23) : 2 ≤ (partsAt t fr k).length ∧ (partsAt t fr k).length ≤ 3 := by
  obtain ⟨hlo, hhi, _⟩ := well_parts (hG.well k _ (List.getElem?_eq_getElem hk))
  rw [← kindAt_is (List.getElem?_eq_getElem hk), h, show arityN 23 = (2, 3) by decide] at hlo hhi
  rw [partsAt_is (List.getElem?_eq_getElem hk), partsE_length]
  simp only at hlo hhi
  omega

set_option maxRecDepth 100000 in
set_option maxHeartbeats 8000000 in
theorem fits_ok (a : Option Addr) (cap : Nat) (t : List Nd) (b : Option Addr) (capb : Nat) (fr : List Nat) (hG : Given t fr) (k : Nat) (hk : k < t.length) (w : World) (hW : WholeAt w a b t fr) :
    Calls Tryd.prog 42 #[.agg #[.slice a t.length cap, .slice b fr.length capb], .int .i64 (k : Int)] w (OpenEnd (fitsN t fr k) w) := by
  have HPt := Lib.hid (fun w (hW : WholeAt w a b t fr) => tparts_ok a cap t b capb fr w hW.nds hW.nats hG.le hG.formed k hk)
  have HW := Lib.hid hW
  have HOp := Lib.hid (fun p (hp : p < t.length) w hW => open_ok a cap t b capb fr hG (p + 1) p (Nat.lt_succ_self p) hp w hW)
  obtain ⟨ba, off, ha, hbl, x0⟩ := kind_at hW hk
  subst ha
  have HLt := Lib.hid (fun p (h : p ∈ partsAt t fr k) => hG.formed.parts_lt h)
  have hl := hG.le
  have hpl : (partsAt t fr k).length ≤ 4096 := by rw [partsAt_is (List.getElem?_eq_getElem hk), partsE_length]; have := (hG.formed.node k _ (List.getElem?_eq_getElem hk)).2.1.le; omega
  have H25 := Lib.hid (show kindAt t k = 25 → (partsAt t fr k).length = 2 from fun h => parts_num hG hk h (by decide))
  have H23 := Lib.hid (show kindAt t k = 23 → 2 ≤ (partsAt t fr k).length ∧ (partsAt t fr k).length ≤ 3 from fun h => parts_two hG hk h)
  have hfit := Lib.hid (show fitsN t fr k = (mayAll t (kindAt t k) 0 (partsAt t fr k) && (decide (kindAt t k ≠ 23) || (decide ((partsAt t fr k).length < 3) || !openN t fr ((partsAt t fr k).getD 1 0)))) from rfl)
  generalize fitsN t fr k = fit at *
  generalize hkd : kindAt t k = kd at *
  have HKd := Lib.hid hkd
  clear hW hkd
  generalize partsAt t fr k = P at *
  go_enter Tryd.func42, Tryd.ntmps42
  go_upto_region 1 with fail
  have hxw : (w.alloc (.cells #[.slice (some ⟨ba, off, none⟩) t.length cap, .slice b fr.length capb] 57)).heap[w.heap.size]? = some (.cells #[.slice (some ⟨ba, off, none⟩) t.length cap, .slice b fr.length capb] 57 (0, 0)) := heap_alloc_new _ _
  have hbw : Below w.heap.size w (w.alloc (.cells #[.slice (some ⟨ba, off, none⟩) t.length cap, .slice b fr.length capb] 57)) := ba1 _ _
  generalize w.alloc (.cells #[.slice (some ⟨ba, off, none⟩) t.length cap, .slice b fr.length capb] 57) = w0 at *
  have hzw := lt_of_heap hxw
  obtain ⟨⟨z0, z1⟩, _⟩ := two_block hxw
  have HBW := Lib.hid hbw
  have HW0 := Lib.hid (HW.out.below hbw)
  have v0 := x0
  rw [← hbw.cell hbl] at v0
  have hbl0 := Nat.lt_of_lt_of_le hbl hbw.size
  clear hxw hbw
  go_upto_region 2 with (go_at_call 56; (with_reducible refine (HPt.out _ HW0.out).mono ?_); rintro e w1 ⟨⟨v, rfl, hrow⟩, hb1⟩; obtain ⟨pa, pc, rfl, hP, _⟩ := hrow.is; have HP := Lib.hid hP; have HB1 := Lib.hid (HBW.out.trans (hb1.mono HBW.out.size)); have y0 := v0; rw [← hb1.cell hbl0] at y0; have y1 := z0; have y2 := z1; rw [← hb1.cell hzw] at y1 y2; have hz1 := Nat.lt_of_lt_of_le hzw hb1.size; clear hrow hb1 hP)
  go_wp2_with fail
  go_loopg [13] P.length (fun m v13 wy => ∃ i : Nat, i ≤ P.length ∧ i + m = P.length ∧ v13 = .int .i64 (i : Int) ∧ Hid (∀ (j p : Nat), j < i → P[j]? = some p → mayN kd j (kindAt t p) = true) ∧ Hid (Below w1.heap.size w1 wy))
  case atStart => exact ⟨0, by omega, by omega, rfl, fun j p h => by omega, Below.refl _ _⟩
  case round =>
    obtain ⟨i, hi, him, rfl, HY, HB⟩ := hrel
    by_cases hlt : i < P.length
    · have hplt := HLt.out _ (List.getElem_mem hlt)
      obtain ⟨pb, po, hpa, hpb, c2⟩ := nats_at HP.out hlt
      subst hpa
      obtain ⟨q, hq⟩ : ∃ q, q = P[i] := ⟨_, rfl⟩
      rw [← hq] at hplt c2
      have HQ := Lib.hid hq
      clear hq
      obtain ⟨ba2, off2, hba, _, x2⟩ := kind_at HW.out (show q < t.length by omega)
      obtain ⟨rfl, rfl⟩ : ba2 = ba ∧ off2 = off := by simpa using hba.symm
      clear hba
      rw [← (HB1.out.trans (HB.out.mono HB1.out.size)).cell hbl] at x2
      rw [← HB.out.cell (Nat.lt_of_lt_of_le hbl HB1.out.size)] at y0
      rw [← HB.out.cell hz1] at y1 y2
      rw [← HB.out.cell hpb] at c2
      have HM := Lib.hid (fun w => may_ok kd (kindAt t q) i w (fun h => by have := H25.out h; omega))
      rcases hm : mayN kd i (kindAt t q) with _ | _
      · have hv := Lib.hid (show fit = false by rw [hfit.out, mayAll_no (j := i) (p := q) (by rw [List.getElem?_eq_getElem hlt, HQ.out]) (by rw [Nat.zero_add]; exact hm)]; rfl)
        rw [hm] at HM
        clear hm
        generalize kindAt t q = kq at *
        go_upto_region 5 with fail
        go_quiet ((go_at_call 57; exact Calls.quiet_of_same (HM.out _)))
        go_wp2_with fail
        go_ret
        rw [hv.out]
        exact ⟨rfl, blw_drewN (HB1.out.trans (HB.out.mono HB1.out.size)) _⟩
      · have HY2 := Lib.hid (show ∀ (j p : Nat), j < i + 1 → P[j]? = some p → mayN kd j (kindAt t p) = true from fun j p hj hp => by
          rcases Nat.lt_or_ge j i with h' | h'
          · exact HY.out j p h' hp
          · obtain rfl : j = i := by omega
            rw [List.getElem?_eq_getElem hlt, ← HQ.out] at hp
            obtain rfl := Option.some.inj hp
            exact hm)
        rw [hm] at HM
        clear hm HY
        generalize kindAt t q = kq at *
        go_upto_region 5 with fail
        go_quiet ((go_at_call 57; exact Calls.quiet_of_same (HM.out _)))
        go_wp2_with fail
        go_roundg (P.length - (i + 1))
        case measure => omega
        case rel => exact ⟨i + 1, by omega, by omega, by rw [Int.natCast_add]; rfl, HY2, Lib.hid (blw_drewN HB.out _)⟩
    · obtain rfl : i = P.length := by omega
      have hall := Lib.hid (show mayAll t kd 0 P = true from mayAll_yes fun j p hp => by rw [Nat.zero_add]; exact HY.out j p (List.getElem?_eq_some_iff.1 hp).1 hp)
      clear HY
      rw [← HB.out.cell (Nat.lt_of_lt_of_le hbl HB1.out.size)] at y0
      rw [← HB.out.cell hz1] at y1 y2
      by_cases h23 : kd = 23
      · have g23 : (kd == 23) = true := by rw [h23]; rfl
        have g23n : (kd != 23) = false := by rw [h23]; rfl
        have hP := H23.out h23
        by_cases h3 : P.length = 2
        · have t2 : decide ((P.length : Int) < 3) = true := by simp; omega
          have hv := Lib.hid (show fit = true by rw [hfit.out, hall.out]; simp [h3])
          go_upto_region 8 with fail
          go_quiet (fail)
          go_wp2_with fail
          go_ret
          rw [hv.out]
          exact ⟨rfl, blw_drewN (HB1.out.trans (HB.out.mono HB1.out.size)) _⟩
        · have h3 : P.length = 3 := by omega
          have t2 : decide ((P.length : Int) < 3) = false := by simp; omega
          have hP1 : 1 < P.length := by omega
          have hplt := HLt.out _ (List.getElem_mem hP1)
          obtain ⟨pb, po, hpa, hpb, c2⟩ := nats_at HP.out hP1
          subst hpa
          have hv := Lib.hid (show fit = !openN t fr P[1] by rw [hfit.out, hall.out, (getD_mem hP1).1]; simp [h23, h3])
          obtain ⟨q, hq⟩ : ∃ q, q = P[1] := ⟨_, rfl⟩
          rw [← hq] at hplt c2 hv
          clear hq h23 hall
          rw [← HB.out.cell hpb] at c2
          have HBr := Lib.hid (HB1.out.trans (HB.out.mono HB1.out.size))
          have hz2 := Nat.lt_of_lt_of_le hz1 HB.out.size
          have hpb2 := Nat.lt_of_lt_of_le hpb HB.out.size
          have hbar := Nat.lt_of_lt_of_le hbl HBr.out.size
          have HIH := Lib.hid (fun w' (hb : Below wr.heap.size wr w') => HOp.out q (by omega) w' (HW.out.below (HBr.out.trans (hb.mono HBr.out.size))))
          go_upto_region 8 with fail
          have HCl := Lib.hid (show ∀ w', Below wr.heap.size wr w' → w'.cell? ⟨w.heap.size, 0, none⟩ = some (.slice (some ⟨ba, off, none⟩) t.length cap) ∧ w'.cell? ⟨w.heap.size, 1, none⟩ = some (.slice b fr.length capb) ∧ w'.cell? ⟨pb, po + 1, none⟩ = some (.int .i64 (q : Int)) ∧ w'.cell? ⟨ba, off + k * 6, none⟩ = some (.int .i64 kd) from fun w' hb => ⟨by rw [hb.cell hz2]; exact y1, by rw [hb.cell hz2]; exact y2, by rw [hb.cell hpb2]; exact c2, by rw [hb.cell hbar]; exact y0⟩)
          go_region_held3 (fun w' => w'.cell? ⟨w.heap.size, 0, none⟩ = some (.slice (some ⟨ba, off, none⟩) t.length cap) ∧ w'.cell? ⟨w.heap.size, 1, none⟩ = some (.slice b fr.length capb) ∧ w'.cell? ⟨pb, po + 1, none⟩ = some (.int .i64 (q : Int)) ∧ w'.cell? ⟨ba, off + k * 6, none⟩ = some (.int .i64 kd)) (first | (refine ⟨?_, ?_, ?_, ?_⟩ <;> assumption) | exact HCl.out _ ((Below.refl _ _).drew) | exact HCl.out _ HB9.out) ((go_at_call 58; (with_reducible refine (HIH.out _ (Below.refl _ _).drew).mono ?_); rintro e w2 ⟨rfl, hb2⟩; have HB9 := Lib.hid (((Below.refl wr.heap.size wr).drew).trans (hb2.mono (Nat.le_refl _))); have HB2 := Lib.hid (HBr.out.trans (HB9.out.mono HBr.out.size)); obtain ⟨u1, u2, u3, u4⟩ := HCl.out _ HB9.out; clear hb2))
          go_wp2_with fail
          go_ret
          rw [hv.out]
          exact ⟨by simp, HB2.out⟩
      · have g23 : (kd == 23) = false := by simpa using h23
        have g23n : (kd != 23) = true := by rw [bne, g23]; rfl
        have hv := Lib.hid (show fit = true by rw [hfit.out, hall.out]; simp [h23])
        go_upto_region 8 with fail
        go_quiet (fail)
        go_wp2_with fail
        go_ret
        rw [hv.out]
        exact ⟨rfl, blw_drewN (HB1.out.trans (HB.out.mono HB1.out.size)) _⟩
end Go.Proofs.YtlcfejgjeljjdaaDoor
namespace Go.Proofs.YtlcfejgjeljjdaaDoor
open Go.RowKit

/-- what Structs tells -/
def faultN (L : List Sr) : Int × Int := match learnK L with
  | .inl (i, c) => (((i : Nat) : Int), c)
  | .inr _ => (0, 0)
theorem faultN_bad {L : List Sr} {i : Nat} {c : Int} (h : learnK L = .inl (i, c)) : faultN L = (((i : Nat) : Int), c) := by unfold faultN; rw [h]
theorem faultN_ok {L : List Sr} {K : List Kn} (h : learnK L = .inr K) : faultN L = (0, 0) := by unfold faultN; rw [h]
def StructsEnd (L : List Sr) (w : World) (e : Ending) (w' : World) : Prop := e = .returned (.agg #[.int .i64 (faultN L).1, .int .i64 (faultN L).2]) ∧ Below w.heap.size w w'
theorem structsEnd {L : List Sr} {x y : Int} {w w' : World} (h : faultN L = (x, y)) (hb : Below w.heap.size w w') : StructsEnd L w (.returned (.agg #[.int .i64 x, .int .i64 y])) w' := ⟨by rw [h], hb⟩
theorem IsSrs.take {B : Nat} {w : World} {a : Option Addr} {L : List Sr} {mv : List Value} (h : IsSrs B w a L mv) (k : Nat) : IsSrs B w a (L.take k) (mv.take k) := by
  refine ⟨by rw [List.length_take, List.length_take, h.len], fun hn => ?_, fun x hx => h.names x (List.mem_of_mem_take hx)⟩
  obtain ⟨b, off, e, hlt, hr⟩ := h.at_ (fun e => hn (by rw [e]; simp))
  refine ⟨b, off, e, hlt, fun i x v hx hv => hr i x v ?_ ?_⟩
  · rw [List.getElem?_take] at hx; split at hx; exact hx; cases hx
  · rw [List.getElem?_take] at hv; split at hv; exact hv; cases hv

end Go.Proofs.YtlcfejgjeljjdaaDoor
namespace Go.Proofs.YtlcfejgjeljjdaaDoor
open Go.RowKit

theorem fault_blk (w : World) (x y : Value) : (w.alloc (.cells #[x, y] 75)).heap[w.heap.size]? = some (.cells #[x, y] 75 (0, 0)) := heap_alloc_new _ _

set_option maxRecDepth 100000 in
set_option maxHeartbeats 4000000 in
theorem structs_ok (a : Option Addr) (cap : Nat) (L : List Sr) (mv : List Value) (w : World) (hE : TE w) (hS : IsSrs w.heap.size w a L mv) :
    Calls Tryd.prog 33 #[.slice a L.length cap] w (StructsEnd L w) := by
  have HE := Lib.hid hE
  have HS := Lib.hid hS
  clear hE hS
  have hat := fault_blk w (.int .i64 0) (.int .i64 0)
  have hb1 : Below w.heap.size w (w.alloc (.cells #[.int .i64 0, .int .i64 0] 75)) := (Below.refl _ _).alloc (Nat.le_refl _) _
  go_enter Tryd.func33, Tryd.ntmps33
  go_upto_region 1 with fail
  generalize w.alloc (.cells #[.int .i64 0, .int .i64 0] 75) = w0 at *
  have HAt := Lib.hid hat
  have HB0 := Lib.hid hb1
  have hz0 := lt_of_heap hat
  have HL0 := Lib.hid (show Calls Tryd.prog 48 #[.slice a L.length cap] w0 (fun e w' => (∃ p : Value, e = .returned (.tuple #[p, .agg #[.int .i64 (faultN L).1, .int .i64 (faultN L).2]])) ∧ Below w0.heap.size w0 w') from (learn_ok a cap L mv w0 (HE.out.below hb1) ((HS.out.below hb1).mono hb1.size)).mono fun e w' h => by
    obtain ⟨hb, ⟨i, c, hl, hc, rfl⟩ | ⟨K, b, mb, lv, sv, av, hl, rfl, hF, hkn⟩⟩ := h
    · exact ⟨⟨_, by rw [faultN_bad hl]⟩, hb⟩
    · exact ⟨⟨_, by rw [faultN_ok hl]⟩, hb⟩)
  have HF := Lib.hid (show faultN L = ((faultN L).1, (faultN L).2) from rfl)
  generalize (faultN L).1 = x at *
  generalize (faultN L).2 = c at *
  clear hat hb1
  go_upto_region 2 with (go_at_call 48; (with_reducible refine HL0.out.mono ?_); rintro e w1 ⟨⟨p, rfl⟩, hb1⟩; have HB1 := Lib.hid hb1; clear hb1)
  have hb2 : Below w1.heap.size w1 (w1.alloc (.cells #[.int .i64 x, .int .i64 c] 75)) := (Below.refl _ _).alloc (Nat.le_refl _) _
  have hk := fault_blk w1 (.int .i64 x) (.int .i64 c)
  generalize w1.alloc (.cells #[.int .i64 x, .int .i64 c] 75) = w2 at *
  obtain ⟨⟨k0, k1⟩, _⟩ := two_block hk
  have h31 := (HB1.out.block _ hz0).trans HAt.out
  obtain ⟨⟨d0, d1⟩, fd⟩ := two_block ((hb2.block _ (lt_of_heap h31)).trans h31)
  have fd0 := fd 0
  have fd1 := fd 1
  have HB2 := Lib.hid (HB0.out.trans ((HB1.out.trans (hb2.mono HB1.out.size)).mono HB0.out.size))
  clear fd h31 hb2 hk
  go_wp2_with fail
  exact bodyPost_ret (v := .agg #[.int .i64 x, .int .i64 c]) (by simp [results, Tryd.results33, go_sem, d0, d1]) rfl (structsEnd HF.out (set_fault HB2.out _ _))
end Go.Proofs.YtlcfejgjeljjdaaDoor
namespace Go.Proofs.YtlcfejgjeljjdaaDoor
open Go.RowKit

theorem ret_bool9 {a b : Bool} (h : a = b) : Ending.returned (.bool a) = .returned (.bool b) := by rw [h]
theorem typed_tri (s : ByteArray) : (checkS [] s = 0 ∧ typedS s = true) ∨ (checkS [] s ≠ 0 ∧ checkS [] s = 4 ∧ typedS s = true) ∨ (checkS [] s ≠ 0 ∧ checkS [] s ≠ 4 ∧ typedS s = false) := by
  unfold typedS
  by_cases h0 : checkS [] s = 0
  · exact .inl ⟨h0, by simp [h0]⟩
  · by_cases h4 : checkS [] s = 4
    · exact .inr (.inl ⟨h0, h4, by simp [h4]⟩)
    · exact .inr (.inr ⟨h0, h4, by simp [h0, h4]⟩)
theorem typed_some {s : ByteArray} (h : typedS s = true) : ∃ t, tyS s = some t ∧ s = tyB t ∧ Right t := by
  unfold typedS at h
  cases ht : tyS s with
  | none => rw [checkS_none ht] at h; simp at h
  | some t =>
    obtain ⟨h1, h2, _⟩ := tyS_some.1 ht
    exact ⟨t, rfl, h1, h2⟩
set_option maxHeartbeats 1000000 in
theorem typed_ok (s : ByteArray) (w : World) (hE : TE w) : Calls Tryd.prog 53 #[.string s] w fun e w' => e = .returned (.bool (typedS s)) ∧ Below w.heap.size w w' := by
  have HC := Lib.hid (checkNil_ok s w hE)
  rcases typed_tri s with ⟨h0, h⟩ | ⟨h0, h4, h⟩ | ⟨h0, h4, h⟩
  case' inl =>
    rw [h0] at HC
    rw [h]
    clear h0 h
  case' inr.inl =>
    rw [h4] at HC
    rw [h]
    clear h0 h4 h
  case' inr.inr =>
    have t1 : (checkS [] s == 0) = false := by simp [h0]
    have t2 : (checkS [] s == 4) = false := by simp [h4]
    rw [h]
    clear h0 h4 h
    generalize checkS [] s = c at *
  all_goals
    go_enter Tryd.func53, Tryd.ntmps53
    go_wp2_with (go_at_call 67; (with_reducible refine HC.out.mono ?_); rintro e w1 ⟨rfl, hb1⟩; have HB1 := Lib.hid hb1; clear hb1)
    go_ret
    exact ⟨rfl, HB1.out⟩
theorem object_is {s : ByteArray} {t : Ty} (h : tyS s = some t) : objectS s = objectT t := by unfold objectS; rw [h]; rfl
set_option maxHeartbeats 1000000 in
theorem objectS_ok (s : ByteArray) (w : World) (hty : typedS s = true) : Calls Tryd.prog 54 #[.string s] w fun e w' => e = .returned (.bool (objectS s)) ∧ w' = w := by
  obtain ⟨t, ht, rfl, hr⟩ := typed_some hty
  rw [object_is ht]
  clear ht hty
  have hv := one_is hr 118
  have h0 := (tyB_head t).1
  have hf : ((((tyB t)[0]'h0).toNat : Int) == 102) = isFnT t := head_fn' hr
  have ho : objectT t = (!isC 118 t && !isFnT t) := by rw [objectT, isVoid_is]
  generalize tyB t = s at *
  rcases h1 : isC 118 t with _ | _
  · rw [h1] at hv ho
    have hv' : (s.toList != [118]) = true := by rw [bne, hv]; rfl
    rcases h2 : isFnT t with _ | _
    · rw [h2] at hf ho
      have hf' : ((s[0].toNat : Int) != 102) = true := by rw [bne, hf]; rfl
      have hfin := Lib.hid ho
      clear ho h1 h2
      go_enter Tryd.func54, Tryd.ntmps54
      go_wp2_with fail
      go_ret
      exact ⟨by rw [hfin.out]; rfl, rfl⟩
    · rw [h2] at hf ho
      have hf' : ((s[0].toNat : Int) != 102) = false := by rw [bne, hf]; rfl
      have hfin := Lib.hid ho
      clear ho h1 h2
      go_enter Tryd.func54, Tryd.ntmps54
      go_wp2_with fail
      go_ret
      exact ⟨by rw [hfin.out]; rfl, rfl⟩
  · rw [h1] at hv ho
    have hv' : (s.toList != [118]) = false := by rw [bne, hv]; rfl
    have hfin := Lib.hid ho
    clear ho h1 hf
    go_enter Tryd.func54, Tryd.ntmps54
    go_wp2_with fail
    go_ret
    exact ⟨by rw [hfin.out]; rfl, rfl⟩
theorem lit_u (s : ByteArray) : (s = ⟨#[117]⟩) ↔ s.data.toList = [117] := ⟨fun h => by rw [h], fun h => toList_eq (by rw [h])⟩
theorem lit_i (s : ByteArray) : (s = ⟨#[105]⟩) ↔ s.data.toList = [105] := ⟨fun h => by rw [h], fun h => toList_eq (by rw [h])⟩
/-- a number's cases -/
theorem number_cases (i : Int) (t : ByteArray) {k n p : Int} {s : ByteArray} :
    (t.data.toList = [117] ∧ i < 0 ∧ numberN ⟨k, n, p, i, s, t⟩ = false) ∨ (t.data.toList = [117] ∧ 0 ≤ i ∧ 4294967296 ≤ i ∧ numberN ⟨k, n, p, i, s, t⟩ = false) ∨ (t.data.toList = [117] ∧ 0 ≤ i ∧ i < 4294967296 ∧ numberN ⟨k, n, p, i, s, t⟩ = true) ∨
    (t.data.toList = [105] ∧ i < -128 ∧ numberN ⟨k, n, p, i, s, t⟩ = false) ∨ (t.data.toList = [105] ∧ -128 ≤ i ∧ 2147483648 ≤ i ∧ numberN ⟨k, n, p, i, s, t⟩ = false) ∨ (t.data.toList = [105] ∧ -128 ≤ i ∧ i < 2147483648 ∧ numberN ⟨k, n, p, i, s, t⟩ = true) ∨
    (t.data.toList ≠ [117] ∧ t.data.toList ≠ [105] ∧ numberN ⟨k, n, p, i, s, t⟩ = false) := by
  by_cases hu : t.data.toList = [117]
  · have e : ∀ b, numberN ⟨k, n, p, i, s, t⟩ = b ↔ decide (0 ≤ i ∧ i < 4294967296) = b := fun b => by unfold numberN; rw [if_pos ((lit_u t).2 hu)]
    by_cases h0 : i < 0
    · exact .inl ⟨hu, h0, (e _).2 (decide_eq_false (by omega))⟩
    · by_cases h1 : i < 4294967296
      · exact .inr (.inr (.inl ⟨hu, by omega, h1, (e _).2 (decide_eq_true (by omega))⟩))
      · exact .inr (.inl ⟨hu, by omega, by omega, (e _).2 (decide_eq_false (by omega))⟩)
  · by_cases hi : t.data.toList = [105]
    · have e : ∀ b, numberN ⟨k, n, p, i, s, t⟩ = b ↔ decide (-128 ≤ i ∧ i < 2147483648) = b := fun b => by
        unfold numberN
        rw [if_neg (fun h => hu ((lit_u t).1 h)), decide_eq_true ((lit_i t).2 hi), Bool.true_and]
      by_cases h0 : i < -128
      · exact .inr (.inr (.inr (.inl ⟨hi, h0, (e _).2 (decide_eq_false (by omega))⟩)))
      · by_cases h1 : i < 2147483648
        · exact .inr (.inr (.inr (.inr (.inr (.inl ⟨hi, by omega, h1, (e _).2 (decide_eq_true (by omega))⟩)))))
        · exact .inr (.inr (.inr (.inr (.inl ⟨hi, by omega, by omega, (e _).2 (decide_eq_false (by omega))⟩))))
    · refine .inr (.inr (.inr (.inr (.inr (.inr ⟨hu, hi, ?_⟩)))))
      unfold numberN
      rw [if_neg (fun h => hu ((lit_u t).1 h)), decide_eq_false (fun h => hi ((lit_i t).1 h)), Bool.false_and]
theorem empty_is (s : ByteArray) : s.toList.isEmpty = noText s := by
  rw [Lib.toList_data, noText, Bool.eq_iff_iff, decide_eq_true_iff, List.isEmpty_iff, ← List.length_eq_zero_iff, Array.length_toList]
  exact Iff.rfl

set_option maxHeartbeats 2000000 in
theorem ndNumber_ok (k n p i : Int) (s t : ByteArray) (w : World) : Calls Tryd.prog 51 #[.agg #[.int .i64 k, .int .i64 n, .int .i64 p, .int .i64 i, .string s, .string t]] w fun e w' => e = .returned (.bool (numberN ⟨k, n, p, i, s, t⟩)) ∧ Below w.heap.size w w' := by
  rcases number_cases (k := k) (n := n) (p := p) (s := s) i t with ⟨hu, a1, h⟩ | ⟨hu, a1, a2, h⟩ | ⟨hu, a1, a2, h⟩ | ⟨hu, a1, h⟩ | ⟨hu, a1, a2, h⟩ | ⟨hu, a1, a2, h⟩ | ⟨hu, a1, h⟩
  case' inl =>
    have q1 : (t.toList == [117]) = true := lit_eq hu rfl
  case' inr.inl =>
    have q1 : (t.toList == [117]) = true := lit_eq hu rfl
  case' inr.inr.inl =>
    have q1 : (t.toList == [117]) = true := lit_eq hu rfl
  case' inr.inr.inr.inl =>
    have q1 : (t.toList == [117]) = false := lit_eq hu rfl
    have q2 : (t.toList == [105]) = true := lit_eq hu rfl
  case' inr.inr.inr.inr.inl =>
    have q1 : (t.toList == [117]) = false := lit_eq hu rfl
    have q2 : (t.toList == [105]) = true := lit_eq hu rfl
  case' inr.inr.inr.inr.inr.inl =>
    have q1 : (t.toList == [117]) = false := lit_eq hu rfl
    have q2 : (t.toList == [105]) = true := lit_eq hu rfl
  case' inr.inr.inr.inr.inr.inr =>
    have q1 : (t.toList == [117]) = false := lit_ne hu
    have q2 : (t.toList == [105]) = false := lit_ne a1
    clear a1
  all_goals
    rw [h]
    clear hu h
    go_enter Tryd.func51, Tryd.ntmps51
    go_upto_region 1 with fail
    have hx1 : (w.alloc (ndObj ⟨k, n, p, i, s, t⟩)).heap[w.heap.size]? = some (.cells #[.int .i64 k, .int .i64 n, .int .i64 p, .int .i64 i, .string s, .string t] 43 (0, 0)) := heap_alloc_new _ _
    have hb1 : Below w.heap.size w (w.alloc (ndObj ⟨k, n, p, i, s, t⟩)) := (Below.refl _ _).alloc (Nat.le_refl _) _
    simp only [ndObj] at hx1 hb1
    generalize w.alloc (.cells #[.int .i64 k, .int .i64 n, .int .i64 p, .int .i64 i, .string s, .string t] 43) = w1 at *
    have hz1 := lt_of_heap hx1
    obtain ⟨⟨d0, d1, d2, d3, d4, d5⟩, _⟩ := six_block hx1
    have HX1 := Lib.hid hx1
    have HB1 := Lib.hid hb1
    clear hx1 hb1
    go_wp2_with fail
    go_ret
    first | exact ⟨rfl, HB1.out⟩ | exact ⟨ret_bool9 (decide_eq_false (by omega)), HB1.out⟩ | exact ⟨ret_bool9 (decide_eq_true (by omega)), HB1.out⟩
end Go.Proofs.YtlcfejgjeljjdaaDoor
