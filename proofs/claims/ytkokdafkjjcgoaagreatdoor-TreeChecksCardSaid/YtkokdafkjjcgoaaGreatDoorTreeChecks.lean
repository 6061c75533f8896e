/- Any tree is judged, and taken apart, as the document says: the law's walk. -/
import Derived.Test.YtkokdafkjjcgoaaGreatDoorTopM
namespace Go.Proofs.YtkokdafkjjcgoaaGreatDoor
open Go.RowKit

theorem NdRow.opened {w : World} {base : Nat} {v : Value} {L : List Nd} (h : NdRow w base v L) : ∃ a cap, v = .slice a L.length cap ∧ L.length ≤ cap ∧ cap ≤ maxLen ∧ IsNds w.heap.size w a L ∧ (a = none → L = [] ∧ cap = 0) := by
  obtain ⟨a, cap, hv, hN, hn⟩ := own_sl nd_len h rfl
  refine ⟨a, cap, hv, ?_, ?_, hN, hn⟩
  · rcases h.2 with ⟨e, h0⟩ | ⟨g, c, cur, e, _, _, h1, _⟩
    · omega
    · rw [hv] at e; simp only [Value.slice.injEq] at e; omega
  · rcases h.2 with ⟨e, h0⟩ | ⟨g, c, cur, e, _, _, _, h1, _⟩
    · rw [hv] at e; simp only [Value.slice.injEq] at e; rw [e.2.2]; exact Nat.zero_le _
    · rw [hv] at e; simp only [Value.slice.injEq] at e; rw [e.2.2]; exact h1
/-- a row of nodes, whatever they are -/
def SomeRow (w : World) (base : Nat) (v : Value) (n : Nat) : Prop := ∃ ys, w.ownsRow base 36 6 v n ys
theorem SomeRow.at_ {w : World} {base n cap : Nat} {a : Option Addr} (h : SomeRow w base (.slice a n cap) n) {i : Nat} (hi : i < n) : ∃ g, a = some ⟨g, 0, none⟩ ∧ base ≤ g ∧ (∀ j, j < 6 → ∃ u, w.cell? ⟨g, i * 6 + j, none⟩ = some u) ∧ ∀ j, w.frozen? ⟨g, j, none⟩ = false := by
  obtain ⟨ys, ho⟩ := h
  have hl := ho.1
  rcases ho.2 with ⟨e, h0⟩ | ⟨g, c, cur, e, hb, _⟩
  · omega
  · simp only [Value.slice.injEq] at e
    obtain ⟨rfl, _, _⟩ := e
    refine ⟨g, rfl, hb, fun j hj => ?_, fun j => ho.frozenAt j⟩
    rw [ho.cellAt _ (by omega)]
    exact ⟨_, List.getElem?_eq_getElem (by omega)⟩
theorem SomeRow.set {w : World} {base n cap g o : Nat} {u : Value} (h : SomeRow w base (.slice (some ⟨g, 0, none⟩) n cap) n) : SomeRow (w.setCell ⟨g, o, none⟩ u) base (.slice (some ⟨g, 0, none⟩) n cap) n := by
  obtain ⟨ys, ho⟩ := h
  exact ⟨_, (ho.stored o u).1⟩

theorem parts_le (t : List Nd) (i : Int) : (partsR t i).1.length ≤ 4096 := by
  unfold partsR
  split
  · exact Nat.zero_le _
  split
  · exact Nat.zero_le _
  · rename_i hc hi
    have hc : checkN9 t = 0 := by simpa using hc
    obtain ⟨fr, hb, hG⟩ := check_formed hc
    rw [hb]
    have hk : i.toNat < t.length := by omega
    show (partsAt t fr i.toNat).length ≤ 4096
    rw [partsAt_is (List.getElem?_eq_getElem hk), partsE_length]
    have := (hG.formed.node _ _ (List.getElem?_eq_getElem hk)).2.1.le
    have := hG.le
    omega
theorem sub_le (t : List Nd) (i : Int) : (subR t i).1.length ≤ t.length := by
  unfold subR
  split
  · exact Nat.zero_le _
  split
  · exact Nat.zero_le _
  · show (subT t _ _).length ≤ _
    unfold subT
    rw [List.length_take, List.length_drop]
    omega
theorem ba_set {B g : Nat} {w w' : World} (h : Below B w w') (hg : B ≤ g) (o : Nat) (u : Value) : Below B w (w'.setCell ⟨g, o, none⟩ u) := h.setCell hg _
set_option maxRecDepth 100000 in
set_option maxHeartbeats 8000000 in
theorem treeChecks_ok (a : Option Addr) (cap : Nat) (t : List Nd) (i : Int) (w : World) (hE : TE w) (hI : IsNds w.heap.size w a t) (hOk : ∀ x ∈ t, NdOk x) (hz : t.length * 64 ≤ 140737488351232) (hcap : t.length ≤ cap) (hcm : cap ≤ maxLen) (hnil : a = none → t = [] ∧ cap = 0) :
    Calls Tryz.prog 3 #[.slice a t.length cap, .int .i64 i] w fun e w' => e = .returned (.bool true) ∧ Below w.heap.size w w' := by
  have HI := Lib.hid hI
  have HE := Lib.hid hE
  have HCo := Lib.hid (copyTree_ok a cap t w hI hz hnil)
  have K1 := Lib.hid (fun a1 c1 w1 (hE : TE w1) (hI : IsNds w1.heap.size w1 a1 t) => treeCheck_ok a1 c1 t w1 hE hI hOk hz)
  have K2 := Lib.hid (fun w1 (hI : IsNds w1.heap.size w1 a t) => refCheck9_ok a cap t w1 hI hOk hz)
  have K3 := Lib.hid (fun a1 c1 w1 (hE : TE w1) (hI : IsNds w1.heap.size w1 a1 t) => treeParts_ok a1 c1 t i w1 hE hI hOk hz)
  have K4 := Lib.hid (fun w1 (hI : IsNds w1.heap.size w1 a t) => refParts9_ok a cap t i w1 hI hOk hz)
  have K5 := Lib.hid (fun a1 c1 w1 (hE : TE w1) (hI : IsNds w1.heap.size w1 a1 t) (h1 : t.length ≤ c1) (h2 : c1 ≤ maxLen) => treeSub_ok a1 c1 t i w1 hE hI hOk hz h1 h2)
  have K6 := Lib.hid (fun w1 (hI : IsNds w1.heap.size w1 a t) => refSub9_ok a cap t i w1 hI hOk hz hcap hcm)
  have K7 := Lib.hid (fun a1 b1 c1 d1 w1 hA hB => sameInts_ok a1 b1 c1 d1 (partsR t i).1 w1 hA hB (parts_le t i))
  have hsl := sub_le t i
  have K8 := Lib.hid (fun a1 b1 c1 d1 w1 hA hB => sameTree_ok a1 b1 c1 d1 (subR t i).1 w1 hA hB (by omega))
  have K9 := Lib.hid (fun a1 b1 c1 d1 w1 hA hB => sameTree_ok a1 b1 c1 d1 t w1 hA hB hz)
  unfold PartsEnd at K3 K4
  unfold SubEnd at K5 K6
  generalize checkN9 t = c at *
  generalize (partsR t i).2 = pc at *
  generalize (partsR t i).1 = P at *
  generalize (subR t i).2 = sc at *
  generalize (subR t i).1 = S at *
  clear hI hE hOk hnil
  go_enter Tryz.func3, Tryz.ntmps3
  go_upto_region 2 with (go_at_call 9; (with_reducible refine HCo.out.mono ?_); rintro e w1 ⟨⟨v, rfl, hr⟩, hb⟩; obtain ⟨a1, c1, rfl, h1, h2, hN, _⟩ := hr.opened; have HB1 := Lib.hid hb; have HN1 := Lib.hid hN; have HC1 := Lib.hid (And.intro h1 h2); clear hr hb hN h1 h2)
  have L1 := Lib.hid (K1.out a1 c1 w1 (HE.out.below HB1.out) HN1.out)
  go_wp2_with (go_at_call 10; (with_reducible refine L1.out.mono ?_); rintro e w2 ⟨rfl, hb⟩; have HB2 := Lib.hid (HB1.out.trans (hb.mono HB1.out.size)); have HN2 := Lib.hid ((HN1.out.below hb (Nat.le_refl _)).mono hb.size); have L2 := Lib.hid (K2.out w2 ((HI.out.below HB2.out (Nat.le_refl _)).mono HB2.out.size)); clear hb)
  go_upto_region 4 with (go_at_call 11; (with_reducible refine L2.out.mono ?_); rintro e w3 ⟨rfl, hb⟩; have HB3 := Lib.hid (HB2.out.trans (hb.mono HB2.out.size)); have HN3 := Lib.hid ((HN2.out.below hb (Nat.le_refl _)).mono hb.size); have L3 := Lib.hid (K3.out a1 c1 w3 (HE.out.below HB3.out) HN3.out); clear hb)
  go_upto_region 5 with (go_at_call 12; (with_reducible refine L3.out.mono ?_); rintro e w4 ⟨⟨vp, rfl, hr⟩, hb⟩; obtain ⟨ap, cp, rfl, hNp, _⟩ := hr.is; have HB4 := Lib.hid (HB3.out.trans (hb.mono HB3.out.size)); have HN4 := Lib.hid ((HN3.out.below hb (Nat.le_refl _)).mono hb.size); have HP4 := Lib.hid hNp; have L4 := Lib.hid (K4.out w4 ((HI.out.below HB4.out (Nat.le_refl _)).mono HB4.out.size)); clear hb hr hNp)
  go_upto_region 6 with (go_at_call 13; (with_reducible refine L4.out.mono ?_); rintro e w5 ⟨⟨vq, rfl, hr⟩, hb⟩; obtain ⟨aq, cq, rfl, hNq, _⟩ := hr.is; have HB5 := Lib.hid (HB4.out.trans (hb.mono HB4.out.size)); have HN5 := Lib.hid ((HN4.out.below hb (Nat.le_refl _)).mono hb.size); have HP5 := Lib.hid ((HP4.out.below hb (Nat.le_refl _)).mono hb.size); have L5 := Lib.hid (K7.out ap aq cp cq w5 HP5.out hNq); clear hb hr hNq)
  go_upto_region 8 with (go_at_call 14; (with_reducible refine L5.out.mono ?_); rintro e w6 ⟨rfl, hb⟩; have HB6 := Lib.hid (HB5.out.trans (hb.mono HB5.out.size)); have HN6 := Lib.hid ((HN5.out.below hb (Nat.le_refl _)).mono hb.size); have L6 := Lib.hid (K5.out a1 c1 w6 (HE.out.below HB6.out) HN6.out HC1.out.1 HC1.out.2); clear hb)
  go_upto_region 9 with (go_at_call 15; (with_reducible refine L6.out.mono ?_); rintro e w7 ⟨⟨vs, rfl, hr⟩, hb⟩; obtain ⟨ax, cs, rfl, _, _, hNs, _⟩ := hr.opened; have HB7 := Lib.hid (HB6.out.trans (hb.mono HB6.out.size)); have HN7 := Lib.hid (HN6.out.below hb (Nat.le_refl _)); have HR7 := Lib.hid (show SomeRow w7 w6.heap.size (.slice ax S.length cs) S.length from ⟨_, hr⟩); have HB67 := Lib.hid hb; have HS7 := Lib.hid hNs; have L7 := Lib.hid (K6.out w7 ((HI.out.below HB7.out (Nat.le_refl _)).mono HB7.out.size)); clear hb hr hNs)
  go_upto_region 10 with (go_at_call 16; (with_reducible refine L7.out.mono ?_); rintro e w8 ⟨⟨vr, rfl, hr⟩, hb⟩; obtain ⟨ay, cr, rfl, _, _, hNr, _⟩ := hr.opened; have HB8 := Lib.hid (HB7.out.trans (hb.mono HB7.out.size)); have HB68 := Lib.hid (HB67.out.trans (hb.mono HB67.out.size)); have HR8 := Lib.hid (show SomeRow w8 w6.heap.size (.slice ax S.length cs) S.length from ⟨_, HR7.out.choose_spec.belowed hb⟩); have HS8 := Lib.hid ((HS7.out.below hb (Nat.le_refl _)).mono hb.size); have L8 := Lib.hid (K8.out ax ay cs cr w8 HS8.out hNr); clear hb hr hNr)
  go_upto_region 12 with (go_at_call 17; (with_reducible refine L8.out.mono ?_); rintro e w9 ⟨rfl, hb⟩; have HB9 := Lib.hid (HB8.out.trans (hb.mono HB8.out.size)); have HB69 := Lib.hid (HB68.out.trans (hb.mono HB68.out.size)); have HR9 := Lib.hid (show SomeRow w9 w6.heap.size (.slice ax S.length cs) S.length from ⟨_, HR8.out.choose_spec.belowed hb⟩); clear hb)
  go_wp2_with fail
  go_loopg [12] S.length (fun m v12 wy => ∃ k : Nat, k ≤ S.length ∧ k + m = S.length ∧ v12 = .int .i64 (k : Int) ∧ Hid (SomeRow wy w6.heap.size (.slice ax S.length cs) S.length) ∧ Hid (Below w6.heap.size w6 wy))
  case atStart => exact ⟨0, by omega, by omega, rfl, HR9, HB69⟩
  case round =>
    obtain ⟨k, hk, hkm, rfl, HR, HB⟩ := hrel
    by_cases hlt : k < S.length
    · obtain ⟨g, hg, hge, hcl, hfz⟩ := HR.out.at_ hlt
      subst hg
      obtain ⟨u0, q0⟩ := hcl 0 (by omega)
      obtain ⟨u1, q1⟩ := hcl 1 (by omega)
      obtain ⟨u2, q2⟩ := hcl 2 (by omega)
      obtain ⟨u3, q3⟩ := hcl 3 (by omega)
      obtain ⟨u4, q4⟩ := hcl 4 (by omega)
      obtain ⟨u5, q5⟩ := hcl 5 (by omega)
      rw [Nat.add_zero] at q0
      clear hcl
      go_wp2_with fail
      go_roundg (S.length - (k + 1))
      case measure => omega
      case rel => exact ⟨k + 1, by omega, by omega, by rw [Int.natCast_add]; rfl, Lib.hid (HR.out.set.set.set.set.set.set), Lib.hid (ba_set (ba_set (ba_set (ba_set (ba_set (ba_set HB.out hge _ _) hge _ _) hge _ _) hge _ _) hge _ _) hge _ _)⟩
    · obtain rfl : k = S.length := by omega
      have HBr := Lib.hid (HB6.out.trans (HB.out.mono HB6.out.size))
      have L9 := Lib.hid (K9.out a1 a c1 cap wr ((HN6.out.below HB.out (Nat.le_refl _)).mono HB.out.size) ((HI.out.below HBr.out (Nat.le_refl _)).mono HBr.out.size))
      go_wp2_with (go_at_call 17; (with_reducible refine L9.out.mono ?_); rintro e w10 ⟨rfl, hb⟩; have HB10 := Lib.hid (HBr.out.trans (hb.mono HBr.out.size)); clear hb)
      go_ret
      exact ⟨rfl, HB10.out⟩
end Go.Proofs.YtkokdafkjjcgoaaGreatDoor

