/- Bytes, alignment and scalars, and where members stand: the statement's walk. -/
import Derived.Test.YtmmjmppfmjejkaaGreatDoorRefScal2
import Derived.Test.YtmmjmppfmjejkaaGreatDoorRefMember
import Derived.Test.YtmmjmppfmjejkaaGreatDoorOwnM
import Derived.Test.YtmmjmppfmjejkaaGreatDoorWorks
namespace Go.Proofs.YtmmjmppfmjejkaaGreatDoor
open Go.RowKit

theorem member_hok {L : List Sr} : ∀ K, learnK L = .inr K → ∀ x ∈ L, MemsOk K x.mems := fun K h x hx => by
  have hk := learnK_knows h
  obtain ⟨i, hi, rfl⟩ := List.getElem_of_mem hx
  have hKl : K.length = L.length := by rw [← hk.list, List.length_map]
  have hLi : L[i] = (K[i]'(by omega)).toSr := by simp [← hk.list]
  rw [hLi]
  exact mems_okK hk.good hk.fit (by omega)

set_option maxRecDepth 100000 in
set_option maxHeartbeats 8000000 in
theorem typesSizes_ok (t : ByteArray) (a : Option Addr) (cap : Nat) (L : List Sr) (mv : List Value) (name member : ByteArray) (w : World) (hE : TE w) (hS : IsSrs w.heap.size w a L mv) (hcap : L.length ≤ cap) (hcm : cap ≤ maxLen) (hz : L.length * 40 ≤ 140737488351232) (hm : ∀ x ∈ L, x.mems.length * 32 ≤ 140737488351232) (hnil : ∀ v ∈ mv, ∀ n c, v = .slice none n c → n = 0 ∧ c = 0) (hn : name.size ≤ maxLen) :
    Calls Tryz.prog 5 #[.string t, .slice a L.length cap, .string name, .string member] w fun e w' => e = .returned (.bool true) ∧ Below w.heap.size w w' := by
  have HE := Lib.hid hE
  have HS := Lib.hid hS
  have HLe := Lib.hid (lent_ok a cap L mv w hS hz hm hnil)
  have K1 := fun a1 c1 mv1 w1 (h : TE w1) (hs : IsSrs w1.heap.size w1 a1 L mv1) => size_ok t a1 c1 L mv1 w1 h hs
  have K2 := fun w1 (hs : IsSrs w1.heap.size w1 a L mv) => refSizeAll_ok t a cap L mv w1 hs hcap hcm
  have K3 := fun a1 c1 mv1 w1 (h : TE w1) (hs : IsSrs w1.heap.size w1 a1 L mv1) => scalars_ok t a1 c1 L mv1 w1 h hs
  have K4 := fun w1 (hs : IsSrs w1.heap.size w1 a L mv) => refScalars_ok t a cap L mv w1 hs hcap hcm
  have K5 := fun a1 c1 mv1 w1 (h : TE w1) (hs : IsSrs w1.heap.size w1 a1 L mv1) => member_ok name member a1 c1 L mv1 w1 h hs hn member_hok
  have K6 := fun w1 (hs : IsSrs w1.heap.size w1 a L mv) => refMember_ok name member a cap L mv w1 hs hcap hcm
  have K7 := fun a1 c1 mv1 w1 (hA : IsSrs w1.heap.size w1 a1 L mv1) (hB : IsSrs w1.heap.size w1 a L mv) => kept_ok a1 a c1 cap L mv1 mv w1 hA hB hz hm
  have hpl : ((scalarsN L t).1.length : Int) ≤ 4096 := by
    unfold scalarsN
    split
    · simp
    · split
      · split
        · rename_i h; simp only; omega
        · simp
      · simp
  unfold ScalEnd at K3 K4
  unfold MemberEnd at K6
  generalize (sizeR L t).1 = n1 at *
  generalize (sizeR L t).2.1 = n2 at *
  generalize (sizeR L t).2.2 = n3 at *
  generalize (scalarsN L t).1 = ps at *
  generalize (scalarsN L t).2 = n4 at *
  generalize (memberR L name member).1 = n5 at *
  generalize (memberR L name member).2.1 = sx at *
  generalize (memberR L name member).2.2 = n6 at *
  have H1 := Lib.hid K1
  have H2 := Lib.hid K2
  have H3 := Lib.hid K3
  have H4 := Lib.hid K4
  have H5 := Lib.hid K5
  have H6 := Lib.hid K6
  have H7 := Lib.hid K7
  have q1 : (sx.toList == sx.toList) = true := by simp
  clear hE hS hcap hcm hz hm hnil hn K1 K2 K3 K4 K5 K6 K7
  go_enter Tryz.func5, Tryz.ntmps5
  go_wp2_with (go_at_call 6; (with_reducible refine HLe.out.mono ?_); rintro e w1 ⟨⟨a1, c1, mv1, rfl, hs1⟩, hb⟩; have HB1 := Lib.hid hb; have HS1 := Lib.hid hs1; have L1 := Lib.hid (H1.out a1 c1 mv1 w1 (HE.out.below hb) hs1); clear hb hs1)
  go_wp2_with (go_at_call 27; (with_reducible refine L1.out.mono ?_); rintro e w2 ⟨rfl, hb⟩; have HB2 := Lib.hid (HB1.out.trans (hb.mono HB1.out.size)); have HS2 := Lib.hid ((HS1.out.below hb).mono hb.size); have L2 := Lib.hid (H2.out w2 ((HS.out.below HB2.out).mono HB2.out.size)); clear hb)
  go_wp2_with (go_at_call 28; (with_reducible refine L2.out.mono ?_); rintro e w3 ⟨rfl, hb⟩; have HB3 := Lib.hid (HB2.out.trans (hb.mono HB2.out.size)); have HS3 := Lib.hid ((HS2.out.below hb).mono hb.size); have L3 := Lib.hid (H3.out a1 c1 mv1 w3 (HE.out.below HB3.out) HS3.out); clear hb)
  go_wp2_with (go_at_call 29; (with_reducible refine L3.out.mono ?_); rintro e w4 ⟨⟨a4, c4, rfl, hp4⟩, hb⟩; have HB4 := Lib.hid (HB3.out.trans (hb.mono HB3.out.size)); have HS4 := Lib.hid ((HS3.out.below hb).mono hb.size); have HP4 := Lib.hid hp4; have L4 := Lib.hid (H4.out w4 ((HS.out.below HB4.out).mono HB4.out.size)); clear hb hp4)
  go_wp2_with (go_at_call 30; (with_reducible refine L4.out.mono ?_); rintro e w5 ⟨⟨a5, c5, rfl, hp5⟩, hb⟩; have HB5 := Lib.hid (HB4.out.trans (hb.mono HB4.out.size)); have HS5 := Lib.hid ((HS4.out.below hb).mono hb.size); have HP5 := Lib.hid hp5; have HP4' := Lib.hid ((HP4.out.below hb (Nat.le_refl _)).mono hb.size); clear hb hp5)
  go_loopg [80] ps.length (fun g v80 wy => ∃ i : Nat, i ≤ ps.length ∧ i + g = ps.length ∧ v80 = .int .i64 (i : Int) ∧ Hid (Below w5.heap.size w5 wy))
  case atStart => exact ⟨0, by omega, by omega, rfl, Below.refl _ _⟩
  case round =>
    obtain ⟨i, hi, hig, rfl, HW⟩ := hrel
    by_cases hlt : i < ps.length
    · obtain ⟨b4, o4, ha4, hb4, hc4⟩ := HP4'.out (fun e => by rw [e] at hlt; simp at hlt)
      obtain ⟨b5, o5, ha5, hb5, hc5⟩ := HP5.out (fun e => by rw [e] at hlt; simp at hlt)
      subst ha4 ha5
      have d0 := hc4 i _ (List.getElem?_eq_getElem hlt) 0 _ rfl
      have d1 := hc4 i _ (List.getElem?_eq_getElem hlt) 1 _ rfl
      have e0 := hc5 i _ (List.getElem?_eq_getElem hlt) 0 _ rfl
      have e1 := hc5 i _ (List.getElem?_eq_getElem hlt) 1 _ rfl
      rw [← HW.out.cell hb4] at d0 d1
      rw [← HW.out.cell hb5] at e0 e1
      generalize ps[i]'hlt = q at *
      obtain ⟨x, u⟩ := q
      have hil : (i : Int) < (ps.length : Int) := by omega
      have z1 : ((tyB u).toList != (tyB u).toList) = false := by simp
      have z2 : ((tyB u).toList == (tyB u).toList) = true := by simp
      simp only [Nat.add_zero] at d0 d1 e0 e1
      generalize tyB u = tu at *
      clear hc4 hc5
      go_wp2_with fail
      go_quiet (fail)
      go_wp2_with fail
      go_roundg (ps.length - (i + 1))
      case measure => omega
      case rel => exact ⟨i + 1, by omega, by omega, by rw [Int.natCast_add]; rfl, HW.out.trans ((Below.drewN' _ _).mono HW.out.size)⟩
    · obtain rfl : i = ps.length := by omega
      have t3 : (ps.length : Int) ≤ (ps.length : Int) := Int.le_refl _
      have HB6 := Lib.hid (HB5.out.trans (HW.out.mono HB5.out.size))
      have HS6 := Lib.hid ((HS5.out.below HW.out).mono HW.out.size)
      have L5 := Lib.hid (H5.out a1 c1 mv1 wr (HE.out.below HB6.out) HS6.out)
      go_wp2_with (go_at_call 31; (with_reducible refine L5.out.mono ?_); rintro e w7 ⟨rfl, hb⟩; have HB7 := Lib.hid (HB6.out.trans (hb.mono HB6.out.size)); have HS7 := Lib.hid ((HS6.out.below hb).mono hb.size); have L6 := Lib.hid (H6.out w7 ((HS.out.below HB7.out).mono HB7.out.size)); clear hb)
      go_wp2_with (go_at_call 32; (with_reducible refine L6.out.mono ?_); rintro e w8 ⟨rfl, hb⟩; have HB8 := Lib.hid (HB7.out.trans (hb.mono HB7.out.size)); have HS8 := Lib.hid ((HS7.out.below hb).mono hb.size); have L7 := Lib.hid (H7.out a1 c1 mv1 w8 HS8.out ((HS.out.below HB8.out).mono HB8.out.size)); clear hb)
      go_wp2_with (go_at_call 13; (with_reducible refine L7.out.mono ?_); rintro e w9 ⟨rfl, hb⟩; have HB9 := Lib.hid (HB8.out.trans (hb.mono HB8.out.size)); have L8 := Lib.hid (works_ok w9 (HE.out.below HB9.out)); clear hb)
      go_wp2_with (go_at_call 14; (with_reducible refine L8.out.mono ?_); rintro e w10 ⟨rfl, hb⟩; have HB10 := Lib.hid (HB9.out.trans (hb.mono HB9.out.size)); clear hb)
      go_ret
      exact ⟨by simp, HB10.out⟩
end Go.Proofs.YtmmjmppfmjejkaaGreatDoor
