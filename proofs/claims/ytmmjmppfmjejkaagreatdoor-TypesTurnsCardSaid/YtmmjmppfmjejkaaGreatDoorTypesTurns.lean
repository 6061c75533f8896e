/- What becomes of types, and how C writes them, is as the document says: the statement's walk. -/
import Derived.Test.YtmmjmppfmjejkaaGreatDoorRefW
import Derived.Test.YtmmjmppfmjejkaaGreatDoorWorks
namespace Go.Proofs.YtmmjmppfmjejkaaGreatDoor
open Go.RowKit

theorem decay_pair (s : ByteArray) (r : Option Ty) : ∃ x e, decayV s r = .tuple #[.string x, .int .i64 e] := by
  rcases r with _ | t
  · exact ⟨_, _, rfl⟩
  · cases t with
    | base c => simp only [decayV]; split <;> exact ⟨_, _, rfl⟩
    | fn ps r => simp only [decayV]; split <;> exact ⟨_, _, rfl⟩
    | _ => exact ⟨_, _, rfl⟩
theorem promote_pair (s : ByteArray) (r : Option Ty) : ∃ x e, promoteV s r = .tuple #[.string x, .int .i64 e] := by
  rcases r with _ | t
  · exact ⟨_, _, rfl⟩
  · simp only [promoteV]; split <;> exact ⟨_, _, rfl⟩
theorem common_pair (a b : Option Ty) : ∃ x e, commonV a b = .tuple #[.string x, .int .i64 e] := by
  rcases a with _ | t
  · exact ⟨_, _, rfl⟩
  · rcases b with _ | u
    · exact ⟨_, _, rfl⟩
    · simp only [commonV]; repeat' split
      all_goals exact ⟨_, _, rfl⟩
theorem declare_pair (r : Option Ty) (n : ByteArray) : ∃ x e, declareV r n = .tuple #[.string x, .int .i64 e] := by
  rcases r with _ | t
  · exact ⟨_, _, rfl⟩
  · simp only [declareV]; split <;> exact ⟨_, _, rfl⟩
theorem text_ne (x : ByteArray) : (x.toList != x.toList) = false := by simp
theorem text_eq (x : ByteArray) : (x.toList == x.toList) = true := by simp

set_option maxRecDepth 100000 in
set_option maxHeartbeats 8000000 in
theorem typesTurns_ok (t u name : ByteArray) (w : World) (hE : TE w) : Calls Tryz.prog 4 #[.string t, .string u, .string name] w fun e w' => e = .returned (.bool true) ∧ Below w.heap.size w w' := by
  have HE := Lib.hid hE
  obtain ⟨x1, e1, q1⟩ := decay_pair t (tyS t)
  obtain ⟨x2, e2, q2⟩ := promote_pair t (tyS t)
  obtain ⟨x3, e3, q3⟩ := common_pair (tyS t) (tyS u)
  obtain ⟨x4, e4, q4⟩ := declare_pair (tyS t) name
  have H1 := fun w1 (h : TE w1) => decay_ok t w1 h
  have H2 := fun w1 => refDecay_ok t w1
  have H3 := fun w1 (h : TE w1) => promote_ok t w1 h
  have H4 := fun w1 => refPromote_ok t w1
  have H5 := fun w1 (h : TE w1) => common_ok t u w1 h
  have H6 := fun w1 => refCommon_ok t u w1
  have H7 := fun w1 (h : TE w1) => declare_ok t name w1 h
  have H8 := fun w1 => refDeclare_ok t name w1
  rw [q1] at H1 H2
  rw [q2] at H3 H4
  rw [q3] at H5 H6
  rw [q4] at H7 H8
  have K1 := Lib.hid H1
  have K2 := Lib.hid H2
  have K3 := Lib.hid H3
  have K4 := Lib.hid H4
  have K5 := Lib.hid H5
  have K6 := Lib.hid H6
  have K7 := Lib.hid H7
  have K8 := Lib.hid H8
  have K9 := Lib.hid fun w1 => isInt_is (isIntS t) t w1 rfl
  have K10 := Lib.hid fun w1 => refIsInt_is (isIntS t) t w1 rfl
  have K11 := Lib.hid fun w1 (h : TE w1) => isScalar_ok t w1 h
  have K12 := Lib.hid fun w1 => refIsScalar_ok t w1
  generalize isIntS t = b1 at *
  generalize isScalS t = b2 at *
  have p1 := text_ne x1
  have p2 := text_ne x2
  have p3 := text_eq x3
  have p4 := text_eq x4
  clear hE q1 q2 q3 q4 H1 H2 H3 H4 H5 H6 H7 H8
  have HB0 := Lib.hid (Below.refl w.heap.size w)
  go_enter Tryz.func4, Tryz.ntmps4
  have L1 := Lib.hid (K1.out w HE.out)
  go_wp2_with (go_at_call 15; (with_reducible refine L1.out.mono ?_); rintro e w1 ⟨rfl, hb⟩; have HB1 := Lib.hid (HB0.out.trans (hb.mono HB0.out.size)); have L2 := Lib.hid (K2.out w1); clear hb)
  go_wp2_with (go_at_call 16; (with_reducible refine L2.out.mono ?_); rintro e w2 ⟨rfl, hb⟩; have HB2 := Lib.hid (HB1.out.trans (hb.mono HB1.out.size)); have L3 := Lib.hid (K3.out w2 (HE.out.below HB2.out)); clear hb)
  go_wp2_with (go_at_call 17; (with_reducible refine L3.out.mono ?_); rintro e w3 ⟨rfl, hb⟩; have HB3 := Lib.hid (HB2.out.trans (hb.mono HB2.out.size)); have L4 := Lib.hid (K4.out w3); clear hb)
  go_wp2_with (go_at_call 18; (with_reducible refine L4.out.mono ?_); rintro e w4 ⟨rfl, hb⟩; have HB4 := Lib.hid (HB3.out.trans (hb.mono HB3.out.size)); have L5 := Lib.hid (K5.out w4 (HE.out.below HB4.out)); clear hb)
  go_wp2_with (go_at_call 19; (with_reducible refine L5.out.mono ?_); rintro e w5 ⟨rfl, hb⟩; have HB5 := Lib.hid (HB4.out.trans (hb.mono HB4.out.size)); have L6 := Lib.hid (K6.out w5); clear hb)
  go_wp2_with (go_at_call 20; (with_reducible refine L6.out.mono ?_); rintro e w6 ⟨rfl, hb⟩; have HB6 := Lib.hid (HB5.out.trans (hb.mono HB5.out.size)); have L7 := Lib.hid (K7.out w6 (HE.out.below HB6.out)); clear hb)
  go_wp2_with (go_at_call 21; (with_reducible refine L7.out.mono ?_); rintro e w7 ⟨rfl, hb⟩; have HB7 := Lib.hid (HB6.out.trans (hb.mono HB6.out.size)); have L8 := Lib.hid (K8.out w7); clear hb)
  go_wp2_with (go_at_call 22; (with_reducible refine L8.out.mono ?_); rintro e w8 ⟨rfl, hb⟩; have HB8 := Lib.hid (HB7.out.trans (hb.mono HB7.out.size)); have L9 := Lib.hid (K9.out w8); clear hb)
  go_wp2_with (go_at_call 23; (with_reducible refine L9.out.mono ?_); rintro e w9 ⟨rfl, hw⟩; subst w9; have HB9 := Lib.hid HB8.out; have L10 := Lib.hid (K10.out w8))
  go_wp2_with (go_at_call 24; (with_reducible refine L10.out.mono ?_); rintro e w10 ⟨rfl, hw⟩; subst w10; have HB10 := Lib.hid HB9.out; have L11 := Lib.hid (K11.out w8 (HE.out.below HB10.out)))
  go_wp2_with (go_at_call 25; (with_reducible refine L11.out.mono ?_); rintro e w11 ⟨rfl, hb⟩; have HB11 := Lib.hid (HB10.out.trans (hb.mono HB10.out.size)); have L12 := Lib.hid (K12.out w11); clear hb)
  go_wp2_with (go_at_call 26; (with_reducible refine L12.out.mono ?_); rintro e w12 ⟨rfl, hb⟩; have HB12 := Lib.hid (HB11.out.trans (hb.mono HB11.out.size)); have L13 := Lib.hid (works_ok w12 (HE.out.below HB12.out)); clear hb)
  go_wp2_with (go_at_call 14; (with_reducible refine L13.out.mono ?_); rintro e w13 ⟨rfl, hb⟩; have HB13 := Lib.hid (HB12.out.trans (hb.mono HB12.out.size)); clear hb)
  go_ret
  exact ⟨by simp, HB13.out⟩
end Go.Proofs.YtmmjmppfmjejkaaGreatDoor
