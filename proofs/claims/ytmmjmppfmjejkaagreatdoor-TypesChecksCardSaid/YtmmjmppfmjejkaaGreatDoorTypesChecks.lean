/- Which codes are types, and which structs are right: the statement's walk. -/
import Derived.Test.YtmmjmppfmjejkaaGreatDoorOwnM
import Derived.Test.YtmmjmppfmjejkaaGreatDoorChecks
import Derived.Test.YtmmjmppfmjejkaaGreatDoorWorks
import Derived.Lib.QuietBelow
namespace Go.Proofs.YtmmjmppfmjejkaaGreatDoor
open Go.RowKit Go.Sort

set_option maxRecDepth 100000 in
set_option maxHeartbeats 8000000 in
theorem typesChecks_ok (t : ByteArray) (a : Option Addr) (cap : Nat) (L : List Sr) (mv : List Value) (w : World) (hE : TE w) (hS : IsSrs w.heap.size w a L mv) (hcap : L.length ≤ cap) (hcm : cap ≤ maxLen) (hz : L.length * 40 ≤ 140737488351232) (hm : ∀ x ∈ L, x.mems.length * 32 ≤ 140737488351232) (hnil : ∀ v ∈ mv, ∀ n c, v = .slice none n c → n = 0 ∧ c = 0) :
    Calls Tryz.prog 3 #[.string t, .slice a L.length cap] w fun e w' => e = .returned (.bool true) ∧ Below w.heap.size w w' := by
  have HE := Lib.hid hE
  have HS := Lib.hid hS
  have HLe := Lib.hid (lent_ok a cap L mv w hS hz hm hnil)
  have K1 := fun a1 c1 mv1 w1 (h : TE w1) (hs : IsSrs w1.heap.size w1 a1 L mv1) => structs_ok a1 c1 L mv1 w1 h hs
  have K2 := fun w1 (hs : IsSrs w1.heap.size w1 a L mv) => refStructs_ok a cap L mv w1 hs hcap hcm
  have K3 := fun a1 c1 mv1 w1 (h : TE w1) (hs : IsSrs w1.heap.size w1 a1 L mv1) => checkAll_ok t a1 c1 L mv1 w1 h hs
  have K4 := fun w1 (hs : IsSrs w1.heap.size w1 a L mv) => refCheckAll_ok t a cap L mv w1 hs hcap hcm
  have K5 := fun w1 (h : TE w1) => form_is (tyS t).isSome t w1 h rfl
  have K6 := fun w1 => refForm_is (tyS t).isSome t w1 rfl
  have K7 := fun a1 c1 mv1 w1 (hA : IsSrs w1.heap.size w1 a1 L mv1) (hB : IsSrs w1.heap.size w1 a L mv) => kept_ok a1 a c1 cap L mv1 mv w1 hA hB hz hm
  unfold StructsEnd at K1 K2
  generalize (faultN L).1 = x at *
  generalize (faultN L).2 = c at *
  generalize checkN L t = n at *
  generalize (tyS t).isSome = b at *
  have H1 := Lib.hid K1
  have H2 := Lib.hid K2
  have H3 := Lib.hid K3
  have H4 := Lib.hid K4
  have H5 := Lib.hid K5
  have H6 := Lib.hid K6
  have H7 := Lib.hid K7
  clear hE hS hcap hcm hz hm hnil K1 K2 K3 K4 K5 K6 K7
  go_enter Tryz.func3, Tryz.ntmps3
  go_wp2_with (go_at_call 6; (with_reducible refine HLe.out.mono ?_); rintro e w1 ⟨⟨a1, c1, mv1, rfl, hs1⟩, hb⟩; have HB1 := Lib.hid hb; have HS1 := Lib.hid hs1; have L1 := Lib.hid (H1.out a1 c1 mv1 w1 (HE.out.below hb) hs1); clear hb hs1)
  go_wp2_with (go_at_call 7; (with_reducible refine L1.out.mono ?_); rintro e w2 ⟨rfl, hb⟩; have HB2 := Lib.hid (HB1.out.trans (hb.mono HB1.out.size)); have HS2 := Lib.hid ((HS1.out.below hb).mono hb.size); have L2 := Lib.hid (H3.out a1 c1 mv1 w2 (HE.out.below HB2.out) HS2.out); clear hb)
  go_upto_region 3 with (go_at_call 8; (with_reducible refine L2.out.mono ?_); rintro e w3 ⟨rfl, hb⟩; have HB3 := Lib.hid (HB2.out.trans (hb.mono HB2.out.size)); have HS3 := Lib.hid ((HS2.out.below hb).mono hb.size); clear hb)
  have hk := fault_blk w3 (.int .i64 x) (.int .i64 c)
  have hb4 : Below w3.heap.size w3 (w3.alloc (.cells #[.int .i64 x, .int .i64 c] 27)) := (Below.refl _ _).alloc (Nat.le_refl _) _
  generalize w3.alloc (.cells #[.int .i64 x, .int .i64 c] 27) = wb at *
  obtain ⟨⟨k0, k1⟩, _⟩ := two_block hk
  have HB4 := Lib.hid (HB3.out.trans (hb4.mono HB3.out.size))
  have HS4 := Lib.hid ((HS3.out.below hb4).mono hb4.size)
  have hHB := fun d os => HB4.out.trans ((below_regrown wb d os).mono HB4.out.size)
  have hHA := fun d os => (HS4.out.below (below_regrown wb d os)).mono (below_regrown wb d os).size
  have hHS := fun d os => (HS.out.below (hHB d os)).mono (hHB d os).size
  have q0 := fun d os => cell_regrown k0 d os
  have q1 := fun d os => cell_regrown k1 d os
  have C5 := fun d os => Calls.regrown_of (H5.out _ (HE.out.below (hHB d os)))
  have C6 := fun d os => Calls.regrown_of (H6.out (grow (redrawn wb d) os))
  have C2 := fun d os => Calls.regrown_of (H2.out _ (hHS d os))
  have C4 := fun d os => Calls.regrown_of (H4.out _ (hHS d os))
  have C7 := fun d os => Calls.regrown_of (H7.out a1 c1 mv1 _ (hHA d os) (hHS d os))
  have C8 := fun d os => Calls.regrown_of (works_ok _ (HE.out.below (hHB d os)))
  have D5 := Lib.hid C5
  have D6 := Lib.hid C6
  have D2 := Lib.hid C2
  have D4 := Lib.hid C4
  have D7 := Lib.hid C7
  have D8 := Lib.hid C8
  clear hHB hHA hHS C5 C6 C2 C4 C7 C8 hk hb4
  refine wp_region_quiet_below (by kernel_rfl) (by kernel_rfl) ?_
  repeat (go_big_quiet_step (first | exact D5.out _ _ | exact D6.out _ _ | exact D2.out _ _ | exact D4.out _ _ | exact D7.out _ _ | exact D8.out _ _))
  refine wpQuiet_nil ?_
  intro _ hw'
  obtain ⟨⟨dq, osq⟩, hw''⟩ := hw'
  subst hw''
  go_wp2
  go_ret
  exact ⟨by simp, HB4.out.trans ((below_regrown wb dq osq).mono HB4.out.size)⟩
end Go.Proofs.YtmmjmppfmjejkaaGreatDoor
