/- What single operations come to, of any numbers of any types, is as the document says: the law. -/
import Derived.Test.YtlcfejgjeljjdaaGreatDoorFoldRC
import Derived.Test.YtlcfejgjeljjdaaGreatDoorFoldWk
namespace Go.Proofs.YtlcfejgjeljjdaaGreatDoor
open Go.RowKit

set_option maxRecDepth 100000 in
set_option maxHeartbeats 2000000 in
theorem foldReckons_ok (m : ByteArray) (a : Int) (x : ByteArray) (b : Int) (y : ByteArray) (w : World) (hE : TE w) :
    Calls Tryz.prog 4 #[.string m, .int .i64 a, .string x, .int .i64 b, .string y] w fun e w' => e = .returned (.bool true) ∧ Below w.heap.size w w' := by
  have HE := Lib.hid hE
  have HB1 := Lib.hid (ebinary_ok m a x b y w hE)
  have HB2 := Lib.hid (fun w => rbinary_ok m a x b y w)
  have HU1 := Lib.hid (fun w hE => eunary_ok m a x w hE)
  have HU2 := Lib.hid (fun w => runary_ok m a x w)
  have HC1 := Lib.hid (fun w => convert_ok a x w)
  have HC2 := Lib.hid (fun w => rconvert_ok a x w)
  have HW := Lib.hid (fun w hE => works12_ok w hE)
  unfold trip at HB1 HB2 HU1 HU2
  clear hE
  generalize binE m a x b y = p at *
  generalize unE m a x = q at *
  generalize convE a x = r at *
  obtain ⟨p1, p2, p3⟩ := p
  obtain ⟨q1, q2, q3⟩ := q
  obtain ⟨r1, r2⟩ := r
  simp only at HB1 HB2 HU1 HU2 HC1 HC2
  go_enter Tryz.func4, Tryz.ntmps4
  go_wp2_with (first
    | (go_at_call 13; (with_reducible refine HB1.out.mono ?_); rintro e w1 ⟨rfl, hb1⟩; have HBa := Lib.hid hb1; clear hb1)
    | (go_at_call 14; (with_reducible refine (HB2.out _).mono ?_); rintro e w2 ⟨rfl, hb2⟩; have HBb := Lib.hid (HBa.out.trans (hb2.mono HBa.out.size)); clear hb2)
    | (go_at_call 15; (with_reducible refine (HU1.out _ (HE.out.below HBb.out)).mono ?_); rintro e w3 ⟨rfl, hb3⟩; have HBc := Lib.hid (HBb.out.trans (hb3.mono HBb.out.size)); clear hb3)
    | (go_at_call 16; (with_reducible refine (HU2.out _).mono ?_); rintro e w4 ⟨rfl, hb4⟩; have HBd := Lib.hid (HBc.out.trans (hb4.mono HBc.out.size)); clear hb4)
    | (go_at_call 17; (with_reducible refine (HC1.out _).mono ?_); rintro e wc ⟨rfl, hwc⟩; subst wc)
    | (go_at_call 18; (with_reducible refine (HC2.out _).mono ?_); rintro e wc ⟨rfl, hwc⟩; subst wc)
    | (go_at_call 12; (with_reducible refine (HW.out _ (HE.out.below HBd.out)).mono ?_); rintro e w5 ⟨rfl, hb5⟩; have HBe := Lib.hid (HBd.out.trans (hb5.mono HBd.out.size)); clear hb5))
  go_ret
  exact ⟨rfl, HBe.out⟩
end Go.Proofs.YtlcfejgjeljjdaaGreatDoor

