/- The reference's Elem, Sign, Decay, IsScalar. -/
import Derived.Test.YtbbaooeioogijaaGreatDoorMg20
import Derived.Test.YtbbaooeioogijaaGreatDoorMg9
namespace Go.Proofs.YtbbaooeioogijaaGreatDoor
open Go.RowKit
theorem refKind_is (m:Int) (t:Ty) (w:World) (hm:((headT t).toNat:Int) = m):Calls Tryz.prog 93 #[.string (tyB t)] w fun e w'=>e = .returned (.int .u8 m) ∧ w' = w:=by subst hm;exact refKind_ok t w
theorem refSign_none (s:ByteArray) (w:World) (h:tyS s = none):Calls Tryz.prog 62 #[.string s] w (SignP (tyS s) w):=by
 have HF:=Hd (refForm_is false s w (by rw [h];rfl))
 have H:=Hd h
 clear h
 go_enter Tryz.func62,Tryz.ntmps62
 go_wp2_with (go_at_call 92;(with_reducible refine HF.out.mono ?_);rintro e w1 ⟨rfl,hb1⟩)
 go_ret3
 exact signP_no H.out hb1
set_option maxHeartbeats 1000000 in
theorem refSign_other (t:Ty) (w:World) (h:tyS (tyB t) = some t) (h1:headT t ≠ 102) (hf:isFnT t = false):Calls Tryz.prog 62 #[.string (tyB t)] w (SignP (some t) w):=by
 have HF:=Hd (refForm_is true (tyB t) w (by rw [h];rfl))
 have HN:=Hd hf
 have HK:=Hd (fun w=>refKind_ok t w)
 have t1:(((headT t).toNat:Int) != 102) = true:=(byte_ne h1 rfl).2
 clear h h1 hf
 generalize tyB t = s at *
 generalize headT t = c at *
 go_enter Tryz.func62,Tryz.ntmps62
 go_wp2_with (first | (go_at_call 92;(with_reducible refine HF.out.mono ?_);rintro e w1 ⟨rfl,hb1⟩;have HB1:=Hd hb1;clear hb1) | (go_at_call 93;(with_reducible refine (HK.out _).mono ?_);rintro e w2 ⟨rfl,hw2⟩;subst w2))
 go_ret3
 exact signP_other HN.out HB1.out
set_option maxHeartbeats 1000000 in
theorem refSign_fn (ps:List Ty) (r:Ty) (w:World) (h:tyS (tyB (.fn ps r)) = some (.fn ps r)):Calls Tryz.prog 62 #[.string (tyB (.fn ps r))] w (SignP (some (.fn ps r)) w):=by
 obtain ⟨_,hr,hl⟩:=tyS_some.1 h
 have HF:=Hd (refForm_is true (tyB (.fn ps r)) w (by rw [h];rfl))
 have HS:=Hd (fun w=>refSplit_fn ps r w hr hl)
 have HK:=Hd (fun w=>refKind_is 102 (.fn ps r) w rfl)
 generalize tyB (.fn ps r) = s at *
 clear h hr hl
 go_enter Tryz.func62,Tryz.ntmps62
 go_wp2_with (first | (go_at_call 92;(with_reducible refine HF.out.mono ?_);rintro e w1 ⟨rfl,hb1⟩;have HB1:=Hd hb1;clear hb1) | (go_at_call 93;(with_reducible refine (HK.out _).mono ?_);rintro e w2 ⟨rfl,hw2⟩;subst w2) | (go_at_call 94;(with_reducible refine (HS.out _).mono ?_);rintro e w3 ⟨⟨v,rfl,ho⟩,hb3⟩;have HO:=Hd ho;have HB3:=Hd hb3;clear ho hb3))
 go_ret3
 exact ⟨⟨v,rfl,own_leT HO.out HB1.out.size⟩,HB1.out.trans (HB3.out.mono HB1.out.size)⟩
theorem refSign_ok (s:ByteArray) (w:World):Calls Tryz.prog 62 #[.string s] w (SignP (tyS s) w):=by
 rcases h:tyS s with _ | t
 ·rw [← h];exact refSign_none s w h
 ·obtain ⟨rfl,hr,_⟩:=tyS_some.1 h
  cases t with
  | fn ps r=>exact refSign_fn ps r w h
  | base c=>exact refSign_other _ w h (by rcases base_six hr with rfl | rfl | rfl | rfl | rfl | rfl <;> decide) rfl
  | str n=>exact refSign_other _ w h (by simp [headT]) rfl
  | ptr u=>exact refSign_other _ w h (by simp [headT]) rfl
  | arr n u=>exact refSign_other _ w h (by simp [headT]) rfl
end Go.Proofs.YtbbaooeioogijaaGreatDoor
