/- The reference's Elem, Sign, Decay, IsScalar. -/
import Derived.Test.YtbbaooeioogijaaGreatDoorMg11
namespace Go.Proofs.YtbbaooeioogijaaGreatDoor
open Go.RowKit
set_option maxRecDepth 100000
set_option maxHeartbeats 1000000
theorem zn7 (m:Int)(t:Ty)(w:World)(hm:((headT t).toNat:Int)=m):Calls Tryz.prog 93 #[.string (tyB t)] w fun e w'=>e=.returned (.int .u8 m)∧w'=w:=by subst hm;exact za6 t w
theorem zj0 (s:ByteArray)(w:World)(h:tyS s=none):Calls Tryz.prog 62 #[.string s] w (zhL (tyS s) w):=by
 have HF:=Hd (zbX false s w (by rw[h];rfl));have H:=Hd h;clear h
 go_enter Tryz.func62,Tryz.ntmps62
 go_wp2_with (go_at_call 92;(with_reducible refine HF.out.mono ?_);rintro e w1 ⟨rfl,hb1⟩)
 go_ret3
 exact zmD H.out hb1
theorem zcu (t:Ty)(w:World)(h:tyS (tyB t)=some t)(h1:headT t≠102)(hf:isFnT t=false):Calls Tryz.prog 62 #[.string (tyB t)] w (zhL (some t) w):=by
 have HF:=Hd (zbX true (tyB t) w (by rw[h];rfl));have HN:=Hd hf;have HK:=Hd (fun w=>za6 t w);have t1:(((headT t).toNat:Int) != 102)=true:=(zaQ h1 rfl).2;clear h h1 hf;generalize tyB t=s at *;generalize headT t=c at *
 go_enter Tryz.func62,Tryz.ntmps62
 go_wp2_with (first|(go_at_call 92;(with_reducible refine HF.out.mono ?_);rintro e w1 ⟨rfl,hb1⟩;have HB1:=Hd hb1;clear hb1)|(go_at_call 93;(with_reducible refine(HK.out _).mono ?_);rintro e w2 ⟨rfl,hw2⟩;subst w2))
 go_ret3
 exact zgM HN.out HB1.out
theorem zn0 (ps:List Ty)(r:Ty)(w:World)(h:tyS (tyB (.fn ps r))=some (.fn ps r)):Calls Tryz.prog 62 #[.string (tyB (.fn ps r))] w (zhL (some (.fn ps r)) w):=by
 obtain⟨_,hr,hl⟩:=zaW.1 h;have HF:=Hd (zbX true (tyB (.fn ps r)) w (by rw[h];rfl));have HS:=Hd (fun w=>zeL ps r w hr hl);have HK:=Hd (fun w=>zn7 102 (.fn ps r) w rfl);generalize tyB (.fn ps r)=s at *;clear h hr hl
 go_enter Tryz.func62,Tryz.ntmps62
 go_wp2_with (first|(go_at_call 92;(with_reducible refine HF.out.mono ?_);rintro e w1 ⟨rfl,hb1⟩;have HB1:=Hd hb1;clear hb1)|(go_at_call 93;(with_reducible refine(HK.out _).mono ?_);rintro e w2 ⟨rfl,hw2⟩;subst w2)|(go_at_call 94;(with_reducible refine(HS.out _).mono ?_);rintro e w3 ⟨⟨v,rfl,ho⟩,hb3⟩;have HO:=Hd ho;have HB3:=Hd hb3;clear ho hb3))
 go_ret3
 exact⟨⟨v,rfl,zlH HO.out HB1.out.size⟩,HB1.out.trans (HB3.out.mono HB1.out.size)⟩
theorem znZ (s:ByteArray)(w:World):Calls Tryz.prog 62 #[.string s] w (zhL (tyS s) w):=by
 rcases h:tyS s with _|t
 ·rw[← h];exact zj0 s w h
 ·obtain⟨rfl,hr,_⟩:=zaW.1 h
  cases t with
  | fn ps r=>exact zn0 ps r w h
  | base c=>exact zcu _ w h (by rcases zaM hr with rfl|rfl|rfl|rfl|rfl|rfl<;>decide) rfl
  | str n=>exact zcu _ w h (by simp[headT]) rfl
  | ptr u=>exact zcu _ w h (by simp[headT]) rfl
  | arr n u=>exact zcu _ w h (by simp[headT]) rfl
end Go.Proofs.YtbbaooeioogijaaGreatDoor
