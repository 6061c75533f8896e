/- A node that is right by itself: declarations; all nodes: the -/
import Derived.Test.YtbbaooeioogijaaGreatDoorWell
namespace Go.Proofs.YtbbaooeioogijaaGreatDoor
open Go.RowKit
set_option maxRecDepth 100000
set_option maxHeartbeats 4000000
theorem ztZ (k n p i:Int)(s t:ByteArray)(w:World)(hE:TE w)(h:zbu ⟨k,n,p,i,s,t⟩=true)(hk:k=22)(hi2:zcl ⟨k,n,p,i,s,t⟩=true):Calls Tryz.prog 71 #[.agg #[.int .i64 k,.int .i64 n,.int .i64 p,.int .i64 i,.string s,.string t]] w fun e w'=>e=.returned (.bool (isNameB s && (typedS t && zaU t)))∧Below w.heap.size w w':=by
 have HE:=Hd hE;have HA:=Hd (fun w=>zcx k w);clear hE;have hii:=zfM hi2;clear hi2;have HNm:=Hd (fun w (hK:KeysAt w)=>zaZ s w hK);have HTy:=Hd (fun w (hE:TE w)=>zmu t w hE);have HOb0:=Hd (fun (h:typedS t=true) w=>zid t w h);obtain⟨a1,a2,a3,a4,a5⟩:=zb3 h;clear h;generalize arityN k=ar at *;obtain⟨lo,hi⟩:=ar;simp only at a1 a2 a3 HA;have g1:(k == 1)=false:=by rw[hk];rfl
 have g2:(k == 2)=false:=by rw[hk];rfl
 have g3:(k == 3)=false:=by rw[hk];rfl
 have g13:(k == 13)=false:=by rw[hk];rfl
 have g14:(k == 14)=false:=by rw[hk];rfl
 have g22:(k == 22)=true:=by rw[hk];rfl
 have g4:(k == 4)=false:=by rw[hk];rfl
 have g5:(k == 5)=false:=by rw[hk];rfl
 have g6:(k == 6)=false:=by rw[hk];rfl
 have g7:(k == 7)=false:=by rw[hk];rfl
 have g8:(k == 8)=false:=by rw[hk];rfl
 have g15:(k == 15)=false:=by rw[hk];rfl
 have g17:(k == 17)=false:=by rw[hk];rfl
 have g22n:(k != 22)=false:=by rw[hk];rfl
 clear hk;generalize isNameB s=b at *;cases b
 case' true=>
  rcases hty:typedS t with _|_
  case' true=>have HOb:=Hd (HOb0.out hty)
  all_goals
   rw[hty]at HTy;clear hty HOb0
 case' false=>clear HTy HOb0
 all_goals
  rcases hii with g44|⟨g44,g46,g45⟩
 case' false.inl=>have g0:(i == 0)=true:=by rw[g44];rfl
 case' true.false.inl=>have g0:(i == 0)=true:=by rw[g44];rfl
 case' true.true.inl=>have g0:(i == 0)=true:=by rw[g44];rfl
 case' false.inr=>have g0:(i == 0)=false:=by simpa using g44
 case' true.false.inr=>have g0:(i == 0)=false:=by simpa using g44
 case' true.true.inr=>have g0:(i == 0)=false:=by simpa using g44
 case' false.inr=>have g1':(i == 1)=true:=by rw[g45];rfl
 case' true.false.inr=>have g1':(i == 1)=true:=by rw[g45];rfl
 case' true.true.inr=>have g1':(i == 1)=true:=by rw[g45];rfl
 case' false.inl=>have g0n:(i != 0)=false:=by rw[g44];rfl
 case' true.false.inl=>have g0n:(i != 0)=false:=by rw[g44];rfl
 case' true.true.inl=>have g0n:(i != 0)=false:=by rw[g44];rfl
 case' false.inr=>have g1n:(i != 1)=false:=by rw[g45];rfl
 case' true.false.inr=>have g1n:(i != 1)=false:=by rw[g45];rfl
 case' true.true.inr=>have g1n:(i != 1)=false:=by rw[g45];rfl
 case' false.inr=>clear g45 g46
 case' true.false.inr=>clear g45 g46
 case' true.true.inr=>clear g45 g46
 all_goals
  clear g44
  go_enter Tryz.func71,Tryz.ntmps71
  go_upto_region 1 with fail
  have hx1:(w.alloc (zaR ⟨k,n,p,i,s,t⟩)).heap[w.heap.size]?=some (.cells #[.int .i64 k,.int .i64 n,.int .i64 p,.int .i64 i,.string s,.string t] 47 (0,0)):=zv8 _ _;have hb1:Below w.heap.size w (w.alloc (zaR ⟨k,n,p,i,s,t⟩)):=(zv3 _ _).alloc (zv0 _) _;simp only[zaR]at hx1 hb1;generalize w.alloc (.cells #[.int .i64 k,.int .i64 n,.int .i64 p,.int .i64 i,.string s,.string t] 47)=w1 at *;have hz1:=zaa hx1;obtain⟨⟨d0,d1,d2,d3,d4,d5⟩,_⟩:=zal hx1;have HX1:=Hd hx1;have HB1:=Hd hb1;clear hx1 hb1;have HN1:=Hd (HNm.out w1 ((HE.out.below HB1.out).keys))
  go_wp2_with (first|(go_at_call 97;(with_reducible refine(HA.out _).mono ?_);rintro e w2 ⟨rfl,hw2⟩;subst w2)|(go_at_call 80;(with_reducible refine HN1.out.mono ?_);rintro e w2 ⟨rfl,hb2⟩;have hx2:=(hb2.block _ hz1).trans HX1.out;obtain⟨⟨e0,e1,e2,e3,e4,e5⟩,_⟩:=zal hx2;have HX2:=Hd hx2;have HB2:=Ht HB1 hb2;clear hx2;clear hb2)|(go_at_call 99;(with_reducible refine(HTy.out w2 (HE.out.below HB2.out)).mono ?_);rintro e w3 ⟨rfl,hb3⟩;have hx3:=(hb3.block _ (zaa HX2.out)).trans HX2.out;obtain⟨⟨y0,y1,y2,y3,y4,y5⟩,_⟩:=zal hx3;have HB3:=Ht HB2 hb3;clear hx3 hb3)|(go_at_call 82;(with_reducible refine(HOb.out _).mono ?_);rintro e w4 ⟨rfl,hw4⟩;subst w4))
  all_goals go_ret
  all_goals (first|exact⟨by simp,HB3.out⟩|exact⟨by simp_all,HB3.out⟩|exact⟨rfl,HB2.out⟩)
theorem ztY (x:Nd)(w:World)(hE:TE w):Calls Tryz.prog 71 #[ndV x] w fun e w'=>e=.returned (.bool (wellN x))∧Below w.heap.size w w':=by
 obtain⟨k,n,p,i,s,t⟩:=x;rw[zhN];rcases hs:zbu ⟨k,n,p,i,s,t⟩ with _|_
 ·exact zo8 k n p i s t w hE hs
 ·rw[Bool.true_and]
  simp only
  by_cases h1:k=1
  ·rw[if_pos h1]
   exact zrG k n p i s t w hE hs h1
  ·rw[if_neg h1]
   rcases hi:zcl ⟨k,n,p,i,s,t⟩ with _|_
   ·exact zrH k n p i s t w hE hs h1 hi
   ·rw[Bool.true_and]
    rcases zoV k with h|h|h|h|h|h
    ·subst h;rw[zvS];exact zve 2 n p i s t w hE hs rfl hi
    ·rw[zvR h];exact zvd k n p i s t w hE hs h hi
    ·subst h;rw[zuZ];exact ztZ 22 n p i s t w hE hs rfl hi
    ·rw[zvQ h];exact zvc k n p i s t w hE hs h hi
    ·rw[zu0 h];exact zt0 k n p i s t w hE hs h hi
    ·rw[zvP h];exact zvb k n p i s t w hE hs h1 h hi
end Go.Proofs.YtbbaooeioogijaaGreatDoor
