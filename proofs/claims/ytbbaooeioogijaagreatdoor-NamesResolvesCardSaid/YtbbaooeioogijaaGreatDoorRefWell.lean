/- A node that is right by itself: the reference. -/
import Derived.Test.YtbbaooeioogijaaGreatDoorWell
namespace Go.Proofs.YtbbaooeioogijaaGreatDoor
open Go.RowKit
set_option maxRecDepth 100000
set_option maxHeartbeats 8000000
theorem zjY (k n p i:Int)(s t:ByteArray)(w:World)(h:zbu ⟨k,n,p,i,s,t⟩=false):Calls Tryz.prog 75 #[.agg #[.int .i64 k,.int .i64 n,.int .i64 p,.int .i64 i,.string s,.string t]] w fun e w'=>e=.returned (.bool false)∧Below w.heap.size w w':=by
 have HA:=Hd (fun w=>zeN k w);have hc:=zpp k n p i s t h;clear h;generalize arityN k=ar at *;obtain⟨lo,hi⟩:=ar;simp only at hc HA;rcases hc with a1|⟨a1,a2⟩|⟨a1,a2,a3⟩|⟨a1,a2,a3,a4⟩|⟨a1,a2,a3,a4,a5⟩
 all_goals
  go_enter Tryz.func75,Tryz.ntmps75
  go_upto_region 1 with fail
  have hx1:(w.alloc (zaR ⟨k,n,p,i,s,t⟩)).heap[w.heap.size]?=some (.cells #[.int .i64 k,.int .i64 n,.int .i64 p,.int .i64 i,.string s,.string t] 47 (0,0)):=zv8 _ _;have hb1:Below w.heap.size w (w.alloc (zaR ⟨k,n,p,i,s,t⟩)):=(zv3 _ _).alloc (zv0 _) _;simp only[zaR]at hx1 hb1;generalize w.alloc (.cells #[.int .i64 k,.int .i64 n,.int .i64 p,.int .i64 i,.string s,.string t] 47)=w1 at *;have hz1:=zaa hx1;obtain⟨⟨d0,d1,d2,d3,d4,d5⟩,_⟩:=zal hx1;have HX1:=Hd hx1;have HB1:=Hd hb1;clear hx1 hb1
  go_wp2_with (first|(go_at_call 103;(with_reducible refine(HA.out _).mono ?_);rintro e w2 ⟨rfl,hw2⟩;subst w2))
  go_ret;exact⟨rfl,HB1.out⟩
theorem zlv (k n p i:Int)(s t:ByteArray)(w:World)(h:zbu ⟨k,n,p,i,s,t⟩=true)(hk:k=1):Calls Tryz.prog 75 #[.agg #[.int .i64 k,.int .i64 n,.int .i64 p,.int .i64 i,.string s,.string t]] w fun e w'=>e=.returned (.bool (numberN ⟨k,n,p,i,s,t⟩ && noText s))∧Below w.heap.size w w':=by
 have HA:=Hd (fun w=>zeN k w);obtain⟨a1,a2,a3,a4,a5⟩:=zb3 h;clear h;generalize arityN k=ar at *;obtain⟨lo,hi⟩:=ar;simp only at a1 a2 a3 HA;have g1:(k == 1)=true:=by rw[hk];rfl
 have he:=zb6 s;clear hk;rcases zga (k:=k) (n:=n) (p:=p) (s:=s) i t with ⟨hu,b1,h⟩|⟨hu,b1,b2,h⟩|⟨hu,b1,b2,h⟩|⟨hu,b1,h⟩|⟨hu,b1,b2,h⟩|⟨hu,b1,b2,h⟩|⟨hu,hu2,h⟩
 case' inl=>
  have q1:(t.toList == [117])=true:=zbl hu rfl;have q2:(t.toList == [105])=false:=zbl hu rfl
 case' inr.inl=>
  have q1:(t.toList == [117])=true:=zbl hu rfl;have q2:(t.toList == [105])=false:=zbl hu rfl
 case' inr.inr.inl=>
  have q1:(t.toList == [117])=true:=zbl hu rfl;have q2:(t.toList == [105])=false:=zbl hu rfl
 case' inr.inr.inr.inl=>
  have q1:(t.toList == [117])=false:=zbl hu rfl;have q2:(t.toList == [105])=true:=zbl hu rfl
 case' inr.inr.inr.inr.inl=>
  have q1:(t.toList == [117])=false:=zbl hu rfl;have q2:(t.toList == [105])=true:=zbl hu rfl
 case' inr.inr.inr.inr.inr.inl=>
  have q1:(t.toList == [117])=false:=zbl hu rfl;have q2:(t.toList == [105])=true:=zbl hu rfl
 case' inr.inr.inr.inr.inr.inr=>
  have q1:(t.toList == [117])=false:=za2 hu;have q2:(t.toList == [105])=false:=za2 hu2;clear hu2
 all_goals
  rw[h];clear hu h;generalize noText s=c at *
  go_enter Tryz.func75,Tryz.ntmps75
  go_upto_region 1 with fail
  have hx1:(w.alloc (zaR ⟨k,n,p,i,s,t⟩)).heap[w.heap.size]?=some (.cells #[.int .i64 k,.int .i64 n,.int .i64 p,.int .i64 i,.string s,.string t] 47 (0,0)):=zv8 _ _;have hb1:Below w.heap.size w (w.alloc (zaR ⟨k,n,p,i,s,t⟩)):=(zv3 _ _).alloc (zv0 _) _;simp only[zaR]at hx1 hb1;generalize w.alloc (.cells #[.int .i64 k,.int .i64 n,.int .i64 p,.int .i64 i,.string s,.string t] 47)=w1 at *;have hz1:=zaa hx1;obtain⟨⟨d0,d1,d2,d3,d4,d5⟩,_⟩:=zal hx1;have HX1:=Hd hx1;have HB1:=Hd hb1;clear hx1 hb1
  go_wp2_with (first|(go_at_call 103;(with_reducible refine(HA.out _).mono ?_);rintro e w2 ⟨rfl,hw2⟩;subst w2))
  go_ret;exact⟨rfl,HB1.out⟩
def zf3 (x:Nd):Bool:=
 if x.kind=2 then decide (x.text.size≤4096)
 else if x.kind=3∨x.kind=13∨x.kind=14∨x.kind=22 then isNameB x.text
 else if x.kind=4∨x.kind=5∨x.kind=6∨x.kind=7∨x.kind=8 then Lib.containsS (marksN x.kind) x.text
 else noText x.text
def zgE (x:Nd):Bool:=
 if x.kind=15∨x.kind=17 then typedS x.type
 else if x.kind=22 then typedS x.type && zaU x.type
 else noText x.type
theorem zrp (x:Nd):zc2 x=(zf3 x && zgE x):=by
 unfold zc2 zf3 zgE
 by_cases h2:x.kind=2
 ·rw[if_pos h2,if_pos h2,if_neg (by omega),if_neg (by omega)]
 rw[if_neg h2,if_neg h2]
 by_cases h3:x.kind=3∨x.kind=13∨x.kind=14
 ·rw[if_pos h3,if_pos (by omega),if_neg (by omega),if_neg (by omega)]
 rw[if_neg h3]
 by_cases h22:x.kind=22
 ·rw[if_pos h22,if_pos (by omega),if_neg (by omega),if_pos h22]
 rw[if_neg h22,if_neg (show ¬(x.kind=3∨x.kind=13∨x.kind=14∨x.kind=22) by omega),if_neg h22]
 by_cases h4:x.kind=4∨x.kind=5∨x.kind=6∨x.kind=7∨x.kind=8
 ·rw[if_pos h4,if_pos h4,if_neg (show ¬(x.kind=15∨x.kind=17) by omega)]
 rw[if_neg h4,if_neg h4]
 by_cases h15:x.kind=15∨x.kind=17
 ·rw[if_pos h15,if_pos h15]
 rw[if_neg h15,if_neg h15]
theorem znN (k n p i:Int)(s t:ByteArray):(k=2∧zf3 ⟨k,n,p,i,s,t⟩=decide (s.size≤4096))∨((k=3∨k=13∨k=14∨k=22)∧zf3 ⟨k,n,p,i,s,t⟩=isNameB s)∨((k=4∨k=5∨k=6∨k=7∨k=8)∧zf3 ⟨k,n,p,i,s,t⟩=Lib.containsS (marksN k) s)∨((k≠2∧k≠3∧k≠13∧k≠14∧k≠22∧k≠4∧k≠5∧k≠6∧k≠7∧k≠8)∧zf3 ⟨k,n,p,i,s,t⟩=noText s):=by
 unfold zf3;simp only
 by_cases h2:k=2
 ·exact .inl ⟨h2,by rw[if_pos h2]⟩
 rw[if_neg h2]
 by_cases h3:k=3∨k=13∨k=14∨k=22
 ·exact .inr (.inl ⟨h3,by rw[if_pos h3]⟩)
 rw[if_neg h3]
 by_cases h4:k=4∨k=5∨k=6∨k=7∨k=8
 ·exact .inr (.inr (.inl ⟨h4,by rw[if_pos h4]⟩))
 rw[if_neg h4];exact .inr (.inr (.inr ⟨by omega,rfl⟩))
theorem znK (k n p i:Int)(s t:ByteArray):((k=15∨k=17)∧zgE ⟨k,n,p,i,s,t⟩=typedS t)∨(k=22∧zgE ⟨k,n,p,i,s,t⟩=(typedS t && zaU t))∨((k≠15∧k≠17∧k≠22)∧zgE ⟨k,n,p,i,s,t⟩=noText t):=by
 unfold zgE;simp only
 by_cases h2:k=15∨k=17
 ·exact .inl ⟨h2,by rw[if_pos h2]⟩
 rw[if_neg h2]
 by_cases h3:k=22
 ·exact .inr (.inl ⟨h3,by rw[if_pos h3]⟩)
 rw[if_neg h3];exact .inr (.inr ⟨by omega,rfl⟩)
theorem zjZ (k n p i:Int)(s t:ByteArray)(w:World)(h:zbu ⟨k,n,p,i,s,t⟩=true)(hk:k≠1):Calls Tryz.prog 75 #[.agg #[.int .i64 k,.int .i64 n,.int .i64 p,.int .i64 i,.string s,.string t]] w fun e w'=>e=.returned (.bool (zcl ⟨k,n,p,i,s,t⟩ && zc2 ⟨k,n,p,i,s,t⟩))∧Below w.heap.size w w':=by
 have HA:=Hd (fun w=>zeN k w);obtain⟨a1,a2,a3,a4,a5⟩:=zb3 h;clear h;generalize arityN k=ar at *;obtain⟨lo,hi⟩:=ar;simp only at a1 a2 a3 HA;have g1:(k == 1)=false:=by simpa using hk
 clear hk
 go_enter Tryz.func75,Tryz.ntmps75
 go_upto_region 1 with fail
 have hx1:(w.alloc (zaR ⟨k,n,p,i,s,t⟩)).heap[w.heap.size]?=some (.cells #[.int .i64 k,.int .i64 n,.int .i64 p,.int .i64 i,.string s,.string t] 47 (0,0)):=zv8 _ _;have hb1:Below w.heap.size w (w.alloc (zaR ⟨k,n,p,i,s,t⟩)):=(zv3 _ _).alloc (zv0 _) _;simp only[zaR]at hx1 hb1;generalize w.alloc (.cells #[.int .i64 k,.int .i64 n,.int .i64 p,.int .i64 i,.string s,.string t] 47)=w1 at *;have hz1:=zaa hx1;obtain⟨⟨d0,d1,d2,d3,d4,d5⟩,_⟩:=zal hx1;have HX1:=Hd hx1;have HB1:=Hd hb1;clear hx1 hb1
 go_upto_region 4 with (first|(go_at_call 103;(with_reducible refine(HA.out _).mono ?_);rintro e w2 ⟨rfl,hw2⟩;subst w2))
 go_upto_block 0 with fail
 go_cut [6] (fun v wx=>∃b:Bool,v=.bool b∧Hid (b=zf3 ⟨k,n,p,i,s,t⟩)∧Hid (Below w1.heap.size w1 wx))
 case first=>
  have he:=zb6 s;have HNm:=Hd (fun w=>zbI s w);have HMk:=Hd (fun w hk=>zlw k w hk);have HIn:=Hd (fun w=>zso k s w);obtain⟨ht,h⟩|⟨ht,h⟩|⟨ht,h⟩|⟨ht,h⟩:=znN k n p i s t
  all_goals have HF:=Hd h;clear h
  ·subst ht
   generalize hb:decide (s.size≤4096)=b at *;cases b
   ·have t2:decide ((s.size:Int)≤4096)=false:=by rw[decide_eq_false_iff_not]at hb ⊢;omega
    clear hb
    go_wp2_with fail
    go_meet
    exact⟨_,rfl,Hd HF.out.symm,Hd (zv3 _ _)⟩
   ·have t2:decide ((s.size:Int)≤4096)=true:=by rw[decide_eq_true_iff]at hb ⊢;omega
    clear hb
    go_wp2_with fail
    go_meet
    exact⟨_,rfl,Hd HF.out.symm,Hd (zv3 _ _)⟩
  ·generalize isNameB s=b at *
   rcases ht with rfl|rfl|rfl|rfl
   all_goals
    go_wp2_with (go_at_call 58;(with_reducible refine(HNm.out _).mono ?_);rintro e w2 ⟨rfl,hb2⟩;have HB2:=Hd hb2;clear hb2)
    go_meet
    exact⟨_,rfl,Hd HF.out.symm,HB2⟩
  ·have HMk1:=Hd (HMk.out w1.drew ht)
   have HIn1:=Hd (show Calls Tryz.prog 23 #[.slice (some ⟨w1.heap.size,0,none⟩) (marksN k).length (marksN k).length,.string s] ((w1.alloc (.cells ((marksN k).map Value.string).toArray 9)).drew) (fun e w'=>e=.returned (.bool (Lib.containsS (marksN k) s))∧(w1.alloc (.cells ((marksN k).map Value.string).toArray 9)).drew=w') from HIn.out w1.drew);have HCl:=Hd (show ∀w',Below w1.heap.size w1 w'→w'.cell? ⟨w.heap.size,0,none⟩=some (.int .i64 k)∧w'.cell? ⟨w.heap.size,4,none⟩=some (.string s) from fun w' hb=>⟨by rw[hb.cell hz1];exact d0,by rw[hb.cell hz1];exact d4⟩);clear HMk HIn;generalize Lib.containsS (marksN k) s=b at *;generalize marksN k=M at *;rcases ht with rfl|rfl|rfl|rfl|rfl
   ·go_upto_region 22 with fail
    go_region_held3 (fun w'=>w'.cell? ⟨w.heap.size,0,none⟩=some (.int .i64 4)∧w'.cell? ⟨w.heap.size,4,none⟩=some (.string s)) (first|(constructor<;>assumption)|exact HCl.out _ ((zv3 _ _).drew)|exact HCl.out _ (((zv3 _ _).alloc (zv0 _) _).drew)) (first|(go_at_call 104;(with_reducible refine HMk1.out.mono ?_);rintro e w2 ⟨rfl,hw2⟩;subst w2)|(go_at_call 23;(with_reducible refine HIn1.out.mono ?_);rintro e w2 ⟨rfl,hw2⟩;subst w2))
    go_wp2_with fail
    go_meet
    exact⟨_,rfl,Hd HF.out.symm,Hd ((((zv3 _ _).alloc (zv0 _) _).drew))⟩
   ·go_upto_region 22 with fail
    go_region_held3 (fun w'=>w'.cell? ⟨w.heap.size,0,none⟩=some (.int .i64 5)∧w'.cell? ⟨w.heap.size,4,none⟩=some (.string s)) (first|(constructor<;>assumption)|exact HCl.out _ ((zv3 _ _).drew)|exact HCl.out _ (((zv3 _ _).alloc (zv0 _) _).drew)) (first|(go_at_call 104;(with_reducible refine HMk1.out.mono ?_);rintro e w2 ⟨rfl,hw2⟩;subst w2)|(go_at_call 23;(with_reducible refine HIn1.out.mono ?_);rintro e w2 ⟨rfl,hw2⟩;subst w2))
    go_wp2_with fail
    go_meet
    exact⟨_,rfl,Hd HF.out.symm,Hd ((((zv3 _ _).alloc (zv0 _) _).drew))⟩
   ·go_upto_region 22 with fail
    go_region_held3 (fun w'=>w'.cell? ⟨w.heap.size,0,none⟩=some (.int .i64 6)∧w'.cell? ⟨w.heap.size,4,none⟩=some (.string s)) (first|(constructor<;>assumption)|exact HCl.out _ ((zv3 _ _).drew)|exact HCl.out _ (((zv3 _ _).alloc (zv0 _) _).drew)) (first|(go_at_call 104;(with_reducible refine HMk1.out.mono ?_);rintro e w2 ⟨rfl,hw2⟩;subst w2)|(go_at_call 23;(with_reducible refine HIn1.out.mono ?_);rintro e w2 ⟨rfl,hw2⟩;subst w2))
    go_wp2_with fail
    go_meet
    exact⟨_,rfl,Hd HF.out.symm,Hd ((((zv3 _ _).alloc (zv0 _) _).drew))⟩
   ·go_upto_region 22 with fail
    go_region_held3 (fun w'=>w'.cell? ⟨w.heap.size,0,none⟩=some (.int .i64 7)∧w'.cell? ⟨w.heap.size,4,none⟩=some (.string s)) (first|(constructor<;>assumption)|exact HCl.out _ ((zv3 _ _).drew)|exact HCl.out _ (((zv3 _ _).alloc (zv0 _) _).drew)) (first|(go_at_call 104;(with_reducible refine HMk1.out.mono ?_);rintro e w2 ⟨rfl,hw2⟩;subst w2)|(go_at_call 23;(with_reducible refine HIn1.out.mono ?_);rintro e w2 ⟨rfl,hw2⟩;subst w2))
    go_wp2_with fail
    go_meet
    exact⟨_,rfl,Hd HF.out.symm,Hd ((((zv3 _ _).alloc (zv0 _) _).drew))⟩
   ·go_upto_region 22 with fail
    go_region_held3 (fun w'=>w'.cell? ⟨w.heap.size,0,none⟩=some (.int .i64 8)∧w'.cell? ⟨w.heap.size,4,none⟩=some (.string s)) (first|(constructor<;>assumption)|exact HCl.out _ ((zv3 _ _).drew)|exact HCl.out _ (((zv3 _ _).alloc (zv0 _) _).drew)) (first|(go_at_call 104;(with_reducible refine HMk1.out.mono ?_);rintro e w2 ⟨rfl,hw2⟩;subst w2)|(go_at_call 23;(with_reducible refine HIn1.out.mono ?_);rintro e w2 ⟨rfl,hw2⟩;subst w2))
    go_wp2_with fail
    go_meet
    exact⟨_,rfl,Hd HF.out.symm,Hd ((((zv3 _ _).alloc (zv0 _) _).drew))⟩
  ·obtain⟨n2,n3,n13,n14,n22,n4,n5,n6,n7,n8⟩:=ht
   have g2:(k == 2)=false:=by simpa using n2
   have g3:(k == 3)=false:=by simpa using n3
   have g13:(k == 13)=false:=by simpa using n13
   have g14:(k == 14)=false:=by simpa using n14
   have g22:(k == 22)=false:=by simpa using n22
   have g4:(k == 4)=false:=by simpa using n4
   have g5:(k == 5)=false:=by simpa using n5
   have g6:(k == 6)=false:=by simpa using n6
   have g7:(k == 7)=false:=by simpa using n7
   have g8:(k == 8)=false:=by simpa using n8
   clear n2 n3 n13 n14 n22 n4 n5 n6 n7 n8;generalize noText s=b at *
   go_wp2_with fail
   go_meet
   exact⟨_,rfl,Hd HF.out.symm,Hd (zv3 _ _)⟩
 case rest=>
  obtain⟨b,rfl,hb,hB⟩:=hcut;have hx2:=(hB.out.block _ hz1).trans HX1.out;obtain⟨⟨e0,e1,e2,e3,e4,e5⟩,_⟩:=zal hx2;have hz2:=zaa hx2;have HX2:=Hd hx2;clear hx2 d0 d1 d2 d3 d4 d5
  go_upto_block 1 with fail
  go_cut [7] (fun v wx=>∃b:Bool,v=.bool b∧Hid (b=zgE ⟨k,n,p,i,s,t⟩)∧Hid (Below w1.heap.size w1 wx))
  case first=>
   have he:=zb6 t;have HRi:=Hd (fun w=>zmJ t w);have HOb:=Hd (fun w=>ze8 t w);obtain⟨ht,h⟩|⟨ht,h⟩|⟨ht,h⟩:=znK k n p i s t
   all_goals have HF:=Hd h;clear h
   ·generalize typedS t=c at *
    rcases ht with rfl|rfl
    all_goals
     go_wp2_with (go_at_call 91;(with_reducible refine(HRi.out _).mono ?_);rintro e w2 ⟨rfl,hb2⟩;have HB2:=Hd (hB.out.trans (hb2.mono hB.out.size));clear hb2)
     go_meet
     exact⟨_,rfl,Hd HF.out.symm,HB2⟩
   ·subst ht
    generalize (typedS t && zaU t)=c at *
    go_wp2_with (go_at_call 59;(with_reducible refine(HOb.out _).mono ?_);rintro e w2 ⟨rfl,hb2⟩;have HB2:=Hd (hB.out.trans (hb2.mono hB.out.size));clear hb2)
    go_meet
    exact⟨_,rfl,Hd HF.out.symm,HB2⟩
   ·obtain⟨n15,n17,n22⟩:=ht
    have g15:(k == 15)=false:=by simpa using n15
    have g17:(k == 17)=false:=by simpa using n17
    have g22:(k == 22)=false:=by simpa using n22
    clear n15 n17 n22;generalize noText t=c at *
    go_wp2_with fail
    go_meet
    exact⟨_,rfl,Hd HF.out.symm,hB⟩
  case rest=>
   obtain⟨c,rfl,hc,hC⟩:=hcut;have hx3:=(hC.out.block _ hz1).trans HX1.out;obtain⟨⟨y0,y1,y2,y3,y4,y5⟩,_⟩:=zal hx3;have HB3:=Hd (HB1.out.trans (hC.out.mono HB1.out.size));have hv:=Hd (show (zcl ⟨k,n,p,i,s,t⟩ && zc2 ⟨k,n,p,i,s,t⟩)=(zcl ⟨k,n,p,i,s,t⟩ && (b && c)) by rw[zrp,hb.out,hc.out]);clear hx3 hb hc;cases b
   ·go_wp2_with fail
    go_ret;exact⟨by rw[hv.out];simp,HB3.out⟩
   cases c
   ·go_wp2_with fail
    go_ret;exact⟨by rw[hv.out];simp,HB3.out⟩
   rcases hi0:(i == 0) with _|_
   ·rcases h22:(k == 22) with _|_
    ·have hi:=Hd (show zcl ⟨k,n,p,i,s,t⟩=false by unfold zcl;rw[decide_eq_false_iff_not];rw[zwa]at hi0 h22;simp only;omega)
     go_wp2_with fail
     go_ret;exact⟨by rw[hv.out,hi.out];simp,HB3.out⟩
    ·rcases hi1:(i == 1) with _|_
     ·have hi:=Hd (show zcl ⟨k,n,p,i,s,t⟩=false by unfold zcl;rw[decide_eq_false_iff_not];rw[zwa]at hi0 hi1;simp only;omega)
      go_wp2_with fail
      go_ret;exact⟨by rw[hv.out,hi.out];simp,HB3.out⟩
     ·have hi:=Hd (show zcl ⟨k,n,p,i,s,t⟩=true by unfold zcl;rw[decide_eq_true_iff];rw[beq_iff_eq]at hi1 h22;simp only;omega)
      go_wp2_with fail
      go_ret;exact⟨by rw[hv.out,hi.out];simp,HB3.out⟩
   ·have hi:=Hd (show zcl ⟨k,n,p,i,s,t⟩=true by unfold zcl;rw[decide_eq_true_iff];rw[beq_iff_eq]at hi0;simp only;omega)
    go_wp2_with fail
    go_ret;exact⟨by rw[hv.out,hi.out];simp,HB3.out⟩
theorem znV (x:Nd)(w:World):Calls Tryz.prog 75 #[ndV x] w fun e w'=>e=.returned (.bool (wellN x))∧Below w.heap.size w w':=by
 obtain⟨k,n,p,i,s,t⟩:=x;rw[zhN];rcases hs:zbu ⟨k,n,p,i,s,t⟩ with _|_
 ·exact zjY k n p i s t w hs
 ·rw[Bool.true_and]
  simp only
  by_cases h1:k=1
  ·rw[if_pos h1]
   exact zlv k n p i s t w hs h1
  ·rw[if_neg h1]
   exact zjZ k n p i s t w hs h1
end Go.Proofs.YtbbaooeioogijaaGreatDoor
