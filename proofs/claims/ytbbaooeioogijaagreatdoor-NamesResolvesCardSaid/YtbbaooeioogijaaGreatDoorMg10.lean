/- Is there a node that is not right: the program. -/
import Derived.Test.YtbbaooeioogijaaGreatDoorWell2
import Derived.Test.YtbbaooeioogijaaGreatDoorRefWell
import Derived.Test.YtbbaooeioogijaaGreatDoorMg9
import Derived.Lib.SliceRun
import Derived.JoinedCond
import Derived.Below
namespace Go.Proofs.YtbbaooeioogijaaGreatDoor
open Go.RowKit
set_option maxRecDepth 100000
set_option maxHeartbeats 4000000
set_option maxHeartbeats 2000000
theorem zij (x:Nd)(w:World)(hE:TE w):Calls Tryz.prog 70 #[ndV x] w fun e w'=>e=.returned (.bool (!wellN x))∧Below w.heap.size w w':=by
 have HE:=Hd hE;have HWl:=Hd (fun w (hE:TE w)=>ztY x w hE);clear hE;generalize wellN x=r at *;obtain⟨k,n,p,i,s,t⟩:=x;simp only[ndV]at HWl ⊢
 go_enter Tryz.func70,Tryz.ntmps70
 go_upto_region 1 with fail
 have hx1:(w.alloc (zaR ⟨k,n,p,i,s,t⟩)).heap[w.heap.size]?=some (.cells #[.int .i64 k,.int .i64 n,.int .i64 p,.int .i64 i,.string s,.string t] 47 (0,0)):=zv8 _ _;have hb1:Below w.heap.size w (w.alloc (zaR ⟨k,n,p,i,s,t⟩)):=ba1 _ _;simp only[zaR]at hx1 hb1;generalize w.alloc (.cells #[.int .i64 k,.int .i64 n,.int .i64 p,.int .i64 i,.string s,.string t] 47)=w1 at *;obtain⟨⟨d0,d1,d2,d3,d4,d5⟩,_⟩:=zal hx1;have HB1:=Hd hb1;clear hx1 hb1
 go_wp2_with (go_at_call 71;(with_reducible refine(HWl.out w1 (HE.out.below HB1.out)).mono ?_);rintro e w2 ⟨rfl,hb2⟩;have HB2:=Ht HB1 hb2;clear hb2)
 go_ret;exact⟨by simp,HB2.out⟩
theorem zop (xs:List Nd)(a:Option Addr)(cap:Nat)(w:World)(hE:TE w)(h:zaV w.heap.size w a xs)(hl:(xs.length:Int)≤9223372036854775807) :
 Calls Tryz.prog 96 #[.slice a xs.length cap,.func (.func 70) #[] #[]] w fun e w'=>∃o:Int,e=.returned (.int .i64 o)∧decide (0≤o)=(!xs.all wellN)∧Below w.heap.size w w':=by
 have HE:=Hd hE;have HR:=Hd h;clear hE h
 go_enter Tryz.func96,Tryz.ntmps96
 go_wp2_with fail
 go_loopg [8] xs.length (fun g v8 wy=>∃k:Nat,k≤xs.length∧k+g=xs.length∧v8=.int .i64 (k:Int)∧Hid (∀j (hj:j<xs.length),j<k→wellN xs[j]=true)∧Hid (Below w.heap.size w wy))
 case atStart=>exact⟨0,by omega,by omega,rfl,fun j _ h=>by omega,zv3 _ _⟩
 case round=>
  obtain⟨k,hk,hkg,rfl,hno,HB⟩:=hrel
  by_cases hlk:k<xs.length
  ·obtain⟨bb,off,ha,hbl,x0,x1,x2,x3,x4,x5⟩:=zbg HR.out hlk
   subst ha;rw[← HB.out.cell hbl]at x0 x1 x2 x3 x4 x5;rcases h:wellN xs[k] with _|_
   ·have HC:=Hd ((fun w hE=>zij xs[k] w hE) wr (HE.out.below HB.out))
    have hfin:=Hd (show (!xs.all wellN)=true by
     rw[Bool.not_eq_true',List.all_eq_false]
     exact⟨xs[k],zwb hlk,by rw[h];simp⟩)
    simp only[h]at HC;clear h hno;generalize xs[k]'hlk=mt at *;obtain⟨kk,n,p,i,s,t⟩:=mt;simp only[ndV]at HC x0 x1 x2 x3 x4 x5
    go_wp2_with (go_at_call 70;(with_reducible refine HC.out.mono ?_);rintro e w2 ⟨rfl,hb2⟩;have HB2:=Hd hb2;clear hb2)
    go_ret;exact⟨_,rfl,by rw[hfin.out];simp,HB.out.trans (HB2.out.mono HB.out.size)⟩
   ·have HC:=Hd ((fun w hE=>zij xs[k] w hE) wr (HE.out.below HB.out))
    have HN:=Hd (show ∀j (hj:j<xs.length),j<k+1→wellN xs[j]=true from fun j hj hjk=>by
     rcases Nat.lt_or_ge j k with h'|h'
     ·exact hno.out j hj h'
     ·obtain rfl:j=k:=by omega
      exact h)
    simp only[h]at HC;clear h hno;generalize xs[k]'hlk=mt at *;obtain⟨kk,n,p,i,s,t⟩:=mt;simp only[ndV]at HC x0 x1 x2 x3 x4 x5
    go_wp2_with (go_at_call 70;(with_reducible refine HC.out.mono ?_);rintro e w2 ⟨rfl,hb2⟩;have HB2:=Ht HB hb2;clear hb2)
    go_roundg (xs.length-(k+1))
    case measure=>omega
    case rel=>exact⟨k+1,by omega,by omega,by rw[zv9];rfl,HN.out,HB2.out⟩
  ·obtain rfl:k=xs.length:=by omega
   have hfin:=Hd (show (!xs.all wellN)=false by
    rw[Bool.not_eq_false',List.all_eq_true];intro m hm;obtain⟨j,hj,rfl⟩:=List.getElem_of_mem hm
    simp[hno.out j hj hj])
   have t3:(xs.length:Int)≤(xs.length:Int):=Int.le_refl _
   go_wp2_with fail
   go_ret;exact⟨_,rfl,by rw[hfin.out];rfl,HB.out⟩
theorem zoq (xs:List Nd)(a:Option Addr)(cap:Nat)(w:World)(hE:TE w)(h:zaV w.heap.size w a xs)(hl:(xs.length:Int)≤9223372036854775807) :
 Calls Tryz.prog 69 #[.slice a xs.length cap,.func (.func 70) #[] #[]] w fun e w'=>e=.returned (.bool ((!xs.all wellN)))∧Below w.heap.size w w':=by
 have H:=Hd (zop xs a cap w hE h hl);clear hE h
 go_enter Tryz.func69,Tryz.ntmps69
 go_wp2_with (go_at_call 96;(with_reducible refine H.out.mono ?_);rintro e w1 ⟨o,rfl,ho,hb1⟩;have HO:=Hd ho;clear ho)
 go_ret;exact⟨by rw[← HO.out];rfl,hb1⟩
set_option maxHeartbeats 8000000
theorem ziD {t:List Nd}(h:4096<t.length):checkN9 t=3:=by unfold checkN9;rw[if_pos h]
theorem ziB {t:List Nd}(h:t.length≤4096)(hw:t.all wellN=false):checkN9 t=90:=by unfold checkN9;rw[if_neg (by omega),if_pos hw]
theorem zgi {t:List Nd}(h:t.length≤4096)(hb:zah t=none):checkN9 t=90:=by
 unfold checkN9;rw[if_neg (by omega)]
 by_cases hw:t.all wellN=false
 ·rw[if_pos hw]
 ·rw[if_neg hw,hb]
theorem ziC {t:List Nd}{fr:List Nat}(h:t.length≤4096)(hw:t.all wellN=true)(hb:zah t=some fr):checkN9 t=if (List.range t.length).all (fitsN t fr)=false then 90 else if 48<deepN t then 3 else 0:=by
 unfold checkN9;rw[if_neg (by omega),if_neg (by rw[hw];simp),hb]
theorem zhu {t:List Nd}{fr:List Nat}{i:Nat}(h:t.length≤4096)(hw:t.all wellN=true)(hb:zah t=some fr)(hi:i<t.length)(hf:fitsN t fr i=false):checkN9 t=90:=by
 rw[ziC h hw hb,if_pos (List.all_eq_false.2 ⟨i,List.mem_range.2 hi,by rw[hf];simp⟩)]
theorem ziE {t:List Nd}{fr:List Nat}(h:t.length≤4096)(hw:t.all wellN=true)(hb:zah t=some fr)(hf:∀i,i<t.length→fitsN t fr i=true):checkN9 t=if 48<deepN t then 3 else 0:=by
 rw[ziC h hw hb,if_neg (by rw[List.all_eq_true.2 (fun i hi=>hf i (List.mem_range.1 hi))];simp)]
theorem zja {t:List Nd}{fr:List Nat}(h:t.length≤4096)(hw:t.all wellN=true)(hb:zah t=some fr):Given t fr:=
 ⟨h,zar hb,fun _ x hx=>List.all_eq_true.1 hw x (List.mem_of_getElem? hx)⟩
theorem zkN {t:List Nd}{fr:List Nat}{i:Nat}(h:∀j,j<i→fitsN t fr j=true)(hf:fitsN t fr i=true):∀j,j<i+1→fitsN t fr j=true:=fun j hj=>by
 rcases Nat.lt_or_ge j i with h'|h'
 ·exact h j h'
 ·obtain rfl:j=i:=by omega
  exact hf
theorem zcT (a:Option Addr)(cap:Nat)(t:List Nd)(w:World)(hI:zaV w.heap.size w a t)(hOk:∀x ∈ t,NdOk x)(hz:t.length*64≤140737488351232) :
 Calls Tryz.prog 51 #[.slice a t.length cap] w fun e w'=>e=.returned (.int .i64 (checkN9 t))∧Below w.heap.size w w':=by
 have HI:=Hd hI;have HOk:=Hd hOk;clear hI hOk;have hmx:(t.length:Int)≤2199023255488:=by omega
 rcases Nat.lt_or_ge 4096 t.length with hl|hl
 ·have t1:decide ((4096:Int)<(t.length:Int))=true:=by rw[decide_eq_true_iff];omega
  have hv:=Hd (ziD hl)
  go_enter Tryz.func51,Tryz.ntmps51
  go_wp2_with fail
  go_ret;exact⟨by rw[hv.out];rfl,zv3 _ _⟩
 have t1:decide ((4096:Int)<(t.length:Int))=false:=by rw[decide_eq_false_iff_not];omega
 have HWl:=Hd (fun x w=>znV x w)
 go_enter Tryz.func51,Tryz.ntmps51
 go_wp2_with fail
 go_loopg [3] t.length (fun m v3 wy=>∃i:Nat,i≤t.length∧i+m=t.length∧v3=.int .i64 (i:Int)∧Hid (∀j (hj:j<t.length),j<i→wellN t[j]=true)∧Hid (Below w.heap.size w wy))
 case atStart=>exact⟨0,by omega,by omega,rfl,Hd (fun j _ h=>by omega),Hd (zv3 _ _)⟩
 case round=>
  obtain⟨i,hi,him,rfl,HY,HB⟩:=hrel
  by_cases hlt:i<t.length
  ·obtain⟨ba,off,ha,hbl,x0,x1,x2,x3,x4,x5⟩:=zbg HI.out hlt
   subst ha;rw[← HB.out.cell hbl]at x0 x1 x2 x3 x4 x5;have HC:=Hd (HWl.out t[i] wr);rcases hw:wellN t[i] with _|_
   ·have hv:=Hd (ziB hl (List.all_eq_false.2 ⟨t[i],zwb hlt,by rw[hw];simp⟩))
    rw[hw]at HC;clear hw;generalize t[i]'hlt=x at *;obtain⟨kk,n,p,ii,s,ty⟩:=x;simp only[ndV]at HC x0 x1 x2 x3 x4 x5
    go_wp2_with (go_at_call 75;(with_reducible refine HC.out.mono ?_);rintro e w2 ⟨rfl,hb2⟩;have HB2:=Ht HB hb2;clear hb2)
    go_ret;exact⟨by rw[hv.out];rfl,HB2.out⟩
   ·have HY2:=Hd (show ∀j (hj:j<t.length),j<i+1→wellN t[j]=true from fun j hj hji=>by
     rcases Nat.lt_or_ge j i with h'|h'
     ·exact HY.out j hj h'
     ·obtain rfl:j=i:=by omega
      exact hw)
    rw[hw]at HC;clear hw HY;generalize t[i]'hlt=x at *;obtain⟨kk,n,p,ii,s,ty⟩:=x;simp only[ndV]at HC x0 x1 x2 x3 x4 x5
    go_wp2_with (go_at_call 75;(with_reducible refine HC.out.mono ?_);rintro e w2 ⟨rfl,hb2⟩;have HB2:=Ht HB hb2;clear hb2)
    go_roundg (t.length-(i+1))
    case measure=>omega
    case rel=>exact⟨i+1,by omega,by omega,by rw[zv9];rfl,HY2,HB2⟩
  ·obtain rfl:i=t.length:=by omega
   have hall:=Hd (show t.all wellN=true by
    rw[List.all_eq_true];intro m hm;obtain⟨j,hj,rfl⟩:=List.getElem_of_mem hm
    exact HY.out j hj hj)
   clear HY;have hIr:=Hd ((HI.out.below HB.out (zv0 _)).mono HB.out.size);have HBg:=Hd (zdW a cap t wr hIr.out hl HOk.out)
   go_upto_region 8 with fail
   rcases hbg:zah t with _|fr
   ·have hv:=Hd (zgi hl hbg)
    have HNo:=Hd (show (zah t).isSome=false by rw[hbg];rfl);clear hbg
    go_wp2_with (go_at_call 52;(with_reducible refine HBg.out.mono ?_);rintro e w2 ⟨⟨v,ok,rfl,hok,_⟩,hb2⟩;have hok2:=hok.trans HNo.out;clear hok;subst hok2;have HB2:=Ht HB hb2;clear hb2)
    go_ret;exact⟨by rw[hv.out];rfl,HB2.out⟩
   ·have HSo:=Hd (show (zah t).isSome=true by rw[hbg];rfl)
    have hG:=zja hl hall.out hbg;have HBe:=Hd hbg;have HDp:=Hd (fun w (hI:zaV w.heap.size w a t)=>zod a cap t w hI hl hbg);have HFt:=Hd (fun (b:Option Addr) (capb:Nat) k hk w hW=>zpH a cap t b capb fr hG k hk w hW);clear hbg hG
    go_upto_region 9 with (go_at_call 52;go_loud (with_reducible refine HBg.out.mono ?_);rintro e w2 ⟨⟨v,ok,rfl,hok,hrow⟩,hb2⟩;have hok2:=hok.trans HSo.out;clear hok;subst hok2;obtain⟨fr2,hfr,hrow⟩:=hrow rfl;obtain rfl:=zv4 (HBe.out.symm.trans hfr);obtain⟨b,capb,rfl,hN,_⟩:=hrow.is;have HB2:=Ht HB hb2;have HW2:=Hd (show WholeAt w2 a b t fr from ⟨(hIr.out.below hb2 (zv0 _)).mono hb2.size,hN⟩);clear hb2 hrow hN hfr)
    go_wp2_with fail
    go_loopg [6] t.length (fun m v6 wy=>∃i:Nat,i≤t.length∧i+m=t.length∧v6=.int .i64 (i:Int)∧Hid (∀j,j<i→fitsN t fr j=true)∧Hid (Below w2.heap.size w2 wy))
    case atStart=>exact⟨0,by omega,by omega,rfl,Hd (fun j h=>by omega),Hd (zv3 _ _)⟩
    case round=>
     obtain⟨i,hi,him,rfl,HY,HC⟩:=hrel;have HBr:=Hd (HB2.out.trans (HC.out.mono HB2.out.size))
     by_cases hlt:i<t.length
     ·have HF:=Hd (HFt.out b capb i hlt wr (HW2.out.below HC.out))
      rcases hf:fitsN t fr i with _|_
      ·have hv:=Hd (zhu hl hall.out HBe.out hlt hf)
       rw[hf]at HF;clear hf
       go_wp2_with (go_at_call 76;(with_reducible refine HF.out.mono ?_);rintro e w3 ⟨rfl,hb3⟩;have HB3:=Ht HBr hb3;clear hb3)
       go_ret;exact⟨by rw[hv.out];rfl,HB3.out⟩
      ·have HY2:=Hd (zkN HY.out hf)
       rw[hf]at HF;clear hf HY
       go_wp2_with (go_at_call 76;(with_reducible refine HF.out.mono ?_);rintro e w3 ⟨rfl,hb3⟩;have HB3:=Ht HC hb3;clear hb3)
       go_roundg (t.length-(i+1))
       case measure=>omega
       case rel=>exact⟨i+1,by omega,by omega,by rw[zv9];rfl,HY2,HB3⟩
     ·obtain rfl:i=t.length:=by omega
      have hdp:=Hd (ziE hl hall.out HBe.out HY.out);have HD:=Hd (HDp.out wr (HW2.out.below HC.out).nds);clear HY;generalize deepN t=d at *
      by_cases h48:48<d
      ·have t2:decide ((48:Int)<(d:Int))=true:=by rw[decide_eq_true_iff];omega
       have hv:=Hd (show checkN9 t=3 by rw[hdp.out,if_pos h48]);clear h48
       go_wp2_with (go_at_call 77;(with_reducible refine HD.out.mono ?_);rintro e w3 ⟨rfl,hb3⟩;have HB3:=Ht HBr hb3;clear hb3)
       go_ret;exact⟨by rw[hv.out];rfl,HB3.out⟩
      ·have t2:decide ((48:Int)<(d:Int))=false:=by rw[decide_eq_false_iff_not];omega
       have hv:=Hd (show checkN9 t=0 by rw[hdp.out,if_neg h48]);clear h48
       go_wp2_with (go_at_call 77;(with_reducible refine HD.out.mono ?_);rintro e w3 ⟨rfl,hb3⟩;have HB3:=Ht HBr hb3;clear hb3)
       go_ret;exact⟨by rw[hv.out];rfl,HB3.out⟩
set_option maxHeartbeats 8000000
theorem zsK {B r o:Nat}{w:World}{a:Option Addr}{L:List Nat}{u:Value}(h:zdm B w a L)(hne:∀g off,a=some ⟨g,off,none⟩→g≠r):zdm B (w.setCell ⟨r,o,none⟩ u) a L:=fun hn=>by
 obtain⟨g,off,ha,hlt,hc⟩:=h hn;refine⟨g,off,ha,hlt,fun i x hx j v hv=>?_⟩;rw[World.cell?_setCell_other _ _ _ _ (fun e=>hne g off ha (by rw[Addr.mk.injEq]at e;exact e.1.symm))];exact hc i x hx j v hv
theorem NatRow.far {w:World}{base:Nat}{v:Value}{L:List Nat}(h:NatRow w base v L)(hn:L≠[]):∃g cap,v=.slice (some ⟨g,0,none⟩) L.length cap∧base≤g∧zdm w.heap.size w (some ⟨g,0,none⟩) L:=by
 obtain⟨a,cap,hv,ha⟩:=zp5 h;obtain⟨g,hg,hb,_,_⟩:=ha hn;obtain⟨a2,cap2,hv2,hN,_⟩:=h.is;subst hv hg;simp only[Value.slice.injEq]at hv2;exact⟨g,cap,rfl,hb,by rw[hv2.1];exact hN⟩
theorem zjB {w0 w:World}{a:Option Addr}{g:Nat}{t:List Nd}{fr:List Nat}(h:WholeAt w a (some ⟨g,0,none⟩) t fr)(hI:zaV w0.heap.size w0 a t)(hg:w0.heap.size<g)(o:Nat)(u:Value):WholeAt (w.setCell ⟨w0.heap.size,o,none⟩ u) a (some ⟨g,0,none⟩) t fr:=by
 refine⟨fun hn=>?_,?_⟩
 ·obtain⟨b,off,ha,hlt,hc⟩:=h.nds hn
  obtain⟨b2,off2,ha2,hlt2,_⟩:=hI hn;obtain⟨rfl,rfl⟩:b=b2∧off=off2:=by rw[ha]at ha2;simpa using ha2
  refine⟨b,off,ha,by simpa using hlt,fun i x hx j v hv=>?_⟩;rw[World.cell?_setCell_other _ _ _ _ (fun e=>by rw[Addr.mk.injEq]at e;omega)];exact hc i x hx j v hv
 ·have:=zsK (r:=w0.heap.size) (o:=o) (u:=u) h.nats (fun g' off e=>by simp at e;omega)
  exact this.mono (by simp)
def FarB (w:World)(b:Option Addr):Prop:=∀(g off:Nat),b=some ⟨g,off,none⟩→w.heap.size≤g
def zhE (a:Option Addr)(cap:Nat)(t:List Nd)(w:World)(e:Ending)(w':World):Prop:=
 ((checkN9 t=0∧∃(b:Option Addr) (capb:Nat) (fr:List Nat),e=.returned (.tuple #[.agg #[.slice a t.length cap,.slice b fr.length capb],.int .i64 0])∧zah t=some fr∧Given t fr∧WholeAt w' a b t fr∧FarB w b)∨(checkN9 t≠0∧e=.returned (.tuple #[.agg #[.slice none 0 0,.slice none 0 0],.int .i64 (checkN9 t)])))∧Below w.heap.size w w'
theorem zd1 {a:Option Addr}{cap:Nat}{t:List Nd}{w w':World}{c:Int}(h:checkN9 t=c)(hc:c≠0)(hb:Below w.heap.size w w'):zhE a cap t w (.returned (.tuple #[.agg #[.slice none 0 0,.slice none 0 0],.int .i64 c])) w':=⟨.inr ⟨by rw[h];exact hc,by rw[h]⟩,hb⟩
theorem zoo {a b:Option Addr}{cap capb:Nat}{t:List Nd}{fr:List Nat}{w w':World}(h:checkN9 t=0)(hg:zah t=some fr)(hG:Given t fr)(hW:WholeAt w' a b t fr)(hf:FarB w b)(hb:Below w.heap.size w w'):zhE a cap t w (.returned (.tuple #[.agg #[.slice a t.length cap,.slice b fr.length capb],.int .i64 0])) w':=⟨.inl ⟨h,b,capb,fr,rfl,hg,hG,hW,hf⟩,hb⟩
theorem zko (a:Option Addr)(cap:Nat)(t:List Nd)(w:World)(hE:TE w)(hI:zaV w.heap.size w a t)(hOk:∀x ∈ t,NdOk x)(hz:t.length*64≤140737488351232) :
 Calls Tryz.prog 47 #[.slice a t.length cap] w (zhE a cap t w):=by
 have HI:=Hd hI;have HOk:=Hd hOk;have HE:=Hd hE;clear hI hOk hE;have hmx:(t.length:Int)≤2199023255488:=by omega
 rcases Nat.lt_or_ge 4096 t.length with hl|hl
 ·have t1:decide ((4096:Int)<(t.length:Int))=true:=by rw[decide_eq_true_iff];omega
  have hv:=Hd (ziD hl)
  go_enter Tryz.func47,Tryz.ntmps47
  go_upto_region 1 with fail
  have hx0:(w.alloc (.cells #[.slice none 0 0,.slice none 0 0] 126)).heap[w.heap.size]?=some (.cells #[.slice none 0 0,.slice none 0 0] 126 (0,0)):=zv8 _ _;have hb0:Below w.heap.size w (w.alloc (.cells #[.slice none 0 0,.slice none 0 0] 126)):=ba1 _ _;have hz0:(w.alloc (.cells #[.slice none 0 0,.slice none 0 0] 126)).heap.size=w.heap.size+1:=by simp
  generalize w.alloc (.cells #[.slice none 0 0,.slice none 0 0] 126)=w0 at *;obtain⟨⟨r0,r1⟩,rf⟩:=zab hx0;have HX0:=Hd hx0;have HB0:=Hd hb0;have HZ0:=Hd hz0;clear hx0 hb0 hz0
  go_wp2_with fail
  exact bodyPost_ret (v:=.tuple #[.agg #[.slice none 0 0,.slice none 0 0],.int .i64 3]) (by simp[results,Tryz.results47,go_sem,r0,r1]) rfl (zd1 hv.out (by decide) (za5 HB0.out _ _))
 have t1:decide ((4096:Int)<(t.length:Int))=false:=by rw[decide_eq_false_iff_not];omega
 go_enter Tryz.func47,Tryz.ntmps47
 go_upto_region 1 with fail
 have hx0:(w.alloc (.cells #[.slice none 0 0,.slice none 0 0] 126)).heap[w.heap.size]?=some (.cells #[.slice none 0 0,.slice none 0 0] 126 (0,0)):=zv8 _ _;have hb0:Below w.heap.size w (w.alloc (.cells #[.slice none 0 0,.slice none 0 0] 126)):=ba1 _ _;have hz0:(w.alloc (.cells #[.slice none 0 0,.slice none 0 0] 126)).heap.size=w.heap.size+1:=by simp
 generalize w.alloc (.cells #[.slice none 0 0,.slice none 0 0] 126)=w0 at *;obtain⟨⟨r0,r1⟩,rf⟩:=zab hx0;have HX0:=Hd hx0;have HB0:=Hd hb0;have HZ0:=Hd hz0;clear hx0 hb0 hz0;have hI0:=Hd ((HI.out.below HB0.out (zv0 _)).mono HB0.out.size);have HBg:=Hd (zrt a cap t w0 hI0.out hl HOk.out);have HHas:=Hd (fun w (hE:TE w) (hI:zaV w.heap.size w a t)=>zoq t a cap w hE hI (by omega));rcases hbg:zah t with _|fr
 ·have hv:=Hd (zgi hl hbg)
  have HNo:=Hd (show (zah t).isSome=false by rw[hbg];rfl);clear hbg
  go_wp2_with (go_at_call 68;(with_reducible refine HBg.out.mono ?_);rintro e w2 ⟨⟨v,ok,rfl,hok,_⟩,hb2⟩;have hok2:=hok.trans HNo.out;clear hok;subst hok2;have hx2:=(hb2.block _ (zaa HX0.out)).trans HX0.out;obtain⟨⟨s0,s1⟩,sf⟩:=zab hx2;have HB2:=Ht HB0 hb2;clear hb2 hx2)
  exact bodyPost_ret (v:=.tuple #[.agg #[.slice none 0 0,.slice none 0 0],.int .i64 90]) (by simp[results,Tryz.results47,go_sem,s0,s1]) rfl (zd1 hv.out (by decide) (za5 HB2.out _ _))
 ·have HSo:=Hd (show (zah t).isSome=true by rw[hbg];rfl)
  have HBe:=Hd hbg;have HLen:=Hd (zar hbg);clear hbg
  go_upto_region 4 with (go_at_call 68;(with_reducible refine HBg.out.mono ?_);rintro e w2 ⟨⟨v,ok,rfl,hok,hrow⟩,hb2⟩;have hok2:=hok.trans HSo.out;clear hok;subst hok2;obtain⟨fr2,hfr,hrow⟩:=hrow rfl;obtain rfl:=zv4 (HBe.out.symm.trans hfr);obtain⟨g,capb,rfl,hg,hN⟩:=hrow.far (fun e=>by have h1:=HLen.out.len;have h2:=HLen.out.pos;rw[e]at h1;simp at h1;omega);have HN:=Hd hN;have hx2:=(hb2.block _ (zaa HX0.out)).trans HX0.out;have HX2:=Hd hx2;have HB2:=Ht HB0 hb2;have HW2:=Hd (show WholeAt w2 a (some ⟨g,0,none⟩) t fr from ⟨(hI0.out.below hb2 (zv0 _)).mono hb2.size,hN⟩);rw[HZ0.out]at hg;clear hb2 hrow hN hfr hx2)
  have HH2:=Hd (HHas.out w2 (HE.out.below HB2.out) HW2.out.nds);rcases hall:t.all wellN with _|_
  ·have hv:=Hd (ziB hl hall)
   rw[hall]at HH2;clear hall
   go_wp2_with (go_at_call 69;(with_reducible refine HH2.out.mono ?_);rintro e w3 ⟨rfl,hb3⟩;have hx3:=(hb3.block _ (zaa HX2.out)).trans HX2.out;obtain⟨⟨s0,s1⟩,sf⟩:=zab hx3;have HB3:=Ht HB2 hb3;clear hb3 hx3)
   exact bodyPost_ret (v:=.tuple #[.agg #[.slice none 0 0,.slice none 0 0],.int .i64 90]) (by simp[results,Tryz.results47,go_sem,s0,s1]) rfl (zd1 hv.out (by decide) (za5 HB3.out _ _))
  ·have HAll:=Hd hall
   have hG:=zja hl hall HBe.out;have HDp:=Hd (fun w (hI:zaV w.heap.size w a t)=>zld a cap t w hI hl HBe.out HOk.out);have HFt:=Hd (fun (b:Option Addr) (capb:Nat) k hk w hW=>zuK a cap t b capb fr hG k hk w hW);have HG:=Hd hG;rw[hall]at HH2;clear hall hG
   go_upto_region 7 with (go_at_call 69;(with_reducible refine HH2.out.mono ?_);rintro e w3 ⟨rfl,hb3⟩;have hx3:=(hb3.block _ (zaa HX2.out)).trans HX2.out;have HX3:=Hd hx3;have HB3:=Ht HB2 hb3;have HW3:=Hd (HW2.out.below hb3);clear hb3 hx3)
   have hx4:(w3.alloc (.cells #[.slice a t.length cap,.slice (some ⟨g,0,none⟩) fr.length capb] 126)).heap[w3.heap.size]?=some (.cells #[.slice a t.length cap,.slice (some ⟨g,0,none⟩) fr.length capb] 126 (0,0)):=zv8 _ _;have hb4:Below w3.heap.size w3 (w3.alloc (.cells #[.slice a t.length cap,.slice (some ⟨g,0,none⟩) fr.length capb] 126)):=ba1 _ _;generalize w3.alloc (.cells #[.slice a t.length cap,.slice (some ⟨g,0,none⟩) fr.length capb] 126)=w4 at *;have hz4:=zaa hx4;have HX4:=Hd hx4;have HX04:=Hd ((hb4.block _ (zaa HX3.out)).trans HX3.out);have HB4:=Ht HB3 hb4;have HW4:=Hd (HW3.out.below hb4);have hr4:=zaa HX04.out;clear hx4 hb4 rf r0 r1
   go_wp2_with fail
   go_loopg [29] t.length (fun m v29 wy=>∃i:Nat,i≤t.length∧i+m=t.length∧v29=.int .i64 (i:Int)∧Hid (∀j,j<i→fitsN t fr j=true)∧Hid (Below w4.heap.size w4 wy))
   case atStart=>exact⟨0,by omega,by omega,rfl,Hd (fun j h=>by omega),Hd (zv3 _ _)⟩
   case round=>
    obtain⟨i,hi,him,rfl,HY,HC⟩:=hrel;have HBr:=Hd (HB4.out.trans (HC.out.mono HB4.out.size));have hxr:=(HC.out.block _ hz4).trans HX4.out;obtain⟨⟨q0,q1⟩,_⟩:=zab hxr;have hxs:=(HC.out.block _ hr4).trans HX04.out;obtain⟨⟨r0,r1⟩,rf⟩:=zab hxs;have HXS:=Hd hxs;clear hxr hxs
    by_cases hlt:i<t.length
    ·have HF:=Hd (HFt.out (some ⟨g,0,none⟩) capb i hlt wr (HW4.out.below HC.out))
     rcases hf:fitsN t fr i with _|_
     ·have hv:=Hd (zhu hl HAll.out HBe.out hlt hf)
      rw[hf]at HF;clear hf
      go_wp2_with (go_at_call 72;(with_reducible refine HF.out.mono ?_);rintro e w5 ⟨rfl,hb5⟩;have hx5:=(hb5.block _ (zaa HXS.out)).trans HXS.out;obtain⟨⟨s0,s1⟩,sf⟩:=zab hx5;have HB5:=Ht HBr hb5;clear hb5 hx5)
      exact bodyPost_ret (v:=.tuple #[.agg #[.slice none 0 0,.slice none 0 0],.int .i64 90]) (by simp[results,Tryz.results47,go_sem,s0,s1]) rfl (zd1 hv.out (by decide) (za5 HB5.out _ _))
     ·have HY2:=Hd (zkN HY.out hf)
      rw[hf]at HF;clear hf HY
      go_wp2_with (go_at_call 72;(with_reducible refine HF.out.mono ?_);rintro e w5 ⟨rfl,hb5⟩;have HB5:=Ht HC hb5;clear hb5)
      go_roundg (t.length-(i+1))
      case measure=>omega
      case rel=>exact⟨i+1,by omega,by omega,by rw[zv9];rfl,HY2,HB5⟩
    ·obtain rfl:i=t.length:=by omega
     have hdp:=Hd (ziE hl HAll.out HBe.out HY.out);have HWr:=Hd (HW4.out.below HC.out);have HD:=Hd (HDp.out wr HWr.out.nds);clear HY;generalize deepN t=d at *
     by_cases h48:48<d
     ·have t2:decide ((48:Int)<(d:Int))=true:=by rw[decide_eq_true_iff];omega
      have hv:=Hd (show checkN9 t=3 by rw[hdp.out,if_pos h48]);clear h48
      go_wp2_with (go_at_call 73;(with_reducible refine HD.out.mono ?_);rintro e w5 ⟨rfl,hb5⟩;have hx5:=(hb5.block _ (zaa HXS.out)).trans HXS.out;obtain⟨⟨s0,s1⟩,sf⟩:=zab hx5;have HB5:=Ht HBr hb5;clear hb5 hx5)
      exact bodyPost_ret (v:=.tuple #[.agg #[.slice none 0 0,.slice none 0 0],.int .i64 3]) (by simp[results,Tryz.results47,go_sem,s0,s1]) rfl (zd1 hv.out (by decide) (za5 HB5.out _ _))
     ·have t2:decide ((48:Int)<(d:Int))=false:=by rw[decide_eq_false_iff_not];omega
      have hv:=Hd (show checkN9 t=0 by rw[hdp.out,if_neg h48]);clear h48;have hqr:=zaa ((HC.out.block _ hz4).trans HX4.out)
      go_wp2_with (go_at_call 73;(with_reducible refine HD.out.mono ?_);rintro e w5 ⟨rfl,hb5⟩;have hx5:=(hb5.block _ (zaa HXS.out)).trans HXS.out;obtain⟨⟨s0,s1⟩,sf⟩:=zab hx5;have y0:=q0;have y1:=q1;rw[← hb5.cell hqr]at y0 y1;have HB5:=Ht HBr hb5;have HW5:=Hd (HWr.out.below hb5);clear hb5 hx5)
      exact bodyPost_ret (v:=.tuple #[.agg #[.slice a t.length cap,.slice (some ⟨g,0,none⟩) fr.length capb],.int .i64 0]) (by simp[results,Tryz.results47,go_sem,s0,s1]) rfl (zoo hv.out HBe.out HG.out (zjB (zjB HW5.out HI.out (by omega) _ _) HI.out (by omega) _ _) (fun g' off' e=>by cases e;omega) (za5 HB5.out _ _))
set_option maxHeartbeats 4000000
theorem ztR:(Tryz.prog.info? 47).map (fun i=>(i.zero,i.size,i.bytes))=some (some (.agg #[.int .i64 0,.int .i64 0,.int .i64 0,.int .i64 0,.string ⟨#[]⟩,.string ⟨#[]⟩]),6,64):=by kernel_rfl
theorem zg5 (x:Nd):(zcG x).length=6:=rfl
theorem ztO (t:List Nd):∀u ∈ t.flatMap zcG,u.oneCell'=true:=fun u hu=>by
 obtain⟨x,_,hx⟩:=List.mem_flatMap.1 hu;simp only[zcG,List.mem_cons,List.not_mem_nil,or_false]at hx;rcases hx with rfl|rfl|rfl|rfl|rfl|rfl<;>rfl
def NdRow (w:World)(base:Nat)(v:Value)(t:List Nd):Prop:=w.ownsRow base 47 6 v t.length (t.flatMap zcG)
theorem ziY (w:World){base:Nat}(hb:base≤w.heap.size):(w.alloc (.cells #[] 47)).ownsRow base 47 6 (.slice (some ⟨w.heap.size,0,none⟩) 0 0) 0 []:=World.ownsRow_lit w #[] 0 hb (by decide) rfl
theorem zhs (a:Option Addr)(cap:Nat)(t:List Nd)(w:World)(hI:zaV w.heap.size w a t)(hz:t.length*64≤140737488351232)(hnil:a=none→t=[]∧cap=0) :
 Calls Tryz.prog 20 #[.slice a t.length cap] w fun e w'=>(∃v,e=.returned v∧NdRow w' w.heap.size v t)∧Below w.heap.size w w':=by
 obtain⟨i0,hi,hz0,hz1,hz2⟩:=info_parts ztR;have HI0:=Hd (And.intro hi (And.intro hz0 (And.intro hz1 hz2)));clear hi hz0 hz1 hz2;cases a with
 | none=>
   obtain⟨rfl,rfl⟩:=hnil rfl;clear hI hnil
   go_enter Tryz.func20,Tryz.ntmps20
   go_wp2_with (at_builtin;go_loud (refine wpList_append_own_none rfl _ _ _ rfl w.heap.size 47 i0 6 Tryz.underlying43 HI0.out.1 _ 0 [] rfl (ziY _ (zv0 _)) rfl ?_))
   go_ret;exact⟨⟨_,rfl,ziY _ (zv0 _)⟩,ba1 _ _⟩
 | some ad=>
   have HI:=Hd hI;have HL:=Hd (zfj zg5 t);clear hI hnil
   go_enter Tryz.func20,Tryz.ntmps20
   go_wp2_with (at_builtin;go_loud (refine wpList_append_own _ rfl _ _ _ rfl w.heap.size 47 i0 _ 6 64 Tryz.underlying43 HI0.out.1 HI0.out.2.1 HI0.out.2.2.1 HI0.out.2.2.2 rfl (by decide) _ 0 [] rfl (ziY _ (zv0 _)) ad t.length cap (t.flatMap zcG) rfl HL.out (ziR zg5 (HI.out.below (ba1 _ _) (zv0 _))) (ztO t) (by unfold maxLen;omega) (by omega) (ba1 _ _).size ?_))
   intro v' w' hown hgrow _
   go_wp2_with fail
   go_ret;refine⟨⟨v',rfl,by unfold NdRow;simpa using hown⟩,(ba1 _ _).grown hgrow (ba1 _ _).size (fun k hk=>by simp[Value.ownBlock]at hk;omega)⟩
section
variable (a:Option Addr) (cap:Nat) (t:List Nd) (w:World) (hE:TE w) (hI:zaV w.heap.size w a t) (hOk:∀x ∈ t,NdOk x) (hz:t.length*64≤140737488351232)
include hE hI hOk hz
theorem zm2 (h:checkN9 t=0):Calls Tryz.prog 47 #[.slice a t.length cap] w fun e w'=>(∃(b:Option Addr) (capb:Nat) (fr:List Nat),e=.returned (.tuple #[.agg #[.slice a t.length cap,.slice b fr.length capb],.int .i64 0])∧zah t=some fr∧Given t fr∧WholeAt w' a b t fr∧FarB w b)∧Below w.heap.size w w':=
 (zko a cap t w hE hI hOk hz).mono fun e w' ⟨hd,hb⟩=>⟨by rcases hd with ⟨_,h'⟩|⟨h',_⟩;exact h';exact absurd h h',hb⟩
theorem zsZ (h:checkN9 t≠0):Calls Tryz.prog 47 #[.slice a t.length cap] w fun e w'=>e=.returned (.tuple #[.agg #[.slice none 0 0,.slice none 0 0],.int .i64 (checkN9 t)])∧Below w.heap.size w w':=
 (zko a cap t w hE hI hOk hz).mono fun e w' ⟨hd,hb⟩=>⟨by rcases hd with ⟨h',_⟩|⟨_,h'⟩;exact absurd h' h;exact h',hb⟩
theorem zf2:Calls Tryz.prog 83 #[.slice a t.length cap] w fun e w'=>e=.returned (.int .i64 (checkN9 t))∧Below w.heap.size w w':=by
 by_cases h:checkN9 t=0
 ·have HL:=Hd (zm2 a cap t w hE hI hOk hz h)
  rw[h];clear hE hI hOk h
  go_enter Tryz.func83,Tryz.ntmps83
  go_wp2_with (go_at_call 47;(with_reducible refine HL.out.mono ?_);rintro e w1 ⟨⟨b,capb,fr,rfl,_⟩,hb1⟩;have HB:=Hd hb1;clear hb1)
  go_ret;exact⟨rfl,HB.out.trans ((ba1 _ _).mono HB.out.size)⟩
 ·have HL:=Hd (zsZ a cap t w hE hI hOk hz h)
  generalize checkN9 t=c at *;clear hE hI hOk h
  go_enter Tryz.func83,Tryz.ntmps83
  go_wp2_with (go_at_call 47;(with_reducible refine HL.out.mono ?_);rintro e w1 ⟨rfl,hb1⟩;have HB:=Hd hb1;clear hb1)
  go_ret;exact⟨rfl,HB.out.trans ((ba1 _ _).mono HB.out.size)⟩
end
def zex (t:List Nd)(i:Int):List Nat × Int:=
 if checkN9 t≠0 then ([],checkN9 t) else if i<0∨(t.length:Int)≤i then ([],1) else (partsAt t ((zah t).getD []) i.toNat,0)
def zfn (t:List Nd)(i:Int)(w:World)(e:Ending)(w':World):Prop:=(∃v,e=.returned (.tuple #[v,.int .i64 (zex t i).2])∧NatRow w' w.heap.size v (zex t i).1)∧Below w.heap.size w w'
theorem zun (w:World)(base:Nat):NatRow w base (.slice none 0 0) []:=⟨rfl,.inl ⟨rfl,rfl⟩⟩
theorem zeO {t:List Nd}{i:Int}{w w':World}{c:Int}(h:zex t i=([],c))(hb:Below w.heap.size w w'):zfn t i w (.returned (.tuple #[.slice none 0 0,.int .i64 c])) w':=⟨⟨_,by rw[h],by rw[h];exact zun _ _⟩,hb⟩
theorem zj4 {t:List Nd}{i:Int}{w w':World}{v:Value}{L:List Nat}(h:zex t i=(L,0))(hr:NatRow w' w.heap.size v L)(hb:Below w.heap.size w w'):zfn t i w (.returned (.tuple #[v,.int .i64 0])) w':=⟨⟨_,by rw[h],by rw[h];exact hr⟩,hb⟩
theorem zoh {t:List Nd}{i:Int}(h:checkN9 t≠0):zex t i=([],checkN9 t):=by unfold zex;rw[if_pos h]
theorem zh8 {t:List Nd}{i:Int}(h:checkN9 t=0)(hi:i<0∨(t.length:Int)≤i):zex t i=([],1):=by unfold zex;rw[if_neg (by rw[h];decide),if_pos hi]
theorem zgX {t:List Nd}{k:Nat}{fr:List Nat}(h:checkN9 t=0)(hk:k<t.length)(hb:zah t=some fr):zex t (k:Int)=(partsAt t fr k,0):=by
 unfold zex;rw[if_neg (by rw[h];decide),if_neg (by omega),hb]
 rfl
theorem zc0 {t:List Nd}(h:checkN9 t=0):∃fr,zah t=some fr∧Given t fr:=by
 unfold checkN9 at h
 split at h
 ·cases h
 split at h
 ·cases h
 rename_i hl hw
 split at h
 ·cases h
 rename_i fr hb
 exact⟨fr,hb,zja (by omega) (by simpa using hw) hb⟩
theorem zf5 (a:Option Addr)(cap:Nat)(t:List Nd)(i:Int)(w:World)(hI:zaV w.heap.size w a t)(hOk:∀x ∈ t,NdOk x)(hz:t.length*64≤140737488351232) :
 Calls Tryz.prog 67 #[.slice a t.length cap,.int .i64 i] w (zfn t i w):=by
 have hmx:(t.length:Int)≤2199023255488:=by omega
 have HL:=Hd (zcT a cap t w hI hOk hz)
 by_cases h:checkN9 t=0
 ·have HC:=Hd h
  rw[h]at HL;obtain⟨fr,hbe,hG⟩:=zc0 h;have HBe:=Hd hbe;have HG:=Hd hG;have HI:=Hd hI;have HBg:=Hd (fun w (hI:zaV w.heap.size w a t)=>zdW a cap t w hI hG.le hOk);clear hI hOk h hbe hG;rcases Int.lt_or_le i 0 with h0|h0
  ·have hv:=Hd (zh8 HC.out (.inl h0))
   have t1:decide (i<0)=true:=decide_eq_true h0
   go_enter Tryz.func67,Tryz.ntmps67
   go_wp2_with (go_at_call 51;(with_reducible refine HL.out.mono ?_);rintro e w1 ⟨rfl,hb1⟩;have HB:=Hd hb1;clear hb1)
   go_ret2
   exact zeO hv.out HB.out
  have t1:decide (i<0)=false:=decide_eq_false (by omega);rcases Int.lt_or_le i t.length with h1|h1
  ·obtain⟨k,rfl⟩:∃k:Nat,i=(k:Int):=⟨i.toNat,by omega⟩
   have t2:decide ((t.length:Int)≤(k:Int))=false:=decide_eq_false (by omega);have hk:k<t.length:=by omega
   have HP:=Hd (fun b capb w (hW:WholeAt w a b t fr)=>zcR a cap t b capb fr w hW.nds hW.nats HG.out.le HG.out.formed k hk);have hv:=Hd (zgX HC.out hk HBe.out)
   go_enter Tryz.func67,Tryz.ntmps67
   go_upto_region 6 with (go_at_call 51;(with_reducible refine HL.out.mono ?_);rintro e w1 ⟨rfl,hb1⟩;have HB:=Hd hb1;clear hb1)
   have hI1:=Hd ((HI.out.below HB.out (zv0 _)).mono HB.out.size);have HB1:=Hd (HBg.out w1 hI1.out)
   go_upto_region 7 with (go_at_call 52;(with_reducible refine HB1.out.mono ?_);rintro e w2 ⟨⟨v,ok,rfl,hok,hrow⟩,hb2⟩;have hok2:ok=true:=(by rw[hok,HBe.out];rfl);clear hok;subst hok2;obtain⟨fr2,hfr,hrow⟩:=hrow rfl;obtain rfl:=zv4 (HBe.out.symm.trans hfr);obtain⟨b,capb,rfl,hN,_⟩:=hrow.is;have HB2:=Ht HB hb2;have HW2:=Hd (show WholeAt w2 a b t fr from ⟨(hI1.out.below hb2 (zv0 _)).mono hb2.size,hN⟩);clear hb2 hrow hN hfr)
   have HP1:=Hd (HP.out b capb w2 HW2.out)
   go_wp2_with (go_at_call 78;(with_reducible refine HP1.out.mono ?_);rintro e w3 ⟨⟨v,rfl,hr⟩,hb3⟩;have HR:=Hd hr;have HB3:=Hd hb3;clear hr hb3)
   go_ret2
   exact zj4 hv.out (zlI HR.out HB2.out.size) (HB2.out.trans (HB3.out.mono HB2.out.size))
  ·have hv:=Hd (zh8 HC.out (.inr h1))
   have t2:decide ((t.length:Int)≤i)=true:=decide_eq_true h1
   go_enter Tryz.func67,Tryz.ntmps67
   go_wp2_with (go_at_call 51;(with_reducible refine HL.out.mono ?_);rintro e w1 ⟨rfl,hb1⟩;have HB:=Hd hb1;clear hb1)
   go_ret2
   exact zeO hv.out HB.out
 ·have hv:=Hd (zoh (i:=i) h)
  have t3:(checkN9 t != 0)=true:=by simpa using h
  generalize checkN9 t=c at *;clear hI hOk h
  go_enter Tryz.func67,Tryz.ntmps67
  go_wp2_with (go_at_call 51;(with_reducible refine HL.out.mono ?_);rintro e w1 ⟨rfl,hb1⟩;have HB:=Hd hb1;clear hb1)
  go_ret2
  exact zeO hv.out HB.out
theorem zvp (w:World)(base:Nat):NdRow w base (.slice none 0 0) []:=⟨rfl,.inl ⟨rfl,rfl⟩⟩
structure VrU where
 name:ByteArray
 type:ByteArray
 vol:Bool
structure GlU where
 at_:Int
 var:VrU
 init:List (List Nd)
structure FnU where
 at_:Int
 name:ByteArray
 type:ByteArray
 params:List VrU
 body:List Nd
structure UnU where
 structs:List Sr
 globals:List GlU
 funcs:List FnU
def zbK (v:VrU):List Value:=[.string v.name,.string v.type,.bool v.vol]
def zdO (q:List Nd × Value):List Value:=[q.2]
def zbP (q:GlU × Value):List Value:=[.int .i64 q.1.at_,.string q.1.var.name,.string q.1.var.type,.bool q.1.var.vol,q.2]
def zaA (q:FnU × Value × Value):List Value:=[.int .i64 q.1.at_,.string q.1.name,.string q.1.type,q.2.1,q.2.2]
theorem zpa (v:VrU):(zbK v).length=3:=rfl
theorem zvi (q:List Nd × Value):(zdO q).length=1:=rfl
theorem zuG (q:GlU × Value):(zbP q).length=5:=rfl
theorem zc8 (q:FnU × Value × Value):(zaA q).length=5:=rfl
def SlK (k:Nat)(a:Option Addr)(n cap:Nat):Prop:=n*k≤140737488351232∧n≤cap∧cap≤maxLen∧(a=none→n=0∧cap=0)
def VrOk (v:VrU):Prop:=v.name.size≤maxLen∧v.type.size≤maxLen
def IsTr (B:Nat)(w:World)(v:Value)(T:List Nd):Prop:=∃a cap,v=.slice a T.length cap∧SlK 64 a T.length cap∧zaV B w a T∧∀x ∈ T,NdOk x
def IsVrs (B:Nat)(w:World)(v:Value)(L:List VrU):Prop:=∃a cap,v=.slice a L.length cap∧SlK 40 a L.length cap∧IsSl 3 zbK B w a L∧∀x ∈ L,VrOk x
def IsTrs (B:Nat)(w:World)(v:Value)(L:List (List Nd)):Prop:=∃a cap Q,v=.slice a L.length cap∧SlK 24 a L.length cap∧Q.map Prod.fst=L∧IsSl 1 zdO B w a Q∧∀q ∈ Q,IsTr B w q.2 q.1
structure IsGlU (B:Nat)(w:World)(g:GlU)(v:Value):Prop where
 var:VrOk g.var
 at_:zi7 g.at_
 init:IsTrs B w v g.init
structure IsFnU (B:Nat)(w:World)(f:FnU)(vp vb:Value):Prop where
 name:f.name.size≤maxLen
 type:f.type.size≤maxLen
 at_:zi7 f.at_
 params:IsVrs B w vp f.params
 body:IsTr B w vb f.body
def IsGlsU (B:Nat)(w:World)(v:Value)(L:List GlU):Prop:=∃a cap Q,v=.slice a L.length cap∧SlK 72 a L.length cap∧Q.map Prod.fst=L∧IsSl 5 zbP B w a Q∧∀q ∈ Q,IsGlU B w q.1 q.2
def IsFnsU (B:Nat)(w:World)(v:Value)(L:List FnU):Prop:=∃a cap Q,v=.slice a L.length cap∧SlK 88 a L.length cap∧Q.map Prod.fst=L∧IsSl 5 zaA B w a Q∧∀q ∈ Q,IsFnU B w q.1 q.2.1 q.2.2
def SrsOk (L:List Sr)(mv:List Value)(a:Option Addr)(cap:Nat):Prop:=L.length≤cap∧cap≤maxLen∧L.length*40≤140737488351232∧(∀x ∈ L,x.mems.length*32≤140737488351232)∧(∀v ∈ mv,∀n c,v=.slice none n c→n=0∧c=0)∧(a=none→L=[]∧cap=0)
def IsStU (B:Nat)(w:World)(v:Value)(L:List Sr):Prop:=∃a cap mv,v=.slice a L.length cap∧SrsOk L mv a cap∧IsSrs B w a L mv
structure IsUn (B:Nat)(w:World)(u:UnU)(vs vg vf:Value):Prop where
 structs:IsStU B w vs u.structs
 globals:IsGlsU B w vg u.globals
 funcs:IsFnsU B w vf u.funcs
theorem IsTr.below {B B':Nat}{w w':World}{v:Value}{T:List Nd}(h:IsTr B w v T)(hb:Below B' w w')(hB:B≤B'):IsTr B w' v T:=by
 obtain⟨a,cap,e,ho,hs,hk⟩:=h;exact⟨a,cap,e,ho,hs.below hb hB,hk⟩
theorem IsTr.mono {B B':Nat}{w:World}{v:Value}{T:List Nd}(h:IsTr B w v T)(hB:B≤B'):IsTr B' w v T:=by
 obtain⟨a,cap,e,ho,hs,hk⟩:=h;exact⟨a,cap,e,ho,hs.mono hB,hk⟩
theorem IsVrs.below {B B':Nat}{w w':World}{v:Value}{L:List VrU}(h:IsVrs B w v L)(hb:Below B' w w')(hB:B≤B'):IsVrs B w' v L:=by
 obtain⟨a,cap,e,ho,hs,hk⟩:=h;exact⟨a,cap,e,ho,hs.below hb hB,hk⟩
theorem IsVrs.mono {B B':Nat}{w:World}{v:Value}{L:List VrU}(h:IsVrs B w v L)(hB:B≤B'):IsVrs B' w v L:=by
 obtain⟨a,cap,e,ho,hs,hk⟩:=h;exact⟨a,cap,e,ho,hs.mono hB,hk⟩
theorem IsTrs.below {B B':Nat}{w w':World}{v:Value}{L:List (List Nd)}(h:IsTrs B w v L)(hb:Below B' w w')(hB:B≤B'):IsTrs B w' v L:=by
 obtain⟨a,cap,Q,e,ho,hq,hs,hk⟩:=h;exact⟨a,cap,Q,e,ho,hq,hs.below hb hB,fun q hm=>(hk q hm).below hb hB⟩
theorem IsTrs.mono {B B':Nat}{w:World}{v:Value}{L:List (List Nd)}(h:IsTrs B w v L)(hB:B≤B'):IsTrs B' w v L:=by
 obtain⟨a,cap,Q,e,ho,hq,hs,hk⟩:=h;exact⟨a,cap,Q,e,ho,hq,hs.mono hB,fun q hm=>(hk q hm).mono hB⟩
theorem IsGlU.below {B B':Nat}{w w':World}{g:GlU}{v:Value}(h:IsGlU B w g v)(hb:Below B' w w')(hB:B≤B'):IsGlU B w' g v:=⟨h.var,h.at_,h.init.below hb hB⟩
theorem IsGlU.mono {B B':Nat}{w:World}{g:GlU}{v:Value}(h:IsGlU B w g v)(hB:B≤B'):IsGlU B' w g v:=⟨h.var,h.at_,h.init.mono hB⟩
theorem IsFnU.below {B B':Nat}{w w':World}{f:FnU}{vp vb:Value}(h:IsFnU B w f vp vb)(hb:Below B' w w')(hB:B≤B'):IsFnU B w' f vp vb:=⟨h.name,h.type,h.at_,h.params.below hb hB,h.body.below hb hB⟩
theorem IsFnU.mono {B B':Nat}{w:World}{f:FnU}{vp vb:Value}(h:IsFnU B w f vp vb)(hB:B≤B'):IsFnU B' w f vp vb:=⟨h.name,h.type,h.at_,h.params.mono hB,h.body.mono hB⟩
theorem IsGlsU.below {B B':Nat}{w w':World}{v:Value}{L:List GlU}(h:IsGlsU B w v L)(hb:Below B' w w')(hB:B≤B'):IsGlsU B w' v L:=by
 obtain⟨a,cap,Q,e,ho,hq,hs,hk⟩:=h;exact⟨a,cap,Q,e,ho,hq,hs.below hb hB,fun q hm=>(hk q hm).below hb hB⟩
theorem IsGlsU.mono {B B':Nat}{w:World}{v:Value}{L:List GlU}(h:IsGlsU B w v L)(hB:B≤B'):IsGlsU B' w v L:=by
 obtain⟨a,cap,Q,e,ho,hq,hs,hk⟩:=h;exact⟨a,cap,Q,e,ho,hq,hs.mono hB,fun q hm=>(hk q hm).mono hB⟩
theorem IsFnsU.below {B B':Nat}{w w':World}{v:Value}{L:List FnU}(h:IsFnsU B w v L)(hb:Below B' w w')(hB:B≤B'):IsFnsU B w' v L:=by
 obtain⟨a,cap,Q,e,ho,hq,hs,hk⟩:=h;exact⟨a,cap,Q,e,ho,hq,hs.below hb hB,fun q hm=>(hk q hm).below hb hB⟩
theorem IsFnsU.mono {B B':Nat}{w:World}{v:Value}{L:List FnU}(h:IsFnsU B w v L)(hB:B≤B'):IsFnsU B' w v L:=by
 obtain⟨a,cap,Q,e,ho,hq,hs,hk⟩:=h;exact⟨a,cap,Q,e,ho,hq,hs.mono hB,fun q hm=>(hk q hm).mono hB⟩
theorem IsStU.below {B:Nat}{w w':World}{v:Value}{L:List Sr}(h:IsStU B w v L)(hb:Below B w w'):IsStU B w' v L:=by
 obtain⟨a,cap,mv,e,ho,hs⟩:=h;exact⟨a,cap,mv,e,ho,hs.below hb⟩
theorem IsStU.mono {B B':Nat}{w:World}{v:Value}{L:List Sr}(h:IsStU B w v L)(hB:B≤B'):IsStU B' w v L:=by
 obtain⟨a,cap,mv,e,ho,hs⟩:=h;exact⟨a,cap,mv,e,ho,hs.mono hB⟩
theorem IsUn.below {B:Nat}{w w':World}{u:UnU}{vs vg vf:Value}(h:IsUn B w u vs vg vf)(hb:Below B w w'):IsUn B w' u vs vg vf:=⟨h.structs.below hb,h.globals.below hb (zv0 _),h.funcs.below hb (zv0 _)⟩
theorem IsUn.mono {B B':Nat}{w:World}{u:UnU}{vs vg vf:Value}(h:IsUn B w u vs vg vf)(hB:B≤B'):IsUn B' w u vs vg vf:=⟨h.structs.mono hB,h.globals.mono hB,h.funcs.mono hB⟩
theorem IsUn.go {w w':World}{u:UnU}{vs vg vf:Value}(h:IsUn w.heap.size w u vs vg vf)(hb:Below w.heap.size w w'):IsUn w'.heap.size w' u vs vg vf:=(h.below hb).mono hb.size
theorem zeS {B:Nat}{w:World}{v:Value}{L:List GlU}(h:IsGlsU B w v L){i:Nat}(hi:i<L.length):∃b off cap q,v=.slice (some ⟨b,off,none⟩) L.length cap∧b<B∧IsGlU B w L[i] q ∧
 w.cell? ⟨b,off+i*5,none⟩=some (.int .i64 L[i].at_)∧w.cell? ⟨b,off+i*5+1,none⟩=some (.string L[i].var.name)∧w.cell? ⟨b,off+i*5+2,none⟩=some (.string L[i].var.type)∧w.cell? ⟨b,off+i*5+3,none⟩=some (.bool L[i].var.vol)∧w.cell? ⟨b,off+i*5+4,none⟩=some q:=by
 obtain⟨a,cap,Q,e,ho,hq,hs,hk⟩:=h;subst hq;have hi':i<Q.length:=by simpa using hi
 obtain⟨b,off,rfl,hlt,hc⟩:=hs (fun e=>by rw[e]at hi';simp at hi');have hx:=zv1 hi';have h1:=hc i _ hx;refine⟨b,off,cap,Q[i].2,e,hlt,?_,?_,?_,?_,?_,?_⟩
 ·simpa using hk _ (zwb hi')
 ·simpa using h1 0 _ rfl
 ·simpa using h1 1 _ rfl
 ·simpa using h1 2 _ rfl
 ·simpa using h1 3 _ rfl
 ·simpa using h1 4 _ rfl
theorem zd4 {B:Nat}{w:World}{v:Value}{L:List FnU}(h:IsFnsU B w v L){i:Nat}(hi:i<L.length):∃b off cap vp vb,v=.slice (some ⟨b,off,none⟩) L.length cap∧b<B∧IsFnU B w L[i] vp vb ∧
 w.cell? ⟨b,off+i*5,none⟩=some (.int .i64 L[i].at_)∧w.cell? ⟨b,off+i*5+1,none⟩=some (.string L[i].name)∧w.cell? ⟨b,off+i*5+2,none⟩=some (.string L[i].type)∧w.cell? ⟨b,off+i*5+3,none⟩=some vp∧w.cell? ⟨b,off+i*5+4,none⟩=some vb:=by
 obtain⟨a,cap,Q,e,ho,hq,hs,hk⟩:=h;subst hq;have hi':i<Q.length:=by simpa using hi
 obtain⟨b,off,rfl,hlt,hc⟩:=hs (fun e=>by rw[e]at hi';simp at hi');have hx:=zv1 hi';have h1:=hc i _ hx;refine⟨b,off,cap,Q[i].2.1,Q[i].2.2,e,hlt,?_,?_,?_,?_,?_,?_⟩
 ·simpa using hk _ (zwb hi')
 ·simpa using h1 0 _ rfl
 ·simpa using h1 1 _ rfl
 ·simpa using h1 2 _ rfl
 ·simpa using h1 3 _ rfl
 ·simpa using h1 4 _ rfl
theorem zmt {B:Nat}{w:World}{v:Value}{L:List VrU}(h:IsVrs B w v L){i:Nat}(hi:i<L.length):∃b off cap,v=.slice (some ⟨b,off,none⟩) L.length cap∧b<B∧VrOk L[i] ∧
 w.cell? ⟨b,off+i*3,none⟩=some (.string L[i].name)∧w.cell? ⟨b,off+i*3+1,none⟩=some (.string L[i].type)∧w.cell? ⟨b,off+i*3+2,none⟩=some (.bool L[i].vol):=by
 obtain⟨a,cap,e,ho,hs,hk⟩:=h;obtain⟨b,off,rfl,hlt,hc⟩:=hs (fun e=>by rw[e]at hi;simp at hi);have h1:=hc i _ (zv1 hi);exact⟨b,off,cap,e,hlt,hk _ (zwb hi),by simpa using h1 0 _ rfl,by simpa using h1 1 _ rfl,by simpa using h1 2 _ rfl⟩
theorem ztJ {B:Nat}{w:World}{v:Value}{L:List (List Nd)}(h:IsTrs B w v L){i:Nat}(hi:i<L.length):∃b off cap q,v=.slice (some ⟨b,off,none⟩) L.length cap∧b<B∧IsTr B w q L[i]∧w.cell? ⟨b,off+i,none⟩=some q:=by
 obtain⟨a,cap,Q,e,ho,hq,hs,hk⟩:=h;subst hq;have hi':i<Q.length:=by simpa using hi
 obtain⟨b,off,rfl,hlt,hc⟩:=hs (fun e=>by rw[e]at hi';simp at hi');have h1:=hc i _ (zv1 hi');refine⟨b,off,cap,Q[i].2,e,hlt,?_,?_⟩
 ·simpa using hk _ (zwb hi')
 ·simpa using h1 0 _ rfl
theorem ziM {B:Nat}{w:World}{v:Value}{L:List (List Nd)}(h:IsTrs B w v L):∃a cap,v=.slice a L.length cap:=by
 obtain⟨a,cap,_,e,_⟩:=h;exact⟨a,cap,e⟩
theorem zbc {B:Nat}{w:World}{v:Value}{L:List GlU}(h:IsGlsU B w v L):∃a cap,v=.slice a L.length cap∧L.length*72≤140737488351232:=by
 obtain⟨a,cap,_,e,ho,_⟩:=h;exact⟨a,cap,e,ho.1⟩
theorem zbd {B:Nat}{w:World}{v:Value}{L:List FnU}(h:IsFnsU B w v L):∃a cap,v=.slice a L.length cap∧L.length*88≤140737488351232:=by
 obtain⟨a,cap,_,e,ho,_⟩:=h;exact⟨a,cap,e,ho.1⟩
end Go.Proofs.YtbbaooeioogijaaGreatDoor
namespace Go.Proofs.YtbbaooeioogijaaGreatDoor
open Go.ChangeShapes Go.WideShapes Go.ChangeAt Go.RowKit Go.Deep
set_option maxRecDepth 100000
set_option maxHeartbeats 400000
section
variable {H:Type} {enc:TypeId × Value→H} {w:World} {base:Nat} {spare:Nat→Bool} {held:Bool}
def zi1 (m:ByteArray × ByteArray):List Value:=[.string m.1,.string m.2]
def zlQ (m:ByteArray × ByteArray):DataW H:=.agg [.lit (.string m.1.data.toList),.lit (.string m.2.data.toList)]
theorem znp:Tryz.prog.cellsOf 82=2:=by kernel_rfl
theorem zrh:Tryz.prog.cellsOf 61=2:=by kernel_rfl
theorem zri:Tryz.prog.cellsOf 9=1:=by kernel_rfl
theorem zuR:Tryz.prog.cellsOf 40=1:=by kernel_rfl
theorem zuT:Tryz.prog.cellsOf 59=1:=by kernel_rfl
theorem zsy {n:Nat}{cs:List Value}{D:DataW H}{pl:List MemPlace}(h:DataW.trod enc Tryz.prog w base spare held n 82 cs=some (D,pl)) :
 ∃m:ByteArray × ByteArray,cs=zi1 m∧D=zlQ m∧m.1.size≤maxLen:=by
 obtain⟨xs,n',_,hx,hlen,hxs,hf⟩:=DataW.trod_struct Tryz.underlying82 h;rw[znp]at hlen
 match cs,hlen with
 | [c0,c1],_=>
   match xs,hxs with
   | [y0,y1],_=>
     have f0:=hf 0 _ rfl;have f1:=hf 1 _ rfl;simp[zri]at f0;simp[zuR]at f1;obtain⟨a,e0,r0,l0⟩:=DataW.trod_string Tryz.underlying9 f0;obtain⟨b,e1,r1,_⟩:=DataW.trod_string Tryz.underlying40 f1;simp only[List.cons.injEq,and_true]at e0 e1;subst e0 e1 r0 r1;exact⟨(a,b),rfl,congrArg Prod.fst hx,l0⟩
theorem zqw {w:World}{a:Option Addr}{cap:Nat}{L:List (ByteArray × ByteArray)}{B:Nat}(h:IsSl 2 zi1 B w a L):IsMems B w (.slice a L.length cap) L:=
 ⟨a,cap,rfl,fun hn=>by
   obtain⟨b,off,e,hlt,hc⟩:=h hn
   exact⟨b,off,e,hlt,fun i m hm=>⟨hc i m hm 0 _ rfl,hc i m hm 1 _ rfl⟩⟩⟩
def zph (q:Sr × Value × DataW H):List Value:=[.string q.1.name,q.2.1]
def zpg (q:Sr × Value × DataW H):DataW H:=.agg [.lit (.string q.1.name.data.toList),q.2.2]
def SrOk (w:World)(q:Sr × Value × DataW H):Prop:=q.1.name.size≤maxLen∧IsMems w.heap.size w q.2.1 q.1.mems∧(∀m ∈ q.1.mems,m.1.size≤maxLen)∧(∀cap n,q.2.1=.slice none n cap→n=0∧cap=0)∧((q.2.2=.nil∧q.1.mems=[])∨∃rest,q.2.2=.slice (q.1.mems.map zlQ) rest)
theorem zui {n:Nat}{cs:List Value}{D:DataW H}{pl:List MemPlace}(h:DataW.trod enc Tryz.prog w base spare held n 61 cs=some (D,pl)) :
 ∃q:Sr × Value × DataW H,cs=zph q∧D=zpg q∧SrOk w q:=by
 obtain⟨xs,n',_,hx,hlen,hxs,hf⟩:=DataW.trod_struct Tryz.underlying61 h;rw[zrh]at hlen
 match cs,hlen with
 | [c0,c1],_=>
   match xs,hxs with
   | [y0,y1],_=>
     have f0:=hf 0 _ rfl;have f1:=hf 1 _ rfl;simp[zri]at f0;simp[zuT]at f1;obtain⟨a,e0,r0,l0⟩:=DataW.trod_string Tryz.underlying9 f0;simp only[List.cons.injEq,and_true]at e0;subst e0 r0;obtain⟨am,cm,L,rfl,_,hl,hn,hd,hs,hok⟩:=zcF (by decide) Tryz.underlying59 znp zi1 zlQ (fun m=>m.1.size≤maxLen) (fun h=>zsy h) f1;refine⟨(⟨a,L⟩,.slice am L.length cm,y1.1),rfl,congrArg Prod.fst hx,l0,zqw hs,hok,fun cap n e=>?_,hd⟩;simp only[Value.slice.injEq]at e;obtain⟨e1,e2,e3⟩:=e;obtain⟨h1,h2⟩:=hn e1;exact⟨by rw[← e2,h1];rfl,by omega⟩
theorem zsx {fuel:Nat}{v:Value}{x:DataW H × List MemPlace}(h:DataW.trod enc Tryz.prog w base spare held fuel 22 [v]=some x) :
 ∃(a:Option Addr) (cap:Nat) (Q:List (Sr × Value × DataW H)),v=.slice a Q.length cap∧Q.length≤cap∧cap≤maxLen∧(a=none→Q=[]∧cap=0)∧((x.1=.nil∧Q=[])∨∃rest,x.1=.slice (Q.map zpg) rest)∧IsSrs w.heap.size w a (Q.map Prod.fst) (Q.map fun q=>q.2.1)∧∀q ∈ Q,SrOk w q:=by
 obtain⟨a,cap,Q,hv,hl,hc,hn,hd,hs,hok⟩:=zcF (by decide) Tryz.underlying22 zrh zph zpg (SrOk w) (fun h=>zui h) h;refine⟨a,cap,Q,hv,hl,hc,hn,hd,⟨by simp,fun hne=>?_,fun y hy=>?_⟩,hok⟩
 ·obtain⟨b,off,e,hlt,hc⟩:=hs (fun e=>hne (by rw[e];rfl))
  refine⟨b,off,e,hlt,fun i y u hy hu=>?_⟩;rw[List.getElem?_map,Option.map_eq_some_iff]at hy hu;obtain⟨q,hq,rfl⟩:=hy;obtain⟨q',hq',rfl⟩:=hu;obtain rfl:=zv4 (hq.symm.trans hq');exact⟨hc i q hq 0 _ rfl,hc i q hq 1 _ rfl,(hok q (List.mem_of_getElem? hq)).2.1⟩
 ·obtain⟨q,hq,rfl⟩:=List.mem_map.1 hy
  exact(hok q hq).1
theorem zhF {P:Program}{e:TypeId}{l:List (DataW H)}{d:DataW H}(h:d ∈ l){n:Nat}(hn:n ∈ d.weights P e):n ∈ DataW.weightsAll P e l:=by
 induction l with
 | nil=>cases h
 | cons x r ih=>
   rw[DataW.weightsAll];rcases List.mem_cons.1 h with rfl|h
   ·exact List.mem_append_left _ hn
   ·exact List.mem_append_right _ (ih h)
end
section
variable {H:Type} {enc:TypeId × Value→H} {w:World} {base:Nat} {spare:Nat→Bool} {held:Bool}
def Wt (t:TypeId)(d:DataW H):Prop:=∀n ∈ d.weights Tryz.prog t,n≤140737488351232
theorem wt_sl {t e:TypeId}{k:Nat}{l rest:List (DataW H)}(ht:Tryz.prog.underlying t=some (.slice e))(hk:Tryz.prog.bytesOf e=k)(h:Wt t (.slice l rest)):l.length*k≤140737488351232∧∀d ∈ l,Wt e d:=by
 unfold Wt at h;rw[DataW.weights,ht]at h;have h0:=h _ List.mem_cons_self;rw[hk]at h0;have h1:l.length*k≤(l.length+rest.length)*k:=Nat.mul_le_mul_right k (Nat.le_add_right _ _);exact⟨by omega,fun d hd n hn=>h n (List.mem_cons_of_mem _ (List.mem_append_left _ (zhF hd hn)))⟩
theorem zk7 {t:TypeId}{fs:Array Field}{l:List (DataW H)}(ht:Tryz.prog.underlying t=some (.struct fs))(h:Wt t (.agg l))(j:Nat)(f:Field)(d:DataW H)(hf:fs[j]?=some f)(hd:l[j]?=some d):Wt f.type d:=fun n hn=>by
 unfold Wt at h;rw[DataW.weights,ht]at h;refine h n (DataW.weights_mem_each (j:=j) (t:=f.type) (d:=d) ?_ hd n hn);rw[List.getElem?_map,Array.getElem?_toList,hf]
 rfl
theorem zjn:Tryz.prog.cellsOf 50=3:=by kernel_rfl
theorem zre:Tryz.prog.cellsOf 41=1:=by kernel_rfl
theorem znn:Tryz.prog.cellsOf 43=1:=by kernel_rfl
theorem zrf:Tryz.prog.cellsOf 62=1:=by kernel_rfl
theorem znr:Tryz.prog.cellsOf 64=5:=by kernel_rfl
theorem zrk:Tryz.prog.cellsOf 23=1:=by kernel_rfl
theorem zns:Tryz.prog.cellsOf 45=5:=by kernel_rfl
theorem zrl:Tryz.prog.cellsOf 24=1:=by kernel_rfl
theorem zrg:Tryz.prog.cellsOf 22=1:=by kernel_rfl
theorem zty:Tryz.prog.cellsOf 26=3:=by kernel_rfl
theorem znq:Tryz.prog.cellsOf 3=1:=by kernel_rfl
theorem zno:Tryz.prog.cellsOf 9=1:=by kernel_rfl
theorem znm:Tryz.prog.cellsOf 40=1:=by kernel_rfl
theorem ztz:Tryz.prog.cellsOf 4=1:=by kernel_rfl
theorem zmC {α β:Type}{k:Nat}{c1:α→List Value}{c2:β→List Value}(g:α→β)(he:∀x,c2 (g x)=c1 x){B:Nat}{w:World}{a:Option Addr}{Q:List α}(h:IsSl k c1 B w a Q):IsSl k c2 B w a (Q.map g):=fun hn=>by
 obtain⟨b,off,e,hlt,hc⟩:=h (fun e=>hn (by rw[e];rfl));refine⟨b,off,e,hlt,fun i t ht j u hu=>?_⟩;rw[List.getElem?_map,Option.map_eq_some_iff]at ht;obtain⟨q,hq,rfl⟩:=ht;rw[he]at hu;exact hc i q hq j u hu
theorem zgz {α:Type}{t e:TypeId}{k:Nat}{x:DataW H}{L:List α}{data:α→DataW H}(ht:Tryz.prog.underlying t=some (.slice e))(hk:Tryz.prog.bytesOf e=k)(hd:(x=.nil∧L=[])∨∃rest,x=.slice (L.map data) rest)(h:Wt t x):L.length*k≤140737488351232∧∀q ∈ L,Wt e (data q):=by
 rcases hd with ⟨_,rfl⟩|⟨rest,rfl⟩
 ·exact⟨by simp,fun q hq=>by cases hq⟩
 ·obtain⟨h1,h2⟩:=wt_sl ht hk h
  rw[List.length_map]at h1;exact⟨h1,fun q hq=>h2 _ (List.mem_map_of_mem hq)⟩
theorem zmP {n:Nat}{cs:List Value}{D:DataW H}{pl:List MemPlace}(h:DataW.trod enc Tryz.prog w base spare held n 50 cs=some (D,pl)) :
 ∃q:VrU × DataW H,cs=zbK q.1∧D=q.2∧VrOk q.1:=by
 obtain⟨xs,n',_,hx,hlen,hxs,hf⟩:=DataW.trod_struct Tryz.underlying50 h;rw[zjn]at hlen
 match cs,hlen with
 | [c0,c1,c2],_=>
   match xs,hxs with
   | [y0,y1,y2],_=>
     have f0:=hf 0 _ rfl;have f1:=hf 1 _ rfl;have f2:=hf 2 _ rfl;simp[zno]at f0;simp[znm]at f1;simp[ztz]at f2;obtain⟨a0,e0,r0,w0⟩:=DataW.trod_string Tryz.underlying9 f0;obtain⟨a1,e1,r1,w1⟩:=DataW.trod_string Tryz.underlying40 f1;obtain⟨a2,e2,r2⟩:=DataW.trod_bool Tryz.underlying4 f2;simp only[List.cons.injEq,and_true]at e0 e1 e2;subst e0 e1 e2;exact⟨(⟨a0,a1,a2⟩,D),rfl,rfl,w0,w1⟩
theorem zpO {fuel:Nat}{v:Value}{x:DataW H × List MemPlace}(h:DataW.trod enc Tryz.prog w base spare held fuel 41 [v]=some x) :
 ∃L:List VrU,Wt 41 x.1→IsVrs w.heap.size w v L:=by
 obtain⟨a,cap,Q,hv,hl,hc,hn,hd,hs,hok⟩:=zcF (by decide) Tryz.underlying41 zjn (fun q:VrU × DataW H=>zbK q.1) Prod.snd (fun q=>VrOk q.1) (fun h=>zmP h) h;refine⟨Q.map Prod.fst,fun hf=>?_⟩;obtain⟨hz,_⟩:=zgz Tryz.underlying41 (show Tryz.prog.bytesOf 50=40 by kernel_rfl) hd hf;refine⟨a,cap,by rw[List.length_map];exact hv,⟨by rw[List.length_map];exact hz,by rw[List.length_map];exact hl,hc,fun e=>⟨by rw[(hn e).1];rfl,(hn e).2⟩⟩,zmC Prod.fst (fun _=>rfl) hs,fun y hy=>?_⟩;obtain⟨q,hq,rfl⟩:=List.mem_map.1 hy;exact hok q hq
theorem zmQ {fuel:Nat}{v:Value}{x:DataW H × List MemPlace}(h:DataW.trod enc Tryz.prog w base spare held fuel 43 [v]=some x) :
 ∃T:List Nd,Wt 43 x.1→IsTr w.heap.size w v T:=by
 obtain⟨a,cap,Q,hv,hl,hc,hn,hd,hs,hok⟩:=zpR h;refine⟨Q,fun hf=>?_⟩;obtain⟨hz,_⟩:=zgz Tryz.underlying43 (show Tryz.prog.bytesOf 47=64 by kernel_rfl) hd hf;exact⟨a,cap,hv,⟨hz,hl,hc,fun e=>⟨by rw[(hn e).1];rfl,(hn e).2⟩⟩,hs,hok⟩
theorem zpQ {fuel:Nat}{v:Value}{x:DataW H × List MemPlace}(h:DataW.trod enc Tryz.prog w base spare held fuel 62 [v]=some x) :
 ∃L:List (List Nd),Wt 62 x.1→IsTrs w.heap.size w v L:=by
 obtain⟨a,cap,Q,hv,hl,hc,hn,hd,hs,hok⟩:=zcF (by decide) Tryz.underlying62 znn (fun q:(List Nd × Value) × DataW H=>zdO q.1) Prod.snd (fun q=>Wt 43 q.2→IsTr w.heap.size w q.1.2 q.1.1) (fun {n cs D pl} h=>by
  obtain⟨c0,rfl⟩:∃c0,cs=[c0]:=by
   rcases DataW.trod_slice Tryz.underlying43 h with ⟨e,_⟩|⟨a,len,cap,_,_,_,_,e,_⟩
   ·exact⟨_,e⟩
   ·exact⟨_,e⟩
  obtain⟨T,hT⟩:=zmQ h
  exact⟨((T,c0),D),rfl,rfl,hT⟩) h
 refine⟨Q.map fun q=>q.1.1,fun hf=>?_⟩;obtain⟨hz,hz2⟩:=zgz Tryz.underlying62 (show Tryz.prog.bytesOf 43=24 by kernel_rfl) hd hf;refine⟨a,cap,Q.map Prod.fst,by rw[List.length_map];exact hv,⟨by rw[List.length_map];exact hz,by rw[List.length_map];exact hl,hc,fun e=>⟨by rw[(hn e).1];rfl,(hn e).2⟩⟩,by rw[List.map_map];rfl,zmC Prod.fst (fun _=>rfl) hs,fun q hq=>?_⟩;obtain⟨q',hq',rfl⟩:=List.mem_map.1 hq;exact hok q' hq' (hz2 q' hq')
def zvX (w:World)(q:(GlU × Value) × DataW H):Prop:=Wt 64 q.2→IsGlU w.heap.size w q.1.1 q.1.2
theorem zsz {n:Nat}{cs:List Value}{D:DataW H}{pl:List MemPlace}(h:DataW.trod enc Tryz.prog w base spare held n 64 cs=some (D,pl)) :
 ∃q:(GlU × Value) × DataW H,cs=zbP q.1∧D=q.2∧zvX w q:=by
 obtain⟨xs,n',_,hx,hlen,hxs,hf⟩:=DataW.trod_struct Tryz.underlying64 h;rw[znr]at hlen
 match cs,hlen with
 | [c0,c1,c2,c3,c4],_=>
   match xs,hxs with
   | [y0,y1,y2],_=>
     have f0:=hf 0 _ rfl;have f1:=hf 1 _ rfl;have f2:=hf 2 _ rfl;simp[znq]at f0;simp[zjn]at f1;simp[zrf]at f2;obtain⟨a0,e0,r0,w0⟩:=DataW.trod_int Tryz.underlying3 f0;obtain⟨q1,e1,_,hq1⟩:=zmP f1;obtain⟨L,hL⟩:=zpQ f2;simp only[zbK,List.cons.injEq,and_true]at e0 e1;obtain⟨rfl,rfl,rfl⟩:=e1;subst e0;refine⟨((⟨a0,q1.1,L⟩,c4),D),rfl,rfl,fun hft=>⟨hq1,bounds_i64 w0,?_⟩⟩;have hD:=congrArg Prod.fst hx
     dsimp only at hD hft
     rw[hD]at hft;exact hL (zk7 Tryz.underlying64 hft 2 _ _ rfl rfl)
theorem zpV {fuel:Nat}{v:Value}{x:DataW H × List MemPlace}(h:DataW.trod enc Tryz.prog w base spare held fuel 23 [v]=some x) :
 ∃L:List GlU,Wt 23 x.1→IsGlsU w.heap.size w v L:=by
 obtain⟨a,cap,Q,hv,hl,hc,hn,hd,hs,hok⟩:=zcF (by decide) Tryz.underlying23 znr (fun q:(GlU × Value) × DataW H=>zbP q.1) Prod.snd (zvX w) (fun h=>zsz h) h;refine⟨Q.map fun q=>q.1.1,fun hf=>?_⟩;obtain⟨hz,hz2⟩:=zgz Tryz.underlying23 (show Tryz.prog.bytesOf 64=72 by kernel_rfl) hd hf;refine⟨a,cap,Q.map Prod.fst,by rw[List.length_map];exact hv,⟨by rw[List.length_map];exact hz,by rw[List.length_map];exact hl,hc,fun e=>⟨by rw[(hn e).1];rfl,(hn e).2⟩⟩,by rw[List.map_map];rfl,zmC Prod.fst (fun _=>rfl) hs,fun q hq=>?_⟩;obtain⟨q',hq',rfl⟩:=List.mem_map.1 hq;exact hok q' hq' (hz2 q' hq')
def zvZ (w:World)(q:(FnU × Value × Value) × DataW H):Prop:=Wt 45 q.2→IsFnU w.heap.size w q.1.1 q.1.2.1 q.1.2.2
theorem zsA {n:Nat}{cs:List Value}{D:DataW H}{pl:List MemPlace}(h:DataW.trod enc Tryz.prog w base spare held n 45 cs=some (D,pl)) :
 ∃q:(FnU × Value × Value) × DataW H,cs=zaA q.1∧D=q.2∧zvZ w q:=by
 obtain⟨xs,n',_,hx,hlen,hxs,hf⟩:=DataW.trod_struct Tryz.underlying45 h;rw[zns]at hlen
 match cs,hlen with
 | [c0,c1,c2,c3,c4],_=>
   match xs,hxs with
   | [y0,y1,y2,y3,y4],_=>
     have f0:=hf 0 _ rfl;have f1:=hf 1 _ rfl;have f2:=hf 2 _ rfl;have f3:=hf 3 _ rfl;have f4:=hf 4 _ rfl;simp[znq]at f0;simp[zno]at f1;simp[znm]at f2;simp[zre]at f3;simp[znn]at f4;obtain⟨a0,e0,r0,w0⟩:=DataW.trod_int Tryz.underlying3 f0;obtain⟨a1,e1,r1,w1⟩:=DataW.trod_string Tryz.underlying9 f1;obtain⟨a2,e2,r2,w2⟩:=DataW.trod_string Tryz.underlying40 f2;obtain⟨L,hL⟩:=zpO f3;obtain⟨T,hT⟩:=zmQ f4;simp only[List.cons.injEq,and_true]at e0 e1 e2;subst e0 e1 e2;refine⟨((⟨a0,a1,a2,L,T⟩,c3,c4),D),rfl,rfl,fun hft=>?_⟩;have hD:=congrArg Prod.fst hx
     dsimp only at hD hft
     rw[hD]at hft;exact⟨w1,w2,bounds_i64 w0,hL (zk7 Tryz.underlying45 hft 3 _ _ rfl rfl),hT (zk7 Tryz.underlying45 hft 4 _ _ rfl rfl)⟩
theorem zpW {fuel:Nat}{v:Value}{x:DataW H × List MemPlace}(h:DataW.trod enc Tryz.prog w base spare held fuel 24 [v]=some x) :
 ∃L:List FnU,Wt 24 x.1→IsFnsU w.heap.size w v L:=by
 obtain⟨a,cap,Q,hv,hl,hc,hn,hd,hs,hok⟩:=zcF (by decide) Tryz.underlying24 zns (fun q:(FnU × Value × Value) × DataW H=>zaA q.1) Prod.snd (zvZ w) (fun h=>zsA h) h;refine⟨Q.map fun q=>q.1.1,fun hf=>?_⟩;obtain⟨hz,hz2⟩:=zgz Tryz.underlying24 (show Tryz.prog.bytesOf 45=88 by kernel_rfl) hd hf;refine⟨a,cap,Q.map Prod.fst,by rw[List.length_map];exact hv,⟨by rw[List.length_map];exact hz,by rw[List.length_map];exact hl,hc,fun e=>⟨by rw[(hn e).1];rfl,(hn e).2⟩⟩,by rw[List.map_map];rfl,zmC Prod.fst (fun _=>rfl) hs,fun q hq=>?_⟩;obtain⟨q',hq',rfl⟩:=List.mem_map.1 hq;exact hok q' hq' (hz2 q' hq')
theorem zsw {fuel:Nat}{v:Value}{x:DataW H × List MemPlace}(h:DataW.trod enc Tryz.prog w base spare held fuel 22 [v]=some x) :
 ∃L:List Sr,Wt 22 x.1→IsStU w.heap.size w v L:=by
 obtain⟨a,cap,Q,hv,hl,hc,hn,hd,hs,hok⟩:=zsx h;refine⟨Q.map Prod.fst,fun hf=>?_⟩;obtain⟨hz,hz2⟩:=zgz Tryz.underlying22 (show Tryz.prog.bytesOf 61=40 by kernel_rfl) hd hf;refine⟨a,cap,Q.map fun q=>q.2.1,by rw[List.length_map];exact hv,⟨by rw[List.length_map];exact hl,hc,by rw[List.length_map];exact hz,fun y hy=>?_,fun u hu n c e=>?_,fun e=>⟨by rw[(hn e).1];rfl,(hn e).2⟩⟩,hs⟩
 ·obtain⟨q,hq,rfl⟩:=List.mem_map.1 hy
  have h1:=zk7 Tryz.underlying61 (hz2 q hq) 1 _ _ rfl rfl;exact(zgz Tryz.underlying59 (show Tryz.prog.bytesOf 82=32 by kernel_rfl) (hok q hq).2.2.2.2 h1).1
 ·obtain⟨q,hq,rfl⟩:=List.mem_map.1 hu
  exact(hok q hq).2.2.2.1 c n e
theorem zsv {n:Nat}{cs:List Value}{D:DataW H}{pl:List MemPlace}(h:DataW.trod enc Tryz.prog w base spare held n 26 cs=some (D,pl))(hft:Wt 26 D) :
 ∃(u:UnU) (vs vg vf:Value),cs=[vs,vg,vf]∧IsUn w.heap.size w u vs vg vf:=by
 obtain⟨xs,n',_,hx,hlen,hxs,hf⟩:=DataW.trod_struct Tryz.underlying26 h;rw[zty]at hlen
 match cs,hlen with
 | [c0,c1,c2],_=>
   match xs,hxs with
   | [y0,y1,y2],_=>
     have f0:=hf 0 _ rfl;have f1:=hf 1 _ rfl;have f2:=hf 2 _ rfl;simp[zrg]at f0;simp[zrk]at f1;simp[zrl]at f2;obtain⟨L0,h0⟩:=zsw f0;obtain⟨L1,h1⟩:=zpV f1;obtain⟨L2,h2⟩:=zpW f2;have hD:=congrArg Prod.fst hx
     dsimp only at hD
     rw[hD]at hft;exact⟨⟨L0,L1,L2⟩,c0,c1,c2,rfl,h0 (zk7 Tryz.underlying26 hft 0 _ _ rfl rfl),h1 (zk7 Tryz.underlying26 hft 1 _ _ rfl rfl),h2 (zk7 Tryz.underlying26 hft 2 _ _ rfl rfl)⟩
theorem zpP {fuel:Nat}{cs:List Value}{x:DataW H × List MemPlace}{ts:List TypeId}{ds:List (DataW H)}(hw:(DataW.weightsEach Tryz.prog ts ds).all (·≤reachBytes)=true){j:Nat}(ht:ts[j]?=some 26)(hD:ds[j]?=some x.1)
 (h:DataW.trod enc Tryz.prog w base spare held fuel 26 cs=some x):∃(u:UnU) (vs vg vf:Value),cs=[vs,vg,vf]∧IsUn w.heap.size w u vs vg vf:=by
 obtain⟨D,pl⟩:=x;refine zsv h fun n hn=>?_
 have h1:=List.all_eq_true.1 hw n (DataW.weights_mem_each ht hD n hn);have hr:reachBytes=140737488351232:=rfl;rw[hr]at h1;exact of_decide_eq_true h1
end
end Go.Proofs.YtbbaooeioogijaaGreatDoor
namespace Go.Proofs.YtbbaooeioogijaaGreatDoor
open Go.ChangeShapes Go.WideShapes Go.ChangeAt Go.RowKit
theorem zuy:laidOutB Tryz.prog=true:=by kernel_rfl
section
variable {H:Type} {enc:TypeId × Value→H}
theorem zkX {W W':World}(hb:Below W.heap.size W W'):∀{ts:List TypeId} {vs:List Value} {ds:List (DataW H)} {ps:List MemPlace},DataW.TrodAll enc Tryz.prog W 0 (fun _=>true) true ts vs ds ps →
 (∀t ∈ ts,Tryz.prog.readableRec t=true∧t<Tryz.prog.types.size)→(∀x ∈ ps,x.block<W.heap.size)→DataW.TrodAll enc Tryz.prog W' 0 (fun b=>decide (b<W.heap.size)) true ts vs ds ps
 | [],vs,ds,ps,h,_,_=>by
   obtain⟨rfl,rfl,rfl⟩:=trodAll_nil h;exact trodAll_mk0
 | t :: ts,vs,ds,ps,h,ht,hx=>by
   obtain⟨v0,vs0,d0,ds0,p0,q0,rfl,rfl,rfl,h0,r0⟩:=trodAll_cons h;have h1:=Below.trod zuy (ht t (by simp)).1 (ht t (by simp)).2 h0 hb (fun x hxm=>hx x (List.mem_append.2 (Or.inl hxm)));have h2:=zkX hb r0 (fun u hu=>ht u (by simp[hu])) (fun x hxm=>hx x (List.mem_append.2 (Or.inr hxm)));exact trodAll_cons_mk h1 h2
theorem zs3 {f:Func}{s:ChangeSpec}{W W':World}{args:Array Value}{ds:List (DataW H)}{before:List MemPlace}
 (hW:DataW.Whole enc Tryz.prog f.params.toList s.vars false W args.toList ds [] before) (hv:s.vars=[]) (hr:f.resultTypes.toList=[4]) (hsz:f.resultTypes.size=1)
 (hts:∀t ∈ f.params.toList,Tryz.prog.readableRec t=true∧t<Tryz.prog.types.size)
 (hfn:s.fn H (ds++[])={ results:=[.lit (.bool true)],args:=ds }) (hb:Below W.heap.size W W'):s.post enc Tryz.prog f false true false false W args (.bool true) W':=by
 have hlt:∀p ∈ before,p.block<W.heap.size:=fun p hp=>hW.lt p hp
 have hW0:=hW;obtain⟨p,q,hA,hV,rfl,_,_⟩:=hW0;rw[hv]at hV;obtain⟨_,rfl⟩:=trodVars_none hV;refine⟨ds,[],p++[],[],p,[],hW,?_,?_,?_,World.keptBut_mono (fun x hx=>⟨hx,Or.inr ?_⟩) (hb.frame (· ∈ p++[])),fun h=>by cases h⟩
 ·rw[hfn,hr,hsz]
  exact trodAll_cons_mk (shut_bool Tryz.underlying4 _) trodAll_mk0
 ·rw[hfn]
  exact zkX hb hA hts (fun x hx=>hlt x (by simp[hx]))
 ·rw[hfn,hv]
  exact rfl
 ·exact List.mem_append.1 hx
end
end Go.Proofs.YtbbaooeioogijaaGreatDoor
namespace Go.Proofs.YtbbaooeioogijaaGreatDoor
theorem zjL {K:List Kn}:∀t:Ty,thereT [] t=true→thereT K t=true∧measT K t=measT [] t
 | .base _,_=>⟨rfl,rfl⟩
 | .ptr _,_=>⟨rfl,rfl⟩
 | .arr n t,h=>by
   obtain⟨h1,h2⟩:=zjL (K:=K) t h;exact⟨h1,by rw[measT,measT,h2]⟩
 | .str s,h=>by simp[thereT,za3]at h
 | .fn _ _,_=>⟨rfl,rfl⟩
mutual
theorem zdQ {K:List Kn}:∀t:Ty,sizedT K t=true→sizedT [] t=true
 | .base _,_=>rfl
 | .ptr t,h=>zdQ t h
 | .arr n t,h=>by
   rw[sizedT,Bool.and_eq_true]at h ⊢;refine⟨zdQ t h.1,?_⟩;rcases ht:thereT [] t with _|_
   ·rfl
   ·obtain⟨h1,h2⟩:=zjL (K:=K) t ht
    have:=h.2;rw[h1,h2]at this;simpa using this
 | .str _,_=>rfl
 | .fn ps r,h=>by
   rw[sizedT,Bool.and_eq_true]at h ⊢;exact⟨zdQ r h.1,zhV ps h.2⟩
theorem zhV {K:List Kn}:∀l:List Ty,zeG K l=true→zeG [] l=true
 | [],_=>rfl
 | t :: l,h=>by
   rw[zeG,Bool.and_eq_true]at h ⊢;exact⟨zdQ t h.1,zhV l h.2⟩
end
theorem zkT {K:List Kn}{t:Ty}(h:zbA K t=0):zbA [] t=0∨zbA [] t=4:=by
 unfold zbA at h ⊢
 split at h
 ·cases h
 rename_i h1
 split at h
 ·cases h
 rename_i h2
 split at h
 ·cases h
 split at h
 ·cases h
 rename_i h4
 rw[if_neg h1,if_neg h2];rcases hth:thereT [] t with _|_
 ·exact .inr rfl
 ·have:=zdQ (K:=K) t (by simpa using h4)
  exact .inl (by simp[this])
theorem zkU {K:List Kn}{s:ByteArray}(h:checkS K s=0):typedS s=true:=by
 have key:checkS [] s=0∨checkS [] s=4:=by
  unfold checkS at h ⊢;rcases ht:tyS s with _|t
  ·rw[ht]at h;cases h
  ·rw[ht]at h
   exact zkT h
 unfold typedS;exact decide_eq_true key
theorem zcf {L:List Sr}{s:ByteArray}(h:checkN L s=0):typedS s=true:=by
 unfold checkN at h
 split at h
 ·rename_i h1;exact absurd h (zhb h1)
 ·exact zkU h
def zbV {α:Type}(f:α→Int):List α→Nat→Option (Int × Int)
 | [],_=>none
 | x :: r,i=>if f x≠0 then some ((i:Int),f x) else zbV f r (i+1)
theorem zeV {α:Type}{f:α→Int}:∀{L:List α} {k:Nat} (n:Nat),(∀(j:Nat) (h:j<L.length),j<k→f L[j]=0)→zbV f L n=zbV f (L.drop k) (n+k)
 | L,0,n,_=>by rw[List.drop_zero,Nat.add_zero]
 | [],k+1,n,_=>by simp[zbV]
 | x :: r,k+1,n,h=>by
   rw[zbV,if_neg (by have:=h 0 (by simp) (by omega);simpa using this),List.drop_succ_cons,zeV (k:=k) (n+1) (fun j hj hjk=>by have:=h (j+1) (by simpa using hj) (by omega);simpa using this)]
   congr 1
   omega
theorem zcI {α:Type}{f:α→Int}{L:List α}(h:∀(j:Nat) (hj:j<L.length),j<L.length→f L[j]=0):zbV f L 0=none:=by
 rw[zeV (k:=L.length) 0 h,List.drop_length]
 rfl
theorem zdv {α:Type}{f:α→Int}{L:List α}{i:Nat}(hi:i<L.length)(h:∀(j:Nat) (hj:j<L.length),j<i→f L[j]=0)(hf:f L[i]≠0):zbV f L 0=some ((i:Int),f L[i]):=by
 rw[zeV (k:=i) 0 h,List.drop_eq_getElem_cons hi,zbV,if_pos hf,Nat.zero_add]
def zff (T:List Nd):Int:=if checkN9 T≠0 then checkN9 T else if exprK (kindAt T (T.length-1))=false then 90 else 0
def zrb:Option (Int × Int)→Int
 | none=>0
 | some p=>p.2
def zdf (L:List Sr)(g:GlU):Bool:=isNameB g.var.name && (decide (0≤g.at_∧g.at_≤65536) && (decide (checkN L g.var.type=0) && zaU g.var.type))
def globE (L:List Sr)(g:GlU):Int:=if zdf L g=false then 90 else if 4096<g.init.length then 3 else zrb (zbV zff g.init 0)
def zlG (body:Bool)(q:VrU × Ty):Int:=if q.1.type=tyB q.2∧(isNameB q.1.name=true∨(q.1.name=⟨#[]⟩∧body=false))∧(body=true∨q.1.vol=false) then 0 else 90
def zdu (L:List Sr)(f:FnU):Bool:=isNameB f.name && (decide (0≤f.at_∧f.at_≤65536) && decide (checkN L f.type=0))
def zjp (T:List Nd):Int:=if T=[] then 0 else if checkN9 T≠0 then checkN9 T else if kindAt T (T.length-1)≠21 then 90 else 0
def funcE (L:List Sr)(f:FnU):Int:=match tyS f.type with
 | some (.fn ps _)=>if zdu L f=false∨ps.length≠f.params.length then 90 else if zrb (zbV (zlG (decide (f.body≠[]))) (f.params.zip ps) 0)≠0 then 90 else zjp f.body
 | _=>90
def unitE (u:UnU):Int × Int:=
 if 64<u.structs.length∨256<u.globals.length∨256<u.funcs.length then (0,3)
 else if (za0 u.structs).2≠0 then za0 u.structs
 else match zbV (globE u.structs) u.globals 0 with
  | some p=>p
  | none=>match zbV (funcE u.structs) u.funcs 0 with
    | some p=>p
    | none=>(0,0)
end Go.Proofs.YtbbaooeioogijaaGreatDoor
namespace Go.Proofs.YtbbaooeioogijaaGreatDoor
open Go.RowKit Go.Maps
structure Bnd where
 kind:Int
 idx:Int
 type:ByteArray
deriving DecidableEq
def bnd0:Bnd:=⟨0,0,⟨#[]⟩⟩
def bndV (b:Bnd):Value:=.agg #[.int .i64 b.kind,.int .i64 b.idx,.string b.type]
def bndCells (b:Bnd):List Value:=[.int .i64 b.kind,.int .i64 b.idx,.string b.type]
def bndD (b:Bnd):DataW Unit:=.agg [.lit (.int .i64 b.kind),.lit (.int .i64 b.idx),.lit (.string b.type.data.toList)]
def bndR (v:Value):Option (DataW Unit × List MemPlace):=match v with
 | .agg ⟨[.int .i64 k,.int .i64 i,.string t]⟩=>some (bndD ⟨k,i,t⟩,[])
 | _=>none
theorem zrs (b:Bnd):bndR (bndV b)=some (bndD b,[]):=rfl
theorem ztC {a b:Bnd}(h:bndD a=bndD b):a=b:=by
 obtain⟨k,i,t⟩:=a;obtain⟨k',i',t'⟩:=b;unfold bndD at h;simp only[DataW.agg.injEq,List.cons.injEq,DataW.lit.injEq,Lit.int.injEq,Lit.string.injEq,true_and,and_true]at h;obtain⟨rfl,rfl,h⟩:=h;have:t=t':=by cases t;cases t';simpa using h
 rw[this]
theorem ztB {v:Value}{b:Bnd}{ps:List MemPlace}(h:bndR v=some (bndD b,ps)):v=bndV b:=by
 unfold bndR at h
 split at h
 ·rename_i k i t
  simp only[Option.some.injEq,Prod.mk.injEq]at h;have:=ztC h.1;rw[← this]
  rfl
 ·cases h
theorem zhx {t s:ByteArray}(h:t.data.toList=s.data.toList):t=s:=by cases t;cases s;simpa using h
theorem zm6:Keyed Tryz.prog 9:=string_keyed Tryz.underlying9
theorem zeroB (w:World):(zeroValue 78).run Tryz.prog w=.ok (bndV bnd0) w:=by kernel_rfl
def MapB (w:World)(b n:Nat)(f:ByteArray→Option Bnd):Prop:=∃D:DataW Unit,w.ownsMap Tryz.prog 9 bndR b n D ∧
 ∀s:ByteArray,has D (.string s.data.toList)=(f s).isSome∧D.atKey (.string s.data.toList) (bndD bnd0)=bndD ((f s).getD bnd0)
theorem MapB.same {w:World}{b n:Nat}{f g:ByteArray→Option Bnd}(h:MapB w b n f)(e:∀s,f s=g s):MapB w b n g:=by
 obtain⟨D,hD,hv⟩:=h;exact⟨D,hD,fun s=>by rw[← e s];exact hv s⟩
theorem MapB.look2 {w:World}{b n:Nat}{f:ByteArray→Option Bnd}(h:MapB w b n f){s:ByteArray}(hs:s.size≤maxLen) :
 (Instr.lookup 69 (.map (some b)) (.string s) true).run Tryz.prog w=.ok (.tuple #[bndV ((f s).getD bnd0),.bool (f s).isSome]) w:=by
 obtain⟨D,hD,hv⟩:=h;have hkey:=Go.WideMaps.keyOf_string_mk (P:=Tryz.prog) Tryz.underlying9 hs;obtain⟨v,ps,hrun,hR⟩:=hD.look_ok zm6 Tryz.underlying69 (zeroB w) (zrs bnd0) hkey;obtain⟨h1,h2⟩:=hv s;rw[h1]at hrun;rw[h2]at hR;rw[ztB hR]at hrun;exact hrun
theorem MapB.below {w w':World}{b n:Nat}{f:ByteArray→Option Bnd}(h:MapB w b n f)(hb:Below w.heap.size w w'):MapB w' b n f:=by
 obtain⟨D,hD,hv⟩:=h;exact⟨D,hD.kept (row:=none) ⟨hb.os,hb.tape,hb.output,hb.size,fun k hk _=>hb.block k hk⟩ (by simp),hv⟩
theorem MapB.kept {w w':World}{b n:Nat}{f:ByteArray→Option Bnd}{row:Option Nat}(h:MapB w b n f)(hg:w.grownBy w' row)(hne:some b≠row):MapB w' b n f:=by
 obtain⟨D,hD,hv⟩:=h;exact⟨D,hD.kept hg hne,hv⟩
theorem MapB.other {w:World}{b n:Nat}{f:ByteArray→Option Bnd}(h:MapB w b n f)(a:Addr)(ha:b≠a.block)(v:Value):MapB (w.setCell a v) b n f:=by
 obtain⟨D,hD,hv⟩:=h;exact⟨D,hD.setCell ha v,hv⟩
theorem MapB.lt {w:World}{b n:Nat}{f:ByteArray→Option Bnd}(h:MapB w b n f):b<w.heap.size:=by
 obtain⟨D,hD,_⟩:=h;exact hD.lt
theorem zm0 {w:World}:MapB (w.alloc (.map #[] 0)) w.heap.size 0 (fun _=>none):=
 ⟨.map [],World.ownsMap_made _ _ _ _,fun _=>⟨rfl,rfl⟩⟩
theorem MapB.store {w:World}{b n:Nat}{f:ByteArray→Option Bnd}(h:MapB w b n f)(hn:n<maxLen){s:ByteArray}(hs:s.size≤maxLen)(v:Bnd) :
 ∃w',(Instr.mapUpdate 69 (.map (some b)) (.string s) (bndV v)).run Tryz.prog w=.ok () w' ∧
  MapB w' b (n+1) (fun t=>if t=s then some v else f t)∧w.mapTurned w' b:=by
 obtain⟨D,hD,hf⟩:=h;have hkey:=Go.WideMaps.keyOf_string_mk (P:=Tryz.prog) Tryz.underlying9 hs;obtain⟨w',hrun,h1,h2⟩:=hD.store zm6 Tryz.underlying69 hn hkey (zrs v);refine⟨w',hrun,⟨_,h1,fun t=>?_⟩,h2⟩
 by_cases e:t=s
 ·subst e
  simp only[if_true];exact⟨has_put_same hD.isMap (by simp[WideAt.IsKeyLit]) _,atKey_put_same hD.isMap (by simp[WideAt.IsKeyLit]) _ _⟩
 ·simp only[if_neg e]
  have e':Lit.string t.data.toList≠Lit.string s.data.toList:=fun h=>e (zhx (Lit.string.inj h))
  rw[has_put_other e',atKey_put_other e'];exact hf t
def MapN (w:World)(b n:Nat)(f:ByteArray→Int):Prop:=∃D:DataW Unit,w.ownsMap Tryz.prog 9 (plainElem Tryz.prog 3) b n D ∧
 ∀s:ByteArray,D.atKey (.string s.data.toList) (.lit (.int .i64 0))=.lit (.int .i64 (f s))
theorem zeroN (w:World):(zeroValue 3).run Tryz.prog w=.ok (.int .i64 0) w:=by kernel_rfl
theorem MapN.look {w:World}{b n:Nat}{f:ByteArray→Int}(h:MapN w b n f){s:ByteArray}(hs:s.size≤maxLen) :
 (Instr.lookup 111 (.map (some b)) (.string s) false).run Tryz.prog w=.ok (.int .i64 (f s)) w:=by
 obtain⟨D,hD,hv⟩:=h;have hkey:=Go.WideMaps.keyOf_string_mk (P:=Tryz.prog) Tryz.underlying9 hs;obtain⟨c,hrun,hat,_⟩:=hD.lookup_int zm6 Tryz.underlying111 Tryz.underlying3 (zeroN w) hkey;rw[hv s]at hat;simp only[DataW.lit.injEq,Lit.int.injEq,true_and]at hat;rw[hat];exact hrun
theorem MapN.kept {w w':World}{b n:Nat}{f:ByteArray→Int}{row:Option Nat}(h:MapN w b n f)(hg:w.grownBy w' row)(hne:some b≠row):MapN w' b n f:=by
 obtain⟨D,hD,hv⟩:=h;exact⟨D,hD.kept hg hne,hv⟩
theorem MapN.below {w w':World}{b n:Nat}{f:ByteArray→Int}(h:MapN w b n f)(hb:Below w.heap.size w w'):MapN w' b n f:=
 h.kept (row:=none) ⟨hb.os,hb.tape,hb.output,hb.size,fun k hk _=>hb.block k hk⟩ (by simp)
theorem MapN.other {w:World}{b n:Nat}{f:ByteArray→Int}(h:MapN w b n f)(a:Addr)(ha:b≠a.block)(v:Value):MapN (w.setCell a v) b n f:=by
 obtain⟨D,hD,hv⟩:=h;exact⟨D,hD.setCell ha v,hv⟩
theorem MapN.lt {w:World}{b n:Nat}{f:ByteArray→Int}(h:MapN w b n f):b<w.heap.size:=by
 obtain⟨D,hD,_⟩:=h;exact hD.lt
theorem zsX {w:World}:MapN (w.alloc (.map #[] 0)) w.heap.size 0 (fun _=>0):=
 ⟨.map [],World.ownsMap_made _ _ _ _,fun _=>rfl⟩
theorem MapN.store {w:World}{b n:Nat}{f:ByteArray→Int}(h:MapN w b n f)(hn:n<maxLen){s:ByteArray}(hs:s.size≤maxLen){v:Int}(hv:(Lit.int .i64 v).wf=true) :
 ∃w',(Instr.mapUpdate 111 (.map (some b)) (.string s) (.int .i64 v)).run Tryz.prog w=.ok () w' ∧
  MapN w' b (n+1) (fun t=>if t=s then v else f t)∧w.mapTurned w' b:=by
 obtain⟨D,hD,hf⟩:=h;have hkey:=Go.WideMaps.keyOf_string_mk (P:=Tryz.prog) Tryz.underlying9 hs;obtain⟨w',hrun,h1,h2⟩:=hD.store zm6 Tryz.underlying111 hn hkey (plainElem_int (H:=Unit) Tryz.underlying3 hv);refine⟨w',hrun,⟨_,h1,fun t=>?_⟩,h2⟩
 by_cases e:t=s
 ·subst e
  simp only[if_true];exact atKey_put_same hD.isMap (by simp[WideAt.IsKeyLit]) _ _
 ·simp only[if_neg e]
  have e':Lit.string t.data.toList≠Lit.string s.data.toList:=fun h=>e (zhx (Lit.string.inj h))
  rw[atKey_put_other e'];exact hf t
end Go.Proofs.YtbbaooeioogijaaGreatDoor
