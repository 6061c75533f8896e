/- The reference's sizes: letters, pointers, functions, arrays. -/
import Derived.Test.YtbbaooeioogijaaGreatDoorMg5
import Derived.OwnWalk
import Derived.Deep.RegionHeld3
namespace Go.Proofs.YtbbaooeioogijaaGreatDoor
open Go.RowKit
set_option maxRecDepth 100000
set_option maxHeartbeats 8000000
def zjv (K:List Kn)(L:List Sr)(a:Option Addr)(cap:Nat)(mv:List Value)(t:Ty):Prop:=∀w,IsSrs w.heap.size w a L mv →
 Calls Tryz.prog 88 #[.string (tyB t),.slice a L.length cap] w fun e w'=>e=.returned (.tuple #[.int .i64 (cutN (measT K t).1:Nat),.int .i64 ((measT K t).2:Nat)])∧Below w.heap.size w w'
theorem zq7 (n:Nat):cutN n≤65537:=by unfold cutN;omega
theorem zr5 {K:List Kn}{t:Ty}{x y:Int}{w w':World}(hx:x=(cutN (measT K t).1:Nat))(hy:y=((measT K t).2:Nat))(hb:Below w.heap.size w w') :
 Ending.returned (.tuple #[.int .i64 x,.int .i64 y])=.returned (.tuple #[.int .i64 (cutN (measT K t).1:Nat),.int .i64 ((measT K t).2:Nat)])∧Below w.heap.size w w':=by subst hx hy;exact⟨rfl,hb⟩
theorem zfy (K:List Kn)(L:List Sr)(a:Option Addr)(cap:Nat)(mv:List Value)(t:Ty)(h97:headT t≠97)(h83:headT t≠83):zjv K L a cap mv t:=by
 intro w _;have HK:=Hd (fun w=>za6 t w);have t4:(((headT t).toNat:Int) == 97)=false:=(zaQ h97 rfl).1;have t5:(((headT t).toNat:Int) == 83)=false:=(zaQ h83 rfl).1;have hm:(headT t=99∧measT K t=(1,1))∨(headT t≠99∧headT t=115∧measT K t=(2,2))∨(headT t≠99∧headT t≠115∧headT t=106∧measT K t=(64,4))∨(headT t≠99∧headT t≠115∧headT t≠106∧measT K t=(4,4)):=by
  cases t with
  | base c=>
    by_cases h1:c=99
    ·exact .inl ⟨h1,by rw[measT,if_pos h1]⟩
    ·by_cases h2:c=115
     ·exact .inr (.inl ⟨h1,h2,by rw[measT,if_neg h1,if_pos h2]⟩)
     ·by_cases h3:c=106
      ·exact .inr (.inr (.inl ⟨h1,h2,h3,by rw[measT,if_neg h1,if_neg h2,if_pos h3]⟩))
      ·exact .inr (.inr (.inr ⟨h1,h2,h3,by rw[measT,if_neg h1,if_neg h2,if_neg h3]⟩))
  | ptr u=>exact .inr (.inr (.inr ⟨by simp[headT],by simp[headT],by simp[headT],by rw[measT]⟩))
  | fn ps r=>exact .inr (.inr (.inr ⟨by simp[headT],by simp[headT],by simp[headT],by rw[measT]⟩))
  | arr n u=>exact absurd rfl h97
  | str s=>exact absurd rfl h83
 have fin:∀n m:Nat,measT K t=(n,m)→n≤65537→Hid (∀(x y:Int) (w':World),x=n→y=m→Below w.heap.size w w'→Ending.returned (.tuple #[.int .i64 x,.int .i64 y])=.returned (.tuple #[.int .i64 (cutN (measT K t).1:Nat),.int .i64 ((measT K t).2:Nat)])∧Below w.heap.size w w'):=fun n m e hn x y w' hx hy hb=>
  zr5 (by rw[hx,e];unfold cutN;simp only;omega) (by rw[hy,e]) hb
 rcases hm with ⟨h1,hm⟩|⟨h1,h2,hm⟩|⟨h1,h2,h3,hm⟩|⟨h1,h2,h3,hm⟩
 case' inl=>
  have F:=fin _ _ hm (by decide);have t1:(((headT t).toNat:Int) == 99)=true:=(zdy h1 rfl).1
 case' inr.inl=>
  have F:=fin _ _ hm (by decide);have t1:(((headT t).toNat:Int) == 99)=false:=(zaQ h1 rfl).1;have t2:(((headT t).toNat:Int) == 115)=true:=(zdy h2 rfl).1;clear h2
 case' inr.inr.inl=>
  have F:=fin _ _ hm (by decide);have t1:(((headT t).toNat:Int) == 99)=false:=(zaQ h1 rfl).1;have t2:(((headT t).toNat:Int) == 115)=false:=(zaQ h2 rfl).1;have t3:(((headT t).toNat:Int) == 106)=true:=(zdy h3 rfl).1;clear h2 h3
 case' inr.inr.inr=>
  have F:=fin _ _ hm (by decide);have t1:(((headT t).toNat:Int) == 99)=false:=(zaQ h1 rfl).1;have t2:(((headT t).toNat:Int) == 115)=false:=(zaQ h2 rfl).1;have t3:(((headT t).toNat:Int) == 106)=false:=(zaQ h3 rfl).1;clear h2 h3
 all_goals
  clear fin hm h1 h97 h83;generalize tyB t=s at *;generalize headT t=c at *
  go_enter Tryz.func88,Tryz.ntmps88
  go_wp2_with (go_at_call 93;(with_reducible refine(HK.out _).mono ?_);rintro e w1 ⟨rfl,hw1⟩;subst w1)
  go_ret2
  exact F.out _ _ _ rfl rfl (zv3 _ _)
theorem zr6 (K:List Kn)(L:List Sr)(a:Option Addr)(cap:Nat)(mv:List Value)(n:Nat)(u:Ty)(hr:zaD (.arr n u))(hl:(code (.arr n u)).length≤65536)(ih:zjv K L a cap mv u):zjv K L a cap mv (.arr n u):=by
 intro w hS;have HS:=Hd hS;have HK:=Hd (fun w=>zcj 97 (.arr n u) w rfl);have HIn:=Hd (fun w=>zcS n u hr hl w);have HI:=Hd ih;have hn:n≤1099511627776:=hr.1;have hm:cutN (measT K (.arr n u)).1=min (cutN (measT K u).1*n) 65537:=by
  rw[measT];unfold cutN;rw[Nat.mul_comm (min (measT K u).1 65537) n];exact(zuO (M:=65537) (by decide)).symm
 have hal:(measT K (.arr n u)).2=(measT K u).2:=by rw[measT]
 have hc:=zq7 (measT K u).1;have hmul:cutN (measT K u).1*n≤65537*1099511627776:=Nat.mul_le_mul hc hn;unfold zjv at HI;rw[hm,hal];generalize tyB (.arr n u)=s at *;generalize cutN (measT K u).1=c at *;generalize (measT K u).2=al at *
 have hw:IntKind.i64.wrap ((c:Int)*(n:Int))=(c:Int)*(n:Int):=IntWalk.i64_in _ (by
  have:(c:Int)*(n:Int)=((c*n:Nat):Int):=by rw[Int.natCast_mul]
  rw[this];omega)
 have HM:=Hd (show (((min (c*n) 65537:Nat)):Int)=min ((c:Int)*(n:Int)) 65537 by
  rw[← Int.natCast_mul];omega)
 have hx0:0≤(c:Int)*(n:Int):=by rw[← Int.natCast_mul];omega
 clear hr hl hS ih hm hal hmul
 go_enter Tryz.func88,Tryz.ntmps88
 go_wp2_with (first|(go_at_call 93;(with_reducible refine(HK.out _).mono ?_);rintro e w1 ⟨rfl,hw1⟩;subst w1)|(go_at_call 118;(with_reducible refine(HIn.out _).mono ?_);rintro e w3 ⟨rfl,hb3⟩;have HB3:=Hd hb3;have HG:=Hd (HI.out w3 ((HS.out.below hb3).mono hb3.size));clear hb3)|(go_at_call 88;(with_reducible refine HG.out.mono ?_);rintro e w4 ⟨rfl,hb4⟩;have HB4:=Ht HB3 hb4;clear hb4))
 go_ret2
 exact⟨by rw[HM.out];rfl,HB4.out⟩
theorem zsP {m:ByteArray × ByteArray}{t:Ty}(h:tyS m.2=some t):m.2=tyB t∧zaD t∧(code t).length≤65536:=zaW.1 h
theorem zr2 (K:List Kn)(L:List Sr)(a:Option Addr)(cap:Nat)(mv:List Value)(hG:GoodK K)(hKL:K.map Kn.toSr=L)(s:List UInt8)(j:Nat)(hj:za3 K s=some j)(hl:(code (.str s)).length≤65536)
 (ih:∀t,zaD t→(code t).length≤65536→thereT (K.take j) t=true→zjv K L a cap mv t):zjv K L a cap mv (.str s):=by
 intro w hS;have hlt:j<K.length:=zd8 hj;have hLl:L.length=K.length:=by rw[← hKL,List.length_map]
 have hlL:j<L.length:=by omega
 have hlm:j<mv.length:=by rw[hS.len];omega
 have hLj:L[j]=K[j].toSr:=by simp[← hKL]
 have hL65:(L.length:Int)≤65:=by have:=hG.len;omega
 have HN:=Hd (show ∀w,IsSrs w.heap.size w a L mv→Calls Tryz.prog 119 #[.string (tyB (.str s)),.slice a L.length cap] w fun e w'=>e=.returned (.int .i64 (j:Int))∧Below w.heap.size w w' from fun w hS=>by
  have:=zgT s a cap L mv w hS hl (by omega);rw[← hKL,zof,hKL]at this;rw[show placeK K s=(j:Int) by unfold placeK;rw[hj]]at this
  exact this)
 have HK:=Hd (fun w=>zcj 83 (.str s) w rfl);obtain⟨hmo,n0,hn0,hsz⟩:=hG.mems j hlt;have hal:=hG.al _ (zwb hlt);have hml:=hG.mlen _ (zwb hlt);rw[zi2 hj];simp only;obtain⟨bb,off,ha,hbl,hrow⟩:=hS.at_ (fun e=>by rw[e]at hlL;simp at hlL);obtain⟨e1,e2,hms⟩:=hrow j _ _ (zv1 hlL) (zv1 hlm);rw[hLj]at e1 hms;have hKa:∀k ∈ K.take j,1≤k.align∧k.align≤4:=fun k hk=>hG.al k (List.mem_of_mem_take hk)
 have IH:=Hd (show ∀m ∈ K[j].mems,∃t,tyS m.2=some t∧(1≤(measT (K.take j) t).2∧(measT (K.take j) t).2≤4)∧∀w,IsSrs w.heap.size w a L mv→Calls Tryz.prog 88 #[.string m.2,.slice a L.length cap] w fun e w'=>e=.returned (.tuple #[.int .i64 (cutN (measT (K.take j) t).1:Nat),.int .i64 ((measT (K.take j) t).2:Nat)])∧Below w.heap.size w w' from fun m hm=>by
  obtain⟨t,ht,hc,_⟩:=hmo m hm;obtain⟨h1,h2,h3⟩:=zsP ht;have hth:=(zme hc).1;refine⟨t,ht,zfI hKa t,fun w hS=>?_⟩;have:=ih t h2 h3 hth w hS;rw[← h1,← zkm hth]at this
  exact this)
 have HMo:=Hd hmo;have HA0:=Hd (fun i=>zfG hKa (K[j].mems.take i) 0 1 ⟨zv0 _,by decide⟩);generalize K[j].name=nm at *;generalize K[j].mems=ms at *;generalize K[j].size=sz at *;generalize K[j].align=al at *;generalize K.take j=K' at *;generalize mv[j]=v at *;obtain⟨am,cm,rfl,hmr⟩:=hms;have HMr:=Hd hmr;have HS:=Hd hS;have HN0:=Hd hn0;have HSz:=Hd hsz;clear hS hrow hLj hlm hKa hmo ih hmr hn0 hsz hG hKL hj hLl;subst ha;generalize tyB (.str s)=st at *;have hms64:(ms.length:Int)≤64:=by omega
 clear hl hml
 go_enter Tryz.func88,Tryz.ntmps88
 go_wp2_with (first|(go_at_call 93;(with_reducible refine(HK.out _).mono ?_);rintro e w1 ⟨rfl,hw1⟩;subst w1)|(go_at_call 119;(with_reducible refine(HN.out _ HS.out).mono ?_);rintro e w2 ⟨rfl,hb2⟩;have HB2:=Hd hb2;rw[← hb2.cell hbl]at e1 e2;clear hb2))
 have hm2:(w2.alloc (.cells #[.string nm,.slice am ms.length cm] 61)).heap[w2.heap.size]?=some (.cells #[.string nm,.slice am ms.length cm] 61 (0,0)):=zv8 _ _;have hbc:Below w.heap.size w (w2.alloc (.cells #[.string nm,.slice am ms.length cm] 61)):=HB2.out.alloc HB2.out.size _;generalize w2.alloc (.cells #[.string nm,.slice am ms.length cm] 61)=wc at *;have HM2:=Hd hm2;have HBc:=Hd hbc;have hz2:=zaa hm2;clear hm2 hbc e1 e2
 go_loopg [10,11,13] ms.length (fun g v10 v11 v13 wy=>∃(i n al':Nat),i≤ms.length∧i+g=ms.length∧v13=.int .i64 (i:Int)∧v10=.int .i64 (cutN n:Nat)∧v11=.int .i64 (al':Nat)∧Hid (memR K' (ms.take i) 0 1=(n,al'))∧Hid (Below wc.heap.size wc wy))
 case atStart=>exact⟨0,0,1,Nat.zero_le _,by omega,rfl,rfl,rfl,rfl,zv3 _ _⟩
 case round=>
  obtain⟨i,n,al',hi,hig,rfl,rfl,rfl,hR,HB⟩:=hrel;have hcell:=(HB.out.block _ hz2).trans HM2.out;obtain⟨⟨d0,d1⟩,_⟩:=zab hcell;have hal':=HA0.out i;rw[hR.out]at hal';simp only at hal';have hcn:=zq7 n
  by_cases hil:i<ms.length
  ·obtain⟨mb,moff,rfl,hmb,hmrow⟩:=HMr.out (fun e=>by rw[e]at hil;simp at hil)
   obtain⟨c1,c2⟩:=hmrow i _ (zv1 hil);have HBw:=Hd (HBc.out.trans (HB.out.mono HBc.out.size));rw[← HBw.out.cell hmb]at c1 c2;obtain⟨t,ht,⟨ha1,ha4⟩,hsize⟩:=IH.out _ (zwb hil);have htk:ms.take (i+1)=ms.take i++[ms[i]]:=by rw[List.take_add_one,zv1 hil];rfl
   have hR2:memR K' (ms.take (i+1)) 0 1=(fitN n (measT K' t).2+(measT K' t).1,max al' (measT K' t).2):=by
    rw[htk,zkl (fun m hm=>HMo.out m (List.mem_of_mem_take hm)) ht,hR.out]
   have HSc:=Hd (hsize _ ((HS.out.below HBw.out).mono HBw.out.size));have hcm:=zq7 (measT K' t).1;have HC:=Hd (zsQ (n:=n) (m:=cutN n) (b:=(measT K' t).1) (a:=(measT K' t).2) rfl (by omega));have HUp:=Hd (fun w=>zmL (cutN n) (measT K' t).2 (by omega) ha1 ha4 w);have hfb:=zkO (cutN n) (measT K' t).2 ha1 ha4;generalize (measT K' t).1=m1 at *;generalize (measT K' t).2=a1 at *;have HR2:=Hd hR2;generalize ms[i]'hil=mi at *;obtain⟨mn,mt⟩:=mi;simp only at c1 c2 HSc
   have HX:=Hd (show ((cutN (fitN n a1+m1):Nat):Int)=min ((fitN (cutN n) a1:Nat)+(cutN m1:Nat):Int) 65537 by
    rw[← HC.out];unfold cutN;omega)
   have hx1:((fitN (cutN n) a1:Nat):Int)≤70000:=by omega
   have hx2:((cutN m1:Nat):Int)≤65537:=by omega
   have HY:=Hd (show (((max al' a1:Nat)):Int)=max (al':Int) (a1:Int) by omega);generalize fitN (cutN n) a1=fc at *;generalize cutN m1=cm1 at *;generalize cutN n=cn at *;clear hmrow ht hsize htk hR2 hR hcell hfb
   go_wp2_with (first|(go_at_call 88;(with_reducible refine HSc.out.mono ?_);rintro e w3 ⟨rfl,hb3⟩;have HB3:=Ht HB hb3;clear hb3)|(go_at_call 120;(with_reducible refine(HUp.out _).mono ?_);rintro e w4 ⟨rfl,hw4⟩;subst w4))
   go_roundg (ms.length-(i+1))
   case measure=>omega
   case rel=>exact⟨i+1,_,_,by omega,by omega,by rw[zv9];rfl,by rw[HX.out],by rw[HY.out],HR2.out,HB3⟩
  ·obtain rfl:i=ms.length:=by omega
   have t3:(ms.length:Int)≤(ms.length:Int):=Int.le_refl _;have hRe:=hR.out;rw[List.take_length,HN0.out]at hRe;obtain⟨rfl,rfl⟩:=Prod.mk.inj hRe;have HUp:=Hd (fun w=>zmL (cutN n0) al (by omega) hal.1 hal.2 w)
   have HX:=Hd (show ((cutN sz:Nat):Int)=min ((fitN (cutN n0) al:Nat):Int) 65537 by
    have:=ztv (c:=cutN n0) (x:=n0) (a:=al) (M:=65537) rfl hal.1;rw[HSz.out];unfold cutN at *
    omega)
   have HB4:=Hd (HBc.out.trans (HB.out.mono HBc.out.size));clear hR hRe hcell
   go_wp2_with (go_at_call 120;(with_reducible refine(HUp.out _).mono ?_);rintro e w4 ⟨rfl,hw4⟩;subst w4)
   go_ret2
   exact⟨by rw[HX.out];rfl,HB4.out⟩
theorem zei (K:List Kn)(L:List Sr)(a:Option Addr)(cap:Nat)(mv:List Value)(hG:GoodK K)(hKL:K.map Kn.toSr=L):∀(m n:Nat) (t:Ty),(code t).length≤n→zaD t→(code t).length≤65536→thereT (K.take m) t=true→zjv K L a cap mv t
 | _,0,t,hn,hr,_,_=>by have:=zb7 hr;omega
 | m,n+1,t,hn,hr,hl,hth=>by
   cases t with
   | base c=>exact zfy K L a cap mv _ (by rcases zaM hr with rfl|rfl|rfl|rfl|rfl|rfl<;>decide) (by rcases zaM hr with rfl|rfl|rfl|rfl|rfl|rfl<;>decide)
   | ptr u=>exact zfy K L a cap mv _ (by simp[headT]) (by simp[headT])
   | fn ps r=>exact zfy K L a cap mv _ (by simp[headT]) (by simp[headT])
   | arr k u=>exact zr6 K L a cap mv k u hr hl (zei K L a cap mv hG hKL m n u (by rw[code]at hn;simp at hn;omega) hr.2 (by rw[code]at hl;simp at hl;omega) (by rw[thereT]at hth;exact hth))
   | str s=>
     rw[thereT,Option.isSome_iff_exists]at hth;obtain⟨j,hj⟩:=hth;obtain⟨h1,h2⟩:=ziy hj;exact zr2 K L a cap mv hG hKL s j h1 hl fun t hr' hl' hth'=>zei K L a cap mv hG hKL j 65536 t hl' hr' hl' hth'
termination_by m n=>(m,n)
set_option maxHeartbeats 8000000
def bigT (K:List Kn)(t:Ty):Bool:=objectT t && (thereT K t && decide (65536<(measT K t).1))
theorem zr0 {K:List Kn}(hF:FitK K)(t:Ty):sizedT K t=(!bigT K t && (partsT t).all (sizedT K)):=by
 cases t with
 | base c=>
   have:(measT K (.base c)).1≤64:=by
    rw[measT];repeat' split
    all_goals decide
   rw[sizedT,bigT,decide_eq_false (by omega)];simp[partsT]
 | ptr u=>rw[sizedT,bigT,measT];simp[partsT]
 | str s=>
   have:(measT K (.str s)).1≤65536:=by
    rw[measT]
    split
    ·rename_i k hk
     obtain⟨i,_,hi⟩:=Option.bind_eq_some_iff.1 hk;exact(hF.2 k (List.mem_of_getElem? hi)).1
    ·decide
   rw[sizedT,bigT,decide_eq_false (by omega)];simp[partsT]
 | fn ps r=>rw[sizedT,bigT,zhW];simp[partsT,objectT,isFnT,Bool.and_comm]
 | arr n u=>
   rw[sizedT,bigT,thereT,measT];simp only[partsT,List.all_cons,List.all_nil,Bool.and_true,objectT,zbE,isFnT];cases sizedT K u<;>cases thereT K u<;>simp
   by_cases h:n*(measT K u).1≤65536
   ·rw[decide_eq_true h,decide_eq_false (by omega)];rfl
   ·rw[decide_eq_false h,decide_eq_true (by omega)];rfl
def zk4 (K:List Kn)(L:List Sr)(a:Option Addr)(cap:Nat)(mv:List Value)(t:Ty):Prop:=∀w,IsSrs w.heap.size w a L mv →
 Calls Tryz.prog 117 #[.string (tyB t),.slice a L.length cap] w fun e w'=>e=.returned (.bool (!sizedT K t))∧Below w.heap.size w w'
theorem zvT {α:Type}{f:α→Bool}{l:List α}{p:α}(h:p ∈ l)(hs:f p=false):l.all f=false:=by
 rw[List.all_eq_false];exact⟨p,h,by simp[hs]⟩
theorem zoy (K:List Kn)(L:List Sr)(a:Option Addr)(cap:Nat)(mv:List Value)(hG:GoodK K)(hF:FitK K)(hKL:K.map Kn.toSr=L)(t:Ty)(hr:zaD t)(hl:(code t).length≤65536)(ih:∀p ∈ partsT t,zk4 K L a cap mv p):zk4 K L a cap mv t:=by
 intro w hS;have hLl:(L.length:Int)≤1000:=by rw[← hKL,List.length_map];have:=hG.len;omega
 have HS:=Hd hS;have HO:=Hd (fun w=>zdT t hr w)
 have HGv:=Hd (show ∀w,IsSrs w.heap.size w a L mv→Calls Tryz.prog 116 #[.string (tyB t),.slice a L.length cap] w fun e w'=>e=.returned (.bool (thereT K t))∧Below w.heap.size w w' from fun w hS=>by
  have:=zeM a cap L mv hLl t w hS hr hl;rw[← hKL,zfx,hKL]at this
  exact this)
 have HSz:=Hd (show thereT K t=true→zjv K L a cap mv t from fun hth=>zei K L a cap mv hG hKL K.length _ t (zv0 _) hr hl (by rw[List.take_length];exact hth));have HPt:=Hd (fun w=>zcD t hr hl w);have hpl:=zdc t hr;have hsd:=zr0 hF t;have HM:=Hd ih;have hll:((partsT t).length:Int)≤65536:=by omega
 unfold zjv at HSz;unfold zk4 at HM;generalize partsT t=l at *;generalize tyB t=s at *;clear hS ih hpl hr hl hG hF hKL
 by_cases hbig:objectT t=true∧thereT K t=true∧65536<(measT K t).1
 ·obtain⟨h1,h2,h3⟩:=hbig
  have hfin:=Hd (show sizedT K t=false by rw[hsd,bigT,h1,h2,decide_eq_true h3];rfl);have HSz1:=Hd (HSz.out h2);rw[h1]at HO;rw[h2]at HGv;have hc:(65536:Int)<(cutN (measT K t).1:Nat):=by unfold cutN;omega
  generalize cutN (measT K t).1=c at *;generalize (measT K t).2=al at *;clear hsd h1 h2 h3 HSz
  go_enter Tryz.func117,Tryz.ntmps117
  go_wp2_with (first|(go_at_call 87;(with_reducible refine(HO.out _).mono ?_);rintro e w1 ⟨rfl,hw1⟩;subst w1;have HG1:=Hd (HGv.out w HS.out))|(go_at_call 116;(with_reducible refine HG1.out.mono ?_);rintro e w3 ⟨rfl,hb3⟩;have HB3:=Hd hb3;have HZ:=Hd (HSz1.out w3 ((HS.out.below hb3).mono hb3.size));clear hb3)|(go_at_call 88;(with_reducible refine HZ.out.mono ?_);rintro e w4 ⟨rfl,hb4⟩;have HB4:=Ht HB3 hb4;clear hb4))
  go_ret;exact⟨by rw[hfin.out];rfl,HB4.out⟩
 ·have HEq:=Hd (show sizedT K t=l.all (sizedT K) by
   rw[hsd,bigT];rcases h1:objectT t with _|_
   ·rfl
   ·rcases h2:thereT K t with _|_
    ·rfl
    ·rw[decide_eq_false (fun h=>hbig ⟨h1,h2,h⟩)];rfl)
  have hT:objectT t=false∨(objectT t=true∧thereT K t=false)∨(objectT t=true∧thereT K t=true∧(measT K t).1≤65536):=by
   rcases h1:objectT t with _|_
   ·exact .inl rfl
   ·rcases h2:thereT K t with _|_
    ·exact .inr (.inl ⟨rfl,rfl⟩)
    ·exact .inr (.inr ⟨rfl,rfl,by have:¬65536<(measT K t).1:=fun h=>hbig ⟨h1,h2,h⟩;omega⟩)
  clear hbig hsd;rcases hT with h1|⟨h1,h2⟩|⟨h1,h2,h3⟩
  case' inl=>
   rw[h1]at HO;clear h1
   go_enter Tryz.func117,Tryz.ntmps117
   go_upto_region 5 with (go_at_call 87;(with_reducible refine(HO.out _).mono ?_);rintro e w1 ⟨rfl,hw1⟩;subst w1)
   have HBq:=Hd (zv3 w.heap.size w);obtain⟨wq,hwq⟩:∃wq,wq=w:=⟨_,rfl⟩
   rw[show Below w.heap.size w w↔Below w.heap.size w wq by rw[hwq]]at HBq
  case' inr.inl=>
   rw[h1]at HO;rw[h2]at HGv;clear h1 h2
   go_enter Tryz.func117,Tryz.ntmps117
   go_upto_region 5 with (first|(go_at_call 87;(with_reducible refine(HO.out _).mono ?_);rintro e w1 ⟨rfl,hw1⟩;subst w1;have HG1:=Hd (HGv.out w HS.out))|(go_at_call 116;(with_reducible refine HG1.out.mono ?_);rintro e w3 ⟨rfl,hb3⟩;have HBq:=Hd hb3;clear hb3))
   obtain⟨wq,hwq⟩:∃wq,wq=w3:=⟨_,rfl⟩
   rw[← hwq]at HBq
  case' inr.inr=>
   have HSz1:=Hd (HSz.out h2);rw[h1]at HO;rw[h2]at HGv;have hc:((cutN (measT K t).1:Nat):Int)≤65536:=by unfold cutN;omega
   generalize cutN (measT K t).1=c at *;generalize (measT K t).2=al at *;clear h1 h2 h3
   go_enter Tryz.func117,Tryz.ntmps117
   go_upto_region 5 with (first|(go_at_call 87;(with_reducible refine(HO.out _).mono ?_);rintro e w1 ⟨rfl,hw1⟩;subst w1;have HG1:=Hd (HGv.out w HS.out))|(go_at_call 116;(with_reducible refine HG1.out.mono ?_);rintro e w3 ⟨rfl,hb3⟩;have HB3:=Hd hb3;have HZ:=Hd (HSz1.out w3 ((HS.out.below hb3).mono hb3.size));clear hb3)|(go_at_call 88;(with_reducible refine HZ.out.mono ?_);rintro e w4 ⟨rfl,hb4⟩;have HBq:=Ht HB3 hb4;clear hb4))
   obtain⟨wq,hwq⟩:∃wq,wq=w4:=⟨_,rfl⟩
   rw[← hwq]at HBq
  all_goals
   rw[← hwq];clear hwq;have HPc:=Hd (HPt.out wq)
   go_wp2_with (go_at_call 138;(with_reducible refine HPc.out.mono ?_);rintro e w2 ⟨⟨v,rfl,ho⟩,hb2⟩;have HB2:=Ht HBq hb2;obtain⟨a2,cap2,rfl,hc⟩:=zaI ho;have HC:=Hd hc;clear hb2 ho hc)
   go_loopg [8] l.length (fun g v8 wy=>∃k:Nat,k≤l.length∧k+g=l.length∧v8=.int .i64 (k:Int)∧Hid ((l.take k).all (sizedT K)=true)∧Hid (Below w2.heap.size w2 wy))
   case atStart=>exact⟨0,Nat.zero_le _,by omega,rfl,rfl,zv3 _ _⟩
   case round=>
    obtain⟨k,hk,hkg,rfl,hall,HB⟩:=hrel
    by_cases hlt:k<l.length
    ·obtain⟨g,rfl,_,hg2,hrow⟩:=HC.out (by omega)
     have e1:wr.cell? ⟨g,k,none⟩=some (.string (tyB l[k])):=by
      rw[HB.out.cell (p:=⟨g,k,none⟩) hg2];exact hrow k _ (by rw[List.getElem?_map,zv1 hlt];rfl)
     have HBr:=Hd (HB2.out.trans (HB.out.mono HB2.out.size));have HCl:=Hd (HM.out _ (zwb hlt) wr ((HS.out.below HBr.out).mono HBr.out.size));have htk:l.take (k+1)=l.take k++[l[k]]:=by rw[List.take_add_one,zv1 hlt];rfl
     rcases hsh:sizedT K l[k] with _|_
     ·have hfin:=Hd (show sizedT K t=false by rw[HEq.out];exact zvT (zwb hlt) hsh)
      rw[hsh]at HCl;clear hrow hsh htk;generalize tyB (l[k]'hlt)=tp at *
      go_wp2_with (go_at_call 117;(with_reducible refine HCl.out.mono ?_);rintro e w3 ⟨rfl,hb3⟩;have HB3:=Ht HBr hb3;clear hb3)
      go_ret;exact⟨by rw[hfin.out];rfl,HB3.out⟩
     ·have hal2:=Hd (show (l.take (k+1)).all (sizedT K)=true by rw[htk,List.all_append,hall.out];simp[hsh])
      rw[hsh]at HCl;clear hrow hsh htk;generalize tyB (l[k]'hlt)=tp at *
      go_wp2_with (go_at_call 117;(with_reducible refine HCl.out.mono ?_);rintro e w3 ⟨rfl,hb3⟩;have HB3:=Ht HB hb3;clear hb3)
      go_roundg (l.length-(k+1))
      case measure=>omega
      case rel=>exact⟨k+1,by omega,by omega,by rw[zv9];rfl,hal2,HB3⟩
    ·obtain rfl:k=l.length:=by omega
     have t9:(l.length:Int)≤(l.length:Int):=Int.le_refl _;have hfin:=Hd (show sizedT K t=true by rw[HEq.out];have:=hall.out;rwa [List.take_length]at this);have HBr:=Hd (HB2.out.trans (HB.out.mono HB2.out.size))
     go_wp2_with fail
     go_ret;exact⟨by rw[hfin.out];rfl,HBr.out⟩
theorem zgU (K:List Kn)(L:List Sr)(a:Option Addr)(cap:Nat)(mv:List Value)(hG:GoodK K)(hF:FitK K)(hKL:K.map Kn.toSr=L):∀(n:Nat) (t:Ty),(code t).length≤n→zaD t→(code t).length≤65536→zk4 K L a cap mv t
 | 0,t,hn,hr,_=>by have:=zb7 hr;omega
 | n+1,t,hn,hr,hl=>zoy K L a cap mv hG hF hKL t hr hl fun p hp=>by
   obtain⟨h1,h2⟩:=zdb hp hr;exact zgU K L a cap mv hG hF hKL n p (by omega) h1 (by omega)
set_option maxHeartbeats 8000000
theorem zf7 (K:List Kn)(L:List Sr)(a:Option Addr)(cap:Nat)(mv:List Value)(hG:GoodK K)(hF:FitK K)(hKL:K.map Kn.toSr=L)(s:ByteArray)(w:World)(hS:IsSrs w.heap.size w a L mv) :
 Calls Tryz.prog 86 #[.string s,.slice a L.length cap] w fun e w'=>e=.returned (.int .i64 (checkS K s))∧Below w.heap.size w w':=by
 have HS:=Hd hS;rcases ht:tyS s with _|t
 ·have HFm:=Hd (zbX false s w (by rw[ht];rfl))
  have hfin:=Hd (zb1 (K:=K) ht);clear ht hS
  go_enter Tryz.func86,Tryz.ntmps86
  go_wp2_with (go_at_call 92;(with_reducible refine HFm.out.mono ?_);rintro e w1 ⟨rfl,hb1⟩;have HB1:=Hd hb1;clear hb1)
  go_ret;exact⟨by rw[hfin.out];rfl,HB1.out⟩
 have HFm:=Hd (zbX true s w (by rw[ht];rfl));have hck:=zb0 (K:=K) ht;obtain⟨rfl,hr,hl⟩:=zaW.1 ht;have hLl:(L.length:Int)≤1000:=by rw[← hKL,List.length_map];have:=hG.len;omega
 have HD:=Hd (fun w=>show Calls Tryz.prog 114 #[.string (tyB t),.int .i64 48] w fun e w'=>e=.returned (.int .i64 (min (zaS t) 50:Nat))∧Below w.heap.size w w' from zq5 49 (by decide) t w hr hl);have HSh:=Hd (fun w=>zgS _ t (zv0 _) hr hl w)
 have HGv:=Hd (show ∀w,IsSrs w.heap.size w a L mv→Calls Tryz.prog 116 #[.string (tyB t),.slice a L.length cap] w fun e w'=>e=.returned (.bool (thereT K t))∧Below w.heap.size w w' from fun w hS=>by
  have:=zeM a cap L mv hLl t w hS hr hl;rw[← hKL,zfx,hKL]at this
  exact this)
 have HGr:=Hd (zgU K L a cap mv hG hF hKL _ t (zv0 _) hr hl);unfold zk4 at HGr;have hcT:zbA K t=if 48<zaS t then 3 else if shapeT t=false then 5 else if thereT K t=false then 4 else if sizedT K t=false then 3 else 0:=rfl
 rw[hcT]at hck;generalize tyB t=s at *;clear ht hr hl hG hF hKL hS hcT
 by_cases h48:48<zaS t
 ·rw[if_pos h48]at hck
  have hfin:=Hd hck;have t1:(48:Int)<(min (zaS t) 50:Nat):=by omega
  generalize min (zaS t) 50=d at *;clear hck h48
  go_enter Tryz.func86,Tryz.ntmps86
  go_wp2_with (first|(go_at_call 92;(with_reducible refine HFm.out.mono ?_);rintro e w1 ⟨rfl,hb1⟩;have HB1:=Hd hb1;clear hb1)|(go_at_call 114;(with_reducible refine(HD.out _).mono ?_);rintro e w2 ⟨rfl,hb2⟩;have HB2:=Ht HB1 hb2;clear hb2))
  go_ret;exact⟨by rw[hfin.out];rfl,HB2.out⟩
 rw[if_neg h48]at hck;have t1:((min (zaS t) 50:Nat):Int)≤48:=by omega
 generalize min (zaS t) 50=d at *;rcases h1:shapeT t with _|_
 ·have hfin:=Hd (hck.trans (if_pos h1))
  rw[h1]at HSh;clear hck h1 h48
  go_enter Tryz.func86,Tryz.ntmps86
  go_wp2_with (first|(go_at_call 92;(with_reducible refine HFm.out.mono ?_);rintro e w1 ⟨rfl,hb1⟩;have HB1:=Hd hb1;clear hb1)|(go_at_call 114;(with_reducible refine(HD.out _).mono ?_);rintro e w2 ⟨rfl,hb2⟩;have HB2:=Ht HB1 hb2;clear hb2)|(go_at_call 115;(with_reducible refine(HSh.out _).mono ?_);rintro e w3 ⟨rfl,hb3⟩;have HB3:=Ht HB2 hb3;clear hb3))
  go_ret;exact⟨by rw[hfin.out];rfl,HB3.out⟩
 rw[if_neg (by simp[h1])]at hck;rw[h1]at HSh;rcases h2:thereT K t with _|_
 ·have hfin:=Hd (hck.trans (if_pos h2))
  rw[h2]at HGv;clear hck h1 h2 h48
  go_enter Tryz.func86,Tryz.ntmps86
  go_wp2_with (first|(go_at_call 92;(with_reducible refine HFm.out.mono ?_);rintro e w1 ⟨rfl,hb1⟩;have HB1:=Hd hb1;clear hb1)|(go_at_call 114;(with_reducible refine(HD.out _).mono ?_);rintro e w2 ⟨rfl,hb2⟩;have HB2:=Ht HB1 hb2;clear hb2)|(go_at_call 115;(with_reducible refine(HSh.out _).mono ?_);rintro e w3 ⟨rfl,hb3⟩;have HB3:=Ht HB2 hb3;have HG3:=Hd (HGv.out w3 ((HS.out.below HB3.out).mono HB3.out.size));clear hb3)|(go_at_call 116;(with_reducible refine HG3.out.mono ?_);rintro e w4 ⟨rfl,hb4⟩;have HB4:=Ht HB3 hb4;clear hb4))
  go_ret;exact⟨by rw[hfin.out];rfl,HB4.out⟩
 rw[if_neg (by simp[h2])]at hck;rw[h2]at HGv;have hfin:=Hd (show checkS K s=if sizedT K t=false then 3 else 0 from hck);generalize sizedT K t=b at *;clear hck h1 h2 h48;cases b with
 | false=>
   go_enter Tryz.func86,Tryz.ntmps86
   go_wp2_with (first|(go_at_call 92;(with_reducible refine HFm.out.mono ?_);rintro e w1 ⟨rfl,hb1⟩;have HB1:=Hd hb1;clear hb1)|(go_at_call 114;(with_reducible refine(HD.out _).mono ?_);rintro e w2 ⟨rfl,hb2⟩;have HB2:=Ht HB1 hb2;clear hb2)|(go_at_call 115;(with_reducible refine(HSh.out _).mono ?_);rintro e w3 ⟨rfl,hb3⟩;have HB3:=Ht HB2 hb3;have HG3:=Hd (HGv.out w3 ((HS.out.below HB3.out).mono HB3.out.size));clear hb3)|(go_at_call 116;(with_reducible refine HG3.out.mono ?_);rintro e w4 ⟨rfl,hb4⟩;have HB4:=Ht HB3 hb4;have HG4:=Hd (HGr.out w4 ((HS.out.below HB4.out).mono HB4.out.size));clear hb4)|(go_at_call 117;(with_reducible refine HG4.out.mono ?_);rintro e w5 ⟨rfl,hb5⟩;have HB5:=Ht HB4 hb5;clear hb5))
   go_ret;exact⟨by rw[hfin.out];rfl,HB5.out⟩
 | true=>
   go_enter Tryz.func86,Tryz.ntmps86
   go_wp2_with (first|(go_at_call 92;(with_reducible refine HFm.out.mono ?_);rintro e w1 ⟨rfl,hb1⟩;have HB1:=Hd hb1;clear hb1)|(go_at_call 114;(with_reducible refine(HD.out _).mono ?_);rintro e w2 ⟨rfl,hb2⟩;have HB2:=Ht HB1 hb2;clear hb2)|(go_at_call 115;(with_reducible refine(HSh.out _).mono ?_);rintro e w3 ⟨rfl,hb3⟩;have HB3:=Ht HB2 hb3;have HG3:=Hd (HGv.out w3 ((HS.out.below HB3.out).mono HB3.out.size));clear hb3)|(go_at_call 116;(with_reducible refine HG3.out.mono ?_);rintro e w4 ⟨rfl,hb4⟩;have HB4:=Ht HB3 hb4;have HG4:=Hd (HGr.out w4 ((HS.out.below HB4.out).mono HB4.out.size));clear hb4)|(go_at_call 117;(with_reducible refine HG4.out.mono ?_);rintro e w5 ⟨rfl,hb5⟩;have HB5:=Ht HB4 hb5;clear hb5))
   go_ret;exact⟨by rw[hfin.out];rfl,HB5.out⟩
end Go.Proofs.YtbbaooeioogijaaGreatDoor
namespace Go
theorem zbq {P:Program}{w:World}{ops:Array Oper}{o:Oper}{a:Act}{K:Act→World→Prop}{Q:Exit→Act→World→Prop}{E:Prop}(hgd:o.guard=none)(s x:Operand)(t:TypeId)
 (ho:o.op=.call { callee:=.builtin .append,args:=#[s,x],argTypes:=#[t,t] })
 (base:Nat) (e:TypeId) (i:TypeInfo) (z:Value) (size bytes:Nat) (ht:P.underlying t=some (.slice e)) (hi:P.info? e=some i) (hz:i.zero=some z)
 (hsize:i.size=size) (hby:i.bytes=bytes) (hzs:z.cells.size=size) (hsz:0<size)
 (v:Value) (n:Nat) (xs:List Value) (hs:a.eval s=v) (hown:w.ownsRow base e size v n xs)
 (ad:Addr) (m c:Nat) (news:List Value) (hx:a.eval x=.slice (some ad) m c) (hl:news.length=m*size) (hnews:∀j u,news[j]?=some u→w.cell? (ad.add j)=some u) (h1:∀u ∈ news,u.oneCell'=true)
 (h63:n+m≤maxLen) (hbytes:(n+m)*bytes≤140737488355328) (hbase:base≤w.heap.size)
 (h:∀v' w',w'.ownsRow base e size v' (n+m) (xs++news)→w.grownBy w' v.ownBlock→(v'=.slice none 0 0↔v=.slice none 0 0∧m=0)→K (a.put o.dst v') w') :
 if Region.wanted o (yielded ops a.tmps)=true then Oper.wp P o a w K Q else E:=by
 have hw:Region.wanted o (yielded ops a.tmps)=true:=by simp[Region.wanted,hgd]
 rw[if_pos hw];exact wp_append_own w s x t ho base e i z size bytes ht hi hz hsize hby hzs hsz v n xs hs hown ad m c news hx hl hnews h1 h63 hbytes hbase h
end Go
namespace Go.Proofs.YtbbaooeioogijaaGreatDoor
open Go.RowKit
def zbe:List (Value × Value)→List Value
 | []=>[]
 | q :: l=>q.1 :: q.2 :: zbe l
theorem zd6:∀l,(zbe l).length=l.length*2
 | []=>rfl
 | q :: l=>by rw[zbe];simp[zd6 l];omega
theorem zcX:∀l m,zbe (l++m)=zbe l++zbe m
 | [],m=>rfl
 | q :: l,m=>by rw[List.cons_append,zbe,zbe,zcX l m];rfl
theorem zje:∀{l:List (Value × Value)} {i:Nat} {q:Value × Value},l[i]?=some q→(zbe l)[i*2]?=some q.1∧(zbe l)[i*2+1]?=some q.2
 | [],_,_,h=>by simp at h
 | p :: l,0,q,h=>by
   simp at h;subst h;exact⟨rfl,rfl⟩
 | p :: l,i+1,q,h=>by
   obtain⟨h1,h2⟩:=zje (l:=l) (i:=i) (q:=q) (by simpa using h);rw[zbe];have e1:(i+1)*2=i*2+1+1:=by omega
   rw[e1];exact⟨by simpa using h1,by simpa using h2⟩
theorem zd7:∀{l:List (Value × Value)} {j:Nat} {u:Value},(zbe l)[j]?=some u→∃(i:Nat) (q:Value × Value),l[i]?=some q∧((j=i*2∧u=q.1)∨(j=i*2+1∧u=q.2))
 | [],_,_,h=>by simp[zbe]at h
 | p :: l,0,u,h=>⟨0,p,rfl,.inl ⟨rfl,by rw[zbe]at h;simpa using h.symm⟩⟩
 | p :: l,1,u,h=>⟨0,p,rfl,.inr ⟨rfl,by rw[zbe]at h;simpa using h.symm⟩⟩
 | p :: l,j+2,u,h=>by
   rw[zbe]at h;obtain⟨i,q,h1,h2⟩:=zd7 (l:=l) (j:=j) (u:=u) (by simpa using h);exact⟨i+1,q,by simpa using h1,by rcases h2 with ⟨h2,h3⟩|⟨h2,h3⟩;exact .inl ⟨by omega,h3⟩;exact .inr ⟨by omega,h3⟩⟩
def zcE (L:List Sr)(mv:List Value):List (Value × Value):=(L.zip mv).map fun q=>(.string q.1.name,q.2)
def zew (ms:List (ByteArray × ByteArray)):List (Value × Value):=ms.map fun m=>(.string m.1,.string m.2)
theorem zj7 {L:List Sr}{mv:List Value}(h:mv.length=L.length):(zcE L mv).length=L.length:=by simp[zcE,h]
theorem zsr {L:List Sr}{mv:List Value}{i:Nat}{x:Sr}{v:Value}(h1:L[i]?=some x)(h2:mv[i]?=some v):(zcE L mv)[i]?=some (.string x.name,v):=by
 rw[zcE,List.getElem?_map,show (L.zip mv)[i]?=some (x,v) from List.getElem?_zip_eq_some.2 ⟨h1,h2⟩];rfl
theorem zj8 {L:List Sr}{mv:List Value}{i:Nat}{q:Value × Value}(h:(zcE L mv)[i]?=some q):∃x v,L[i]?=some x∧mv[i]?=some v∧q=(.string x.name,v):=by
 rw[zcE,List.getElem?_map,Option.map_eq_some_iff]at h;obtain⟨⟨x,v⟩,h1,rfl⟩:=h;obtain⟨h2,h3⟩:=List.getElem?_zip_eq_some.1 h1;exact⟨x,v,h2,h3,rfl⟩
theorem zfD {L:List Sr}{mv:List Value}(h:mv.length=L.length)(x:Sr)(v:Value):zcE (L++[x]) (mv++[v])=zcE L mv++[(.string x.name,v)]:=by
 rw[zcE,zcE,List.zip_append h.symm,List.map_append];rfl
theorem add2 (b off j:Nat):(⟨b,off,none⟩:Addr).add j=⟨b,off+j,none⟩:=by unfold Addr.add;split<;>simp_all
theorem zrW {B:Nat}{w:World}{ad:Addr}{L:List Sr}{mv:List Value}(h:IsSrs B w (some ad) L mv):∀(j:Nat) u,(zbe (zcE L mv))[j]?=some u→w.cell? (ad.add j)=some u:=fun j u hu=>by
 obtain⟨i,q,hq,hj⟩:=zd7 hu;obtain⟨x,v,hx,hv,rfl⟩:=zj8 hq;obtain⟨b,off,ha,_,hr⟩:=h.at_ (fun e=>by rw[e]at hx;simp at hx);obtain rfl:=zv4 ha;obtain⟨h1,h2,_⟩:=hr i x v hx hv;rcases hj with ⟨rfl,rfl⟩|⟨rfl,rfl⟩
 ·rw[add2];exact h1
 ·rw[add2,← Nat.add_assoc];exact h2
theorem zt8 {B:Nat}{w:World}{a:Option Addr}{L:List Sr}{mv:List Value}(h:IsSrs B w a L mv):∀u ∈ zbe (zcE L mv),u.oneCell'=true:=fun u hu=>by
 obtain⟨j,hj,rfl⟩:=List.getElem_of_mem hu;obtain⟨i,q,hq,hj'⟩:=zd7 (zv1 hj);obtain⟨x,v,hx,hv,rfl⟩:=zj8 hq;obtain⟨b,off,ha,_,hr⟩:=h.at_ (fun e=>by rw[e]at hx;simp at hx);obtain⟨_,_,am,cm,rfl,_⟩:=hr i x v hx hv;rcases hj' with ⟨_,h⟩|⟨_,h⟩<;>rw[h]<;>rfl
theorem zuf {w:World}{base n:Nat}{v:Value}{L:List Sr}{mv:List Value}(h:w.ownsRow base 61 2 v n (zbe (zcE L mv)))(hn:n=L.length)(hl:mv.length=L.length)(hm:∀(i:Nat) x v,L[i]?=some x→mv[i]?=some v→IsMems w.heap.size w v x.mems)(hN:∀x ∈ L,x.name.size≤maxLen) :
 ∃a cap,v=.slice a L.length cap∧IsSrs w.heap.size w a L mv:=by
 subst hn;rcases h.2 with ⟨rfl,h0⟩|⟨g,cap,cur,rfl,_,hg,_⟩
 ·refine⟨none,0,by rw[h0],hl,fun hne=>?_,hN⟩
  have:L=[]:=List.eq_nil_of_length_eq_zero h0;exact absurd this hne
 ·refine⟨_,cap,rfl,hl,fun _=>⟨g,0,rfl,zaa hg,fun i x v hx hv=>?_⟩,hN⟩
  obtain⟨h1,h2⟩:=zje (zsr hx hv);have c1:=h.cells (g:=g) rfl _ _ h1;have c2:=h.cells (g:=g) rfl _ _ h2;rw[add2,Nat.zero_add]at c1 c2;refine⟨by rw[Nat.zero_add];exact c1,by rw[Nat.zero_add];exact c2,hm i x v hx hv⟩
theorem zkC (w:World)(o o2:Obj):((w.alloc o).alloc o2).heap[w.heap.size]?=some o:=by
 rw[((zv3 (w.alloc o).heap.size (w.alloc o)).alloc (zv0 _) o2).block _ (by simp)];exact zv8 w o
theorem zkB (w:World)(o o2:Obj):((w.alloc o).alloc o2).heap[w.heap.size+1]?=some o2:=by
 have:=zv8 (w.alloc o) o2;simpa using this
theorem zeP {w:World}{g base k:Nat}{T:TypeId}(h:w.heap[g]?=some (.cells #[] T (0,0)))(hb:base≤g):w.ownsRow base T k (.slice (some ⟨g,0,none⟩) 0 0) 0 []:=
 ⟨by simp,.inr ⟨g,0,#[],rfl,hb,h,zv0 _,by decide,by simp,by simp⟩⟩
theorem zp3 {w:World}{g:Nat}{c0 c1:Value}{T:TypeId}(h:w.heap[g]?=some (.cells #[c0,c1] T (0,0))):∀(j:Nat) u,[c0,c1][j]?=some u→w.cell? ((⟨g,0,none⟩:Addr).add j)=some u:=fun j u hu=>by
 obtain⟨⟨h0,h1⟩,_⟩:=zab h
 match j,hu with
 | 0,hu=>obtain rfl:=zv4 hu;rw[add2];exact h0
 | 1,hu=>obtain rfl:=zv4 hu;rw[add2];exact h1
theorem blw1 (w:World)(o:Obj):Below w.heap.size w (w.alloc o).drew:=((zv3 _ _).alloc (zv0 _) _).drew
theorem blw2 (w:World)(o o2:Obj):Below w.heap.size w ((w.alloc o).alloc o2).drew:=(((zv3 _ _).alloc (zv0 _) _).alloc (by simp) _).drew
theorem zvE:(Tryz.prog.info? 61).map (fun i=>(i.zero,i.size,i.bytes))=some (some (.agg #[.string ⟨#[]⟩,.slice none 0 0]),2,40):=by kernel_rfl
end Go.Proofs.YtbbaooeioogijaaGreatDoor
namespace Go.Proofs.YtbbaooeioogijaaGreatDoor
theorem zak (fr:List Nat):∀(n e:Nat),(zby fr n e).length=n
 | 0,_=>rfl
 | n+1,e=>by rw[zby,List.length_append,zak fr n];rfl
theorem zj5 {fr:List Nat}:∀{n e:Nat},Back fr n e→∀p ∈ zby fr n e,p<e
 | 0,_,_,p,hp=>by rw[zby]at hp;cases hp
 | n+1,e,⟨h1,h2,h3⟩,p,hp=>by
   rw[zby]at hp;rcases List.mem_append.1 hp with hp|hp
   ·have:=zj5 h3 p hp;omega
   ·obtain rfl:=List.mem_singleton.1 hp;omega
theorem zan {t:List Nd}{fr:List Nat}{k:Nat}{x:Nd}(hx:t[k]?=some x):partsAt t fr k=zby fr x.n.toNat k:=by unfold partsAt;rw[hx];rfl
theorem za7 {t:List Nd}{k:Nat}{x:Nd}(hx:t[k]?=some x):kindAt t k=x.kind:=by unfold kindAt;rw[hx];rfl
theorem Formed.parts_lt {t:List Nd}{fr:List Nat}(h:Formed t fr){k p:Nat}(hp:p ∈ partsAt t fr k):p<k:=by
 unfold partsAt at hp;cases hx:t[k]? with
 | none=>rw[hx]at hp;simp[zby]at hp
 | some x=>
   rw[hx]at hp;exact zj5 (h.node k x hx).2.1 p hp
theorem zbF {x:Nd}(h:wellN x=true):(arityN x.kind).1≤x.n∧x.n≤(arityN x.kind).2∧0≤(arityN x.kind).1:=by
 unfold wellN zbu at h;simp only[Bool.and_eq_true,decide_eq_true_eq]at h;exact⟨h.1.2.1,h.1.2.2.1,h.1.1⟩
theorem zej {t:List Nd}{fr:List Nat}(h:Formed t fr)(hw:∀(k:Nat) x,t[k]?=some x→wellN x=true):∀(m k:Nat),k<t.length→k<m→zgm t fr m k=zgm t fr (k+1) k
 | 0,k,_,hk=>by omega
 | m+1,k,hl,hk=>by
   have hx:=zv1 hl;have hwx:=zbF (hw k _ hx);rw[zgm,zgm];have hpl:(partsAt t fr k).length=t[k].n.toNat:=by rw[zan hx,zak]
   have hkd:=za7 hx;have key:∀i,i<(partsAt t fr k).length→zgm t fr m ((partsAt t fr k).getD i 0)=zgm t fr k ((partsAt t fr k).getD i 0):=fun i hi=>by
    have hm:(partsAt t fr k).getD i 0 ∈ partsAt t fr k:=by
     rw[zv2,zv1 hi];exact zwb hi
    have hlt:=h.parts_lt hm;rw[zej h hw m _ (by omega) (by omega),zej h hw k _ (by omega) hlt]
   by_cases h23:kindAt t k=23
   ·rw[if_pos h23,if_pos h23]
    by_cases h2:(partsAt t fr k).length=2
    ·simp[h2]
    ·have:2<(partsAt t fr k).length:=by
      rw[hkd]at h23;rw[h23]at hwx;have:arityN 23=(2,3):=by decide
      rw[this]at hwx;rw[hpl]at h2 ⊢;simp only at hwx;omega
     rw[key 2 this]
   ·rw[if_neg h23,if_neg h23]
    split
    ·rename_i hk5
     have:0<(partsAt t fr k).length:=by
      have ha:1≤(arityN t[k].kind).1:=by
       rw[hkd]at hk5;rcases hk5 with e|e|e|e|e<;>rw[e]<;>decide
      rw[hpl];omega
     rw[key _ (by omega)]
    ·rfl
theorem zpU {t:List Nd}{fr:List Nat}(h:Formed t fr)(hw:∀(k:Nat) x,t[k]?=some x→wellN x=true){k:Nat}(hl:k<t.length)(h23:kindAt t k=23):zc6 t fr k=(decide ((partsAt t fr k).length=2) || (decide (2<(partsAt t fr k).length) && zc6 t fr ((partsAt t fr k).getD 2 0))):=by
 unfold zc6;rw[zgm];rw[if_pos h23]
 by_cases h2:(partsAt t fr k).length=2
 ·simp[h2]
 ·have hx:=zv1 hl
  have hwx:=zbF (hw k _ hx);have hpl:(partsAt t fr k).length=t[k].n.toNat:=by rw[zan hx,zak]
  have h3:2<(partsAt t fr k).length:=by
   rw[za7 hx]at h23;rw[h23,show arityN 23=(2,3) by decide]at hwx;rw[hpl]at h2 ⊢;simp only at hwx;omega
  have hm:(partsAt t fr k).getD 2 0 ∈ partsAt t fr k:=by
   rw[zv2,zv1 h3];exact zwb h3
  have hlt:=h.parts_lt hm;rw[zej h hw k _ (by omega) hlt];simp[h2,h3]
theorem zkb {t:List Nd}{fr:List Nat}(h:Formed t fr)(hw:∀(k:Nat) x,t[k]?=some x→wellN x=true){k:Nat}(hl:k<t.length)(h5:kindAt t k=24∨kindAt t k=26∨kindAt t k=27∨kindAt t k=28∨kindAt t k=29) :
 0<(partsAt t fr k).length∧zc6 t fr k=zc6 t fr ((partsAt t fr k).getD ((partsAt t fr k).length-1) 0):=by
 have hx:=zv1 hl;have hwx:=zbF (hw k _ hx);have hpl:(partsAt t fr k).length=t[k].n.toNat:=by rw[zan hx,zak]
 have h0:0<(partsAt t fr k).length:=by
  have ha:1≤(arityN t[k].kind).1:=by
   have:=h5;rw[za7 hx]at this;rcases this with e|e|e|e|e<;>rw[e]<;>decide
  rw[hpl];omega
 have hm:(partsAt t fr k).getD ((partsAt t fr k).length-1) 0 ∈ partsAt t fr k:=by
  rw[zv2,zv1 (by omega)];exact zwb _
 refine⟨h0,?_⟩;unfold zc6;rw[zgm];rw[if_neg (by omega),if_pos h5,zej h hw k _ (by have:=h.parts_lt hm;omega) (h.parts_lt hm)]
theorem zpT {t:List Nd}{fr:List Nat}{k:Nat}(h:kindAt t k≠23∧kindAt t k≠24∧kindAt t k≠26∧kindAt t k≠27∧kindAt t k≠28∧kindAt t k≠29):zc6 t fr k=false:=by
 unfold zc6;rw[zgm];rw[if_neg (by omega),if_neg (by omega)]
end Go.Proofs.YtbbaooeioogijaaGreatDoor
namespace Go.Proofs.YtbbaooeioogijaaGreatDoor
open Go.RowKit
set_option maxRecDepth 100000
set_option maxHeartbeats 8000000
theorem zeR:(Tryz.prog.info? 3).map (fun i=>(i.zero,i.size,i.bytes))=some (some (.int .i64 0),1,8):=by kernel_rfl
def natV (n:Nat):Value:=.int .i64 (n:Int)
def NatRow (w:World)(base:Nat)(v:Value)(L:List Nat):Prop:=w.ownsRow base 3 1 v L.length (L.map natV)
theorem ziU (st:List Nat)(m:Nat)(_h:m≤st.length):st.reverse.take (st.length-m)=(st.drop m).reverse:=by
 rw[List.reverse_drop]
theorem zp5 {w:World}{base:Nat}{v:Value}{L:List Nat}(h:NatRow w base v L):∃a cap,v=.slice a L.length cap∧(L≠[]→∃g,a=some ⟨g,0,none⟩∧base≤g∧g<w.heap.size∧∀(i:Nat) x,L[i]?=some x→w.cell? ⟨g,i,none⟩=some (.int .i64 (x:Int))):=by
 rcases h.2 with ⟨rfl,h0⟩|⟨g,cap,cur,rfl,hb,hg,_⟩
 ·have:L=[]:=List.eq_nil_of_length_eq_zero h0
  subst this;exact⟨none,0,rfl,fun h=>absurd rfl h⟩
 ·refine⟨_,cap,rfl,fun _=>⟨g,rfl,hb,zaa hg,fun i x hx=>?_⟩⟩
  have:=h.cells (g:=g) rfl i (natV x) (by rw[List.getElem?_map,hx];rfl);rw[addN,Nat.zero_add]at this;exact this
theorem ze9 {w:World}{base:Nat}{T:TypeId}(hb:base≤w.heap.size):(w.alloc (.cells #[] T)).ownsRow base T 1 (.slice (some ⟨w.heap.size,0,none⟩) 0 0) 0 []:=World.ownsRow_lit w #[] 0 hb (by decide) rfl
structure BegInv (w:World)(t:List Nd)(wy:World)(g cap i:Nat)(pre st:List Nat):Prop where
 rest:zaB t 0 []=(zaB (t.drop i) i st).map fun r=>(pre++r.1,r.2)
 len:pre.length=i
 row:∃ys,wy.ownsRow w.heap.size 3 1 (.slice (some ⟨w.heap.size,0,none⟩) t.length t.length) t.length ys∧∀(j:Nat) x,pre[j]?=some x→ys[j]?=some (natV x)
 stk:wy.ownsRow w.heap.size 3 1 (.slice (some ⟨g,0,none⟩) st.length cap) st.length (st.reverse.map natV)
 apart:g≠w.heap.size
 stl:st.length≤i
 below:Below w.heap.size w wy
theorem BegInv.done {w wy:World}{t:List Nd}{g cap:Nat}{pre st:List Nat}(h:BegInv w t wy g cap t.length pre st):NatRow wy w.heap.size (.slice (some ⟨w.heap.size,0,none⟩) t.length t.length) pre:=by
 obtain⟨ys,ho,hp⟩:=h.row;have hl:=ho.1;rw[Nat.mul_one]at hl;have:ys=pre.map natV:=by
  apply List.ext_getElem?;intro j;rw[List.getElem?_map];rcases hx:pre[j]? with _|x
  ·rw[List.getElem?_eq_none_iff]at hx
   have:=h.len;rw[List.getElem?_eq_none (by omega)];rfl
  ·rw[hp j x hx];rfl
 subst this;unfold NatRow;rw[h.len];exact ho
structure BegMid (w:World)(t:List Nd)(wy:World)(g cap i a:Nat)(pre st:List Nat):Prop where
 len:pre.length=i
 row:∃ys,wy.ownsRow w.heap.size 3 1 (.slice (some ⟨w.heap.size,0,none⟩) t.length t.length) t.length ys∧(∀(j:Nat) x,pre[j]?=some x→ys[j]?=some (natV x))∧ys[i]?=some (natV a)
 stk:wy.ownsRow w.heap.size 3 1 (.slice (some ⟨g,0,none⟩) st.length cap) st.length (st.reverse.map natV)
 apart:g≠w.heap.size
 below:Below w.heap.size w wy
theorem zmG {w:World}{B m:Nat}{e:TypeId}{size:Nat}{v:Value}{xs:List Value}(h:w.ownsRow B e size v m xs)(a:Addr)(u:Value)(hne:v.ownBlock≠some a.block):(w.setCell a u).ownsRow B e size v m xs:=
 h.kept (row:=some a.block) ⟨rfl,rfl,rfl,by simp,fun k _ hk=>heap_setCell_other w a k u (fun e=>hk (by simp[e]))⟩ (.inr hne)
theorem BegInv.cell {w wy:World}{t:List Nd}{g cap i:Nat}{pre st:List Nat}(h:BegInv w t wy g cap i pre st)(hi:i<t.length){w2:World}(hb:Below wy.heap.size wy w2):(∃u,w2.cell? ⟨w.heap.size,i,none⟩=some u)∧w2.frozen? ⟨w.heap.size,i,none⟩=false:=by
 obtain⟨ys,ho,_⟩:=h.row;have ho2:=ho.belowed hb;refine⟨?_,ho2.frozenAt i⟩;have hl:=ho2.1;rw[Nat.mul_one]at hl;rw[ho2.cellAt i (by omega)];exact⟨_,zv1 (by omega)⟩
theorem BegInv.store {w wy:World}{t:List Nd}{g cap i:Nat}{pre st:List Nat}(h:BegInv w t wy g cap i pre st)(hi:i<t.length){w2:World}(hb:Below wy.heap.size wy w2):BegMid w t (w2.setCell ⟨w.heap.size,i,none⟩ (natV i)) g cap i i pre st:=by
 obtain⟨ys,ho,hp⟩:=h.row;have ho2:=ho.belowed hb;have hl:=ho2.1;rw[Nat.mul_one]at hl;refine⟨h.len,⟨_,(ho2.stored i (natV i)).1,fun j x hx=>?_,?_⟩,zmG (h.stk.belowed hb) _ _ (by simp[Value.ownBlock];exact h.apart),h.apart,(h.below.trans (hb.mono h.below.size)).setCell (zv0 _) _⟩
 ·have:=(List.getElem?_eq_some_iff.1 hx).1
  have:=h.len;rw[List.getElem?_set_ne (by omega)];exact hp j x hx
 ·rw[List.getElem?_set_self (by omega)]
theorem BegMid.cell {w wy:World}{t:List Nd}{g cap i a:Nat}{pre st:List Nat}(h:BegMid w t wy g cap i a pre st):wy.cell? ⟨w.heap.size,i,none⟩=some (natV a)∧wy.frozen? ⟨w.heap.size,i,none⟩=false:=by
 obtain⟨ys,ho,_,hp⟩:=h.row;have hl:=ho.1;rw[Nat.mul_one]at hl;have:=(List.getElem?_eq_some_iff.1 hp).1;exact⟨by rw[ho.cellAt i (by omega)];exact hp,ho.frozenAt i⟩
theorem BegMid.top {w wy:World}{t:List Nd}{g cap i a:Nat}{pre st:List Nat}(h:BegMid w t wy g cap i a pre st){q m:Nat}(hq:st.length=q+m)(hm:0<m):wy.cell? ⟨g,q,none⟩=some (.int .i64 ((st.getD (m-1) 0:Nat):Int)):=by
 rw[h.stk.cellAt q (by omega),List.getElem?_map,List.getElem?_reverse (by omega),show st.length-1-q=m-1 by omega,zv1 (by omega)];simp[natV,List.getD_eq_getElem?_getD,List.getElem?_eq_getElem (show m-1<st.length by omega)]
theorem BegMid.store {w wy:World}{t:List Nd}{g cap i a:Nat}{pre st:List Nat}(h:BegMid w t wy g cap i a pre st)(c:Nat):BegMid w t (wy.setCell ⟨w.heap.size,i,none⟩ (natV c)) g cap i c pre st:=by
 obtain⟨ys,ho,hp,hi⟩:=h.row;have:=(List.getElem?_eq_some_iff.1 hi).1;refine⟨h.len,⟨_,(ho.stored i (natV c)).1,fun j x hx=>?_,?_⟩,zmG h.stk _ _ (by simp[Value.ownBlock];exact h.apart),h.apart,h.below.setCell (zv0 _) _⟩
 ·have:=(List.getElem?_eq_some_iff.1 hx).1
  have:=h.len;rw[List.getElem?_set_ne (by omega)];exact hp j x hx
 ·rw[List.getElem?_set_self (by omega)]
theorem BegMid.node {w wy:World}{t:List Nd}{g cap i a:Nat}{pre st:List Nat}(h:BegMid w t wy g cap i a pre st){q m:Nat}(hq:st.length=q+m):wy.ownsRow w.heap.size 3 1 (.slice (some ⟨g,0,none⟩) q cap) q ((st.drop m).reverse.map natV):=by
 have:=ziW h.stk (m:=q) (by omega);rw[Nat.mul_one,← List.map_take,show q=st.length-m by omega,ziU st m (by omega)]at this;rw[show q=st.length-m by omega];exact this
theorem BegMid.next {w wy w4 w5:World}{t:List Nd}{g cap i a g5 cp5:Nat}{pre st:List Nat}(h:BegMid w t wy g cap i a pre st){q m:Nat}(hq:st.length=q+m)(hst:st.length≤i)(hb:Below wy.heap.size wy w4)
 (hown:w5.ownsRow w.heap.size 3 1 (.slice (some ⟨g5,0,none⟩) (q+1) cp5) (q+1) ((st.drop m).reverse.map natV++[.int .i64 (a:Int)])) (hgrow:w4.grownBy w5 (some g)) (hat:some g=some g5∨g5=w4.heap.size)
 (hrest:zaB t 0 []=(zaB (t.drop (i+1)) (i+1) (a :: st.drop m)).map fun r=>(pre++[a]++r.1,r.2)):BegInv w t w5 g5 cp5 (i+1) (pre++[a]) (a :: st.drop m):=by
 obtain⟨ys,ho,hp,hi⟩:=h.row;have hil:=(List.getElem?_eq_some_iff.1 hi).1;have hle:w.heap.size<wy.heap.size:=by
  rcases ho.2 with ⟨h,_⟩|⟨q,_,_,h,_,hq,_⟩
  ·simp at h
  ·simp only[Value.slice.injEq,Option.some.injEq,Addr.mk.injEq,and_true]at h
   rw[h.1];exact zaa hq
 have hg:w.heap.size≤g:=by
  rcases h.stk.2 with ⟨h,_⟩|⟨q,_,_,h,hb,hq,_⟩
  ·simp at h
  ·simp only[Value.slice.injEq,Option.some.injEq,Addr.mk.injEq,and_true]at h
   rw[h.1];exact hb
 have e:(a :: st.drop m).length=q+1:=by simp;omega
 refine⟨hrest,by rw[List.length_append,h.len];rfl,⟨ys,(ho.belowed hb).kept hgrow (.inr (by simp[Value.ownBlock];exact fun h'=>h.apart h'.symm)),fun j x hx=>?_⟩,?_,?_,by rw[e];omega,(h.below.trans (hb.mono h.below.size)).grown hgrow (zv6 h.below.size hb.size) (fun k hk=>by simp only[Option.some.injEq]at hk;omega)⟩
 ·rcases Nat.lt_or_ge j pre.length with hj|hj
  ·rw[List.getElem?_append_left hj]at hx
   exact hp j x hx
  ·have:=(List.getElem?_eq_some_iff.1 hx).1
   rw[List.length_append,h.len]at this;simp only[List.length_cons,List.length_nil]at this;obtain rfl:j=i:=by have:=h.len;omega
   rw[List.getElem?_append_right hj,h.len,Nat.sub_self]at hx;simp at hx;subst hx;exact hi
 ·rw[e,List.reverse_cons,List.map_append]
  exact hown
 ·rcases hat with h'|h'
  ·have:=zv4 h'
   rw[← this];exact h.apart
  ·have:=hb.size
   omega
theorem BegMid.cap_le {w wy:World}{t:List Nd}{g cap i a:Nat}{pre st:List Nat}(h:BegMid w t wy g cap i a pre st):st.length≤cap∧cap≤maxLen∧w.heap.size≤wy.heap.size:=by
 rcases h.stk.2 with ⟨h,_⟩|⟨q,_,_,h',hb,hq,h1,h2,_⟩
 ·simp at h
 ·simp only[Value.slice.injEq,Option.some.injEq,Addr.mk.injEq,and_true,true_and]at h'
  exact⟨by rw[h'.2];exact h1,by rw[h'.2];exact h2,h.below.size⟩
theorem BegMid.lt {w wy:World}{t:List Nd}{g cap i a:Nat}{pre st:List Nat}(h:BegMid w t wy g cap i a pre st):w.heap.size<wy.heap.size:=by
 obtain⟨ys,ho,_⟩:=h.row;rcases ho.2 with ⟨h,_⟩|⟨q,_,_,h,_,hq,_⟩
 ·simp at h
 ·simp only[Value.slice.injEq,Option.some.injEq,Addr.mk.injEq,and_true]at h
  rw[h.1];exact zaa hq
theorem BegInv.lastc {w wy:World}{t:List Nd}{g cap i a:Nat}{pre st:List Nat}(h:BegInv w t wy g cap (i+1) (pre++[a]) st):wy.cell? ⟨w.heap.size,i,none⟩=some (.int .i64 (a:Int)):=by
 obtain⟨ys,ho,hp⟩:=h.row;have hl:=h.len;rw[List.length_append]at hl;simp only[List.length_cons,List.length_nil]at hl;have hx:=hp i a (by rw[List.getElem?_append_right (by omega),show i-pre.length=0 by omega];rfl);have:=(List.getElem?_eq_some_iff.1 hx).1;have:=ho.1;rw[ho.cellAt i (by omega)];exact hx
def znC (t:List Nd)(w:World)(e:Ending)(w':World):Prop:=(∃v ok,e=.returned (.tuple #[v,.bool ok])∧(ok=(zah t).isSome)∧(ok=true→∃fr,zah t=some fr∧NatRow w' w.heap.size v fr))∧Below w.heap.size w w'
theorem zdl {t:List Nd}{w w':World}{v:Value}(h:zah t=none)(hb:Below w.heap.size w w'):znC t w (.returned (.tuple #[v,.bool false])) w':=⟨⟨v,false,rfl,by rw[h];rfl,fun h=>by cases h⟩,hb⟩
theorem ziH {t:List Nd}{w w':World}{v:Value}{fr:List Nat}(h:zah t=some fr)(hr:NatRow w' w.heap.size v fr)(hb:Below w.heap.size w w'):znC t w (.returned (.tuple #[v,.bool true])) w':=⟨⟨v,true,rfl,by rw[h];rfl,fun _=>⟨fr,h,hr⟩⟩,hb⟩
theorem zdD {t:List Nd}{i:Nat}{pre st:List Nat}{x:Nd}(h:zaB t 0 []=(zaB (t.drop i) i st).map fun r=>(pre++r.1,r.2))(hx:t.drop i=x :: t.drop (i+1))(hn:x.n<0∨(st.length:Int)<x.n):zah t=none:=by
 unfold zah;rw[h,hx,zaB,if_pos hn];rfl
theorem zdE {t:List Nd}{i:Nat}{pre st:List Nat}{x:Nd}(h:zaB t 0 []=(zaB (t.drop i) i st).map fun r=>(pre++r.1,r.2))(hx:t.drop i=x :: t.drop (i+1))(hn:0≤x.n)(hl:x.n≤(st.length:Int)){a:Nat}(ha:(if 0<x.n then st.getD (x.n.toNat-1) 0 else i)=a) :
 zaB t 0 []=(zaB (t.drop (i+1)) (i+1) (a :: st.drop x.n.toNat)).map fun r=>(pre++[a]++r.1,r.2):=by
 rw[h,hx,zaB,if_neg (by omega)];simp only[ha,Option.map_map]
 congr 1
 funext r
 simp
theorem zdF {t:List Nd}{pre st:List Nat}(h:zaB t 0 []=(zaB (t.drop t.length) t.length st).map fun r=>(pre++r.1,r.2)):(st.length=1→zah t=some pre)∧(st.length≠1→zah t=none):=by
 rw[List.drop_length,zaB]at h;simp only[Option.map_some,List.append_nil]at h;unfold zah;rw[h];constructor
 ·intro h1
  obtain⟨s,rfl⟩:=List.length_eq_one_iff.1 h1
  rfl
 ·intro h1
  match st,h1 with
  | [],_=>rfl
  | [s],h1=>simp at h1
  | _ :: _ :: _,_=>rfl
theorem zrt (a:Option Addr)(cap:Nat)(t:List Nd)(w:World)(hI:zaV w.heap.size w a t)(hl:t.length≤4096)(hOk:∀x ∈ t,NdOk x) :
 Calls Tryz.prog 68 #[.slice a t.length cap] w (znC t w):=by
 have HI:=Hd hI;have HOk:=Hd hOk;have hli:(t.length:Int)≤4096:=by omega
 obtain⟨i0,hi,hz0,hz1,hz2⟩:=info_parts zeR;have HI0:=Hd (And.intro hi (And.intro hz0 (And.intro hz1 hz2)));have HNum:=Hd (show i0.bytes*t.length≤281474976710656∧t.length≤maxLen from ⟨by rw[hz2];omega,by unfold maxLen;omega⟩);clear hi hz0 hz1 hz2 hI hOk
 go_enter Tryz.func68,Tryz.ntmps68
 go_wp2_with (at_make;refine wpList_make_full _ rfl _ _ _ rfl w.heap.size 3 i0 (.int .i64 0) 1 Tryz.underlying124 HI0.out.1 HI0.out.2.1 HI0.out.2.2.1 .i64 .i64 (t.length:Int) (t.length:Int) t.length rfl rfl rfl rfl HNum.out.1 HNum.out.2 (zv0 _) ?_)
 intro w1 hown1 hgrow1;have HB1:=Hd (show Below w.heap.size w w1 from (zv3 _ _).grown hgrow1 (zv0 _) (fun k hk=>by simp at hk));have HO1:=Hd hown1;have HS1:=Hd (show w.heap.size<w1.heap.size from (by rcases hown1.2 with ⟨h,_⟩|⟨q,_,_,h,_,hq,_⟩;simp at h;simp only[Value.slice.injEq,Option.some.injEq,Addr.mk.injEq,and_true]at h;rw[h.1];exact zaa hq));clear hown1 hgrow1;have HB0:=Hd (show BegInv w t (w1.alloc (.cells #[] 3)) w1.heap.size 0 0 [] [] from ⟨by simp,rfl,⟨_,HO1.out.belowed ((zv3 _ _).alloc (zv0 _) _),fun j x h=>by simp at h⟩,ze9 HB1.out.size,by have:=HS1.out;omega,zv0 _,HB1.out.alloc HB1.out.size _⟩)
 go_wp2_with fail
 go_loopg [5,15] t.length (fun m v5 v15 wy=>∃(i g' c':Nat) (pre st:List Nat),i≤t.length∧i+m=t.length∧v15=.int .i64 (i:Int)∧v5=.slice (some ⟨g',0,none⟩) st.length c'∧Hid (BegInv w t wy g' c' i pre st))
 case atStart=>exact⟨0,_,_,[],[],by omega,by omega,rfl,rfl,HB0⟩
 case round=>
  obtain⟨i,g',c',pre,st,hi,him,rfl,rfl,HG⟩:=hrel;have hstl:(st.length:Int)≤4096:=by have:=HG.out.stl;omega
  by_cases hlt:i<t.length
  ·obtain⟨b,off,ha,hbl,x0,x1,x2,x3,x4,x5⟩:=zbg HI.out hlt
   subst ha;rw[← HG.out.below.cell hbl]at x0 x1 x2 x3 x4 x5;have HDr:=Hd (show t.drop i=t[i] :: t.drop (i+1) from List.drop_eq_getElem_cons hlt);obtain⟨_,⟨hn0,hn1⟩,_⟩:=HOk.out _ (zwb hlt);generalize t[i]'hlt=x at *;obtain⟨kk,n,p,ii,s,ty⟩:=x;simp only at x0 x1 x2 x3 x4 x5 hn0 hn1
   go_upto_region 5 with fail
   have hx2:(wr.alloc (zaR ⟨kk,n,p,ii,s,ty⟩)).heap[wr.heap.size]?=some (.cells #[.int .i64 kk,.int .i64 n,.int .i64 p,.int .i64 ii,.string s,.string ty] 47 (0,0)):=zv8 _ _;have hb2:Below wr.heap.size wr (wr.alloc (zaR ⟨kk,n,p,ii,s,ty⟩)):=(zv3 _ _).alloc (zv0 _) _;simp only[zaR]at hx2 hb2;generalize wr.alloc (.cells #[.int .i64 kk,.int .i64 n,.int .i64 p,.int .i64 ii,.string s,.string ty] 47)=w2 at *;obtain⟨⟨_,d1,_⟩,_⟩:=zal hx2;have HX2:=Hd hx2;have HB2:=Hd hb2;clear x0 x1 x2 x3 x4 x5 hx2 hb2;have HZw:=Hd (show w.heap.size≤wr.heap.size∧w.heap.size≠wr.heap.size from ⟨HG.out.below.size,by obtain⟨_,ho,_⟩:=HG.out.row;rcases ho.2 with ⟨h,_⟩|⟨q,_,_,h,_,hq,_⟩;simp at h;simp only[Value.slice.injEq,Option.some.injEq,Addr.mk.injEq,and_true]at h;have:=zaa hq;omega⟩)
   by_cases hneg:n<0
   ·have t1:decide (n<0)=true:=by simpa using hneg
    go_wp2_with fail
    go_ret2
    exact zdl (zdD HG.out.rest HDr.out (.inl hneg)) (HG.out.below.trans (HB2.out.mono HG.out.below.size))
   ·have t1:decide (n<0)=false:=by simpa using hneg
    obtain⟨m,rfl⟩:∃m:Nat,n=(m:Int):=⟨n.toNat,by omega⟩
    by_cases hm:m≤st.length
    ·obtain⟨q,hq⟩:∃q,st.length=q+m:=⟨st.length-m,by omega⟩
     have t2:decide ((q:Int)<0)=false:=by simp
     go_upto_region 6 with fail
     go_upto_region 8 with fail
     obtain⟨⟨uc,hcc⟩,hcf⟩:=HG.out.cell hlt HB2.out
     go_upto_region 9 with fail
     have HM3:=Hd (HG.out.store hlt HB2.out);simp only[natV]at HM3;have hx3:(w2.setCell ⟨w.heap.size,i,none⟩ (.int .i64 (i:Int))).heap[wr.heap.size]?=some (.cells #[.int .i64 kk,.int .i64 (m:Int),.int .i64 p,.int .i64 ii,.string s,.string ty] 47 (0,0)):=(heap_setCell_other _ _ _ _ (by have:=HZw.out.2;simp;omega)).trans HX2.out;generalize w2.setCell ⟨w.heap.size,i,none⟩ (.int .i64 (i:Int))=w3 at *;clear d1 hcc hcf;obtain⟨⟨_,d1,_⟩,_⟩:=zal hx3;clear hx3
     by_cases hm0:0<m
     ·have t3:decide (0<(m:Int))=true:=by simpa using hm0
      have HSt:=Hd (zdE (a:=st.getD (m-1) 0) HG.out.rest HDr.out (by simp) (by simp;omega) (by simp[hm0]));simp only[Int.toNat_natCast]at HSt;have htop:=HM3.out.top hq hm0;have HM4:=Hd (HM3.out.store (st.getD (m-1) 0));simp only[natV]at HM4;obtain⟨hcc,hcf⟩:=HM3.out.cell;simp only[natV]at hcc;generalize st.getD (m-1) 0=av at *
      go_upto_region 11 with fail
      generalize w3.setCell ⟨w.heap.size,i,none⟩ (.int .i64 (av:Int))=w4 at *;clear hcc hcf htop d1;have HCl:=Hd (show ∀w',Below w4.heap.size w4 w'→w'.cell? ⟨w.heap.size,i,none⟩=some (.int .i64 (av:Int)) from fun w' hb=>by rw[hb.cell HM4.out.lt];exact HM4.out.cell.1);have hcl:=HM4.out.cell.1;simp only[natV]at hcl;obtain⟨hcap,hcm,hzz⟩:=HM4.out.cap_le;have hqc:q≤c':=by omega
      have HZ:=Hd hzz;have HOw:=Hd (HM4.out.node hq);clear hzz
      go_region_held3 (fun w'=>w'.cell? ⟨w.heap.size,i,none⟩=some (.int .i64 (av:Int))) (first|assumption|exact HCl.out _ ((zv3 _ _).drew)|exact HCl.out _ ((zv3 _ _).alloc (zv0 _) _)|exact HCl.out _ (((zv3 _ _).alloc (zv0 _) _).drew)|exact HCl.out _ (blw1 _ _)|exact HCl.out _ (blw2 _ _ _))
       ((refine step_append_lies _ (by rfl) _ _ _ (by rfl) w.heap.size 3 i0 (.int .i64 0) 1 8 Tryz.underlying124 HI0.out.1 HI0.out.2.1 HI0.out.2.2.1 HI0.out.2.2.2 (by rfl) (by decide) (.slice (some ⟨g',0,none⟩) q c') q ((st.drop m).reverse.map natV) (by rfl) ?_ ⟨w4.heap.size,0,none⟩ 1 1 [.int .i64 (av:Int)] (by rfl) (by rfl) (World.news_of_block (cs:=#[.int .i64 (av:Int)]) (zv8 _ _)) (by simp[Value.oneCell']) (by omega) (by unfold maxLen;omega) (by omega) ?_ (w4.heap.size+1) ?_ ?_;(next=>exact HOw.out.belowed (blw1 _ _));(next=>exact zv6 HZ.out (blw1 _ _).size);(next=>simp);intro g5 cp5 w5 hown5 hgrow5 hat5 hlt5;have HN5:=Hd (HM4.out.next hq HG.out.stl (blw1 _ _) hown5 hgrow5 (by rcases hat5 with h|h;exact .inl h;exact .inr (by rw[h];simp)) HSt.out);have hcl5:=HN5.out.lastc;clear hown5 hgrow5 hat5 hlt5))
      go_wp2_with fail
      go_roundg (t.length-(i+1))
      case measure=>omega
      case rel=>exact⟨i+1,g5,cp5,pre++[av],av :: st.drop m,by omega,by omega,by rw[zv9];rfl,by rw[List.length_cons,List.length_drop,show st.length-m=q by omega],HN5⟩
     ·have t3:decide (0<(m:Int))=false:=by simp;omega
      have HSt:=Hd (zdE (a:=i) HG.out.rest HDr.out (by simp) (by simp;omega) (by simp[hm0]));simp only[Int.toNat_natCast]at HSt
      go_upto_region 11 with fail
      clear d1;have HCl:=Hd (show ∀w',Below w3.heap.size w3 w'→w'.cell? ⟨w.heap.size,i,none⟩=some (.int .i64 (i:Int)) from fun w' hb=>by rw[hb.cell HM3.out.lt];exact HM3.out.cell.1);have hcl:=HM3.out.cell.1;simp only[natV]at hcl;obtain⟨hcap,hcm,hzz⟩:=HM3.out.cap_le;have hqc:q≤c':=by omega
      have HZ:=Hd hzz;have HOw:=Hd (HM3.out.node hq);clear hzz
      go_region_held3 (fun w'=>w'.cell? ⟨w.heap.size,i,none⟩=some (.int .i64 (i:Int))) (first|assumption|exact HCl.out _ ((zv3 _ _).drew)|exact HCl.out _ ((zv3 _ _).alloc (zv0 _) _)|exact HCl.out _ (((zv3 _ _).alloc (zv0 _) _).drew)|exact HCl.out _ (blw1 _ _)|exact HCl.out _ (blw2 _ _ _))
       ((refine step_append_lies _ (by rfl) _ _ _ (by rfl) w.heap.size 3 i0 (.int .i64 0) 1 8 Tryz.underlying124 HI0.out.1 HI0.out.2.1 HI0.out.2.2.1 HI0.out.2.2.2 (by rfl) (by decide) (.slice (some ⟨g',0,none⟩) q c') q ((st.drop m).reverse.map natV) (by rfl) ?_ ⟨w3.heap.size,0,none⟩ 1 1 [.int .i64 (i:Int)] (by rfl) (by rfl) (World.news_of_block (cs:=#[.int .i64 (i:Int)]) (zv8 _ _)) (by simp[Value.oneCell']) (by omega) (by unfold maxLen;omega) (by omega) ?_ (w3.heap.size+1) ?_ ?_;(next=>exact HOw.out.belowed (blw1 _ _));(next=>exact zv6 HZ.out (blw1 _ _).size);(next=>simp);intro g5 cp5 w5 hown5 hgrow5 hat5 hlt5;have HN5:=Hd (HM3.out.next hq HG.out.stl (blw1 _ _) hown5 hgrow5 (by rcases hat5 with h|h;exact .inl h;exact .inr (by rw[h];simp)) HSt.out);have hcl5:=HN5.out.lastc;clear hown5 hgrow5 hat5 hlt5))
      go_wp2_with fail
      go_roundg (t.length-(i+1))
      case measure=>omega
      case rel=>exact⟨i+1,g5,cp5,pre++[i],i :: st.drop m,by omega,by omega,by rw[zv9];rfl,by rw[List.length_cons,List.length_drop,show st.length-m=q by omega],HN5⟩
    ·have t2:decide ((st.length:Int)-(m:Int)<0)=true:=by simp;omega
     go_wp2_with fail
     go_ret2
     exact zdl (zdD HG.out.rest HDr.out (.inr (by simp;omega))) (HG.out.below.trans (HB2.out.mono HG.out.below.size))
  ·obtain rfl:i=t.length:=by omega
   by_cases h1:st.length=1
   ·have t2:((st.length:Int) == 1)=true:=by rw[h1];rfl
    go_wp2_with fail
    go_ret2
    exact ziH ((zdF HG.out.rest).1 h1) HG.out.done HG.out.below
   ·have t2:((st.length:Int) == 1)=false:=by simp;omega
    go_wp2_with fail
    go_ret2
    exact zdl ((zdF HG.out.rest).2 h1) HG.out.below
set_option maxHeartbeats 8000000
theorem ba1 (w:World)(o:Obj):Below w.heap.size w (w.alloc o):=(zv3 _ _).alloc (zv0 _) _
structure RBegInv (w:World)(t:List Nd)(wy:World)(f fc g cap i:Nat)(pre st:List Nat):Prop where
 rest:zaB t 0 []=(zaB (t.drop i) i st).map fun r=>(pre++r.1,r.2)
 len:pre.length=i
 row:wy.ownsRow w.heap.size 3 1 (.slice (some ⟨f,0,none⟩) i fc) i (pre.map natV)
 stk:wy.ownsRow w.heap.size 3 1 (.slice (some ⟨g,0,none⟩) st.length cap) st.length (st.reverse.map natV)
 apart:g≠f
 stl:st.length≤i
 below:Below w.heap.size w wy
theorem zfc {w:World}{B n g cap size:Nat}{T:TypeId}{xs:List Value}(h:w.ownsRow B T size (.slice (some ⟨g,0,none⟩) n cap) n xs):n≤cap∧cap≤maxLen∧B≤g∧g<w.heap.size:=by
 rcases h.2 with ⟨h,_⟩|⟨q,_,_,h',hb,hq,h1,h2,_⟩
 ·simp at h
 ·simp only[Value.slice.injEq,Option.some.injEq,Addr.mk.injEq,and_true,true_and]at h'
  exact⟨by rw[h'.2];exact h1,by rw[h'.2];exact h2,by rw[h'.1];exact hb,by rw[h'.1];exact zaa hq⟩
theorem RBegInv.top {w wy:World}{t:List Nd}{f fc g cap i:Nat}{pre st:List Nat}(h:RBegInv w t wy f fc g cap i pre st){q m:Nat}(hq:st.length=q+m)(hm:0<m):wy.cell? ⟨g,q,none⟩=some (.int .i64 ((st.getD (m-1) 0:Nat):Int)):=by
 rw[h.stk.cellAt q (by omega),List.getElem?_map,List.getElem?_reverse (by omega),show st.length-1-q=m-1 by omega,zv1 (by omega)];simp[natV,List.getD_eq_getElem?_getD,List.getElem?_eq_getElem (show m-1<st.length by omega)]
theorem RBegInv.node {w wy:World}{t:List Nd}{f fc g cap i:Nat}{pre st:List Nat}(h:RBegInv w t wy f fc g cap i pre st){q m:Nat}(hq:st.length=q+m):wy.ownsRow w.heap.size 3 1 (.slice (some ⟨g,0,none⟩) q cap) q ((st.drop m).reverse.map natV):=by
 have:=ziW h.stk (m:=q) (by omega);rw[Nat.mul_one,← List.map_take,show q=st.length-m by omega,ziU st m (by omega)]at this;rw[show q=st.length-m by omega];exact this
structure RBegMid (w:World)(t:List Nd)(wy:World)(f fc g cap i a:Nat)(pre st:List Nat):Prop where
 len:pre.length=i
 row:wy.ownsRow w.heap.size 3 1 (.slice (some ⟨f,0,none⟩) i fc) i (pre.map natV)
 stk:wy.ownsRow w.heap.size 3 1 (.slice (some ⟨g,0,none⟩) (a :: st).length cap) (a :: st).length ((a :: st).reverse.map natV)
 apart:g≠f
 below:Below w.heap.size w wy
theorem RBegInv.push {w wy w4 w5:World}{t:List Nd}{f fc g cap i a g5 cp5:Nat}{pre st:List Nat}(h:RBegInv w t wy f fc g cap i pre st){q m:Nat}(hq:st.length=q+m)(hb:Below wy.heap.size wy w4)
 (hown:w5.ownsRow w.heap.size 3 1 (.slice (some ⟨g5,0,none⟩) (q+1) cp5) (q+1) ((st.drop m).reverse.map natV++[.int .i64 (a:Int)])) (hgrow:w4.grownBy w5 (some g)) (hat:some g=some g5∨g5=w4.heap.size):RBegMid w t w5 f fc g5 cp5 i a pre (st.drop m):=by
 obtain⟨_,_,hf1,hf2⟩:=zfc h.row;obtain⟨_,_,hg1,hg2⟩:=zfc h.stk;have e:(a :: st.drop m).length=q+1:=by simp;omega
 refine⟨h.len,(h.row.belowed hb).kept hgrow (.inr (by simp[Value.ownBlock];exact fun h'=>h.apart h'.symm)),?_,?_,(h.below.trans (hb.mono h.below.size)).grown hgrow (zv6 h.below.size hb.size) (fun k hk=>by simp only[Option.some.injEq]at hk;omega)⟩
 ·rw[e,List.reverse_cons,List.map_append]
  exact hown
 ·rcases hat with h'|h'
  ·have:=zv4 h'
   rw[← this];exact h.apart
  ·have:=hb.size
   omega
theorem RBegMid.push {w wy w4 w5:World}{t:List Nd}{f fc g cap i a f5 cp5:Nat}{pre st:List Nat}(h:RBegMid w t wy f fc g cap i a pre st)(hst:st.length≤i)(hb:Below wy.heap.size wy w4)
 (hown:w5.ownsRow w.heap.size 3 1 (.slice (some ⟨f5,0,none⟩) (i+1) cp5) (i+1) (pre.map natV++[.int .i64 (a:Int)])) (hgrow:w4.grownBy w5 (some f)) (hat:some f=some f5∨f5=w4.heap.size)
 (hrest:zaB t 0 []=(zaB (t.drop (i+1)) (i+1) (a :: st)).map fun r=>(pre++[a]++r.1,r.2)):RBegInv w t w5 f5 cp5 g cap (i+1) (pre++[a]) (a :: st):=by
 obtain⟨_,_,hf1,hf2⟩:=zfc h.row;obtain⟨_,_,hg1,hg2⟩:=zfc h.stk;refine⟨hrest,by rw[List.length_append,h.len];rfl,by rw[List.map_append];exact hown,(h.stk.belowed hb).kept hgrow (.inr (by simp[Value.ownBlock];exact h.apart)),?_,by rw[List.length_cons];omega,(h.below.trans (hb.mono h.below.size)).grown hgrow (zv6 h.below.size hb.size) (fun k hk=>by simp only[Option.some.injEq]at hk;omega)⟩;rcases hat with h'|h'
 ·have:=zv4 h'
  rw[← this];exact h.apart
 ·have:=hb.size
  omega
theorem zdW (a:Option Addr)(cap:Nat)(t:List Nd)(w:World)(hI:zaV w.heap.size w a t)(hl:t.length≤4096)(hOk:∀x ∈ t,NdOk x) :
 Calls Tryz.prog 52 #[.slice a t.length cap] w (znC t w):=by
 have HI:=Hd hI;have HOk:=Hd hOk;have hli:(t.length:Int)≤4096:=by omega
 obtain⟨i0,hi,hz0,hz1,hz2⟩:=info_parts zeR;have HI0:=Hd (And.intro hi (And.intro hz0 (And.intro hz1 hz2)));clear hi hz0 hz1 hz2 hI hOk;have HB0:=Hd (show RBegInv w t ((w.alloc (.cells #[] 3)).alloc (.cells #[] 3)) w.heap.size 0 (w.heap.size+1) 0 0 [] [] from ⟨by simp,rfl,(ze9 (zv0 _)).belowed ((zv3 _ _).alloc (zv0 _) _),(by have:=ze9 (w:=w.alloc (.cells #[] 3)) (base:=w.heap.size) (T:=3) (by simp);simpa using this),by omega,zv0 _,((zv3 _ _).alloc (zv0 _) _).alloc (by simp) _⟩)
 go_enter Tryz.func52,Tryz.ntmps52
 go_wp2_with fail
 go_loopg [4,5,6] t.length (fun m v4 v5 v6 wy=>∃(i f' fc' g' c':Nat) (pre st:List Nat),i≤t.length∧i+m=t.length∧v6=.int .i64 (i:Int)∧v4=.slice (some ⟨f',0,none⟩) i fc'∧v5=.slice (some ⟨g',0,none⟩) st.length c'∧Hid (RBegInv w t wy f' fc' g' c' i pre st))
 case atStart=>exact⟨0,_,_,_,_,[],[],by omega,by omega,rfl,rfl,by simp,HB0⟩
 case round=>
  obtain⟨i,f',fc',g',c',pre,st,hi,him,rfl,rfl,rfl,HG⟩:=hrel;have hstl:(st.length:Int)≤4096:=by have:=HG.out.stl;omega
  by_cases hlt:i<t.length
  ·obtain⟨b,off,ha,hbl,x0,x1,x2,x3,x4,x5⟩:=zbg HI.out hlt
   subst ha;rw[← HG.out.below.cell hbl]at x1;clear x0 x2 x3 x4 x5;have HDr:=Hd (show t.drop i=t[i] :: t.drop (i+1) from List.drop_eq_getElem_cons hlt);obtain⟨_,⟨hn0,hn1⟩,_⟩:=HOk.out _ (zwb hlt);generalize t[i]'hlt=x at *;obtain⟨kk,n,p,ii,s,ty⟩:=x;simp only at x1 hn0 hn1
   by_cases hneg:n<0
   ·have t1:decide (n<0)=true:=by simpa using hneg
    go_wp2_with fail
    go_ret2
    exact zdl (zdD HG.out.rest HDr.out (.inl hneg)) HG.out.below
   ·have t1:decide (n<0)=false:=by simpa using hneg
    obtain⟨m,rfl⟩:∃m:Nat,n=(m:Int):=⟨n.toNat,by omega⟩
    by_cases hm:m≤st.length
    ·obtain⟨q,hq⟩:∃q,st.length=q+m:=⟨st.length-m,by omega⟩
     have hqc:q≤c':=by have:=(zfc HG.out.stk).1;omega
     have how:=HG.out.node hq;obtain⟨L,hL⟩:∃L,L=(st.drop m).reverse.map natV:=⟨_,rfl⟩
     rw[← hL]at how;have HOw:=Hd how;have HL:=Hd hL;clear how hL
     by_cases hm0:0<m
     ·have t3:decide (0<(m:Int))=true:=by simpa using hm0
      have HSt:=Hd (zdE (a:=st.getD (m-1) 0) HG.out.rest HDr.out (by simp) (by simp;omega) (by simp[hm0]));simp only[Int.toNat_natCast]at HSt;have htop:=HG.out.top hq hm0;generalize st.getD (m-1) 0=av at *
      go_wp2_with (at_builtin;go_loud (refine wpList_append_lies _ rfl _ _ _ rfl w.heap.size 3 i0 (.int .i64 0) 1 8 Tryz.underlying124 HI0.out.1 HI0.out.2.1 HI0.out.2.2.1 HI0.out.2.2.2 rfl (by decide) (.slice (some ⟨g',0,none⟩) q c') q L rfl (HOw.out.belowed (ba1 _ _)) ⟨_,0,none⟩ 1 1 [.int .i64 (av:Int)] rfl rfl (World.news_of_block (cs:=#[.int .i64 (av:Int)]) (zv8 _ _)) (by simp[Value.oneCell']) (by decide) (by unfold maxLen;omega) (by omega) (zv6 HG.out.below.size (ba1 _ _).size) _ rfl ?_))
      intro g5 cp5 w5 hown5 hgrow5 hat5 hlt5;rw[HL.out]at hown5;have HM5:=Hd (HG.out.push hq (ba1 _ _) hown5 hgrow5 (by rcases hat5 with h|h;exact .inl h;exact .inr (by rw[h];simp)));clear hown5 hgrow5 hat5 hlt5
      go_wp2_with (at_builtin;go_loud (refine wpList_append_lies _ rfl _ _ _ rfl w.heap.size 3 i0 (.int .i64 0) 1 8 Tryz.underlying124 HI0.out.1 HI0.out.2.1 HI0.out.2.2.1 HI0.out.2.2.2 rfl (by decide) (.slice (some ⟨f',0,none⟩) i fc') i (pre.map natV) rfl (HM5.out.row.belowed (ba1 _ _)) ⟨_,0,none⟩ 1 1 [.int .i64 (av:Int)] rfl rfl (World.news_of_block (cs:=#[.int .i64 (av:Int)]) (zv8 _ _)) (by simp[Value.oneCell']) (by decide) (by unfold maxLen;omega) (by omega) (zv6 HM5.out.below.size (ba1 _ _).size) _ rfl ?_))
      intro f6 cp6 w6 hown6 hgrow6 hat6 hlt6;have HN6:=Hd (HM5.out.push (by have:=HG.out.stl;rw[List.length_drop];omega) (ba1 _ _) hown6 hgrow6 (by rcases hat6 with h|h;exact .inl h;exact .inr (by rw[h];simp)) HSt.out);clear hown6 hgrow6 hat6 hlt6
      go_wp2_with fail
      go_roundg (t.length-(i+1))
      case measure=>omega
      case rel=>exact⟨i+1,f6,cp6,g5,cp5,pre++[av],av :: st.drop m,by omega,by omega,by rw[zv9];rfl,rfl,by rw[List.length_cons,List.length_drop,show st.length-m=q by omega],HN6⟩
     ·have t3:decide (0<(m:Int))=false:=by simp;omega
      have HSt:=Hd (zdE (a:=i) HG.out.rest HDr.out (by simp) (by simp;omega) (by simp[hm0]));simp only[Int.toNat_natCast]at HSt
      go_wp2_with (at_builtin;go_loud (refine wpList_append_lies _ rfl _ _ _ rfl w.heap.size 3 i0 (.int .i64 0) 1 8 Tryz.underlying124 HI0.out.1 HI0.out.2.1 HI0.out.2.2.1 HI0.out.2.2.2 rfl (by decide) (.slice (some ⟨g',0,none⟩) q c') q L rfl (HOw.out.belowed (ba1 _ _)) ⟨_,0,none⟩ 1 1 [.int .i64 (i:Int)] rfl rfl (World.news_of_block (cs:=#[.int .i64 (i:Int)]) (zv8 _ _)) (by simp[Value.oneCell']) (by decide) (by unfold maxLen;omega) (by omega) (zv6 HG.out.below.size (ba1 _ _).size) _ rfl ?_))
      intro g5 cp5 w5 hown5 hgrow5 hat5 hlt5;rw[HL.out]at hown5;have HM5:=Hd (HG.out.push hq (ba1 _ _) hown5 hgrow5 (by rcases hat5 with h|h;exact .inl h;exact .inr (by rw[h];simp)));clear hown5 hgrow5 hat5 hlt5
      go_wp2_with (at_builtin;go_loud (refine wpList_append_lies _ rfl _ _ _ rfl w.heap.size 3 i0 (.int .i64 0) 1 8 Tryz.underlying124 HI0.out.1 HI0.out.2.1 HI0.out.2.2.1 HI0.out.2.2.2 rfl (by decide) (.slice (some ⟨f',0,none⟩) i fc') i (pre.map natV) rfl (HM5.out.row.belowed (ba1 _ _)) ⟨_,0,none⟩ 1 1 [.int .i64 (i:Int)] rfl rfl (World.news_of_block (cs:=#[.int .i64 (i:Int)]) (zv8 _ _)) (by simp[Value.oneCell']) (by decide) (by unfold maxLen;omega) (by omega) (zv6 HM5.out.below.size (ba1 _ _).size) _ rfl ?_))
      intro f6 cp6 w6 hown6 hgrow6 hat6 hlt6;have HN6:=Hd (HM5.out.push (by have:=HG.out.stl;rw[List.length_drop];omega) (ba1 _ _) hown6 hgrow6 (by rcases hat6 with h|h;exact .inl h;exact .inr (by rw[h];simp)) HSt.out);clear hown6 hgrow6 hat6 hlt6
      go_wp2_with fail
      go_roundg (t.length-(i+1))
      case measure=>omega
      case rel=>exact⟨i+1,f6,cp6,g5,cp5,pre++[i],i :: st.drop m,by omega,by omega,by rw[zv9];rfl,rfl,by rw[List.length_cons,List.length_drop,show st.length-m=q by omega],HN6⟩
    ·have t2:decide ((st.length:Int)<(m:Int))=true:=by simp;omega
     go_wp2_with fail
     go_ret2
     exact zdl (zdD HG.out.rest HDr.out (.inr (by simp;omega))) HG.out.below
  ·obtain rfl:i=t.length:=by omega
   have HR:=Hd (show NatRow wr w.heap.size (.slice (some ⟨f',0,none⟩) t.length fc') pre from by unfold NatRow;rw[HG.out.len];exact HG.out.row)
   by_cases h1:st.length=1
   ·have t2:((st.length:Int) == 1)=true:=by rw[h1];rfl
    go_wp2_with fail
    go_ret2
    exact ziH ((zdF HG.out.rest).1 h1) HR.out HG.out.below
   ·have t2:((st.length:Int) == 1)=false:=by simp;omega
    go_wp2_with fail
    go_ret2
    exact zdl ((zdF HG.out.rest).2 h1) HG.out.below
end Go.Proofs.YtbbaooeioogijaaGreatDoor
