/- The reference: what is wrong with a struct, those ahead of i -/
import Derived.Test.YtbbaooeioogijaaGreatDoorMg7
namespace Go.Proofs.YtbbaooeioogijaaGreatDoor
open Go.RowKit
set_option maxRecDepth 100000
set_option maxHeartbeats 16000000
def oneV (K:List Kn)(x:Sr):Int:=match addK K x with
 | .inl c=>c
 | .inr _=>0
theorem ztN {K:List Kn}{x:Sr}{c:Int}(h:addK K x=.inl c):oneV K x=c:=by unfold oneV;rw[h]
def znA (K:List Kn)(x:Sr)(w:World)(e:Ending)(w':World):Prop:=e=.returned (.int .i64 (oneV K x))∧Below w.heap.size w w'
theorem zbO {K:List Kn}{x:Sr}{c:Int}{w w':World}(h:addK K x=.inl c)(hb:Below w.heap.size w w'):znA K x w (.returned (.int .i64 c)) w':=⟨by rw[ztN h],hb⟩
theorem zok {K:List Kn}{x:Sr}{k:Kn}{w w':World}(h:addK K x=.inr k)(hb:Below w.heap.size w w'):znA K x w (.returned (.int .i64 0)) w':=⟨by rw[oneV,h],hb⟩
theorem zrX {B:Nat}{w:World}{a:Option Addr}{L:List Sr}{mv:List Value}(h:IsSrs B w a L mv):∀(i:Nat) x v,L[i]?=some x→mv[i]?=some v→IsMems B w v x.mems:=fun i x v hx hv=>by
 obtain⟨b,off,_,_,hr⟩:=h.at_ (fun e=>by rw[e]at hx;simp at hx);exact(hr i x v hx hv).2.2
theorem zpj {B:Nat}{w:World}{L:List Sr}{mv:List Value}{x:Sr}{u:Value}(hl:mv.length=L.length)(h:∀(i:Nat) x v,L[i]?=some x→mv[i]?=some v→IsMems B w v x.mems)(hx:IsMems B w u x.mems) :
 ∀(i:Nat) y v,(L++[x])[i]?=some y→(mv++[u])[i]?=some v→IsMems B w v y.mems:=fun i y v hy hv=>by
 rcases Nat.lt_or_ge i L.length with hlt|hge
 ·rw[List.getElem?_append_left hlt]at hy
  rw[List.getElem?_append_left (by omega)]at hv;exact h i y v hy hv
 ·obtain rfl:i=L.length:=by
   have:=(List.getElem?_eq_some_iff.1 hy).1;simp at this;omega
  rw[List.getElem?_append_right (zv0 _),Nat.sub_self]at hy;rw[List.getElem?_append_right (by omega),hl,Nat.sub_self]at hv;obtain rfl:=zv4 hy;obtain rfl:=zv4 hv;exact hx
theorem zqS {K:List Kn}{L:List Sr}(hKL:K.map Kn.toSr=L)(x:ByteArray):((za3 K x.data.toList).isSome=true↔∃(j:Nat) (h:j<L.length),L[j].name=x):=by
 rw[← zhm,hKL];unfold zhn;rw[List.findIdx?_isSome,List.any_eq_true];constructor
 ·rintro⟨y,hy,h⟩
  obtain⟨j,hj,rfl⟩:=List.getElem_of_mem hy;exact⟨j,hj,zaT (by simpa using h)⟩
 ·rintro⟨j,hj,h⟩
  exact⟨L[j],zwb hj,by simp[h]⟩
theorem zsd (l:List (ByteArray × ByteArray))(i:Nat)(x:ByteArray):Lib.containsS ((l.take i).map Prod.fst) x=true↔∃(j:Nat) (h:j<l.length),j<i∧l[j].1=x:=by
 rw[Lib.containsS_iff,List.mem_map];constructor
 ·rintro⟨m,hm,rfl⟩
  obtain⟨j,hj,rfl⟩:=List.getElem_of_mem hm;rw[List.length_take]at hj;exact⟨j,by omega,by omega,by rw[List.getElem_take]⟩
 ·rintro⟨j,hj,hji,rfl⟩
  refine⟨l[j],?_,rfl⟩;rw[List.mem_take_iff_getElem];exact⟨j,by omega,rfl⟩
theorem zqT {K:List Kn}{k:Kn}(h:(za3 K k.name.data.toList).isSome=false):za3 (K++[k]) k.name.data.toList=some K.length:=by
 rw[ziz,if_pos rfl];cases hf:za3 K k.name.data.toList with
 | none=>rfl
 | some i=>rw[hf]at h;cases h
theorem zr4 (K:List Kn)(L:List Sr)(x:Sr)(n al:Nat)(hG:GoodK K)(hKL:K.map Kn.toSr=L)(h64:K.length<64)(hm64:x.mems.length≤64)(h:zbo K x.mems [] 0 1=.inr (n,al))(hn:isNameB x.name=true)(hno:(za3 K x.name.data.toList).isSome=false)
 (a2:Option Addr) (c2:Nat) (mv2:List Value) (w:World) (hS:IsSrs w.heap.size w a2 (L++[x]) mv2) :
 Calls Tryz.prog 88 #[.string (tyB (.str x.name.data.toList)),.slice a2 (L++[x]).length c2] w fun e w'=>e=.returned (.tuple #[.int .i64 (cutN (fitN n al):Nat),.int .i64 (al:Nat)])∧Below w.heap.size w w':=by
 have hG2:=zit hG (by omega) hm64 h;have hf:=zqT (K:=K) (k:={ x with size:=fitN n al,align:=al }) hno;have hl:(code (.str x.name.data.toList)).length≤65536:=by
  unfold isNameB at hn;have:x.name.size≤31:=by simp at hn;omega
  rw[code];simp;omega
 have hlen:K.length<(K++[({ x with size:=fitN n al,align:=al }:Kn)]).length:=by simp
 have hmeas:measT (K++[({ x with size:=fitN n al,align:=al }:Kn)]) (.str x.name.data.toList)=(fitN n al,al):=by
  rw[zi2 hf];simp
 have:=zei _ (L++[x]) a2 c2 mv2 hG2 (by rw[List.map_append,hKL];rfl) (K.length+1) _ (.str x.name.data.toList) (zv0 _) (by rw[zaD,zfF];exact hn) hl (by
  rw[List.take_of_length_le (by simp),thereT,hf];rfl) w hS
 rw[hmeas]at this;exact this
theorem zn1 (K:List Kn)(L:List Sr)(a:Option Addr)(cap:Nat)(mv:List Value)(hG:GoodK K)(hF:FitK K)(hKL:K.map Kn.toSr=L)(h64:K.length<64)(hA:a≠none)(x:Sr)(ms:Value)(w:World)(hS:IsSrs w.heap.size w a L mv)(hm:IsMems w.heap.size w ms x.mems) :
 Calls Tryz.prog 57 #[.agg #[.string x.name,ms],.slice a L.length cap] w (znA K x w):=by
 have HS:=Hd hS;have HMs:=Hd hm;have hLl:(L.length:Int)≤64:=by rw[← hKL,List.length_map];omega
 have HNm:=Hd (fun w=>zbI x.name w);obtain⟨am,cm,rfl,hmr⟩:=hm;have HMr:=Hd hmr;have hw0:(w.alloc (.cells #[.string x.name,.slice am x.mems.length cm] 61)).heap[w.heap.size]?=some (.cells #[.string x.name,.slice am x.mems.length cm] 61 (0,0)):=zv8 _ _;have hb0:Below w.heap.size w (w.alloc (.cells #[.string x.name,.slice am x.mems.length cm] 61)):=(zv3 _ _).alloc (zv0 _) _;have HW0:=Hd hw0;have HB0:=Hd hb0;have HKL:=Hd hKL;have HAn:=Hd hA;have HKl:=Hd h64;clear hmr hS hA;rcases hn:isNameB x.name with _|_
 ·have hfin:=Hd (zk1 (K:=K) hn)
  rw[hn]at HNm;clear hn hb0 hG hF hKL
  go_enter Tryz.func57,Tryz.ntmps57
  go_upto_region 1 with fail
  generalize w.alloc (.cells #[.string x.name,.slice am x.mems.length cm] 61)=w0 at *;obtain⟨⟨d0,d1⟩,_⟩:=zab hw0
  go_wp2_with (go_at_call 58;(with_reducible refine(HNm.out _).mono ?_);rintro e w1 ⟨rfl,hb1⟩;have HB1:=Ht HB0 hb1;clear hb1)
  go_ret;exact zbO hfin.out HB1.out
 have HN:=Hd hn;rw[hn]at HNm;have HG:=Hd hG;have HF:=Hd hF;have HFN:=Hd (zqS hKL x.name);clear hn hb0 hG hF hKL
 go_enter Tryz.func57,Tryz.ntmps57
 go_upto_region 1 with fail
 generalize w.alloc (.cells #[.string x.name,.slice am x.mems.length cm] 61)=w0 at *;have hz0:=zaa hw0;obtain⟨⟨d0,d1⟩,_⟩:=zab hw0
 go_wp2_with (go_at_call 58;(with_reducible refine(HNm.out _).mono ?_);rintro e w1 ⟨rfl,hb1⟩;have HB01:=Hd hb1;clear hb1)
 clear d0 d1 hw0
 go_loopg [5] L.length (fun g v5 wy=>∃k:Nat,k≤L.length∧k+g=L.length∧v5=.int .i64 (k:Int)∧Hid (∀j (hj:j<L.length),j<k→L[j].name≠x.name)∧Hid (Below w0.heap.size w0 wy))
 case atStart=>exact⟨0,by omega,by omega,rfl,fun j _ h=>by omega,HB01.out⟩
 case round=>
  obtain⟨k,hk,hkg,rfl,hno,HB⟩:=hrel;have hcell:=(HB.out.block _ hz0).trans HW0.out;obtain⟨⟨d0,d1⟩,_⟩:=zab hcell;have HBw:=Hd (HB0.out.trans (HB.out.mono HB0.out.size))
  by_cases hlt:k<L.length
  ·obtain⟨bb,off,ha,hbl,hrow⟩:=HS.out.at_ (fun e=>by rw[e]at hlt;simp at hlt)
   subst ha;have hlm:k<mv.length:=by rw[HS.out.len];exact hlt
   have c1:=(hrow k _ _ (zv1 hlt) (zv1 hlm)).1;rw[← HBw.out.cell hbl]at c1
   by_cases h:L[k].name=x.name
   ·have hfin:=Hd (ziJ HN.out (HFN.out.2 ⟨k,hlt,h⟩))
    have hcmp:(x.name.toList == x.name.toList)=true:=by simp
    rw[h]at c1;clear h hrow hno hlm hcell
    go_wp2_with fail
    go_quiet (fail)
    go_wp2_with fail
    go_ret;exact zbO hfin.out (zaf HBw.out _)
   ·have HN2:=Hd (show ∀j (hj:j<L.length),j<k+1→L[j].name≠x.name from fun j hj hjk=>by
     rcases Nat.lt_or_ge j k with h'|h'
     ·exact hno.out j hj h'
     ·obtain rfl:j=k:=by omega
      exact h)
    have hcmp:(L[k].name.toList == x.name.toList)=false:=by rw[zbD,decide_eq_false h]
    clear h hrow hno hlm hcell;generalize (L[k]'hlt).name=nm at *
    go_wp2_with fail
    go_quiet (fail)
    go_wp2_with fail
    go_roundg (L.length-(k+1))
    case measure=>omega
    case rel=>exact⟨k+1,by omega,by omega,by rw[zv9];rfl,HN2.out,(HB.out.trans (Below.drewN' _ _ |>.mono HB.out.size))⟩
  ·obtain rfl:k=L.length:=by omega
   have HT:=Hd (show (za3 K x.name.data.toList).isSome=false by
    rw[Bool.eq_false_iff];intro h;obtain⟨j,hj,e⟩:=HFN.out.1 h
    exact hno.out j hj hj e)
   have t3:(L.length:Int)≤(L.length:Int):=Int.le_refl _;clear hno
   by_cases hlong:64<x.mems.length
   ·have hfin:=Hd (zk0 HN.out HT.out hlong)
    have t4:(64:Int)<x.mems.length:=by omega
    clear hcell
    go_wp2_with fail
    go_ret;exact zbO hfin.out HBw.out
   have t4:(x.mems.length:Int)≤64:=by omega
   by_cases hnone:x.mems=[]
   ·have hfin:=Hd (zkY HN.out HT.out hnone)
    have t5:((x.mems.length:Int) == 0)=true:=by rw[hnone];rfl
    clear hcell hnone
    go_wp2_with fail
    go_ret;exact zbO hfin.out HBw.out
   have t5:((x.mems.length:Int) == 0)=false:=by
    have:=zwc hnone;rw[zwa];omega
   have HMM:=Hd (fun r hr=>zkZ HN.out HT.out hlong hnone (r:=r) hr);clear hcell hnone hlong
   go_wp2_with fail
   clear d0 d1 t5;have HBr:=Hd HB.out
   go_loopg [6] x.mems.length (fun g v6 wy=>∃(i n al:Nat),i≤x.mems.length∧i+g=x.mems.length∧v6=.int .i64 (i:Int)∧Hid (zbo K x.mems [] 0 1=zbo K (x.mems.drop i) ((x.mems.take i).map Prod.fst) n al)∧Hid (Below w0.heap.size w0 wy))
   case atStart=>exact⟨0,0,1,Nat.zero_le _,by omega,rfl,rfl,HBr.out⟩
   case round=>
    obtain⟨i,n,al,hi,hig,rfl,hR,HB⟩:=hrel;have hcell:=(HB.out.block _ hz0).trans HW0.out;obtain⟨⟨d0,d1⟩,_⟩:=zab hcell;have HBw:=Hd (HB0.out.trans (HB.out.mono HB0.out.size))
    by_cases hil:i<x.mems.length
    ·obtain⟨mb,moff,ha,hmb,hmrow⟩:=HMr.out (fun e=>by rw[e]at hil;simp at hil)
     subst ha;have HMw:=Hd hmrow;obtain⟨c1,c2⟩:=hmrow i _ (zv1 hil);rw[← HBw.out.cell hmb]at c1 c2;have hrest:=hR.out;rw[zjj _ i hil]at hrest;have hnext:=ziO x.mems i hil;generalize x.mems[i]'hil=mi at *;obtain⟨mn,mt⟩:=mi;simp only at c1 c2;have HRest:=Hd hrest;have HNext:=Hd hnext;have HSn:=Hd (zsd x.mems i mn);have HNm2:=Hd (fun w=>zbI mn w);clear hmrow hrest hnext hR
     go_upto_region 16 with fail
     have hm2:(wr.alloc (.cells #[.string mn,.string mt] 82)).heap[wr.heap.size]?=some (.cells #[.string mn,.string mt] 82 (0,0)):=zv8 _ _;have hb2:Below wr.heap.size wr (wr.alloc (.cells #[.string mn,.string mt] 82)):=(zv3 _ _).alloc (zv0 _) _;generalize wr.alloc (.cells #[.string mn,.string mt] 82)=w2 at *;have HM2:=Hd hm2;have hbr2:=HB.out.trans (hb2.mono HB.out.size);have HB2:=Hd hbr2;have hcell2:=(hbr2.block _ hz0).trans HW0.out;have HC2:=Hd hcell2;have HBW2:=Ht HB0 hbr2;have hz2:=zaa hm2;clear d0 d1;obtain⟨⟨d0,d1⟩,_⟩:=zab hcell2;obtain⟨⟨m0,m1⟩,_⟩:=zab hm2;clear hm2 hb2 hbr2 c1 c2 hcell hcell2;rcases hnm:isNameB mn with _|_
     ·rw[hnm]at HNm2
      have hfin:=Hd ((HMM.out _ HRest.out).1 _ (zmY hnm));clear hnm
      go_wp2_with (go_at_call 58;(with_reducible refine(HNm2.out _).mono ?_);rintro e w3 ⟨rfl,hb3⟩;have HB3:=Ht HBW2 hb3;clear hb3)
      go_ret;exact zbO hfin.out HB3.out
     rw[hnm]at HNm2;have HNt:=Hd hnm;clear hnm
     go_wp2_with (go_at_call 58;(with_reducible refine(HNm2.out _).mono ?_);rintro e w3 ⟨rfl,hb3⟩;have HB3:=Ht HB2 hb3;have HM3:=Hd ((hb3.block _ hz2).trans HM2.out);clear hb3)
     have hz3:=zaa HM3.out;have HBW3:=Hd (HB0.out.trans (HB3.out.mono HB0.out.size));have hil2:(i:Int)≤(x.mems.length:Int):=by omega
     clear d0 d1 m0 m1
     go_loopg [8] i (fun g v8 wy=>∃k:Nat,k≤i∧k+g=i∧v8=.int .i64 (k:Int)∧Hid (∀j (hj:j<x.mems.length),j<k→x.mems[j].1≠mn)∧Hid (Below w3.heap.size w3 wy))
     case atStart=>exact⟨0,by omega,by omega,rfl,fun j _ h=>by omega,zv3 _ _⟩
     case round=>
      obtain⟨k,hk,hkg,rfl,hno,HB4⟩:=hrel;have HBW4:=Hd (HBW3.out.trans (HB4.out.mono HBW3.out.size));have hcell4:=(HB4.out.block _ (zaa ((HB3.out.block _ hz0).trans HW0.out))).trans ((HB3.out.block _ hz0).trans HW0.out);obtain⟨⟨d0,d1⟩,_⟩:=zab hcell4;have hm4:=(HB4.out.block _ hz3).trans HM3.out;have HM4:=Hd hm4;obtain⟨⟨m0,m1⟩,_⟩:=zab hm4;clear hcell4 hm4
      by_cases hki:k<i
      ·have hkl:k<x.mems.length:=by omega
       have c1:=(HMw.out k _ (zv1 hkl)).1;rw[← HBW4.out.cell hmb]at c1;have hki2:(k:Int)<(x.mems.length:Int):=by omega
       by_cases h:(x.mems[k]'hkl).1=mn
       ·have hfin:=Hd ((HMM.out _ HRest.out).1 _ (zkj HNt.out (HSn.out.2 ⟨k,hkl,hki,h⟩)))
        have hcmp:(mn.toList == mn.toList)=true:=by simp
        rw[h]at c1;clear h hno
        go_wp2_with fail
        go_quiet (fail)
        go_wp2_with fail
        go_ret;exact zbO hfin.out (zaf HBW4.out _)
       ·have HN2:=Hd (show ∀j (hj:j<x.mems.length),j<k+1→x.mems[j].1≠mn from fun j hj hjk=>by
         rcases Nat.lt_or_ge j k with h'|h'
         ·exact hno.out j hj h'
         ·obtain rfl:j=k:=by omega
          exact h)
        have hcmp:((x.mems[k]'hkl).1.toList == mn.toList)=false:=by rw[zbD,decide_eq_false h]
        clear h hno;generalize (x.mems[k]'hkl).1=nm at *
        go_wp2_with fail
        go_quiet (fail)
        go_wp2_with fail
        go_roundg (i-(k+1))
        case measure=>omega
        case rel=>exact⟨k+1,by omega,by omega,by rw[zv9];rfl,HN2.out,(HB4.out.trans (Below.drewN' _ _ |>.mono HB4.out.size))⟩
      ·obtain rfl:k=i:=by omega
       have hse:Lib.containsS ((x.mems.take k).map Prod.fst) mn=false:=by
        rw[Bool.eq_false_iff];intro h;obtain⟨j,hj,hjk,e⟩:=HSn.out.1 h;exact hno.out j hj hjk e
       have HSe:=Hd hse;have HCk:=Hd (zf7 K L a cap mv HG.out HF.out HKL.out mt wr ((HS.out.below HBW4.out).mono HBW4.out.size));clear hno hse
       by_cases hc:checkS K mt=0
       ·obtain⟨t,ht⟩:∃t,tyS mt=some t:=by
         cases ht:tyS mt with
         | none=>rw[zb1 ht]at hc;simp at hc
         | some t=>exact⟨t,rfl⟩
        obtain⟨hmt,hrt,hlt'⟩:=zaW.1 ht;have HO:=Hd fun w5=>zdT t hrt w5
        rw[← hmt]at HO;rcases hob:objectT t with _|_
        ·rw[hob]at HO
         have hfin:=Hd ((HMM.out _ HRest.out).1 _ (zih HNt.out HSe.out ht hc hob));rw[hc]at HCk;clear hmt hrt hlt' ht hc hob
         go_wp2_with (go_at_call 86;(with_reducible refine HCk.out.mono ?_);rintro e w5 ⟨rfl,hb5⟩;have hm5:=(hb5.block _ (zaa HM4.out)).trans HM4.out;obtain⟨⟨p0,p1⟩,_⟩:=zab hm5;have HB5:=Ht HBW4 hb5;clear hb5 hm5)
         go_wp2_with (go_at_call 87;(with_reducible refine(HO.out _).mono ?_);rintro e w6 ⟨rfl,hw6⟩;subst w6)
         go_ret;exact zbO hfin.out HB5.out
        ·rw[hob]at HO
         have HMN:=Hd (zmX (K:=K) (m:=(mn,mt)) (l:=x.mems.drop (k+1)) (n:=n) (a:=al) HNt.out HSe.out ht hc hob);rw[hc]at HCk;clear hmt hrt hlt' ht hc hob
         go_wp2_with (go_at_call 86;(with_reducible refine HCk.out.mono ?_);rintro e w5 ⟨rfl,hb5⟩;have hm5:=(hb5.block _ (zaa HM4.out)).trans HM4.out;obtain⟨⟨p0,p1⟩,_⟩:=zab hm5;have HB5:=Ht HB4 hb5;clear hb5 hm5)
         go_wp2_with (go_at_call 87;(with_reducible refine(HO.out _).mono ?_);rintro e w6 ⟨rfl,hw6⟩;subst w6)
         go_roundg (x.mems.length-(k+1))
         case measure=>omega
         case rel=>exact⟨k+1,_,_,by omega,by omega,by rw[zv9];rfl,by rw[HNext.out,List.map_append,HRest.out,HMN.out];rfl,HB3.out.trans (HB5.out.mono HB3.out.size)⟩
       ·have hfin:=Hd ((HMM.out _ HRest.out).1 _ (zkk HNt.out HSe.out hc))
        have t3:(checkS K mt != 0)=true:=by simp[hc]
        clear hc;generalize checkS K mt=c at *
        go_wp2_with (go_at_call 86;(with_reducible refine HCk.out.mono ?_);rintro e w5 ⟨rfl,hb5⟩;have HB5:=Ht HBW4 hb5;clear hb5)
        go_ret;exact zbO hfin.out HB5.out
    ·obtain rfl:i=x.mems.length:=by omega
     have t6:(x.mems.length:Int)≤(x.mems.length:Int):=Int.le_refl _;have HR:=Hd (show zbo K x.mems [] 0 1=.inr (n,al) by rw[hR.out,List.drop_length,zbo]);clear hR;clear hcell
     go_upto_region 28 with fail
     cases a with
     | none=>exact absurd rfl HAn.out
     | some ad=>
     have HSp:=Hd (fun a2 c2 mv2 w5=>zr4 K L x n al HG.out HKL.out HKl.out (by omega) HR.out HN.out HT.out a2 c2 mv2 w5);have hxs:x.name.size≤31:=by
      have:=HN.out;unfold isNameB at this;simp at this;omega
     have hadd2:=ziI (⟨#[83]⟩++x.name) ⟨#[59]⟩ (tyB (.str x.name.data.toList)) (zgF (by simp[code])) (by rw[ByteArray.size_append];show 1+_+1≤_;omega);have hadd1:=ziI ⟨#[83]⟩ x.name _ rfl (by show 1+_≤_;omega);generalize (⟨#[83]⟩++x.name:ByteArray)=y1 at *;generalize tyB (.str x.name.data.toList)=y2 at *;obtain⟨i0,hi,hz0',hz1,hz2⟩:=info_parts zvE;have HI0:=Hd (And.intro hi (And.intro hz0' (And.intro hz1 hz2)));clear hi hz0' hz1 hz2;have hzw:w.heap.size<wr.heap.size:=zaa ((HB.out.block _ hz0).trans HW0.out);have HCl:=Hd (show ∀w',Below wr.heap.size wr w'→w'.cell? ⟨w.heap.size,0,none⟩=some (.string x.name)∧w'.cell? ⟨w.heap.size,1,none⟩=some (.slice am x.mems.length cm) from fun w' hb=>⟨by rw[hb.cell hzw];exact d0,by rw[hb.cell hzw];exact d1⟩);have HSr:=Hd (show ∀w',Below wr.heap.size wr w'→IsSrs w.heap.size w' (some ad) L mv from fun w' hb=>HS.out.below (HBw.out.trans (hb.mono HBw.out.size)));have HMm:=Hd (show ∀w',Below wr.heap.size wr w'→IsMems w.heap.size w' (.slice am x.mems.length cm) x.mems from fun w' hb=>HMs.out.below (HBw.out.trans (hb.mono HBw.out.size)) (zv0 _));have HLn:=Hd (show (zbe (zcE L mv)).length=L.length*2 by rw[zd6,zj7 HS.out.len]);have HOne:=Hd (zt8 HS.out);have hLn:L.length≤64:=by omega
     have h631:0+L.length≤maxLen:=by unfold maxLen;omega
     have h632:L.length+1≤maxLen:=by unfold maxLen;omega
     have h641:(0+L.length)*40≤140737488355328:=by omega
     have h642:(L.length+1)*40≤140737488355328:=by omega
     have HNums:=Hd (And.intro h631 (And.intro h632 (And.intro h641 h642)));clear h631 h632 h641 h642 hxs
     have HOwn:=Hd (show ∀w2 v2,Below wr.heap.size wr w2→w2.ownsRow wr.heap.size 61 2 v2 (L.length+1) (zbe (zcE (L++[x]) (mv++[.slice am x.mems.length cm])))→∃a2 c2,v2=.slice a2 (L++[x]).length c2∧IsSrs w2.heap.size w2 a2 (L++[x]) (mv++[.slice am x.mems.length cm]) from fun w2 v2 hb h=>by
      have hb0:=HBw.out.trans (hb.mono HBw.out.size)
      exact zuf h (by simp) (by simp[HS.out.len]) (zpj HS.out.len (fun i y v hy hv=>(zrX (HSr.out w2 hb) i y v hy hv).mono hb0.size) ((HMm.out w2 hb).mono hb0.size)) (fun y hy=>by
       rcases List.mem_append.1 hy with hy|hy
       ·exact HS.out.names y hy
       ·obtain rfl:=List.mem_singleton.1 hy
        exact zie HN.out))
     have hq:=Hd (show ((65536:Int)<(cutN (fitN n al):Nat)∧Hid (addK K x=.inl 3))∨(((cutN (fitN n al):Nat):Int)≤65536∧Hid (addK K x=.inr { x with size:=fitN n al,align:=al })) by
      have h1:=(HMM.out _ HR.out).2 n al rfl
      by_cases hq:65536<fitN n al
      ·rw[if_pos hq]at h1
       exact .inl ⟨by unfold cutN;omega,h1⟩
      ·rw[if_neg hq]at h1
       exact .inr ⟨by unfold cutN;omega,h1⟩)
     generalize cutN (fitN n al)=cn at *
     go_region_held3 (fun w'=>w'.cell? ⟨w.heap.size,0,none⟩=some (.string x.name)∧w'.cell? ⟨w.heap.size,1,none⟩=some (.slice am x.mems.length cm)) (first|(constructor<;>assumption)|exact HCl.out _ ((zv3 _ _).drew)|exact HCl.out _ (blw1 _ _)|exact HCl.out _ (blw2 _ _ _)|exact HCl.out _ (HB1.out.alloc HB1.out.size _))
      (first
        | (refine zbq (by rfl) _ _ _ (by rfl) wr.heap.size 61 i0 (.agg #[.string ⟨#[]⟩,.slice none 0 0]) 2 40 Tryz.underlying22 HI0.out.1 HI0.out.2.1 HI0.out.2.2.1 HI0.out.2.2.2 (by rfl) (by decide) _ 0 [] (by rfl) (zeP ?_ ?_) ad L.length cap (zbe (zcE L mv)) (by rfl) HLn.out (zrW (HSr.out _ ?_)) HOne.out HNums.out.1 HNums.out.2.2.1 ?_ ?_;(next=>first|exact zv8 _ _|exact zkC _ _ _|exact zkB _ _ _);(next=>first|exact zv0 _|exact Nat.le_succ _);(next=>first|exact blw1 _ _|exact blw2 _ _ _);(next=>first|exact(blw1 _ _).size|exact(blw2 _ _ _).size);intro v1 w1 hown1 hgrow1 _;have HO1:=Hd (show w1.ownsRow wr.heap.size 61 2 v1 L.length (zbe (zcE L mv)) by simpa using hown1);have HG1:=Hd hgrow1;have HB1:=Hd (show Below wr.heap.size wr w1 by (refine Below.grown ?_ hgrow1 ?_ ?_;(next=>first|exact blw1 _ _|exact blw2 _ _ _);(next=>first|exact(blw1 _ _).size|exact(blw2 _ _ _).size);(next=>intro q hq;simp[Value.ownBlock]at hq;omega)));clear hown1 hgrow1;obtain⟨k0,k1⟩:=HCl.out _ HB1.out)
        | (refine zbq (by rfl) _ _ _ (by rfl) wr.heap.size 61 i0 (.agg #[.string ⟨#[]⟩,.slice none 0 0]) 2 40 Tryz.underlying22 HI0.out.1 HI0.out.2.1 HI0.out.2.2.1 HI0.out.2.2.2 (by rfl) (by decide) v1 L.length (zbe (zcE L mv)) (by rfl) ?_ ⟨w1.heap.size,0,none⟩ 1 1 [.string x.name,.slice am x.mems.length cm] (by rfl) (by rfl) (zp3 (T:=61) ?_) ?_ HNums.out.2.1 HNums.out.2.2.2 ?_ ?_;(next=>exact HO1.out.alloc _);(next=>exact zv8 _ _);(next=>simp[Value.oneCell']);(next=>have:=HB1.out.size;simp;omega);intro v2 w2 hown2 hgrow2 _;have HB2:=Hd (show Below wr.heap.size wr w2 by (refine Below.grown ?_ hgrow2 ?_ ?_;(next=>first|exact HB1.out|exact HB1.out.alloc HB1.out.size _);(next=>have:=HB1.out.size;simp;try omega);(next=>intro q hq;exact(HO1.out.lt q hq).1)));have HO2:=Hd (show w2.ownsRow wr.heap.size 61 2 v2 (L.length+1) (zbe (zcE (L++[x]) (mv++[.slice am x.mems.length cm]))) by rw[zfD HS.out.len,zcX];exact hown2);clear hown2 hgrow2;obtain⟨k2,k3⟩:=HCl.out _ HB2.out)
        | (refine zbq (by rfl) _ _ _ (by rfl) wr.heap.size 61 i0 (.agg #[.string ⟨#[]⟩,.slice none 0 0]) 2 40 Tryz.underlying22 HI0.out.1 HI0.out.2.1 HI0.out.2.2.1 HI0.out.2.2.2 (by rfl) (by decide) v1 L.length (zbe (zcE L mv)) (by rfl) ?_ ⟨wr.heap.size+1,0,none⟩ 1 1 [.string x.name,.slice am x.mems.length cm] (by rfl) (by rfl) (zp3 (T:=61) ?_) ?_ HNums.out.2.1 HNums.out.2.2.2 ?_ ?_;(next=>exact HO1.out);(next=>exact(HG1.out.block _ (by first|(simp;done)|(simp;omega)) (by simp[Value.ownBlock])).trans (zkB _ _ _));(next=>simp[Value.oneCell']);(next=>have:=HB1.out.size;simp;omega);intro v2 w2 hown2 hgrow2 _;have HB2:=Hd (show Below wr.heap.size wr w2 by (refine Below.grown ?_ hgrow2 ?_ ?_;(next=>first|exact HB1.out|exact HB1.out.alloc HB1.out.size _);(next=>have:=HB1.out.size;simp;try omega);(next=>intro q hq;exact(HO1.out.lt q hq).1)));have HO2:=Hd (show w2.ownsRow wr.heap.size 61 2 v2 (L.length+1) (zbe (zcE (L++[x]) (mv++[.slice am x.mems.length cm]))) by rw[zfD HS.out.len,zcX];exact hown2);clear hown2 hgrow2;obtain⟨k2,k3⟩:=HCl.out _ HB2.out)
        | (refine zbq (by rfl) _ _ _ (by rfl) wr.heap.size 61 i0 (.agg #[.string ⟨#[]⟩,.slice none 0 0]) 2 40 Tryz.underlying22 HI0.out.1 HI0.out.2.1 HI0.out.2.2.1 HI0.out.2.2.2 (by rfl) (by decide) v1 L.length (zbe (zcE L mv)) (by rfl) ?_ ⟨wr.heap.size,0,none⟩ 1 1 [.string x.name,.slice am x.mems.length cm] (by rfl) (by rfl) (zp3 (T:=61) ?_) ?_ HNums.out.2.1 HNums.out.2.2.2 ?_ ?_;(next=>exact HO1.out);(next=>exact(HG1.out.block _ (by first|(simp;done)|(simp;omega)) (by simp[Value.ownBlock])).trans (zkC _ _ _));(next=>simp[Value.oneCell']);(next=>have:=HB1.out.size;simp;omega);intro v2 w2 hown2 hgrow2 _;have HB2:=Hd (show Below wr.heap.size wr w2 by (refine Below.grown ?_ hgrow2 ?_ ?_;(next=>first|exact HB1.out|exact HB1.out.alloc HB1.out.size _);(next=>have:=HB1.out.size;simp;try omega);(next=>intro q hq;exact(HO1.out.lt q hq).1)));have HO2:=Hd (show w2.ownsRow wr.heap.size 61 2 v2 (L.length+1) (zbe (zcE (L++[x]) (mv++[.slice am x.mems.length cm]))) by rw[zfD HS.out.len,zcX];exact hown2);clear hown2 hgrow2;obtain⟨k2,k3⟩:=HCl.out _ HB2.out)
        | (go_at_call 88;obtain⟨a2,c2,rfl,hS2⟩:=HOwn.out _ _ HB2.out HO2.out;have HC2:=Hd (HSp.out a2 c2 _ _ hS2);clear hS2;(with_reducible refine HC2.out.mono ?_);rintro e w5 ⟨rfl,hb5⟩;have HB5:=Ht HB2 hb5;clear hb5;obtain⟨k4,k5⟩:=HCl.out _ HB5.out))
     all_goals
      have HBE:=Hd (HBw.out.trans (HB5.out.mono HBw.out.size));rcases hq.out with ⟨t4,hfin⟩|⟨t4,hfin⟩
      ·go_wp2_with fail
       go_ret;exact zbO hfin.out HBE.out
      ·go_wp2_with fail
       go_ret;exact zok hfin.out HBE.out
set_option maxHeartbeats 4000000
def za0 (L:List Sr):Int × Int:=match zbh L with
 | .inl (i,c)=>(((i:Nat):Int),c)
 | .inr _=>(0,0)
theorem zeo {L:List Sr}{i:Nat}{c:Int}(h:zbh L=.inl (i,c)):za0 L=(((i:Nat):Int),c):=by unfold za0;rw[h]
theorem zhp {L:List Sr}{K:List Kn}(h:zbh L=.inr K):za0 L=(0,0):=by unfold za0;rw[h]
def zb2 (L:List Sr)(w:World)(e:Ending)(w':World):Prop:=e=.returned (.agg #[.int .i64 (za0 L).1,.int .i64 (za0 L).2])∧Below w.heap.size w w'
theorem zed {L:List Sr}{x y:Int}{w w':World}(h:za0 L=(x,y))(hb:Below w.heap.size w w'):zb2 L w (.returned (.agg #[.int .i64 x,.int .i64 y])) w':=⟨by rw[h],hb⟩
structure StInv (w1:World)(L:List Sr)(wy:World)(k:Nat)(K:List Kn):Prop where
 rest:zbv [] L=zbv K (L.drop k)
 knows:KnowsK K (L.take k)
 below:Below w1.heap.size w1 wy
theorem StInv.len {w1 wy:World}{L:List Sr}{k:Nat}{K:List Kn}(h:StInv w1 L wy k K)(hk:k≤L.length):K.length=k:=by
 have:=congrArg List.length h.knows.list;rw[List.length_map,List.length_take]at this;omega
theorem IsSrs.take {B:Nat}{w:World}{a:Option Addr}{L:List Sr}{mv:List Value}(h:IsSrs B w a L mv)(k:Nat):IsSrs B w a (L.take k) (mv.take k):=by
 refine⟨by rw[List.length_take,List.length_take,h.len],fun hn=>?_,fun x hx=>h.names x (List.mem_of_mem_take hx)⟩;obtain⟨b,off,e,hlt,hr⟩:=h.at_ (fun e=>hn (by rw[e];simp));refine⟨b,off,e,hlt,fun i x v hx hv=>hr i x v ?_ ?_⟩
 ·rw[List.getElem?_take]at hx;split at hx;exact hx;cases hx
 ·rw[List.getElem?_take]at hv;split at hv;exact hv;cases hv
theorem ze6 (a:Option Addr)(cap:Nat)(L:List Sr)(mv:List Value)(w:World)(hS:IsSrs w.heap.size w a L mv)(hcap:L.length≤cap)(hcm:cap≤maxLen) :
 Calls Tryz.prog 37 #[.slice a L.length cap] w (zb2 L w):=by
 have HS:=Hd hS;have hci:(cap:Int)≤9223372036854775807:=by unfold maxLen at hcm;omega
 have hLl:(L.length:Int)≤(cap:Int):=by omega
 clear hS;have hat:(w.alloc (.cells #[.int .i64 0,.int .i64 0] 32)).heap[w.heap.size]?=some (.cells #[.int .i64 0,.int .i64 0] 32 (0,0)):=zv8 _ _;have hb1:Below w.heap.size w (w.alloc (.cells #[.int .i64 0,.int .i64 0] 32)):=(zv3 _ _).alloc (zv0 _) _
 go_enter Tryz.func37,Tryz.ntmps37
 go_upto_region 1 with fail
 generalize w.alloc (.cells #[.int .i64 0,.int .i64 0] 32)=w1 at *;have HAt:=Hd hat;have HB1:=Hd hb1;have hz1:=zaa hat
 by_cases h64:64<L.length
 ·have hfin:=Hd (zeo (show zbh L=.inl (0,3) by unfold zbh;rw[if_pos h64]))
  have t1:(64:Int)<L.length:=by omega
  obtain⟨⟨d0,d1⟩,fd⟩:=zab hat;have fd0:=fd 0;have fd1:=fd 1;clear fd hat hb1 h64
  go_wp2_with fail
  exact bodyPost_ret (v:=.agg #[.int .i64 ((0:Nat):Int),.int .i64 3]) (by simp[results,Tryz.results37,go_sem,d0,d1]) rfl (zed hfin.out (za5 HB1.out _ _))
 have t1:(L.length:Int)≤64:=by omega
 have hL:=Hd (show zbh L=zbv [] L by unfold zbh;rw[if_neg h64]);clear hat hb1
 go_wp2_with fail
 go_loopg [3] L.length (fun g v3 wy=>∃(k:Nat) (K:List Kn),k≤L.length∧k+g=L.length∧v3=.int .i64 (k:Int)∧Hid (StInv w1 L wy k K))
 case atStart=>exact⟨0,[],by omega,by omega,rfl,⟨rfl,zky,zv3 _ _⟩⟩
 case round=>
  obtain⟨k,K,hk,hkg,rfl,HI⟩:=hrel;have HBw:=Hd (HB1.out.trans (HI.out.below.mono HB1.out.size));have hat:wr.heap[w.heap.size]?=some (.cells #[.int .i64 0,.int .i64 0] 32 (0,0)):=(HI.out.below.block _ hz1).trans HAt.out;have HAr:=Hd hat
  by_cases hlt:k<L.length
  ·obtain⟨bb,off,ha,hbl,hrow⟩:=HS.out.at_ (fun e=>by rw[e]at hlt;simp at hlt)
   have hlm:k<mv.length:=by rw[HS.out.len];exact hlt
   obtain⟨e1,e2,hms⟩:=hrow k _ _ (zv1 hlt) (zv1 hlm);rw[← HBw.out.cell hbl]at e1 e2;have hx:=zjj L k hlt;have htk:=ziO L k hlt;generalize L[k]'hlt=x at *;generalize mv[k]'hlm=v at *;have HX:=Hd hx;have HTk:=Hd htk
   have HC:=Hd (show ∀w',Below wr.heap.size wr w'→Calls Tryz.prog 57 #[.agg #[.string x.name,v],.slice a k cap] w' (znA K x w') from fun w' hb=>by
    have hb0:=HBw.out.trans (hb.mono HBw.out.size);have:=zn1 K (L.take k) a cap (mv.take k) HI.out.knows.good HI.out.knows.fit HI.out.knows.list (by have:=HI.out.len hk;omega) (by rw[ha];simp) x v w' (((HS.out.below hb0).take k).mono hb0.size) ((hms.below hb0 (zv0 _)).mono hb0.size);rw[List.length_take,Nat.min_eq_left hk]at this
    exact this)
   have hkc:(k:Int)≤(cap:Int):=by omega
   have hkl:(k:Int)<(L.length:Int):=by omega
   subst ha;clear hx htk hrow hlm hms hat;have HEnd:=Hd (show ∀w3,Below wr.heap.size wr w3→Below w.heap.size w w3 from fun w3 hb=>HBw.out.trans (hb.mono HBw.out.size));rcases had:addK K x with c|k'
   ·have hfin:=Hd (zeo (show zbh L=.inl (k,c) by rw[hL.out,HI.out.rest,HX.out,zbv,had];simp only;rw[HI.out.len hk]))
    have hov:=ztN had;have hc0:=zml had;have HCw:=Hd (show ∀w',Below wr.heap.size wr w'→Calls Tryz.prog 57 #[.agg #[.string x.name,v],.slice (some ⟨bb,off,none⟩) k cap] w' (fun e w''=>e=.returned (.int .i64 c)∧Below w'.heap.size w' w'') from fun w' hb=>(HC.out w' hb).mono fun e w'' h=>by rw[← hov];exact h);have t4:(c != 0)=true:=by simp[hc0]
    clear hov hc0 had
    go_wp2_with fail
    go_region_held3 (fun w'=>w'.cell? ⟨bb,off+k*2,none⟩=some (.string x.name)∧w'.cell? ⟨bb,off+k*2+1,none⟩=some v) (first|(constructor<;>assumption)|go_keep)
     ((go_at_call 57;(with_reducible refine(HCw.out _ ((zv3 _ _).drew)).mono ?_);rintro e w3 ⟨rfl,hb3⟩;have hb4:=((zv3 wr.heap.size wr).drew).trans hb3;have HB3:=Hd hb4;have k0:=(hb4.cell (p:=⟨bb,off+k*2,none⟩) (zv5 hbl HBw.out.size)).trans e1;have k1:=(hb4.cell (p:=⟨bb,off+k*2+1,none⟩) (zv5 hbl HBw.out.size)).trans e2;clear hb3 hb4))
    have h31:=(HB3.out.block _ (zaa HAr.out)).trans HAr.out;obtain⟨⟨d0,d1⟩,fd⟩:=zab h31;have fd0:=fd 0;have fd1:=fd 1;clear fd h31
    go_wp2_with fail
    exact bodyPost_ret (v:=.agg #[.int .i64 (k:Int),.int .i64 c]) (by simp[results,Tryz.results37,go_sem,d0,d1]) rfl (zed hfin.out (za5 (HEnd.out _ HB3.out) _ _))
   ·have hov:oneV K x=0:=by rw[oneV,had]
    have HN:=Hd (show ∀w3,Below wr.heap.size wr w3→StInv w1 L w3 (k+1) (K++[k']) from fun w3 hb=>⟨by rw[HI.out.rest,HX.out,zbv,had],by rw[HTk.out];exact zio HI.out.knows (by have:=HI.out.len hk;omega) had,HI.out.below.trans (hb.mono HI.out.below.size)⟩);have HCw:=Hd (show ∀w',Below wr.heap.size wr w'→Calls Tryz.prog 57 #[.agg #[.string x.name,v],.slice (some ⟨bb,off,none⟩) k cap] w' (fun e w''=>e=.returned (.int .i64 0)∧Below w'.heap.size w' w'') from fun w' hb=>(HC.out w' hb).mono fun e w'' h=>by rw[← hov];exact h);clear hov had
    go_wp2_with fail
    go_region_held3 (fun w'=>w'.cell? ⟨bb,off+k*2,none⟩=some (.string x.name)∧w'.cell? ⟨bb,off+k*2+1,none⟩=some v) (first|(constructor<;>assumption)|go_keep)
     ((go_at_call 57;(with_reducible refine(HCw.out _ ((zv3 _ _).drew)).mono ?_);rintro e w3 ⟨rfl,hb3⟩;have hb4:=((zv3 wr.heap.size wr).drew).trans hb3;have HB3:=Hd hb4;have k0:=(hb4.cell (p:=⟨bb,off+k*2,none⟩) (zv5 hbl HBw.out.size)).trans e1;have k1:=(hb4.cell (p:=⟨bb,off+k*2+1,none⟩) (zv5 hbl HBw.out.size)).trans e2;clear hb3 hb4))
    go_wp2_with fail
    go_roundg (L.length-(k+1))
    case measure=>omega
    case rel=>exact⟨k+1,K++[k'],by omega,by omega,by rw[zv9];rfl,HN.out _ HB3.out⟩
  ·obtain rfl:k=L.length:=by omega
   have t3:(L.length:Int)≤(L.length:Int):=Int.le_refl _;have hfin:=Hd (zhp (show zbh L=.inr K by rw[hL.out,HI.out.rest,List.drop_length,zbv]));obtain⟨⟨d0,d1⟩,fd⟩:=zab hat;have fd0:=fd 0;have fd1:=fd 1;clear fd hat
   go_wp2_with fail
   exact bodyPost_ret (v:=.agg #[.int .i64 0,.int .i64 0]) (by simp[results,Tryz.results37,go_sem,d0,d1]) rfl (zed hfin.out (za5 HBw.out _ _))
set_option maxHeartbeats 4000000
def checkN (L:List Sr)(s:ByteArray):Int:=match zbh L with
 | .inl (_,c)=>c
 | .inr K=>checkS K s
theorem ziF {L:List Sr}{s:ByteArray}{i:Nat}{c:Int}(h:zbh L=.inl (i,c)):checkN L s=c:=by unfold checkN;rw[h]
theorem zhw {L:List Sr}{s:ByteArray}{K:List Kn}(h:zbh L=.inr K):checkN L s=checkS K s:=by unfold checkN;rw[h]
theorem zkx:∀(l:List Sr) (K:List Kn) {i:Nat} {c:Int},zbv K l=.inl (i,c)→c≠0
 | [],_,_,_,h=>by rw[zbv]at h;cases h
 | x :: l,K,i,c,h=>by
   rw[zbv]at h
   split at h
   ·rename_i e he
    have:=Sum.inl.inj h;have h2:e=c:=(Prod.mk.inj this).2;subst h2;exact zml he
   ·exact zkx l _ h
theorem zhb {L:List Sr}{i:Nat}{c:Int}(h:zbh L=.inl (i,c)):c≠0:=by
 unfold zbh at h
 split at h
 ·have h2:(3:Int)=c:=(Prod.mk.inj (Sum.inl.inj h)).2
  subst h2;decide
 ·exact zkx _ _ h
theorem zdh (w:World)(x y:Value):(w.alloc (.cells #[x,y] 32)).heap[w.heap.size]?=some (.cells #[x,y] 32 (0,0)):=zv8 _ _
theorem zb4 (s:ByteArray)(a:Option Addr)(cap:Nat)(L:List Sr)(mv:List Value)(w:World)(hS:IsSrs w.heap.size w a L mv)(hcap:L.length≤cap)(hcm:cap≤maxLen) :
 Calls Tryz.prog 60 #[.string s,.slice a L.length cap] w fun e w'=>e=.returned (.int .i64 (checkN L s))∧Below w.heap.size w w':=by
 have HS:=Hd hS;have HSt:=Hd (ze6 a cap L mv w hS hcap hcm);clear hS;rcases hl:zbh L with ⟨i,c⟩|K
 ·have hf:=zeo hl
  have hc0:=zhb hl;have hfin:=Hd (ziF (s:=s) hl);have HSt2:=Hd (show Calls Tryz.prog 37 #[.slice a L.length cap] w (fun e w'=>e=.returned (.agg #[.int .i64 (i:Int),.int .i64 c])∧Below w.heap.size w w') from HSt.out.mono fun e w' h=>by unfold zb2 at h;rw[hf]at h;exact h);have t1:(c != 0)=true:=by simp[hc0]
  clear hf hc0 hl
  go_enter Tryz.func60,Tryz.ntmps60
  go_wp2_with (go_at_call 37;(with_reducible refine HSt2.out.mono ?_);rintro e w1 ⟨rfl,hb1⟩;obtain⟨⟨d0,d1⟩,_⟩:=zab (zdh w1 (.int .i64 (i:Int)) (.int .i64 c));have HB1:=Hd (hb1.alloc hb1.size (.cells #[.int .i64 (i:Int),.int .i64 c] 32));clear hb1)
  go_ret;exact⟨by rw[hfin.out];rfl,HB1.out⟩
 ·have hk:=zkw hl
  have hf:=zhp hl;have hfin:=Hd (zhw (s:=s) hl);have HSt2:=Hd (show Calls Tryz.prog 37 #[.slice a L.length cap] w (fun e w'=>e=.returned (.agg #[.int .i64 0,.int .i64 0])∧Below w.heap.size w w') from HSt.out.mono fun e w' h=>by unfold zb2 at h;rw[hf]at h;exact h);have HCk:=Hd (fun w1 (hb:Below w.heap.size w w1)=>zf7 K L a cap mv hk.good hk.fit hk.list s w1 ((HS.out.below hb).mono hb.size));clear hf hk hl;generalize checkS K s=c at *
  go_enter Tryz.func60,Tryz.ntmps60
  go_wp2_with (go_at_call 37;(with_reducible refine HSt2.out.mono ?_);rintro e w1 ⟨rfl,hb1⟩;obtain⟨⟨d0,d1⟩,_⟩:=zab (zdh w1 (.int .i64 0) (.int .i64 0));have hb2:=hb1.alloc hb1.size (.cells #[.int .i64 0,.int .i64 0] 32);have HB1:=Hd hb2;have HC1:=Hd (HCk.out _ hb2);clear hb1 hb2)
  go_wp2_with (go_at_call 86;(with_reducible refine HC1.out.mono ?_);rintro e w3 ⟨rfl,hb3⟩;have HB3:=Ht HB1 hb3;clear hb3)
  go_ret;exact⟨by rw[hfin.out];rfl,HB3.out⟩
theorem zeY (s:ByteArray)(a:Option Addr)(cap:Nat)(L:List Sr)(mv:List Value)(w:World)(hE:TE w)(hS:IsSrs w.heap.size w a L mv) :
 Calls Tryz.prog 81 #[.string s,.slice a L.length cap] w fun e w'=>e=.returned (.int .i64 (checkN L s))∧Below w.heap.size w w':=by
 have HE:=Hd hE;have HL:=Hd (zm4 a cap L mv w hE hS);clear hE hS
 go_enter Tryz.func81,Tryz.ntmps81
 go_wp2_with (go_at_call 79;(with_reducible refine HL.out.mono ?_))
 intro e w1 hend;obtain⟨hb1,⟨i,c,hl,hc,rfl⟩|⟨K,b,mb,lv,sv,av,hl,rfl,hF,hkn⟩⟩:=hend
 ·have hfin:=Hd (ziF (s:=s) hl)
  have t1:(c != 0)=true:=by simp[hc]
  have HB1:=Hd hb1;clear hl hc hb1
  go_wp2_with fail
  go_ret;exact⟨by rw[hfin.out];rfl,HB1.out.alloc HB1.out.size _⟩
 ·have HB1:=Hd hb1
  have hg:Below (w1.heap.size) w1 (w1.alloc (.cells #[.int .i64 0,.int .i64 0] 32)):=(zv3 _ _).alloc (zv0 _) _;have HG:=Hd (hb1.trans (hg.mono hb1.size));have HC:=Hd (zjm s _ (HE.out.below HG.out) (hkn.below hg) hF);have hfin:=Hd (zhw (s:=s) hl);clear hkn hb1 hg hF hl;generalize checkS K s=c at *
  go_wp2_with (go_at_call 111;(with_reducible refine HC.out.mono ?_);rintro e w5 ⟨rfl,hb5⟩;have HB5:=Ht HG hb5;clear hb5)
  go_ret;exact⟨by rw[hfin.out];rfl,HB5.out⟩
theorem znP (a:Option Addr)(cap:Nat)(L:List Sr)(mv:List Value)(w:World)(hE:TE w)(hS:IsSrs w.heap.size w a L mv) :
 Calls Tryz.prog 54 #[.slice a L.length cap] w (zb2 L w):=by
 have HE:=Hd hE;have HS:=Hd hS;clear hE hS;have hat:=zdh w (.int .i64 0) (.int .i64 0);have hb1:Below w.heap.size w (w.alloc (.cells #[.int .i64 0,.int .i64 0] 32)):=(zv3 _ _).alloc (zv0 _) _
 go_enter Tryz.func54,Tryz.ntmps54
 go_upto_region 1 with fail
 generalize w.alloc (.cells #[.int .i64 0,.int .i64 0] 32)=w0 at *;have HAt:=Hd hat;have HB0:=Hd hb1;have hz0:=zaa hat
 have HL0:=Hd (show Calls Tryz.prog 79 #[.slice a L.length cap] w0 (fun e w'=>(∃p:Value,e=.returned (.tuple #[p,.agg #[.int .i64 (za0 L).1,.int .i64 (za0 L).2]]))∧Below w0.heap.size w0 w') from (zm4 a cap L mv w0 (HE.out.below hb1) ((HS.out.below hb1).mono hb1.size)).mono fun e w' h=>by
  obtain⟨hb,⟨i,c,hl,hc,rfl⟩|⟨K,b,mb,lv,sv,av,hl,rfl,hF,hkn⟩⟩:=h
  ·exact⟨⟨_,by rw[zeo hl]⟩,hb⟩
  ·exact⟨⟨_,by rw[zhp hl]⟩,hb⟩)
 have HF:=Hd (show za0 L=((za0 L).1,(za0 L).2) from rfl);generalize (za0 L).1=x at *;generalize (za0 L).2=c at *;clear hat hb1
 go_upto_region 2 with (go_at_call 79;(with_reducible refine HL0.out.mono ?_);rintro e w1 ⟨⟨p,rfl⟩,hb1⟩;have HB1:=Hd hb1;clear hb1)
 have hb2:Below w1.heap.size w1 (w1.alloc (.cells #[.int .i64 x,.int .i64 c] 32)):=(zv3 _ _).alloc (zv0 _) _;have hk:=zdh w1 (.int .i64 x) (.int .i64 c);generalize w1.alloc (.cells #[.int .i64 x,.int .i64 c] 32)=w2 at *;obtain⟨⟨k0,k1⟩,_⟩:=zab hk;have h31:=(HB1.out.block _ hz0).trans HAt.out;obtain⟨⟨d0,d1⟩,fd⟩:=zab ((hb2.block _ (zaa h31)).trans h31);have fd0:=fd 0;have fd1:=fd 1;have HB2:=Hd (HB0.out.trans ((HB1.out.trans (hb2.mono HB1.out.size)).mono HB0.out.size));clear fd h31 hb2 hk
 go_wp2_with fail
 exact bodyPost_ret (v:=.agg #[.int .i64 x,.int .i64 c]) (by simp[results,Tryz.results54,go_sem,d0,d1]) rfl (zed HF.out (za5 HB2.out _ _))
theorem zoR (s:ByteArray):checkN [] s=checkS [] s:=zhw rfl
theorem zlA (s:ByteArray)(w:World):Calls Tryz.prog 60 #[.string s,.slice none 0 0] w fun e w'=>e=.returned (.int .i64 (checkS [] s))∧Below w.heap.size w w':=by
 have:=zb4 s none 0 [] [] w ⟨rfl,(fun h=>absurd rfl h),(fun x hx=>by cases hx)⟩ (zv0 _) (Nat.zero_le _);rw[zoR]at this;exact this
set_option maxHeartbeats 8000000
theorem zq4 (s:ByteArray)(l:List UInt8):(s.toList == l)=decide (s.data.toList=l):=by
 rw[Lib.toList_data,Bool.eq_iff_iff,beq_iff_eq,decide_eq_true_iff]
theorem zbl {s:ByteArray}{l m:List UInt8}{b:Bool}(h:s.data.toList=l)(hb:decide (l=m)=b):(s.toList == m)=b:=by rw[zq4,h];exact hb
theorem za2 {s:ByteArray}{m:List UInt8}(h:s.data.toList≠m):(s.toList == m)=false:=by rw[zq4];exact decide_eq_false h
def zil (l:List UInt8):Int:=
 if l=[124,124] then 4 else
 if l=[38,38] then 5 else
 if l=[124] then 6 else
 if l=[94] then 7 else
 if l=[38] then 8 else
 if l=[61,61] then 9 else
 if l=[33,61] then 9 else
 if l=[60] then 10 else
 if l=[62] then 10 else
 if l=[60,61] then 10 else
 if l=[62,61] then 10 else
 if l=[60,60] then 11 else
 if l=[62,62] then 11 else
 if l=[43] then 12 else
 if l=[45] then 12 else
 if l=[42] then 13 else
 if l=[47] then 13 else
 if l=[37] then 13 else
 0
def levelN (s:ByteArray):Int:=zil s.data.toList
theorem lits (l:List UInt8):l=[124,124]∨l=[38,38]∨l=[124]∨l=[94]∨l=[38]∨l=[61,61]∨l=[33,61]∨l=[60]∨l=[62]∨l=[60,61]∨l=[62,61]∨l=[60,60]∨l=[62,62]∨l=[43]∨l=[45]∨l=[42]∨l=[47]∨l=[37]∨(l≠[124,124]∧l≠[38,38]∧l≠[124]∧l≠[94]∧l≠[38]∧l≠[61,61]∧l≠[33,61]∧l≠[60]∧l≠[62]∧l≠[60,61]∧l≠[62,61]∧l≠[60,60]∧l≠[62,62]∧l≠[43]∧l≠[45]∧l≠[42]∧l≠[47]∧l≠[37]):=by
 by_cases h0:l=[124,124]
 ·exact .inl h0
 by_cases h1:l=[38,38]
 ·exact .inr (.inl h1)
 by_cases h2:l=[124]
 ·exact .inr (.inr (.inl h2))
 by_cases h3:l=[94]
 ·exact .inr (.inr (.inr (.inl h3)))
 by_cases h4:l=[38]
 ·exact .inr (.inr (.inr (.inr (.inl h4))))
 by_cases h5:l=[61,61]
 ·exact .inr (.inr (.inr (.inr (.inr (.inl h5)))))
 by_cases h6:l=[33,61]
 ·exact .inr (.inr (.inr (.inr (.inr (.inr (.inl h6))))))
 by_cases h7:l=[60]
 ·exact .inr (.inr (.inr (.inr (.inr (.inr (.inr (.inl h7)))))))
 by_cases h8:l=[62]
 ·exact .inr (.inr (.inr (.inr (.inr (.inr (.inr (.inr (.inl h8))))))))
 by_cases h9:l=[60,61]
 ·exact .inr (.inr (.inr (.inr (.inr (.inr (.inr (.inr (.inr (.inl h9)))))))))
 by_cases h10:l=[62,61]
 ·exact .inr (.inr (.inr (.inr (.inr (.inr (.inr (.inr (.inr (.inr (.inl h10))))))))))
 by_cases h11:l=[60,60]
 ·exact .inr (.inr (.inr (.inr (.inr (.inr (.inr (.inr (.inr (.inr (.inr (.inl h11)))))))))))
 by_cases h12:l=[62,62]
 ·exact .inr (.inr (.inr (.inr (.inr (.inr (.inr (.inr (.inr (.inr (.inr (.inr (.inl h12))))))))))))
 by_cases h13:l=[43]
 ·exact .inr (.inr (.inr (.inr (.inr (.inr (.inr (.inr (.inr (.inr (.inr (.inr (.inr (.inl h13)))))))))))))
 by_cases h14:l=[45]
 ·exact .inr (.inr (.inr (.inr (.inr (.inr (.inr (.inr (.inr (.inr (.inr (.inr (.inr (.inr (.inl h14))))))))))))))
 by_cases h15:l=[42]
 ·exact .inr (.inr (.inr (.inr (.inr (.inr (.inr (.inr (.inr (.inr (.inr (.inr (.inr (.inr (.inr (.inl h15)))))))))))))))
 by_cases h16:l=[47]
 ·exact .inr (.inr (.inr (.inr (.inr (.inr (.inr (.inr (.inr (.inr (.inr (.inr (.inr (.inr (.inr (.inr (.inl h16))))))))))))))))
 by_cases h17:l=[37]
 ·exact .inr (.inr (.inr (.inr (.inr (.inr (.inr (.inr (.inr (.inr (.inr (.inr (.inr (.inr (.inr (.inr (.inr (.inl h17)))))))))))))))))
 exact .inr (.inr (.inr (.inr (.inr (.inr (.inr (.inr (.inr (.inr (.inr (.inr (.inr (.inr (.inr (.inr (.inr (.inr ⟨h0,h1,h2,h3,h4,h5,h6,h7,h8,h9,h10,h11,h12,h13,h14,h15,h16,h17⟩)))))))))))))))))
theorem zik {l:List UInt8}(h:l≠[124,124]∧l≠[38,38]∧l≠[124]∧l≠[94]∧l≠[38]∧l≠[61,61]∧l≠[33,61]∧l≠[60]∧l≠[62]∧l≠[60,61]∧l≠[62,61]∧l≠[60,60]∧l≠[62,62]∧l≠[43]∧l≠[45]∧l≠[42]∧l≠[47]∧l≠[37]):zil l=0:=by
 obtain⟨h0,h1,h2,h3,h4,h5,h6,h7,h8,h9,h10,h11,h12,h13,h14,h15,h16,h17⟩:=h;unfold zil;rw[if_neg h0,if_neg h1,if_neg h2,if_neg h3,if_neg h4,if_neg h5,if_neg h6,if_neg h7,if_neg h8,if_neg h9,if_neg h10,if_neg h11,if_neg h12,if_neg h13,if_neg h14,if_neg h15,if_neg h16,if_neg h17]
theorem zqn (s:ByteArray):decide (0<levelN s)=Lib.containsS zmZ s:=by
 have key:∀l:List UInt8,decide (0<zil l)=decide (l ∈ zmZ.map fun m=>m.data.toList):=fun l=>by
  rcases lits l with rfl|rfl|rfl|rfl|rfl|rfl|rfl|rfl|rfl|rfl|rfl|rfl|rfl|rfl|rfl|rfl|rfl|rfl|h
  case' inr.inr.inr.inr.inr.inr.inr.inr.inr.inr.inr.inr.inr.inr.inr.inr.inr.inr=>
   rw[zik h];obtain⟨h0,h1,h2,h3,h4,h5,h6,h7,h8,h9,h10,h11,h12,h13,h14,h15,h16,h17⟩:=h
   symm
   rw[show decide ((0:Int)<0)=false by rfl,decide_eq_false_iff_not];intro hm;simp only[zmZ,List.map,List.mem_cons,List.not_mem_nil,or_false]at hm;rcases hm with hm|hm|hm|hm|hm|hm|hm|hm|hm|hm|hm|hm|hm|hm|hm|hm|hm|hm<;>first|exact h0 hm|exact h1 hm|exact h2 hm|exact h3 hm|exact h4 hm|exact h5 hm|exact h6 hm|exact h7 hm|exact h8 hm|exact h9 hm|exact h10 hm|exact h11 hm|exact h12 hm|exact h13 hm|exact h14 hm|exact h15 hm|exact h16 hm|exact h17 hm
  all_goals rfl
 unfold levelN;rw[key,Bool.eq_iff_iff,decide_eq_true_iff,Lib.containsS_iff,List.mem_map];exact⟨fun ⟨m,hm,e⟩=>by rw[← zaT e];exact hm,fun h=>⟨s,h,rfl⟩⟩
theorem zs1 (s:ByteArray)(w:World):Calls Tryz.prog 123 #[.string s] w fun e w'=>e=.returned (.int .i64 (levelN s))∧w'=w:=by
 rcases lits s.data.toList with h|h|h|h|h|h|h|h|h|h|h|h|h|h|h|h|h|h|h
 case' inr.inr.inr.inr.inr.inr.inr.inr.inr.inr.inr.inr.inr.inr.inr.inr.inr.inr=>
  have hfin:=Hd (show zil s.data.toList=0 from zik h);obtain⟨h0,h1,h2,h3,h4,h5,h6,h7,h8,h9,h10,h11,h12,h13,h14,h15,h16,h17⟩:=h;have t0:(s.toList == [124,124])=false:=za2 h0;have t1:(s.toList == [38,38])=false:=za2 h1;have t2:(s.toList == [124])=false:=za2 h2;have t3:(s.toList == [94])=false:=za2 h3;have t4:(s.toList == [38])=false:=za2 h4;have t5:(s.toList == [61,61])=false:=za2 h5;have t6:(s.toList == [33,61])=false:=za2 h6;have t7:(s.toList == [60])=false:=za2 h7;have t8:(s.toList == [62])=false:=za2 h8;have t9:(s.toList == [60,61])=false:=za2 h9;have t10:(s.toList == [62,61])=false:=za2 h10;have t11:(s.toList == [60,60])=false:=za2 h11;have t12:(s.toList == [62,62])=false:=za2 h12;have t13:(s.toList == [43])=false:=za2 h13;have t14:(s.toList == [45])=false:=za2 h14;have t15:(s.toList == [42])=false:=za2 h15;have t16:(s.toList == [47])=false:=za2 h16;have t17:(s.toList == [37])=false:=za2 h17;clear h0 h1 h2 h3 h4 h5 h6 h7 h8 h9 h10 h11 h12 h13 h14 h15 h16 h17
 all_goals try (have ht:=fun m:List UInt8=>(zq4 s m).trans (by rw[h]);have hfin:=Hd (congrArg zil h);clear h)
 all_goals
  go_enter Tryz.func123,Tryz.ntmps123
  go_wp2_with fail
  go_ret;exact⟨by unfold levelN;rw[hfin.out];rfl,rfl⟩
theorem zkq (l:List ByteArray)(w:World)(T:TypeId):∀j,j<l.length→(w.alloc (.cells (l.map Value.string).toArray T)).cell? ⟨w.heap.size,0+j,none⟩=some (.string (l.getD j ByteArray.empty)):=fun j hj=>by
 have h:=zv8 w (.cells (l.map Value.string).toArray T);simp only[World.cell?,h,Nat.zero_add];simp[List.getD_eq_getElem?_getD,List.getElem?_eq_getElem hj]
theorem zg7 (k:Int):(marksN k).length≤1048576:=by
 unfold marksN
 repeat' split
 all_goals decide
theorem zcZ (k:Int)(s:ByteArray)(w:World):Calls Tryz.prog 31 #[.slice (some ⟨w.heap.size,0,none⟩) (marksN k).length (marksN k).length,.string s] (w.alloc (.cells ((marksN k).map Value.string).toArray 9)) fun e w'=>e=.returned (.bool (Lib.containsS (marksN k) s))∧w'=w.alloc (.cells ((marksN k).map Value.string).toArray 9):=by
 have h:=Tryz.slices_Contains_string _ 0 (marksN k).length (marksN k).length (marksN k) s _ (zv0 _) (zv6 (zg7 k) (by decide)) (zkq (marksN k) w 9);rw[List.take_length]at h;exact h
theorem zsW (s:ByteArray)(w:World):Calls Tryz.prog 100 #[.int .i64 4,.string s] w fun e w'=>e=.returned (.bool (Lib.containsS (marksN 4) s))∧Below w.heap.size w w':=by
 have HC:=Hd (show ∀w1:World,Calls Tryz.prog 31 #[.slice (some ⟨w1.heap.size,0,none⟩) 5 5,.string s] (w1.alloc (.cells ((marksN 4).map Value.string).toArray 9)) fun e w'=>e=.returned (.bool (Lib.containsS (marksN 4) s))∧w'=w1.alloc (.cells ((marksN 4).map Value.string).toArray 9) from fun w1=>by have h:=zcZ 4 s w1;rw[show (marksN 4).length=5 by decide]at h;exact h)
 go_enter Tryz.func100,Tryz.ntmps100
 go_wp2_with (go_at_call 31;refine(HC.out w).mono ?_;rintro e w1 ⟨rfl,hw1⟩;subst w1)
 go_ret;exact⟨rfl,(zv3 _ _).alloc (zv0 _) _⟩
theorem zsV (s:ByteArray)(w:World):Calls Tryz.prog 100 #[.int .i64 5,.string s] w fun e w'=>e=.returned (.bool (Lib.containsS (marksN 5) s))∧Below w.heap.size w w':=by
 have HC:=Hd (show ∀w1:World,Calls Tryz.prog 31 #[.slice (some ⟨w1.heap.size,0,none⟩) 2 2,.string s] (w1.alloc (.cells ((marksN 5).map Value.string).toArray 9)) fun e w'=>e=.returned (.bool (Lib.containsS (marksN 5) s))∧w'=w1.alloc (.cells ((marksN 5).map Value.string).toArray 9) from fun w1=>by have h:=zcZ 5 s w1;rw[show (marksN 5).length=2 by decide]at h;exact h)
 go_enter Tryz.func100,Tryz.ntmps100
 go_wp2_with (go_at_call 31;refine(HC.out w).mono ?_;rintro e w1 ⟨rfl,hw1⟩;subst w1)
 go_ret;exact⟨rfl,(zv3 _ _).alloc (zv0 _) _⟩
theorem zsU (s:ByteArray)(w:World):Calls Tryz.prog 100 #[.int .i64 6,.string s] w fun e w'=>e=.returned (.bool (Lib.containsS (marksN 6) s))∧Below w.heap.size w w':=by
 have HC:=Hd (show ∀w1:World,Calls Tryz.prog 31 #[.slice (some ⟨w1.heap.size,0,none⟩) 2 2,.string s] (w1.alloc (.cells ((marksN 6).map Value.string).toArray 9)) fun e w'=>e=.returned (.bool (Lib.containsS (marksN 6) s))∧w'=w1.alloc (.cells ((marksN 6).map Value.string).toArray 9) from fun w1=>by have h:=zcZ 6 s w1;rw[show (marksN 6).length=2 by decide]at h;exact h)
 go_enter Tryz.func100,Tryz.ntmps100
 go_wp2_with (go_at_call 31;refine(HC.out w).mono ?_;rintro e w1 ⟨rfl,hw1⟩;subst w1)
 go_ret;exact⟨rfl,(zv3 _ _).alloc (zv0 _) _⟩
theorem zsS (s:ByteArray)(w:World):Calls Tryz.prog 100 #[.int .i64 8,.string s] w fun e w'=>e=.returned (.bool (Lib.containsS (marksN 8) s))∧Below w.heap.size w w':=by
 have HC:=Hd (show ∀w1:World,Calls Tryz.prog 31 #[.slice (some ⟨w1.heap.size,0,none⟩) 11 11,.string s] (w1.alloc (.cells ((marksN 8).map Value.string).toArray 9)) fun e w'=>e=.returned (.bool (Lib.containsS (marksN 8) s))∧w'=w1.alloc (.cells ((marksN 8).map Value.string).toArray 9) from fun w1=>by have h:=zcZ 8 s w1;rw[show (marksN 8).length=11 by decide]at h;exact h)
 go_enter Tryz.func100,Tryz.ntmps100
 go_wp2_with (go_at_call 31;refine(HC.out w).mono ?_;rintro e w1 ⟨rfl,hw1⟩;subst w1)
 go_ret;exact⟨rfl,(zv3 _ _).alloc (zv0 _) _⟩
theorem zsT (s:ByteArray)(w:World):Calls Tryz.prog 100 #[.int .i64 7,.string s] w fun e w'=>e=.returned (.bool (Lib.containsS (marksN 7) s))∧Below w.heap.size w w':=by
 have HL:=Hd (fun w=>zs1 s w);have hp:=Hd (show decide (0<levelN s)=Lib.containsS (marksN 7) s from zqn s);generalize levelN s=l at *
 go_enter Tryz.func100,Tryz.ntmps100
 go_wp2_with (go_at_call 123;(with_reducible refine(HL.out _).mono ?_);rintro e w1 ⟨rfl,hw1⟩;subst w1)
 go_ret;exact⟨by rw[← hp.out];rfl,zv3 _ _⟩
theorem zqf (k:Int)(s:ByteArray)(w:World)(hk:k=4∨k=5∨k=6∨k=7∨k=8):Calls Tryz.prog 100 #[.int .i64 k,.string s] w fun e w'=>e=.returned (.bool (Lib.containsS (marksN k) s))∧Below w.heap.size w w':=by
 rcases hk with rfl|rfl|rfl|rfl|rfl
 ·exact zsW s w
 ·exact zsV s w
 ·exact zsU s w
 ·exact zsT s w
 ·exact zsS s w
theorem zn6 (w:World):Calls Tryz.prog 104 #[.int .i64 4] w fun e w'=>e=.returned (.slice (some ⟨w.heap.size,0,none⟩) (marksN 4).length (marksN 4).length)∧w'=w.alloc (.cells ((marksN 4).map Value.string).toArray 9):=by
 go_enter Tryz.func104,Tryz.ntmps104
 go_wp2_with fail
 go_ret;exact⟨rfl,rfl⟩
theorem zn5 (w:World):Calls Tryz.prog 104 #[.int .i64 5] w fun e w'=>e=.returned (.slice (some ⟨w.heap.size,0,none⟩) (marksN 5).length (marksN 5).length)∧w'=w.alloc (.cells ((marksN 5).map Value.string).toArray 9):=by
 go_enter Tryz.func104,Tryz.ntmps104
 go_wp2_with fail
 go_ret;exact⟨rfl,rfl⟩
theorem zn4 (w:World):Calls Tryz.prog 104 #[.int .i64 6] w fun e w'=>e=.returned (.slice (some ⟨w.heap.size,0,none⟩) (marksN 6).length (marksN 6).length)∧w'=w.alloc (.cells ((marksN 6).map Value.string).toArray 9):=by
 go_enter Tryz.func104,Tryz.ntmps104
 go_wp2_with fail
 go_ret;exact⟨rfl,rfl⟩
theorem zn3 (w:World):Calls Tryz.prog 104 #[.int .i64 7] w fun e w'=>e=.returned (.slice (some ⟨w.heap.size,0,none⟩) (marksN 7).length (marksN 7).length)∧w'=w.alloc (.cells ((marksN 7).map Value.string).toArray 9):=by
 go_enter Tryz.func104,Tryz.ntmps104
 go_wp2_with fail
 go_ret;exact⟨rfl,rfl⟩
theorem zn2 (w:World):Calls Tryz.prog 104 #[.int .i64 8] w fun e w'=>e=.returned (.slice (some ⟨w.heap.size,0,none⟩) (marksN 8).length (marksN 8).length)∧w'=w.alloc (.cells ((marksN 8).map Value.string).toArray 9):=by
 go_enter Tryz.func104,Tryz.ntmps104
 go_wp2_with fail
 go_ret;exact⟨rfl,rfl⟩
theorem zlw (k:Int)(w:World)(hk:k=4∨k=5∨k=6∨k=7∨k=8):Calls Tryz.prog 104 #[.int .i64 k] w fun e w'=>e=.returned (.slice (some ⟨w.heap.size,0,none⟩) (marksN k).length (marksN k).length)∧w'=w.alloc (.cells ((marksN k).map Value.string).toArray 9):=by
 rcases hk with rfl|rfl|rfl|rfl|rfl
 ·exact zn6 w
 ·exact zn5 w
 ·exact zn4 w
 ·exact zn3 w
 ·exact zn2 w
theorem zso (k:Int)(s:ByteArray)(w:World):Calls Tryz.prog 23 #[.slice (some ⟨w.heap.size,0,none⟩) (marksN k).length (marksN k).length,.string s] (w.alloc (.cells ((marksN k).map Value.string).toArray 9)) fun e w'=>e=.returned (.bool (Lib.containsS (marksN k) s))∧w.alloc (.cells ((marksN k).map Value.string).toArray 9)=w':=
 zhB _ _ (marksN k) s _ (zg7 k) (fun j hj=>by have:=zkq (marksN k) w 9 j hj;rw[Nat.zero_add]at this;exact this)
set_option maxHeartbeats 2000000
theorem zjW {a b:Bool}(h:a=b):Ending.returned (.bool a)=.returned (.bool b):=by rw[h]
theorem zjI (s:ByteArray):(checkS [] s=0∧typedS s=true)∨(checkS [] s≠0∧checkS [] s=4∧typedS s=true)∨(checkS [] s≠0∧checkS [] s≠4∧typedS s=false):=by
 unfold typedS
 by_cases h0:checkS [] s=0
 ·exact .inl ⟨h0,by simp[h0]⟩
 ·by_cases h4:checkS [] s=4
  ·exact .inr (.inl ⟨h0,h4,by simp[h4]⟩)
  ·exact .inr (.inr ⟨h0,h4,by simp[h0,h4]⟩)
theorem zfw {s:ByteArray}(h:typedS s=true):∃t,tyS s=some t∧s=tyB t∧zaD t:=by
 unfold typedS at h;cases ht:tyS s with
 | none=>rw[zb1 ht]at h;simp at h
 | some t=>
   obtain⟨h1,h2,_⟩:=zaW.1 ht;exact⟨t,rfl,h1,h2⟩
theorem zmu (s:ByteArray)(w:World)(hE:TE w):Calls Tryz.prog 99 #[.string s] w fun e w'=>e=.returned (.bool (typedS s))∧Below w.heap.size w w':=by
 have HC:=Hd (zmf s w hE);rcases zjI s with ⟨h0,h⟩|⟨h0,h4,h⟩|⟨h0,h4,h⟩
 case' inl=>
  rw[h0]at HC;rw[h];clear h0 h
 case' inr.inl=>
  rw[h4]at HC;rw[h];clear h0 h4 h
 case' inr.inr=>
  have t1:(checkS [] s == 0)=false:=by simp[h0]
  have t2:(checkS [] s == 4)=false:=by simp[h4]
  rw[h];clear h0 h4 h;generalize checkS [] s=c at *
 all_goals
  go_enter Tryz.func99,Tryz.ntmps99
  go_wp2_with (go_at_call 81;(with_reducible refine HC.out.mono ?_);rintro e w1 ⟨rfl,hb1⟩;have HB1:=Hd hb1;clear hb1)
  go_ret;exact⟨rfl,HB1.out⟩
theorem zmJ (s:ByteArray)(w:World):Calls Tryz.prog 91 #[.string s] w fun e w'=>e=.returned (.bool (typedS s))∧Below w.heap.size w w':=by
 have HC:=Hd (zlA s w);rcases zjI s with ⟨h0,h⟩|⟨h0,h4,h⟩|⟨h0,h4,h⟩
 case' inl=>
  rw[h0]at HC;rw[h];clear h0 h
 case' inr.inl=>
  rw[h4]at HC;rw[h];clear h0 h4 h
 case' inr.inr=>
  have t1:(checkS [] s == 0)=false:=by simp[h0]
  have t2:(checkS [] s == 4)=false:=by simp[h4]
  rw[h];clear h0 h4 h;generalize checkS [] s=c at *
 all_goals
  go_enter Tryz.func91,Tryz.ntmps91
  go_wp2_with (go_at_call 60;(with_reducible refine HC.out.mono ?_);rintro e w1 ⟨rfl,hb1⟩;have HB1:=Hd hb1;clear hb1)
  go_ret;exact⟨rfl,HB1.out⟩
theorem zkc {s:ByteArray}{t:Ty}(h:tyS s=some t):zaU s=objectT t:=by unfold zaU;rw[h];rfl
theorem zid (s:ByteArray)(w:World)(hty:typedS s=true):Calls Tryz.prog 82 #[.string s] w fun e w'=>e=.returned (.bool (zaU s))∧w'=w:=by
 obtain⟨t,ht,rfl,hr⟩:=zfw hty;rw[zkc ht];clear ht hty;have hv:=zib hr 118;have h0:=(zau t).1;have hf:((((tyB t)[0]'h0).toNat:Int) == 102)=isFnT t:=zfh hr;have ho:objectT t=(!isC 118 t && !isFnT t):=by rw[objectT,zcd]
 generalize tyB t=s at *;rcases h1:isC 118 t with _|_
 ·rw[h1]at hv ho
  have hv':(s.toList != [118])=true:=by rw[bne,hv];rfl
  rcases h2:isFnT t with _|_
  ·rw[h2]at hf ho
   have hf':((s[0].toNat:Int) != 102)=true:=by rw[bne,hf];rfl
   have hfin:=Hd ho;clear ho h1 h2
   go_enter Tryz.func82,Tryz.ntmps82
   go_wp2_with fail
   go_ret;exact⟨by rw[hfin.out];rfl,rfl⟩
  ·rw[h2]at hf ho
   have hf':((s[0].toNat:Int) != 102)=false:=by rw[bne,hf];rfl
   have hfin:=Hd ho;clear ho h1 h2
   go_enter Tryz.func82,Tryz.ntmps82
   go_wp2_with fail
   go_ret;exact⟨by rw[hfin.out];rfl,rfl⟩
 ·rw[h1]at hv ho
  have hv':(s.toList != [118])=false:=by rw[bne,hv];rfl
  have hfin:=Hd ho;clear ho h1 hf
  go_enter Tryz.func82,Tryz.ntmps82
  go_wp2_with fail
  go_ret;exact⟨by rw[hfin.out];rfl,rfl⟩
theorem ze8 (s:ByteArray)(w:World):Calls Tryz.prog 59 #[.string s] w fun e w'=>e=.returned (.bool (typedS s && zaU s))∧Below w.heap.size w w':=by
 have HR:=Hd (fun w=>zmJ s w);rcases hty:typedS s with _|_
 ·rw[hty]at HR
  clear hty
  go_enter Tryz.func59,Tryz.ntmps59
  go_wp2_with (go_at_call 91;(with_reducible refine(HR.out _).mono ?_);rintro e w1 ⟨rfl,hb1⟩;have HB1:=Hd hb1;clear hb1)
  go_ret;exact⟨rfl,HB1.out⟩
 ·rw[hty]at HR
  obtain⟨t,ht,rfl,hr⟩:=zfw hty;rw[zkc ht];clear ht hty;have hv:=zib hr 118;have h0:=(zau t).1;have hf:((((tyB t)[0]'h0).toNat:Int) == 102)=isFnT t:=zfh hr;have ho:objectT t=(!isC 118 t && !isFnT t):=by rw[objectT,zcd]
  generalize tyB t=s at *;rcases h1:isC 118 t with _|_
  ·rw[h1]at hv ho
   have hv':(s.toList != [118])=true:=by rw[bne,hv];rfl
   rcases h2:isFnT t with _|_
   ·rw[h2]at hf ho
    have hf':((s[0].toNat:Int) != 102)=true:=by rw[bne,hf];rfl
    have hfin:=Hd ho;clear ho h1 h2
    go_enter Tryz.func59,Tryz.ntmps59
    go_wp2_with (go_at_call 91;(with_reducible refine(HR.out _).mono ?_);rintro e w1 ⟨rfl,hb1⟩;have HB1:=Hd hb1;clear hb1)
    go_ret;exact⟨by rw[hfin.out];rfl,HB1.out⟩
   ·rw[h2]at hf ho
    have hf':((s[0].toNat:Int) != 102)=false:=by rw[bne,hf];rfl
    have hfin:=Hd ho;clear ho h1 h2
    go_enter Tryz.func59,Tryz.ntmps59
    go_wp2_with (go_at_call 91;(with_reducible refine(HR.out _).mono ?_);rintro e w1 ⟨rfl,hb1⟩;have HB1:=Hd hb1;clear hb1)
    go_ret;exact⟨by rw[hfin.out];rfl,HB1.out⟩
  ·rw[h1]at hv ho
   have hv':(s.toList != [118])=false:=by rw[bne,hv];rfl
   have hfin:=Hd ho;clear ho h1 hf
   go_enter Tryz.func59,Tryz.ntmps59
   go_wp2_with (go_at_call 91;(with_reducible refine(HR.out _).mono ?_);rintro e w1 ⟨rfl,hb1⟩;have HB1:=Hd hb1;clear hb1)
   go_ret;exact⟨by rw[hfin.out];rfl,HB1.out⟩
theorem zux (s:ByteArray):(s=⟨#[117]⟩)↔s.data.toList=[117]:=⟨fun h=>by rw[h],fun h=>zaT (by rw[h])⟩
theorem zvw (s:ByteArray):(s=⟨#[105]⟩)↔s.data.toList=[105]:=⟨fun h=>by rw[h],fun h=>zaT (by rw[h])⟩
theorem zga (i:Int)(t:ByteArray){k n p:Int}{s:ByteArray} :
 (t.data.toList=[117]∧i<0∧numberN ⟨k,n,p,i,s,t⟩=false)∨(t.data.toList=[117]∧0≤i∧4294967296≤i∧numberN ⟨k,n,p,i,s,t⟩=false)∨(t.data.toList=[117]∧0≤i∧i<4294967296∧numberN ⟨k,n,p,i,s,t⟩=true) ∨
 (t.data.toList=[105]∧i < -128∧numberN ⟨k,n,p,i,s,t⟩=false)∨(t.data.toList=[105]∧-128≤i∧2147483648≤i∧numberN ⟨k,n,p,i,s,t⟩=false)∨(t.data.toList=[105]∧-128≤i∧i<2147483648∧numberN ⟨k,n,p,i,s,t⟩=true) ∨
 (t.data.toList≠[117]∧t.data.toList≠[105]∧numberN ⟨k,n,p,i,s,t⟩=false):=by
 by_cases hu:t.data.toList=[117]
 ·have e:∀b,numberN ⟨k,n,p,i,s,t⟩=b↔decide (0≤i∧i<4294967296)=b:=fun b=>by unfold numberN;rw[if_pos ((zux t).2 hu)]
  by_cases h0:i<0
  ·exact .inl ⟨hu,h0,(e _).2 (decide_eq_false (by omega))⟩
  ·by_cases h1:i<4294967296
   ·exact .inr (.inr (.inl ⟨hu,by omega,h1,(e _).2 (decide_eq_true (by omega))⟩))
   ·exact .inr (.inl ⟨hu,by omega,by omega,(e _).2 (decide_eq_false (by omega))⟩)
 ·by_cases hi:t.data.toList=[105]
  ·have e:∀b,numberN ⟨k,n,p,i,s,t⟩=b↔decide (-128≤i∧i<2147483648)=b:=fun b=>by
    unfold numberN;rw[if_neg (fun h=>hu ((zux t).1 h)),decide_eq_true ((zvw t).2 hi),Bool.true_and]
   by_cases h0:i < -128
   ·exact .inr (.inr (.inr (.inl ⟨hi,h0,(e _).2 (decide_eq_false (by omega))⟩)))
   ·by_cases h1:i<2147483648
    ·exact .inr (.inr (.inr (.inr (.inr (.inl ⟨hi,by omega,h1,(e _).2 (decide_eq_true (by omega))⟩)))))
    ·exact .inr (.inr (.inr (.inr (.inl ⟨hi,by omega,by omega,(e _).2 (decide_eq_false (by omega))⟩))))
  ·refine .inr (.inr (.inr (.inr (.inr (.inr ⟨hu,hi,?_⟩)))))
   unfold numberN;rw[if_neg (fun h=>hu ((zux t).1 h)),decide_eq_false (fun h=>hi ((zvw t).1 h)),Bool.false_and]
theorem zb6 (s:ByteArray):s.toList.isEmpty=noText s:=by
 rw[Lib.toList_data,noText,Bool.eq_iff_iff,decide_eq_true_iff,List.isEmpty_iff,← List.length_eq_zero_iff,Array.length_toList];exact Iff.rfl
theorem zlN (k n p i:Int)(s t:ByteArray)(w:World):Calls Tryz.prog 98 #[.agg #[.int .i64 k,.int .i64 n,.int .i64 p,.int .i64 i,.string s,.string t]] w fun e w'=>e=.returned (.bool (numberN ⟨k,n,p,i,s,t⟩))∧Below w.heap.size w w':=by
 rcases zga (k:=k) (n:=n) (p:=p) (s:=s) i t with ⟨hu,a1,h⟩|⟨hu,a1,a2,h⟩|⟨hu,a1,a2,h⟩|⟨hu,a1,h⟩|⟨hu,a1,a2,h⟩|⟨hu,a1,a2,h⟩|⟨hu,a1,h⟩
 case' inl=>
  have q1:(t.toList == [117])=true:=zbl hu rfl
 case' inr.inl=>
  have q1:(t.toList == [117])=true:=zbl hu rfl
 case' inr.inr.inl=>
  have q1:(t.toList == [117])=true:=zbl hu rfl
 case' inr.inr.inr.inl=>
  have q1:(t.toList == [117])=false:=zbl hu rfl;have q2:(t.toList == [105])=true:=zbl hu rfl
 case' inr.inr.inr.inr.inl=>
  have q1:(t.toList == [117])=false:=zbl hu rfl;have q2:(t.toList == [105])=true:=zbl hu rfl
 case' inr.inr.inr.inr.inr.inl=>
  have q1:(t.toList == [117])=false:=zbl hu rfl;have q2:(t.toList == [105])=true:=zbl hu rfl
 case' inr.inr.inr.inr.inr.inr=>
  have q1:(t.toList == [117])=false:=za2 hu;have q2:(t.toList == [105])=false:=za2 a1;clear a1
 all_goals
  rw[h];clear hu h
  go_enter Tryz.func98,Tryz.ntmps98
  go_upto_region 1 with fail
  have hx1:(w.alloc (zaR ⟨k,n,p,i,s,t⟩)).heap[w.heap.size]?=some (.cells #[.int .i64 k,.int .i64 n,.int .i64 p,.int .i64 i,.string s,.string t] 47 (0,0)):=zv8 _ _;have hb1:Below w.heap.size w (w.alloc (zaR ⟨k,n,p,i,s,t⟩)):=(zv3 _ _).alloc (zv0 _) _;simp only[zaR]at hx1 hb1;generalize w.alloc (.cells #[.int .i64 k,.int .i64 n,.int .i64 p,.int .i64 i,.string s,.string t] 47)=w1 at *;have hz1:=zaa hx1;obtain⟨⟨d0,d1,d2,d3,d4,d5⟩,_⟩:=zal hx1;have HX1:=Hd hx1;have HB1:=Hd hb1;clear hx1 hb1
  go_wp2_with fail
  go_ret
  first|exact⟨rfl,HB1.out⟩|exact⟨zjW (decide_eq_false (by omega)),HB1.out⟩|exact⟨zjW (decide_eq_true (by omega)),HB1.out⟩
end Go.Proofs.YtbbaooeioogijaaGreatDoor
