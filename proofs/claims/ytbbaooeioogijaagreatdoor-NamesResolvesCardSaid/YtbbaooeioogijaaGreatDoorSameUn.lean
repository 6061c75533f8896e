/- The same unit, but for places: the program. -/
import Derived.Test.YtbbaooeioogijaaGreatDoorMg18
namespace Go.Proofs.YtbbaooeioogijaaGreatDoor
open Go.RowKit
set_option maxRecDepth 100000
set_option maxHeartbeats 32000000
def zqm (places:Bool)(L M:List Nd):Prop:=M.length=L.length∧∀i (h:i<L.length) (h':i<M.length),ztP places L[i] M[i]
def zvx (places:Bool)(x y:GlU):Prop:=x.var=y.var∧(places=true→x.at_=y.at_)∧y.init.length=x.init.length∧∀i (h:i<x.init.length) (h':i<y.init.length),zqm places x.init[i] y.init[i]
def zvy (places:Bool)(x y:FnU):Prop:=x.name=y.name∧x.type=y.type∧x.params=y.params∧(places=true→x.at_=y.at_)∧zqm places x.body y.body
structure LikeUn (places:Bool)(u v:UnU):Prop where
 structs:v.structs=u.structs
 glen:v.globals.length=u.globals.length
 globals:∀i (h:i<u.globals.length) (h':i<v.globals.length),zvx places u.globals[i] v.globals[i]
 flen:v.funcs.length=u.funcs.length
 funcs:∀i (h:i<u.funcs.length) (h':i<v.funcs.length),zvy places u.funcs[i] v.funcs[i]
theorem zg8 (places:Bool)(L:List Nd):zqm places L L:=⟨rfl,fun _ _ _=>⟨rfl,rfl,rfl,rfl,rfl,fun _=>rfl⟩⟩
theorem zlW (places:Bool)(u:UnU):LikeUn places u u:=⟨rfl,rfl,fun _ _ _=>⟨rfl,fun _=>rfl,rfl,fun _ _ _=>zg8 _ _⟩,rfl,fun _ _ _=>⟨rfl,rfl,rfl,fun _=>rfl,zg8 _ _⟩⟩
theorem zrP (w:World)(o0 o1:Obj):((w.alloc o0).alloc o1).heap[w.heap.size]?=some o0∧((w.alloc o0).alloc o1).heap[w.heap.size+1]?=some o1∧Below w.heap.size w ((w.alloc o0).alloc o1):=by
 have h1:=zv8 (w.alloc o0) o1;simp only[World.size_alloc]at h1;exact⟨((ba1 (w.alloc o0) o1).block _ (by simp)).trans (zv8 w o0),h1,(ba1 w o0).trans ((ba1 _ o1).mono (ba1 w o0).size)⟩
theorem zcm {w:World}{b:Nat}(hb:b<w.heap.size):(∀o k,(w.alloc o).cell? ⟨b,k,none⟩=w.cell? ⟨b,k,none⟩)∧(∀o o' k,((w.alloc o).alloc o').cell? ⟨b,k,none⟩=w.cell? ⟨b,k,none⟩)∧¬b=w.heap.size∧¬b=w.heap.size+1:=
 ⟨fun o _=>(ba1 w o).cell hb,fun o o' _=>((ba1 w o).trans ((ba1 _ o').mono (ba1 w o).size)).cell hb,by omega,by omega⟩
theorem zlo (u v:UnU)(vs vg vf ws wg wf:Value)(places:Bool)(w:World)(hU:IsUn w.heap.size w u vs vg vf)(hV:IsUn w.heap.size w v ws wg wf)(hL:LikeUn places u v) :
 Calls Tryz.prog 12 #[.agg #[vs,vg,vf],.agg #[ws,wg,wf],.bool places] w fun e w'=>e=.returned (.bool true)∧Below w.heap.size w w':=by
 have HGu:=Hd (fun (i:Nat) (hi:i<u.globals.length)=>zeS hU.globals hi);have HGv:=Hd (fun (i:Nat) (hi:i<v.globals.length)=>zeS hV.globals hi);have HFu:=Hd (fun (i:Nat) (hi:i<u.funcs.length)=>zd4 hU.funcs hi);have HFv:=Hd (fun (i:Nat) (hi:i<v.funcs.length)=>zd4 hV.funcs hi);obtain⟨sa,sc,mu,rfl,hso,hSu⟩:=hU.structs;obtain⟨ag,cg,rfl,hlg⟩:=zbc hU.globals;obtain⟨af,cf,rfl,hlf⟩:=zbd hU.funcs;obtain⟨ta,tc,mw,rfl,_,hSv⟩:=hV.structs;obtain⟨bg,dg,rfl,_⟩:=zbc hV.globals;obtain⟨bf,df,rfl,_⟩:=zbd hV.funcs;have hls:=hso.2.2.1;have hmz:=hso.2.2.2.1;have HMz:=Hd hmz;rw[hL.structs]at hSv ⊢;rw[hL.glen,hL.flen];have HSu:=Hd hSu;have HSv:=Hd hSv;have HGl:=Hd hL.globals;have HFl:=Hd hL.funcs;have HLn:=Hd (And.intro hL.glen hL.flen);have hne:∀z:Int,(z != z)=false:=by simp
 obtain⟨hx0,hx1,hb2⟩:=zrP w (.cells #[.slice sa u.structs.length sc,.slice ag u.globals.length cg,.slice af u.funcs.length cf] 26) (.cells #[.slice ta u.structs.length tc,.slice bg u.globals.length dg,.slice bf u.funcs.length df] 26);clear hU hV hL hSu hSv hso hmz
 go_enter Tryz.func12,Tryz.ntmps12
 go_upto_region 1 with fail
 generalize (w.alloc (.cells #[.slice sa u.structs.length sc,.slice ag u.globals.length cg,.slice af u.funcs.length cf] 26)).alloc (.cells #[.slice ta u.structs.length tc,.slice bg u.globals.length dg,.slice bf u.funcs.length df] 26)=w2 at *;have HX0:=Hd (fun w' (h:Below w2.heap.size w2 w')=>(zac ((h.block _ (zaa hx0)).trans hx0)).1);have HX1:=Hd (fun w' (h:Below w2.heap.size w2 w')=>(zac ((h.block _ (zaa hx1)).trans hx1)).1);have HB2:=Hd hb2;have hw2:w.heap.size+1<w2.heap.size:=zaa hx1;obtain⟨x0,x1,x2⟩:=HX0.out _ (zv3 _ _);obtain⟨y0,y1,y2⟩:=HX1.out _ (zv3 _ _);clear hx0 hx1 hb2
 go_upto_region 4 with fail
 clear x0 x1 x2 y0 y1 y2
 go_loopg [7] u.structs.length (fun m v7 wy=>∃i:Nat,i≤u.structs.length∧i+m=u.structs.length∧v7=.int .i64 (i:Int)∧Hid (Below w2.heap.size w2 wy))
 case atStart=>exact⟨0,by omega,by omega,rfl,Hd (zv3 _ _)⟩
 case round=>
  obtain⟨i,hi,him,rfl,HW⟩:=hrel;obtain⟨wo,hwo⟩:∃y,y=wr:=⟨_,rfl⟩
  subst hwo;obtain⟨x0,x1,x2⟩:=HX0.out _ HW.out;obtain⟨y0,y1,y2⟩:=HX1.out _ HW.out
  by_cases hlt:i<u.structs.length
  ·obtain⟨b1,o1,ha,hb1,hrow1⟩:=HSu.out.at_ (fun e=>by rw[e]at hlt;simp at hlt)
   obtain⟨b2,o2,hb,hb2,hrow2⟩:=HSv.out.at_ (fun e=>by rw[e]at hlt;simp at hlt);subst ha hb;have hm1:i<mu.length:=by rw[HSu.out.len];exact hlt
   have hm2:i<mw.length:=by rw[HSv.out.len];exact hlt
   obtain⟨c0,c1,hms1⟩:=hrow1 i _ _ (zv1 hlt) (zv1 hm1);obtain⟨e0,e1,hms2⟩:=hrow2 i _ _ (zv1 hlt) (zv1 hm2);have hBo:=HB2.out.trans (HW.out.mono HB2.out.size);have HBo:=Hd hBo;rw[← hBo.cell hb1]at c0 c1;rw[← hBo.cell hb2]at e0 e1;have hmz:=HMz.out _ (zwb hlt);generalize u.structs[i]=x at *;generalize mu[i]=mv1 at *;generalize mw[i]=mv2 at *;obtain⟨am1,cm1,rfl,hr1⟩:=hms1;obtain⟨am2,cm2,rfl,hr2⟩:=hms2;have HR1:=Hd hr1;have HR2:=Hd hr2;have hwo:w.heap.size+1<wo.heap.size:=zv5 hw2 HW.out.size;have hwl:=hBo.size;obtain⟨f1,f2,f3,f4⟩:=zcm (w:=wo) (b:=b1) (by omega);obtain⟨f5,f6,f7,f8⟩:=zcm (w:=wo) (b:=b2) (by omega);obtain⟨k1,k2,k3,k4⟩:=zcm (w:=wo) (b:=w.heap.size) (by omega);obtain⟨k5,k6,k7,k8⟩:=zcm (w:=wo) (b:=w.heap.size+1) (by omega);have hi0:(0:Int)≤(i:Int):=by omega
   have hi1:(i:Int)<(u.structs.length:Int):=by omega
   clear hrow1 hrow2 hr1 hr2 hm1 hm2 hBo x1 x2 y1 y2
   go_upto_region 6 with fail
   go_cut [8,9] (fun s8 s9 wx=>∃r1 r2:Nat,s8=.pointer (some ⟨r1,0,none⟩)∧s9=.pointer (some ⟨r2,0,none⟩)∧Hid (wx.heap[r1]?=some (.cells #[.string x.name,.slice am1 x.mems.length cm1] 61 (0,0)))∧Hid (wx.heap[r2]?=some (.cells #[.string x.name,.slice am2 x.mems.length cm2] 61 (0,0)))∧Hid (Below wo.heap.size wo wx))
   case first=>
    go_region
    ·go_wp2_with fail
     go_meet
     case rel=>exact⟨wo.heap.size,wo.heap.size+1,rfl,rfl,Hd (zaF wo _ _).1,Hd (zaF wo _ _).2.1,Hd (zaF wo _ _).2.2⟩
    ·go_wp2_with fail
     go_meet
     case rel=>exact⟨wo.heap.size+1,wo.heap.size,rfl,rfl,Hd (zaF wo _ _).2.1,Hd (zaF wo _ _).1,Hd (zaF wo _ _).2.2⟩
   case rest=>
    obtain⟨r1,r2,rfl,rfl,H1,H2,HB3⟩:=hcut;clear f1 f2 f3 f4 f5 f6 f7 f8 k1 k2 k3 k4 k5 k6 k7 k8 c0 c1 e0 e1 x0 y0;obtain⟨⟨p0,p1⟩,_⟩:=zab H1.out;obtain⟨⟨q0,q1⟩,_⟩:=zab H2.out;have t4:∀z:List UInt8,(z == z)=true:=by simp
    have hml:(x.mems.length:Int)≤140737488351232:=by omega
    go_upto_region 10 with fail
    clear p0 p1 q0 q1
    go_loopg [10] x.mems.length (fun m v10 wy=>∃k:Nat,k≤x.mems.length∧k+m=x.mems.length∧v10=.int .i64 (k:Int)∧Hid (Below wc.heap.size wc wy))
    case atStart=>exact⟨0,by omega,by omega,rfl,Hd (zv3 _ _)⟩
    case round=>
     obtain⟨k,hk,hkm,rfl,HK⟩:=hrel;obtain⟨⟨p0,p1⟩,_⟩:=zab ((HK.out.block _ (zaa H1.out)).trans H1.out);obtain⟨⟨q0,q1⟩,_⟩:=zab ((HK.out.block _ (zaa H2.out)).trans H2.out)
     by_cases hlk:k<x.mems.length
     ·obtain⟨g1,j1,hg1,hgl1,hc1⟩:=HR1.out (fun e=>by rw[e]at hlk;simp at hlk)
      obtain⟨g2,j2,hg2,hgl2,hc2⟩:=HR2.out (fun e=>by rw[e]at hlk;simp at hlk);subst hg1 hg2;obtain⟨m0,m1⟩:=hc1 k _ (zv1 hlk);obtain⟨n0,n1⟩:=hc2 k _ (zv1 hlk);have hBk:=HBo.out.trans ((HB3.out.trans (HK.out.mono HB3.out.size)).mono HBo.out.size);rw[← hBk.cell hgl1]at m0 m1;rw[← hBk.cell hgl2]at n0 n1;generalize x.mems[k]=mm at *;obtain⟨mn,mt⟩:=mm;simp only at m0 m1 n0 n1;have hk0:(0:Int)≤(k:Int):=by omega
      have hk1:(k:Int)<(x.mems.length:Int):=by omega
      clear hc1 hc2 hBk
      go_wp2_with fail
      go_quiet (fail)
      go_wp2_with fail
      go_roundg (x.mems.length-(k+1))
      case measure=>omega
      case rel=>exact⟨k+1,by omega,by omega,by rw[zv9];rfl,Hd (zaf HK.out _)⟩
     ·obtain rfl:k=x.mems.length:=by omega
      clear hlk
      go_wp2_with fail
      go_roundg (u.structs.length-(i+1))
      case measure=>omega
      case rel=>exact⟨i+1,by omega,by omega,by rw[zv9];rfl,Hd (HW.out.trans ((HB3.out.trans (HK.out.mono HB3.out.size)).mono HW.out.size))⟩
  ·obtain rfl:i=u.structs.length:=by omega
   clear hlt
   go_upto_region 15 with fail
   clear x0 x1 x2 y0 y1 y2
   go_loopg [11] u.globals.length (fun m v11 wy=>∃i:Nat,i≤u.globals.length∧i+m=u.globals.length∧v11=.int .i64 (i:Int)∧Hid (Below w2.heap.size w2 wy))
   case atStart=>exact⟨0,by omega,by omega,rfl,HW⟩
   case round=>
    obtain⟨i,hi,him,rfl,HW⟩:=hrel;obtain⟨wo,hwo⟩:∃y,y=wr:=⟨_,rfl⟩
    subst hwo;obtain⟨x0,x1,x2⟩:=HX0.out _ HW.out;obtain⟨y0,y1,y2⟩:=HX1.out _ HW.out
    by_cases hlt:i<u.globals.length
    ·have hltv:i<v.globals.length:=by rw[HLn.out.1];exact hlt
     obtain⟨b1,o1,c1',q1,he1,hb1,hg1,c0,c1,c2,c3,c4⟩:=HGu.out i hlt;obtain⟨b2,o2,c2',q2,he2,hb2,hg2,e0,e1,e2,e3,e4⟩:=HGv.out i hltv;obtain⟨rfl,rfl⟩:ag=some ⟨b1,o1,none⟩∧cg=c1':=by simpa using he1
     rw[HLn.out.1]at he2;obtain⟨rfl,rfl⟩:bg=some ⟨b2,o2,none⟩∧dg=c2':=by simpa using he2
     have hBo:=HB2.out.trans (HW.out.mono HB2.out.size);have HBo:=Hd hBo;rw[← hBo.cell hb1]at c0 c1 c2 c3 c4;rw[← hBo.cell hb2]at e0 e1 e2 e3 e4;have hlk:=HGl.out i hlt hltv;generalize u.globals[i]=x at *;generalize v.globals[i]=y at *;obtain⟨xa,⟨xn,xt,xv⟩,xi⟩:=x;obtain⟨ya,⟨yn,yt,yv⟩,yi⟩:=y;obtain⟨hvar,hat,hin,hlike⟩:=hlk;simp only at hvar hat hin hlike c0 c1 c2 c3 c4 e0 e1 e2 e3 e4;obtain⟨rfl,rfl,rfl⟩:=VrU.mk.inj hvar;obtain⟨a1,d1,Q1,rfl,ho1,hQ1,hs1,ht1⟩:=hg1.init;obtain⟨a2,d2,Q2,rfl,ho2,hQ2,hs2,ht2⟩:=hg2.init;simp only at hQ1 hQ2 ho1 ho2 c4 e4;rw[hin]at e4;have HAt:=Hd hat;have HIn:=Hd hin;have HLk:=Hd hlike;have HS1:=Hd hs1;have HS2:=Hd hs2;have HT1:=Hd ht1;have HT2:=Hd ht2;have HQ1:=Hd hQ1;have HQ2:=Hd hQ2;have hxz:=ho1.1;have hwo:w.heap.size+1<wo.heap.size:=zv5 hw2 HW.out.size;have hwl:=hBo.size;obtain⟨f1,f2,f3,f4⟩:=zcm (w:=wo) (b:=b1) (by omega);obtain⟨f5,f6,f7,f8⟩:=zcm (w:=wo) (b:=b2) (by omega);obtain⟨k1,k2,k3,k4⟩:=zcm (w:=wo) (b:=w.heap.size) (by omega);obtain⟨k5,k6,k7,k8⟩:=zcm (w:=wo) (b:=w.heap.size+1) (by omega);have hi0:(0:Int)≤(i:Int):=by omega
     have hi1:(i:Int)<(u.globals.length:Int):=by omega
     clear hg1 hg2 ho1 ho2 hs1 hs2 ht1 ht2 hQ1 hQ2 hin hat hlike he1 he2 hBo x0 x2 y0 y2
     go_upto_region 17 with fail
     go_cut [12,13] (fun s8 s9 wx=>∃r1 r2:Nat,s8=.pointer (some ⟨r1,0,none⟩)∧s9=.pointer (some ⟨r2,0,none⟩)∧Hid (wx.heap[r1]?=some (.cells #[.int .i64 xa,.string xn,.string xt,.bool xv,.slice a1 xi.length d1] 64 (0,0)))∧Hid (wx.heap[r2]?=some (.cells #[.int .i64 ya,.string xn,.string xt,.bool xv,.slice a2 xi.length d2] 64 (0,0)))∧Hid (Below wo.heap.size wo wx))
     case first=>
      go_region
      ·go_wp2_with fail
       go_meet
       case rel=>exact⟨wo.heap.size,wo.heap.size+1,rfl,rfl,Hd (zaF wo _ _).1,Hd (zaF wo _ _).2.1,Hd (zaF wo _ _).2.2⟩
      ·go_wp2_with fail
       go_meet
       case rel=>exact⟨wo.heap.size+1,wo.heap.size,rfl,rfl,Hd (zaF wo _ _).2.1,Hd (zaF wo _ _).1,Hd (zaF wo _ _).2.2⟩
     case rest=>
      obtain⟨r1,r2,rfl,rfl,H1,H2,HB3⟩:=hcut;clear f1 f2 f3 f4 f5 f6 f7 f8 k1 k2 k3 k4 k5 k6 k7 k8 c0 c1 c2 c3 c4 e0 e1 e2 e3 e4 x1 y1;obtain⟨⟨p0,p1,p2,p3,p4⟩,_⟩:=zad H1.out;obtain⟨⟨q0,q1,q2,q3,q4⟩,_⟩:=zad H2.out;have t4:∀z:List UInt8,(z == z)=true:=by simp
      have t5:∀z:Bool,(z == z)=true:=by simp
      have hml:(xi.length:Int)≤140737488351232:=by omega
      obtain⟨wd,hwd⟩:∃y,y=wc:=⟨_,rfl⟩
      subst hwd
      go_upto_region 18 with fail
      go_cut [133] (fun s wx=>s=.bool false∧wd=wx)
      case first=>
       cases places with
       | true=>
         obtain rfl:=HAt.out rfl
         go_wp2_with fail
         go_meet
         case rel=>exact⟨rfl,rfl⟩
       | false=>
         go_wp2_with fail
         go_meet
         case rel=>exact⟨rfl,rfl⟩
      case rest=>
       obtain⟨rfl,hww⟩:=hcut;subst hww
       go_upto_region 21 with fail
       clear p0 p1 p2 p3 p4 q0 q1 q2 q3 q4
       go_loopg [14] xi.length (fun m v14 wy=>∃k:Nat,k≤xi.length∧k+m=xi.length∧v14=.int .i64 (k:Int)∧Hid (Below wd.heap.size wd wy))
       case atStart=>exact⟨0,by omega,by omega,rfl,Hd (zv3 _ _)⟩
       case round=>
        obtain⟨k,hk,hkm,rfl,HK⟩:=hrel;have hz1:=(HK.out.block _ (zaa H1.out)).trans H1.out;have hz2:=(HK.out.block _ (zaa H2.out)).trans H2.out;obtain⟨⟨p0,p1,p2,p3,p4⟩,_⟩:=zad hz1;obtain⟨⟨q0,q1,q2,q3,q4⟩,_⟩:=zad hz2
        by_cases hlk:k<xi.length
        ·have hkq1:k<Q1.length:=by rw[← List.length_map (f:=Prod.fst),HQ1.out];exact hlk
         have hkq2:k<Q2.length:=by rw[← List.length_map (f:=Prod.fst),HQ2.out,HIn.out];exact hlk
         have hky:k<yi.length:=by rw[HIn.out];exact hlk
         obtain⟨g1,j1,hg1,hgl1,hc1⟩:=HS1.out (fun e=>by rw[e]at hkq1;simp at hkq1);obtain⟨g2,j2,hg2,hgl2,hc2⟩:=HS2.out (fun e=>by rw[e]at hkq2;simp at hkq2);subst hg1 hg2;have m0:=hc1 k _ (zv1 hkq1) 0 _ rfl;have n0:=hc2 k _ (zv1 hkq2) 0 _ rfl;have hBk:=HBo.out.trans ((HB3.out.trans (HK.out.mono HB3.out.size)).mono HBo.out.size);rw[← hBk.cell hgl1]at m0;rw[← hBk.cell hgl2]at n0;simp only[Nat.mul_one,Nat.add_zero]at m0 n0;have ht1:=HT1.out _ (zwb hkq1);have ht2:=HT2.out _ (zwb hkq2);have he1:Q1[k].1=xi[k]:=by
          have h:=congrArg (fun l=>l[k]?) HQ1.out;simp only[List.getElem?_map,zv1 hkq1,zv1 hlk,Option.map_some,Option.some.injEq]at h;exact h
         have he2:Q2[k].1=yi[k]:=by
          have h:=congrArg (fun l=>l[k]?) HQ2.out;simp only[List.getElem?_map,zv1 hkq2,zv1 hky,Option.map_some,Option.some.injEq]at h;exact h
         have hlt2:=HLk.out k hlk hky;rw[← he1,← he2]at hlt2;generalize Q1[k]=z1 at *;generalize Q2[k]=z2 at *;obtain⟨T1,v1⟩:=z1;obtain⟨T2,v2⟩:=z2;obtain⟨aa1,cc1,ev1,hoo1,hss1,_⟩:=ht1;obtain⟨aa2,cc2,ev2,hoo2,hss2,_⟩:=ht2;simp only at ev1 ev2 hoo1 hoo2 hss1 hss2 hlt2 m0 n0;subst ev1 ev2;have hBd:=hBk.drew;have hlc:=zql aa1 aa2 cc1 cc2 T1 T2 places wr.drew ((hss1.below hBd (zv0 _)).mono hBd.size) ((hss2.below hBd (zv0 _)).mono hBd.size) hoo1.1 hlt2.1 hlt2.2;have HLc:=Hd hlc;have hr1w:r1<wr.heap.size:=zaa hz1;have hr2w:r2<wr.heap.size:=zaa hz2;have hg1w:g1<wr.heap.size:=zv5 hgl1 hBk.size;have hg2w:g2<wr.heap.size:=zv5 hgl2 hBk.size;have HCl:=Hd (show ∀w',Below wr.heap.size wr w'→w'.cell? ⟨r1,4,none⟩=some (.slice (some ⟨g1,j1,none⟩) xi.length d1)∧w'.cell? ⟨r2,4,none⟩=some (.slice (some ⟨g2,j2,none⟩) xi.length d2)∧w'.cell? ⟨g1,j1+k,none⟩=some (.slice aa1 T1.length cc1)∧w'.cell? ⟨g2,j2+k,none⟩=some (.slice aa2 T2.length cc2) from fun w' hb=>⟨by rw[hb.cell hr1w];exact p4,by rw[hb.cell hr2w];exact q4,by rw[hb.cell hg1w];exact m0,by rw[hb.cell hg2w];exact n0⟩);have hk0:(0:Int)≤(k:Int):=by omega
         have hk1:(k:Int)<(xi.length:Int):=by omega
         clear hc1 hc2 hBk hBd hlc he1 he2 hoo1 hoo2 hss1 hss2 hlt2 hz1 hz2 p0 p1 p2 p3 q0 q1 q2 q3
         go_upto_region 23 with fail
         go_region_held3 (fun w'=>w'.cell? ⟨r1,4,none⟩=some (.slice (some ⟨g1,j1,none⟩) xi.length d1)∧w'.cell? ⟨r2,4,none⟩=some (.slice (some ⟨g2,j2,none⟩) xi.length d2)∧w'.cell? ⟨g1,j1+k,none⟩=some (.slice aa1 T1.length cc1)∧w'.cell? ⟨g2,j2+k,none⟩=some (.slice aa2 T2.length cc2)) (first|(refine⟨?_,?_,?_,?_⟩<;>assumption)|exact HCl.out _ ((zv3 _ _).drew)|exact HCl.out _ HB9.out)
          ((go_at_call 27;(with_reducible refine HLc.out.mono ?_);rintro e w9 ⟨rfl,hb9⟩;have HB9:=Hd (show Below wr.heap.size wr w9 from (zv3 _ _).drew.trans hb9);obtain⟨p4,q4,m0,n0⟩:=HCl.out _ HB9.out;clear hb9))
         go_wp2_with fail
         go_roundg (xi.length-(k+1))
         case measure=>omega
         case rel=>exact⟨k+1,by omega,by omega,by rw[zv9];rfl,Hd (HK.out.trans (HB9.out.mono HK.out.size))⟩
        ·obtain rfl:k=xi.length:=by omega
         clear hlk hz1 hz2
         go_wp2_with fail
         go_roundg (u.globals.length-(i+1))
         case measure=>omega
         case rel=>exact⟨i+1,by omega,by omega,by rw[zv9];rfl,Hd (HW.out.trans ((HB3.out.trans (HK.out.mono HB3.out.size)).mono HW.out.size))⟩
    ·obtain rfl:i=u.globals.length:=by omega
     clear hlt
     go_upto_region 26 with fail
     clear x0 x1 x2 y0 y1 y2
     go_loopg [15] u.funcs.length (fun m v15 wy=>∃i:Nat,i≤u.funcs.length∧i+m=u.funcs.length∧v15=.int .i64 (i:Int)∧Hid (Below w2.heap.size w2 wy))
     case atStart=>exact⟨0,by omega,by omega,rfl,HW⟩
     case round=>
      obtain⟨i,hi,him,rfl,HW⟩:=hrel;obtain⟨wo,hwo⟩:∃y,y=wr:=⟨_,rfl⟩
      subst hwo;obtain⟨x0,x1,x2⟩:=HX0.out _ HW.out;obtain⟨y0,y1,y2⟩:=HX1.out _ HW.out
      by_cases hlt:i<u.funcs.length
      ·have hltv:i<v.funcs.length:=by rw[HLn.out.2];exact hlt
       obtain⟨b1,o1,c1',vp1,vb1,he1,hb1,hf1,c0,c1,c2,c3,c4⟩:=HFu.out i hlt;obtain⟨b2,o2,c2',vp2,vb2,he2,hb2,hf2,e0,e1,e2,e3,e4⟩:=HFv.out i hltv;obtain⟨rfl,rfl⟩:af=some ⟨b1,o1,none⟩∧cf=c1':=by simpa using he1
       rw[HLn.out.2]at he2;obtain⟨rfl,rfl⟩:bf=some ⟨b2,o2,none⟩∧df=c2':=by simpa using he2
       have hBo:=HB2.out.trans (HW.out.mono HB2.out.size);have HBo:=Hd hBo;rw[← hBo.cell hb1]at c0 c1 c2 c3 c4;rw[← hBo.cell hb2]at e0 e1 e2 e3 e4;have hlk:=HFl.out i hlt hltv;generalize u.funcs[i]=x at *;generalize v.funcs[i]=y at *;obtain⟨xa,xn,xt,xp,xb⟩:=x;obtain⟨ya,yn,yt,yp,yb⟩:=y;obtain⟨hn1,hn2,hn3,hat,hlike⟩:=hlk;simp only at hn1 hn2 hn3 hat hlike c0 c1 c2 c3 c4 e0 e1 e2 e3 e4;subst hn1 hn2 hn3;obtain⟨a1,d1,rfl,ho1,hs1,_⟩:=hf1.params;obtain⟨a2,d2,rfl,ho2,hs2,_⟩:=hf2.params;obtain⟨a3,d3,rfl,ho3,hs3,_⟩:=hf1.body;obtain⟨a4,d4,rfl,ho4,hs4,_⟩:=hf2.body;simp only at ho1 ho2 ho3 ho4 hs1 hs2 hs3 hs4 c3 c4 e3 e4;have HAt:=Hd hat;have HLk:=Hd hlike;have HS1:=Hd hs1;have HS2:=Hd hs2;have HS3:=Hd hs3;have HS4:=Hd hs4;have hxz:=ho1.1;have hbz:=ho3.1;have hwo:w.heap.size+1<wo.heap.size:=zv5 hw2 HW.out.size;have hwl:=hBo.size;obtain⟨f1,f2,f3,f4⟩:=zcm (w:=wo) (b:=b1) (by omega);obtain⟨f5,f6,f7,f8⟩:=zcm (w:=wo) (b:=b2) (by omega);obtain⟨k1,k2,k3,k4⟩:=zcm (w:=wo) (b:=w.heap.size) (by omega);obtain⟨k5,k6,k7,k8⟩:=zcm (w:=wo) (b:=w.heap.size+1) (by omega);have hi0:(0:Int)≤(i:Int):=by omega
       have hi1:(i:Int)<(u.funcs.length:Int):=by omega
       clear hf1 hf2 ho1 ho2 ho3 ho4 hs1 hs2 hs3 hs4 hat hlike he1 he2 hBo x0 x1 y0 y1
       go_upto_region 28 with fail
       go_cut [16,17] (fun s8 s9 wx=>∃r1 r2:Nat,s8=.pointer (some ⟨r1,0,none⟩)∧s9=.pointer (some ⟨r2,0,none⟩)∧Hid (wx.heap[r1]?=some (.cells #[.int .i64 xa,.string xn,.string xt,.slice a1 xp.length d1,.slice a3 xb.length d3] 45 (0,0)))∧Hid (wx.heap[r2]?=some (.cells #[.int .i64 ya,.string xn,.string xt,.slice a2 xp.length d2,.slice a4 yb.length d4] 45 (0,0)))∧Hid (Below wo.heap.size wo wx))
       case first=>
        go_region
        ·go_wp2_with fail
         go_meet
         case rel=>exact⟨wo.heap.size,wo.heap.size+1,rfl,rfl,Hd (zaF wo _ _).1,Hd (zaF wo _ _).2.1,Hd (zaF wo _ _).2.2⟩
        ·go_wp2_with fail
         go_meet
         case rel=>exact⟨wo.heap.size+1,wo.heap.size,rfl,rfl,Hd (zaF wo _ _).2.1,Hd (zaF wo _ _).1,Hd (zaF wo _ _).2.2⟩
       case rest=>
        obtain⟨r1,r2,rfl,rfl,H1,H2,HB3⟩:=hcut;clear f1 f2 f3 f4 f5 f6 f7 f8 k1 k2 k3 k4 k5 k6 k7 k8 c0 c1 c2 c3 c4 e0 e1 e2 e3 e4 x2 y2;obtain⟨⟨p0,p1,p2,p3,p4⟩,_⟩:=zad H1.out;obtain⟨⟨q0,q1,q2,q3,q4⟩,_⟩:=zad H2.out;have t4:∀z:List UInt8,(z == z)=true:=by simp
        have t5:∀z:Bool,(z == z)=true:=by simp
        have hml:(xp.length:Int)≤140737488351232:=by omega
        obtain⟨wd,hwd⟩:∃y,y=wc:=⟨_,rfl⟩
        subst hwd;have hBd:=HBo.out.trans (HB3.out.mono HBo.out.size);have HLc:=Hd (zql a3 a4 d3 d4 xb yb places wd ((HS3.out.below hBd (zv0 _)).mono hBd.size) ((HS4.out.below hBd (zv0 _)).mono hBd.size) hbz HLk.out.1 HLk.out.2);clear hBd
        go_upto_region 29 with fail
        go_cut [210] (fun s wx=>s=.bool false∧Hid (Below wd.heap.size wd wx))
        case first=>
         cases places with
         | true=>
           obtain rfl:=HAt.out rfl
           go_wp2_with (go_at_call 27;(with_reducible refine HLc.out.mono ?_);rintro e w9 ⟨rfl,hb9⟩;have HB9:=Hd hb9;clear hb9)
           go_meet
           case rel=>exact⟨rfl,HB9⟩
         | false=>
           go_wp2_with (go_at_call 27;(with_reducible refine HLc.out.mono ?_);rintro e w9 ⟨rfl,hb9⟩;have HB9:=Hd hb9;clear hb9)
           go_meet
           case rel=>exact⟨rfl,HB9⟩
        case rest=>
         obtain⟨rfl,HBw⟩:=hcut;clear p0 p1 p2 p3 p4 q0 q1 q2 q3 q4;obtain⟨we,hwe⟩:∃y,y=wc:=⟨_,rfl⟩
         subst hwe;have G1:=Hd ((HBw.out.block _ (zaa H1.out)).trans H1.out);have G2:=Hd ((HBw.out.block _ (zaa H2.out)).trans H2.out);obtain⟨⟨p0,p1,p2,p3,p4⟩,_⟩:=zad G1.out
         go_upto_region 32 with fail
         clear p0 p1 p2 p3 p4
         go_loopg [18] xp.length (fun m v18 wy=>∃k:Nat,k≤xp.length∧k+m=xp.length∧v18=.int .i64 (k:Int)∧Hid (Below we.heap.size we wy))
         case atStart=>exact⟨0,by omega,by omega,rfl,Hd (zv3 _ _)⟩
         case round=>
          obtain⟨k,hk,hkm,rfl,HK⟩:=hrel;obtain⟨⟨p0,p1,p2,p3,p4⟩,_⟩:=zad ((HK.out.block _ (zaa G1.out)).trans G1.out);obtain⟨⟨q0,q1,q2,q3,q4⟩,_⟩:=zad ((HK.out.block _ (zaa G2.out)).trans G2.out)
          by_cases hlk:k<xp.length
          ·obtain⟨g1,j1,hg1,hgl1,hc1⟩:=HS1.out (fun e=>by rw[e]at hlk;simp at hlk)
           obtain⟨g2,j2,hg2,hgl2,hc2⟩:=HS2.out (fun e=>by rw[e]at hlk;simp at hlk);subst hg1 hg2;have m0:=hc1 k _ (zv1 hlk) 0 _ rfl;have m1:=hc1 k _ (zv1 hlk) 1 _ rfl;have m2:=hc1 k _ (zv1 hlk) 2 _ rfl;have n0:=hc2 k _ (zv1 hlk) 0 _ rfl;have n1:=hc2 k _ (zv1 hlk) 1 _ rfl;have n2:=hc2 k _ (zv1 hlk) 2 _ rfl;have hBk:=HBo.out.trans ((HB3.out.trans ((HBw.out.trans (HK.out.mono HBw.out.size)).mono HB3.out.size)).mono HBo.out.size);rw[← hBk.cell hgl1]at m0 m1 m2;rw[← hBk.cell hgl2]at n0 n1 n2;rw[Nat.add_zero]at m0 n0;generalize xp[k]=mm at *;obtain⟨mn,mt,mv⟩:=mm;simp only at m0 m1 m2 n0 n1 n2;have hk0:(0:Int)≤(k:Int):=by omega
           have hk1:(k:Int)<(xp.length:Int):=by omega
           clear hc1 hc2 hBk
           go_wp2_with fail
           go_quiet (fail)
           go_wp2_with fail
           go_roundg (xp.length-(k+1))
           case measure=>omega
           case rel=>exact⟨k+1,by omega,by omega,by rw[zv9];rfl,Hd (zaf HK.out _)⟩
          ·obtain rfl:k=xp.length:=by omega
           clear hlk
           go_wp2_with fail
           go_roundg (u.funcs.length-(i+1))
           case measure=>omega
           case rel=>exact⟨i+1,by omega,by omega,by rw[zv9];rfl,Hd (HW.out.trans ((HB3.out.trans ((HBw.out.trans (HK.out.mono HBw.out.size)).mono HB3.out.size)).mono HW.out.size))⟩
      ·obtain rfl:i=u.funcs.length:=by omega
       clear hlt
       go_wp2_with fail
       go_ret;exact⟨rfl,HB2.out.trans (HW.out.mono HB2.out.size)⟩
end Go.Proofs.YtbbaooeioogijaaGreatDoor
