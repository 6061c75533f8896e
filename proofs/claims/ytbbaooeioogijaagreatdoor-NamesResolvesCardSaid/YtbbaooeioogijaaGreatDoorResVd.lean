/- A function gone over: the program, declarations; all. -/
import Derived.Test.YtbbaooeioogijaaGreatDoorMg15
namespace Go.Proofs.YtbbaooeioogijaaGreatDoor
open Go.RowKit Go.Maps
set_option maxRecDepth 100000
set_option maxHeartbeats 8000000
theorem znF {A B rb:Nat}{fs:FileN}{f:FnU}{vp:Value}{ab:Option Addr}{cb:Nat}{fr:List Nat}(hbg:zah f.body=some fr)(hl:f.body.length≤4096)(hT:∀x ∈ f.body,x.kind=3∨x.kind=22→x.text.size≤maxLen)(hAB:A≤B)(k:Nat)(hk:k<f.body.length)(ih:∀p,p<k→zmm A B rb fs f vp ab cb fr p)
 (w:World) (c mb mt:Nat) (p ov sv:Value) (up:List ScN) (s:ScN) (own:Bool) (r:ResN) (h:VisM B fs f vp (.slice ab f.body.length cb) w rb c mb mt p ov sv up s r) (hI:zaV A w ab f.body) (hR:RoomV s r) (hout:r.out.length=f.body.length) (hr0:r.fault.2=0) (h22:(f.body.getD k ndU0).kind=22) :
 Calls Tryz.prog 44 #[.pointer (some ⟨rb,0,none⟩),.int .i64 (k:Int),.pointer (some ⟨c,0,none⟩),.bool own] w (zrw B fs f vp (.slice ab f.body.length cb) rb c mb mt p ov sv up w (visitN f.body fr fs k up s own r)):=by
 have hBw:B≤w.heap.size:=by have:=h.res.base;have:=h.res.lt;omega
 have hv:=zc9 (fs:=fs) (zar hbg) k up s own r;rw[if_neg (show ¬r.fault.2≠0 by simp[hr0]),if_pos h22]at hv;have hps:∀q ∈ partsAt f.body fr k,q<k:=fun q hq=>(zar hbg).parts_lt hq
 have hpl:(partsAt f.body fr k).length≤4096:=by
  rw[zan (zv1 hk),zak];have:=((zar hbg).node k _ (zv1 hk)).2.1.le;omega
 have HPt:=Hd (fun (w1:World) (h1:rb<w1.heap.size) (h2:A≤w1.heap.size) (h3:w1.cell? ⟨rb,4,none⟩=some (.slice ab f.body.length cb)) (h4:zaV A w1 ab f.body)=>zh9 hbg k hk hl w1 h1 h2 h3 h4);have HIh:=Hd ih;obtain⟨⟨k0,k1,k2,k3,k4,k5,k6,k7,k8⟩,_⟩:=zao h.res.blk;rw[hr0]at k8;obtain⟨ba,off,ha,hbl,x0,x1,x2,x3,x4,x5⟩:=zbg hI hk;have hx:f.body.getD k ndU0=f.body[k]:=by simp[List.getD,hk]
 have hxo:=hT _ (zwb hk);rw[hx]at hv h22;clear hx;generalize f.body[k]=x at *;obtain⟨xk,xn,xa,xi,xt,xy⟩:=x;simp only at *;subst ha;subst h22;have hb1:=ba1 w (.cells #[.int .i64 22,.int .i64 xn,.int .i64 xa,.int .i64 xi,.string xt,.string xy] 47);have hq1:=zv8 w (.cells #[.int .i64 22,.int .i64 xn,.int .i64 xa,.int .i64 xi,.string xt,.string xy] 47);have HV:=Hd h;have HI:=Hd hI;have HR:=Hd hR;have HO:=Hd hout;have HVi:=Hd hv;have HPs:=Hd hps;have HXo:=Hd (hxo (.inr rfl));have hrs:=hR.small.1;have hrt:=hR.taken;clear h hI hR hout hv hps ih hT hbg hxo
 go_enter Tryz.func44,Tryz.ntmps44
 go_upto_block 0 with fail
 generalize w.alloc (.cells #[.int .i64 22,.int .i64 xn,.int .i64 xa,.int .i64 xi,.string xt,.string xy] 47)=w1 at *;have HV1:=Hd (HV.out.below hb1);have HB1:=Hd hb1;have HQ1:=Hd hq1;obtain⟨⟨y0,y1,y2,y3,y4,y5⟩,_⟩:=zal hq1;have hsl:=zjO (zbf ⟨22,xn,xa,xi,xt,xy⟩) xa w1 HV1.out (zv6 hBw hb1.size) hrs (by omega) HXo.out;have HSl:=Hd (show Calls Tryz.prog 43 #[.pointer (some ⟨rb,0,none⟩),.pointer (some ⟨c,0,none⟩),.agg #[.string xt,.string xy,.bool (xi == 1),.bool false],.int .i64 xa] w1 (fun e w'=>e=.returned (.agg #[.int .i64 3,.int .i64 (r.slots.length:Int),.string xy])∧∃sv',Stg B fs f vp (.slice (some ⟨ba,off,none⟩) f.body.length cb) w1 w1 w' rb c mb mt p ov sv sv' up (s.take xt) (zbt r s (zbf ⟨22,xn,xa,xi,xt,xy⟩) xa)) from hsl.mono fun e w' ⟨h1,⟨sv',h2,h3⟩,h4,h5,h6⟩=>⟨h1,sv',h2,h4,h5,h6,h3⟩);clear hb1 hq1 k0 k1 k2 k3 k4 k5 k6 k7 k8 x0 x1 x2 x3 x4 x5 hsl hrs hrt;have hmv:w.heap.size<w1.heap.size:=zaa HQ1.out;obtain⟨R1,hR1⟩:∃R1,R1=zbt r s (zbf ⟨22,xn,xa,xi,xt,xy⟩) xa:=⟨_,rfl⟩
 rw[← hR1]at HSl HVi;have hR1o:R1.out.length=f.body.length:=by rw[hR1];exact ze3.2.1.trans HO.out
 have hR1r:RoomV (s.take xt) R1:=by
  have h1:=ze3 (r:=r) (s:=s) (x:=zbf ⟨22,xn,xa,xi,xt,xy⟩) (a:=xa);have h2:=HR.out;have h3:=h2.ents;have h4:=h2.taken;rw[hR1];exact⟨h1.2.2 h2.small hr0,by rw[h1.1];exact Nat.le_succ_of_le h3,by rw[h1.1];exact Nat.succ_le_succ h4⟩
 have HRo:=Hd hR1o;have HRr:=Hd hR1r;have HBn:=Hd (show zcs r (zbf ⟨22,xn,xa,xi,xt,xy⟩)=⟨3,(r.slots.length:Int),xy⟩ from rfl);rw[HBn.out]at HVi;clear hR1 hR1o hR1r hr0;generalize (r.slots.length:Int)=si at *
 go_upto_region 15 with (go_at_call 43;(with_reducible refine HSl.out.mono ?_);rintro e w2 ⟨rfl,sv2,hs2⟩;have HS2:=Hd hs2;clear hs2)
 have hz3:=zv8 w2 (.cells #[.int .i64 3,.int .i64 si,.string xy] 78);have HS3:=Hd (HS2.out.next (ba1 w2 (.cells #[.int .i64 3,.int .i64 si,.string xy] 78)));have HZs:=Hd (show w1.heap.size≤w2.heap.size from HS2.out.size);generalize w2.alloc (.cells #[.int .i64 3,.int .i64 si,.string xy] 78)=w3 at *;have HZ3:=Hd hz3;have hAw:A≤w3.heap.size:=by have:=HS3.out.bLe;omega
 have HP:=Hd (HPt.out w3 HS3.out.vis.res.lt hAw (zao HS3.out.vis.res.blk).1.2.2.2.2.1 (HI.out.below ((HB1.out.mono hBw).trans HS3.out.below) hAB));clear hz3 y0 y1 y2 y3 y5 y4;generalize partsAt f.body fr k=ps at *
 go_wp2_with (go_at_call 65;(with_reducible refine HP.out.mono ?_);rintro e w6 ⟨⟨v,rfl,hrow⟩,hb6⟩;obtain⟨pa,pc,rfl,hrw⟩:=ze4 hrow;have HRw:=Hd hrw;have HB6:=Hd hb6;clear hrow hb6 hrw)
 have HS0:=Hd (show Stg B fs f vp (.slice (some ⟨ba,off,none⟩) f.body.length cb) w3 w6 w6 rb c mb mt p ov sv2 sv2 up (s.take xt) R1 from ⟨HS3.out.vis.below HB6.out,HB6.out.mono HS3.out.bLe,KeepU.refl _ _,zv0 _,fun _ e=>.inl e⟩)
 go_loopg [83] ps.length (fun m v83 wy=>∃(i:Nat) (sv3:Value),m=ps.length-i∧i≤ps.length∧v83=.int .i64 (i:Int)∧Hid (Stg B fs f vp (.slice (some ⟨ba,off,none⟩) f.body.length cb) w3 w6 wy rb c mb mt p ov sv2 sv3 up (visitsN f.body fr fs (ps.take i) up (s.take xt) R1).2 (visitsN f.body fr fs (ps.take i) up (s.take xt) R1).1))
 case atStart=>exact⟨0,sv2,by omega,Nat.zero_le _,rfl,HS0⟩
 case round=>
  obtain⟨i,sv3,hm,hi,rfl,HS⟩:=hrel
  by_cases hlt:i<ps.length
  ·obtain⟨pb,po,rfl,hpb,hpl6,hpc⟩:=HRw.out i hlt
   have hkp:=(HS.out.keep pb hpl6 (fun hT=>by
    have h1:=HS3.out.vis;rcases hT with e|e|e|e|e
    ·have:=h1.res.lt;omega
    ·have:=h1.sc.ents.lt;omega
    ·have:=h1.sc.taken.lt;omega
    ·have:=zbG h1.res.slots e;omega
    ·have:=zbG h1.res.out e;omega))
   have hpc:=(World.cell?_of_block (a:=⟨pb,po+i,none⟩) hkp).trans hpc;have hpk:=HPs.out ps[i] (zwb hlt);have HNx:=Hd (zgD (t:=f.body) (fr:=fr) (fs:=fs) ps i hlt up (s.take xt) R1);have hgr:=zi8 (t:=f.body) (fr:=fr) (fs:=fs) (ps.take i) up (s.take xt) R1;generalize visitsN f.body fr fs (ps.take i) up (s.take xt) R1=q at *;have HC:=Hd (HIh.out _ hpk wr c mb mt p ov sv3 up q.2 false q.1 HS.out.vis (HI.out.below ((HB1.out.mono hBw).trans (HS3.out.below.trans HS.out.below)) hAB) (HRr.out.grow hgr) (hgr.2.2.2.1.trans HRo.out));generalize ps[i]=pi at *;clear hkp hgr
   go_wp2_with (go_at_call 44;(with_reducible refine HC.out.mono ?_);rintro e w7 ⟨rfl,sv4,hs4⟩;have HS4:=Hd (HS.out.visit hs4);clear hs4)
   go_roundg (ps.length-(i+1))
   case measure=>omega
   case rel=>exact⟨i+1,sv4,rfl,hlt,by go_num,Hd (by rw[HNx.out];exact HS4.out)⟩
  ·obtain rfl:i=ps.length:=by omega
   rw[List.take_length]at HS;have hgr:=zi8 (t:=f.body) (fr:=fr) (fs:=fs) ps up (s.take xt) R1;generalize visitsN f.body fr fs ps up (s.take xt) R1=q at *;have HQo:=Hd (hgr.2.2.2.1.trans HRo.out);have HQe:=Hd (HRr.out.grow hgr);have hSb:=HS.out.ahead HB6.out;have hSa:=HS3.out.visit hSb;have h2:=HS2.out.vis
   have hz:=(hSb.keep w2.heap.size (zaa HZ3.out) (fun hT=>by
    rcases hT with e|e|e|e|e
    ·have:=h2.res.lt;omega
    ·have:=h2.sc.ents.lt;omega
    ·have:=h2.sc.taken.lt;omega
    ·have:=zbG h2.res.slots e;omega
    ·have:=zbG h2.res.out e;omega)).trans HZ3.out
   have hy:=(hSa.keep w.heap.size hmv (fun hT=>by
    have h1:=HV.out;rcases hT with e|e|e|e|e
    ·have:=h1.res.lt;omega
    ·have:=h1.sc.ents.lt;omega
    ·have:=h1.sc.taken.lt;omega
    ·have:=zbG h1.res.slots e;omega
    ·have:=zbG h1.res.out e;omega)).trans HQ1.out
   have hov:=hSa.vis.res.out;rw[HQo.out]at hov;obtain⟨g,cap,rfl,hgB,hgl,hcn,hcm,hgc,hgf⟩:=zax zeZ hov HQo.out.symm (i:=k) (by rw[HQo.out];exact hk);have hg2:g<w2.heap.size:=zbG h2.res.out rfl;have hgw:g<w.heap.size:=zbG HV.out.res.out rfl;have HSa:=Hd hSa;have HZr:=Hd hz;have HYr:=Hd hy;obtain⟨⟨z0,z1,z2⟩,_⟩:=zac hz;obtain⟨⟨k0,k1,k2,k3,k4,k5,k6,k7,k8⟩,_⟩:=zao hSa.vis.res.blk;have c0:=hgc 0 _ rfl;have c1:=hgc 1 _ rfl;have c2:=hgc 2 _ rfl;have f0:=hgf (k*3);have f1:=hgf (k*3+1);have f2:=hgf (k*3+2);rw[Nat.add_zero]at c0;clear k0 k1 k2 k3 k4 k5 k7 k8 hov hSa hSb hz hy h2 hgc hgf HS HS0 HS2 HS3 hgr
   go_upto_region 20 with fail
   go_region_law (fail)
   all_goals
    have HS5:=Hd ((HSa.out.put (b:=⟨3,si,xy⟩) HQo.out hk).next (zv3 _ _).drew);have hz5:((((wr.setCell ⟨g,k*3,none⟩ (.int .i64 3)).setCell ⟨g,k*3+1,none⟩ (.int .i64 si)).setCell ⟨g,k*3+2,none⟩ (.string xy)).drew).heap[w2.heap.size]?=wr.heap[w2.heap.size]?:=by
     show (((wr.setCell ⟨g,k*3,none⟩ (.int .i64 3)).setCell ⟨g,k*3+1,none⟩ (.int .i64 si)).setCell ⟨g,k*3+2,none⟩ (.string xy)).heap[w2.heap.size]?=_;rw[Below.heap_setCell _ _ _ _ (show w2.heap.size≠g by omega),Below.heap_setCell _ _ _ _ (show w2.heap.size≠g by omega),Below.heap_setCell _ _ _ _ (show w2.heap.size≠g by omega)]
    have hy5:((((wr.setCell ⟨g,k*3,none⟩ (.int .i64 3)).setCell ⟨g,k*3+1,none⟩ (.int .i64 si)).setCell ⟨g,k*3+2,none⟩ (.string xy)).drew).heap[w.heap.size]?=wr.heap[w.heap.size]?:=by
     show (((wr.setCell ⟨g,k*3,none⟩ (.int .i64 3)).setCell ⟨g,k*3+1,none⟩ (.int .i64 si)).setCell ⟨g,k*3+2,none⟩ (.string xy)).heap[w.heap.size]?=_;rw[Below.heap_setCell _ _ _ _ (show w.heap.size≠g by omega),Below.heap_setCell _ _ _ _ (show w.heap.size≠g by omega),Below.heap_setCell _ _ _ _ (show w.heap.size≠g by omega)]
    have hz6:=hz5.trans HZr.out;have hy6:=hy5.trans HYr.out;have hrl:(q.1.put k ⟨3,si,xy⟩).out.length=f.body.length:=(List.length_set:(q.1.out.set k ⟨3,si,xy⟩).length=_).trans HQo.out;generalize (((wr.setCell ⟨g,k*3,none⟩ (.int .i64 3)).setCell ⟨g,k*3+1,none⟩ (.int .i64 si)).setCell ⟨g,k*3+2,none⟩ (.string xy)).drew=w5 at *;clear hz5 hy5 z0 z1 z2 k6 c0 c1 c2 f0 f1 f2;have HS6:=Hd (HS5.out.next (zv3 _ _).drew);obtain⟨⟨z0,z1,z2⟩,_⟩:=zac hz6;obtain⟨⟨y0,y1,y2,y3,y4,y5⟩,_⟩:=zal hy6;obtain⟨⟨k0,k1,k2⟩,_⟩:=zac HS5.out.vis.sc.blk;have he6:=HS6.out.vis.sc.ents;have hel:=HQe.out.ents;have hem:=HQe.out.small.1;obtain⟨wz,hup,hmz,htz⟩:=he6.store (by unfold maxLen;omega) HXo.out ⟨3,si,xy⟩;have HMz:=Hd hmz;have HTz:=Hd htz;simp only[bndV]at hup;clear hmz htz he6 hz6 hy6 hel hem y0 y1 y2 y3 y5 k1 k2
    go_upto_region 21 with fail
    go_still_tail 8,(by kernel_rfl)
    change wpList _ _ _ _ _ w5.drew;have HS7:=Hd ((HS6.out.bind HTz.out HMz.out).joins hBw HB1.out)
    go_wp2_with fail
    exact bodyPost_ret (v:=.tuple #[]) (results_none rfl _ _ _) rfl ⟨rfl,sv3,by rw[HVi.out];exact HS7.out⟩
theorem znG {A B rb:Nat}{fs:FileN}{f:FnU}{vp:Value}{ab:Option Addr}{cb:Nat}{fr:List Nat}(hbg:zah f.body=some fr)(hl:f.body.length≤4096)(hT:∀x ∈ f.body,x.kind=3∨x.kind=22→x.text.size≤maxLen)(hAB:A≤B)(k:Nat):k<f.body.length→zmm A B rb fs f vp ab cb fr k:=by
 induction k using Nat.strongRecOn with
 | ind k ih=>
   intro hk w c mb mt p ov sv up s own r h hI hR hout
   by_cases hr:r.fault.2≠0
   ·have HV:=Hd h
    have HE:=Hd (zcO (fs:=fs) (zar hbg) k up s own hr);obtain⟨⟨k0,k1,k2,k3,k4,k5,k6,k7,k8⟩,_⟩:=zao h.res.blk;have t1:(r.fault.2 != 0)=true:=by simpa using hr
    clear k0 k1 k2 k3 k4 k5 k6 k7 h hI hR hout hr ih
    go_enter Tryz.func44,Tryz.ntmps44
    go_wp2_with fail
    refine bodyPost_end (results_none rfl _ _ _) rfl ⟨rfl,sv,?_⟩;rw[HE.out];exact Stg.refl HV.out
   ·have hr0:r.fault.2=0:=by simpa using hr
    by_cases h22:(f.body.getD k ndU0).kind=22
    ·exact znF hbg hl hT hAB k hk (fun p hp=>ih p hp (by omega)) w c mb mt p ov sv up s own r h hI hR hout hr0 h22
    ·exact znE hbg hl hT hAB k hk (fun p hp=>ih p hp (by omega)) w c mb mt p ov sv up s own r h hI hR hout hr0 h22
end Go.Proofs.YtbbaooeioogijaaGreatDoor
