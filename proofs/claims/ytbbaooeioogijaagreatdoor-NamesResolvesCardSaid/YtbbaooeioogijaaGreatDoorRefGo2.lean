/- A node gone through: the reference: declarations, all but na -/
import Derived.Test.YtbbaooeioogijaaGreatDoorMg15
namespace Go.Proofs.YtbbaooeioogijaaGreatDoor
open Go.RowKit Go.Maps
set_option maxRecDepth 100000
set_option maxHeartbeats 16000000
theorem zes {w w':World}{b j:Nat}(h:w'.heap[b]?=w.heap[b]?):w'.cell? ⟨b,j,none⟩=w.cell? ⟨b,j,none⟩:=by simp only[World.cell?,h]
theorem zqy:(Tryz.prog.info? 122).map (fun i=>(i.zero,i.size,i.bytes))=some (some (.agg #[.string ⟨#[]⟩,.int .i64 0,.int .i64 0]),3,32):=by kernel_rfl
theorem zuh {w:World}{base n k c:Nat}{a:Option Addr}{T:TypeId}{xs:List Value}(h:w.ownsRow base T k (.slice a n c) n xs):n≤c∧c≤maxLen:=by
 obtain⟨_,h⟩:=h;rcases h with ⟨e,h0⟩|⟨g,cap,cur,e,_,_,hn,hc,_⟩
 ·simp only[Value.slice.injEq]at e
  obtain⟨rfl,rfl,rfl⟩:=e;exact⟨zv0 _,Nat.zero_le _⟩
 ·simp only[Value.slice.injEq]at e
  obtain⟨rfl,_,rfl⟩:=e;exact⟨hn,hc⟩
theorem zoa {B b:Nat}{fs:FileN}{t:List Nd}{ta:Option Addr}{ct:Nat}{fr:List Nat}{af:Option Addr}{cf:Nat}{an:Option Addr}{cn:Nat}{bv:Value}(hc:checkN9 t=0)(hbe:zah t=some fr)(hOk:∀x ∈ t,NdOk x)(k:Nat)(hk:k<t.length)(hl:t.length≤4096)(h3:(t.getD k ndU0).kind=22)(ih:∀p,p<k→zfW B b fs t ta ct fr af cf an cn bv p):zfW B b fs t ta ct fr af cf an cn bv k:=by
 intro w d sv iv s h hI hF hs hi ho hd;have hf:=zar hbe;have hgo:=zgf (fs:=fs) hf k d s;rw[if_neg (by omega),if_pos h3]at hgo;have hx:t.getD k ndU0=t[k]:=by simp[List.getD,hk]
 rw[hx]at hgo h3;obtain⟨ba,off,ha,hbl,x0,x1,x2,x3,x4,x5⟩:=zbg hI hk;clear hx;have HPr:=Hd (fun w1 (hb:Below B w w1) (hz:B≤w1.heap.size)=>zf5 ta ct t (k:Int) w1 ((hI.below hb (zv0 _)).mono hz) hOk (by omega));unfold zfn at HPr;simp only[zgX hc hk hbe]at HPr;have HIh:=Hd (fun p (hp:p ∈ partsAt t fr k) w1 (hb:Below B w w1)=>fun d sv iv s hm h1 h2 h3 h4=>ih p (hf.parts_lt hp) w1 d sv iv s hm (hI.below hb (zv0 _)) (hF.below hb) h1 h2 h3 h4);have HPl:=Hd (fun p (hp:p ∈ partsAt t fr k)=>hf.parts_lt hp);have hpl:(partsAt t fr k).length≤4096:=by
  rw[zan (zv1 hk),zak];have:=(hf.node k _ (zv1 hk)).2.1.le;omega
 have HGk:=Hd (fun (p d:Nat) (w w':WayN) (e:goN t fr fs p d w=.inr w')=>zqJ hf p d w w' e);have HGs:=Hd (fun (i d:Nat) (w w':WayN) (e:gosN t fr fs ((partsAt t fr k).take i) d w=.inr w')=>zna (t:=t) (fr:=fr) (fs:=fs) (m:=k) (fun p _ d w w' e=>zqJ hf p d w w' e) ((partsAt t fr k).take i) (fun p hp=>hf.parts_lt (List.mem_of_mem_take hp)) d w w' e);generalize partsAt t fr k=ps at *;generalize t[k]=x at *;obtain⟨xk,xn,xa,xi,xt,xy⟩:=x;simp only at *;subst ha;subst h3;obtain⟨⟨k0,k1,k2,k3,k4,k5,k6,k7⟩,kf⟩:=zaC h.blk;have hBw:=h.bLe;have HM:=Hd h;have hk0:(0:Int)≤(k:Int):=by omega
 have hkt:(k:Int)<(t.length:Int):=by omega
 have HGo:=Hd hgo;generalize goN t fr fs k d s=res at *;have hko:k<s.out.length:=by omega
 have hol:(s.out.length:Int)≤4096:=by omega
 have hko2:(k:Int)<(s.out.length:Int):=by omega
 have HOt:=Hd ho;clear ho;obtain⟨ai,ci,rfl⟩:=zam h.ins;obtain⟨asl,cs,rfl⟩:=zam h.slots;obtain⟨g,cap,rfl,_,_,_,_,_,_⟩:=zax zdA h.out rfl hko;have hsi:(s.slots.length:Int)≤256:=by omega
 have hii:(s.ins.length:Int)≤256:=by omega
 have hdi:(d:Int)≤9000:=by omega
 have hpi:(ps.length:Int)≤4096:=by omega
 clear h hI hF hgo ih hOk hc hbe
 go_enter Tryz.func46,Tryz.ntmps46
 go_upto_region 2 with fail
 generalize hgQ:w.alloc (.cells #[.int .i64 22,.int .i64 xn,.int .i64 xa,.int .i64 xi,.string xt,.string xy] 47)=w1 at *;obtain⟨hq1,hb1⟩:=box0 hgQ;clear hgQ;have HM1:=Hd (HM.out.below hb1);have HW0:=Hd (WStep.of_below HM.out hb1);have HNt:=Hd (HM.out.old (zv0 w.heap.size));have HX:=Hd (fun wx {v1 v2 v3 sv' iv':Value} {s':WayN} {f':Int × Int} (gg:WStep B w1 wx b v1 v2 v3 (.slice asl s.slots.length cs) (.slice (some ⟨g,0,none⟩) s.out.length cap) (.slice ai s.ins.length ci) sv' iv' s' f')=>(zal ((gg.keep _ (zaa hq1) HNt.out).trans hq1)).1);have HK:=Hd (fun wx {v1 v2 v3 sv' iv':Value} {s':WayN} {f':Int × Int} (gg:WStep B w1 wx b v1 v2 v3 (.slice asl s.slots.length cs) (.slice (some ⟨g,0,none⟩) s.out.length cap) (.slice ai s.ins.length ci) sv' iv' s' f')=>zaC gg.m.blk);have HBw:=Hd (fun wx {v1 v2 v3 sv' iv':Value} {s':WayN} {f':Int × Int} (gg:WStep B w1 wx b v1 v2 v3 (.slice asl s.slots.length cs) (.slice (some ⟨g,0,none⟩) s.out.length cap) (.slice ai s.ins.length ci) sv' iv' s' f')=>show Below B w wx∧B≤wx.heap.size from ⟨(hb1.mono hBw).trans gg.below,zv6 hBw (zv6 hb1.size gg.size)⟩);obtain⟨y0,y1,y2,y3,y4,y5⟩:=HX.out w1 (WStep.refl HM1.out);obtain⟨⟨k0',k1',k2',k3',k4',k5',k6',k7'⟩,kf'⟩:=HK.out w1 (WStep.refl HM1.out);have HXz:=Hd (zaa hq1);clear hb1 hq1 k0 k1 k2 k3 k4 k5 k6 k7 kf x0 x1 x2 x3 x4 x5;have HSl:=Hd (zh2 ⟨xt,xy,decide (xi=1),false⟩ xa d w1 HM1.out (by omega) (by omega) (by omega));unfold zju slUV at HSl;have hvol:(xi == 1)=decide (xi=1):=rfl;have HGo2:=HGo;rw[show zbf ⟨22,xn,xa,xi,xt,xy⟩=⟨xt,xy,decide (xi=1),false⟩ from rfl]at HGo;rcases hsl:s.slot ⟨xt,xy,decide (xi=1),false⟩ xa d with f|s1
 ·rw[hsl]at HSl HGo
  simp only at HSl;clear hsl HGo2
  go_wp2_with (go_at_call 45;(with_reducible refine HSl.out.mono ?_);rintro e w2 ⟨rfl,hs2⟩;have HS2:=Hd hs2;clear hs2)
  go_ret;rw[HGo.out];exact⟨rfl,_,_,_,HW0.out.trans HS2.out⟩
 ·rw[hsl]at HSl HGo
  obtain⟨rfl,hlt256⟩:=zgq hsl;simp only at HSl;have HGo:=Hd (show res=zcA (gosN t fr fs ps d (WayN.put ⟨s.slots++[⟨xt,xy,decide (xi=1),false⟩],s.out,s.ins⟩ k ⟨3,(s.slots.length:Int),xy⟩)) (fun w2=>.inr (w2.bind (xt,s.slots.length,d))) from HGo.out);clear hsl HGo2
  go_upto_region 12 with (go_at_call 45;(with_reducible refine HSl.out.mono ?_);rintro e w2 ⟨rfl,sv2,hs2⟩;have HS2:=Hd hs2;clear hs2)
  clear k0' k1' k2' k3' k4' k5' k6' k7' kf' y0 y1 y2 y3 y4 y5;obtain⟨⟨k0,k1,k2,k3,k4,k5,k6,k7⟩,kf⟩:=HK.out w2 HS2.out;obtain⟨y0,y1,y2,y3,y4,y5⟩:=HX.out w2 HS2.out;obtain⟨g2,cap2,e2,_,_,_,_,hcs,hfz⟩:=zax zdA HS2.out.m.out rfl hko;obtain⟨rfl,rfl⟩:g=g2∧cap=cap2:=by simpa using e2
  have m0:=hcs 0 _ rfl;have m1:=hcs 1 _ rfl;have m2:=hcs 2 _ rfl;rw[Nat.add_zero]at m0;have fz0:=hfz (k*3);have fz1:=hfz (k*3+1);have fz2:=hfz (k*3+2);have HS3:=Hd ((HS2.out.trans (HS2.out.m.put rfl hko ⟨3,(s.slots.length:Int),xy⟩)).more (zv3 _ _).drew);clear hcs hfz e2 k0 k1 k2 k3 k5 k6 k7 kf
  go_region_law (fail)
  all_goals
   clear k4 m0 m1 m2 fz0 fz1 fz2 y0 y1 y2 y3 y4 y5;generalize (((w2.setCell ⟨g,k*3,none⟩ (.int .i64 3)).setCell ⟨g,k*3+1,none⟩ (.int .i64 (s.slots.length:Int))).setCell ⟨g,k*3+2,none⟩ (.string xy)).drew=w3 at *;obtain⟨⟨k0,k1,k2,k3,k4,k5,k6,k7⟩,kf⟩:=HK.out _ HS3.out;obtain⟨y0,y1,y2,y3,y4,y5⟩:=HX.out _ HS3.out;have HP3:=Hd (HPr.out w3 (HBw.out w3 HS3.out).1 (HBw.out w3 HS3.out).2)
   go_upto_region 18 with (go_at_call 67;(with_reducible refine HP3.out.mono ?_);rintro e w4 ⟨⟨pv,rfl,hrow⟩,hb4⟩;obtain⟨pa,pc,rfl,hra⟩:=ze4 hrow;have HRa:=Hd hra;have HB4:=Hd hb4;clear hrow hra hb4)
   have HS4:=Hd (HS3.out.more HB4.out)
   have HNp:=Hd (fun (i:Nat) (hi:i<ps.length) (wy:World) {v1 v2 v3 sv' iv':Value} {s':WayN} {f':Int × Int} (gg:WStep B w4 wy b v1 v2 v3 sv2 (.slice (some ⟨g,0,none⟩) s.out.length cap) (.slice ai s.ins.length ci) sv' iv' s' f')=>show ∃gp off,pa=some ⟨gp,off,none⟩∧wy.cell? ⟨gp,off+i,none⟩=some (.int .i64 (ps[i]:Int)) from by
    obtain⟨gp,off,rfl,h1,h2,h3⟩:=HRa.out i hi;refine⟨gp,off,rfl,?_⟩;rw[zes (gg.keep gp h2 (HS3.out.m.old h1))]
    exact h3)
   clear k0 k1 k2 k3 k4 k5 k6 k7 kf y0 y1 y2 y3 y4 y5
   go_wp2_with fail
   go_loopg [15] ps.length (fun m v15 wy=>∃(i:Nat) (svi ivi:Value) (si:WayN),i≤ps.length∧i+m=ps.length∧v15=.int .i64 (i:Int)∧Hid (gosN t fr fs (ps.take i) d (WayN.put ⟨s.slots++[⟨xt,xy,decide (xi=1),false⟩],s.out,s.ins⟩ k ⟨3,(s.slots.length:Int),xy⟩)=.inr si)∧Hid (WStep B w4 wy b (.slice (some ⟨ba,off,none⟩) t.length ct) (.slice af fs.ents.length cf) (.slice an fs.ents.length cn) sv2 (.slice (some ⟨g,0,none⟩) s.out.length cap) (.slice ai s.ins.length ci) svi ivi si (0,0)))
   case atStart=>exact⟨0,_,_,(WayN.put ⟨s.slots++[⟨xt,xy,decide (xi=1),false⟩],s.out,s.ins⟩ k ⟨3,(s.slots.length:Int),xy⟩),by omega,by omega,rfl,Hd (by rw[List.take_zero,gosN]),Hd (WStep.refl HS4.out.m)⟩
   case round=>
    obtain⟨i,svi,ivi,si,hip,him,rfl,HGi,HSi⟩:=hrel;have HSt:=Hd (HS4.out.trans HSi.out);have hgi:=HGs.out i d _ si HGi.out;have q1:=hgi.slots;have q2:=hgi.ins;have q3:=hgi.both;have q4:=hgi.out;have q5:=hgi.small
    try simp only[WayN.put,List.length_append,List.length_cons,List.length_nil,List.length_set]at q1 q2 q3 q4 q5
    have q6:=q5 (by omega);have q7:si.ins.length≤si.slots.length:=by omega
    have q8:=Hd (q4.trans HOt.out);have HGok:=Hd (And.intro q1 q2);clear hgi q1 q2 q3 q4 q5
    by_cases hlt:i<ps.length
    ·obtain⟨gp,poff,rfl,hcp⟩:=HNp.out i hlt wr HSi.out
     have HCall:=Hd (HIh.out ps[i] (zwb hlt) wr (HBw.out wr HSt.out).1 d svi ivi si HSi.out.m q6 q7 q8.out (by have:=HPl.out _ (zwb hlt);omega));unfold zk5 at HCall;have hip1:(i:Int)<(ps.length:Int):=by omega
     have hip0:(0:Int)≤(i:Int):=by omega
     have HNx:=Hd (zgv HGi.out hlt);have HFl:=Hd (fun f (e:goN t fr fs ps[i] d si=.inl f)=>zi9 HGi.out hlt e);generalize ps[i]=pi at *;rcases hg:goN t fr fs pi d si with f|s'
     ·rw[hg]at HCall
      simp only at HCall;have HFin:=Hd (HFl.out f hg);clear hg
      go_wp2_with (go_at_call 46;(with_reducible refine HCall.out.mono ?_);rintro e w5 ⟨rfl,sv5,iv5,s5,hs5⟩;have HS5:=Hd hs5;clear hs5)
      go_ret;rw[HGo.out];rw[HFin.out];exact⟨rfl,_,_,_,HW0.out.trans (HSt.out.trans HS5.out)⟩
     ·rw[hg]at HCall HNx
      simp only at HCall;clear hg HFl
      go_wp2_with (go_at_call 46;(with_reducible refine HCall.out.mono ?_);rintro e w5 ⟨rfl,sv5,iv5,hs5⟩;have HS5:=Hd hs5;clear hs5)
      go_roundg (ps.length-(i+1))
      case measure=>omega
      case rel=>exact⟨i+1,_,_,s',by omega,by omega,by rw[zv9];rfl,HNx,Hd (HSi.out.trans HS5.out)⟩
    ·obtain rfl:i=ps.length:=by omega
     have HGf:=Hd (show gosN t fr fs ps d (WayN.put ⟨s.slots++[⟨xt,xy,decide (xi=1),false⟩],s.out,s.ins⟩ k ⟨3,(s.slots.length:Int),xy⟩)=.inr si from by have:=HGi.out;rwa [List.take_length]at this);obtain⟨⟨k0,k1,k2,k3,k4,k5,k6,k7⟩,kf⟩:=HK.out _ HSt.out;obtain⟨y0,y1,y2,y3,y4,y5⟩:=HX.out _ HSt.out;clear HGi HNp HRa;obtain⟨ai2,ci2,rfl⟩:=zam HSt.out.m.ins;obtain⟨i0,hi0,hz0,hz1',hz2'⟩:=info_parts zqy;have HIn:=Hd (And.intro hi0 (And.intro hz0 (And.intro hz1' hz2')));clear hi0 hz0 hz1' hz2';have hin:(si.ins.length:Int)≤256:=by omega
     have hww:IntKind.i64.wrap (d:Int)=(d:Int):=by rw[IntKind.wrap_i64];omega
     have HBig:=Hd (show Below wr.heap.size wr (wr.alloc (.cells #[.string xt,.int .i64 (s.slots.length:Int),.int .i64 (d:Int)] 122)).drew from ((zv3 _ _).alloc (zv0 _) _).drew);have HMn:=Hd (HSt.out.m.below HBig.out);have hBr:B≤wr.heap.size:=HSt.out.m.bLe;have hrz:=HSt.out.m.lt;have hxz:w.heap.size<wr.heap.size:=zv5 HXz.out HSt.out.size;have kf5:=kf 5;have hsl:s.slots.length<si.slots.length:=by have:=HGok.out.1;omega
     clear k0 k1 k2 k3 k4 k6 k7 kf
     go_upto_region 26 with fail
     go_region_law ((refine step_append_lies _ (by rfl) _ _ _ (by rfl) B 122 i0 _ 3 32 Tryz.underlying117 HIn.out.1 HIn.out.2.1 HIn.out.2.2.1 HIn.out.2.2.2 rfl (by omega) (.slice ai2 si.ins.length ci2) si.ins.length (si.ins.flatMap zb5) (by rfl) (HSt.out.m.ins.belowed HBig.out) ⟨wr.heap.size,0,none⟩ 1 1 (zb5 (xt,s.slots.length,d)) (by rfl) (by rfl) (World.news_of_block (cs:=#[.string xt,.int .i64 (s.slots.length:Int),.int .i64 (d:Int)]) (t:=122) (fr:=(0,0)) (zv8 wr _)) (by simp[zb5,Value.oneCell']) (by omega) (by unfold maxLen;omega) (by omega) (by simp;omega) (wr.heap.size+1) (by simp) ?_;intro gg cpp w9 hown hgrow hat hlt9;obtain⟨⟨_,_,_,_,_,j5,_⟩,jf⟩:=zaC ((hgrow.block _ HMn.out.lt (fun e=>HMn.out.a1.2.2 e.symm)).trans HMn.out.blk);have jf5:=jf 5))
     all_goals
      have HS9:=Hd ((WStep.of_below HSt.out.m HBig.out).trans (HMn.out.grewI (l:=(xt,s.slots.length,d)) hsl hgrow hown (fun k hk=>(zca hat hk).imp id (fun e=>e.trans (by show _=(wr.alloc _).heap.size;simp)))));clear hown hgrow hat hlt9 j5 jf jf5
      go_wp2_with fail
      go_ret;rw[HGo.out];rw[HGf.out];exact⟨rfl,_,_,HW0.out.trans (HSt.out.trans HS9.out)⟩
theorem zn9 {B b:Nat}{fs:FileN}{t:List Nd}{ta:Option Addr}{ct:Nat}{fr:List Nat}{af:Option Addr}{cf:Nat}{an:Option Addr}{cn:Nat}{bv:Value}(hc:checkN9 t=0)(hbe:zah t=some fr)(hOk:∀x ∈ t,NdOk x)(k:Nat)(hk:k<t.length)(hl:t.length≤4096)(h3:(t.getD k ndU0).kind≠3)(h22:(t.getD k ndU0).kind≠22)(ih:∀p,p<k→zfW B b fs t ta ct fr af cf an cn bv p):zfW B b fs t ta ct fr af cf an cn bv k:=by
 intro w d sv iv s h hI hF hs hi ho hd;have hf:=zar hbe;have hgo:=zgf (fs:=fs) hf k d s;rw[if_neg h3,if_neg h22]at hgo;have hx:t.getD k ndU0=t[k]:=by simp[List.getD,hk]
 rw[hx]at hgo h3 h22;obtain⟨ba,off,ha,hbl,x0,x1,x2,x3,x4,x5⟩:=zbg hI hk;clear hx;have HPr:=Hd (fun w1 (hb:Below B w w1) (hz:B≤w1.heap.size)=>zf5 ta ct t (k:Int) w1 ((hI.below hb (zv0 _)).mono hz) hOk (by omega));unfold zfn at HPr;simp only[zgX hc hk hbe]at HPr;have HIh:=Hd (fun p (hp:p ∈ partsAt t fr k) w1 (hb:Below B w w1)=>fun d sv iv s hm h1 h2 h3 h4=>ih p (hf.parts_lt hp) w1 d sv iv s hm (hI.below hb (zv0 _)) (hF.below hb) h1 h2 h3 h4);have HPl:=Hd (fun p (hp:p ∈ partsAt t fr k)=>hf.parts_lt hp);have hpl:(partsAt t fr k).length≤4096:=by
  rw[zan (zv1 hk),zak];have:=(hf.node k _ (zv1 hk)).2.1.le;omega
 have HGk:=Hd (fun (p d:Nat) (w w':WayN) (e:goN t fr fs p d w=.inr w')=>zqJ hf p d w w' e);have HGs:=Hd (fun (i d:Nat) (w w':WayN) (e:gosN t fr fs ((partsAt t fr k).take i) d w=.inr w')=>zna (t:=t) (fr:=fr) (fs:=fs) (m:=k) (fun p _ d w w' e=>zqJ hf p d w w' e) ((partsAt t fr k).take i) (fun p hp=>hf.parts_lt (List.mem_of_mem_take hp)) d w w' e);generalize partsAt t fr k=ps at *;generalize t[k]=x at *;obtain⟨xk,xn,xa,xi,xt,xy⟩:=x;simp only at *;subst ha;obtain⟨⟨k0,k1,k2,k3,k4,k5,k6,k7⟩,kf⟩:=zaC h.blk;have hBw:=h.bLe;have HM:=Hd h;have hk0:(0:Int)≤(k:Int):=by omega
 have hkt:(k:Int)<(t.length:Int):=by omega
 have HGo:=Hd hgo;generalize goN t fr fs k d s=res at *;have hko:k<s.out.length:=by omega
 have hol:(s.out.length:Int)≤4096:=by omega
 have hko2:(k:Int)<(s.out.length:Int):=by omega
 have HOt:=Hd ho;clear ho;obtain⟨ai,ci,rfl⟩:=zam h.ins;obtain⟨asl,cs,rfl⟩:=zam h.slots;obtain⟨g,cap,rfl,_,_,_,_,_,_⟩:=zax zdA h.out rfl hko;have hsi:(s.slots.length:Int)≤256:=by omega
 have hii:(s.ins.length:Int)≤256:=by omega
 have hdi:(d:Int)≤9000:=by omega
 have hpi:(ps.length:Int)≤4096:=by omega
 clear h hI hF hgo ih hOk hc hbe
 go_enter Tryz.func46,Tryz.ntmps46
 go_upto_region 2 with fail
 generalize hgQ:w.alloc (.cells #[.int .i64 xk,.int .i64 xn,.int .i64 xa,.int .i64 xi,.string xt,.string xy] 47)=w1 at *;obtain⟨hq1,hb1⟩:=box0 hgQ;clear hgQ;have HM1:=Hd (HM.out.below hb1);have HW0:=Hd (WStep.of_below HM.out hb1);have HNt:=Hd (HM.out.old (zv0 w.heap.size));have HX:=Hd (fun wx {v1 v2 v3 sv' iv':Value} {s':WayN} {f':Int × Int} (gg:WStep B w1 wx b v1 v2 v3 (.slice asl s.slots.length cs) (.slice (some ⟨g,0,none⟩) s.out.length cap) (.slice ai s.ins.length ci) sv' iv' s' f')=>(zal ((gg.keep _ (zaa hq1) HNt.out).trans hq1)).1);have HK:=Hd (fun wx {v1 v2 v3 sv' iv':Value} {s':WayN} {f':Int × Int} (gg:WStep B w1 wx b v1 v2 v3 (.slice asl s.slots.length cs) (.slice (some ⟨g,0,none⟩) s.out.length cap) (.slice ai s.ins.length ci) sv' iv' s' f')=>zaC gg.m.blk);have HBw:=Hd (fun wx {v1 v2 v3 sv' iv':Value} {s':WayN} {f':Int × Int} (gg:WStep B w1 wx b v1 v2 v3 (.slice asl s.slots.length cs) (.slice (some ⟨g,0,none⟩) s.out.length cap) (.slice ai s.ins.length ci) sv' iv' s' f')=>show Below B w wx∧B≤wx.heap.size from ⟨(hb1.mono hBw).trans gg.below,zv6 hBw (zv6 hb1.size gg.size)⟩);obtain⟨y0,y1,y2,y3,y4,y5⟩:=HX.out w1 (WStep.refl HM1.out);obtain⟨⟨k0',k1',k2',k3',k4',k5',k6',k7'⟩,kf'⟩:=HK.out w1 (WStep.refl HM1.out);clear k0' k1' k2' k3' k4' k5' k6' k7' kf' y1 y2 y3 y4 y5 hb1 hq1 k0 k1 k2 k3 k4 k5 k6 k7 kf x0 x1 x2 x3 x4 x5;have t3:(xk == 3)=false:=by simpa using h3
 have t22:(xk == 22)=false:=by simpa using h22
 have HS3:=Hd (WStep.refl HM1.out);obtain⟨w3,hw3⟩:∃w3,w3=w1:=⟨_,rfl⟩
 rw[← hw3]at HS3
 by_cases ho:xk=21∨xk=26
 ·rw[if_pos ho]at HGo
  have tk:(xk == 21)=true∨((xk == 21)=false∧(xk == 26)=true):=by
   rcases ho with rfl|rfl
   ·exact .inl rfl
   ·exact .inr ⟨rfl,rfl⟩
  have tgt:decide ((d:Int)<(d:Int)+1)=true:=by simp;omega
  have HD2:=Hd (show (d:Int)+1=((d+1:Nat):Int) by omega);clear h3 h22 ho;rcases tk with tk|⟨tk,tk2⟩
  all_goals
   subst hw3;obtain⟨⟨k0,k1,k2,k3,k4,k5,k6,k7⟩,kf⟩:=HK.out _ HS3.out;obtain⟨y0,y1,y2,y3,y4,y5⟩:=HX.out _ HS3.out;have HP3:=Hd (HPr.out w3 (HBw.out w3 HS3.out).1 (HBw.out w3 HS3.out).2)
   go_upto_region 18 with (go_at_call 67;(with_reducible refine HP3.out.mono ?_);rintro e w4 ⟨⟨pv,rfl,hrow⟩,hb4⟩;obtain⟨pa,pc,rfl,hra⟩:=ze4 hrow;have HRa:=Hd hra;have HB4:=Hd hb4;clear hrow hra hb4)
   have HS4:=Hd (HS3.out.more HB4.out)
   have HNp:=Hd (fun (i:Nat) (hi:i<ps.length) (wy:World) {v1 v2 v3 sv' iv':Value} {s':WayN} {f':Int × Int} (gg:WStep B w4 wy b v1 v2 v3 (.slice asl s.slots.length cs) (.slice (some ⟨g,0,none⟩) s.out.length cap) (.slice ai s.ins.length ci) sv' iv' s' f')=>show ∃gp off,pa=some ⟨gp,off,none⟩∧wy.cell? ⟨gp,off+i,none⟩=some (.int .i64 (ps[i]:Int)) from by
    obtain⟨gp,off,rfl,h1,h2,h3⟩:=HRa.out i hi;refine⟨gp,off,rfl,?_⟩;rw[zes (gg.keep gp h2 (HS3.out.m.old h1))]
    exact h3)
   clear k0 k1 k2 k3 k4 k5 k6 k7 kf y0 y1 y2 y3 y4 y5
   go_wp2_with fail
   go_loopg [15] ps.length (fun m v15 wy=>∃(i:Nat) (svi ivi:Value) (si:WayN),i≤ps.length∧i+m=ps.length∧v15=.int .i64 (i:Int)∧Hid (gosN t fr fs (ps.take i) (d+1) s=.inr si)∧Hid (WStep B w4 wy b (.slice (some ⟨ba,off,none⟩) t.length ct) (.slice af fs.ents.length cf) (.slice an fs.ents.length cn) (.slice asl s.slots.length cs) (.slice (some ⟨g,0,none⟩) s.out.length cap) (.slice ai s.ins.length ci) svi ivi si (0,0)))
   case atStart=>exact⟨0,_,_,s,by omega,by omega,rfl,Hd (by rw[List.take_zero,gosN]),Hd (WStep.refl HS4.out.m)⟩
   case round=>
    obtain⟨i,svi,ivi,si,hip,him,rfl,HGi,HSi⟩:=hrel;have HSt:=Hd (HS4.out.trans HSi.out);have hgi:=HGs.out i (d+1) _ si HGi.out;have q1:=hgi.slots;have q2:=hgi.ins;have q3:=hgi.both;have q4:=hgi.out;have q5:=hgi.small
    try simp only[WayN.put,List.length_append,List.length_cons,List.length_nil,List.length_set]at q1 q2 q3 q4 q5
    have q6:=q5 (by omega);have q7:si.ins.length≤si.slots.length:=by omega
    have q8:=Hd (q4.trans HOt.out);have HGok:=Hd (And.intro q1 q2);clear hgi q1 q2 q3 q4 q5
    by_cases hlt:i<ps.length
    ·obtain⟨gp,poff,rfl,hcp⟩:=HNp.out i hlt wr HSi.out
     have HCall:=Hd (HIh.out ps[i] (zwb hlt) wr (HBw.out wr HSt.out).1 (d+1) svi ivi si HSi.out.m q6 q7 q8.out (by have:=HPl.out _ (zwb hlt);omega));rw[← HD2.out]at HCall;unfold zk5 at HCall;have hip1:(i:Int)<(ps.length:Int):=by omega
     have hip0:(0:Int)≤(i:Int):=by omega
     have HNx:=Hd (zgv HGi.out hlt);have HFl:=Hd (fun f (e:goN t fr fs ps[i] (d+1) si=.inl f)=>zi9 HGi.out hlt e);generalize ps[i]=pi at *;rcases hg:goN t fr fs pi (d+1) si with f|s'
     ·rw[hg]at HCall
      simp only at HCall;have HFin:=Hd (HFl.out f hg);clear hg
      go_wp2_with (go_at_call 46;(with_reducible refine HCall.out.mono ?_);rintro e w5 ⟨rfl,sv5,iv5,s5,hs5⟩;have HS5:=Hd hs5;clear hs5)
      go_ret;rw[HGo.out];rw[HFin.out];exact⟨rfl,_,_,_,HW0.out.trans (HSt.out.trans HS5.out)⟩
     ·rw[hg]at HCall HNx
      simp only at HCall;clear hg HFl
      go_wp2_with (go_at_call 46;(with_reducible refine HCall.out.mono ?_);rintro e w5 ⟨rfl,sv5,iv5,hs5⟩;have HS5:=Hd hs5;clear hs5)
      go_roundg (ps.length-(i+1))
      case measure=>omega
      case rel=>exact⟨i+1,_,_,s',by omega,by omega,by rw[zv9];rfl,HNx,Hd (HSi.out.trans HS5.out)⟩
    ·obtain rfl:i=ps.length:=by omega
     have HGf:=Hd (show gosN t fr fs ps (d+1) s=.inr si from by have:=HGi.out;rwa [List.take_length]at this);obtain⟨⟨k0,k1,k2,k3,k4,k5,k6,k7⟩,kf⟩:=HK.out _ HSt.out;obtain⟨y0,y1,y2,y3,y4,y5⟩:=HX.out _ HSt.out;clear HGi HNp HRa;obtain⟨ai2,ci2,rfl⟩:=zam HSt.out.m.ins;have hcap:=zuh HSt.out.m.ins;have hin:=HGok.out.2;have h01:(0:Int)≤(s.ins.length:Int):=by omega
     have h02:(s.ins.length:Int)≤(ci2:Int):=by omega
     have kf5:=kf 5;clear k0 k1 k2 k3 k4 k6 k7 kf;have HS6:=Hd (HSt.out.m.cut (n:=s.ins.length) hin)
     go_wp2_with fail
     go_ret;rw[HGo.out];rw[HGf.out];exact⟨rfl,_,_,HW0.out.trans (HSt.out.trans HS6.out)⟩
 ·rw[if_neg ho]at HGo
  have tk:(xk == 21)=false:=by simp;omega
  have tk2:(xk == 26)=false:=by simp;omega
  have tgt:decide ((d:Int)<(d:Int))=false:=by simp
  clear h3 h22 ho;subst hw3;obtain⟨⟨k0,k1,k2,k3,k4,k5,k6,k7⟩,kf⟩:=HK.out _ HS3.out;obtain⟨y0,y1,y2,y3,y4,y5⟩:=HX.out _ HS3.out;have HP3:=Hd (HPr.out w3 (HBw.out w3 HS3.out).1 (HBw.out w3 HS3.out).2)
  go_upto_region 18 with (go_at_call 67;(with_reducible refine HP3.out.mono ?_);rintro e w4 ⟨⟨pv,rfl,hrow⟩,hb4⟩;obtain⟨pa,pc,rfl,hra⟩:=ze4 hrow;have HRa:=Hd hra;have HB4:=Hd hb4;clear hrow hra hb4)
  have HS4:=Hd (HS3.out.more HB4.out)
  have HNp:=Hd (fun (i:Nat) (hi:i<ps.length) (wy:World) {v1 v2 v3 sv' iv':Value} {s':WayN} {f':Int × Int} (gg:WStep B w4 wy b v1 v2 v3 (.slice asl s.slots.length cs) (.slice (some ⟨g,0,none⟩) s.out.length cap) (.slice ai s.ins.length ci) sv' iv' s' f')=>show ∃gp off,pa=some ⟨gp,off,none⟩∧wy.cell? ⟨gp,off+i,none⟩=some (.int .i64 (ps[i]:Int)) from by
   obtain⟨gp,off,rfl,h1,h2,h3⟩:=HRa.out i hi;refine⟨gp,off,rfl,?_⟩;rw[zes (gg.keep gp h2 (HS3.out.m.old h1))]
   exact h3)
  clear k0 k1 k2 k3 k4 k5 k6 k7 kf y0 y1 y2 y3 y4 y5
  go_wp2_with fail
  go_loopg [15] ps.length (fun m v15 wy=>∃(i:Nat) (svi ivi:Value) (si:WayN),i≤ps.length∧i+m=ps.length∧v15=.int .i64 (i:Int)∧Hid (gosN t fr fs (ps.take i) d s=.inr si)∧Hid (WStep B w4 wy b (.slice (some ⟨ba,off,none⟩) t.length ct) (.slice af fs.ents.length cf) (.slice an fs.ents.length cn) (.slice asl s.slots.length cs) (.slice (some ⟨g,0,none⟩) s.out.length cap) (.slice ai s.ins.length ci) svi ivi si (0,0)))
  case atStart=>exact⟨0,_,_,s,by omega,by omega,rfl,Hd (by rw[List.take_zero,gosN]),Hd (WStep.refl HS4.out.m)⟩
  case round=>
   obtain⟨i,svi,ivi,si,hip,him,rfl,HGi,HSi⟩:=hrel;have HSt:=Hd (HS4.out.trans HSi.out);have hgi:=HGs.out i d _ si HGi.out;have q1:=hgi.slots;have q2:=hgi.ins;have q3:=hgi.both;have q4:=hgi.out;have q5:=hgi.small
   try simp only[WayN.put,List.length_append,List.length_cons,List.length_nil,List.length_set]at q1 q2 q3 q4 q5
   have q6:=q5 (by omega);have q7:si.ins.length≤si.slots.length:=by omega
   have q8:=Hd (q4.trans HOt.out);have HGok:=Hd (And.intro q1 q2);clear hgi q1 q2 q3 q4 q5
   by_cases hlt:i<ps.length
   ·obtain⟨gp,poff,rfl,hcp⟩:=HNp.out i hlt wr HSi.out
    have HCall:=Hd (HIh.out ps[i] (zwb hlt) wr (HBw.out wr HSt.out).1 d svi ivi si HSi.out.m q6 q7 q8.out (by have:=HPl.out _ (zwb hlt);omega));unfold zk5 at HCall;have hip1:(i:Int)<(ps.length:Int):=by omega
    have hip0:(0:Int)≤(i:Int):=by omega
    have HNx:=Hd (zgv HGi.out hlt);have HFl:=Hd (fun f (e:goN t fr fs ps[i] d si=.inl f)=>zi9 HGi.out hlt e);generalize ps[i]=pi at *;rcases hg:goN t fr fs pi d si with f|s'
    ·rw[hg]at HCall
     simp only at HCall;have HFin:=Hd (HFl.out f hg);clear hg
     go_wp2_with (go_at_call 46;(with_reducible refine HCall.out.mono ?_);rintro e w5 ⟨rfl,sv5,iv5,s5,hs5⟩;have HS5:=Hd hs5;clear hs5)
     go_ret;rw[HGo.out];rw[HFin.out];exact⟨rfl,_,_,_,HW0.out.trans (HSt.out.trans HS5.out)⟩
    ·rw[hg]at HCall HNx
     simp only at HCall;clear hg HFl
     go_wp2_with (go_at_call 46;(with_reducible refine HCall.out.mono ?_);rintro e w5 ⟨rfl,sv5,iv5,hs5⟩;have HS5:=Hd hs5;clear hs5)
     go_roundg (ps.length-(i+1))
     case measure=>omega
     case rel=>exact⟨i+1,_,_,s',by omega,by omega,by rw[zv9];rfl,HNx,Hd (HSi.out.trans HS5.out)⟩
   ·obtain rfl:i=ps.length:=by omega
    have HGf:=Hd (show gosN t fr fs ps d s=.inr si from by have:=HGi.out;rwa [List.take_length]at this);obtain⟨⟨k0,k1,k2,k3,k4,k5,k6,k7⟩,kf⟩:=HK.out _ HSt.out;obtain⟨y0,y1,y2,y3,y4,y5⟩:=HX.out _ HSt.out;clear HGi HNp HRa
    go_wp2_with fail
    go_ret;rw[HGo.out];rw[HGf.out];exact⟨rfl,_,_,HW0.out.trans HSt.out⟩
end Go.Proofs.YtbbaooeioogijaaGreatDoor
