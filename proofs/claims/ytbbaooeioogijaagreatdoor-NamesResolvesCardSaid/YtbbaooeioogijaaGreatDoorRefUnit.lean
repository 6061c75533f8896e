/- A unit looked at: the reference -/
import Derived.Test.YtbbaooeioogijaaGreatDoorRefFn
namespace Go.Proofs.YtbbaooeioogijaaGreatDoor
open Go.RowKit Go.Sort
set_option maxRecDepth 100000
set_option maxHeartbeats 16000000
theorem znX (u:UnU)(vs vg vf:Value)(w:World)(hU:IsUn w.heap.size w u vs vg vf) :
 Calls Tryz.prog 22 #[.agg #[vs,vg,vf]] w (zfp (unitE u) w):=by
 obtain⟨sa,sc,mv,rfl,hso,hS⟩:=hU.structs;have HGl:=Hd (fun (i:Nat) (hi:i<u.globals.length)=>zeS hU.globals hi);have HFl:=Hd (fun (i:Nat) (hi:i<u.funcs.length)=>zd4 hU.funcs hi);have U1:=Hd (fun h=>zhP (u:=u) h);have U2:=Hd (fun h hf=>zfY (u:=u) h hf);have U3:=Hd (fun h hf (i:Nat) (hi:i<u.globals.length) hk hp=>zhQ (u:=u) h hf hi hk hp);have U4:=Hd (fun h hf hg (i:Nat) (hi:i<u.funcs.length) hk hp=>zhR (u:=u) h hf hg hi hk hp);have U5:=Hd (fun h hf hg hk=>zjG (u:=u) h hf hg hk);obtain⟨ag,cg,rfl,hlg⟩:=zbc hU.globals;obtain⟨af,cf,rfl,hlf⟩:=zbd hU.funcs;have hls:=hso.2.2.1;have HS:=Hd hS;have hs1:=hso.1;have hs2:=hso.2.1;clear hU hS hso;generalize unitE u=res at *;obtain⟨us,ug,uf⟩:=u;simp only at *
 go_enter Tryz.func22,Tryz.ntmps22
 go_upto_region 1 with fail
 generalize hgQ:(w.alloc (.cells #[.slice sa us.length sc,.slice ag ug.length cg,.slice af uf.length cf] 26)).alloc (.cells #[.int .i64 0,.int .i64 0] 32)=w1 at *;obtain⟨hb1,hxq,hxr⟩:=box2 hgQ;clear hgQ;have HQ:=Hd (fun w' (h:Below w1.heap.size w1 w')=>(zac ((h.block _ (zaa hxq)).trans hxq)).1);have HR:=Hd (fun w' (h:Below w1.heap.size w1 w')=>zab ((h.block _ (zaa hxr)).trans hxr));have HB1:=Hd hb1;have HSx:=Hd (fun w' (h:Below w1.heap.size w1 w')=>(HS.out.below (hb1.trans (h.mono hb1.size))).mono (hb1.trans (h.mono hb1.size)).size);have HBw:=Hd (fun w' (h:Below w1.heap.size w1 w')=>hb1.trans (h.mono hb1.size));clear hb1 hxq hxr;obtain⟨q0,q1,q2⟩:=HQ.out w1 (zv3 _ _)
 by_cases l1:64<us.length
 ·have t1:decide (64<(us.length:Int))=true:=by simp;omega
  have HFin:=Hd (U1.out (.inl l1));clear l1;obtain⟨⟨d0,d1⟩,fd⟩:=HR.out w1 (zv3 w1.heap.size w1);have fd0:=fd 0;have fd1:=fd 1
  go_wp2_with fail
  exact bodyPost_ret (v:=.agg #[.int .i64 0,.int .i64 3]) (by simp[results,Tryz.results22,go_sem,d0,d1]) rfl (zbm HFin.out ((Below.setCell (Below.setCell (HB1.out.trans ((zv3 w1.heap.size w1).mono HB1.out.size)) (Nat.le_succ _) _) (Nat.le_succ _) _)))
 have t1:decide (64<(us.length:Int))=false:=by simp;omega
 by_cases l2:256<ug.length
 ·have t2:decide (256<(ug.length:Int))=true:=by simp;omega
  have HFin:=Hd (U1.out (.inr (.inl l2)));clear l1 l2;obtain⟨⟨d0,d1⟩,fd⟩:=HR.out w1 (zv3 w1.heap.size w1);have fd0:=fd 0;have fd1:=fd 1
  go_wp2_with fail
  exact bodyPost_ret (v:=.agg #[.int .i64 0,.int .i64 3]) (by simp[results,Tryz.results22,go_sem,d0,d1]) rfl (zbm HFin.out ((Below.setCell (Below.setCell (HB1.out.trans ((zv3 w1.heap.size w1).mono HB1.out.size)) (Nat.le_succ _) _) (Nat.le_succ _) _)))
 have t2:decide (256<(ug.length:Int))=false:=by simp;omega
 by_cases l3:256<uf.length
 ·have t3:decide (256<(uf.length:Int))=true:=by simp;omega
  have HFin:=Hd (U1.out (.inr (.inr l3)));clear l1 l2 l3;obtain⟨⟨d0,d1⟩,fd⟩:=HR.out w1 (zv3 w1.heap.size w1);have fd0:=fd 0;have fd1:=fd 1
  go_wp2_with fail
  exact bodyPost_ret (v:=.agg #[.int .i64 0,.int .i64 3]) (by simp[results,Tryz.results22,go_sem,d0,d1]) rfl (zbm HFin.out ((Below.setCell (Below.setCell (HB1.out.trans ((zv3 w1.heap.size w1).mono HB1.out.size)) (Nat.le_succ _) _) (Nat.le_succ _) _)))
 have t3:decide (256<(uf.length:Int))=false:=by simp;omega
 have HLe:=Hd (show ¬(64<us.length∨256<ug.length∨256<uf.length) from by rintro(h|h|h)<;>omega);have hl2:ug.length≤256:=by omega
 have hl3:uf.length≤256:=by omega
 clear l1 l2 l3;have hst:=ze6 sa sc us mv w1 (HSx.out w1 (zv3 _ _)) hs1 hs2;unfold zb2 at hst;have HFn:=Hd (show za0 us=((za0 us).1,(za0 us).2) from rfl);have V2:=Hd (U2.out HLe.out);have V3:=Hd (U3.out HLe.out);have V4:=Hd (U4.out HLe.out);have V5:=Hd (U5.out HLe.out);generalize hfl:za0 us=fl at *;obtain⟨fx,fc⟩:=fl;simp only at hst;have HSt:=Hd hst;clear hst hfl
 go_upto_region 4 with (go_at_call 37;(with_reducible refine HSt.out.mono ?_);rintro e w2 ⟨rfl,hb2⟩;have HB2:=Hd hb2;obtain⟨q0,q1,q2⟩:=HQ.out w2 hb2;clear hb2)
 have hxf:=zdh w2 (.int .i64 fx) (.int .i64 fc);have hb3:=ba1 w2 (.cells #[.int .i64 fx,.int .i64 fc] 32);generalize w2.alloc (.cells #[.int .i64 fx,.int .i64 fc] 32)=w3 at *;have HB3:=Ht HB2 hb3;obtain⟨⟨k0,k1⟩,_⟩:=zab hxf;obtain⟨q0,q1,q2⟩:=HQ.out w3 HB3.out;clear hxf hb3
 by_cases hf0:fc=0
 ·have t4:(fc != 0)=false:=by simpa using hf0
  have W3:=Hd (V3.out hf0);have W4:=Hd (V4.out hf0);have W5:=Hd (V5.out hf0);clear hf0
  go_wp2_with fail
  go_loopg [4] ug.length (fun m v37 wy=>∃(i:Nat),i≤ug.length∧i+m=ug.length∧v37=.int .i64 (i:Int)∧Hid (Below w1.heap.size w1 wy)∧Hid (FitA (globE us) ug i))
  case atStart=>exact⟨0,by omega,by omega,rfl,HB3,Hd (fun j _ h=>by omega)⟩
  case round=>
   obtain⟨i,hi,him,rfl,HB,HK⟩:=hrel;obtain⟨q0,q1,q2⟩:=HQ.out wr HB.out
   by_cases hlt:i<ug.length
   ·obtain⟨b,off,cq,v,hsq,hblt,hG,c0,c1,c2,c3,c4⟩:=HGl.out i hlt
    obtain⟨rfl,rfl⟩:ag=some ⟨b,off,none⟩∧cg=cq:=by simpa using hsq
    obtain⟨ai,ci,hvs⟩:=ziM hG.init;subst hvs;have hwb:=HBw.out wr HB.out;rw[← hwb.cell hblt]at c0 c1 c2 c3 c4;have HNx:=Hd (fun h0=>HK.out.next hlt h0);have HBad:=Hd (fun hp=>W3.out i hlt HK.out hp);have HGc:=Hd (fun w' (h:Below w1.heap.size w1 w')=>zsg (ug[i]'hlt) _ sa sc us mv w' ((hG.below (HBw.out w' h) (zv0 _)).mono (HBw.out w' h).size) (HSx.out w' h) hs1 hs2);unfold zav at HGc;generalize (ug[i]'hlt).init.length=n9 at *;generalize ug[i]'hlt=g at *;generalize globE us g=ge at *;clear hsq hG
    go_upto_region 9 with fail
    have kq0:=cell_regrown q0;have kq1:=cell_regrown q1;have kq2:=cell_regrown q2;have kc0:=cell_regrown c0;have kc1:=cell_regrown c1;have kc2:=cell_regrown c2;have kc3:=cell_regrown c3;have kc4:=cell_regrown c4;have HQ8:=Hd (fun d os=>HB.out.trans ((below_regrown wr d os).mono HB.out.size));have HNq:=Hd (fun d os=>Calls.regrown_of (HGc.out (grow (redrawn wr d) os) (HQ8.out d os)));clear q0 q1 q2 c0 c1 c2 c3 c4;refine wp_region_quiet_below (by kernel_rfl) (by kernel_rfl) ?_
    repeat (go_big_quiet_step (exact HNq.out _ _))
    refine wpQuiet_nil ?_;intro _ hw';obtain⟨⟨dq,osq⟩,hw''⟩:=hw';subst hw'';have HB6:=Hd (HQ8.out dq osq);generalize grow (redrawn wr dq) osq=w6 at *;obtain⟨q0,q1,q2⟩:=HQ.out w6 HB6.out
    by_cases hge:ge=0
    ·subst hge
     have HN7:=Hd (HNx.out rfl)
     go_wp2_with fail
     go_roundg (ug.length-(i+1))
     case measure=>omega
     case rel=>exact⟨i+1,by omega,by omega,by rw[zv9];rfl,HB6,HN7⟩
    ·have t5:(ge != 0)=true:=by simpa using hge
     have HFin:=Hd (HBad.out hge);clear hge;obtain⟨⟨d0,d1⟩,fd⟩:=HR.out w6 HB6.out;have fd0:=fd 0;have fd1:=fd 1
     go_wp2_with fail
     exact bodyPost_ret (v:=.agg #[.int .i64 (i:Int),.int .i64 ge]) (by simp[results,Tryz.results22,go_sem,d0,d1]) rfl (zbm HFin.out ((Below.setCell (Below.setCell (HB1.out.trans (HB6.out.mono HB1.out.size)) (Nat.le_succ _) _) (Nat.le_succ _) _)))
   ·obtain rfl:i=ug.length:=by omega
    have X4:=Hd (W4.out HK.out);have X5:=Hd (W5.out HK.out);have HBg:=HB
    go_wp2_with fail
    go_loopg [6] uf.length (fun m v55 wy=>∃(i:Nat),i≤uf.length∧i+m=uf.length∧v55=.int .i64 (i:Int)∧Hid (Below w1.heap.size w1 wy)∧Hid (FitA (funcE us) uf i))
    case atStart=>exact⟨0,by omega,by omega,rfl,HBg,Hd (fun j _ h=>by omega)⟩
    case round=>
     obtain⟨i,hi,him,rfl,HB,HK⟩:=hrel;obtain⟨q0,q1,q2⟩:=HQ.out wr HB.out
     by_cases hlt:i<uf.length
     ·obtain⟨b,off,cq,vp,vb,hsq,hblt,hG,c0,c1,c2,c3,c4⟩:=HFl.out i hlt
      obtain⟨rfl,rfl⟩:af=some ⟨b,off,none⟩∧cf=cq:=by simpa using hsq
      obtain⟨ap,cp,hvs,_⟩:=hG.params;subst hvs;obtain⟨ab,cb,hvs,_⟩:=hG.body;subst hvs;have hwb:=HBw.out wr HB.out;rw[← hwb.cell hblt]at c0 c1 c2 c3 c4;have HNx:=Hd (fun h0=>HK.out.next hlt h0);have HBad:=Hd (fun hp=>X4.out i hlt HK.out hp);have HGc:=Hd (fun w' (h:Below w1.heap.size w1 w')=>zsj (uf[i]'hlt) _ _ sa sc us mv w' ((hG.below (HBw.out w' h) (zv0 _)).mono (HBw.out w' h).size) (HSx.out w' h) hs1 hs2);unfold zav at HGc;generalize (uf[i]'hlt).params.length=np at *;generalize (uf[i]'hlt).body.length=nb at *;generalize uf[i]'hlt=g at *;generalize funcE us g=ge at *;clear hsq hG
      go_upto_region 15 with fail
      have kq0:=cell_regrown q0;have kq1:=cell_regrown q1;have kq2:=cell_regrown q2;have kc0:=cell_regrown c0;have kc1:=cell_regrown c1;have kc2:=cell_regrown c2;have kc3:=cell_regrown c3;have kc4:=cell_regrown c4;have HQ8:=Hd (fun d os=>HB.out.trans ((below_regrown wr d os).mono HB.out.size));have HNq:=Hd (fun d os=>Calls.regrown_of (HGc.out (grow (redrawn wr d) os) (HQ8.out d os)));clear q0 q1 q2 c0 c1 c2 c3 c4;refine wp_region_quiet_below (by kernel_rfl) (by kernel_rfl) ?_
      repeat (go_big_quiet_step (exact HNq.out _ _))
      refine wpQuiet_nil ?_;intro _ hw';obtain⟨⟨dq,osq⟩,hw''⟩:=hw';subst hw'';have HB6:=Hd (HQ8.out dq osq);generalize grow (redrawn wr dq) osq=w6 at *;obtain⟨q0,q1,q2⟩:=HQ.out w6 HB6.out
      by_cases hge:ge=0
      ·subst hge
       have HN7:=Hd (HNx.out rfl)
       go_wp2_with fail
       go_roundg (uf.length-(i+1))
       case measure=>omega
       case rel=>exact⟨i+1,by omega,by omega,by rw[zv9];rfl,HB6,HN7⟩
      ·have t5:(ge != 0)=true:=by simpa using hge
       have HFin:=Hd (HBad.out hge);clear hge;obtain⟨⟨d0,d1⟩,fd⟩:=HR.out w6 HB6.out;have fd0:=fd 0;have fd1:=fd 1
       go_wp2_with fail
       exact bodyPost_ret (v:=.agg #[.int .i64 (i:Int),.int .i64 ge]) (by simp[results,Tryz.results22,go_sem,d0,d1]) rfl (zbm HFin.out ((Below.setCell (Below.setCell (HB1.out.trans (HB6.out.mono HB1.out.size)) (Nat.le_succ _) _) (Nat.le_succ _) _)))
     ·obtain rfl:i=uf.length:=by omega
      have HFin:=Hd (X5.out HK.out);obtain⟨⟨d0,d1⟩,fd⟩:=HR.out wr HB.out;have fd0:=fd 0;have fd1:=fd 1
      go_wp2_with fail
      exact bodyPost_ret (v:=.agg #[.int .i64 0,.int .i64 0]) (by simp[results,Tryz.results22,go_sem,d0,d1]) rfl (zbm HFin.out ((Below.setCell (Below.setCell (HB1.out.trans (HB.out.mono HB1.out.size)) (Nat.le_succ _) _) (Nat.le_succ _) _)))
 ·have t4:(fc != 0)=true:=by simpa using hf0
  have HFin:=Hd ((V2.out hf0).trans rfl);clear hf0;obtain⟨⟨d0,d1⟩,fd⟩:=HR.out w3 HB3.out;have fd0:=fd 0;have fd1:=fd 1
  go_wp2_with fail
  exact bodyPost_ret (v:=.agg #[.int .i64 fx,.int .i64 fc]) (by simp[results,Tryz.results22,go_sem,d0,d1]) rfl (zbm HFin.out ((Below.setCell (Below.setCell (HB1.out.trans (HB3.out.mono HB1.out.size)) (Nat.le_succ _) _) (Nat.le_succ _) _)))
end Go.Proofs.YtbbaooeioogijaaGreatDoor
