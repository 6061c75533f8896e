/- A function's names resolved: the reference. -/
import Derived.Test.YtbbaooeioogijaaGreatDoorRefGo2
import Derived.Test.YtbbaooeioogijaaGreatDoorResR
namespace Go.Proofs.YtbbaooeioogijaaGreatDoor
open Go.RowKit Go.Maps
set_option maxRecDepth 100000
set_option maxHeartbeats 16000000
theorem zsp {B b:Nat}{fs:FileN}{t:List Nd}{ta:Option Addr}{ct:Nat}{fr:List Nat}{af:Option Addr}{cf:Nat}{an:Option Addr}{cn:Nat}{bv:Value}(hc:checkN9 t=0)(hbe:zah t=some fr)(hOk:∀x ∈ t,NdOk x)(hl:t.length≤4096):∀k,k<t.length→zfW B b fs t ta ct fr af cf an cn bv k:=by
 intro k
 induction k using Nat.strongRecOn with
 | ind k ih=>
   intro hk
   by_cases h3:(t.getD k ndU0).kind=3
   ·exact zn8 (zar hbe) k hk hl h3
   ·by_cases h22:(t.getD k ndU0).kind=22
    ·exact zoa hc hbe hOk k hk hl h22 (fun p hp=>ih p hp (by omega))
    ·exact zn9 hc hbe hOk k hk hl h3 h22 (fun p hp=>ih p hp (by omega))
def ztV (a:(Int × Int) ⊕ WayN)(w:World)(e:Ending)(w':World):Prop:=Below w.heap.size w w'∧match a with
 | .inl f=>e=.returned (.tuple #[.slice none 0 0,.slice none 0 0,.agg #[.int .i64 f.1,.int .i64 f.2]])
 | .inr s=>∃sv bv,e=.returned (.tuple #[sv,bv,.agg #[.int .i64 0,.int .i64 0]])∧w'.ownsRow w.heap.size 91 4 sv s.slots.length (s.slots.flatMap zaL)∧w'.ownsRow w.heap.size 78 3 bv s.out.length (s.out.flatMap bndCells)
theorem zdr:∀(ps qs:List VrU) (a:Int) (w:WayN),parmsX (ps++qs) a w=zcA (parmsX ps a w) fun w1=>parmsX qs a w1
 | [],qs,a,w=>rfl
 | p :: ps,qs,a,w=>by
   rw[List.cons_append,parmsX,parmsX];cases w.slot (zbR p) a 1 with
   | inl e=>rfl
   | inr w1=>exact zdr ps qs a _
theorem zg1 {ps:List VrU}{a:Int}{i:Nat}{w w1:WayN}(h:parmsX (ps.take i) a w=.inr w1)(hi:i<ps.length):parmsX (ps.take (i+1)) a w=zcA (w1.slot (zbR ps[i]) a 1) fun w2=>.inr (w2.bind (ps[i].name,w1.slots.length,1)):=by
 rw[List.take_succ_eq_append_getElem hi,zdr,h];show zcA (w1.slot (zbR ps[i]) a 1) _=_
 rfl
theorem zlF {ps:List VrU}{a:Int}{i:Nat}{w w1:WayN}{f:Int × Int}(h:parmsX (ps.take i) a w=.inr w1)(hi:i<ps.length)(e:w1.slot (zbR ps[i]) a 1=.inl f):parmsX ps a w=.inl f:=by
 have h1:=zg1 h hi;rw[e]at h1;rw[← List.take_append_drop (i+1) ps,zdr,h1]
 rfl
theorem zg0:∀(ps:List VrU) (a:Int) (w w':WayN),parmsX ps a w=.inr w'→w.slots.length≤256→w'.slots.length=w.slots.length+ps.length∧w'.ins.length=w.ins.length+ps.length∧w'.out=w.out∧w'.slots.length≤256
 | [],a,w,w',h,hl=>by
   rw[parmsX]at h;cases h;exact⟨rfl,rfl,rfl,hl⟩
 | p :: ps,a,w,w',h,hl=>by
   rw[parmsX]at h;obtain⟨w1,h1,h2⟩:=zda h;obtain⟨rfl,hl2⟩:=zgq h1;obtain⟨a1,a2,a3,a4⟩:=zg0 ps a _ _ h2 (by show (w.slots++[_]).length≤256;simp;omega);unfold WayN.bind at a1 a2 a3;simp only[List.length_append,List.length_cons,List.length_nil]at a1 a2 a3;exact⟨by rw[a1,List.length_cons];omega,by rw[a2,List.length_cons];omega,a3,a4⟩
theorem zrI {w:World}{B g:Nat}{vt vf vn:Value}{n:Nat}(hB:B≤w.heap.size)(h:w.ownsRow B 78 3 (.slice (some ⟨g,0,none⟩) n n) n ((List.replicate n bnd0).flatMap bndCells)) :
 WayM B (w.alloc (.cells #[vt,vf,vn,.slice none 0 0,.slice (some ⟨g,0,none⟩) n n,.slice none 0 0,.int .i64 0,.int .i64 0] 119)) w.heap.size vt vf vn (.slice none 0 0) (.slice (some ⟨g,0,none⟩) n n) (.slice none 0 0) ⟨[],List.replicate n bnd0,[]⟩ (0,0):=by
 have hg:=(h.lt g rfl).2;refine⟨zv8 _ _,World.ownsRow_nil _ _ _ _,?_,World.ownsRow_nil _ _ _ _,hB,⟨by simp[Value.ownBlock],fun e=>?_,by simp[Value.ownBlock]⟩,(fun k e=>by cases e),(fun k _ e=>by cases e),(fun l hl=>by cases hl)⟩
 ·rw[List.length_replicate]
  exact h.belowed (ba1 _ _)
 ·have:=zv4 e
  simp only at this;omega
theorem zqR (L:List Bnd):(L.flatMap bndCells).length=L.length*3:=by
 induction L with
 | nil=>rfl
 | cons y L ih=>rw[List.flatMap_cons,List.length_append,ih,List.length_cons];show 3+_=_;omega
theorem zqg (n:Nat)(h:n≤4096)(w:World):(Instr.makeSlice 28 (.int .i64 (n:Int)) (.int .i64 (n:Int))).run Tryz.prog w=.ok (.slice (some ⟨w.heap.size,0,none⟩) n n) (w.alloc (.cells ((List.replicate n bnd0).flatMap bndCells).toArray 78)):=by
 obtain⟨i0,hi,hz0,hz1,hz2⟩:=info_parts zi6;have:=run_make (P:=Tryz.prog) w 28 78 i0 (bndV bnd0) Tryz.underlying28 hi hz0 .i64 .i64 (n:Int) (n:Int) (by omega) (Int.le_refl _) (by rw[hz2];omega) (by omega);rw[this,hz1];have e:madeCells (bndV bnd0).cells (n*3)=((List.replicate n bnd0).flatMap bndCells).toArray:=by
  rw[← zm1 n]
 rw[Int.toNat_natCast,e]
theorem zhH {fs:FileN}{f:FnU}{vp vb:Value}{af an:Option Addr}{cf cn:Nat}(w:World)(hF:IsFnU w.heap.size w f vp vb)(hA:FileAt w.heap.size w fs af cf an cn)(hc:checkN9 f.body=0)(hl:f.body.length≤4096)(hp8:f.params.length≤8) :
 Calls Tryz.prog 29 #[.agg #[.int .i64 f.at_,.string f.name,.string f.type,vp,vb],.slice af fs.ents.length cf,.slice an fs.ents.length cn] w (ztV (goneX fs f) w):=by
 obtain⟨ap,cp,rfl⟩:=zgC hF.params;have HPm:=Hd (fun (i:Nat) (hi:i<f.params.length)=>zmt hF.params hi);obtain⟨ab,cb,hvb,hob,hnd,hOk⟩:=hF.body;subst hvb;obtain⟨_,_,fr,hbe,_,_⟩:=zer hc;have hpos:0<f.body.length:=(zar hbe).pos;have HNd:=Hd hnd;have HA:=Hd hA;have HRt:=Hd (fun (B b:Nat) (bv:Value)=>zsp (B:=B) (b:=b) (fs:=fs) (ta:=ab) (ct:=cb) (af:=af) (cf:=cf) (an:=an) (cn:=cn) (bv:=bv) hc hbe hOk hl (f.body.length-1) (by omega));have hgx:goneX fs f=zcA (parmsX f.params f.at_ ⟨[],List.replicate f.body.length bnd0,[]⟩) fun w=>goN f.body fr fs (f.body.length-1) 0 w:=by
  unfold goneX;rw[hbe]
  rfl
 have HGx:=Hd hgx;generalize goneX fs f=res at *;have hbl:(f.body.length:Int)≤4096:=by omega
 have hpl:(f.params.length:Int)≤8:=by omega
 clear hF hnd hOk hc hbe hgx hA;obtain⟨i0,hi0,hz0,hz1',hz2'⟩:=info_parts zi6;have HIn:=Hd (And.intro hi0 (And.intro hz0 (And.intro hz1' hz2')));clear hi0 hz0 hz1' hz2'
 go_enter Tryz.func29,Tryz.ntmps29
 go_upto_region 1 with fail
 generalize hgQ:(w.alloc (.cells #[.int .i64 f.at_,.string f.name,.string f.type,.slice ap f.params.length cp,.slice ab f.body.length cb] 45)).alloc (.cells #[.int .i64 0,.int .i64 0] 32)=w1 at *;obtain⟨hb1,hxq,hxr⟩:=box2 hgQ;clear hgQ;obtain⟨⟨y0,y1,y2,y3,y4⟩,_⟩:=zad hxq;have hmk:=zqg f.body.length hl;have hxz:=zaa hxq;have hxz2:=zaa hxr;have hrow:=World.ownsRow_lit (base:=w.heap.size) (e:=78) (size:=3) w1 ((List.replicate f.body.length bnd0).flatMap bndCells).toArray f.body.length (by omega) (by unfold maxLen;omega) (by rw[List.size_toArray,zqR,List.length_replicate]);have hwm:=zrI (vt:=.slice ab f.body.length cb) (vf:=.slice af fs.ents.length cf) (vn:=.slice an fs.ents.length cn) (w:=w1.alloc (.cells ((List.replicate f.body.length bnd0).flatMap bndCells).toArray 78)) (B:=w.heap.size) (by simp;omega) hrow;rw[World.size_alloc]at hwm;have HWm:=Hd (hwm.below ((zv3 _ _).drew));have HBm:=Hd (show Below w1.heap.size w1 ((w1.alloc (.cells ((List.replicate f.body.length bnd0).flatMap bndCells).toArray 78)).alloc (.cells #[.slice ab f.body.length cb,.slice af fs.ents.length cf,.slice an fs.ents.length cn,.slice none 0 0,.slice (some ⟨w1.heap.size,0,none⟩) f.body.length f.body.length,.slice none 0 0,.int .i64 0,.int .i64 0] 119)).drew from ((ba1 w1 _).alloc (ba1 w1 _).size _).drew);have HXq:=Hd hxq;have HXr:=Hd hxr;have HB1:=Hd hb1;clear hrow hwm hb1 hxq hxr
 go_region_law (fail)
 all_goals
  clear y0 y1 y2 y3 y4 hmk;generalize ((w1.alloc (.cells ((List.replicate f.body.length bnd0).flatMap bndCells).toArray 78)).alloc (.cells #[.slice ab f.body.length cb,.slice af fs.ents.length cf,.slice an fs.ents.length cn,.slice none 0 0,.slice (some ⟨w1.heap.size,0,none⟩) f.body.length f.body.length,.slice none 0 0,.int .i64 0,.int .i64 0] 119)).drew=wb at *;have hzb:w1.heap.size+1<wb.heap.size:=HWm.out.lt;have HXf:=Hd (fun wy {v1 v2 v3 sv' iv':Value} {s':WayN} {f':Int × Int} (gg:WStep w.heap.size wb wy (w1.heap.size+1) v1 v2 v3 (.slice none 0 0) (.slice (some ⟨w1.heap.size,0,none⟩) f.body.length f.body.length) (.slice none 0 0) sv' iv' s' f')=>(zad ((gg.keep _ (by omega) (by rintro(e|e|e|e)<;>first|omega|cases e|(have:=zv4 e;simp only at this;omega))).trans ((HBm.out.block _ hxz).trans HXq.out))).1);have HXd:=Hd (fun wy {v1 v2 v3 sv' iv':Value} {s':WayN} {f':Int × Int} (gg:WStep w.heap.size wb wy (w1.heap.size+1) v1 v2 v3 (.slice none 0 0) (.slice (some ⟨w1.heap.size,0,none⟩) f.body.length f.body.length) (.slice none 0 0) sv' iv' s' f')=>zab ((gg.keep _ (by omega) (by rintro(e|e|e|e)<;>first|omega|cases e|(have:=zv4 e;simp only at this;omega))).trans ((HBm.out.block _ hxz2).trans HXr.out)));have HBw:=Hd (fun wy {v1 v2 v3 sv' iv':Value} {s':WayN} {f':Int × Int} (gg:WStep w.heap.size wb wy (w1.heap.size+1) v1 v2 v3 (.slice none 0 0) (.slice (some ⟨w1.heap.size,0,none⟩) f.body.length f.body.length) (.slice none 0 0) sv' iv' s' f')=>show Below w.heap.size w wy from (HB1.out.trans (HBm.out.mono HB1.out.size)).trans gg.below);obtain⟨y0,y1,y2,y3,y4⟩:=HXf.out wb (WStep.refl HWm.out)
  go_wp2_with fail
  go_loopg [10] f.params.length (fun m v10 wy=>∃(i:Nat) (svi ivi:Value) (si:WayN),i≤f.params.length∧i+m=f.params.length∧v10=.int .i64 (i:Int)∧Hid (parmsX (f.params.take i) f.at_ ⟨[],List.replicate f.body.length bnd0,[]⟩=.inr si)∧Hid (WStep w.heap.size wb wy (w1.heap.size+1) (.slice ab f.body.length cb) (.slice af fs.ents.length cf) (.slice an fs.ents.length cn) (.slice none 0 0) (.slice (some ⟨w1.heap.size,0,none⟩) f.body.length f.body.length) (.slice none 0 0) svi ivi si (0,0)))
  case atStart=>exact⟨0,_,_,_,by omega,by omega,rfl,Hd rfl,Hd (WStep.refl HWm.out)⟩
  case round=>
   obtain⟨i,svi,ivi,si,hi,him,rfl,HGi,HSi⟩:=hrel;clear y0 y1 y2 y3 y4;obtain⟨y0,y1,y2,y3,y4⟩:=HXf.out wr HSi.out;obtain⟨p1,p2,p3,p4⟩:=zg0 _ _ _ _ HGi.out (by show 0≤256;omega);rw[List.length_take_of_le hi]at p1 p2;have HP1:=Hd (show si.slots.length=i by rw[p1];show 0+i=i;omega);have p1a:si.slots.length≤8:=by have:=HP1.out;omega
   have p2a:si.ins.length≤8:=by have:si.ins.length=0+i:=p2;omega
   have HP3:=Hd p3;have hins:si.ins.length≤si.slots.length:=by
    have h1:=HP1.out;have h2:si.ins.length=0+i:=p2;omega
   clear p1 p2 p3 p4
   by_cases hlt:i<f.params.length
   ·obtain⟨pb,poff,pcap,hps,hpb,_,c0,c1,c2⟩:=HPm.out i hlt
    obtain⟨rfl,rfl⟩:ap=some ⟨pb,poff,none⟩∧cp=pcap:=by simpa using hps
    rw[← (HBw.out wr HSi.out).cell hpb]at c0 c1 c2;have HNx:=Hd (zg1 HGi.out hlt);have HFl:=Hd (fun e he=>zlF (f:=e) HGi.out hlt he);generalize f.params[i]=p at *;clear hps
    go_upto_region 6 with fail
    have HSq:=Hd (HSi.out.more (ba1 wr (.cells #[.string p.name,.string p.type,.bool p.vol] 50)));have hqp:=zv8 wr (.cells #[.string p.name,.string p.type,.bool p.vol] 50);have HZq:=zaa hqp;have hold:=HSi.out.m.old (zv0 wr.heap.size);obtain⟨⟨z0,z1,z2⟩,_⟩:=zac (zv8 wr (.cells #[.string p.name,.string p.type,.bool p.vol] 50));generalize wr.alloc (.cells #[.string p.name,.string p.type,.bool p.vol] 50)=wp at *;clear y0 y1 y2 y3 y4 c0 c1 c2;have hzp:=HZq;have HXp:=Hd (fun wy {v1 v2 v3 sv' iv':Value} {s':WayN} {f':Int × Int} (gg:WStep w.heap.size wp wy (w1.heap.size+1) v1 v2 v3 svi (.slice (some ⟨w1.heap.size,0,none⟩) f.body.length f.body.length) ivi sv' iv' s' f')=>(zac ((gg.keep _ HZq hold).trans hqp)).1);clear hold hqp;obtain⟨y0,y1,y2,y3,y4⟩:=HXf.out wp HSq.out;have HSp:=Hd (zh2 (zbR p) f.at_ 1 wp HSq.out.m (by omega) (by omega) (by omega));unfold zju slUV zbR at HSp;unfold zbR at HNx HFl;rw[show ((1:Nat):Int)=1 from rfl]at HSp;simp only at HSp;rcases hs:si.slot ⟨p.name,p.type,p.vol,true⟩ f.at_ 1 with e|s1
    ·rw[hs]at HSp
     have HFin:=Hd (HFl.out e hs);simp only at HSp;clear hs HFl HNx
     go_upto_region 7 with (go_at_call 45;(with_reducible refine HSp.out.mono ?_);rintro _ w6 ⟨rfl,hs6⟩;have HS6:=Hd (HSq.out.trans hs6);clear hs6)
     obtain⟨⟨_,_,_,_,_,_,k6,k7⟩,kf⟩:=zaC HS6.out.m.blk;obtain⟨⟨d0,d1⟩,fd⟩:=HXd.out w6 HS6.out;have fd0:=fd 0;have fd1:=fd 1;clear kf fd y0 y1 y2 y3 y4 z0 z1 z2
     go_region_law (fail)
     all_goals
      go_wp2_with fail
      refine bodyPost_ret (v:=.tuple #[.slice none 0 0,.slice none 0 0,.agg #[.int .i64 e.1,.int .i64 e.2]]) (by simp[results,Tryz.results29,go_sem,d0,d1]) rfl ⟨Below.drew (Below.setCell (Below.setCell (HBw.out _ HS6.out) (Nat.le_succ _) _) (Nat.le_succ _) _),?_⟩;rw[HGx.out];rw[HFin.out]
      rfl
    ·rw[hs]at HSp HNx
     obtain⟨rfl,hlt256⟩:=zgq hs;simp only at HSp;clear hs HFl
     go_upto_region 8 with (go_at_call 45;(with_reducible refine HSp.out.mono ?_);rintro _ w6 ⟨rfl,sv6,hs6⟩;have HS6:=Hd (HSq.out.trans hs6);have HS7:=Hd hs6;clear hs6)
     obtain⟨i1,hi1,hz0,hz1',hz2'⟩:=info_parts zqy;have HIl:=Hd (And.intro hi1 (And.intro hz0 (And.intro hz1' hz2')));clear hi1 hz0 hz1' hz2' y0 y1 y2 y3 y4 z0 z1 z2;have hzq:=HSq.out.size;have HZp:=Hd hzp;obtain⟨ai2,ci2,rfl⟩:=zam HS6.out.m.ins;obtain⟨z0,z1,z2⟩:=HXp.out w6 HS7.out;obtain⟨⟨_,_,_,_,_,k5,_,_⟩,kf⟩:=zaC HS6.out.m.blk;have kf5:=kf 5;have HBig:=Hd (show Below w6.heap.size w6 (w6.alloc (.cells #[.string p.name,.int .i64 (i:Int),.int .i64 1] 122)).drew from ((zv3 _ _).alloc (zv0 _) _).drew);have HMn:=Hd (HS6.out.m.below HBig.out);have hrz:=HS6.out.m.lt;have hBr:=HS6.out.m.bLe;have hpz:wr.heap.size<w6.heap.size:=zv5 hzp HS7.out.size;have HSz:=Hd (show i<(si.slots++[(⟨p.name,p.type,p.vol,true⟩:SlU)]).length by rw[List.length_append,HP1.out];simp);have HNx2:=Hd (show parmsX (f.params.take (i+1)) f.at_ ⟨[],List.replicate f.body.length bnd0,[]⟩=.inr (WayN.bind ⟨si.slots++[⟨p.name,p.type,p.vol,true⟩],si.out,si.ins⟩ (p.name,i,1)) from by rw[HNx.out,HP1.out];rfl);clear kf HNx
     go_upto_region 8 with fail
     go_region_law ((refine step_append_lies _ (by rfl) _ _ _ (by rfl) w.heap.size 122 i1 _ 3 32 Tryz.underlying117 HIl.out.1 HIl.out.2.1 HIl.out.2.2.1 HIl.out.2.2.2 rfl (by omega) (.slice ai2 si.ins.length ci2) si.ins.length (si.ins.flatMap zb5) (by rfl) (HS6.out.m.ins.belowed HBig.out) ⟨w6.heap.size,0,none⟩ 1 1 (zb5 (p.name,i,1)) (by rfl) (by rfl) (World.news_of_block (cs:=#[.string p.name,.int .i64 (i:Int),.int .i64 1]) (t:=122) (fr:=(0,0)) (zv8 w6 _)) (by simp[zb5,Value.oneCell']) (by omega) (by unfold maxLen;omega) (by omega) (by simp;omega) (w6.heap.size+1) (by simp) ?_;intro gg cpp w9 hown hgrow hat hlt9;obtain⟨⟨_,_,_,_,_,j5,_⟩,jf⟩:=zaC ((hgrow.block _ HMn.out.lt (fun e=>HMn.out.a1.2.2 e.symm)).trans HMn.out.blk);have jf5:=jf 5))
     all_goals
      have HS9:=Hd ((WStep.of_below HS6.out.m HBig.out).trans (HMn.out.grewI (l:=(p.name,i,1)) HSz.out hgrow hown (fun k hk=>(zca hat hk).imp id (fun e=>e.trans (by show _=(w6.alloc _).heap.size;simp)))));clear hown hgrow hat hlt9 j5 jf jf5
      go_wp2_with fail
      go_roundg (f.params.length-(i+1))
      case measure=>omega
      case rel=>exact⟨i+1,_,_,_,by omega,by omega,by rw[zv9];rfl,HNx2,Hd (HS6.out.trans HS9.out)⟩
   ·obtain rfl:i=f.params.length:=by omega
    have HGf:=Hd (show parmsX f.params f.at_ ⟨[],List.replicate f.body.length bnd0,[]⟩=.inr si from by have:=HGi.out;rwa [List.take_length]at this);have hout:si.out.length=f.body.length:=by rw[HP3.out];simp
    have HRn:=Hd (HRt.out w.heap.size (w1.heap.size+1) (.slice (some ⟨w1.heap.size,0,none⟩) f.body.length f.body.length) wr 0 svi ivi si HSi.out.m (HNd.out.below (HBw.out wr HSi.out) (zv0 _)) (HA.out.below (HBw.out wr HSi.out)) (by omega) hins hout (by omega));unfold zk5 at HRn;have HGx2:=Hd (show res=goN f.body fr fs (f.body.length-1) 0 si from by rw[HGx.out];rw[HGf.out];rfl);have hcast:((f.body.length-1:Nat):Int)=(f.body.length:Int)-1:=by omega
    have hww:IntKind.i64.wrap ((f.body.length:Int)-1)=(f.body.length:Int)-1:=by rw[IntKind.wrap_i64];omega
    rw[hcast,show ((0:Nat):Int)=0 from rfl]at HRn;clear hout hcast HGi;rcases hs:goN f.body fr fs (f.body.length-1) 0 si with e|s1
    ·rw[hs]at HRn HGx2
     simp only at HRn;clear hs
     go_upto_region 10 with (go_at_call 46;(with_reducible refine HRn.out.mono ?_);rintro _ w6 ⟨rfl,sv6,iv6,s6,hs6⟩;have HS6:=Hd (HSi.out.trans hs6);clear hs6)
     obtain⟨⟨_,_,_,_,_,_,k6,k7⟩,kf⟩:=zaC HS6.out.m.blk;obtain⟨⟨d0,d1⟩,fd⟩:=HXd.out w6 HS6.out;have fd0:=fd 0;have fd1:=fd 1;clear kf fd y0 y1 y2 y3 y4
     go_region_law (fail)
     all_goals
      go_wp2_with fail
      refine bodyPost_ret (v:=.tuple #[.slice none 0 0,.slice none 0 0,.agg #[.int .i64 e.1,.int .i64 e.2]]) (by simp[results,Tryz.results29,go_sem,d0,d1]) rfl ⟨Below.drew (Below.setCell (Below.setCell (HBw.out _ HS6.out) (Nat.le_succ _) _) (Nat.le_succ _) _),?_⟩;rw[HGx2.out]
    ·rw[hs]at HRn HGx2
     simp only at HRn;clear hs
     go_upto_region 11 with (go_at_call 46;(with_reducible refine HRn.out.mono ?_);rintro _ w6 ⟨rfl,sv6,iv6,hs6⟩;have HS6:=Hd (HSi.out.trans hs6);clear hs6)
     obtain⟨⟨_,_,_,k3,k4,_,_,_⟩,kf⟩:=zaC HS6.out.m.blk;obtain⟨⟨d0,d1⟩,fd⟩:=HXd.out w6 HS6.out;have fd0:=fd 0;have fd1:=fd 1;clear kf fd y0 y1 y2 y3 y4
     go_region_law (fail)
     all_goals
      go_wp2_with fail
      refine bodyPost_ret (v:=.tuple #[sv6,.slice (some ⟨w1.heap.size,0,none⟩) f.body.length f.body.length,.agg #[.int .i64 0,.int .i64 0]]) (by simp[results,Tryz.results29,go_sem,d0,d1]) rfl ⟨Below.drew (Below.setCell (Below.setCell (HBw.out _ HS6.out) (Nat.le_succ _) _) (Nat.le_succ _) _),?_⟩;rw[HGx2.out];have n1:sv6.ownBlock≠some (w.heap.size+1):=fun e=>by
       rcases HS6.out.movS _ e with e|e
       ·cases e
       ·omega
      have n2:(Value.slice (some ⟨w1.heap.size,0,none⟩) f.body.length f.body.length).ownBlock≠some (w.heap.size+1):=fun e=>by
       have:=zv4 e;simp only at this;omega
      exact⟨_,_,rfl,(zai (zai HS6.out.m.slots _ _ n1) _ _ n1).belowed (zv3 _ _).drew,(zai (zai HS6.out.m.out _ _ n2) _ _ n2).belowed (zv3 _ _).drew⟩
end Go.Proofs.YtbbaooeioogijaaGreatDoor
