/- The names of a file: the reference. -/
import Derived.Test.YtbbaooeioogijaaGreatDoorRefUnit
import Derived.Test.YtbbaooeioogijaaGreatDoorMg15
namespace Go.Proofs.YtbbaooeioogijaaGreatDoor
open Go.RowKit Go.Sort
set_option maxRecDepth 100000
set_option maxHeartbeats 16000000
theorem zqZ {u:UnU}(h:(unitE u).2≠0):za1 u=.inl (unitE u):=by unfold za1;rw[if_pos h]
theorem zlc {u:UnU}(h:(unitE u).2=0):u.globals.length≤256∧u.funcs.length≤256:=by
 unfold unitE at h
 split at h
 ·exact absurd h (by decide)
 ·rename_i h1
  omega
theorem zoc (u:UnU)(vs vg vf:Value)(w:World)(hU:IsUn w.heap.size w u vs vg vf) :
 Calls Tryz.prog 7 #[.agg #[vs,vg,vf]] w (zrB u w):=by
 obtain⟨sa,sc,mv,rfl,_⟩:=hU.structs;have HGl:=Hd (fun (i:Nat) (hi:i<u.globals.length)=>zeS hU.globals hi);have HFl:=Hd (fun (i:Nat) (hi:i<u.funcs.length)=>zd4 hU.funcs hi);obtain⟨ag,cg,rfl,_⟩:=zbc hU.globals;obtain⟨af,cf,rfl,_⟩:=zbd hU.funcs
 go_enter Tryz.func7,Tryz.ntmps7
 go_upto_region 1 with fail
 generalize hgQ:(w.alloc (.cells #[.slice sa u.structs.length sc,.slice ag u.globals.length cg,.slice af u.funcs.length cf] 26)).alloc (.cells #[.int .i64 0,.int .i64 0] 32)=w1 at *;obtain⟨hb1,hxq,hxr⟩:=box2 hgQ;clear hgQ;have HQ:=Hd (fun w' (h:Below w1.heap.size w1 w')=>(zac ((h.block _ (zaa hxq)).trans hxq)).1);have HR:=Hd (fun w' (h:Below w1.heap.size w1 w')=>zab ((h.block _ (zaa hxr)).trans hxr));have HX:=Hd hxr;have HB1:=Hd hb1;have HBw:=Hd (fun w' (h:Below w1.heap.size w1 w')=>hb1.trans (h.mono hb1.size));have HCk:=Hd (znX u _ _ _ w1 (hU.go hb1));clear hb1 hxq hxr hU;obtain⟨q0,q1,q2⟩:=HQ.out w1 (zv3 _ _);unfold zfp at HCk;have U1:=Hd (fun h=>zqZ (u:=u) h);have U2:=Hd (fun h=>GlobI.start (u:=u) h);have U3:=Hd (fun h=>zlc (u:=u) h);generalize unitE u=res at *;obtain⟨fx,fc⟩:=res;simp only at HCk U1 U2 U3
 go_upto_region 2 with (go_at_call 22;(with_reducible refine HCk.out.mono ?_);rintro e w2 ⟨rfl,hb2⟩;have HB2:=Hd hb2;clear hb2)
 generalize hgQ:w2.alloc (.cells #[.int .i64 fx,.int .i64 fc] 32)=w3 at *;obtain⟨hxf,hb3⟩:=box0 hgQ;clear hgQ;have HB3:=Ht HB2 hb3;obtain⟨⟨k0,k1⟩,_⟩:=zab hxf;obtain⟨q0,q1,q2⟩:=HQ.out w3 HB3.out;clear hxf hb3 HB2
 by_cases hf0:fc=0
 case neg=>
  have t4:(fc != 0)=true:=by simpa using hf0
  have HFin:=Hd (U1.out hf0);clear hf0 U2 U3;obtain⟨⟨d0,d1⟩,fd⟩:=HR.out w3 HB3.out;have fd0:=fd 0;have fd1:=fd 1
  go_wp2_with fail
  go_region_law (fail)
  all_goals
   go_wp2_with fail
   exact bodyPost_ret (v:=.tuple #[.slice none 0 0,.slice none 0 0,.agg #[.int .i64 fx,.int .i64 fc]]) (by simp[results,Tryz.results7,go_sem,d0,d1]) rfl ⟨Below.drew (Below.setCell (Below.setCell (HB1.out.trans (HB3.out.mono HB1.out.size)) (Nat.le_succ _) _) (Nat.le_succ _) _),by rw[HFin.out]⟩
 case pos=>
 have t4:(fc != 0)=false:=by simpa using hf0
 obtain⟨hl1,hl2⟩:=U3.out hf0;have HG0:=Hd (U2.out hf0);have HM0:=Hd (zsn w3);have HB4:=Hd (show Below w3.heap.size w3 ((w3.alloc (.cells #[] 9)).alloc (.cells #[] 78)) from (ba1 w3 _).alloc (ba1 w3 _).size _);obtain⟨i0,hi1,hz0,hz1',hz2'⟩:=info_parts zi6;have HInf:=Hd (And.intro hi1 (And.intro hz0 (And.intro hz1' hz2')));obtain⟨i1,hi1,hz0,hz1',hz2'⟩:=info_parts zgu;have HInS:=Hd (And.intro hi1 (And.intro hz0 (And.intro hz1' hz2')));have hg0:(u.globals.length:Int)≤256:=by omega
 have hff0:(u.funcs.length:Int)≤256:=by omega
 clear hf0 U1 U2 U3 hi1 hz0 hz1' hz2';have HQ3:=Hd (fun w' (h:Below w3.heap.size w3 w')=>HQ.out w' (HB3.out.trans (h.mono HB3.out.size)));have HR3:=Hd (fun w' (h:Below w3.heap.size w3 w')=>HR.out w' (HB3.out.trans (h.mono HB3.out.size)));have HBw3:=Hd (fun w' (h:Below w3.heap.size w3 w')=>HBw.out w' (HB3.out.trans (h.mono HB3.out.size)));have HB3s:=Hd (show w.heap.size+1<w3.heap.size from zv5 (zaa HX.out) HB3.out.size);clear HBw HQ HR
 go_wp2_with fail
 go_loopg [6,7,8] u.globals.length (fun m v6 v7 v8 wy=>∃(i gn cn go co:Nat) (N:List ByteArray) (O:List Bnd),i≤u.globals.length∧i+m=u.globals.length∧v6=.slice (some ⟨gn,0,none⟩) N.length cn∧v7=.slice (some ⟨go,0,none⟩) O.length co∧v8=.int .i64 (i:Int)∧N.length≤i∧i≤N.length∧O.length≤i∧i≤O.length∧Hid (RfM2 w3.heap.size wy gn cn go co N O)∧Hid (GlobI u i N O)∧Hid (Below w3.heap.size w3 wy))
 case atStart=>exact⟨0,_,_,_,_,[],[],by omega,by omega,rfl,rfl,rfl,by simp,by simp,by simp,by simp,HM0,HG0,HB4⟩
 case round=>
  obtain⟨i,gn,cn,go,co,N,O,hi,him,rfl,rfl,rfl,hNl,hNl2,hOl,hOl2,HM,HI,HB⟩:=hrel;obtain⟨q0,q1,q2⟩:=HQ3.out wr HB.out
  by_cases hlt:i<u.globals.length
  ·obtain⟨b,off,cq,v,hsq,hblt,hG,c0,c1,c2,c3,c4⟩:=HGl.out i hlt
   obtain⟨rfl,rfl⟩:ag=some ⟨b,off,none⟩∧cg=cq:=by simpa using hsq
   obtain⟨ai,ci,hvs⟩:=ziM hG.init;subst hvs;have hwb:=HBw3.out wr HB.out;rw[← hwb.cell hblt]at c0 c1 c2 c3 c4;have HBad:=Hd (fun hx=>HI.out.bad hlt hx);have HNxt:=Hd (fun hn hb=>HI.out.next hlt hn hb);generalize (u.globals[i]'hlt).init.length=n9 at *;generalize u.globals[i]'hlt=g at *;clear hsq hG
   go_upto_region 10 with fail
   generalize hgQ:wr.alloc (.cells #[.int .i64 g.at_,.string g.var.name,.string g.var.type,.bool g.var.vol,.slice ai n9 ci] 64)=wa at *;obtain⟨hx,hba⟩:=box0 hgQ;clear hgQ;have HBa:=Ht HB hba;have HMa:=Hd (HM.out.below hba);have HXh:=Hd (fun w' (h:Below wa.heap.size wa w')=>(h.block _ (zaa hx)).trans hx);have HXa:=Hd (fun w' (h:Below wa.heap.size wa w')=>(zad ((h.block _ (zaa hx)).trans hx)).1);clear hx hba c0 c1 c2 c3 c4 q0 q1 q2;obtain⟨y0,y1,y2,y3,y4⟩:=HXa.out wa (zv3 _ _);have hin:=zm9 (k:=N.length) g.var.name HMa.out.names rfl (zv0 _) (by omega);rw[List.take_length]at hin
   by_cases hm:g.var.name ∈ N
   ·rw[zm8 hm]at hin
    have HIn:=Hd hin;have HFin:=Hd (HBad.out (.inl hm));clear hm hin;obtain⟨⟨d0,d1⟩,fd⟩:=HR3.out wa HBa.out;have fd0:=fd 0;have fd1:=fd 1
    go_wp2_with (go_at_call 23;(with_reducible refine HIn.out.mono ?_);rintro e w5 ⟨rfl,hw5⟩;subst hw5)
    go_region_law (fail)
    all_goals
     go_wp2_with fail
     exact bodyPost_ret (v:=.tuple #[.slice none 0 0,.slice none 0 0,.agg #[.int .i64 g.at_,.int .i64 6]]) (by simp[results,Tryz.results7,go_sem,d0,d1]) rfl ⟨Below.drew (Below.setCell (Below.setCell (HBw3.out _ HBa.out) (Nat.le_succ _) _) (Nat.le_succ _) _),by rw[HFin.out]⟩
   ·rw[zs9 hm]at hin
    have HIn:=Hd hin;have HBl:=Hd (zdV g.var.name wa);have HNm:=Hd (HNxt.out hm);have HBd:=Hd (fun h=>HBad.out (.inr h));clear hm hin HNxt HBad;generalize builtI g.var.name=bi at *
    by_cases hbi:0≤bi
    ·have t5:decide (0≤bi)=true:=decide_eq_true hbi
     have HFin:=Hd (HBd.out hbi);clear hbi HNm HBd
     go_upto_region 11 with (first
      | (go_at_call 23;(with_reducible refine HIn.out.mono ?_);rintro e w5 ⟨rfl,hw5⟩;subst hw5)
      | (go_at_call 24;(with_reducible refine HBl.out.mono ?_);rintro e wb ⟨rfl,hbb⟩;have HBb:=Ht HBa hbb;obtain⟨y0,y1,y2,y3,y4⟩:=HXa.out wb hbb;clear hbb))
     obtain⟨⟨d0,d1⟩,fd⟩:=HR3.out wb HBb.out;have fd0:=fd 0;have fd1:=fd 1
     go_region_law (fail)
     all_goals
      go_wp2_with fail
      exact bodyPost_ret (v:=.tuple #[.slice none 0 0,.slice none 0 0,.agg #[.int .i64 g.at_,.int .i64 6]]) (by simp[results,Tryz.results7,go_sem,d0,d1]) rfl ⟨Below.drew (Below.setCell (Below.setCell (HBw3.out _ HBb.out) (Nat.le_succ _) _) (Nat.le_succ _) _),by rw[HFin.out]⟩
    ·have t5:decide (0≤bi)=false:=decide_eq_false hbi
     have HNm2:=Hd (HNm.out (by omega));clear hbi HNm HBd
     go_upto_region 12 with (first
      | (go_at_call 23;(with_reducible refine HIn.out.mono ?_);rintro e w5 ⟨rfl,hw5⟩;subst hw5)
      | (go_at_call 24;(with_reducible refine HBl.out.mono ?_);rintro e wb ⟨rfl,hbb⟩;have HBb:=Ht HBa hbb;have HB5:=Hd hbb;have HMb:=Hd (HMa.out.below hbb);obtain⟨y0,y1,y2,y3,y4⟩:=HXa.out wb hbb;clear hbb))
     have hn1:N.length+1≤maxLen:=by unfold maxLen;omega
     have hn2:(N.length+1)*16≤140737488355328:=by omega
     have hn3:O.length+1≤maxLen:=by unfold maxLen;omega
     have hn4:(O.length+1)*32≤140737488355328:=by omega
     have HNum:=Hd (And.intro hn1 (And.intro hn2 (And.intro hn3 hn4)));clear hn1 hn2 hn3 hn4
     go_upto_region 13 with (at_builtin;go_loud (refine wpList_append_lies _ rfl _ _ _ rfl w3.heap.size 9 i1 _ 1 16 Tryz.underlying29 HInS.out.1 HInS.out.2.1 HInS.out.2.2.1 HInS.out.2.2.2 rfl (by decide) (.slice (some ⟨gn,0,none⟩) N.length cn) N.length (N.map .string) rfl (HMb.out.names.belowed (ba1 _ _)) ⟨_,0,none⟩ 1 1 [.string g.var.name] rfl rfl (World.news_of_block (cs:=#[.string g.var.name]) (zv8 _ _)) (by simp[Value.oneCell']) (by decide) HNum.out.1 HNum.out.2.1 (zv6 HBb.out.size (ba1 _ _).size) _ rfl ?_);intro gg cap' wc hown hgrow hat _)
     have HMc:=Hd ((HMb.out.below (ba1 wb (.cells #[.string g.var.name] 9))).grewN hgrow hown (hat.imp (fun e=>zv4 e) id));have hbc:Below w3.heap.size w3 wc:=(HBb.out.trans ((ba1 wb (.cells #[.string g.var.name] 9)).mono HBb.out.size)).grown hgrow (zv6 HBb.out.size (ba1 _ _).size) (fun k hk=>by cases hk;exact HMb.out.lt.1.1)
     -- REST
     have hxb0:=HXh.out wb HB5.out;have hxb:=((ba1 wb (.cells #[.string g.var.name] 9)).block _ (zaa hxb0)).trans hxb0;have hxc:=(hgrow.block _ (zaa hxb) (fun e=>Nat.lt_irrefl wr.heap.size (by have h1:=HM.out.lt.1.2;have h2:=zv4 e;simp only at h2;omega))).trans hxb;obtain⟨⟨z0,z1,z2,z3,z4⟩,_⟩:=zad hxc;have HBc:=Hd hbc;clear hbc hgrow hown hat hxb0 hxb hxc y0 y1 y2 y3 y4
     go_wp2_with (at_builtin;go_loud (refine wpList_append_lies _ rfl _ _ _ rfl w3.heap.size 78 i0 _ 3 32 Tryz.underlying28 HInf.out.1 HInf.out.2.1 HInf.out.2.2.1 HInf.out.2.2.2 rfl (by decide) (.slice (some ⟨go,0,none⟩) O.length co) O.length (O.flatMap bndCells) rfl (HMc.out.out.belowed (ba1 _ _)) ⟨_,0,none⟩ 1 1 [.int .i64 1,.int .i64 (i:Int),.string g.var.type] rfl rfl (World.news_of_block (cs:=#[.int .i64 1,.int .i64 (i:Int),.string g.var.type]) (zv8 _ _)) (by simp[Value.oneCell']) (by decide) HNum.out.2.2.1 HNum.out.2.2.2 (zv6 HBc.out.size (ba1 _ _).size) _ rfl ?_))
     intro g2 cap2 wd hown2 hgrow2 hat2 _;have HMd:=Hd ((HMc.out.below (ba1 wc (.cells #[.int .i64 1,.int .i64 (i:Int),.string g.var.type] 78))).grewO (x:=⟨1,(i:Int),g.var.type⟩) hgrow2 hown2 (hat2.imp (fun e=>zv4 e) (fun e=>e.trans (by simp))));have HBd:=Hd (show Below w3.heap.size w3 wd from (HBc.out.trans ((ba1 wc (.cells #[.int .i64 1,.int .i64 (i:Int),.string g.var.type] 78)).mono HBc.out.size)).grown hgrow2 (zv6 HBc.out.size (ba1 _ _).size) (fun k hk=>by cases hk;exact HMc.out.lt.2.1));clear hown2 hgrow2 hat2
     go_wp2_with fail
     go_roundg (u.globals.length-(i+1))
     case measure=>omega
     case rel=>exact⟨i+1,_,_,_,_,N++[g.var.name],O++[⟨1,(i:Int),g.var.type⟩],by omega,by omega,by rw[List.length_append];rfl,by rw[List.length_append];rfl,by rw[zv9];rfl,by simp;omega,by simp;omega,by simp;omega,by simp;omega,HMd,HNm2,HBd⟩
  ·obtain rfl:i=u.globals.length:=by omega
   have HF0:=Hd HI.out.done;have HM3:=Hd HM.out.three;have HB5:=Hd (HB.out.alloc HB.out.size (.cells #[] 9));have hNg:(N.length:Int)≤256:=by omega
   clear HI HM
   go_wp2_with fail
   go_loopg [6,7,11,12] u.funcs.length (fun m v6 v7 v11 v12 wy=>∃(i gn cn go co gb cb:Nat) (P:List ByteArray) (O:List Bnd) (S:List ByteArray),i≤u.funcs.length∧i+m=u.funcs.length∧v6=.slice (some ⟨gn,0,none⟩) P.length cn∧v7=.slice (some ⟨go,0,none⟩) O.length co∧v11=.slice (some ⟨gb,0,none⟩) S.length cb∧v12=.int .i64 (i:Int)∧O.length≤P.length∧P.length≤O.length∧N.length≤P.length∧P.length≤N.length+i∧S.length≤i∧Hid (RfM w3.heap.size wy gn cn go co gb cb P O S)∧Hid (FunI u N.length i P O S)∧Hid (Below w3.heap.size w3 wy))
   case atStart=>exact⟨0,_,_,_,_,_,_,N,O,[],by omega,by omega,rfl,rfl,rfl,rfl,by omega,by omega,by omega,by omega,by simp,HM3,HF0,HB5⟩
   case round=>
    clear HM3 HF0 HB5 HB hOl hOl2 hi him hlt HGl q0 q1 q2;obtain⟨i,gn,cn,go,co,gb,cb,P,O,S,hi,him,rfl,rfl,rfl,rfl,hOP,hOP2,hNP,hPi,hSi,HM,HJ,HB⟩:=hrel;obtain⟨q0,q1,q2⟩:=HQ3.out wr HB.out
    by_cases hlt:i<u.funcs.length
    ·obtain⟨b,off,cq,vp,vb,hsq,hblt,hG,c0,c1,c2,c3,c4⟩:=HFl.out i hlt
     obtain⟨rfl,rfl⟩:af=some ⟨b,off,none⟩∧cf=cq:=by simpa using hsq
     obtain⟨ap,cp,rfl⟩:=zgC hG.params;obtain⟨ab,cb',rfl⟩:=zle hG.body;have hwb:=HBw3.out wr HB.out;rw[← hwb.cell hblt]at c0 c1 c2 c3 c4;have HSix:=Hd (fun hx=>HJ.out.six hlt hx);have HTy:=Hd (fun hx k hk hk' hg hn ht=>HJ.out.type hlt hx (k:=k) hk hk' hg hn ht);have HSame:=Hd (fun hx k hk hk' hg hn ht=>HJ.out.same hlt hx (k:=k) hk hk' hg hn ht);have HLong:=Hd (fun hx hn hl=>HJ.out.long hlt hx hn hl);have HNew:=Hd (fun hx hn hl=>HJ.out.new hlt hx hn hl);generalize u.funcs[i]'hlt=f at *;clear hsq hG HJ
     go_upto_region 20 with fail
     have hx:=zv8 wr (.cells #[.int .i64 f.at_,.string f.name,.string f.type,.slice ap f.params.length cp,.slice ab f.body.length cb'] 45);have hba:=ba1 wr (.cells #[.int .i64 f.at_,.string f.name,.string f.type,.slice ap f.params.length cp,.slice ab f.body.length cb'] 45);have HXl:=Hd (show ∀k,k<wr.heap.size→k≠wr.heap.size from fun k h=>Nat.ne_of_lt h);generalize hxn:wr.heap.size=xn at hx HXl;generalize wr.alloc (.cells #[.int .i64 f.at_,.string f.name,.string f.type,.slice ap f.params.length cp,.slice ab f.body.length cb'] 45)=wa at *;have HBa:=Ht HB hba;have HMa:=Hd (HM.out.below hba);have HXh:=Hd (fun w' (h:Below wa.heap.size wa w')=>(h.block _ (zaa hx)).trans hx);have HXa:=Hd (fun w' (h:Below wa.heap.size wa w')=>(zad ((h.block _ (zaa hx)).trans hx)).1);have HXn:=Hd (show gn≠xn∧go≠xn∧gb≠xn from ⟨HXl.out _ (by have:=HM.out.lt.1.2;omega),HXl.out _ (by have:=HM.out.lt.2.1.2;omega),HXl.out _ (by have:=HM.out.lt.2.2.2;omega)⟩);have HMs:=Hd HM.out.lt;subst hxn;clear hx hba c0 c1 c2 c3 c4 q0 q1 q2 HM HXl;obtain⟨y0,y1,y2,y3,y4⟩:=HXa.out wa (zv3 _ _);have hcn:=(zli HMa.out.names rfl).1.2;have hG0:(0:Int)≤(N.length:Int):=by omega
     have hGc:(N.length:Int)≤(cn:Int):=by omega
     have HQ8:=Hd (fun d os=>below_regrown wa d os);have hin1:=fun w' (h:Below wa.heap.size wa w')=>(zm9 (k:=N.length) f.name (HMa.out.below h).names rfl hNP (by omega)).mono (fun e w'' hh=>show e=.returned (.bool (Lib.containsS (P.take N.length) f.name))∧Below w'.heap.size w' w'' from ⟨hh.1,by rw[hh.2];exact zv3 _ _⟩)
     have hin3:=fun w' (h:Below wa.heap.size wa w')=>(zm9 (k:=S.length) f.name (HMa.out.below h).bodies rfl (zv0 _) (by omega)).mono (fun e w'' hh=>show e=.returned (.bool (Lib.containsS S f.name))∧Below w'.heap.size w' w'' from ⟨by rw[hh.1,List.take_length],by rw[hh.2];exact zv3 _ _⟩)
     have HIn2:=Hd (fun w' (_:Below wa.heap.size wa w')=>zdV f.name w');clear hcn
     by_cases a1:f.name ∈ P.take N.length
     ·have HFin:=Hd (HSix.out (.inl a1))
      simp only[zm8 a1]at hin1;have HIn1:=Hd hin1;have HIn3:=Hd hin3;clear a1 hin1 hin3 HTy HSame HLong HNew;have ky0:=cell_regrown y0;have ky1:=cell_regrown y1;have ky2:=cell_regrown y2;have ky4:=cell_regrown y4;have HN1:=Hd (fun d os=>Calls.regrown_of (HIn1.out (grow (redrawn wa d) os) (HQ8.out d os)));have HN2:=Hd (fun d os=>Calls.regrown_of (HIn2.out (grow (redrawn wa d) os) (HQ8.out d os)));have HN3:=Hd (fun d os=>Calls.regrown_of (HIn3.out (grow (redrawn wa d) os) (HQ8.out d os)));clear y0 y1 y2 y3 y4;refine wp_region_quiet_below (by kernel_rfl) (by kernel_rfl) ?_
      repeat (go_big_quiet_step (first|with_reducible exact HN1.out _ _|with_reducible exact HN2.out _ _|with_reducible exact HN3.out _ _))
      refine wpQuiet_nil ?_;intro _ hw';obtain⟨⟨dq,osq⟩,hw''⟩:=hw';subst hw'';have HBb:=Hd (HQ8.out dq osq);generalize grow (redrawn wa dq) osq=wb at *;obtain⟨y0,y1,y2,y3,y4⟩:=HXa.out wb HBb.out;have HBb3:=Hd (HBa.out.trans (HBb.out.mono HBa.out.size));obtain⟨⟨d0,d1⟩,fd⟩:=HR3.out wb HBb3.out;have fd0:=fd 0;have fd1:=fd 1
      go_wp2_with fail
      go_region_law (fail)
      all_goals
       go_wp2_with fail
       exact bodyPost_ret (v:=.tuple #[.slice none 0 0,.slice none 0 0,.agg #[.int .i64 f.at_,.int .i64 6]]) (by simp[results,Tryz.results7,go_sem,d0,d1]) rfl ⟨Below.drew (Below.setCell (Below.setCell (HBw3.out _ HBb3.out) (Nat.le_succ _) _) (Nat.le_succ _) _),by rw[HFin.out]⟩
     simp only[zs9 a1]at hin1;have HIn1:=Hd hin1;have HBl:=Hd (show 0≤builtI f.name→_ from fun h=>HSix.out (.inr (.inl h)));have HN6:=Hd (show builtI f.name<0→(f.body≠[]→f.name ∉ S)→NotSixI N.length P S f from fun h1 h2=>⟨a1,h1,h2⟩);clear hin1 a1;generalize builtI f.name=bi at *
     by_cases hbi:0≤bi
     ·have t5:decide (0≤bi)=true:=decide_eq_true hbi
      have HFin:=Hd (HBl.out hbi);have HIn3:=Hd hin3;clear hbi HTy HSame HLong HNew hin3 HN6 HBl;have ky0:=cell_regrown y0;have ky1:=cell_regrown y1;have ky2:=cell_regrown y2;have ky4:=cell_regrown y4;have HN1:=Hd (fun d os=>Calls.regrown_of (HIn1.out (grow (redrawn wa d) os) (HQ8.out d os)));have HN2:=Hd (fun d os=>Calls.regrown_of (HIn2.out (grow (redrawn wa d) os) (HQ8.out d os)));have HN3:=Hd (fun d os=>Calls.regrown_of (HIn3.out (grow (redrawn wa d) os) (HQ8.out d os)));clear y0 y1 y2 y3 y4;refine wp_region_quiet_below (by kernel_rfl) (by kernel_rfl) ?_
      repeat (go_big_quiet_step (first|with_reducible exact HN1.out _ _|with_reducible exact HN2.out _ _|with_reducible exact HN3.out _ _))
      refine wpQuiet_nil ?_;intro _ hw';obtain⟨⟨dq,osq⟩,hw''⟩:=hw';subst hw'';have HBb:=Hd (HQ8.out dq osq);generalize grow (redrawn wa dq) osq=wb at *;obtain⟨y0,y1,y2,y3,y4⟩:=HXa.out wb HBb.out;have HBb3:=Hd (HBa.out.trans (HBb.out.mono HBa.out.size));obtain⟨⟨d0,d1⟩,fd⟩:=HR3.out wb HBb3.out;have fd0:=fd 0;have fd1:=fd 1
      go_wp2_with fail
      go_region_law (fail)
      all_goals
       go_wp2_with fail
       exact bodyPost_ret (v:=.tuple #[.slice none 0 0,.slice none 0 0,.agg #[.int .i64 f.at_,.int .i64 6]]) (by simp[results,Tryz.results7,go_sem,d0,d1]) rfl ⟨Below.drew (Below.setCell (Below.setCell (HBw3.out _ HBb3.out) (Nat.le_succ _) _) (Nat.le_succ _) _),by rw[HFin.out]⟩
     have t5:decide (0≤bi)=false:=decide_eq_false hbi;have HN6':=Hd (HN6.out (by omega));clear HBl HN6 hbi
     by_cases hbd:f.body=[]
     case' pos=>
      have t1:decide (0<(f.body.length:Int))=false:=by rw[hbd];rfl
      have t2:decide (0<f.body.length)=false:=by rw[hbd];rfl
      have HNs:=Hd (HN6'.out (fun h=>absurd hbd h));have HS2:=Hd (show bodR S f=S by unfold bodR;rw[if_pos hbd]);have HIn3:=Hd hin3;clear hbd hin3 HN6' HSix;have ky0:=cell_regrown y0;have ky1:=cell_regrown y1;have ky2:=cell_regrown y2;have ky4:=cell_regrown y4;have HN1:=Hd (fun d os=>Calls.regrown_of (HIn1.out (grow (redrawn wa d) os) (HQ8.out d os)));have HN2:=Hd (fun d os=>Calls.regrown_of (HIn2.out (grow (redrawn wa d) os) (HQ8.out d os)));have HN3:=Hd (fun d os=>Calls.regrown_of (HIn3.out (grow (redrawn wa d) os) (HQ8.out d os)));clear y0 y1 y2 y3 y4;refine wp_region_quiet_below (by kernel_rfl) (by kernel_rfl) ?_
      repeat (go_big_quiet_step (first|with_reducible exact HN1.out _ _|with_reducible exact HN2.out _ _|with_reducible exact HN3.out _ _))
      refine wpQuiet_nil ?_;intro _ hw';obtain⟨⟨dq,osq⟩,hw''⟩:=hw';subst hw'';have HBb:=Hd (HQ8.out dq osq);generalize grow (redrawn wa dq) osq=wb at *;obtain⟨y0,y1,y2,y3,y4⟩:=HXa.out wb HBb.out;have HBb3:=Hd (HBa.out.trans (HBb.out.mono HBa.out.size))
      go_upto_region 25 with fail
      have HMc:=Hd (HMa.out.below HBb.out);have HBc:=HBb3;have HXc:=Hd (fun w' (h:Below wb.heap.size wb w')=>HXa.out w' (HBb.out.trans (h.mono HBb.out.size)));have HXg:=Hd (fun w' (h:Below wb.heap.size wb w')=>HXh.out w' (HBb.out.trans (h.mono HBb.out.size)));have HMb:=Hd (show RfM w3.heap.size wb gn cn go co gb cb P O (bodR S f) by rw[HS2.out];exact HMc.out);have HVb:=Hd (show Value.slice (some ⟨gb,0,none⟩) S.length cb=.slice (some ⟨gb,0,none⟩) (bodR S f).length cb by rw[HS2.out]);have hSb:(bodR S f).length≤i+1:=by rw[HS2.out];omega
      clear HMa HXa HXh HBb HBb3 HMc HS2 HIn1 HIn2 HIn3 HQ8 HN1 HN2 HN3;clear t1 t2 t5
     case' neg=>
      have t1:decide (0<(f.body.length:Int))=true:=by have:=zwc hbd;simp;omega
      have t2:decide (0<f.body.length)=true:=decide_eq_true (zwc hbd)
      by_cases a3:f.name ∈ S
      ·have HFin:=Hd (HSix.out (.inr (.inr ⟨hbd,a3⟩)))
       simp only[zm8 a3]at hin3;have HIn3:=Hd hin3;clear a3 hin3 HTy HSame HLong HNew HN6' hbd;have ky0:=cell_regrown y0;have ky1:=cell_regrown y1;have ky2:=cell_regrown y2;have ky4:=cell_regrown y4;have HN1:=Hd (fun d os=>Calls.regrown_of (HIn1.out (grow (redrawn wa d) os) (HQ8.out d os)));have HN2:=Hd (fun d os=>Calls.regrown_of (HIn2.out (grow (redrawn wa d) os) (HQ8.out d os)));have HN3:=Hd (fun d os=>Calls.regrown_of (HIn3.out (grow (redrawn wa d) os) (HQ8.out d os)));clear y0 y1 y2 y3 y4;refine wp_region_quiet_below (by kernel_rfl) (by kernel_rfl) ?_
       repeat (go_big_quiet_step (first|with_reducible exact HN1.out _ _|with_reducible exact HN2.out _ _|with_reducible exact HN3.out _ _))
       refine wpQuiet_nil ?_;intro _ hw';obtain⟨⟨dq,osq⟩,hw''⟩:=hw';subst hw'';have HBb:=Hd (HQ8.out dq osq);generalize grow (redrawn wa dq) osq=wb at *;obtain⟨y0,y1,y2,y3,y4⟩:=HXa.out wb HBb.out;have HBb3:=Hd (HBa.out.trans (HBb.out.mono HBa.out.size));obtain⟨⟨d0,d1⟩,fd⟩:=HR3.out wb HBb3.out;have fd0:=fd 0;have fd1:=fd 1
       go_wp2_with fail
       go_region_law (fail)
       all_goals
        go_wp2_with fail
        exact bodyPost_ret (v:=.tuple #[.slice none 0 0,.slice none 0 0,.agg #[.int .i64 f.at_,.int .i64 6]]) (by simp[results,Tryz.results7,go_sem,d0,d1]) rfl ⟨Below.drew (Below.setCell (Below.setCell (HBw3.out _ HBb3.out) (Nat.le_succ _) _) (Nat.le_succ _) _),by rw[HFin.out]⟩
      simp only[zs9 a3]at hin3;have HIn3:=Hd hin3;have HNs:=Hd (HN6'.out (fun _=>a3));have HS2:=Hd (show bodR S f=S++[f.name] by unfold bodR;rw[if_neg hbd]);clear hbd hin3 HN6' HSix a3;have ky0:=cell_regrown y0;have ky1:=cell_regrown y1;have ky2:=cell_regrown y2;have ky4:=cell_regrown y4;have HN1:=Hd (fun d os=>Calls.regrown_of (HIn1.out (grow (redrawn wa d) os) (HQ8.out d os)));have HN2:=Hd (fun d os=>Calls.regrown_of (HIn2.out (grow (redrawn wa d) os) (HQ8.out d os)));have HN3:=Hd (fun d os=>Calls.regrown_of (HIn3.out (grow (redrawn wa d) os) (HQ8.out d os)));clear y0 y1 y2 y3 y4;refine wp_region_quiet_below (by kernel_rfl) (by kernel_rfl) ?_
      repeat (go_big_quiet_step (first|with_reducible exact HN1.out _ _|with_reducible exact HN2.out _ _|with_reducible exact HN3.out _ _))
      refine wpQuiet_nil ?_;intro _ hw';obtain⟨⟨dq,osq⟩,hw''⟩:=hw';subst hw'';have HBb:=Hd (HQ8.out dq osq);generalize grow (redrawn wa dq) osq=wb at *;obtain⟨y0,y1,y2,y3,y4⟩:=HXa.out wb HBb.out;have HBb3:=Hd (HBa.out.trans (HBb.out.mono HBa.out.size));have hn1:S.length+1≤maxLen:=by unfold maxLen;omega
      have hn2:(S.length+1)*16≤140737488355328:=by omega
      have HNum:=Hd (And.intro hn1 hn2);have HMb0:=Hd (HMa.out.below HBb.out);clear hn1 hn2
      go_upto_region 24 with (at_builtin;go_loud (refine wpList_append_lies _ rfl _ _ _ rfl w3.heap.size 9 i1 _ 1 16 Tryz.underlying29 HInS.out.1 HInS.out.2.1 HInS.out.2.2.1 HInS.out.2.2.2 rfl (by decide) (.slice (some ⟨gb,0,none⟩) S.length cb) S.length (S.map .string) rfl (HMb0.out.bodies.belowed (ba1 _ _)) ⟨_,0,none⟩ 1 1 [.string f.name] rfl rfl (World.news_of_block (cs:=#[.string f.name]) (zv8 _ _)) (by simp[Value.oneCell']) (by decide) HNum.out.1 HNum.out.2 (zv6 HBb3.out.size (ba1 _ _).size) _ rfl ?_);intro gg cap' wc hown hgrow hat _)
      have HMc:=Hd ((HMb0.out.below (ba1 wb (.cells #[.string f.name] 9))).grewB hgrow hown (hat.imp (fun e=>zv4 e) id));have HBc:=Hd (show Below w3.heap.size w3 wc from (HBb3.out.trans ((ba1 wb (.cells #[.string f.name] 9)).mono HBb3.out.size)).grown hgrow (zv6 HBb3.out.size (ba1 _ _).size) (fun k hk=>by cases hk;exact HMs.out.2.2.1));have hxb0:=HXh.out wb HBb.out;have hxb:=((ba1 wb (.cells #[.string f.name] 9)).block _ (zaa hxb0)).trans hxb0;have hxc:=(hgrow.block _ (zaa hxb) (fun e=>HXn.out.2.2 (zv4 e).symm)).trans hxb;have HXc:=Hd (fun w' (h:Below wc.heap.size wc w')=>(zad ((h.block _ (zaa hxc)).trans hxc)).1);have HXg:=Hd (fun w' (h:Below wc.heap.size wc w')=>(h.block _ (zaa hxc)).trans hxc);have HMb:=Hd (show RfM w3.heap.size wc gn cn go co gg cap' P O (bodR S f) by rw[HS2.out];exact HMc.out);have HVb:=Hd (show Value.slice (some ⟨gg,0,none⟩) (S.length+1) cap'=.slice (some ⟨gg,0,none⟩) (bodR S f).length cap' by rw[HS2.out,List.length_append];rfl);have hSb:(bodR S f).length≤i+1:=by rw[HS2.out,List.length_append,List.length_cons,List.length_nil];omega
      clear y0 y1 y2 y3 y4 hown hgrow hat hxb0 hxb hxc HMa HXa HXh HBb HBb3 HMb0 HMc HNum HS2 HIn1 HIn2 HIn3 HQ8 HN1 HN2 HN3;clear t1 t2 t5;generalize wc=wb at *
      go_upto_region 25 with fail
     all_goals
      go_wp2_with fail
      go_loopg [14,15] (P.length-N.length) (fun m v14 v15 wy=>∃(k:Nat) (th:Bool),N.length≤k∧k≤P.length∧k+m=P.length∧v14=.bool th∧v15=.int .i64 (k:Int)∧Hid (th=true→∃(j:Nat) (hj:j<P.length) (hj':j<O.length),N.length≤j∧P[j]=f.name∧O[j].type=f.type)∧Hid (th=false→∀(j:Nat) (hj:j<P.length),N.length≤j→j<k→P[j]≠f.name)∧Hid (Below wb.heap.size wb wy))
      case atStart=>exact⟨N.length,false,by omega,by omega,by omega,rfl,rfl,Hd (fun h=>by cases h),Hd (fun _ j _ h1 h2=>by omega),Hd (zv3 _ _)⟩
      case round=>
       try clear y0 y1 y2 y3 y4
       obtain⟨k,th,hk1,hk2,hkm,rfl,rfl,HT,HF,HC⟩:=hrel;obtain⟨y0,y1,y2,y3,y4⟩:=HXc.out wr HC.out
       by_cases hkl:k<P.length
       ·have hko:k<O.length:=by omega
        have m1:=(zli (HMb.out.names.belowed HC.out) rfl).2 k hkl
        have HM2:=Hd (fun w' (h:Below wb.heap.size wb w')=>show w'.cell? ⟨go,k*3+2,none⟩=some (.string O[k].type) from by
         obtain⟨go',co',hgs,_,_,_,_,hcs,_⟩:=zax zdA (HMb.out.out.belowed h) rfl hko;obtain⟨rfl,rfl⟩:go=go'∧co=co':=by simpa using hgs
         exact hcs 2 _ rfl)
        have e1:=zbD (a:=P[k]) (b:=f.name);have e2:=zbD (a:=O[k].type) (b:=f.type)
        by_cases b1:P[k]=f.name
        ·rw[decide_eq_true b1]at e1
         by_cases b2:O[k].type=f.type
         ·rw[decide_eq_true b2]at e2
          have HT2:=Hd (show ∃(j:Nat) (hj:j<P.length) (hj':j<O.length),N.length≤j∧P[j]=f.name∧O[j].type=f.type from ⟨k,hkl,hko,hk1,b1,b2⟩);clear b1 b2;generalize O[k].type=ot at *;generalize P[k]=pn at *
          go_upto_region 28 with fail
          go_quiet (fail)
          have HC2:=Hd (zaf HC.out nq);clear y0 y1 y2 y3 y4 m1;generalize wr.drewN nq=wr2 at *;obtain⟨y0,y1,y2,y3,y4⟩:=HXc.out wr2 HC2.out;have m2:=HM2.out wr2 HC2.out
          go_upto_region 30 with fail
          go_quiet (fail)
          go_wp2_with fail
          go_roundg (P.length-(k+1))
          case measure=>omega
          case rel=>exact⟨k+1,true,by omega,by omega,by omega,rfl,by rw[zv9];rfl,Hd (fun _=>HT2.out),Hd (fun h=>by cases h),Hd (zaf HC2.out _)⟩
         ·rw[decide_eq_false b2]at e2
          have HFin:=Hd (HTy.out HNs.out k hkl hko hk1 b1 b2);clear b1 b2;generalize O[k].type=ot at *;generalize P[k]=pn at *
          go_upto_region 28 with fail
          go_quiet (fail)
          have HC2:=Hd (zaf HC.out nq);clear y0 y1 y2 y3 y4 m1;generalize wr.drewN nq=wr2 at *;obtain⟨y0,y1,y2,y3,y4⟩:=HXc.out wr2 HC2.out;have m2:=HM2.out wr2 HC2.out
          go_upto_region 30 with fail
          go_quiet (fail)
          have HC3:=Hd (zaf HC2.out nq);clear y0 y1 y2 y3 y4 m2;generalize wr2.drewN nq=wr3 at *;obtain⟨y0,y1,y2,y3,y4⟩:=HXc.out wr3 HC3.out;have HBr:=Hd (HBc.out.trans (HC3.out.mono HBc.out.size));obtain⟨⟨d0,d1⟩,fd⟩:=HR3.out wr3 HBr.out;have fd0:=fd 0;have fd1:=fd 1
          go_wp2_with fail
          go_region_law (fail)
          all_goals
           go_wp2_with fail
           exact bodyPost_ret (v:=.tuple #[.slice none 0 0,.slice none 0 0,.agg #[.int .i64 f.at_,.int .i64 131]]) (by simp[results,Tryz.results7,go_sem,d0,d1]) rfl ⟨Below.drew (Below.setCell (Below.setCell (HBw3.out _ HBr.out) (Nat.le_succ _) _) (Nat.le_succ _) _),by rw[HFin.out]⟩
        ·rw[decide_eq_false b1]at e1
         have HF2:=Hd (show th=false→∀(j:Nat) (hj:j<P.length),N.length≤j→j<k+1→P[j]≠f.name from fun h j hj h1 h2=>by
          rcases Nat.lt_or_ge j k with h3|h3
          ·exact HF.out h j hj h1 h3
          ·obtain rfl:j=k:=by omega
           exact b1)
         clear b1 e2;generalize P[k]=pn at *
         go_upto_region 28 with fail
         go_quiet (fail)
         go_wp2_with fail
         go_roundg (P.length-(k+1))
         case measure=>omega
         case rel=>exact⟨k+1,th,by omega,by omega,by omega,rfl,by rw[zv9];rfl,HT,HF2,Hd (zaf HC.out _)⟩
       ·obtain rfl:k=P.length:=by omega
        have HBr:=Hd (HBc.out.trans (HC.out.mono HBc.out.size));have HMr:=Hd (HMb.out.below HC.out);have HXr:=Hd (HXg.out wr HC.out);cases th with
        | true=>
          obtain⟨j,hj,hj',h1,h2,h3⟩:=HT.out rfl;have HJ2:=Hd (HSame.out HNs.out j hj hj' h1 h2 h3);clear h1 h2 h3
          go_wp2_with fail
          go_roundg (u.funcs.length-(i+1))
          case measure=>omega
          case rel=>exact⟨i+1,_,_,_,_,_,_,P,O,bodR S f,by omega,by omega,rfl,rfl,HVb.out,by rw[zv9];rfl,hOP,hOP2,hNP,by omega,hSb,HMr,HJ2,HBr⟩
        | false=>
          have HNn:=Hd (fun (k:Nat) (hk:k<P.length) (hg:N.length≤k)=>HF.out rfl k hk hg hk)
          by_cases hl:128≤P.length-N.length
          ·have HFin:=Hd (HLong.out HNs.out HNn.out hl)
           have t6:decide ((128:Int)≤(P.length:Int)-(N.length:Int))=true:=by simp;omega
           go_upto_region 34 with fail
           obtain⟨⟨d0,d1⟩,fd⟩:=HR3.out wr HBr.out;have fd0:=fd 0;have fd1:=fd 1
           go_wp2_with fail
           go_region_law (fail)
           all_goals
            go_wp2_with fail
            exact bodyPost_ret (v:=.tuple #[.slice none 0 0,.slice none 0 0,.agg #[.int .i64 f.at_,.int .i64 3]]) (by simp[results,Tryz.results7,go_sem,d0,d1]) rfl ⟨Below.drew (Below.setCell (Below.setCell (HBw3.out _ HBr.out) (Nat.le_succ _) _) (Nat.le_succ _) _),by rw[HFin.out]⟩
          ·have HJ2:=Hd (HNew.out HNs.out HNn.out hl)
           have t6:decide ((128:Int)≤(P.length:Int)-(N.length:Int))=false:=by simp;omega
           have hn1:P.length+1≤maxLen:=by unfold maxLen;omega
           have hn2:(P.length+1)*16≤140737488355328:=by omega
           have hn3:O.length+1≤maxLen:=by unfold maxLen;omega
           have hn4:(O.length+1)*32≤140737488355328:=by omega
           have HNum2:=Hd (And.intro hn1 (And.intro hn2 (And.intro hn3 hn4)));have hsub:IntKind.i64.wrap ((P.length:Int)-(N.length:Int))=((P.length-N.length:Nat):Int):=by rw[IntKind.wrap_i64];omega
           have HIx:=Hd hsub;clear hn1 hn2 hn3 hn4 hsub;have hxr:=HXr.out
           go_upto_region 36 with (at_builtin;go_loud (refine wpList_append_lies _ rfl _ _ _ rfl w3.heap.size 78 i0 _ 3 32 Tryz.underlying28 HInf.out.1 HInf.out.2.1 HInf.out.2.2.1 HInf.out.2.2.2 rfl (by decide) (.slice (some ⟨go,0,none⟩) O.length co) O.length (O.flatMap bndCells) rfl (HMr.out.out.belowed (ba1 _ _)) ⟨_,0,none⟩ 1 1 [.int .i64 2,.int .i64 ((P.length:Int)-(N.length:Int)),.string f.type] rfl rfl (World.news_of_block (cs:=#[.int .i64 2,.int .i64 ((P.length:Int)-(N.length:Int)),.string f.type]) (zv8 _ _)) (by simp[Value.oneCell']) (by decide) HNum2.out.2.2.1 HNum2.out.2.2.2 (zv6 HBr.out.size (ba1 _ _).size) _ rfl ?_);intro g2 cap2 wd hown2 hgrow2 hat2 _)
           have hcast:(P.length:Int)-(N.length:Int)=((P.length-N.length:Nat):Int):=by omega
           have HMd:=Hd ((HMr.out.below (ba1 wr (.cells #[.int .i64 2,.int .i64 ((P.length:Int)-(N.length:Int)),.string f.type] 78))).grewO (x:=⟨2,(P.length:Int)-(N.length:Int),f.type⟩) hgrow2 hown2 (hat2.imp (fun e=>zv4 e) (fun e=>e.trans (by simp))));rw[hcast]at HMd;have HBd:=Hd (show Below w3.heap.size w3 wd from (HBr.out.trans ((ba1 wr (.cells #[.int .i64 2,.int .i64 ((P.length:Int)-(N.length:Int)),.string f.type] 78)).mono HBr.out.size)).grown hgrow2 (zv6 HBr.out.size (ba1 _ _).size) (fun k hk=>by cases hk;exact HMr.out.lt.2.1.1));have hxb:=((ba1 wr (.cells #[.int .i64 2,.int .i64 ((P.length:Int)-(N.length:Int)),.string f.type] 78)).block _ (zaa hxr)).trans hxr;have hxd:=(hgrow2.block _ (zaa hxb) (fun e=>HXn.out.2.1 (zv4 e).symm)).trans hxb;clear y0 y1 y2 y3 y4;obtain⟨⟨y0,y1,y2,y3,y4⟩,_⟩:=zad hxd;clear hown2 hgrow2 hat2 hxb hxd hxr hcast
           go_wp2_with (at_builtin;go_loud (refine wpList_append_lies _ rfl _ _ _ rfl w3.heap.size 9 i1 _ 1 16 Tryz.underlying29 HInS.out.1 HInS.out.2.1 HInS.out.2.2.1 HInS.out.2.2.2 rfl (by decide) (.slice (some ⟨gn,0,none⟩) P.length cn) P.length (P.map .string) rfl (HMd.out.names.belowed (ba1 _ _)) ⟨_,0,none⟩ 1 1 [.string f.name] rfl rfl (World.news_of_block (cs:=#[.string f.name]) (zv8 _ _)) (by simp[Value.oneCell']) (by decide) HNum2.out.1 HNum2.out.2.1 (zv6 HBd.out.size (ba1 _ _).size) _ rfl ?_))
           intro g3 cap3 we hown3 hgrow3 hat3 _;have HMe:=Hd ((HMd.out.below (ba1 wd (.cells #[.string f.name] 9))).grewN hgrow3 hown3 (hat3.imp (fun e=>zv4 e) (fun e=>e.trans (by simp))));have HBe:=Hd (show Below w3.heap.size w3 we from (HBd.out.trans ((ba1 wd (.cells #[.string f.name] 9)).mono HBd.out.size)).grown hgrow3 (zv6 HBd.out.size (ba1 _ _).size) (fun k hk=>by cases hk;exact HMd.out.lt.1.1));clear hown3 hgrow3 hat3;have h5:(O++[(⟨2,((P.length-N.length:Nat):Int),f.type⟩:Bnd)]).length=O.length+1:=by simp
           have h6:(P++[f.name]).length=P.length+1:=by simp
           go_wp2_with fail
           go_roundg (u.funcs.length-(i+1))
           case measure=>omega
           case rel=>exact⟨i+1,_,_,_,_,_,_,P++[f.name],O++[⟨2,((P.length-N.length:Nat):Int),f.type⟩],bodR S f,by omega,by omega,by rw[h6],by rw[h5],HVb.out,by rw[zv9];rfl,by omega,by omega,by omega,by omega,hSb,HMe,HJ2,HBe⟩
    ·obtain rfl:i=u.funcs.length:=by omega
     obtain⟨s,hs,hN,hO⟩:=HJ.out.done;have HS:=Hd (And.intro hs (And.intro hN hO));obtain⟨⟨d0,d1⟩,fd⟩:=HR3.out wr HB.out;have fd0:=fd 0;have fd1:=fd 1;clear hs hN hO HJ
     go_wp2_with fail
     refine bodyPost_ret (v:=.tuple #[.slice (some ⟨go,0,none⟩) O.length co,.slice (some ⟨gn,0,none⟩) P.length cn,.agg #[.int .i64 0,.int .i64 0]]) (by simp[results,Tryz.results7,go_sem,d0,d1]) rfl ⟨Below.setCell (Below.setCell (HBw3.out _ HB.out) (Nat.le_succ _) _) (Nat.le_succ _) _,?_⟩;obtain⟨hs,hN,hO⟩:=HS.out;rw[hs];have h3s:=HB3s.out;have hmv:∀k,w3.heap.size≤k→((wr.setCell ⟨w.heap.size+1,0,none⟩ (.int .i64 0)).setCell ⟨w.heap.size+1,1,none⟩ (.int .i64 0)).heap[k]?=wr.heap[k]?:=fun k hk=>by
      have hne:k≠w.heap.size+1:=by omega
      rw[Below.heap_setCell _ _ _ _ hne,Below.heap_setCell _ _ _ _ hne]
     have h1:=za4 HM.out.out (A:=w.heap.size) (by omega) hmv;have h2:=za4 HM.out.names (A:=w.heap.size) (by omega) hmv;subst hN hO;rw[List.length_map]at h1 h2;rw[List.flatMap_map]at h1;rw[List.map_map]at h2;exact⟨_,_,by rw[List.length_map,List.length_map],h1,h2⟩
end Go.Proofs.YtbbaooeioogijaaGreatDoor
