/- A function for each name: the reference. -/
import Derived.Test.YtbbaooeioogijaaGreatDoorRefUnit
import Derived.Test.YtbbaooeioogijaaGreatDoorMg14
namespace Go.Proofs.YtbbaooeioogijaaGreatDoor
open Go.RowKit Go.Sort
set_option maxRecDepth 100000
set_option maxHeartbeats 8000000
def FsRow (A B:Nat)(w:World)(v:Value)(Q:List (FnU × Value × Value)):Prop:=w.ownsRow B 45 5 v Q.length (Q.flatMap zaA)∧∀q ∈ Q,IsFnU A w q.1 q.2.1 q.2.2
theorem FsRow.below {A B:Nat}{w w':World}{v:Value}{Q:List (FnU × Value × Value)}(h:FsRow A B w v Q)(hb:Below w.heap.size w w')(hA:A≤w.heap.size):FsRow A B w' v Q:=⟨h.1.belowed hb,fun q hq=>(h.2 q hq).below hb hA⟩
theorem zmy (out:List FnU)(f:FnU):zeD out f=if lastTo f.name out out.length<0 then out++[f] else if (out.getD (lastTo f.name out out.length).toNat fnU0).body=[]∧f.body≠[] then out.set (lastTo f.name out out.length).toNat f else out:=rfl
theorem FsRow.set {A B g cap i:Nat}{w:World}{x:FnU}{vp vb:Value}{Q:List (FnU × Value × Value)}(h:FsRow A B w (.slice (some ⟨g,0,none⟩) Q.length cap) Q)(hx:IsFnU A w x vp vb)(hi:i<Q.length)(hg:B≤g)(hA:A≤B) :
 Below B w (((((w.setCell ⟨g,i*5,none⟩ (.int .i64 x.at_)).setCell ⟨g,i*5+1,none⟩ (.string x.name)).setCell ⟨g,i*5+2,none⟩ (.string x.type)).setCell ⟨g,i*5+3,none⟩ vp).setCell ⟨g,i*5+4,none⟩ vb) ∧
 FsRow A B (((((w.setCell ⟨g,i*5,none⟩ (.int .i64 x.at_)).setCell ⟨g,i*5+1,none⟩ (.string x.name)).setCell ⟨g,i*5+2,none⟩ (.string x.type)).setCell ⟨g,i*5+3,none⟩ vp).setCell ⟨g,i*5+4,none⟩ vb) (.slice (some ⟨g,0,none⟩) Q.length cap) (Q.set i (x,vp,vb)):=by
 have h5:=zci (c:=i*5+4) (u:=vb) (zci (c:=i*5+3) (u:=vp) (zci (c:=i*5+2) (u:=.string x.type) (zci (c:=i*5+1) (u:=.string x.name) (zci (c:=i*5) (u:=.int .i64 x.at_) h.1))));rw[zhj (q:=(x,vp,vb)) zc8 rfl Q i hi]at h5;have hb:Below B w (((((w.setCell ⟨g,i*5,none⟩ (.int .i64 x.at_)).setCell ⟨g,i*5+1,none⟩ (.string x.name)).setCell ⟨g,i*5+2,none⟩ (.string x.type)).setCell ⟨g,i*5+3,none⟩ vp).setCell ⟨g,i*5+4,none⟩ vb):=
  ((((((zv3 _ _).setCell (p:=⟨g,i*5,none⟩) hg _).setCell (p:=⟨g,i*5+1,none⟩) hg _).setCell (p:=⟨g,i*5+2,none⟩) hg _).setCell (p:=⟨g,i*5+3,none⟩) hg _).setCell (p:=⟨g,i*5+4,none⟩) hg _)
 refine⟨hb,?_,fun q hq=>?_⟩
 ·rw[List.length_set];exact h5
 ·rcases List.mem_or_eq_of_mem_set hq with h'|rfl
  ·exact(h.2 q h').below hb hA
  ·exact hx.below hb hA
def zu9 (u:UnU)(w:World)(e:Ending)(w':World):Prop:=(∃v Q,e=.returned v∧FsRow w.heap.size w.heap.size w' v Q∧Q.map Prod.fst=zeK u.funcs)∧Below w.heap.size w w'
theorem zjV (u:UnU)(vs vg vf:Value)(w:World)(hU:IsUn w.heap.size w u vs vg vf)(h256:u.funcs.length≤256) :
 Calls Tryz.prog 26 #[.agg #[vs,vg,vf]] w (zu9 u w):=by
 obtain⟨sa,sc,mv,rfl,_⟩:=hU.structs;obtain⟨ag,cg,rfl,_⟩:=zbc hU.globals;obtain⟨af,cf,hvf,_⟩:=zbd hU.funcs;have HFl:=Hd (fun (i:Nat) (hi:i<u.funcs.length)=>zd4 hU.funcs hi);subst hvf;clear hU
 go_enter Tryz.func26,Tryz.ntmps26
 go_upto_region 1 with fail
 generalize hgQ:w.alloc (.cells #[.slice sa u.structs.length sc,.slice ag u.globals.length cg,.slice af u.funcs.length cf] 26)=w0 at *;obtain⟨hx0,hb0⟩:=box0 hgQ;clear hgQ;have HQ:=Hd (fun w' (h:Below w0.heap.size w0 w')=>(zac ((h.block _ (zaa hx0)).trans hx0)).1);have HB0:=Hd hb0;clear hx0 hb0;have h88:(u.funcs.length:Int)≤256:=by omega
 obtain⟨q0,q1,q2⟩:=HQ.out w0 (zv3 _ _)
 go_wp2_with fail
 go_loopg [3,4] u.funcs.length (fun m v3 v4 wy=>∃(i:Nat) (Q:List (FnU × Value × Value)),i≤u.funcs.length∧i+m=u.funcs.length∧v4=.int .i64 (i:Int)∧Q.length≤i∧Hid (FsRow w.heap.size w0.heap.size wy v3 Q)∧Hid (Q.map Prod.fst=(u.funcs.take i).foldl zeD [])∧Hid (Below w0.heap.size w0 wy))
 case atStart=>exact⟨0,[],by omega,by omega,rfl,by simp,Hd ⟨World.ownsRow_lit w0 #[] 0 (zv0 _) (by decide) rfl,fun q hq=>by cases hq⟩,Hd rfl,Hd (ba1 w0 _)⟩
 case round=>
  obtain⟨i,Q,hi,him,rfl,hqi,HO,HM,HB⟩:=hrel;obtain⟨ao,co,rfl⟩:=zam HO.out.1;obtain⟨q0,q1,q2⟩:=HQ.out wr HB.out
  by_cases hlt:i<u.funcs.length
  ·obtain⟨b,off,cq,vp,vb,hsq,hblt,hG,c0,c1,c2,c3,c4⟩:=HFl.out i hlt
   obtain⟨rfl,rfl⟩:af=some ⟨b,off,none⟩∧cf=cq:=by simpa using hsq
   have HNx:=Hd (show (u.funcs.take (i+1)).foldl zeD []=zeD (Q.map Prod.fst) (u.funcs[i]'hlt) from by
    rw[HM.out,List.take_add_one,zv1 hlt,Option.toList_some,List.foldl_append];rfl)
   obtain⟨ap,cp,rfl⟩:=zgC hG.params;obtain⟨ab,cb,rfl⟩:=zle hG.body;have hwb:=HB0.out.trans (HB.out.mono HB0.out.size);rw[← hwb.cell hblt]at c0 c1 c2 c3 c4;have HGm:=Hd hG;generalize u.funcs[i]'hlt=f at *;clear hsq hG
   go_upto_region 6 with fail
   generalize hgQ:wr.alloc (.cells #[.int .i64 f.at_,.string f.name,.string f.type,.slice ap f.params.length cp,.slice ab f.body.length cb] 45)=wa at *;obtain⟨hx,hba⟩:=box0 hgQ;clear hgQ;have HBa:=Ht HB hba;have HOa:=Hd (HO.out.below hba (by have:=HB0.out.size;have:=HB.out.size;omega));have HXa:=Hd (fun w' (h:Below wa.heap.size wa w')=>(zad ((h.block _ (zaa hx)).trans hx)).1);clear hx hba c0 c1 c2 c3 c4;have hqz:(Q.length:Int)≤256:=by omega
   obtain⟨y0,y1,y2,y3,y4⟩:=HXa.out wa (zv3 _ _)
   go_wp2_with fail
   go_loopg [6,7] Q.length (fun m v6 v7 wy=>∃(k:Nat),k≤Q.length∧k+m=Q.length∧v7=.int .i64 (k:Int)∧v6=.int .i64 (lastTo f.name (Q.map Prod.fst) k)∧Hid (Below wa.heap.size wa wy))
   case atStart=>exact⟨0,by omega,by omega,rfl,rfl,Hd (zv3 _ _)⟩
   case round=>
    obtain⟨k,hk,hkm,rfl,rfl,HC⟩:=hrel;obtain⟨y0,y1,y2,y3,y4⟩:=HXa.out _ HC.out
    by_cases hkl:k<Q.length
    ·obtain⟨g,cap,hgs,hgB,hgl,hcap,hcm,hcs,_⟩:=zax zc8 (HOa.out.1.belowed HC.out) rfl hkl
     obtain⟨rfl,rfl⟩:ao=some ⟨g,0,none⟩∧co=cap:=by simpa using hgs
     have m1:=hcs 1 _ rfl;have hst:lastTo f.name (Q.map Prod.fst) (k+1)=if Q[k].1.name=f.name then (k:Int) else lastTo f.name (Q.map Prod.fst) k:=by
      rw[lastTo,zv2,List.getElem?_map,zv1 hkl]
      rfl
     have he:=zbD (a:=Q[k].1.name) (b:=f.name);generalize Q[k].1.name=qn at *;generalize lastTo f.name (Q.map Prod.fst) k=lk at *;clear hcs hgs
     by_cases hs:qn=f.name
     ·rw[if_pos hs]at hst
      rw[decide_eq_true hs]at he;clear hs;have HSt:=Hd hst;clear hst
      go_upto_region 10 with fail
      go_quiet (fail)
      go_wp2_with fail
      go_roundg (Q.length-(k+1))
      case measure=>omega
      case rel=>exact⟨k+1,by omega,by omega,by rw[zv9];rfl,by rw[HSt.out],Hd (zaf HC.out _)⟩
     ·rw[if_neg hs]at hst
      rw[decide_eq_false hs]at he;clear hs;have HSt:=Hd hst;clear hst
      go_upto_region 10 with fail
      go_quiet (fail)
      go_wp2_with fail
      go_roundg (Q.length-(k+1))
      case measure=>omega
      case rel=>exact⟨k+1,by omega,by omega,by rw[zv9];rfl,by rw[HSt.out],Hd (zaf HC.out _)⟩
    ·obtain rfl:k=Q.length:=by omega
     have hst:=HNx.out;rw[zmy]at hst;rw[List.length_map]at hst;have hlr:=zd2 f.name (Q.map Prod.fst) Q.length;have HBr:=Hd (HBa.out.trans (HC.out.mono HBa.out.size));have HOr:=Hd (HOa.out.below HC.out (by have:=HB0.out.size;have:=HBa.out.size;omega));generalize lastTo f.name (Q.map Prod.fst) Q.length=lk at *;rcases hlr with rfl|⟨j,hj,rfl,_⟩
     ·rw[if_pos (by decide)]at hst
      have HSt:=Hd hst;clear hst;obtain⟨i0,hi0,hz0,hz1',hz2'⟩:=info_parts zqz;have HIn:=Hd (And.intro hi0 (And.intro hz0 (And.intro hz1' hz2')));clear hi0 hz0 hz1' hz2';have hn1:Q.length+1≤maxLen:=by unfold maxLen;omega
      have hn2:(Q.length+1)*88≤140737488355328:=by omega
      have HNum:=Hd (And.intro hn1 hn2);have HOne:=Hd (zuJ (f,.slice ap f.params.length cp,.slice ab f.body.length cb) ⟨_,_,_,rfl⟩ ⟨_,_,_,rfl⟩);have HZ:=Hd (fun x=>zv6 HBr.out.size (ba1 wr x).size);clear hn1 hn2
      go_wp2_with (at_builtin;go_loud (refine wpList_append_lies _ rfl _ _ _ rfl w0.heap.size 45 i0 _ 5 88 Tryz.underlying24 HIn.out.1 HIn.out.2.1 HIn.out.2.2.1 HIn.out.2.2.2 rfl (by decide) _ Q.length (Q.flatMap zaA) rfl (HOr.out.1.belowed (ba1 wr _)) ⟨_,0,none⟩ 1 1 (zaA (f,.slice ap f.params.length cp,.slice ab f.body.length cb)) rfl rfl (World.news_of_block (cs:=#[.int .i64 f.at_,.string f.name,.string f.type,.slice ap f.params.length cp,.slice ab f.body.length cb]) (zv8 _ _)) HOne.out (by decide) HNum.out.1 HNum.out.2 (HZ.out _) _ rfl ?_))
      intro gg cap' w11 hown hgrow hat _;have hbz:=HBr.out.size;have hbg:Below w0.heap.size wr w11:=((ba1 wr _).mono hbz).grown hgrow (HZ.out _) (fun k hk=>(HOr.out.1.lt k hk).1);have HE2:=Hd (HBr.out.trans hbg)
      have HE1:=Hd (show FsRow w.heap.size w0.heap.size w11 (.slice (some ⟨gg,0,none⟩) (Q.length+1) cap') (Q++[(f,.slice ap f.params.length cp,.slice ab f.body.length cb)]) from ⟨by
       rw[List.length_append,List.flatMap_append];simpa using hown,fun q hq=>by
       rcases List.mem_append.1 hq with h|h
       ·exact(HOr.out.2 q h).below hbg HB0.out.size
       ·rw[List.mem_singleton]at h
        subst h
        exact HGm.out.below (HB0.out.trans (HE2.out.mono HB0.out.size)) (zv0 _)⟩)
      have HE3:=Hd (show (Q++[(f,Value.slice ap f.params.length cp,Value.slice ab f.body.length cb)]).map Prod.fst=(u.funcs.take (i+1)).foldl zeD [] by rw[List.map_append,HSt.out];rfl);clear hbg hown hgrow hat hbz
      go_wp2_with fail
      go_roundg (u.funcs.length-(i+1))
      case measure=>omega
      case rel=>exact⟨i+1,_,by omega,by omega,by rw[zv9];rfl,by simp;omega,HE1,HE3,HE2⟩
     ·rw[if_neg (by omega)]at hst
      simp only[Int.toNat_natCast]at hst;have hj1:(j:Int)<(Q.length:Int):=by omega
      have tj:decide ((j:Int)<0)=false:=by simp
      obtain⟨g,cap,hgs,hgB,hgl,hcap,hcm,hcs,_⟩:=zax zc8 HOr.out.1 rfl hj;obtain⟨rfl,rfl⟩:ao=some ⟨g,0,none⟩∧co=cap:=by simpa using hgs
      obtain⟨aq,cqq,hqv⟩:=zle (HOr.out.2 _ (zwb hj)).body;have hgd:((Q.map Prod.fst).getD j fnU0).body=Q[j].1.body:=by
       rw[zv2,List.getElem?_map,zv1 hj];rfl
      rw[hgd]at hst;have m4:=hcs 4 _ rfl;rw[hqv]at m4
      by_cases b1:Q[j].1.body=[]
      ·have t1:((Q[j].1.body.length:Int) == 0)=true:=by rw[b1];rfl
       by_cases b2:f.body=[]
       ·have t2:decide (0<(f.body.length:Int))=false:=by rw[b2];rfl
        have t3:decide (0<f.body.length)=false:=by rw[b2];rfl
        have HE3:=Hd (show Q.map Prod.fst=(u.funcs.take (i+1)).foldl zeD [] from by rw[hst,if_neg (fun h=>h.2 b2)]);clear hst hgd hcs hgs b1 b2
        go_wp2_with fail
        go_roundg (u.funcs.length-(i+1))
        case measure=>omega
        case rel=>exact⟨i+1,Q,by omega,by omega,by rw[zv9];rfl,by omega,HOr,HE3,HBr⟩
       ·have t2:decide (0<(f.body.length:Int))=true:=by have:=zwc b2;simp;omega
        have t3:decide (0<f.body.length)=true:=decide_eq_true (zwc b2);have HE3:=Hd (show (Q.set j (f,.slice ap f.params.length cp,.slice ab f.body.length cb)).map Prod.fst=(u.funcs.take (i+1)).foldl zeD [] from by rw[hst,if_pos ⟨b1,b2⟩,List.map_set]);have hxf:=HGm.out.below (HB0.out.trans (HBr.out.mono HB0.out.size)) (zv0 _);obtain⟨hbs,hrs⟩:=FsRow.set HOr.out hxf hj hgB HB0.out.size;have HE1:=Hd hrs;have HE2:=Hd (HBr.out.trans hbs);clear hst hgd hgs hxf hbs hrs b1 b2;have m0:=hcs 0 _ rfl;have m1:=hcs 1 _ rfl;have m2:=hcs 2 _ rfl;have m3:=hcs 3 _ rfl;rw[Nat.add_zero]at m0
        go_wp2_with fail
        go_roundg (u.funcs.length-(i+1))
        case measure=>omega
        case rel=>exact⟨i+1,_,by omega,by omega,by rw[zv9];rfl,by simp;omega,HE1,HE3,HE2⟩
      ·have t1:((Q[j].1.body.length:Int) == 0)=false:=by have:=zwc b1;simp;omega
       have HE3:=Hd (show Q.map Prod.fst=(u.funcs.take (i+1)).foldl zeD [] from by rw[hst,if_neg (fun h=>b1 h.1)]);clear hst hgd hcs hgs b1
       go_wp2_with fail
       go_roundg (u.funcs.length-(i+1))
       case measure=>omega
       case rel=>exact⟨i+1,Q,by omega,by omega,by rw[zv9];rfl,by omega,HOr,HE3,HBr⟩
  ·obtain rfl:i=u.funcs.length:=by omega
   have HRs:=Hd (show Q.map Prod.fst=zeK u.funcs from by rw[HM.out,List.take_length];rfl);have hs0:=HB0.out.size
   go_wp2_with fail
   go_ret;exact⟨⟨_,Q,rfl,⟨za4 HO.out.1 (by omega) (fun k _=>rfl),HO.out.2⟩,HRs.out⟩,HB0.out.trans (HB.out.mono HB0.out.size)⟩
end Go.Proofs.YtbbaooeioogijaaGreatDoor
