/- A function put: the program. -/
import Derived.Test.YtbbaooeioogijaaGreatDoorMg12
namespace Go.Proofs.YtbbaooeioogijaaGreatDoor
open Go.RowKit Go.Maps
set_option maxRecDepth 100000
set_option maxHeartbeats 8000000
def ztw (s:FileN)(x:FnU):Int:=match oneF s x with
 | .inl c=>c
 | .inr _=>0
def zsI (s:FileN)(x:FnU):FileN:=match oneF s x with
 | .inl _=>s
 | .inr s'=>s'
def ziK (A B N b mb:Nat)(s:FileN)(x:FnU)(w:World)(e:Ending)(w':World):Prop:=e=.returned (.int .i64 (ztw s x))∧FileM A B w' b mb (zsI s x)∧Below B w w'∧KeepU w w' (·<N)
theorem zcW {A B N b mb:Nat}{s:FileN}{x:FnU}{w w':World}{c:Int}(h:oneF s x=.inl c)(hs:FileM A B w' b mb s)(hb:Below B w w')(hk:KeepU w w' (·<N)):ziK A B N b mb s x w (.returned (.int .i64 c)) w':=by
 unfold ziK ztw zsI;rw[h];exact⟨rfl,hs,hb,hk⟩
theorem zgw {A B N b mb:Nat}{s s':FileN}{x:FnU}{w w':World}(h:oneF s x=.inr s')(hs:FileM A B w' b mb s')(hb:Below B w w')(hk:KeepU w w' (·<N)):ziK A B N b mb s x w (.returned (.int .i64 0)) w':=by
 unfold ziK ztw zsI;rw[h];exact⟨rfl,hs,hb,hk⟩
theorem zle {B:Nat}{w:World}{v:Value}{T:List Nd}(h:IsTr B w v T):∃a cap,v=.slice a T.length cap:=by
 obtain⟨a,cap,e,_⟩:=h;exact⟨a,cap,e⟩
theorem zgC {B:Nat}{w:World}{v:Value}{T:List VrU}(h:IsVrs B w v T):∃a cap,v=.slice a T.length cap:=by
 obtain⟨a,cap,e,_⟩:=h;exact⟨a,cap,e⟩
theorem zlf (s:ByteArray):s.data.toList=s.toList:=by
 have h:(s.toList == s.toList)=true:=by simp
 rw[zq4]at h;exact of_decide_eq_true h
theorem zjJ {s t:ByteArray}(h:¬s=t):(s.toList == t.toList)=false:=by
 rw[zq4];exact decide_eq_false fun e=>h (zhx (e.trans (zlf t).symm))
theorem zq0 {A B b mb g cap n i:Nat}{w:World}{sv av vp vb:Value}{s:FileN}{x:FnU}{Q:List (FnU × Value × Value)}(hR:FileR B w b mb sv av (.slice (some ⟨g,0,none⟩) s.funcs.length cap) (.slice (some ⟨g,0,none⟩) s.funcs.length cap) sv av n s.look s.funcs.length (Q.flatMap zaA) s.ents.length (s.ents.flatMap fun e=>bndCells e.2) s.ents.length (s.ents.map fun e=>.string e.1))
 (hQ:Q.map Prod.fst=s.funcs) (hF:∀q ∈ Q,IsFnU A w q.1 q.2.1 q.2.2) (hx:IsFnU A w x vp vb) (hn:n≤s.ents.length+10) (hi:i<Q.length) (hg:B≤g) (hA:A≤B) :
 FileM A B (((((w.setCell ⟨g,i*5,none⟩ (.int .i64 x.at_)).setCell ⟨g,i*5+1,none⟩ (.string x.name)).setCell ⟨g,i*5+2,none⟩ (.string x.type)).setCell ⟨g,i*5+3,none⟩ vp).setCell ⟨g,i*5+4,none⟩ vb) b mb ⟨s.ents,s.funcs.set i x⟩:=by
 have h5:=((((hR.setL (i*5) (.int .i64 x.at_)).setL (i*5+1) (.string x.name)).setL (i*5+2) (.string x.type)).setL (i*5+3) vp).setL (i*5+4) vb;rw[zhj (q:=(x,vp,vb)) zc8 rfl Q i hi]at h5;have hb:Below B w (((((w.setCell ⟨g,i*5,none⟩ (.int .i64 x.at_)).setCell ⟨g,i*5+1,none⟩ (.string x.name)).setCell ⟨g,i*5+2,none⟩ (.string x.type)).setCell ⟨g,i*5+3,none⟩ vp).setCell ⟨g,i*5+4,none⟩ vb):=
  ((((((zv3 _ _).setCell (p:=⟨g,i*5,none⟩) hg _).setCell (p:=⟨g,i*5+1,none⟩) hg _).setCell (p:=⟨g,i*5+2,none⟩) hg _).setCell (p:=⟨g,i*5+3,none⟩) hg _).setCell (p:=⟨g,i*5+4,none⟩) hg _)
 refine⟨hA,.slice (some ⟨g,0,none⟩) s.funcs.length cap,sv,av,Q.set i (x,vp,vb),n,?_,by rw[List.map_set,hQ],fun q hq=>?_,hn⟩
 ·have e:(s.funcs.set i x).length=s.funcs.length:=by simp
  rw[show (FileN.mk s.ents (s.funcs.set i x)).funcs.length=s.funcs.length from e];exact h5
 ·rcases List.mem_or_eq_of_mem_set hq with h|rfl
  ·exact(hF q h).below hb hA
  ·exact hx.below hb hA
theorem zq2 {A B b mb n:Nat}{w:World}{lv sv av vp vb:Value}{s:FileN}{x:FnU}{Q:List (FnU × Value × Value)}(hlk:s.look x.name=none)
 (hR:FileR B w b mb sv av lv lv sv av (n+1) (fun t=>if t=x.name then some ⟨2,(s.funcs.length:Int),x.type⟩ else s.look t) (s.funcs.length+1) (Q.flatMap zaA++zaA (x,vp,vb)) (s.ents.length+1) ((s.ents.flatMap fun e=>bndCells e.2)++bndCells ⟨2,(s.funcs.length:Int),x.type⟩) (s.ents.length+1) ((s.ents.map fun e=>.string e.1)++[.string x.name]))
 (hQ:Q.map Prod.fst=s.funcs) (hF:∀q ∈ Q,IsFnU A w q.1 q.2.1 q.2.2) (hx:IsFnU A w x vp vb) (hn:n≤s.ents.length+10) (hA:A≤B) :
 FileM A B w b mb ⟨s.ents++[(x.name,⟨2,(s.funcs.length:Int),x.type⟩)],s.funcs++[x]⟩:=by
 refine⟨hA,lv,sv,av,Q++[(x,vp,vb)],n+1,?_,by rw[List.map_append,hQ];rfl,fun q hq=>?_,by simp;omega⟩
 ·simp only
  rw[List.length_append,List.length_append,List.flatMap_append,List.flatMap_append,List.map_append];exact hR.same fun t=>(zm3 hlk _ t).symm
 ·rcases List.mem_append.1 hq with h|h
  ·exact hF q h
  ·rw[List.mem_singleton]at h
   subst h;exact hx
theorem zqz:(Tryz.prog.info? 45).map (fun i=>(i.zero,i.size,i.bytes))=some (some (.agg #[.int .i64 0,.string ⟨#[]⟩,.string ⟨#[]⟩,.slice none 0 0,.slice none 0 0]),5,88):=by kernel_rfl
theorem zmq:bndV bnd0=.agg #[.int .i64 0,.int .i64 0,.string ⟨#[]⟩]:=rfl
theorem ztn {A B b mb:Nat}{s:FileN}{x:FnU}{vp vb:Value}(w0 w:World)(h:FileM A B w0 b mb s)(hb0:Below w0.heap.size w0 w)(hO:FileOk s)(hB:B≤w.heap.size)(hn:s.ents.length≤512)(hx:IsFnU A w x vp vb) :
 Calls Tryz.prog 36 #[.pointer (some ⟨b,0,none⟩),.agg #[.int .i64 x.at_,.string x.name,.string x.type,vp,vb]] w fun e w'=>ziK A B w0.heap.size b mb s x w e w':=by
 obtain⟨ap,cp,rfl⟩:=zgC hx.params;obtain⟨ab,cb,rfl⟩:=zle hx.body;have HX:=Hd hx;have HO:=Hd hO;obtain⟨hA,lv,sv,av,Q,n,hR0,hQ,hF0,hnn⟩:=h;have hR:=hR0.below hb0;have hF:∀q ∈ Q,IsFnU A w q.1 q.2.1 q.2.2:=fun q hq=>(hF0 q hq).below hb0 (by have:=hR0.base.1;have:=hR0.lt;omega)
 have HN0:=Hd (show (b<w0.heap.size∧mb<w0.heap.size)∧(∀k,sv.ownBlock=some k→k<w0.heap.size)∧(∀k,av.ownBlock=some k→k<w0.heap.size)∧(∀k,lv.ownBlock=some k→k<w0.heap.size) from ⟨⟨hR0.lt,hR0.mlt⟩,fun k e=>(hR0.sizes.lt _ e).2,fun k e=>(hR0.aligns.lt _ e).2,fun k e=>(hR0.list.lt _ e).2⟩);have HN1:=Hd hb0.size;clear hF0 hR0 hb0;have HQ:=Hd (And.intro hQ (And.intro hF hnn));have hb1:=ba1 w (.cells #[.int .i64 x.at_,.string x.name,.string x.type,.slice ap x.params.length cp,.slice ab x.body.length cb] 45);have hx1:=zv8 w (.cells #[.int .i64 x.at_,.string x.name,.string x.type,.slice ap x.params.length cp,.slice ab x.body.length cb] 45)
 go_enter Tryz.func36,Tryz.ntmps36
 go_upto_region 1 with fail
 generalize w.alloc (.cells #[.int .i64 x.at_,.string x.name,.string x.type,.slice ap x.params.length cp,.slice ab x.body.length cb] 45)=w1 at *;have hR1:=hR.below hb1;have hl1:=(hR1.below ((zv3 _ w1).drew)).names.look2 HX.out.name;have hl2:=(hR1.below (((zv3 _ w1).alloc (zv0 _) (.cells #[.int .i64 0,.int .i64 0,.string ⟨#[]⟩] 78)).drew)).names.look2 HX.out.name;have hlz:w.heap.size<w1.heap.size:=zaa hx1;have HR1:=Hd hR1;have HR0:=Hd (show b<w.heap.size∧mb<w.heap.size∧sv.ownBlock≠some w.heap.size∧av.ownBlock≠some w.heap.size from ⟨hR.lt,hR.mlt,fun e=>absurd (hR.sizes.lt _ e).2 (Nat.lt_irrefl _),fun e=>absurd (hR.aligns.lt _ e).2 (Nat.lt_irrefl _)⟩);obtain⟨⟨k0,k1,k2,k3⟩,_⟩:=hR1.cells;have hbz:=hR1.lt;obtain⟨⟨y0,y1,y2,y3,y4⟩,_⟩:=zad hx1;have HX1:=Hd hx1;have HB1:=Hd hb1;generalize hq:(s.look x.name).getD bnd0=q at *;generalize hfl:(s.look x.name).isSome=fl at *;obtain⟨qk,qi,qt⟩:=q;simp only[bndV]at hl1 hl2;have HL:=Hd (And.intro hq hfl);clear hx1 hb1 hR hR1 hQ hF hnn hx hO hq hfl
 go_cut [5,6] (fun s5 s6 wx=>Hid (∃c,s5=.pointer (some ⟨c,0,none⟩)∧s6=.bool fl∧w1.heap.size≤c∧wx.heap[c]?=some (.cells #[.int .i64 qk,.int .i64 qi,.string qt] 78 (0,0))∧Below w1.heap.size w1 wx))
 case first=>
  go_region_law (fail)
  all_goals
   go_wp2_with fail
   go_meet
   exact Hd ⟨w1.heap.size,rfl,rfl,zv0 _,zv8 w1 _,((zv3 _ w1).alloc (zv0 _) _).drew⟩
 case rest=>
  clear hl1 hl2 k0 k1 k2 k3 y0 y1 y2 y3 y4;obtain⟨c,rfl,rfl,hcl,hc,hbc⟩:=hcut.out;clear hcut;have HRc:=Hd (HR1.out.below hbc);have hxc:=(hbc.block _ hlz).trans HX1.out;have HBc:=Ht HB1 hbc;have HKc:=Hd ((KeepU.refl w (·<w0.heap.size)).below (zv0 _) HBc.out);obtain⟨⟨k0,k1,k2,k3⟩,_⟩:=HRc.out.cells;obtain⟨⟨y0,y1,y2,y3,y4⟩,_⟩:=zad hxc;obtain⟨⟨z0,z1,z2⟩,_⟩:=zac hc;have HXc:=Hd hxc;have HC:=Hd hc;clear hxc hc hbc;rcases hlk:s.look x.name with _|bd
  ·obtain⟨hq,hfl⟩:=HL.out
   rw[hlk]at hq hfl;simp only[Option.getD_none,Option.isSome_none]at hq hfl;subst hfl;cases hq;obtain⟨al,cl,rfl⟩:=zam HRc.out.list;have HFm:=Hd (show FileM A B wc b mb s from ⟨hA,_,_,_,Q,n,HRc.out,HQ.out.1,fun q hq=>(HQ.out.2.1 q hq).below HBc.out (by omega),HQ.out.2.2⟩)
   by_cases hlong:128≤s.funcs.length
   ·have hfin:=Hd (show oneF s x=.inl 3 by unfold oneF;rw[hlk];simp only;rw[if_pos hlong])
    have t1:(128:Int)≤(s.funcs.length:Int):=by omega
    go_upto_region 2 with fail
    go_wp2_with fail
    go_ret;exact zcW hfin.out HFm.out (HBc.out.mono hB) HKc.out
   ·have t1:(s.funcs.length:Int)<128:=by omega
    have hfin:=Hd (show oneF s x=.inr ⟨s.ents++[(x.name,⟨2,(s.funcs.length:Int),x.type⟩)],s.funcs++[x]⟩ by unfold oneF;rw[hlk];simp only;rw[if_neg hlong]);have hput:=ztM x.name ⟨2,(s.funcs.length:Int),x.type⟩ wc.drew (HRc.out.below (zv3 _ _).drew) (by have:=HBc.out.size;show B≤wc.heap.size;omega) (by have:=HQ.out.2.2;unfold maxLen;omega) (by omega) (by omega) HX.out.name;simp only[bndV]at hput;have HPut:=Hd hput;clear hput
    go_upto_region 2 with fail
    go_wp2_with fail
    go_cut [] (fun wx=>∃sv' av',Hid (FileR B wx b mb sv' av' (.slice al s.funcs.length cl) (.slice al s.funcs.length cl) sv' av' (n+1) (fun t=>if t=x.name then some ⟨2,(s.funcs.length:Int),x.type⟩ else s.look t) s.funcs.length (Q.flatMap zaA) (s.ents.length+1) ((s.ents.flatMap fun e=>bndCells e.2)++bndCells ⟨2,(s.funcs.length:Int),x.type⟩) (s.ents.length+1) ((s.ents.map fun e=>.string e.1)++[.string x.name]))∧Hid (Below B wc wx∧KeepU wc wx (PutT b mb sv av)))
    case first=>
     go_region_law ((go_simp;go_at_call 35;(with_reducible refine HPut.out.mono ?_);rintro e w7 ⟨rfl,⟨sv',av',hr7⟩,hb7,hu7⟩;have HR7:=Hd hr7;have HB7:=Hd hb7;have HU7:=Hd hu7;clear hr7 hb7 hu7))
     all_goals
      go_wp2_with fail
      go_meet
      exact⟨_,_,HR7,Hd ⟨((zv3 _ wc).drew.mono (by have:=HBc.out.size;omega)).trans HB7.out,HU7.out⟩⟩
    case rest=>
     obtain⟨sv',av',HR7,HC7⟩:=hcut
     have hx7:=(HC7.out.2 _ (by have:=zaa HXc.out;exact this) (by
      have h1:=HR1.out.apart w.heap.size;have h2:=HR0.out;rintro(h|h|h|h)
      ·exact absurd h.symm (Nat.ne_of_lt h2.1)
      ·exact absurd h.symm (Nat.ne_of_lt h2.2.1)
      ·exact h2.2.2.1 h
      ·exact h2.2.2.2 h)).trans HXc.out
     have HBw:=Hd ((HBc.out.mono hB).trans HC7.out.1)
     have HKw:=Hd (show KeepU w wc (·<w0.heap.size) from fun k hk hT=>(HC7.out.2 k (zv5 hk HBc.out.size) (by
      rintro(h|h|h|h)
      ·exact hT (h▸HN0.out.1.1)
      ·exact hT (h▸HN0.out.1.2)
      ·exact hT (HN0.out.2.1 k h)
      ·exact hT (HN0.out.2.2.1 k h))).trans (HKc.out k hk hT))
     have HSw:=Hd HBw.out.size;have HFq:=Hd (show ∀q ∈ Q,IsFnU A wc q.1 q.2.1 q.2.2 from fun q hq=>((HQ.out.2.1 q hq).below HBw.out hA));have HXf:=Hd (HX.out.below HBw.out hA);clear k0 k1 k2 k3 y0 y1 y2 y3 y4 z0 z1 z2;obtain⟨⟨k0,k1,k2,k3⟩,_⟩:=HR7.out.cells;obtain⟨⟨y0,y1,y2,y3,y4⟩,_⟩:=zad hx7;have hbz7:=HR7.out.lt;have hxz7:=zaa hx7;have hB7:B≤wc.heap.size:=by omega
     have HBig:=Hd (show Below wc.heap.size wc (wc.alloc (.cells #[.int .i64 x.at_,.string x.name,.string x.type,.slice ap x.params.length cp,.slice ab x.body.length cb] 45)).drew from ((zv3 _ _).alloc (zv0 _) _).drew);obtain⟨i0,hi,hz0,hz1',hz2'⟩:=info_parts zqz;have HIn:=Hd (And.intro hi (And.intro hz0 (And.intro hz1' hz2')));clear hi hz0 hz1' hz2' hx7
     go_upto_region 16 with fail
     go_region_law ((refine step_append_lies _ (by rfl) _ _ _ (by rfl) B 45 i0 _ 5 88 Tryz.underlying24 HIn.out.1 HIn.out.2.1 HIn.out.2.2.1 HIn.out.2.2.2 rfl (by omega) (.slice al s.funcs.length cl) s.funcs.length (Q.flatMap zaA) (by rfl) (HR7.out.list.belowed HBig.out) ⟨wc.heap.size,0,none⟩ 1 1 [.int .i64 x.at_,.string x.name,.string x.type,.slice ap x.params.length cp,.slice ab x.body.length cb] (by rfl) (by rfl) (World.news_of_block (cs:=#[.int .i64 x.at_,.string x.name,.string x.type,.slice ap x.params.length cp,.slice ab x.body.length cb]) (t:=45) (fr:=(0,0)) (zv8 wc _)) (by simp[Value.oneCell']) (by omega) (by unfold maxLen;omega) (by omega) (by simp;omega) (wc.heap.size+1) (by simp) ?_;intro gg cpp w9 hown hgrow hat hlt9;have hk9:=(HR7.out.below HBig.out).grewL hgrow hown (fun k hk=>(zca hat hk).imp id (fun e=>e.trans (by simp)));have j0:=hk9.cells.1.2.2.2;have jf:=hk9.cells.2 3))
     all_goals
      have HK9:=Hd (hk9.put 3 (Value.slice (some ⟨gg,0,none⟩) (s.funcs.length+1) cpp) rfl);have hb9:=(((zv3 B wc).trans (HBig.out.mono hB7)).grown hgrow (by have:=HBig.out.size;omega) (fun k hk=>(HR7.out.list.lt k hk).1)).setCell (p:=⟨b,3,none⟩) HR7.out.base.1 (Value.slice (some ⟨gg,0,none⟩) (s.funcs.length+1) cpp);have HB9:=Hd hb9;have HK0:=Hd (((HKw.out.below HSw.out HBig.out).grown (zv6 HSw.out HBig.out.size) hgrow (fun k hk=>HN0.out.2.2.2 k hk)).set ⟨b,3,none⟩ (Value.slice (some ⟨gg,0,none⟩) (s.funcs.length+1) cpp) HN0.out.1.1);clear hk9 hown hgrow hat hlt9 j0 jf hb9
      go_wp2_with fail
      go_ret;exact zgw hfin.out (zq2 hlk HK9.out HQ.out.1 (fun q hq=>(HFq.out q hq).below HB9.out hA) (HXf.out.below HB9.out hA) HQ.out.2.2 hA) (HBw.out.trans HB9.out) HK0.out
  ·obtain⟨hq,hfl⟩:=HL.out
   rw[hlk]at hq hfl;simp only[Option.getD_some,Option.isSome_some]at hq hfl;subst hfl hq
   by_cases hk:qk=2
   ·subst hk
    obtain⟨o1,o2,o3⟩:=HO.out.func hlk rfl;simp only at o1 o2 o3;obtain⟨i,rfl⟩:∃i:Nat,qi=(i:Int):=⟨qi.toNat,by omega⟩
    rw[Int.toNat_natCast]at o2 o3;have hQl:Q.length=s.funcs.length:=by rw[← HQ.out.1,List.length_map]
    have hiQ:i<Q.length:=by omega
    obtain⟨g,cap,rfl,hg,hgl,hcap,hcm,hcs,hfz⟩:=zax zc8 HRc.out.list hQl.symm hiQ;rcases hqi:Q[i] with ⟨old,vp',vb'⟩;have hold:s.funcs.getD i fnU0=old:=by
     rw[← HQ.out.1,zv2,List.getElem?_map,zv1 hiQ,hqi]
     rfl
    have hmo:=HQ.out.2.1 Q[i] (zwb hiQ);rw[hqi]at hmo hcs;simp only at hmo;obtain⟨ao,co,rfl⟩:=zle hmo.body;obtain⟨aq,cq,rfl⟩:=zgC hmo.params;have m0:=hcs 0 _ rfl;rw[Nat.add_zero]at m0;have m1:=hcs 1 _ rfl;have m2:=hcs 2 _ rfl;have m3:=hcs 3 _ rfl;have m4:=hcs 4 _ rfl;have f0:=hfz (i*5);have f1:=hfz (i*5+1);have f2:=hfz (i*5+2);have f3:=hfz (i*5+3);have f4:=hfz (i*5+4);have HMo:=Hd hmo;have HFm:=Hd (show FileM A B wc b mb s from ⟨hA,_,_,_,Q,n,HRc.out,HQ.out.1,fun q hq=>(HQ.out.2.1 q hq).below HBc.out (by omega),HQ.out.2.2⟩);have hone:oneF s x=if x.body≠[]∧old.body≠[] then .inl 6 else if old.type≠x.type then .inl 131 else if x.body≠[] then .inr ⟨s.ents,s.funcs.set i x⟩ else .inr s:=by
     unfold oneF;rw[hlk];simp only[Int.toNat_natCast,hold];rw[if_neg (by simp)]
    have HOne:=Hd hone;have o3:old.name=x.name:=by rw[← hold];exact o3
    clear hcs hfz hmo hone
    go_upto_region 2 with fail
    go_wp2_with fail
    go_quiet (fail)
    have hdr:=Hd fun m=>(show Below wc.heap.size wc (wc.drewN m) from zaf (zv3 _ _) m)
    have hd2:=Hd fun m k=>(show Below wc.heap.size wc ((wc.drewN m).drewN k) from zaf (zaf (zv3 _ _) m) k)
    by_cases hxb:x.body=[]
    ·have t1:x.body.length=0:=by rw[hxb];rfl
     by_cases hty:old.type=x.type
     ·have hfin:=Hd (show oneF s x=.inr s by rw[HOne.out,if_neg (by simp[hxb]),if_neg (by simp[hty]),if_neg (by simp[hxb])])
      rw[hty]at m2
      go_wp2_with fail
      go_quiet (fail)
      go_wp2_with fail
      go_ret
      first|exact zgw hfin.out (HFm.out.below (hdr.out _)) ((HBc.out.trans ((hdr.out _).mono HBc.out.size)).mono hB) (HKc.out.below HBc.out.size (hdr.out _))|exact zgw hfin.out (HFm.out.below (hd2.out _ _)) ((HBc.out.trans ((hd2.out _ _).mono HBc.out.size)).mono hB) (HKc.out.below HBc.out.size (hd2.out _ _))
     ·have hfin:=Hd (show oneF s x=.inl 131 by rw[HOne.out,if_neg (by simp[hxb]),if_pos hty])
      have t2:=zjJ hty
      go_wp2_with fail
      go_quiet (fail)
      go_wp2_with fail
      go_ret
      first|exact zcW hfin.out (HFm.out.below (hdr.out _)) ((HBc.out.trans ((hdr.out _).mono HBc.out.size)).mono hB) (HKc.out.below HBc.out.size (hdr.out _))|exact zcW hfin.out (HFm.out.below (hd2.out _ _)) ((HBc.out.trans ((hd2.out _ _).mono HBc.out.size)).mono hB) (HKc.out.below HBc.out.size (hd2.out _ _))
    ·have t1:0<x.body.length:=zwc hxb
     by_cases hob:old.body=[]
     ·have t2:old.body.length=0:=by rw[hob];rfl
      by_cases hty:old.type=x.type
      ·have hfin:=Hd (show oneF s x=.inr ⟨s.ents,s.funcs.set i x⟩ by rw[HOne.out,if_neg (by simp[hob]),if_neg (by simp[hty]),if_pos hxb])
       rw[hty]at m2
       go_wp2_with fail
       go_quiet (fail)
       go_wp2_with fail
       go_ret;exact zgw hfin.out (zq0 (HRc.out.below (hdr.out _)) HQ.out.1 (fun q hq=>((HQ.out.2.1 q hq).below HBc.out (zv6 hA hB)).below (hdr.out _) (by have:=HBc.out.size;omega)) ((HX.out.below HBc.out (zv6 hA hB)).below (hdr.out _) (by have:=HBc.out.size;omega)) HQ.out.2.2 hiQ hg hA)
        ((((((HBc.out.trans ((hdr.out _).mono HBc.out.size)).mono hB).setCell (p:=⟨g,i*5,none⟩) hg _).setCell (p:=⟨g,i*5+1,none⟩) hg _).setCell (p:=⟨g,i*5+2,none⟩) hg _).setCell (p:=⟨g,i*5+3,none⟩) hg _ |>.setCell (p:=⟨g,i*5+4,none⟩) hg _)
        ((((((HKc.out.below HBc.out.size (hdr.out _)).set ⟨g,i*5,none⟩ _ (HN0.out.2.2.2 g rfl)).set ⟨g,i*5+1,none⟩ _ (HN0.out.2.2.2 g rfl)).set ⟨g,i*5+2,none⟩ _ (HN0.out.2.2.2 g rfl)).set ⟨g,i*5+3,none⟩ _ (HN0.out.2.2.2 g rfl)).set ⟨g,i*5+4,none⟩ _ (HN0.out.2.2.2 g rfl))
      ·have hfin:=Hd (show oneF s x=.inl 131 by rw[HOne.out,if_neg (by simp[hob]),if_pos hty])
       have t3:=zjJ hty
       go_wp2_with fail
       go_quiet (fail)
       go_wp2_with fail
       go_ret
       first|exact zcW hfin.out (HFm.out.below (hdr.out _)) ((HBc.out.trans ((hdr.out _).mono HBc.out.size)).mono hB) (HKc.out.below HBc.out.size (hdr.out _))|exact zcW hfin.out (HFm.out.below (hd2.out _ _)) ((HBc.out.trans ((hd2.out _ _).mono HBc.out.size)).mono hB) (HKc.out.below HBc.out.size (hd2.out _ _))
     ·have hfin:=Hd (show oneF s x=.inl 6 by rw[HOne.out,if_pos ⟨hxb,hob⟩])
      have t2:0<old.body.length:=zwc hob
      go_wp2_with fail
      go_ret
      first|exact zcW hfin.out (HFm.out.below (hdr.out _)) ((HBc.out.trans ((hdr.out _).mono HBc.out.size)).mono hB) (HKc.out.below HBc.out.size (hdr.out _))|exact zcW hfin.out (HFm.out.below (hd2.out _ _)) ((HBc.out.trans ((hd2.out _ _).mono HBc.out.size)).mono hB) (HKc.out.below HBc.out.size (hd2.out _ _))
   ·have hfin:=Hd (show oneF s x=.inl 6 by unfold oneF;rw[hlk];simp only;rw[if_pos hk])
    go_upto_region 2 with fail
    go_wp2_with fail
    go_ret;exact zcW hfin.out ⟨hA,_,_,_,Q,n,HRc.out,HQ.out.1,fun q hq=>(HQ.out.2.1 q hq).below HBc.out (by omega),HQ.out.2.2⟩ (HBc.out.mono (by omega)) HKc.out
end Go.Proofs.YtbbaooeioogijaaGreatDoor
