/- A global of a unit looked at: the reference -/
import Derived.Test.YtbbaooeioogijaaGreatDoorMg12
import Derived.Lib.QuietBelow
namespace Go.Proofs.YtbbaooeioogijaaGreatDoor
open Go.RowKit Go.Sort
set_option maxRecDepth 100000
set_option maxHeartbeats 16000000
theorem zaH (r:Bool)(s:ByteArray)(w:World)(h:isNameB s=r):Calls Tryz.prog 58 #[.string s] w fun e w'=>e=.returned (.bool r)∧Below w.heap.size w w':=by
 subst h;exact zbI s w
theorem zc4 (c:Int)(s:ByteArray)(a:Option Addr)(cap:Nat)(L:List Sr)(mv:List Value)(w:World)(hS:IsSrs w.heap.size w a L mv)(hcap:L.length≤cap)(hcm:cap≤maxLen)(h:checkN L s=c) :
 Calls Tryz.prog 60 #[.string s,.slice a L.length cap] w fun e w'=>e=.returned (.int .i64 c)∧Below w.heap.size w w':=by
 subst h;exact zb4 s a cap L mv w hS hcap hcm
theorem ziV (k:Int)(w:World):Calls Tryz.prog 61 #[.int .i64 k] w fun e w'=>e=.returned (.bool (exprK k))∧Below w.heap.size w w':=
 (zh6 k w).mono fun _ _ ⟨h1,h2⟩=>⟨h1,h2▸zv3 _ _⟩
theorem zqF {L:List Sr}{g:GlU}(h:(typedS g.var.type && zaU g.var.type)=false):zdf L g=false:=by
 unfold zdf;rcases hO:zaU g.var.type with _|_
 ·simp
 ·rw[decide_eq_false (p:=checkN L g.var.type=0) (fun hc=>by rw[zcf hc,hO]at h;cases h)];simp
theorem zdU (r:Bool)(s:ByteArray)(w:World)(h:(typedS s && zaU s)=r):Calls Tryz.prog 59 #[.string s] w fun e w'=>e=.returned (.bool r)∧Below w.heap.size w w':=by
 subst h;exact ze8 s w
theorem znR (g:GlU)(v:Value)(l:Option Addr)(lc:Nat)(L:List Sr)(mv:List Value)(w:World)(hG:IsGlU w.heap.size w g v)(hS:IsSrs w.heap.size w l L mv)(_hcap:L.length≤lc)(_hcm:lc≤maxLen)(hn:isNameB g.var.name=false) :
 Calls Tryz.prog 38 #[glUV g v,.slice l L.length lc] w (zav (globE L g) w):=by
 have hfin:globE L g=90:=zbi (by unfold zdf;rw[hn];rfl);have HNm:=Hd (fun w=>zaH false g.var.name w hn);obtain⟨gat,⟨gname,gtype,gvol⟩,ginit⟩:=g;simp only[glUV]at *
 go_enter Tryz.func38,Tryz.ntmps38
 go_upto_region 1 with fail
 generalize hgQ:w.alloc (.cells #[.int .i64 gat,.string gname,.string gtype,.bool gvol,v] 64)=w0 at *;obtain⟨hx0,hb0⟩:=box0 hgQ;clear hgQ;have HNd:=Hd (fun w' (h:Below w0.heap.size w0 w')=>(zad ((h.block _ (zaa hx0)).trans hx0)).1);have HB0:=Hd hb0;have HSx:=Hd (fun w' (h:Below w0.heap.size w0 w')=>(hS.below (hb0.trans (h.mono hb0.size))).mono (hb0.trans (h.mono hb0.size)).size);obtain⟨x0,x1,x2,x3,x4⟩:=HNd.out w0 (zv3 _ _);have HFin:=Hd hfin;clear hG hS _hcap _hcm hx0 hb0 hfin hn
 go_wp2_with (go_at_call 58;(with_reducible refine(HNm.out _).mono ?_);rintro e w1 ⟨rfl,hb1⟩;have HB1:=Hd (hb1);obtain⟨x0,x1,x2,x3,x4⟩:=HNd.out w1 HB1.out;clear hb1)
 go_ret;exact zaq HFin.out (HB0.out.trans (HB1.out.mono HB0.out.size))
theorem zsh (g:GlU)(v:Value)(l:Option Addr)(lc:Nat)(L:List Sr)(mv:List Value)(w:World)(hG:IsGlU w.heap.size w g v)(hS:IsSrs w.heap.size w l L mv)(_hcap:L.length≤lc)(_hcm:lc≤maxLen)(hn:isNameB g.var.name=true)(ha:g.at_<0) :
 Calls Tryz.prog 38 #[glUV g v,.slice l L.length lc] w (zav (globE L g) w):=by
 have hfin:globE L g=90:=zbi (by unfold zdf;rw[hn,decide_eq_false (by omega)];rfl);have HNm:=Hd (fun w=>zaH true g.var.name w hn);obtain⟨gat,⟨gname,gtype,gvol⟩,ginit⟩:=g;simp only[glUV]at *
 go_enter Tryz.func38,Tryz.ntmps38
 go_upto_region 1 with fail
 generalize hgQ:w.alloc (.cells #[.int .i64 gat,.string gname,.string gtype,.bool gvol,v] 64)=w0 at *;obtain⟨hx0,hb0⟩:=box0 hgQ;clear hgQ;have HNd:=Hd (fun w' (h:Below w0.heap.size w0 w')=>(zad ((h.block _ (zaa hx0)).trans hx0)).1);have HB0:=Hd hb0;have HSx:=Hd (fun w' (h:Below w0.heap.size w0 w')=>(hS.below (hb0.trans (h.mono hb0.size))).mono (hb0.trans (h.mono hb0.size)).size);obtain⟨x0,x1,x2,x3,x4⟩:=HNd.out w0 (zv3 _ _);have t1:decide (gat<0)=true:=by simpa using ha
 have HFin:=Hd hfin;clear hG hS _hcap _hcm hx0 hb0 hfin hn ha
 go_wp2_with (go_at_call 58;(with_reducible refine(HNm.out _).mono ?_);rintro e w1 ⟨rfl,hb1⟩;have HB1:=Hd (hb1);obtain⟨x0,x1,x2,x3,x4⟩:=HNd.out w1 HB1.out;clear hb1)
 go_ret;exact zaq HFin.out (HB0.out.trans (HB1.out.mono HB0.out.size))
theorem zsi (g:GlU)(v:Value)(l:Option Addr)(lc:Nat)(L:List Sr)(mv:List Value)(w:World)(hG:IsGlU w.heap.size w g v)(hS:IsSrs w.heap.size w l L mv)(_hcap:L.length≤lc)(_hcm:lc≤maxLen)(hn:isNameB g.var.name=true)(ha:¬g.at_<0)(ha2:65536<g.at_) :
 Calls Tryz.prog 38 #[glUV g v,.slice l L.length lc] w (zav (globE L g) w):=by
 have hfin:globE L g=90:=zbi (by unfold zdf;rw[hn,decide_eq_false (by omega)];rfl);have HNm:=Hd (fun w=>zaH true g.var.name w hn);obtain⟨gat,⟨gname,gtype,gvol⟩,ginit⟩:=g;simp only[glUV]at *
 go_enter Tryz.func38,Tryz.ntmps38
 go_upto_region 1 with fail
 generalize hgQ:w.alloc (.cells #[.int .i64 gat,.string gname,.string gtype,.bool gvol,v] 64)=w0 at *;obtain⟨hx0,hb0⟩:=box0 hgQ;clear hgQ;have HNd:=Hd (fun w' (h:Below w0.heap.size w0 w')=>(zad ((h.block _ (zaa hx0)).trans hx0)).1);have HB0:=Hd hb0;have HSx:=Hd (fun w' (h:Below w0.heap.size w0 w')=>(hS.below (hb0.trans (h.mono hb0.size))).mono (hb0.trans (h.mono hb0.size)).size);obtain⟨x0,x1,x2,x3,x4⟩:=HNd.out w0 (zv3 _ _);have t1:decide (gat<0)=false:=by simpa using ha
 have t2:decide (65536<gat)=true:=by simpa using ha2
 have HFin:=Hd hfin;clear hG hS _hcap _hcm hx0 hb0 hfin hn ha ha2
 go_wp2_with (go_at_call 58;(with_reducible refine(HNm.out _).mono ?_);rintro e w1 ⟨rfl,hb1⟩;have HB1:=Hd (hb1);obtain⟨x0,x1,x2,x3,x4⟩:=HNd.out w1 HB1.out;clear hb1)
 go_ret;exact zaq HFin.out (HB0.out.trans (HB1.out.mono HB0.out.size))
theorem zjU (g:GlU)(v:Value)(l:Option Addr)(lc:Nat)(L:List Sr)(mv:List Value)(w:World)(hG:IsGlU w.heap.size w g v)(hS:IsSrs w.heap.size w l L mv)(_hcap:L.length≤lc)(_hcm:lc≤maxLen)(hn:isNameB g.var.name=true)(ha:¬g.at_<0)(ha2:¬65536<g.at_)(ho:(typedS g.var.type && zaU g.var.type)=false) :
 Calls Tryz.prog 38 #[glUV g v,.slice l L.length lc] w (zav (globE L g) w):=by
 have hfin:globE L g=90:=zbi (by exact zqF ho);have HNm:=Hd (fun w=>zaH true g.var.name w hn);obtain⟨gat,⟨gname,gtype,gvol⟩,ginit⟩:=g;simp only[glUV]at *
 go_enter Tryz.func38,Tryz.ntmps38
 go_upto_region 1 with fail
 generalize hgQ:w.alloc (.cells #[.int .i64 gat,.string gname,.string gtype,.bool gvol,v] 64)=w0 at *;obtain⟨hx0,hb0⟩:=box0 hgQ;clear hgQ;have HNd:=Hd (fun w' (h:Below w0.heap.size w0 w')=>(zad ((h.block _ (zaa hx0)).trans hx0)).1);have HB0:=Hd hb0;have HSx:=Hd (fun w' (h:Below w0.heap.size w0 w')=>(hS.below (hb0.trans (h.mono hb0.size))).mono (hb0.trans (h.mono hb0.size)).size);obtain⟨x0,x1,x2,x3,x4⟩:=HNd.out w0 (zv3 _ _);have t1:decide (gat<0)=false:=by simpa using ha
 have t2:decide (65536<gat)=false:=by simpa using ha2
 have HOb:=Hd (fun w'=>zdU false gtype w' ho);have HFin:=Hd hfin;clear hG hS _hcap _hcm hx0 hb0 hfin hn ha ha2 ho
 go_wp2_with (first
  | (go_at_call 58;(with_reducible refine(HNm.out _).mono ?_);rintro e w1 ⟨rfl,hb1⟩;have HB1:=Hd (hb1);obtain⟨x0,x1,x2,x3,x4⟩:=HNd.out w1 HB1.out;clear hb1)
  | (go_at_call 59;(with_reducible refine(HOb.out _).mono ?_);rintro e w2 ⟨rfl,hb2⟩;have HB2:=Ht HB1 hb2;obtain⟨x0,x1,x2,x3,x4⟩:=HNd.out w2 HB2.out;clear hb2))
 go_ret;exact zaq HFin.out (HB0.out.trans (HB2.out.mono HB0.out.size))
theorem zlq (g:GlU)(v:Value)(l:Option Addr)(lc:Nat)(L:List Sr)(mv:List Value)(w:World)(hG:IsGlU w.heap.size w g v)(hS:IsSrs w.heap.size w l L mv)(hcap:L.length≤lc)(hcm:lc≤maxLen)(hn:isNameB g.var.name=true)(ha:¬g.at_<0)(ha2:¬65536<g.at_)(ho:(typedS g.var.type && zaU g.var.type)=true)(hc:checkN L g.var.type≠0) :
 Calls Tryz.prog 38 #[glUV g v,.slice l L.length lc] w (zav (globE L g) w):=by
 have hfin:globE L g=90:=zbi (by unfold zdf;rw[decide_eq_false hc];simp);have HNm:=Hd (fun w=>zaH true g.var.name w hn);obtain⟨gat,⟨gname,gtype,gvol⟩,ginit⟩:=g;simp only[glUV]at *
 go_enter Tryz.func38,Tryz.ntmps38
 go_upto_region 1 with fail
 generalize hgQ:w.alloc (.cells #[.int .i64 gat,.string gname,.string gtype,.bool gvol,v] 64)=w0 at *;obtain⟨hx0,hb0⟩:=box0 hgQ;clear hgQ;have HNd:=Hd (fun w' (h:Below w0.heap.size w0 w')=>(zad ((h.block _ (zaa hx0)).trans hx0)).1);have HB0:=Hd hb0;have HSx:=Hd (fun w' (h:Below w0.heap.size w0 w')=>(hS.below (hb0.trans (h.mono hb0.size))).mono (hb0.trans (h.mono hb0.size)).size);obtain⟨x0,x1,x2,x3,x4⟩:=HNd.out w0 (zv3 _ _);have t1:decide (gat<0)=false:=by simpa using ha
 have t2:decide (65536<gat)=false:=by simpa using ha2
 have HOb:=Hd (fun w'=>zdU true gtype w' ho);have t3:(checkN L gtype != 0)=true:=by simpa using hc
 have HCk:=Hd (fun w' (h:Below w0.heap.size w0 w')=>zb4 gtype l lc L mv w' (HSx.out w' h) hcap hcm);have HFin:=Hd hfin;clear hG hS hcap hcm hx0 hb0 hfin hn ha ha2 hc ho;generalize checkN L gtype=cc at *
 go_wp2_with (first
  | (go_at_call 58;(with_reducible refine(HNm.out _).mono ?_);rintro e w1 ⟨rfl,hb1⟩;have HB1:=Hd (hb1);obtain⟨x0,x1,x2,x3,x4⟩:=HNd.out w1 HB1.out;clear hb1)
  | (go_at_call 59;(with_reducible refine(HOb.out _).mono ?_);rintro e w2 ⟨rfl,hb2⟩;have HB2:=Ht HB1 hb2;obtain⟨x0,x1,x2,x3,x4⟩:=HNd.out w2 HB2.out;have HC2:=Hd (HCk.out w2 HB2.out);clear hb2)
  | (go_at_call 60;(with_reducible refine HC2.out.mono ?_);rintro e w3 ⟨rfl,hb3⟩;have HB3:=Ht HB2 hb3;obtain⟨x0,x1,x2,x3,x4⟩:=HNd.out w3 HB3.out;clear hb3))
 go_ret;exact zaq HFin.out (HB0.out.trans (HB3.out.mono HB0.out.size))
theorem znS (g:GlU)(v:Value)(l:Option Addr)(lc:Nat)(L:List Sr)(mv:List Value)(w:World)(hG:IsGlU w.heap.size w g v)(hS:IsSrs w.heap.size w l L mv)(hcap:L.length≤lc)(hcm:lc≤maxLen)(hn:isNameB g.var.name=true)(ha:¬g.at_<0)(ha2:¬65536<g.at_)(hc:checkN L g.var.type=0)(ho:zaU g.var.type=true) :
 Calls Tryz.prog 38 #[glUV g v,.slice l L.length lc] w (zav (globE L g) w):=by
 have hh:zdf L g=true:=by unfold zdf;rw[hn,decide_eq_true hc,ho,decide_eq_true (by omega)];rfl
 have HIt:=Hd (fun (hl:g.init.length≤4096) (i:Nat) (hi:i<g.init.length) hk hp=>ziv hh hl (i:=i) hi hk hp);have HAll:=Hd (fun (hl:g.init.length≤4096) hk=>zkF hh hl hk);have HLong:=Hd (fun (hl:4096<g.init.length)=>show globE L g=3 from by unfold globE;rw[if_neg (by rw[hh];simp),if_pos hl]);have HTa:=Hd (fun (i:Nat) (hi:i<g.init.length)=>ztJ hG.init hi);generalize hfe:globE L g=fe at *;clear hfe hh;have ho2:(typedS g.var.type && zaU g.var.type)=true:=by rw[zcf hc,ho];rfl
 obtain⟨ai,ci,Qi,rfl,hsi,_⟩:=hG.init;have HNm:=Hd (fun w=>zaH true g.var.name w hn);obtain⟨gat,⟨gname,gtype,gvol⟩,ginit⟩:=g;simp only[glUV]at *
 go_enter Tryz.func38,Tryz.ntmps38
 go_upto_region 1 with fail
 generalize hgQ:w.alloc (.cells #[.int .i64 gat,.string gname,.string gtype,.bool gvol,.slice ai ginit.length ci] 64)=w0 at *;obtain⟨hx0,hb0⟩:=box0 hgQ;clear hgQ;have HNd:=Hd (fun w' (h:Below w0.heap.size w0 w')=>(zad ((h.block _ (zaa hx0)).trans hx0)).1);have HB0:=Hd hb0;have HSx:=Hd (fun w' (h:Below w0.heap.size w0 w')=>(hS.below (hb0.trans (h.mono hb0.size))).mono (hb0.trans (h.mono hb0.size)).size);obtain⟨x0,x1,x2,x3,x4⟩:=HNd.out w0 (zv3 _ _);have t1:decide (gat<0)=false:=by simpa using ha
 have t2:decide (65536<gat)=false:=by simpa using ha2
 have HOb:=Hd (fun w'=>zdU true gtype w' ho2);have HCk:=Hd (fun w' (h:Below w0.heap.size w0 w')=>zc4 0 gtype l lc L mv w' (HSx.out w' h) hcap hcm hc);have hil:(ginit.length:Int)≤140737488351232:=by have:=hsi.1;omega
 clear hG hS hcap hcm hx0 hb0 ha ha2 hc hn ho ho2 hsi
 go_upto_region 3 with (first
  | (go_at_call 58;(with_reducible refine(HNm.out _).mono ?_);rintro e w1 ⟨rfl,hb1⟩;have HB1:=Hd (hb1);obtain⟨x0,x1,x2,x3,x4⟩:=HNd.out w1 HB1.out;clear hb1)
  | (go_at_call 59;(with_reducible refine(HOb.out _).mono ?_);rintro e w2 ⟨rfl,hb2⟩;have HB2:=Ht HB1 hb2;obtain⟨x0,x1,x2,x3,x4⟩:=HNd.out w2 HB2.out;have HC2:=Hd (HCk.out w2 HB2.out);clear hb2)
  | (go_at_call 60;(with_reducible refine HC2.out.mono ?_);rintro e w3 ⟨rfl,hb3⟩;have HB3:=Ht HB2 hb3;obtain⟨x0,x1,x2,x3,x4⟩:=HNd.out w3 HB3.out;clear hb3))
 by_cases hlong:4096<ginit.length
 ·have t4:decide (4096<(ginit.length:Int))=true:=by simp;omega
  have HFin:=Hd (HLong.out hlong);clear hlong
  go_wp2_with fail
  go_ret;exact zaq HFin.out (HB0.out.trans (HB3.out.mono HB0.out.size))
 have t4:decide (4096<(ginit.length:Int))=false:=by simp;omega
 have hl4:ginit.length≤4096:=by omega
 clear hlong x0 x1 x2 x3 x4;obtain⟨x0,x1,x2,x3,x4⟩:=HNd.out w3 HB3.out
 go_wp2_with fail
 go_loopg [5] ginit.length (fun m v5 wy=>∃(i:Nat),i≤ginit.length∧i+m=ginit.length∧v5=.int .i64 (i:Int)∧Hid (Below w0.heap.size w0 wy)∧Hid (FitG ginit i))
 case atStart=>exact⟨0,by omega,by omega,rfl,HB3,Hd (fun j _ h=>by omega)⟩
 case round=>
  obtain⟨i,hi,him,rfl,HB,HK⟩:=hrel;obtain⟨x0,x1,x2,x3,x4⟩:=HNd.out wr HB.out
  by_cases hlt:i<ginit.length
  ·obtain⟨b,off,cq,q,hsq,hblt,hT,c0⟩:=HTa.out i hlt
   obtain⟨rfl,rfl⟩:ai=some ⟨b,off,none⟩∧ci=cq:=by simpa using hsq
   have hwb:=HB0.out.trans (HB.out.mono HB0.out.size);have HQ:=Hd (fun w' (h:Below w0.heap.size w0 w')=>((HB0.out.trans (h.mono HB0.out.size)).cell hblt).trans c0);have c0':=HQ.out wr HB.out;clear c0;have HNx:=Hd (fun h0=>HK.out.next hlt h0);have HBad:=Hd (fun hp=>HIt.out hl4 i hlt HK.out hp);obtain⟨aT,cT,rfl,hsT,hnT,hkT⟩:=hT;generalize ginit[i]'hlt=T at *;have HTc:=Hd (zcT aT cT T wr ((hnT.below hwb (zv0 _)).mono hwb.size) hkT hsT.1);have hTl:(T.length:Int)≤2199023255488:=by have:=hsT.1;omega
   clear hsq
   by_cases hck:checkN9 T=0
   ·rw[hck]at HTc
    obtain⟨fr,_,hGv⟩:=zc0 hck;have hpos:=hGv.formed.pos;obtain⟨k,hk⟩:∃k,T.length=k+1:=⟨T.length-1,by omega⟩
    have hk1:(T.length:Int)-1=(k:Int):=by omega
    have hkw:IntKind.i64.wrap ((T.length:Int)-1)=(k:Int):=(IntWalk.i64_in _ (by omega)).trans hk1;have hkl:k<T.length:=by omega
    have hk2:T.length-1=k:=by omega
    have hkd:=za7 (zv1 hkl);have HI:=Hd (show zff T=if exprK T[k].kind=false then 90 else 0 from by unfold zff;rw[if_neg (by simp[hck]),hk2,hkd]);have HZ:=Hd (fun w' (h:Below w0.heap.size w0 w')=>zbg (hnT.below (HB0.out.trans (h.mono HB0.out.size)) (zv0 _)) hkl);have HX:=Hd (fun w'=>ziV T[k].kind w');generalize T[k].kind=kk at *;have hki:(0:Int)≤(k:Int):=by omega
    have hkT2:(k:Int)<(T.length:Int):=by omega
    clear hck hGv hk hkd hnT hkT hsT hk2;rcases hex:exprK kk with _|_
    ·rw[hex]at HX HI
     have HFin:=Hd (show fe=90 from by rw[HBad.out (by rw[HI.out];simp),HI.out];rfl);clear hex
     go_upto_region 11 with (go_at_call 51;(with_reducible refine HTc.out.mono ?_);rintro e w7 ⟨rfl,hb7⟩;have HB7:=Ht HB hb7;obtain⟨x0,x1,x2,x3,x4⟩:=HNd.out w7 HB7.out;obtain⟨zb,zo,hz,_,z0,_⟩:=HZ.out w7 HB7.out;cases hz;have cc0:=HQ.out w7 HB7.out;clear hb7)
     have k1:=cell_regrown x4;have k2:=cell_regrown cc0;have k3:=cell_regrown z0;have C1:=Hd (fun d os=>Calls.regrown_of (HX.out (grow (redrawn w7 d) os)));have HK:=Hd (fun d os=>HB7.out.trans ((below_regrown w7 d os).mono HB7.out.size));refine wp_region_quiet_below (by kernel_rfl) (by kernel_rfl) ?_
     repeat (go_big_quiet_step (exact C1.out _ _))
     refine wpQuiet_nil ?_;intro _ hw';obtain⟨⟨dq,osq⟩,hw''⟩:=hw';subst hw'';have HB8:=Hd (HK.out dq osq)
     go_wp2_with fail
     go_ret;exact zaq HFin.out (HB0.out.trans (HB8.out.mono HB0.out.size))
    ·rw[hex]at HX HI
     have HN7:=Hd (HNx.out (by rw[HI.out];simp));clear hex
     go_upto_region 11 with (go_at_call 51;(with_reducible refine HTc.out.mono ?_);rintro e w7 ⟨rfl,hb7⟩;have HB7:=Ht HB hb7;obtain⟨x0,x1,x2,x3,x4⟩:=HNd.out w7 HB7.out;obtain⟨zb,zo,hz,_,z0,_⟩:=HZ.out w7 HB7.out;cases hz;have cc0:=HQ.out w7 HB7.out;clear hb7)
     have k1:=cell_regrown x4;have k2:=cell_regrown cc0;have k3:=cell_regrown z0;have C1:=Hd (fun d os=>Calls.regrown_of (HX.out (grow (redrawn w7 d) os)));have HK:=Hd (fun d os=>HB7.out.trans ((below_regrown w7 d os).mono HB7.out.size));refine wp_region_quiet_below (by kernel_rfl) (by kernel_rfl) ?_
     repeat (go_big_quiet_step (exact C1.out _ _))
     refine wpQuiet_nil ?_;intro _ hw';obtain⟨⟨dq,osq⟩,hw''⟩:=hw';subst hw'';have HB8:=Hd (HK.out dq osq)
     go_wp2_with fail
     go_roundg (ginit.length-(i+1))
     case measure=>omega
     case rel=>exact⟨i+1,by omega,by omega,by rw[zv9];rfl,HB8,HN7⟩
   ·have HI:=Hd (show zff T=checkN9 T from by unfold zff;rw[if_pos hck])
    have HFin:=Hd (show fe=checkN9 T from by rw[HBad.out (by rw[HI.out];exact hck),HI.out]);have t6:(checkN9 T != 0)=true:=by simpa using hck
    clear hck;generalize checkN9 T=cc at *
    go_wp2_with (go_at_call 51;(with_reducible refine HTc.out.mono ?_);rintro e w7 ⟨rfl,hb7⟩;have HB7:=Ht HB hb7;obtain⟨x0,x1,x2,x3,x4⟩:=HNd.out w7 HB7.out;clear hb7)
    go_ret;exact zaq HFin.out (HB0.out.trans (HB7.out.mono HB0.out.size))
  ·obtain rfl:i=ginit.length:=by omega
   have HFin:=Hd (show fe=0 from HAll.out hl4 HK.out)
   go_wp2_with fail
   go_ret;exact zaq HFin.out (HB0.out.trans (HB.out.mono HB0.out.size))
theorem zsg (g:GlU)(v:Value)(l:Option Addr)(lc:Nat)(L:List Sr)(mv:List Value)(w:World)(hG:IsGlU w.heap.size w g v)(hS:IsSrs w.heap.size w l L mv)(hcap:L.length≤lc)(hcm:lc≤maxLen):Calls Tryz.prog 38 #[glUV g v,.slice l L.length lc] w (zav (globE L g) w):=by
 rcases hn:isNameB g.var.name with _|_
 ·exact znR g v l lc L mv w hG hS hcap hcm hn
 by_cases ha:g.at_<0
 ·exact zsh g v l lc L mv w hG hS hcap hcm hn ha
 by_cases ha2:65536<g.at_
 ·exact zsi g v l lc L mv w hG hS hcap hcm hn ha ha2
 rcases ho:(typedS g.var.type && zaU g.var.type) with _|_
 ·exact zjU g v l lc L mv w hG hS hcap hcm hn ha ha2 ho
 by_cases hc:checkN L g.var.type=0
 ·rw[Bool.and_eq_true]at ho
  exact znS g v l lc L mv w hG hS hcap hcm hn ha ha2 hc ho.2
 ·exact zlq g v l lc L mv w hG hS hcap hcm hn ha ha2 ho hc
end Go.Proofs.YtbbaooeioogijaaGreatDoor
