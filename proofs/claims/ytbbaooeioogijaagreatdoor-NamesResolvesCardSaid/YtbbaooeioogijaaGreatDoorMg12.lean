/- A global of a unit looked at: the program -/
import Derived.Test.YtbbaooeioogijaaGreatDoorUnitF2
namespace Go.Proofs.YtbbaooeioogijaaGreatDoor
open Go.RowKit
set_option maxRecDepth 100000
set_option maxHeartbeats 8000000
theorem zbi {L:List Sr}{g:GlU}(h:zdf L g=false):globE L g=90:=by unfold globE;rw[if_pos h]
theorem zoB (g:GlU)(v:Value)(l:Option Addr)(lc:Nat)(L:List Sr)(mv:List Value)(w:World)(hE:TE w)(hG:IsGlU w.heap.size w g v)(hS:IsSrs w.heap.size w l L mv)(hn:isNameB g.var.name=false) :
 Calls Tryz.prog 55 #[glUV g v,.slice l L.length lc] w (zav (globE L g) w):=by
 have hfin:globE L g=90:=zbi (by unfold zdf;rw[hn];rfl);have HNm:=Hd (fun w (hK:KeysAt w)=>zaE false g.var.name w hK hn);obtain⟨gat,⟨gname,gtype,gvol⟩,ginit⟩:=g;simp only[glUV]at *
 go_enter Tryz.func55,Tryz.ntmps55
 go_upto_region 1 with fail
 generalize hgQ:w.alloc (.cells #[.int .i64 gat,.string gname,.string gtype,.bool gvol,v] 64)=w0 at *;obtain⟨hx0,hb0⟩:=box0 hgQ;clear hgQ;have HNd:=Hd (fun w' (h:Below w0.heap.size w0 w')=>(zad ((h.block _ (zaa hx0)).trans hx0)).1);have HB0:=Hd hb0;have HEx:=Hd (fun w' (h:Below w0.heap.size w0 w')=>hE.below (hb0.trans (h.mono hb0.size)));have HSx:=Hd (fun w' (h:Below w0.heap.size w0 w')=>(hS.below (hb0.trans (h.mono hb0.size))).mono (hb0.trans (h.mono hb0.size)).size);have HN1:=Hd (HNm.out w0 (HEx.out w0 (zv3 _ _)).keys);obtain⟨x0,x1,x2,x3,x4⟩:=HNd.out w0 (zv3 _ _);have HFin:=Hd hfin;clear hE hG hS hx0 hb0 hfin hn
 go_wp2_with (go_at_call 80;(with_reducible refine HN1.out.mono ?_);rintro e w1 ⟨rfl,hb1⟩;have HB1:=Hd (hb1);obtain⟨x0,x1,x2,x3,x4⟩:=HNd.out w1 HB1.out;clear hb1)
 go_ret;exact zaq HFin.out (HB0.out.trans (HB1.out.mono HB0.out.size))
theorem ztg (g:GlU)(v:Value)(l:Option Addr)(lc:Nat)(L:List Sr)(mv:List Value)(w:World)(hE:TE w)(hG:IsGlU w.heap.size w g v)(hS:IsSrs w.heap.size w l L mv)(hn:isNameB g.var.name=true)(ha:g.at_<0) :
 Calls Tryz.prog 55 #[glUV g v,.slice l L.length lc] w (zav (globE L g) w):=by
 have hfin:globE L g=90:=zbi (by unfold zdf;rw[hn,decide_eq_false (by omega)];rfl);have HNm:=Hd (fun w (hK:KeysAt w)=>zaE true g.var.name w hK hn);obtain⟨gat,⟨gname,gtype,gvol⟩,ginit⟩:=g;simp only[glUV]at *
 go_enter Tryz.func55,Tryz.ntmps55
 go_upto_region 1 with fail
 generalize hgQ:w.alloc (.cells #[.int .i64 gat,.string gname,.string gtype,.bool gvol,v] 64)=w0 at *;obtain⟨hx0,hb0⟩:=box0 hgQ;clear hgQ;have HNd:=Hd (fun w' (h:Below w0.heap.size w0 w')=>(zad ((h.block _ (zaa hx0)).trans hx0)).1);have HB0:=Hd hb0;have HEx:=Hd (fun w' (h:Below w0.heap.size w0 w')=>hE.below (hb0.trans (h.mono hb0.size)));have HSx:=Hd (fun w' (h:Below w0.heap.size w0 w')=>(hS.below (hb0.trans (h.mono hb0.size))).mono (hb0.trans (h.mono hb0.size)).size);have HN1:=Hd (HNm.out w0 (HEx.out w0 (zv3 _ _)).keys);obtain⟨x0,x1,x2,x3,x4⟩:=HNd.out w0 (zv3 _ _);have t1:decide (gat<0)=true:=by simpa using ha
 have HFin:=Hd hfin;clear hE hG hS hx0 hb0 hfin hn ha
 go_wp2_with (go_at_call 80;(with_reducible refine HN1.out.mono ?_);rintro e w1 ⟨rfl,hb1⟩;have HB1:=Hd (hb1);obtain⟨x0,x1,x2,x3,x4⟩:=HNd.out w1 HB1.out;clear hb1)
 go_ret;exact zaq HFin.out (HB0.out.trans (HB1.out.mono HB0.out.size))
theorem zth (g:GlU)(v:Value)(l:Option Addr)(lc:Nat)(L:List Sr)(mv:List Value)(w:World)(hE:TE w)(hG:IsGlU w.heap.size w g v)(hS:IsSrs w.heap.size w l L mv)(hn:isNameB g.var.name=true)(ha:¬g.at_<0)(ha2:65536<g.at_) :
 Calls Tryz.prog 55 #[glUV g v,.slice l L.length lc] w (zav (globE L g) w):=by
 have hfin:globE L g=90:=zbi (by unfold zdf;rw[hn,decide_eq_false (by omega)];rfl);have HNm:=Hd (fun w (hK:KeysAt w)=>zaE true g.var.name w hK hn);obtain⟨gat,⟨gname,gtype,gvol⟩,ginit⟩:=g;simp only[glUV]at *
 go_enter Tryz.func55,Tryz.ntmps55
 go_upto_region 1 with fail
 generalize hgQ:w.alloc (.cells #[.int .i64 gat,.string gname,.string gtype,.bool gvol,v] 64)=w0 at *;obtain⟨hx0,hb0⟩:=box0 hgQ;clear hgQ;have HNd:=Hd (fun w' (h:Below w0.heap.size w0 w')=>(zad ((h.block _ (zaa hx0)).trans hx0)).1);have HB0:=Hd hb0;have HEx:=Hd (fun w' (h:Below w0.heap.size w0 w')=>hE.below (hb0.trans (h.mono hb0.size)));have HSx:=Hd (fun w' (h:Below w0.heap.size w0 w')=>(hS.below (hb0.trans (h.mono hb0.size))).mono (hb0.trans (h.mono hb0.size)).size);have HN1:=Hd (HNm.out w0 (HEx.out w0 (zv3 _ _)).keys);obtain⟨x0,x1,x2,x3,x4⟩:=HNd.out w0 (zv3 _ _);have t1:decide (gat<0)=false:=by simpa using ha
 have t2:decide (65536<gat)=true:=by simpa using ha2
 have HFin:=Hd hfin;clear hE hG hS hx0 hb0 hfin hn ha ha2
 go_wp2_with (go_at_call 80;(with_reducible refine HN1.out.mono ?_);rintro e w1 ⟨rfl,hb1⟩;have HB1:=Hd (hb1);obtain⟨x0,x1,x2,x3,x4⟩:=HNd.out w1 HB1.out;clear hb1)
 go_ret;exact zaq HFin.out (HB0.out.trans (HB1.out.mono HB0.out.size))
theorem zl5 (g:GlU)(v:Value)(l:Option Addr)(lc:Nat)(L:List Sr)(mv:List Value)(w:World)(hE:TE w)(hG:IsGlU w.heap.size w g v)(hS:IsSrs w.heap.size w l L mv)(hn:isNameB g.var.name=true)(ha:¬g.at_<0)(ha2:¬65536<g.at_)(hc:checkN L g.var.type≠0) :
 Calls Tryz.prog 55 #[glUV g v,.slice l L.length lc] w (zav (globE L g) w):=by
 have hfin:globE L g=90:=zbi (by unfold zdf;rw[decide_eq_false hc];simp);have HNm:=Hd (fun w (hK:KeysAt w)=>zaE true g.var.name w hK hn);obtain⟨gat,⟨gname,gtype,gvol⟩,ginit⟩:=g;simp only[glUV]at *
 go_enter Tryz.func55,Tryz.ntmps55
 go_upto_region 1 with fail
 generalize hgQ:w.alloc (.cells #[.int .i64 gat,.string gname,.string gtype,.bool gvol,v] 64)=w0 at *;obtain⟨hx0,hb0⟩:=box0 hgQ;clear hgQ;have HNd:=Hd (fun w' (h:Below w0.heap.size w0 w')=>(zad ((h.block _ (zaa hx0)).trans hx0)).1);have HB0:=Hd hb0;have HEx:=Hd (fun w' (h:Below w0.heap.size w0 w')=>hE.below (hb0.trans (h.mono hb0.size)));have HSx:=Hd (fun w' (h:Below w0.heap.size w0 w')=>(hS.below (hb0.trans (h.mono hb0.size))).mono (hb0.trans (h.mono hb0.size)).size);have HN1:=Hd (HNm.out w0 (HEx.out w0 (zv3 _ _)).keys);obtain⟨x0,x1,x2,x3,x4⟩:=HNd.out w0 (zv3 _ _);have t1:decide (gat<0)=false:=by simpa using ha
 have t2:decide (65536<gat)=false:=by simpa using ha2
 have t3:(checkN L gtype != 0)=true:=by simpa using hc
 have HCk:=Hd (fun w' (h:Below w0.heap.size w0 w')=>zeY gtype l lc L mv w' (HEx.out w' h) (HSx.out w' h));have HFin:=Hd hfin;clear hE hG hS hx0 hb0 hfin hn ha ha2 hc;generalize checkN L gtype=cc at *
 go_wp2_with (first
  | (go_at_call 80;(with_reducible refine HN1.out.mono ?_);rintro e w1 ⟨rfl,hb1⟩;have HB1:=Hd (hb1);obtain⟨x0,x1,x2,x3,x4⟩:=HNd.out w1 HB1.out;have HC1:=Hd (HCk.out w1 HB1.out);clear hb1)
  | (go_at_call 81;(with_reducible refine HC1.out.mono ?_);rintro e w2 ⟨rfl,hb2⟩;have HB2:=Ht HB1 hb2;obtain⟨x0,x1,x2,x3,x4⟩:=HNd.out w2 HB2.out;clear hb2))
 go_ret;exact zaq HFin.out (HB0.out.trans (HB2.out.mono HB0.out.size))
theorem zg2 (r:Bool)(s:ByteArray)(w:World)(hty:typedS s=true)(h:zaU s=r):Calls Tryz.prog 82 #[.string s] w fun e w'=>e=.returned (.bool r)∧w'=w:=by subst h;exact zid s w hty
theorem zkG (g:GlU)(v:Value)(l:Option Addr)(lc:Nat)(L:List Sr)(mv:List Value)(w:World)(hE:TE w)(hG:IsGlU w.heap.size w g v)(hS:IsSrs w.heap.size w l L mv)(hn:isNameB g.var.name=true)(ha:¬g.at_<0)(ha2:¬65536<g.at_)(hc:checkN L g.var.type=0)(ho:zaU g.var.type=false) :
 Calls Tryz.prog 55 #[glUV g v,.slice l L.length lc] w (zav (globE L g) w):=by
 have hfin:globE L g=90:=zbi (by unfold zdf;rw[ho];simp);have HNm:=Hd (fun w (hK:KeysAt w)=>zaE true g.var.name w hK hn);obtain⟨gat,⟨gname,gtype,gvol⟩,ginit⟩:=g;simp only[glUV]at *
 go_enter Tryz.func55,Tryz.ntmps55
 go_upto_region 1 with fail
 generalize hgQ:w.alloc (.cells #[.int .i64 gat,.string gname,.string gtype,.bool gvol,v] 64)=w0 at *;obtain⟨hx0,hb0⟩:=box0 hgQ;clear hgQ;have HNd:=Hd (fun w' (h:Below w0.heap.size w0 w')=>(zad ((h.block _ (zaa hx0)).trans hx0)).1);have HB0:=Hd hb0;have HEx:=Hd (fun w' (h:Below w0.heap.size w0 w')=>hE.below (hb0.trans (h.mono hb0.size)));have HSx:=Hd (fun w' (h:Below w0.heap.size w0 w')=>(hS.below (hb0.trans (h.mono hb0.size))).mono (hb0.trans (h.mono hb0.size)).size);have HN1:=Hd (HNm.out w0 (HEx.out w0 (zv3 _ _)).keys);obtain⟨x0,x1,x2,x3,x4⟩:=HNd.out w0 (zv3 _ _);have t1:decide (gat<0)=false:=by simpa using ha
 have t2:decide (65536<gat)=false:=by simpa using ha2
 have HOb:=Hd (fun w'=>zg2 false gtype w' (zcf hc) ho);have HCk:=Hd (fun w' (h:Below w0.heap.size w0 w')=>zdx 0 gtype l lc L mv w' (HEx.out w' h) (HSx.out w' h) hc);have HFin:=Hd hfin;clear hE hG hS hx0 hb0 hfin hn ha ha2 hc ho
 go_wp2_with (first
  | (go_at_call 80;(with_reducible refine HN1.out.mono ?_);rintro e w1 ⟨rfl,hb1⟩;have HB1:=Hd (hb1);obtain⟨x0,x1,x2,x3,x4⟩:=HNd.out w1 HB1.out;have HC1:=Hd (HCk.out w1 HB1.out);clear hb1)
  | (go_at_call 81;(with_reducible refine HC1.out.mono ?_);rintro e w2 ⟨rfl,hb2⟩;have HB2:=Ht HB1 hb2;obtain⟨x0,x1,x2,x3,x4⟩:=HNd.out w2 HB2.out;clear hb2)
  | (go_at_call 82;(with_reducible refine(HOb.out _).mono ?_);rintro e wc ⟨rfl,hwc⟩;subst wc))
 go_ret;exact zaq HFin.out (HB0.out.trans (HB2.out.mono HB0.out.size))
def FitG (l:List (List Nd))(i:Nat):Prop:=∀(j:Nat) (h:j<l.length),j<i→zff l[j]=0
theorem FitG.next {l:List (List Nd)}{i:Nat}(h:FitG l i)(hi:i<l.length)(h0:zff l[i]=0):FitG l (i+1):=fun j hj hji=>by
 rcases Nat.lt_or_ge j i with h'|h'
 ·exact h j hj h'
 ·obtain rfl:j=i:=by omega
  exact h0
theorem znc {L:List Sr}{g:GlU}(h:zdf L g=true)(hl:g.init.length≤4096):globE L g=zrb (zbV zff g.init 0):=by
 unfold globE;rw[if_neg (by rw[h];simp),if_neg (by omega)]
theorem ziv {L:List Sr}{g:GlU}(h:zdf L g=true)(hl:g.init.length≤4096){i:Nat}(hi:i<g.init.length)(hk:FitG g.init i)(hp:zff g.init[i]≠0):globE L g=zff g.init[i]:=by
 rw[znc h hl,zdv hi hk hp]
 rfl
theorem zkF {L:List Sr}{g:GlU}(h:zdf L g=true)(hl:g.init.length≤4096)(hk:FitG g.init g.init.length):globE L g=0:=by
 rw[znc h hl,zcI hk]
 rfl
theorem zoC (g:GlU)(v:Value)(l:Option Addr)(lc:Nat)(L:List Sr)(mv:List Value)(w:World)(hE:TE w)(hG:IsGlU w.heap.size w g v)(hS:IsSrs w.heap.size w l L mv)(hn:isNameB g.var.name=true)(ha:¬g.at_<0)(ha2:¬65536<g.at_)(hc:checkN L g.var.type=0)(ho:zaU g.var.type=true) :
 Calls Tryz.prog 55 #[glUV g v,.slice l L.length lc] w (zav (globE L g) w):=by
 have hh:zdf L g=true:=by unfold zdf;rw[hn,decide_eq_true hc,ho,decide_eq_true (by omega)];rfl
 have HIt:=Hd (fun (hl:g.init.length≤4096) (i:Nat) (hi:i<g.init.length) hk hp=>ziv hh hl (i:=i) hi hk hp);have HAll:=Hd (fun (hl:g.init.length≤4096) hk=>zkF hh hl hk);have HLong:=Hd (fun (hl:4096<g.init.length)=>show globE L g=3 from by unfold globE;rw[if_neg (by rw[hh];simp),if_pos hl]);have HTa:=Hd (fun (i:Nat) (hi:i<g.init.length)=>ztJ hG.init hi);generalize hfe:globE L g=fe at *;clear hfe hh;obtain⟨ai,ci,Qi,rfl,hsi,_⟩:=hG.init;have HNm:=Hd (fun w (hK:KeysAt w)=>zaE true g.var.name w hK hn);obtain⟨gat,⟨gname,gtype,gvol⟩,ginit⟩:=g;simp only[glUV]at *
 go_enter Tryz.func55,Tryz.ntmps55
 go_upto_region 1 with fail
 generalize hgQ:w.alloc (.cells #[.int .i64 gat,.string gname,.string gtype,.bool gvol,.slice ai ginit.length ci] 64)=w0 at *;obtain⟨hx0,hb0⟩:=box0 hgQ;clear hgQ;have HNd:=Hd (fun w' (h:Below w0.heap.size w0 w')=>(zad ((h.block _ (zaa hx0)).trans hx0)).1);have HB0:=Hd hb0;have HEx:=Hd (fun w' (h:Below w0.heap.size w0 w')=>hE.below (hb0.trans (h.mono hb0.size)));have HSx:=Hd (fun w' (h:Below w0.heap.size w0 w')=>(hS.below (hb0.trans (h.mono hb0.size))).mono (hb0.trans (h.mono hb0.size)).size);have HN1:=Hd (HNm.out w0 (HEx.out w0 (zv3 _ _)).keys);obtain⟨x0,x1,x2,x3,x4⟩:=HNd.out w0 (zv3 _ _);have t1:decide (gat<0)=false:=by simpa using ha
 have t2:decide (65536<gat)=false:=by simpa using ha2
 have HOb:=Hd (fun w'=>zg2 true gtype w' (zcf hc) ho);have HCk:=Hd (fun w' (h:Below w0.heap.size w0 w')=>zdx 0 gtype l lc L mv w' (HEx.out w' h) (HSx.out w' h) hc);have hil:(ginit.length:Int)≤140737488351232:=by have:=hsi.1;omega
 clear hG hS hx0 hb0 ha ha2 hc hn ho hsi
 go_upto_region 3 with (first
  | (go_at_call 80;(with_reducible refine HN1.out.mono ?_);rintro e w1 ⟨rfl,hb1⟩;have HB1:=Hd (hb1);obtain⟨x0,x1,x2,x3,x4⟩:=HNd.out w1 HB1.out;have HC1:=Hd (HCk.out w1 HB1.out);clear hb1)
  | (go_at_call 81;(with_reducible refine HC1.out.mono ?_);rintro e w2 ⟨rfl,hb2⟩;have HB2:=Ht HB1 hb2;obtain⟨x0,x1,x2,x3,x4⟩:=HNd.out w2 HB2.out;clear hb2)
  | (go_at_call 82;(with_reducible refine(HOb.out _).mono ?_);rintro e wc ⟨rfl,hwc⟩;subst wc))
 by_cases hlong:4096<ginit.length
 ·have t4:decide (4096<(ginit.length:Int))=true:=by simp;omega
  have HFin:=Hd (HLong.out hlong);clear hlong
  go_wp2_with fail
  go_ret;exact zaq HFin.out (HB0.out.trans (HB2.out.mono HB0.out.size))
 have t4:decide (4096<(ginit.length:Int))=false:=by simp;omega
 have hl4:ginit.length≤4096:=by omega
 clear hlong
 go_wp2_with fail
 go_loopg [45] ginit.length (fun m v45 wy=>∃(i:Nat),i≤ginit.length∧i+m=ginit.length∧v45=.int .i64 (i:Int)∧Hid (Below w0.heap.size w0 wy)∧Hid (FitG ginit i))
 case atStart=>exact⟨0,by omega,by omega,rfl,HB2,Hd (fun j _ h=>by omega)⟩
 case round=>
  obtain⟨i,hi,him,rfl,HB,HK⟩:=hrel
  by_cases hlt:i<ginit.length
  ·obtain⟨b,off,cq,q,hsq,hblt,hT,c0⟩:=HTa.out i hlt
   obtain⟨rfl,rfl⟩:ai=some ⟨b,off,none⟩∧ci=cq:=by simpa using hsq
   have hwb:=HB0.out.trans (HB.out.mono HB0.out.size);rw[← hwb.cell hblt]at c0;have HNx:=Hd (fun h0=>HK.out.next hlt h0);have HBad:=Hd (fun hp=>HIt.out hl4 i hlt HK.out hp);obtain⟨aT,cT,rfl,hsT,hnT,hkT⟩:=hT;generalize ginit[i]'hlt=T at *;have HTc:=Hd (zf2 aT cT T wr (HEx.out wr HB.out) ((hnT.below hwb (zv0 _)).mono hwb.size) hkT hsT.1);have hTl:(T.length:Int)≤2199023255488:=by have:=hsT.1;omega
   clear hsq
   by_cases hck:checkN9 T=0
   ·rw[hck]at HTc
    obtain⟨fr,_,hGv⟩:=zc0 hck;have hpos:=hGv.formed.pos;obtain⟨k,hk⟩:∃k,T.length=k+1:=⟨T.length-1,by omega⟩
    have hk1:(T.length:Int)-1=(k:Int):=by omega
    have hkl:k<T.length:=by omega
    have hk2:T.length-1=k:=by omega
    have hkd:=za7 (zv1 hkl);have HI:=Hd (show zff T=if exprK T[k].kind=false then 90 else 0 from by unfold zff;rw[if_neg (by simp[hck]),hk2,hkd]);have HZ:=Hd (fun w' (h:Below w0.heap.size w0 w')=>zbg (hnT.below (HB0.out.trans (h.mono HB0.out.size)) (zv0 _)) hkl);have HX:=Hd (fun w'=>zl9 T[k].kind w');generalize T[k].kind=kk at *;clear hck hGv hk hkd hnT hkT hsT hk2;rcases hex:exprK kk with _|_
    ·rw[hex]at HX HI
     have HFin:=Hd (show fe=90 from by rw[HBad.out (by rw[HI.out];simp),HI.out];rfl);clear hex
     go_wp2_with (first
      | (go_at_call 83;(with_reducible refine HTc.out.mono ?_);rintro e w7 ⟨rfl,hb7⟩;have HB7:=Ht HB hb7;obtain⟨zb,zo,hz,_,z0,_⟩:=HZ.out w7 HB7.out;cases hz;clear hb7)
      | (go_at_call 84;(with_reducible refine(HX.out _).mono ?_);rintro e wc ⟨rfl,hwc⟩;subst wc))
     go_ret;exact zaq HFin.out (HB0.out.trans (HB7.out.mono HB0.out.size))
    ·rw[hex]at HX HI
     have HN7:=Hd (HNx.out (by rw[HI.out];simp));clear hex
     go_wp2_with (first
      | (go_at_call 83;(with_reducible refine HTc.out.mono ?_);rintro e w7 ⟨rfl,hb7⟩;have HB7:=Ht HB hb7;obtain⟨zb,zo,hz,_,z0,_⟩:=HZ.out w7 HB7.out;cases hz;clear hb7)
      | (go_at_call 84;(with_reducible refine(HX.out _).mono ?_);rintro e wc ⟨rfl,hwc⟩;subst wc))
     go_roundg (ginit.length-(i+1))
     case measure=>omega
     case rel=>exact⟨i+1,by omega,by omega,by rw[zv9];rfl,HB7,HN7⟩
   ·have HI:=Hd (show zff T=checkN9 T from by unfold zff;rw[if_pos hck])
    have HFin:=Hd (show fe=checkN9 T from by rw[HBad.out (by rw[HI.out];exact hck),HI.out]);have t6:(checkN9 T != 0)=true:=by simpa using hck
    clear hck;generalize checkN9 T=cc at *
    go_wp2_with (go_at_call 83;(with_reducible refine HTc.out.mono ?_);rintro e w7 ⟨rfl,hb7⟩;have HB7:=Ht HB hb7;clear hb7)
    go_ret;exact zaq HFin.out (HB0.out.trans (HB7.out.mono HB0.out.size))
  ·obtain rfl:i=ginit.length:=by omega
   have HFin:=Hd (show fe=0 from HAll.out hl4 HK.out)
   go_wp2_with fail
   go_ret;exact zaq HFin.out (HB0.out.trans (HB.out.mono HB0.out.size))
theorem ztf (g:GlU)(v:Value)(l:Option Addr)(lc:Nat)(L:List Sr)(mv:List Value)(w:World)(hE:TE w)(hG:IsGlU w.heap.size w g v)(hS:IsSrs w.heap.size w l L mv):Calls Tryz.prog 55 #[glUV g v,.slice l L.length lc] w (zav (globE L g) w):=by
 rcases hn:isNameB g.var.name with _|_
 ·exact zoB g v l lc L mv w hE hG hS hn
 by_cases ha:g.at_<0
 ·exact ztg g v l lc L mv w hE hG hS hn ha
 by_cases ha2:65536<g.at_
 ·exact zth g v l lc L mv w hE hG hS hn ha ha2
 by_cases hc:checkN L g.var.type=0
 ·rcases ho:zaU g.var.type with _|_
  ·exact zkG g v l lc L mv w hE hG hS hn ha ha2 hc ho
  ·exact zoC g v l lc L mv w hE hG hS hn ha ha2 hc ho
 ·exact zl5 g v l lc L mv w hE hG hS hn ha ha2 hc
set_option maxHeartbeats 16000000
def zfp (p:Int × Int)(w:World)(e:Ending)(w':World):Prop:=e=.returned (.agg #[.int .i64 p.1,.int .i64 p.2])∧Below w.heap.size w w'
theorem zbm {p:Int × Int}{x c:Int}{w w':World}(h:p=(x,c))(hb:Below w.heap.size w w'):zfp p w (.returned (.agg #[.int .i64 x,.int .i64 c])) w':=by subst h;exact⟨rfl,hb⟩
def FitA {α:Type}(f:α→Int)(L:List α)(i:Nat):Prop:=∀(j:Nat) (h:j<L.length),j<i→f L[j]=0
theorem FitA.next {α:Type}{f:α→Int}{L:List α}{i:Nat}(h:FitA f L i)(hi:i<L.length)(h0:f L[i]=0):FitA f L (i+1):=fun j hj hji=>by
 rcases Nat.lt_or_ge j i with h'|h'
 ·exact h j hj h'
 ·obtain rfl:j=i:=by omega
  exact h0
theorem zhP {u:UnU}(h:64<u.structs.length∨256<u.globals.length∨256<u.funcs.length):unitE u=(0,3):=by unfold unitE;rw[if_pos h]
theorem zfY {u:UnU}(h:¬(64<u.structs.length∨256<u.globals.length∨256<u.funcs.length))(hf:(za0 u.structs).2≠0):unitE u=za0 u.structs:=by unfold unitE;rw[if_neg h,if_pos hf]
theorem zhQ {u:UnU}(h:¬(64<u.structs.length∨256<u.globals.length∨256<u.funcs.length))(hf:(za0 u.structs).2=0){i:Nat}(hi:i<u.globals.length)(hk:FitA (globE u.structs) u.globals i)(hp:globE u.structs u.globals[i]≠0):unitE u=((i:Int),globE u.structs u.globals[i]):=by
 unfold unitE;rw[if_neg h,if_neg (by simp[hf]),zdv hi hk hp]
theorem zhR {u:UnU}(h:¬(64<u.structs.length∨256<u.globals.length∨256<u.funcs.length))(hf:(za0 u.structs).2=0)(hg:FitA (globE u.structs) u.globals u.globals.length){i:Nat}(hi:i<u.funcs.length)(hk:FitA (funcE u.structs) u.funcs i)(hp:funcE u.structs u.funcs[i]≠0):unitE u=((i:Int),funcE u.structs u.funcs[i]):=by
 unfold unitE;rw[if_neg h,if_neg (by simp[hf]),zcI hg,zdv hi hk hp]
theorem zjG {u:UnU}(h:¬(64<u.structs.length∨256<u.globals.length∨256<u.funcs.length))(hf:(za0 u.structs).2=0)(hg:FitA (globE u.structs) u.globals u.globals.length)(hk:FitA (funcE u.structs) u.funcs u.funcs.length):unitE u=(0,0):=by
 unfold unitE;rw[if_neg h,if_neg (by simp[hf]),zcI hg,zcI hk]
theorem zkS (u:UnU)(vs vg vf:Value)(w:World)(hE:TE w)(hU:IsUn w.heap.size w u vs vg vf) :
 Calls Tryz.prog 33 #[.agg #[vs,vg,vf]] w (zfp (unitE u) w):=by
 obtain⟨sa,sc,mv,rfl,hso,hS⟩:=hU.structs;have HGl:=Hd (fun (i:Nat) (hi:i<u.globals.length)=>zeS hU.globals hi);have HFl:=Hd (fun (i:Nat) (hi:i<u.funcs.length)=>zd4 hU.funcs hi);have U1:=Hd (fun h=>zhP (u:=u) h);have U2:=Hd (fun h hf=>zfY (u:=u) h hf);have U3:=Hd (fun h hf (i:Nat) (hi:i<u.globals.length) hk hp=>zhQ (u:=u) h hf hi hk hp);have U4:=Hd (fun h hf hg (i:Nat) (hi:i<u.funcs.length) hk hp=>zhR (u:=u) h hf hg hi hk hp);have U5:=Hd (fun h hf hg hk=>zjG (u:=u) h hf hg hk);obtain⟨ag,cg,rfl,hlg⟩:=zbc hU.globals;obtain⟨af,cf,rfl,hlf⟩:=zbd hU.funcs;have hls:=hso.2.2.1;have HE:=Hd hE;have HS:=Hd hS;clear hE hU hS hso;generalize unitE u=res at *;obtain⟨us,ug,uf⟩:=u;simp only at *
 go_enter Tryz.func33,Tryz.ntmps33
 go_upto_region 1 with fail
 generalize hgQ:(w.alloc (.cells #[.slice sa us.length sc,.slice ag ug.length cg,.slice af uf.length cf] 26)).alloc (.cells #[.int .i64 0,.int .i64 0] 32)=w1 at *;obtain⟨hb1,hxq,hxr⟩:=box2 hgQ;clear hgQ;have HQ:=Hd (fun w' (h:Below w1.heap.size w1 w')=>(zac ((h.block _ (zaa hxq)).trans hxq)).1);have HR:=Hd (fun w' (h:Below w1.heap.size w1 w')=>zab ((h.block _ (zaa hxr)).trans hxr));have HB1:=Hd hb1;have HEx:=Hd (fun w' (h:Below w1.heap.size w1 w')=>HE.out.below (hb1.trans (h.mono hb1.size)));have HSx:=Hd (fun w' (h:Below w1.heap.size w1 w')=>(HS.out.below (hb1.trans (h.mono hb1.size))).mono (hb1.trans (h.mono hb1.size)).size);have HBw:=Hd (fun w' (h:Below w1.heap.size w1 w')=>hb1.trans (h.mono hb1.size));clear hb1 hxq hxr;obtain⟨q0,q1,q2⟩:=HQ.out w1 (zv3 _ _)
 by_cases l1:64<us.length
 ·have t1:decide (64<(us.length:Int))=true:=by simp;omega
  have HFin:=Hd (U1.out (.inl l1));clear l1;obtain⟨⟨d0,d1⟩,fd⟩:=HR.out w1 (zv3 w1.heap.size w1);have fd0:=fd 0;have fd1:=fd 1
  go_wp2_with fail
  exact bodyPost_ret (v:=.agg #[.int .i64 0,.int .i64 3]) (by simp[results,Tryz.results33,go_sem,d0,d1]) rfl (zbm HFin.out ((Below.setCell (Below.setCell (HB1.out.trans ((zv3 w1.heap.size w1).mono HB1.out.size)) (Nat.le_succ _) _) (Nat.le_succ _) _)))
 have t1:decide (64<(us.length:Int))=false:=by simp;omega
 by_cases l2:256<ug.length
 ·have t2:decide (256<(ug.length:Int))=true:=by simp;omega
  have HFin:=Hd (U1.out (.inr (.inl l2)));clear l1 l2;obtain⟨⟨d0,d1⟩,fd⟩:=HR.out w1 (zv3 w1.heap.size w1);have fd0:=fd 0;have fd1:=fd 1
  go_wp2_with fail
  exact bodyPost_ret (v:=.agg #[.int .i64 0,.int .i64 3]) (by simp[results,Tryz.results33,go_sem,d0,d1]) rfl (zbm HFin.out ((Below.setCell (Below.setCell (HB1.out.trans ((zv3 w1.heap.size w1).mono HB1.out.size)) (Nat.le_succ _) _) (Nat.le_succ _) _)))
 have t2:decide (256<(ug.length:Int))=false:=by simp;omega
 by_cases l3:256<uf.length
 ·have t3:decide (256<(uf.length:Int))=true:=by simp;omega
  have HFin:=Hd (U1.out (.inr (.inr l3)));clear l1 l2 l3;obtain⟨⟨d0,d1⟩,fd⟩:=HR.out w1 (zv3 w1.heap.size w1);have fd0:=fd 0;have fd1:=fd 1
  go_wp2_with fail
  exact bodyPost_ret (v:=.agg #[.int .i64 0,.int .i64 3]) (by simp[results,Tryz.results33,go_sem,d0,d1]) rfl (zbm HFin.out ((Below.setCell (Below.setCell (HB1.out.trans ((zv3 w1.heap.size w1).mono HB1.out.size)) (Nat.le_succ _) _) (Nat.le_succ _) _)))
 have t3:decide (256<(uf.length:Int))=false:=by simp;omega
 have HLe:=Hd (show ¬(64<us.length∨256<ug.length∨256<uf.length) from by rintro(h|h|h)<;>omega);have hl2:ug.length≤256:=by omega
 have hl3:uf.length≤256:=by omega
 clear l1 l2 l3;have hst:=znP sa sc us mv w1 (HEx.out w1 (zv3 _ _)) (HSx.out w1 (zv3 _ _));unfold zb2 at hst;have HFn:=Hd (show za0 us=((za0 us).1,(za0 us).2) from rfl);have V2:=Hd (U2.out HLe.out);have V3:=Hd (U3.out HLe.out);have V4:=Hd (U4.out HLe.out);have V5:=Hd (U5.out HLe.out);generalize hfl:za0 us=fl at *;obtain⟨fx,fc⟩:=fl;simp only at hst;have HSt:=Hd hst;clear hst hfl
 go_upto_region 4 with (go_at_call 54;(with_reducible refine HSt.out.mono ?_);rintro e w2 ⟨rfl,hb2⟩;have HB2:=Hd hb2;obtain⟨q0,q1,q2⟩:=HQ.out w2 hb2;clear hb2)
 have hxf:=zdh w2 (.int .i64 fx) (.int .i64 fc);have hb3:=ba1 w2 (.cells #[.int .i64 fx,.int .i64 fc] 32);generalize w2.alloc (.cells #[.int .i64 fx,.int .i64 fc] 32)=w3 at *;have HB3:=Ht HB2 hb3;obtain⟨⟨k0,k1⟩,_⟩:=zab hxf;obtain⟨q0,q1,q2⟩:=HQ.out w3 HB3.out;clear hxf hb3
 by_cases hf0:fc=0
 ·have t4:(fc != 0)=false:=by simpa using hf0
  have W3:=Hd (V3.out hf0);have W4:=Hd (V4.out hf0);have W5:=Hd (V5.out hf0);clear hf0
  go_wp2_with fail
  go_loopg [37] ug.length (fun m v37 wy=>∃(i:Nat),i≤ug.length∧i+m=ug.length∧v37=.int .i64 (i:Int)∧Hid (Below w1.heap.size w1 wy)∧Hid (FitA (globE us) ug i))
  case atStart=>exact⟨0,by omega,by omega,rfl,HB3,Hd (fun j _ h=>by omega)⟩
  case round=>
   obtain⟨i,hi,him,rfl,HB,HK⟩:=hrel;obtain⟨q0,q1,q2⟩:=HQ.out wr HB.out
   by_cases hlt:i<ug.length
   ·obtain⟨b,off,cq,v,hsq,hblt,hG,c0,c1,c2,c3,c4⟩:=HGl.out i hlt
    obtain⟨rfl,rfl⟩:ag=some ⟨b,off,none⟩∧cg=cq:=by simpa using hsq
    obtain⟨ai,ci,hvs⟩:=ziM hG.init;subst hvs;have hwb:=HBw.out wr HB.out;rw[← hwb.cell hblt]at c0 c1 c2 c3 c4;have HNx:=Hd (fun h0=>HK.out.next hlt h0);have HBad:=Hd (fun hp=>W3.out i hlt HK.out hp);have HGc:=Hd (fun w' (h:Below w1.heap.size w1 w')=>ztf (ug[i]'hlt) _ sa sc us mv w' (HEx.out w' h) ((hG.below (HBw.out w' h) (zv0 _)).mono (HBw.out w' h).size) (HSx.out w' h));unfold zav at HGc;generalize (ug[i]'hlt).init.length=n9 at *;generalize ug[i]'hlt=g at *;generalize globE us g=ge at *;clear hsq hG
    go_upto_region 9 with fail
    have hxg:=(show (wr.alloc (.cells #[.int .i64 g.at_,.string g.var.name,.string g.var.type,.bool g.var.vol,.slice ai n9 ci] 64)).heap[wr.heap.size]?=some (.cells #[.int .i64 g.at_,.string g.var.name,.string g.var.type,.bool g.var.vol,.slice ai n9 ci] 64 (0,0)) from zv8 _ _)
    have hba:=ba1 wr (.cells #[.int .i64 g.at_,.string g.var.name,.string g.var.type,.bool g.var.vol,.slice ai n9 ci] 64);generalize wr.alloc (.cells #[.int .i64 g.at_,.string g.var.name,.string g.var.type,.bool g.var.vol,.slice ai n9 ci] 64)=wa at *;have HBa:=Ht HB hba;obtain⟨⟨y0,y1,y2,y3,y4⟩,_⟩:=zad hxg;obtain⟨q0,q1,q2⟩:=HQ.out wa HBa.out;have HGa:=Hd (HGc.out wa HBa.out);clear hxg hba c0 c1 c2 c3 c4
    by_cases hge:ge=0
    ·subst hge
     have HN7:=Hd (HNx.out rfl)
     go_wp2_with (go_at_call 55;(with_reducible refine HGa.out.mono ?_);rintro e w6 ⟨rfl,hb6⟩;have HB6:=Ht HBa hb6;clear hb6)
     go_roundg (ug.length-(i+1))
     case measure=>omega
     case rel=>exact⟨i+1,by omega,by omega,by rw[zv9];rfl,HB6,HN7⟩
    ·have t5:(ge != 0)=true:=by simpa using hge
     have HFin:=Hd (HBad.out hge);clear hge
     go_upto_region 11 with (go_at_call 55;(with_reducible refine HGa.out.mono ?_);rintro e w6 ⟨rfl,hb6⟩;have HB6:=Ht HBa hb6;clear hb6)
     obtain⟨⟨d0,d1⟩,fd⟩:=HR.out w6 HB6.out;have fd0:=fd 0;have fd1:=fd 1
     go_wp2_with fail
     exact bodyPost_ret (v:=.agg #[.int .i64 (i:Int),.int .i64 ge]) (by simp[results,Tryz.results33,go_sem,d0,d1]) rfl (zbm HFin.out ((Below.setCell (Below.setCell (HB1.out.trans (HB6.out.mono HB1.out.size)) (Nat.le_succ _) _) (Nat.le_succ _) _)))
   ·obtain rfl:i=ug.length:=by omega
    have X4:=Hd (W4.out HK.out);have X5:=Hd (W5.out HK.out);have HBg:=HB
    go_wp2_with fail
    go_loopg [55] uf.length (fun m v55 wy=>∃(i:Nat),i≤uf.length∧i+m=uf.length∧v55=.int .i64 (i:Int)∧Hid (Below w1.heap.size w1 wy)∧Hid (FitA (funcE us) uf i))
    case atStart=>exact⟨0,by omega,by omega,rfl,HBg,Hd (fun j _ h=>by omega)⟩
    case round=>
     obtain⟨i,hi,him,rfl,HB,HK⟩:=hrel;obtain⟨q0,q1,q2⟩:=HQ.out wr HB.out
     by_cases hlt:i<uf.length
     ·obtain⟨b,off,cq,vp,vb,hsq,hblt,hG,c0,c1,c2,c3,c4⟩:=HFl.out i hlt
      obtain⟨rfl,rfl⟩:af=some ⟨b,off,none⟩∧cf=cq:=by simpa using hsq
      obtain⟨ap,cp,hvs,_⟩:=hG.params;subst hvs;obtain⟨ab,cb,hvs,_⟩:=hG.body;subst hvs;have hwb:=HBw.out wr HB.out;rw[← hwb.cell hblt]at c0 c1 c2 c3 c4;have HNx:=Hd (fun h0=>HK.out.next hlt h0);have HBad:=Hd (fun hp=>X4.out i hlt HK.out hp);have HGc:=Hd (fun w' (h:Below w1.heap.size w1 w')=>ztk (uf[i]'hlt) _ _ sa sc us mv w' (HEx.out w' h) ((hG.below (HBw.out w' h) (zv0 _)).mono (HBw.out w' h).size) (HSx.out w' h));unfold zav at HGc;generalize (uf[i]'hlt).params.length=np at *;generalize (uf[i]'hlt).body.length=nb at *;generalize uf[i]'hlt=g at *;generalize funcE us g=ge at *;clear hsq hG
      go_upto_region 16 with fail
      have hxg:=(show (wr.alloc (.cells #[.int .i64 g.at_,.string g.name,.string g.type,.slice ap np cp,.slice ab nb cb] 45)).heap[wr.heap.size]?=some (.cells #[.int .i64 g.at_,.string g.name,.string g.type,.slice ap np cp,.slice ab nb cb] 45 (0,0)) from zv8 _ _)
      have hba:=ba1 wr (.cells #[.int .i64 g.at_,.string g.name,.string g.type,.slice ap np cp,.slice ab nb cb] 45);generalize wr.alloc (.cells #[.int .i64 g.at_,.string g.name,.string g.type,.slice ap np cp,.slice ab nb cb] 45)=wa at *;have HBa:=Ht HB hba;obtain⟨⟨y0,y1,y2,y3,y4⟩,_⟩:=zad hxg;obtain⟨q0,q1,q2⟩:=HQ.out wa HBa.out;have HGa:=Hd (HGc.out wa HBa.out);clear hxg hba c0 c1 c2 c3 c4
      by_cases hge:ge=0
      ·subst hge
       have HN7:=Hd (HNx.out rfl)
       go_wp2_with (go_at_call 56;(with_reducible refine HGa.out.mono ?_);rintro e w6 ⟨rfl,hb6⟩;have HB6:=Ht HBa hb6;clear hb6)
       go_roundg (uf.length-(i+1))
       case measure=>omega
       case rel=>exact⟨i+1,by omega,by omega,by rw[zv9];rfl,HB6,HN7⟩
      ·have t5:(ge != 0)=true:=by simpa using hge
       have HFin:=Hd (HBad.out hge);clear hge
       go_upto_region 18 with (go_at_call 56;(with_reducible refine HGa.out.mono ?_);rintro e w6 ⟨rfl,hb6⟩;have HB6:=Ht HBa hb6;clear hb6)
       obtain⟨⟨d0,d1⟩,fd⟩:=HR.out w6 HB6.out;have fd0:=fd 0;have fd1:=fd 1
       go_wp2_with fail
       exact bodyPost_ret (v:=.agg #[.int .i64 (i:Int),.int .i64 ge]) (by simp[results,Tryz.results33,go_sem,d0,d1]) rfl (zbm HFin.out ((Below.setCell (Below.setCell (HB1.out.trans (HB6.out.mono HB1.out.size)) (Nat.le_succ _) _) (Nat.le_succ _) _)))
     ·obtain rfl:i=uf.length:=by omega
      have HFin:=Hd (X5.out HK.out);obtain⟨⟨d0,d1⟩,fd⟩:=HR.out wr HB.out;have fd0:=fd 0;have fd1:=fd 1
      go_wp2_with fail
      exact bodyPost_ret (v:=.agg #[.int .i64 0,.int .i64 0]) (by simp[results,Tryz.results33,go_sem,d0,d1]) rfl (zbm HFin.out ((Below.setCell (Below.setCell (HB1.out.trans (HB.out.mono HB1.out.size)) (Nat.le_succ _) _) (Nat.le_succ _) _)))
 ·have t4:(fc != 0)=true:=by simpa using hf0
  have HFin:=Hd ((V2.out hf0).trans rfl);clear hf0;obtain⟨⟨d0,d1⟩,fd⟩:=HR.out w3 HB3.out;have fd0:=fd 0;have fd1:=fd 1
  go_wp2_with fail
  exact bodyPost_ret (v:=.agg #[.int .i64 fx,.int .i64 fc]) (by simp[results,Tryz.results33,go_sem,d0,d1]) rfl (zbm HFin.out ((Below.setCell (Below.setCell (HB1.out.trans (HB3.out.mono HB1.out.size)) (Nat.le_succ _) _) (Nat.le_succ _) _)))
end Go.Proofs.YtbbaooeioogijaaGreatDoor
namespace Go.Proofs.YtbbaooeioogijaaGreatDoor
open Go.RowKit Go.Maps
set_option maxRecDepth 100000
structure FileR (B:Nat)(w:World)(b mb:Nat)(c0 c2 c3 lv sv av:Value)(n:Nat)(f:ByteArray→Option Bnd)(nl:Nat)(ll:List Value)(ns:Nat)(ls:List Value)(na:Nat)(la:List Value):Prop where
 blk:w.heap[b]?=some (.cells #[.map (some mb),c0,c2,c3] 73 (0,0))
 base:B≤b∧B≤mb∧b≠mb
 mlt:mb<w.heap.size
 names:MapB w mb n f
 sizes:w.ownsRow B 78 3 sv ns ls
 aligns:w.ownsRow B 9 1 av na la
 list:w.ownsRow B 45 5 lv nl ll
 apart:∀k,(sv.ownBlock=some k→k≠b∧k≠mb∧av.ownBlock≠some k∧lv.ownBlock≠some k)∧(av.ownBlock=some k→k≠b∧k≠mb∧lv.ownBlock≠some k)∧(lv.ownBlock=some k→k≠b∧k≠mb)
section
variable {B b mb:Nat} {w w':World} {c0 c2 c3 lv sv av:Value} {n:Nat} {f:ByteArray→Option Bnd} {nl ns na:Nat} {ll ls la:List Value}
theorem FileR.lt (h:FileR B w b mb c0 c2 c3 lv sv av n f nl ll ns ls na la):b<w.heap.size:=zaa h.blk
theorem FileR.below (h:FileR B w b mb c0 c2 c3 lv sv av n f nl ll ns ls na la)(hb:Below w.heap.size w w'):FileR B w' b mb c0 c2 c3 lv sv av n f nl ll ns ls na la:=
 ⟨by rw[hb.block b h.lt];exact h.blk,h.base,zv5 h.mlt hb.size,h.names.below hb,h.sizes.belowed hb,h.aligns.belowed hb,h.list.belowed hb,h.apart⟩
theorem FileR.cells (h:FileR B w b mb c0 c2 c3 lv sv av n f nl ll ns ls na la) :
 (w.cell? ⟨b,0,none⟩=some (.map (some mb))∧w.cell? ⟨b,1,none⟩=some c0∧w.cell? ⟨b,2,none⟩=some c2∧w.cell? ⟨b,3,none⟩=some c3)∧∀j,w.frozen? ⟨b,j,none⟩=false:=by
 refine⟨⟨?_,?_,?_,?_⟩,fun j=>?_⟩
 ·simp[World.cell?,h.blk]
 ·simp[World.cell?,h.blk]
 ·simp[World.cell?,h.blk]
 ·simp[World.cell?,h.blk]
 ·simp[World.frozen?,h.blk]
theorem zb8 {e:TypeId}{size m:Nat}{v u:Value}{xs:List Value}(h:w.ownsRow B e size v m xs)(hg:w.grownBy w' u.ownBlock)(hne:∀k,u.ownBlock=some k→v.ownBlock≠some k):w'.ownsRow B e size v m xs:=by
 refine h.kept hg ?_;cases hv:v.ownBlock with
 | none=>exact .inl rfl
 | some k=>exact .inr fun e=>hne k e.symm hv
theorem zfB {e:TypeId}{size m:Nat}{v u:Value}{xs:List Value}(h:w.ownsRow B e size v m xs)(hg:w.grownBy w' u.ownBlock)(hne:∀k,v.ownBlock=some k→u.ownBlock≠some k):w'.ownsRow B e size v m xs:=
 zb8 h hg fun k hk hv=>hne k hv hk
theorem FileR.grewS {sv':Value}{ns':Nat}{ls':List Value}(h:FileR B w b mb c0 c2 c3 lv sv av n f nl ll ns ls na la)(hg:w.grownBy w' sv.ownBlock)(ho:w'.ownsRow B 78 3 sv' ns' ls')
 (hs:∀k,sv'.ownBlock=some k→sv.ownBlock=some k∨k=w.heap.size):FileR B w' b mb c0 c2 c3 lv sv' av n f nl ll ns' ls' na la:=by
 have hb:some b≠sv.ownBlock:=fun e=>((h.apart b).1 e.symm).1 rfl
 have hm:some mb≠sv.ownBlock:=fun e=>((h.apart mb).1 e.symm).2.1 rfl
 refine⟨by rw[hg.block b h.lt hb];exact h.blk,h.base,zv5 h.mlt hg.size,h.names.kept hg hm,ho,zb8 h.aligns hg fun k hk=>((h.apart k).1 hk).2.2.1,zb8 h.list hg fun k hk=>((h.apart k).1 hk).2.2.2,fun k=>⟨fun hk=>?_,(h.apart k).2⟩⟩;rcases hs k hk with h1|rfl
 ·exact(h.apart k).1 h1
 ·have h1:=h.lt
  have h2:=h.mlt;exact⟨by omega,by omega,fun e=>absurd (h.aligns.lt _ e).2 (Nat.lt_irrefl _),fun e=>absurd (h.list.lt _ e).2 (Nat.lt_irrefl _)⟩
theorem FileR.grewA {av':Value}{na':Nat}{la':List Value}(h:FileR B w b mb c0 c2 c3 lv sv av n f nl ll ns ls na la)(hg:w.grownBy w' av.ownBlock)(ho:w'.ownsRow B 9 1 av' na' la')
 (hs:∀k,av'.ownBlock=some k→av.ownBlock=some k∨k=w.heap.size):FileR B w' b mb c0 c2 c3 lv sv av' n f nl ll ns ls na' la':=by
 have hb:some b≠av.ownBlock:=fun e=>((h.apart b).2.1 e.symm).1 rfl
 have hm:some mb≠av.ownBlock:=fun e=>((h.apart mb).2.1 e.symm).2.1 rfl
 refine⟨by rw[hg.block b h.lt hb];exact h.blk,h.base,zv5 h.mlt hg.size,h.names.kept hg hm,zfB h.sizes hg fun k hk=>((h.apart k).1 hk).2.2.1,ho,zb8 h.list hg fun k hk=>((h.apart k).2.1 hk).2.2,fun k=>⟨fun hk=>⟨((h.apart k).1 hk).1,((h.apart k).1 hk).2.1,fun e=>?_,((h.apart k).1 hk).2.2.2⟩,fun hk=>?_,(h.apart k).2.2⟩⟩
 ·rcases hs k e with h1|rfl
  ·exact((h.apart k).1 hk).2.2.1 h1
  ·exact absurd (h.sizes.lt _ hk).2 (Nat.lt_irrefl _)
 ·rcases hs k hk with h1|rfl
  ·exact(h.apart k).2.1 h1
  ·have h1:=h.lt
   have h2:=h.mlt;exact⟨by omega,by omega,fun e=>absurd (h.list.lt _ e).2 (Nat.lt_irrefl _)⟩
theorem FileR.grewL {lv':Value}{nl':Nat}{ll':List Value}(h:FileR B w b mb c0 c2 c3 lv sv av n f nl ll ns ls na la)(hg:w.grownBy w' lv.ownBlock)(ho:w'.ownsRow B 45 5 lv' nl' ll')
 (hs:∀k,lv'.ownBlock=some k→lv.ownBlock=some k∨k=w.heap.size):FileR B w' b mb c0 c2 c3 lv' sv av n f nl' ll' ns ls na la:=by
 have hb:some b≠lv.ownBlock:=fun e=>((h.apart b).2.2 e.symm).1 rfl
 have hm:some mb≠lv.ownBlock:=fun e=>((h.apart mb).2.2 e.symm).2 rfl
 refine⟨by rw[hg.block b h.lt hb];exact h.blk,h.base,zv5 h.mlt hg.size,h.names.kept hg hm,zfB h.sizes hg fun k hk=>((h.apart k).1 hk).2.2.2,zfB h.aligns hg fun k hk=>((h.apart k).2.1 hk).2.2,ho,fun k=>⟨fun hk=>⟨((h.apart k).1 hk).1,((h.apart k).1 hk).2.1,((h.apart k).1 hk).2.2.1,fun e=>?_⟩,fun hk=>⟨((h.apart k).2.1 hk).1,((h.apart k).2.1 hk).2.1,fun e=>?_⟩,fun hk=>?_⟩⟩
 ·rcases hs k e with h1|rfl
  ·exact((h.apart k).1 hk).2.2.2 h1
  ·exact absurd (h.sizes.lt _ hk).2 (Nat.lt_irrefl _)
 ·rcases hs k e with h1|rfl
  ·exact((h.apart k).2.1 hk).2.2 h1
  ·exact absurd (h.aligns.lt _ hk).2 (Nat.lt_irrefl _)
 ·rcases hs k hk with h1|rfl
  ·exact(h.apart k).2.2 h1
  ·have h1:=h.lt
   have h2:=h.mlt;exact⟨by omega,by omega⟩
theorem FileR.turned {n':Nat}{f':ByteArray→Option Bnd}(h:FileR B w b mb c0 c2 c3 lv sv av n f nl ll ns ls na la)(ht:w.mapTurned w' mb)(hn:MapB w' mb n' f'):FileR B w' b mb c0 c2 c3 lv sv av n' f' nl ll ns ls na la:=by
 have hg:=ht.grown;refine⟨by rw[hg.block b h.lt (by simp only[ne_eq,Option.some.injEq];exact h.base.2.2)];exact h.blk,h.base,zv5 h.mlt hg.size,hn,h.sizes.kept hg ?_,h.aligns.kept hg ?_,h.list.kept hg ?_,h.apart⟩
 ·exact .inr fun e=>((h.apart mb).1 e).2.1 rfl
 ·exact .inr fun e=>((h.apart mb).2.1 e).2.1 rfl
 ·exact .inr fun e=>((h.apart mb).2.2 e).2 rfl
theorem zai {e:TypeId}{size m:Nat}{v:Value}{xs:List Value}(h:w.ownsRow B e size v m xs)(a:Addr)(u:Value)(hne:v.ownBlock≠some a.block):(w.setCell a u).ownsRow B e size v m xs:=
 h.kept (row:=some a.block) ⟨rfl,rfl,rfl,by simp,fun k _ hk=>Below.heap_setCell _ _ _ _ (by simpa using hk)⟩ (.inr hne)
theorem FileR.put {c0' c2' c3':Value}(h:FileR B w b mb c0 c2 c3 lv sv av n f nl ll ns ls na la)(j:Nat)(u:Value)(hc:(#[.map (some mb),c0,c2,c3]:Array Value).setIfInBounds j u=#[.map (some mb),c0',c2',c3']) :
 FileR B (w.setCell ⟨b,j,none⟩ u) b mb c0' c2' c3' lv sv av n f nl ll ns ls na la:=by
 refine⟨?_,h.base,by simpa using h.mlt,h.names.other _ (by simpa using Ne.symm h.base.2.2) _,zai h.sizes _ _ (fun e=>((h.apart b).1 e).1 rfl),zai h.aligns _ _ (fun e=>((h.apart b).2.1 e).1 rfl),zai h.list _ _ (fun e=>((h.apart b).2.2 e).1 rfl),h.apart⟩;rw[← hc];simp[World.setCell,Array.getElem?_modify,h.blk]
end
set_option maxHeartbeats 8000000
theorem zca {v:Value}{g H n c k:Nat}(h:v.ownBlock=some g∨g=H)(hk:(Value.slice (some ⟨g,0,none⟩) n c).ownBlock=some k):v.ownBlock=some k∨k=H:=by
 simp only[Value.ownBlock,Option.some.injEq]at hk;subst hk;exact h
theorem zdC {w0 w w':World}{b B:Nat}(h:Below B w0 w)(hB:B≤w0.heap.size)(hb:B≤b)(ht:w.mapTurned w' b):Below B w0 w':=by
 have hg:=ht.grown;exact⟨hg.os.trans h.os,hg.tape.trans h.tape,hg.output.trans h.output,zv6 h.size hg.size,fun k hk=>(hg.block k (zv5 hk (zv6 hB h.size)) (by simp;omega)).trans (h.block k hk)⟩
theorem zi6:(Tryz.prog.info? 78).map (fun i=>(i.zero,i.size,i.bytes))=some (some (bndV bnd0),3,32):=by kernel_rfl
theorem zgu:(Tryz.prog.info? 9).map (fun i=>(i.zero,i.size,i.bytes))=some (some (.string ⟨#[]⟩),1,16):=by kernel_rfl
def KeepU (w w':World)(T:Nat→Prop):Prop:=∀k,k<w.heap.size→¬T k→w'.heap[k]?=w.heap[k]?
def PutT (b mb:Nat)(sv av:Value)(k:Nat):Prop:=k=b∨k=mb∨sv.ownBlock=some k∨av.ownBlock=some k
theorem KeepU.below {w w1 w2:World}{T:Nat→Prop}(h:KeepU w w1 T)(hs:w.heap.size≤w1.heap.size)(hb:Below w1.heap.size w1 w2):KeepU w w2 T:=fun k hk hT=>(hb.block k (zv5 hk hs)).trans (h k hk hT)
theorem KeepU.grown {w w1 w2:World}{T:Nat→Prop}{row:Option Nat}(h:KeepU w w1 T)(hs:w.heap.size≤w1.heap.size)(hg:w1.grownBy w2 row)(hr:∀k,row=some k→T k):KeepU w w2 T:=fun k hk hT=>(hg.block k (zv5 hk hs) (fun e=>hT (hr k e.symm))).trans (h k hk hT)
theorem KeepU.set {w w1:World}{T:Nat→Prop}(h:KeepU w w1 T)(a:Addr)(v:Value)(ha:T a.block):KeepU w (w1.setCell a v) T:=fun k hk hT=>(Below.heap_setCell _ _ _ _ (fun e=>hT (by rw[e];exact ha))).trans (h k hk hT)
theorem KeepU.refl (w:World)(T:Nat→Prop):KeepU w w T:=fun _ _ _=>rfl
theorem ztM {B b mb:Nat}{lv sv av:Value}{n:Nat}{f:ByteArray→Option Bnd}{nl ns na:Nat}{ll ls la:List Value}(name:ByteArray)(bd:Bnd)(w:World)(h:FileR B w b mb sv av lv lv sv av n f nl ll ns ls na la)(hB:B≤w.heap.size)(hn:n<maxLen)(hns:ns≤4096)(hna:na≤4096)(hs:name.size≤maxLen) :
 Calls Tryz.prog 35 #[.pointer (some ⟨b,0,none⟩),.string name,bndV bd] w fun e w'=>e=.returned (.tuple #[])∧(∃sv' av',FileR B w' b mb sv' av' lv lv sv' av' (n+1) (fun t=>if t=name then some bd else f t) nl ll (ns+1) (ls++bndCells bd) (na+1) (la++[.string name]))∧Below B w w'∧KeepU w w' (PutT b mb sv av):=by
 have HF:=Hd h;obtain⟨bk,bi,bt⟩:=bd;simp only[bndV]
 go_enter Tryz.func35,Tryz.ntmps35
 go_upto_region 1 with fail
 have hy:=(show (w.alloc (.cells #[.int .i64 bk,.int .i64 bi,.string bt] 78)).heap[w.heap.size]?=some (.cells #[.int .i64 bk,.int .i64 bi,.string bt] 78 (0,0)) from zv8 _ _)
 have hb1:=ba1 w (.cells #[.int .i64 bk,.int .i64 bi,.string bt] 78);generalize hwa:w.alloc (.cells #[.int .i64 bk,.int .i64 bi,.string bt] 78)=wa at *;have hsa:w.heap.size<wa.heap.size:=zaa hy;have hk9:=(HF.out.below hb1).below ((zv3 _ wa).drew);obtain⟨w3,hup,hm3,ht3⟩:=hk9.names.store hn hs ⟨bk,bi,bt⟩;simp only[bndV]at hup;have HM3:=Hd hm3;have HT3:=Hd ht3;have HK9:=Hd hk9;obtain⟨⟨k0,k1,k2,k3⟩,_⟩:=hk9.cells;obtain⟨⟨y0,y1,y2⟩,_⟩:=zac hy;have HY:=Hd hy;have HBa:=Hd (((zv3 B w).trans (hb1.mono hB)).drew);have HU:=Hd ((KeepU.refl w (PutT b mb sv av)).below (zv0 _) hb1);have HU1:=Hd (zv7 hsa);clear hm3 ht3 hk9 hy hb1 hwa
 go_still_tail 7,(by kernel_rfl)
 change wpList _ _ _ _ _ wa.drew;have hne:w.heap.size≠mb:=by have:=HF.out.mlt;omega
 have hk3:=HK9.out.turned HT3.out HM3.out;have hy3:=(HT3.out.grown.block _ (by simpa using hsa) (by simp only[ne_eq,Option.some.injEq];exact hne)).trans (show wa.drew.heap[w.heap.size]?=_ from HY.out);have HK3:=Hd hk3;have HB3:=Hd (zdC HBa.out hB HK9.out.base.2.1 HT3.out);have HS3:=Hd (show wa.heap.size≤w3.heap.size from by have:=HT3.out.grown.size;simpa using this);have HU3:=Hd ((HU.out.below HU1.out (zv3 _ wa).drew).grown (by have:=HU1.out;simpa using this) HT3.out.grown (fun k hk=>.inr (.inl (zv4 hk).symm)));have HZ3:=Hd (zv6 HU1.out HS3.out);clear y0 y1 y2 k0 k1 k2 k3
 go_upto_region 2 with fail
 clear hup
 go_cut [] (fun wx=>∃sv',Hid (FileR B wx b mb sv' av lv lv sv' av (n+1) (fun t=>if t=name then some ⟨bk,bi,bt⟩ else f t) nl ll (ns+1) (ls++[.int .i64 bk,.int .i64 bi,.string bt]) na la)∧Hid (Below B w wx∧KeepU w wx (PutT b mb sv av)∧w.heap.size≤wx.heap.size∧(∀k,sv'.ownBlock=some k→sv.ownBlock=some k∨w.heap.size≤k)))
 case first=>
  obtain⟨⟨k0,k1,k2,k3⟩,_⟩:=hk3.cells;obtain⟨⟨y0,y1,y2⟩,_⟩:=zac hy3;have HY3:=Hd hy3;have hz3:=zaa hy3;have hbz3:=HK3.out.lt;have hB3:B≤w3.heap.size:=by omega
  have HBig:=Hd (show Below w3.heap.size w3 (w3.alloc (.cells #[.int .i64 bk,.int .i64 bi,.string bt] 78)).drew from ((zv3 _ _).alloc (zv0 _) _).drew);obtain⟨i0,hi,hz0,hz1',hz2'⟩:=info_parts zi6;have HIn:=Hd (And.intro hi (And.intro hz0 (And.intro hz1' hz2')));clear hi hz0 hz1' hz2' hk3 hy3
  go_region_law ((refine step_append_lies _ (by rfl) _ _ _ (by rfl) B 78 i0 _ 3 32 Tryz.underlying28 HIn.out.1 HIn.out.2.1 HIn.out.2.2.1 HIn.out.2.2.2 rfl (by omega) sv ns ls (by rfl) (HK3.out.sizes.belowed HBig.out) ⟨w3.heap.size,0,none⟩ 1 1 [.int .i64 bk,.int .i64 bi,.string bt] (by rfl) (by rfl) (World.news_of_block (cs:=#[.int .i64 bk,.int .i64 bi,.string bt]) (t:=78) (fr:=(0,0)) (zv8 w3 _)) (by simp[Value.oneCell']) (by omega) (by unfold maxLen;omega) (by omega) (by simp;omega) (w3.heap.size+1) (by simp) ?_;intro gg cp w5 hown hgrow hat hlt5;have hk5:=(HK3.out.below HBig.out).grewS hgrow hown (fun k hk=>(zca hat hk).imp id (fun e=>e.trans (by simp)));have j0:=hk5.cells.1.2.1;have jf:=hk5.cells.2 1))
  all_goals
   have HK5:=Hd (hk5.put 1 (Value.slice (some ⟨gg,0,none⟩) (ns+1) cp) rfl);have HB5:=Hd ((((HB3.out.trans (HBig.out.mono (by have:=HB3.out.size;omega))).grown hgrow (by have:=HBig.out.size;omega) (fun k hk=>(HK3.out.sizes.lt k hk).1))).setCell (p:=⟨b,1,none⟩) HK3.out.base.1 (Value.slice (some ⟨gg,0,none⟩) (ns+1) cp));have hu1:=HU3.out.below HZ3.out HBig.out;have hsz:w.heap.size≤(w3.alloc (.cells #[.int .i64 bk,.int .i64 bi,.string bt] 78)).drew.heap.size:=zv6 HZ3.out HBig.out.size;have HU5:=Hd ((hu1.grown hsz hgrow (fun k hk=>.inr (.inr (.inl hk)))).set ⟨b,1,none⟩ (Value.slice (some ⟨gg,0,none⟩) (ns+1) cp) (.inl rfl));have HS5:=Hd (show w.heap.size≤(w5.setCell ⟨b,1,none⟩ (Value.slice (some ⟨gg,0,none⟩) (ns+1) cp)).heap.size by have:=hgrow.size;simp;omega);have HW5:=Hd (show ∀k,(Value.slice (some ⟨gg,0,none⟩) (ns+1) cp).ownBlock=some k→sv.ownBlock=some k∨w.heap.size≤k from fun k hk=>(zca hat hk).imp id (fun e=>by have:=HZ3.out;omega));clear hk5 hown hgrow hat hlt5 j0 jf hu1 hsz
   go_wp2_with fail
   go_meet
   exact⟨_,HK5,Hd ⟨HB5.out,HU5.out,HS5.out,HW5.out⟩⟩
 case rest=>
  obtain⟨sv',HK6,HC6⟩:=hcut;have HB6:=Hd HC6.out.1;clear HK3 HB3 HS3 HBa HK9 HY HT3 HM3;obtain⟨⟨k0,k1,k2,k3⟩,_⟩:=HK6.out.cells;have hbz6:=HK6.out.lt;have hB6:B≤wc.heap.size:=by have:=HK6.out.base.1;omega
  have HBig:=Hd (show Below wc.heap.size wc (wc.alloc (.cells #[.string name] 9)) from (zv3 _ _).alloc (zv0 _) _);obtain⟨i0,hi,hz0,hz1',hz2'⟩:=info_parts zgu;have HIn:=Hd (And.intro hi (And.intro hz0 (And.intro hz1' hz2')));have hna1:(na+1)*16≤140737488355328:=by omega
  have hna2:na+1≤maxLen:=by unfold maxLen;omega
  have hna3:B≤(wc.alloc (.cells #[.string name] 9)).heap.size:=by simp;omega
  have HNum:=Hd (And.intro hna2 (And.intro hna1 hna3));clear hi hz0 hz1' hz2' hna1 hna2 hna3
  go_wp2_with (at_builtin;go_loud (refine wpList_append_lies _ rfl _ _ _ rfl B 9 i0 _ 1 16 Tryz.underlying29 HIn.out.1 HIn.out.2.1 HIn.out.2.2.1 HIn.out.2.2.2 rfl (by decide) av na la rfl (HK6.out.aligns.belowed HBig.out) ⟨_,0,none⟩ 1 1 [.string name] rfl rfl (World.news_of_block (cs:=#[.string name]) (zv8 _ _)) (by simp[Value.oneCell']) (by decide) HNum.out.1 HNum.out.2.1 HNum.out.2.2 _ rfl ?_))
  intro gg cp w5 hown hgrow hat hlt5;have hk5:=(HK6.out.below HBig.out).grewA hgrow hown (fun k hk=>(zca hat hk).imp id (fun e=>e.trans (by simp)));have j0:=hk5.cells.1.2.2.1;have jf:=hk5.cells.2 2;have HK5:=Hd (hk5.put 2 (Value.slice (some ⟨gg,0,none⟩) (na+1) cp) rfl);have HB5:=Hd ((((HB6.out.trans (HBig.out.mono hB6)).grown hgrow (by have:=HBig.out.size;omega) (fun k hk=>(HK6.out.aligns.lt k hk).1))).setCell (p:=⟨b,2,none⟩) HK6.out.base.1 (Value.slice (some ⟨gg,0,none⟩) (na+1) cp));have hu1:=HC6.out.2.1.below HC6.out.2.2.1 HBig.out;have hsz:w.heap.size≤(wc.alloc (.cells #[.string name] 9)).heap.size:=zv6 HC6.out.2.2.1 HBig.out.size;have HU5:=Hd ((hu1.grown hsz hgrow (fun k hk=>.inr (.inr (.inr hk)))).set ⟨b,2,none⟩ (Value.slice (some ⟨gg,0,none⟩) (na+1) cp) (.inl rfl));clear hk5 hown hgrow hat hlt5 hu1 hsz
  go_wp2_with fail
  refine bodyPost_end (results_none rfl _ _ _) rfl ?_;exact⟨rfl,⟨_,_,HK5.out⟩,HB5.out,HU5.out⟩
set_option maxHeartbeats 4000000
theorem ztb {mb n:Nat}{f:ByteArray→Option Bnd}(name:ByteArray)(w:World)(h:MapB w mb n f)(hs:name.size≤maxLen) :
 Calls Tryz.prog 34 #[.agg #[.map (some mb)],.string name] w fun e w'=>e=.returned (.bool (f name).isSome)∧Below w.heap.size w w':=by
 have hb1:=ba1 w (.cells #[.map (some mb)] 71);have hl:=(h.below hb1).look2 hs;have HB:=Hd hb1;clear hb1;generalize (f name).getD bnd0=q at *;obtain⟨qk,qi,qt⟩:=q;simp only[bndV]at hl
 go_enter Tryz.func34,Tryz.ntmps34
 go_wp2_with fail
 go_ret;exact⟨rfl,HB.out.alloc HB.out.size _⟩
def FileM (A B:Nat)(w:World)(b mb:Nat)(s:FileN):Prop:=A≤B∧∃(lv sv av:Value) (Q:List (FnU × Value × Value)) (n:Nat),FileR B w b mb sv av lv lv sv av n s.look s.funcs.length (Q.flatMap zaA) s.ents.length (s.ents.flatMap fun e=>bndCells e.2) s.ents.length (s.ents.map fun e=>.string e.1) ∧
 Q.map Prod.fst=s.funcs∧(∀q ∈ Q,IsFnU A w q.1 q.2.1 q.2.2)∧n≤s.ents.length+10
theorem FileR.same {B b mb:Nat}{w:World}{c0 c2 c3 lv sv av:Value}{n:Nat}{f g:ByteArray→Option Bnd}{nl ns na:Nat}{ll ls la:List Value}(h:FileR B w b mb c0 c2 c3 lv sv av n f nl ll ns ls na la)(e:∀t,f t=g t):FileR B w b mb c0 c2 c3 lv sv av n g nl ll ns ls na la:=
 ⟨h.blk,h.base,h.mlt,h.names.same e,h.sizes,h.aligns,h.list,h.apart⟩
theorem FileM.below {A B b mb:Nat}{w w':World}{s:FileN}(h:FileM A B w b mb s)(hb:Below w.heap.size w w'):FileM A B w' b mb s:=by
 obtain⟨hA,lv,sv,av,Q,n,hR,hQ,hF,hn⟩:=h;have hB:=hR.base.1;have hl:=hR.lt;exact⟨hA,lv,sv,av,Q,n,hR.below hb,hQ,fun q hq=>(hF q hq).below hb (by omega),hn⟩
theorem FileM.low {A B b mb:Nat}{w:World}{s:FileN}(h:FileM A B w b mb s){c:Addr}(h1:A≤c.block)(h2:c.block<B)(v:Value):FileM A B (w.setCell c v) b mb s:=by
 obtain⟨hA,lv,sv,av,Q,n,hR,hQ,hF,hn⟩:=h;have key:∀u:Value,(∀k,u.ownBlock=some k→B≤k)→u.ownBlock≠some c.block:=fun u hu e=>by have:=hu _ e;omega
 refine⟨hA,lv,sv,av,Q,n,⟨?_,hR.base,by simpa using hR.mlt,hR.names.other _ (by have:=hR.base;omega) _,zai hR.sizes _ _ (key _ fun k hk=>(hR.sizes.lt k hk).1),zai hR.aligns _ _ (key _ fun k hk=>(hR.aligns.lt k hk).1),zai hR.list _ _ (key _ fun k hk=>(hR.list.lt k hk).1),hR.apart⟩,hQ,fun q hq=>(hF q hq).below (Below.setCell (zv3 A w) h1 v) (zv0 _),hn⟩;rw[Below.heap_setCell _ _ _ _ (by have:=hR.base.1;omega)];exact hR.blk
theorem zci {w:World}{base n g cap k c:Nat}{T:TypeId}{xs:List Value}{u:Value}(h:w.ownsRow base T k (.slice (some ⟨g,0,none⟩) n cap) n xs):(w.setCell ⟨g,c,none⟩ u).ownsRow base T k (.slice (some ⟨g,0,none⟩) n cap) n (xs.set c u):=by
 obtain⟨hl,h⟩:=h;rcases h with ⟨h,_⟩|⟨g',cap',cur,e,hb,hg,hn,hc,hs,ht⟩
 ·cases h
 ·simp only[Value.slice.injEq,Option.some.injEq,Addr.mk.injEq,and_true]at e
  obtain⟨rfl,_,rfl⟩:=e;refine⟨by simpa using hl,.inr ⟨g,cap,cur.setIfInBounds c u,rfl,hb,?_,hn,hc,by simpa using hs,?_⟩⟩
  ·simp[World.setCell,Array.getElem?_modify,hg]
  ·rw[Array.toList_setIfInBounds,List.take_set,ht]
theorem FileR.setL {B b mb g cap:Nat}{w:World}{c0 c2 c3 sv av:Value}{n:Nat}{f:ByteArray→Option Bnd}{nl ns na:Nat}{ll ls la:List Value}(h:FileR B w b mb c0 c2 c3 (.slice (some ⟨g,0,none⟩) nl cap) sv av n f nl ll ns ls na la)(c:Nat)(u:Value) :
 FileR B (w.setCell ⟨g,c,none⟩ u) b mb c0 c2 c3 (.slice (some ⟨g,0,none⟩) nl cap) sv av n f nl (ll.set c u) ns ls na la:=by
 obtain⟨h1,h2⟩:=(h.apart g).2.2 rfl;refine⟨?_,h.base,by simpa using h.mlt,h.names.other _ (by simpa using Ne.symm h2) _,zai h.sizes _ _ (fun e=>((h.apart g).1 e).2.2.2 rfl),zai h.aligns _ _ (fun e=>((h.apart g).2.1 e).2.2 rfl),zci h.list,h.apart⟩;rw[Below.heap_setCell _ _ _ _ (by simpa using Ne.symm h1)];exact h.blk
theorem zhj {α:Type}{cells:α→List Value}(hk:∀a,(cells a).length=5){q:α}{a0 a1 a2 a3 a4:Value}(hq:cells q=[a0,a1,a2,a3,a4]):∀(L:List α) (i:Nat),i<L.length →
 (((((L.flatMap cells).set (i*5) a0).set (i*5+1) a1).set (i*5+2) a2).set (i*5+3) a3).set (i*5+4) a4=(L.set i q).flatMap cells
 | [],i,h=>by simp at h
 | y :: r,0,_=>by
   have:=hk y;rw[List.set_cons_zero,List.flatMap_cons,List.flatMap_cons,hq];rcases hc:cells y with _|⟨b0,_|⟨b1,_|⟨b2,_|⟨b3,_|⟨b4,_|⟨b5,c⟩⟩⟩⟩⟩⟩<;>rw[hc]at this<;>simp at this
   rfl
 | y :: r,i+1,h=>by
   have h5:=hk y;have ih:=zhj hk hq r i (by simpa using h);have e:∀j,(i+1)*5+j=(cells y).length+(i*5+j):=fun j=>by rw[h5];omega
   have e0:(i+1)*5=(cells y).length+(i*5):=by rw[h5];omega
   rw[List.set_cons_succ,List.flatMap_cons,List.flatMap_cons,e,e,e,e,e0,← ih];have key:∀(Z:List Value) (j:Nat) (u:Value),(cells y++Z).set ((cells y).length+j) u=cells y++Z.set j u:=fun Z j u=>by
    rw[List.set_append_right _ _ (by omega)]
    congr 2
    omega
   rw[key,key,key,key,key]
theorem zax {α:Type}{k:Nat}{cells:α→List Value}(hk:∀a,(cells a).length=k){w:World}{base n:Nat}{T:TypeId}{v:Value}{L:List α}(h:w.ownsRow base T k v n (L.flatMap cells))(hn:n=L.length){i:Nat}(hi:i<L.length) :
 ∃g cap,v=.slice (some ⟨g,0,none⟩) n cap∧base≤g∧g<w.heap.size∧n≤cap∧cap≤maxLen∧(∀j c,(cells L[i])[j]?=some c→w.cell? ⟨g,i*k+j,none⟩=some c)∧∀j,w.frozen? ⟨g,j,none⟩=false:=by
 have h0:=h;obtain⟨hl,h⟩:=h;rcases h with ⟨_,h⟩|⟨g,cap,cur,rfl,hb,hg,hn,hc,hs,ht⟩
 ·omega
 ·exact⟨g,cap,rfl,hb,zaa hg,hn,hc,fun j c hj=>zfb hk h0 (zv1 hi) hj,fun j=>by simp[World.frozen?,hg]⟩
end Go.Proofs.YtbbaooeioogijaaGreatDoor
