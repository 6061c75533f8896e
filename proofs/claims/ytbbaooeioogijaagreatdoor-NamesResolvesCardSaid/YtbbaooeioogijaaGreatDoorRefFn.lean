/- A function of a unit looked at: the reference -/
import Derived.Test.YtbbaooeioogijaaGreatDoorRefGlob
import Derived.Test.YtbbaooeioogijaaGreatDoorRefElem
namespace Go.Proofs.YtbbaooeioogijaaGreatDoor
open Go.RowKit Go.Sort
set_option maxRecDepth 100000
set_option maxHeartbeats 16000000
theorem zh0 {s:ByteArray}{w:World}{ps:List Ty}{r:Ty}(h:tyS s=some (.fn ps r)):Calls Tryz.prog 62 #[.string s] w fun e w'=>(∃a cap,e=.returned (.tuple #[.string (tyB r),.slice a ps.length cap,.int .i64 0])∧∀(i:Nat) (hi:i<ps.length),∃g,a=some ⟨g,0,none⟩∧g<w'.heap.size∧w'.cell? ⟨g,i,none⟩=some (.string (tyB ps[i])))∧Below w.heap.size w w':=by
 have:=znZ s w;rw[h]at this;refine this.mono fun e w' ⟨⟨v,he,ho⟩,h2⟩=>⟨?_,h2⟩
 rcases ho.2 with ⟨rfl,h0⟩|⟨g,cap,cur,rfl,_,hg,_⟩
 ·refine⟨none,0,by rw[he,h0],fun i hi=>?_⟩
  omega
 ·refine⟨some ⟨g,0,none⟩,cap,he,fun i hi=>⟨g,rfl,zaa hg,?_⟩⟩
  rw[ho.cellAt i (by omega),List.getElem?_map,zv1 hi]
  rfl
theorem zku (n:Nat):decide (0<(n:Int))=!((n:Int) == 0):=by
 cases n with
 | zero=>rfl
 | succ m=>
   rw[decide_eq_true (by omega)];have:(((m+1:Nat):Int) == 0)=false:=by simp;omega
   rw[this]
   rfl
theorem zqp (n:Nat):decide (0<n)=!((n:Int) == 0):=by
 rw[← zku];simp
theorem zr3 {s:ByteArray}(h:s≠⟨#[]⟩):0<s.size:=by
 rcases Nat.eq_zero_or_pos s.size with h0|h0
 ·exact absurd (zaT (List.length_eq_zero_iff.1 (by rw[Array.length_toList];exact h0))) h
 ·exact h0
theorem znf {s:ByteArray}{ps:List Ty}{r:Ty}(h:tyS s=some (.fn ps r)):∃h0:0<s.size,s[0]=102:=by
 obtain⟨rfl,_⟩:=zaW.1 h;exact zbW (t:=.fn ps r) (c:=102) (l:=40 :: (zbw ps++41 :: code r)) rfl
theorem zvJ {s:ByteArray}(h0:0<s.size)(h:(((s[0].toNat:Nat):Int) != 102)=true):∀ps r,tyS s≠some (.fn ps r):=by
 intro ps r e;obtain⟨_,h1⟩:=znf e;rw[h1]at h;exact absurd h (by decide)
theorem ztq {s:ByteArray}(hty:typedS s=true)(h0:0<s.size)(h:(((s[0].toNat:Nat):Int) != 102)=false):∃ps r,tyS s=some (.fn ps r):=by
 obtain⟨t,ht,rfl,hr⟩:=zfw hty;have hf:((((tyB t)[0]'h0).toNat:Int) == 102)=isFnT t:=zfh hr;rw[bne,hf]at h;cases t with
 | fn ps r=>exact⟨ps,r,ht⟩
 | _=>cases h
theorem znT (f:FnU)(vp vb:Value)(l:Option Addr)(lc:Nat)(L:List Sr)(mv:List Value)(w:World)(hF:IsFnU w.heap.size w f vp vb)(hS:IsSrs w.heap.size w l L mv)(_hcap:L.length≤lc)(_hcm:lc≤maxLen)(hn:isNameB f.name=false) :
 Calls Tryz.prog 39 #[fnUV f vp vb,.slice l L.length lc] w (zav (funcE L f) w):=by
 have hfin:funcE L f=90:=zbH (by unfold zdu;rw[hn];rfl);have HNm:=Hd (fun w=>zaH false f.name w hn);obtain⟨fat,fname,ftype,fparams,fbody⟩:=f;simp only[fnUV]at *
 go_enter Tryz.func39,Tryz.ntmps39
 go_upto_region 1 with fail
 generalize hgQ:w.alloc (.cells #[.int .i64 fat,.string fname,.string ftype,vp,vb] 45)=w0 at *;obtain⟨hx0,hb0⟩:=box0 hgQ;clear hgQ;have HNd:=Hd (fun w' (h:Below w0.heap.size w0 w')=>(zad ((h.block _ (zaa hx0)).trans hx0)).1);have HB0:=Hd hb0;have HSx:=Hd (fun w' (h:Below w0.heap.size w0 w')=>(hS.below (hb0.trans (h.mono hb0.size))).mono (hb0.trans (h.mono hb0.size)).size);obtain⟨x0,x1,x2,x3,x4⟩:=HNd.out w0 (zv3 _ _);have HFin:=Hd hfin;clear hF hS _hcap _hcm hx0 hb0 hfin hn
 go_wp2_with (go_at_call 58;(with_reducible refine(HNm.out _).mono ?_);rintro e w1 ⟨rfl,hb1⟩;have HB1:=Hd (hb1);obtain⟨x0,x1,x2,x3,x4⟩:=HNd.out w1 HB1.out;clear hb1)
 go_ret;exact zaq HFin.out (HB0.out.trans (HB1.out.mono HB0.out.size))
theorem zsk (f:FnU)(vp vb:Value)(l:Option Addr)(lc:Nat)(L:List Sr)(mv:List Value)(w:World)(hF:IsFnU w.heap.size w f vp vb)(hS:IsSrs w.heap.size w l L mv)(_hcap:L.length≤lc)(_hcm:lc≤maxLen)(hn:isNameB f.name=true)(ha:f.at_<0) :
 Calls Tryz.prog 39 #[fnUV f vp vb,.slice l L.length lc] w (zav (funcE L f) w):=by
 have hfin:funcE L f=90:=zbH (by unfold zdu;rw[hn,decide_eq_false (by omega)];rfl);have HNm:=Hd (fun w=>zaH true f.name w hn);obtain⟨fat,fname,ftype,fparams,fbody⟩:=f;simp only[fnUV]at *
 go_enter Tryz.func39,Tryz.ntmps39
 go_upto_region 1 with fail
 generalize hgQ:w.alloc (.cells #[.int .i64 fat,.string fname,.string ftype,vp,vb] 45)=w0 at *;obtain⟨hx0,hb0⟩:=box0 hgQ;clear hgQ;have HNd:=Hd (fun w' (h:Below w0.heap.size w0 w')=>(zad ((h.block _ (zaa hx0)).trans hx0)).1);have HB0:=Hd hb0;have HSx:=Hd (fun w' (h:Below w0.heap.size w0 w')=>(hS.below (hb0.trans (h.mono hb0.size))).mono (hb0.trans (h.mono hb0.size)).size);obtain⟨x0,x1,x2,x3,x4⟩:=HNd.out w0 (zv3 _ _);have t1:decide (fat<0)=true:=by simpa using ha
 have HFin:=Hd hfin;clear hF hS _hcap _hcm hx0 hb0 hfin hn ha
 go_wp2_with (go_at_call 58;(with_reducible refine(HNm.out _).mono ?_);rintro e w1 ⟨rfl,hb1⟩;have HB1:=Hd (hb1);obtain⟨x0,x1,x2,x3,x4⟩:=HNd.out w1 HB1.out;clear hb1)
 go_ret;exact zaq HFin.out (HB0.out.trans (HB1.out.mono HB0.out.size))
theorem zsl (f:FnU)(vp vb:Value)(l:Option Addr)(lc:Nat)(L:List Sr)(mv:List Value)(w:World)(hF:IsFnU w.heap.size w f vp vb)(hS:IsSrs w.heap.size w l L mv)(_hcap:L.length≤lc)(_hcm:lc≤maxLen)(hn:isNameB f.name=true)(ha:¬f.at_<0)(ha2:65536<f.at_) :
 Calls Tryz.prog 39 #[fnUV f vp vb,.slice l L.length lc] w (zav (funcE L f) w):=by
 have hfin:funcE L f=90:=zbH (by unfold zdu;rw[hn,decide_eq_false (by omega)];rfl);have HNm:=Hd (fun w=>zaH true f.name w hn);obtain⟨fat,fname,ftype,fparams,fbody⟩:=f;simp only[fnUV]at *
 go_enter Tryz.func39,Tryz.ntmps39
 go_upto_region 1 with fail
 generalize hgQ:w.alloc (.cells #[.int .i64 fat,.string fname,.string ftype,vp,vb] 45)=w0 at *;obtain⟨hx0,hb0⟩:=box0 hgQ;clear hgQ;have HNd:=Hd (fun w' (h:Below w0.heap.size w0 w')=>(zad ((h.block _ (zaa hx0)).trans hx0)).1);have HB0:=Hd hb0;have HSx:=Hd (fun w' (h:Below w0.heap.size w0 w')=>(hS.below (hb0.trans (h.mono hb0.size))).mono (hb0.trans (h.mono hb0.size)).size);obtain⟨x0,x1,x2,x3,x4⟩:=HNd.out w0 (zv3 _ _);have t1:decide (fat<0)=false:=by simpa using ha
 have t2:decide (65536<fat)=true:=by simpa using ha2
 have HFin:=Hd hfin;clear hF hS _hcap _hcm hx0 hb0 hfin hn ha ha2
 go_wp2_with (go_at_call 58;(with_reducible refine(HNm.out _).mono ?_);rintro e w1 ⟨rfl,hb1⟩;have HB1:=Hd (hb1);obtain⟨x0,x1,x2,x3,x4⟩:=HNd.out w1 HB1.out;clear hb1)
 go_ret;exact zaq HFin.out (HB0.out.trans (HB1.out.mono HB0.out.size))
theorem zls (f:FnU)(vp vb:Value)(l:Option Addr)(lc:Nat)(L:List Sr)(mv:List Value)(w:World)(hF:IsFnU w.heap.size w f vp vb)(hS:IsSrs w.heap.size w l L mv)(_hcap:L.length≤lc)(_hcm:lc≤maxLen)(hn:isNameB f.name=true)(ha:¬f.at_<0)(ha2:¬65536<f.at_)(he:f.type=⟨#[]⟩) :
 Calls Tryz.prog 39 #[fnUV f vp vb,.slice l L.length lc] w (zav (funcE L f) w):=by
 have hfin:funcE L f=90:=zfP (fun ps r e=>by obtain⟨h0,_⟩:=znf e;rw[he]at h0;exact absurd h0 (by decide));have HE:=Hd he;clear he;have HNm:=Hd (fun w=>zaH true f.name w hn);obtain⟨fat,fname,ftype,fparams,fbody⟩:=f;simp only[fnUV]at *
 go_enter Tryz.func39,Tryz.ntmps39
 go_upto_region 1 with fail
 generalize hgQ:w.alloc (.cells #[.int .i64 fat,.string fname,.string ftype,vp,vb] 45)=w0 at *;obtain⟨hx0,hb0⟩:=box0 hgQ;clear hgQ;have HNd:=Hd (fun w' (h:Below w0.heap.size w0 w')=>(zad ((h.block _ (zaa hx0)).trans hx0)).1);have HB0:=Hd hb0;have HSx:=Hd (fun w' (h:Below w0.heap.size w0 w')=>(hS.below (hb0.trans (h.mono hb0.size))).mono (hb0.trans (h.mono hb0.size)).size);obtain⟨x0,x1,x2,x3,x4⟩:=HNd.out w0 (zv3 _ _);have t1:decide (fat<0)=false:=by simpa using ha
 have t2:decide (65536<fat)=false:=by simpa using ha2
 have t3:(ftype.toList == [])=true:=by rw[HE.out];exact zbl rfl rfl
 have HFin:=Hd hfin;clear hF hS _hcap _hcm hx0 hb0 hfin hn ha ha2
 go_wp2_with (go_at_call 58;(with_reducible refine(HNm.out _).mono ?_);rintro e w1 ⟨rfl,hb1⟩;have HB1:=Hd (hb1);obtain⟨x0,x1,x2,x3,x4⟩:=HNd.out w1 HB1.out;clear hb1)
 go_ret;exact zaq HFin.out (HB0.out.trans (HB1.out.mono HB0.out.size))
theorem zlr (f:FnU)(vp vb:Value)(l:Option Addr)(lc:Nat)(L:List Sr)(mv:List Value)(w:World)(hF:IsFnU w.heap.size w f vp vb)(hS:IsSrs w.heap.size w l L mv)(_hcap:L.length≤lc)(_hcm:lc≤maxLen)(hn:isNameB f.name=true)(ha:¬f.at_<0)(ha2:¬65536<f.at_)(he:f.type≠⟨#[]⟩)(h0:0<f.type.size)(hf:(((f.type[0].toNat:Nat):Int) != 102)=true) :
 Calls Tryz.prog 39 #[fnUV f vp vb,.slice l L.length lc] w (zav (funcE L f) w):=by
 have hfin:funcE L f=90:=zfP (zvJ h0 hf);have HNm:=Hd (fun w=>zaH true f.name w hn);obtain⟨fat,fname,ftype,fparams,fbody⟩:=f;simp only[fnUV]at *
 go_enter Tryz.func39,Tryz.ntmps39
 go_upto_region 1 with fail
 generalize hgQ:w.alloc (.cells #[.int .i64 fat,.string fname,.string ftype,vp,vb] 45)=w0 at *;obtain⟨hx0,hb0⟩:=box0 hgQ;clear hgQ;have HNd:=Hd (fun w' (h:Below w0.heap.size w0 w')=>(zad ((h.block _ (zaa hx0)).trans hx0)).1);have HB0:=Hd hb0;have HSx:=Hd (fun w' (h:Below w0.heap.size w0 w')=>(hS.below (hb0.trans (h.mono hb0.size))).mono (hb0.trans (h.mono hb0.size)).size);obtain⟨x0,x1,x2,x3,x4⟩:=HNd.out w0 (zv3 _ _);have t1:decide (fat<0)=false:=by simpa using ha
 have t2:decide (65536<fat)=false:=by simpa using ha2
 have t3:(ftype.toList == [])=false:=by exact za2 (fun e=>he (zaT e))
 have HFin:=Hd hfin;clear hF hS _hcap _hcm hx0 hb0 hfin hn ha ha2 he
 go_wp2_with (go_at_call 58;(with_reducible refine(HNm.out _).mono ?_);rintro e w1 ⟨rfl,hb1⟩;have HB1:=Hd (hb1);obtain⟨x0,x1,x2,x3,x4⟩:=HNd.out w1 HB1.out;clear hb1)
 go_ret;exact zaq HFin.out (HB0.out.trans (HB1.out.mono HB0.out.size))
theorem zlt (f:FnU)(vp vb:Value)(l:Option Addr)(lc:Nat)(L:List Sr)(mv:List Value)(w:World)(hF:IsFnU w.heap.size w f vp vb)(hS:IsSrs w.heap.size w l L mv)(hcap:L.length≤lc)(hcm:lc≤maxLen)(hn:isNameB f.name=true)(ha:¬f.at_<0)(ha2:¬65536<f.at_)(he:f.type≠⟨#[]⟩)(h0:0<f.type.size)(hf:(((f.type[0].toNat:Nat):Int) != 102)=false)(hc:checkN L f.type≠0) :
 Calls Tryz.prog 39 #[fnUV f vp vb,.slice l L.length lc] w (zav (funcE L f) w):=by
 have hfin:funcE L f=90:=zbH (by unfold zdu;rw[decide_eq_false hc];simp);have HNm:=Hd (fun w=>zaH true f.name w hn);obtain⟨fat,fname,ftype,fparams,fbody⟩:=f;simp only[fnUV]at *
 go_enter Tryz.func39,Tryz.ntmps39
 go_upto_region 1 with fail
 generalize hgQ:w.alloc (.cells #[.int .i64 fat,.string fname,.string ftype,vp,vb] 45)=w0 at *;obtain⟨hx0,hb0⟩:=box0 hgQ;clear hgQ;have HNd:=Hd (fun w' (h:Below w0.heap.size w0 w')=>(zad ((h.block _ (zaa hx0)).trans hx0)).1);have HB0:=Hd hb0;have HSx:=Hd (fun w' (h:Below w0.heap.size w0 w')=>(hS.below (hb0.trans (h.mono hb0.size))).mono (hb0.trans (h.mono hb0.size)).size);obtain⟨x0,x1,x2,x3,x4⟩:=HNd.out w0 (zv3 _ _);have t1:decide (fat<0)=false:=by simpa using ha
 have t2:decide (65536<fat)=false:=by simpa using ha2
 have t3:(ftype.toList == [])=false:=by exact za2 (fun e=>he (zaT e))
 have t4:(checkN L ftype != 0)=true:=by simpa using hc
 have HCk:=Hd (fun w' (h:Below w0.heap.size w0 w')=>zb4 ftype l lc L mv w' (HSx.out w' h) hcap hcm);have HFin:=Hd hfin;clear hF hS hcap hcm hx0 hb0 hfin hn ha ha2 he hc;generalize checkN L ftype=cc at *
 go_wp2_with (first
  | (go_at_call 58;(with_reducible refine(HNm.out _).mono ?_);rintro e w1 ⟨rfl,hb1⟩;have HB1:=Hd (hb1);obtain⟨x0,x1,x2,x3,x4⟩:=HNd.out w1 HB1.out;have HC1:=Hd (HCk.out w1 HB1.out);clear hb1)
  | (go_at_call 60;(with_reducible refine HC1.out.mono ?_);rintro e w2 ⟨rfl,hb2⟩;have HB2:=Ht HB1 hb2;obtain⟨x0,x1,x2,x3,x4⟩:=HNd.out w2 HB2.out;clear hb2))
 go_ret;exact zaq HFin.out (HB0.out.trans (HB2.out.mono HB0.out.size))
theorem zpC (f:FnU)(vp vb:Value)(l:Option Addr)(lc:Nat)(L:List Sr)(mv:List Value)(w:World)(hF:IsFnU w.heap.size w f vp vb)(hS:IsSrs w.heap.size w l L mv)(hcap:L.length≤lc)(hcm:lc≤maxLen)(hn:isNameB f.name=true)(ha:¬f.at_<0)(ha2:¬65536<f.at_)(he:f.type≠⟨#[]⟩)(h0:0<f.type.size)(hf:(((f.type[0].toNat:Nat):Int) != 102)=false){ps:List Ty}{r:Ty}(hs:tyS f.type=some (.fn ps r))(hc:checkN L f.type=0)(hl:ps.length≠f.params.length) :
 Calls Tryz.prog 39 #[fnUV f vp vb,.slice l L.length lc] w (zav (funcE L f) w):=by
 have hfin:funcE L f=90:=by
  unfold funcE;rw[hs];exact if_pos (.inr hl)
 obtain⟨ap,cp,rfl,hsp,hsl,hvo⟩:=hF.params;have HNm:=Hd (fun w=>zaH true f.name w hn);obtain⟨fat,fname,ftype,fparams,fbody⟩:=f;simp only[fnUV]at *
 go_enter Tryz.func39,Tryz.ntmps39
 go_upto_region 1 with fail
 generalize hgQ:w.alloc (.cells #[.int .i64 fat,.string fname,.string ftype,.slice ap fparams.length cp,vb] 45)=w0 at *;obtain⟨hx0,hb0⟩:=box0 hgQ;clear hgQ;have HNd:=Hd (fun w' (h:Below w0.heap.size w0 w')=>(zad ((h.block _ (zaa hx0)).trans hx0)).1);have HB0:=Hd hb0;have HSx:=Hd (fun w' (h:Below w0.heap.size w0 w')=>(hS.below (hb0.trans (h.mono hb0.size))).mono (hb0.trans (h.mono hb0.size)).size);obtain⟨x0,x1,x2,x3,x4⟩:=HNd.out w0 (zv3 _ _);have t1:decide (fat<0)=false:=by simpa using ha
 have t2:decide (65536<fat)=false:=by simpa using ha2
 have t3:(ftype.toList == [])=false:=by exact za2 (fun e=>he (zaT e))
 have HSg:=Hd (fun w=>zh0 (w:=w) hs);have HCk:=Hd (fun w' (h:Below w0.heap.size w0 w')=>zc4 0 ftype l lc L mv w' (HSx.out w' h) hcap hcm hc);have t5:((ps.length:Int) != (fparams.length:Int))=true:=by simp;omega
 have HFin:=Hd hfin;clear hF hS hcap hcm hx0 hb0 hfin hn ha ha2 he hs hc hl
 go_wp2_with (first
  | (go_at_call 58;(with_reducible refine(HNm.out _).mono ?_);rintro e w1 ⟨rfl,hb1⟩;have HB1:=Hd (hb1);obtain⟨x0,x1,x2,x3,x4⟩:=HNd.out w1 HB1.out;have HC1:=Hd (HCk.out w1 HB1.out);clear hb1)
  | (go_at_call 60;(with_reducible refine HC1.out.mono ?_);rintro e w2 ⟨rfl,hb2⟩;have HB2:=Ht HB1 hb2;obtain⟨x0,x1,x2,x3,x4⟩:=HNd.out w2 HB2.out;clear hb2)
  | (go_at_call 62;(with_reducible refine(HSg.out _).mono ?_);rintro e w3 ⟨⟨pa,pc,rfl,hpr⟩,hb3⟩;have HB3:=Ht HB2 hb3;obtain⟨x0,x1,x2,x3,x4⟩:=HNd.out w3 HB3.out;have HPr:=Hd hpr;clear hb3))
 go_ret;exact zaq HFin.out (HB0.out.trans (HB3.out.mono HB0.out.size))
theorem znU (f:FnU)(vp vb:Value)(l:Option Addr)(lc:Nat)(L:List Sr)(mv:List Value)(w:World)(hF:IsFnU w.heap.size w f vp vb)(hS:IsSrs w.heap.size w l L mv)(hcap:L.length≤lc)(hcm:lc≤maxLen)(hn:isNameB f.name=true)(ha:¬f.at_<0)(ha2:¬65536<f.at_)(he:f.type≠⟨#[]⟩)(h0:0<f.type.size)(hf:(((f.type[0].toNat:Nat):Int) != 102)=false){ps:List Ty}{r:Ty}(hs:tyS f.type=some (.fn ps r))(hc:checkN L f.type=0)(hl:ps.length=f.params.length) :
 Calls Tryz.prog 39 #[fnUV f vp vb,.slice l L.length lc] w (zav (funcE L f) w):=by
 have hh:zdu L f=true:=by unfold zdu;rw[hn,decide_eq_true hc,decide_eq_true (by omega)];rfl
 have HPm:=Hd (fun (i:Nat) (hi:i<f.params.length) (hi2:i<ps.length) hk hp=>zix hs hh hl hi hi2 hk hp);have HAll:=Hd (fun hk=>zkK hs hh hl hk);have HVr:=Hd (fun (i:Nat) (hi:i<f.params.length)=>zmt hF.params hi);generalize hfe:funcE L f=fe at *;clear hfe hh;obtain⟨ap,cp,rfl,hsp,hsl,hvo⟩:=hF.params;obtain⟨ab,cb,rfl,hsb,hbn,hbk⟩:=hF.body;have HNm:=Hd (fun w=>zaH true f.name w hn);obtain⟨fat,fname,ftype,fparams,fbody⟩:=f;simp only[fnUV]at *
 go_enter Tryz.func39,Tryz.ntmps39
 go_upto_region 1 with fail
 generalize hgQ:w.alloc (.cells #[.int .i64 fat,.string fname,.string ftype,.slice ap fparams.length cp,.slice ab fbody.length cb] 45)=w0 at *;obtain⟨hx0,hb0⟩:=box0 hgQ;clear hgQ;have HNd:=Hd (fun w' (h:Below w0.heap.size w0 w')=>(zad ((h.block _ (zaa hx0)).trans hx0)).1);have HB0:=Hd hb0;have HSx:=Hd (fun w' (h:Below w0.heap.size w0 w')=>(hS.below (hb0.trans (h.mono hb0.size))).mono (hb0.trans (h.mono hb0.size)).size);obtain⟨x0,x1,x2,x3,x4⟩:=HNd.out w0 (zv3 _ _);have HSg:=Hd (fun w=>zh0 (w:=w) hs);have HCk:=Hd (fun w' (h:Below w0.heap.size w0 w')=>zc4 0 ftype l lc L mv w' (HSx.out w' h) hcap hcm hc);have HTc:=Hd (fun w' (h:Below w0.heap.size w0 w')=>zcT ab cb fbody w' ((hbn.below (hb0.trans (h.mono hb0.size)) (zv0 _)).mono (hb0.trans (h.mono hb0.size)).size) hbk hsb.1);have HBn:=Hd (fun w' (h:Below w0.heap.size w0 w')=>hbn.below (hb0.trans (h.mono hb0.size)) (zv0 _));have hpl:(fparams.length:Int)≤140737488351232:=by have:=hsp.1;omega
 have hbl:(fbody.length:Int)≤140737488351232:=by have:=hsb.1;omega
 have t5:((ps.length:Int) != (fparams.length:Int))=false:=by simp;omega
 have HLn:=Hd hl;have hpl2:(ps.length:Int)≤140737488351232:=by omega
 have t1:decide (fat<0)=false:=by simpa using ha
 have t2:decide (65536<fat)=false:=by simpa using ha2
 have t3:(ftype.toList == [])=false:=by exact za2 (fun e=>he (zaT e))
 clear hF hS hcap hcm hx0 hb0 ha ha2 hs hc hn he hsl hvo hsp hbn hbk hsb hl
 go_upto_region 5 with (first
  | (go_at_call 58;(with_reducible refine(HNm.out _).mono ?_);rintro e w1 ⟨rfl,hb1⟩;have HB1:=Hd (hb1);obtain⟨x0,x1,x2,x3,x4⟩:=HNd.out w1 HB1.out;have HC1:=Hd (HCk.out w1 HB1.out);clear hb1)
  | (go_at_call 60;(with_reducible refine HC1.out.mono ?_);rintro e w2 ⟨rfl,hb2⟩;have HB2:=Ht HB1 hb2;obtain⟨x0,x1,x2,x3,x4⟩:=HNd.out w2 HB2.out;clear hb2)
  | (go_at_call 62;(with_reducible refine(HSg.out _).mono ?_);rintro e w3 ⟨⟨pa,pc,rfl,hpr⟩,hb3⟩;have HB3:=Ht HB2 hb3;obtain⟨x0,x1,x2,x3,x4⟩:=HNd.out w3 HB3.out;have HPr:=Hd hpr;clear hb3))
 go_wp2_with fail
 go_loopg [8] ps.length (fun m v8 wy=>∃(i:Nat),i≤ps.length∧i+m=ps.length∧v8=.int .i64 (i:Int)∧Hid (Below w0.heap.size w0 wy)∧Hid (Below w3.heap.size w3 wy)∧Hid (FitP ⟨fat,fname,ftype,fparams,fbody⟩ ps i))
 case atStart=>exact⟨0,by omega,by omega,rfl,HB3,Hd (zv3 _ _),Hd (fun j _ _ h=>by omega)⟩
 case round=>
  obtain⟨i,hi,him,rfl,HB,HB1r,HK⟩:=hrel;obtain⟨x0,x1,x2,x3,x4⟩:=HNd.out wr HB.out
  by_cases hi2:i<ps.length
  ·have hlt:i<fparams.length:=by have:=HLn.out;omega
   obtain⟨b,off,cq,hsq,hblt,_,p0,p1,p2⟩:=HVr.out i hlt;obtain⟨rfl,rfl⟩:ap=some ⟨b,off,none⟩∧cp=cq:=by simpa using hsq
   have hwb:=HB0.out.trans (HB.out.mono HB0.out.size);rw[← hwb.cell hblt]at p0 p1 p2;obtain⟨g,rfl,hg,pt⟩:=HPr.out i hi2;have HTy:=Hd (fun w' (h:Below w3.heap.size w3 w')=>(h.cell (p:=⟨g,i,none⟩) hg).trans pt);have HPm1:=Hd (fun hp=>HPm.out i hlt hi2 HK.out hp);have HNx:=Hd (fun h0=>HK.out.next hlt hi2 h0);have hpv:=fun te nm e0=>zia (decide (fbody≠[])) (fparams[i]'hlt) (ps[i]'hi2) te nm e0
   have HN6:=Hd (fun w'=>zbI (fparams[i]'hlt).name w');generalize fparams[i]'hlt=p at *;generalize ps[i]'hi2=ty at *;obtain⟨pn,pt',vo⟩:=p;simp only at *;clear pt hsq
   go_upto_region 10 with fail
   have hy:=(show (wr.alloc (.cells #[.string pn,.string pt',.bool vo] 50)).heap[wr.heap.size]?=some (.cells #[.string pn,.string pt',.bool vo] 50 (0,0)) from zv8 _ _)
   have hba:=ba1 wr (.cells #[.string pn,.string pt',.bool vo] 50);generalize wr.alloc (.cells #[.string pn,.string pt',.bool vo] 50)=wa at *;have HPc:=Hd (fun w' (h:Below wa.heap.size wa w')=>(zac ((h.block _ (zaa hy)).trans hy)).1);have HBa:=Ht HB hba;have HBa1:=Ht HB1r hba;obtain⟨x0,x1,x2,x3,x4⟩:=HNd.out wa HBa.out;obtain⟨y0,y1,y2⟩:=HPc.out wa (zv3 _ _);have c6:=HTy.out wa HBa1.out;clear hy hba p0 p1 p2;have ge0:(pn.toList == [])=decide (pn=⟨#[]⟩):=by
    by_cases h:pn=⟨#[]⟩
    ·rw[decide_eq_true h,h];exact zbl rfl rfl
    ·rw[decide_eq_false h];exact za2 (fun e=>h (zaT e))
   have gte:(pt'.toList == (tyB ty).toList)=decide (pt'=tyB ty):=zbD;rcases hnm:isNameB pn with _|_<;>rcases he0:decide (pn=⟨#[]⟩) with _|_<;>rcases hte:decide (pt'=tyB ty) with _|_<;>rcases vo with _|_<;>rcases hbd:((fbody.length:Int) == 0) with _|_
   all_goals
    have hv:=hpv _ _ _ hte hnm he0;rw[zru hbd]at hv HPm1 HNx;rw[hnm]at HN6;rw[he0]at ge0;rw[hte]at gte;have gne:(pn.toList != [])=!(pn.toList == []):=rfl;rw[ge0]at gne;have gtn:(pt'.toList != (tyB ty).toList)=!(pt'.toList == (tyB ty).toList):=rfl;rw[gte]at gtn;have hbd2:decide (0<(fbody.length:Int))=!((fbody.length:Int) == 0):=zku _;have hbd3:decide (0<fbody.length)=!((fbody.length:Int) == 0):=zqp _;rw[hbd]at hbd2 hbd3;simp only[Bool.not_true,Bool.not_false]at gne gtn hbd2 hbd3
    first
     | (have hbad:=HPm1.out (fun e=>absurd (show (90:Int)=0 from hv.symm.trans e) (by decide))
        have HFin:=Hd hbad;clear hpv hv hbad hte hnm he0;have k0:=cell_regrown y0;have k1:=cell_regrown y1;have k2:=cell_regrown y2;have k3:=cell_regrown x4;have k4:=cell_regrown c6;have HNq:=Hd (fun d os=>Calls.regrown_of (HN6.out (grow (redrawn wa d) os)));refine wp_region_quiet_below (by kernel_rfl) (by kernel_rfl) ?_
        repeat (go_big_quiet_step (exact HNq.out _ _))
        refine wpQuiet_nil ?_;intro _ hw';obtain⟨⟨dq,osq⟩,hw''⟩:=hw';subst hw'';have HB8:=Hd (HBa.out.trans ((below_regrown wa dq osq).mono HBa.out.size));have HB18:=Hd (HBa1.out.trans ((below_regrown wa dq osq).mono HBa1.out.size))
        go_wp2_with fail
        go_ret
        exact zaq HFin.out (HB0.out.trans (HB8.out.mono HB0.out.size)))
     | (have HN7:=Hd (HNx.out (hv.trans rfl))
        clear hpv hv hte hnm he0;have k0:=cell_regrown y0;have k1:=cell_regrown y1;have k2:=cell_regrown y2;have k3:=cell_regrown x4;have k4:=cell_regrown c6;have HNq:=Hd (fun d os=>Calls.regrown_of (HN6.out (grow (redrawn wa d) os)));refine wp_region_quiet_below (by kernel_rfl) (by kernel_rfl) ?_
        repeat (go_big_quiet_step (exact HNq.out _ _))
        refine wpQuiet_nil ?_;intro _ hw';obtain⟨⟨dq,osq⟩,hw''⟩:=hw';subst hw'';have HB8:=Hd (HBa.out.trans ((below_regrown wa dq osq).mono HBa.out.size));have HB18:=Hd (HBa1.out.trans ((below_regrown wa dq osq).mono HBa1.out.size))
        go_wp2_with fail
        go_roundg (ps.length-(i+1))
        case measure=>omega
        case rel=>exact⟨i+1,by omega,by omega,by rw[zv9];rfl,HB8,HB18,HN7⟩)
  ·obtain rfl:i=ps.length:=by omega
   have HFa:=Hd (HAll.out (HLn.out▸HK.out))
   by_cases h0:fbody=[]
   ·have t6:((fbody.length:Int) == 0)=true:=by rw[h0];rfl
    have HFin:=Hd (show fe=0 from by rw[HFa.out,h0];rfl);clear h0
    go_wp2_with fail
    go_ret;exact zaq HFin.out (HB0.out.trans (HB.out.mono HB0.out.size))
   ·have hpos:=zwc h0
    have t6:((fbody.length:Int) == 0)=false:=by simp;omega
    have HTr:=Hd (HTc.out wr HB.out)
    by_cases hck:checkN9 fbody=0
    ·rw[hck]at HTr
     have HFb:=Hd (show fe=if kindAt fbody (fbody.length-1)≠21 then 90 else 0 from by rw[HFa.out,znu h0 hck]);obtain⟨k,hk⟩:∃k,fbody.length=k+1:=⟨fbody.length-1,by omega⟩
     have hk1:(fbody.length:Int)-1=(k:Int):=by omega
     have hkl:k<fbody.length:=by omega
     have hkd:=za7 (zv1 hkl);have hk2:fbody.length-1=k:=by omega
     rw[hk2,hkd]at HFb;have HZ:=Hd (fun w' (h:Below w0.heap.size w0 w')=>zbg (HBn.out w' h) hkl);generalize fbody[k].kind=kk at *
     by_cases h21:kk=21
     ·have t7:(kk != 21)=false:=by simpa using h21
      have HFin:=Hd (show fe=0 from by rw[HFb.out,if_neg (by simp[h21])]);clear h0 hck hk hkd h21 hk2
      go_wp2_with (go_at_call 51;(with_reducible refine HTr.out.mono ?_);rintro e w7 ⟨rfl,hb7⟩;have HB7:=Ht HB hb7;obtain⟨x0,x1,x2,x3,x4⟩:=HNd.out w7 HB7.out;obtain⟨zb,zo,hz,_,z0,_⟩:=HZ.out w7 HB7.out;cases hz;clear hb7)
      go_ret;exact zaq HFin.out (HB0.out.trans (HB7.out.mono HB0.out.size))
     ·have t7:(kk != 21)=true:=by simpa using h21
      have HFin:=Hd (show fe=90 from by rw[HFb.out,if_pos h21]);clear h0 hck hk hkd h21 hk2
      go_wp2_with (go_at_call 51;(with_reducible refine HTr.out.mono ?_);rintro e w7 ⟨rfl,hb7⟩;have HB7:=Ht HB hb7;obtain⟨x0,x1,x2,x3,x4⟩:=HNd.out w7 HB7.out;obtain⟨zb,zo,hz,_,z0,_⟩:=HZ.out w7 HB7.out;cases hz;clear hb7)
      go_ret;exact zaq HFin.out (HB0.out.trans (HB7.out.mono HB0.out.size))
    ·have HFin:=Hd (show fe=checkN9 fbody from by rw[HFa.out,zkW h0 hck])
     have t7:(checkN9 fbody != 0)=true:=by simpa using hck
     clear h0 hck;generalize checkN9 fbody=cc at *
     go_wp2_with (go_at_call 51;(with_reducible refine HTr.out.mono ?_);rintro e w7 ⟨rfl,hb7⟩;have HB7:=Ht HB hb7;obtain⟨x0,x1,x2,x3,x4⟩:=HNd.out w7 HB7.out;clear hb7)
     go_ret;exact zaq HFin.out (HB0.out.trans (HB7.out.mono HB0.out.size))
theorem zsj (f:FnU)(vp vb:Value)(l:Option Addr)(lc:Nat)(L:List Sr)(mv:List Value)(w:World)(hF:IsFnU w.heap.size w f vp vb)(hS:IsSrs w.heap.size w l L mv)(hcap:L.length≤lc)(hcm:lc≤maxLen):Calls Tryz.prog 39 #[fnUV f vp vb,.slice l L.length lc] w (zav (funcE L f) w):=by
 rcases hn:isNameB f.name with _|_
 ·exact znT f vp vb l lc L mv w hF hS hcap hcm hn
 by_cases ha:f.at_<0
 ·exact zsk f vp vb l lc L mv w hF hS hcap hcm hn ha
 by_cases ha2:65536<f.at_
 ·exact zsl f vp vb l lc L mv w hF hS hcap hcm hn ha ha2
 by_cases he:f.type=⟨#[]⟩
 ·exact zls f vp vb l lc L mv w hF hS hcap hcm hn ha ha2 he
 have h0:0<f.type.size:=zr3 he;rcases hf:(((f.type[0].toNat:Nat):Int) != 102) with _|_
 ·by_cases hc:checkN L f.type=0
  ·obtain⟨ps,r,hs⟩:=ztq (zcf hc) h0 hf
   by_cases hl:ps.length=f.params.length
   ·exact znU f vp vb l lc L mv w hF hS hcap hcm hn ha ha2 he h0 hf hs hc hl
   ·exact zpC f vp vb l lc L mv w hF hS hcap hcm hn ha ha2 he h0 hf hs hc hl
  ·exact zlt f vp vb l lc L mv w hF hS hcap hcm hn ha ha2 he h0 hf hc
 ·exact zlr f vp vb l lc L mv w hF hS hcap hcm hn ha ha2 he h0 hf
end Go.Proofs.YtbbaooeioogijaaGreatDoor
