/- What a function uses of its file: the program. -/
import Derived.RangeFuncBox
import Derived.Test.YtbbaooeioogijaaGreatDoorMg16
namespace Go.Proofs.YtbbaooeioogijaaGreatDoor
open Go.RowKit Go.Shelf Go.Maps
set_option maxRecDepth 100000
set_option maxHeartbeats 16000000
attribute [local go_sem] Oper.semAt_some
def zfu (f:FnU)(o:List Bnd):List ByteArray:=zrL f.body ((zah f.body).getD []) o
def zmn (u:UnU)(n:ByteArray)(w:World)(e:Ending)(w':World):Prop:=Below w.heap.size w w'∧match zat u n with
 | .inl p=>e=.returned (.tuple #[.slice none 0 0,.agg #[.int .i64 p.1,.int .i64 p.2]])
 | .inr q=>∃v,e=.returned (.tuple #[v,.agg #[.int .i64 q.1.fault.1,.int .i64 q.1.fault.2]])∧w'.ownsRow w.heap.size 9 1 v (zfu q.2.1 q.1.out).length ((zfu q.2.1 q.1.out).map .string)
def zeB {t:List Nd}(o:List Bnd)(l:List (Elt t)):List ByteArray:=dedupL (zcN t o ((elts l).map Prod.fst)) []
theorem znJ {t:List Nd}(o:List Bnd)(l:List (Elt t))(x:Elt t):zeB o (l++[x])=if ((t.getD x.1.1 ndU0).kind=3∧zcp (o.getD x.1.1 bnd0)=true) then addL (zeB o l) (t.getD x.1.1 ndU0).text else zeB o l:=by
 unfold zeB;rw[zji,List.map_append];have e:zcN t o ((elts l).map Prod.fst++(elts [x]).map Prod.fst)=zcN t o ((elts l).map Prod.fst)++zcN t o [x.1.1]:=by
  unfold zcN;rw[List.filter_append,List.map_append]
  rfl
 rw[e,zdw];generalize dedupL (zcN t o ((elts l).map Prod.fst)) []=L;unfold zcN;rw[List.filter_cons]
 by_cases h:(t.getD x.1.1 ndU0).kind=3∧zcp (o.getD x.1.1 bnd0)=true
 ·rw[if_pos h,if_pos (by rw[Bool.and_eq_true,decide_eq_true_eq];exact h)]
  rfl
 ·rw[if_neg h,if_neg (by rw[Bool.and_eq_true,decide_eq_true_eq];exact h)]
  rfl
theorem zrN {t:List Nd}(o:List Bnd)(l:List (Elt t)):(zeB o l).length≤l.length:=by
 unfold zeB;have h1:=zhr (zcN t o ((elts l).map Prod.fst)) [];have h2:(zcN t o ((elts l).map Prod.fst)).length≤((elts l).map Prod.fst).length:=by
  unfold zcN;rw[List.length_map];exact List.length_filter_le ..
 rw[List.length_map,zni]at h2;simp only[List.length_nil,Nat.zero_add]at h1;omega
theorem zic {w:World}{b:Nat}{v:Value}{T:TypeId}(h:w.heap[b]?=some (.cells #[v] T (0,0))):w.cell? ⟨b,0,none⟩=some v∧w.frozen? ⟨b,0,none⟩=false:=by
 constructor<;>simp[World.cell?,World.frozen?,h]
structure UseAt (f:FnU)(r:ResN)(rb:Nat)(w2 W3:World)(ab:Option Addr)(cb:Nat)(B:Nat)(vp sv ov:Value):Prop where
 y0:W3.cell? ⟨w2.heap.size+1,0,none⟩=some (.int .i64 r.fault.1)
 y1:W3.cell? ⟨w2.heap.size+1,1,none⟩=some (.int .i64 0)
 yp:W3.heap[w2.heap.size]?=some (.cells #[.pointer (some ⟨rb,0,none⟩)] 84 (0,0))
 res:ResM B W3 rb f vp (.slice ab f.body.length cb) sv ov r
 below:Below w2.heap.size w2 W3
 nds:zaV B W3 ab f.body
 walk:Calls Tryz.prog 30 #[.slice ab f.body.length cb] W3 fun e w'=>(∃(bw:Nat) (fr:List Nat),e=.returned (.tuple #[.func (.func 48) #[] #[.pointer (some ⟨bw,0,none⟩)],.int .i64 0])∧zah f.body=some fr∧Given f.body fr∧zvW f.body fr W3.heap.size w' bw)∧Below W3.heap.size W3 w'
 size:W3.heap.size=w2.heap.size+2
theorem zvg {u:UnU}{n:ByteArray}{fs:FileN}{f:FnU}{r:ResN}{w2:World}{rb B:Nat}{vp vb sv ov:Value}(hE:TE w2)(hfile:za1 u=.inr fs)(hbody:zbn fs n=some f)(hBw:B≤w2.heap.size)(hR:ResM B w2 rb f vp vb sv ov r)(hF:IsFnU B w2 f vp vb) :
 ∃ab cb,vb=.slice ab f.body.length cb∧UseAt f r rb w2 ((w2.alloc (.cells #[.pointer (some ⟨rb,0,none⟩)] 84)).alloc (.cells #[.int .i64 r.fault.1,.int .i64 0] 32)) ab cb B vp sv ov:=by
 have hb3:=(ba1 w2 (.cells #[.pointer (some ⟨rb,0,none⟩)] 84)).alloc (ba1 w2 (.cells #[.pointer (some ⟨rb,0,none⟩)] 84)).size (.cells #[.int .i64 r.fault.1,.int .i64 0] 32);have hyy:=zv8 (w2.alloc (.cells #[.pointer (some ⟨rb,0,none⟩)] 84)) (.cells #[.int .i64 r.fault.1,.int .i64 0] 32);have hyp:=((ba1 (w2.alloc (.cells #[.pointer (some ⟨rb,0,none⟩)] 84)) (.cells #[.int .i64 r.fault.1,.int .i64 0] 32)).block _ (zaa (zv8 w2 (.cells #[.pointer (some ⟨rb,0,none⟩)] 84)))).trans (zv8 w2 (.cells #[.pointer (some ⟨rb,0,none⟩)] 84));have hsz:((w2.alloc (.cells #[.pointer (some ⟨rb,0,none⟩)] 84)).alloc (.cells #[.int .i64 r.fault.1,.int .i64 0] 32)).heap.size=w2.heap.size+2:=by simp
 rw[World.size_alloc]at hyy;generalize (w2.alloc (.cells #[.pointer (some ⟨rb,0,none⟩)] 84)).alloc (.cells #[.int .i64 r.fault.1,.int .i64 0] 32)=W3 at *;obtain⟨ab,cb,rfl,hob,hsb,hno⟩:=(hF.below (hb3.mono hBw) (zv0 _)).body;obtain⟨_,_,_,_,_,hget,_,hne⟩:=zdz (zeW hfile) hbody;have hck:=((zl6 (zfR hfile f (List.mem_of_getElem? hget)).2).2.resolve_left hne).1;obtain⟨⟨y0,y1⟩,_⟩:=zab hyy;exact⟨ab,cb,rfl,y0,y1,hyp,hR.below hb3,hb3,hsb,znM ab cb f.body W3 (hE.below hb3) (hsb.mono (zv6 hBw hb3.size)) hno hob.1 (fun e=>⟨List.eq_nil_of_length_eq_zero (hob.2.2.2 e).1,(hob.2.2.2 e).2⟩) hck,hsz⟩
theorem zjl {B:Nat}{w:World}{v:Value}{L:List ByteArray}(x:ByteArray)(h:w.ownsRow B 9 1 v L.length (L.map .string))(hl:L.length≤4096):Calls Tryz.prog 31 #[v,.string x] w fun e w'=>e=.returned (.bool (Lib.containsS L x))∧w'=w:=by
 obtain⟨a,c,rfl⟩:=zam h
 by_cases h0:L=[]
 ·subst h0
  have:=Tryz.slices_Contains_string_empty a c x w;exact this
 ·have hlen:=zwc h0
  have hL:L.map Value.string=L.flatMap fun s=>[Value.string s]:=List.map_eq_flatMap
  rw[hL]at h;obtain⟨g,cap,e,_,_,_,_,hgc,_⟩:=zax (k:=1) (cells:=fun s=>[Value.string s]) (fun _=>rfl) h rfl (i:=0) hlen;obtain⟨rfl,_,rfl⟩:a=some ⟨g,0,none⟩∧L.length=L.length∧c=cap:=by simpa using e
  have:=Tryz.slices_Contains_string g 0 L.length c L x w (zv0 _) (by omega) (fun j hj=>by
   have:=zfb (k:=1) (cells:=fun s=>[Value.string s]) (fun _=>rfl) h (zv1 hj) (j:=0) rfl;rw[Nat.mul_one,Nat.add_zero]at this;rw[Nat.zero_add,this,zv2,zv1 hj]
   rfl)
  rw[List.take_length]at this;exact this
theorem zey {bn:Nat}{W w1:World}{tmp:Obj}{v v':Value}{T:TypeId}(hv:Boxed W bn T v)(hv':Boxed (w1.setCell ⟨bn,0,none⟩ v') bn T v')(hg:(W.alloc tmp).grownBy w1 v.ownBlock)(hat:∀g,v'.ownBlock=some g→v.ownBlock=some g∨g=(W.alloc tmp).heap.size)(hlt:∀g,v'.ownBlock=some g→g<w1.heap.size):KeepR bn W (w1.setCell ⟨bn,0,none⟩ v'):=by
 have hsz:=hg.size;have hb:=hv.lt;have hr:rowB bn W=v.ownBlock:=by unfold rowB;rw[hv.cell];rfl
 have hr':rowB bn (w1.setCell ⟨bn,0,none⟩ v')=v'.ownBlock:=by unfold rowB;rw[hv'.cell];rfl
 rw[World.size_alloc]at hsz;refine⟨hg.os,hg.tape,hg.output,by simp;omega,fun ho=>⟨⟨by rw[hv'.cell];rfl,fun g e=>?_⟩,fun k o hk hrk ho2 _=>?_,fun g e=>?_⟩⟩
 ·rw[hr']at e
  have h2:=hlt g e;refine⟨?_,by simpa using h2⟩;rcases hat g e with h1|h1
  ·exact(ho.2 g (by rw[hr];exact h1)).1
  ·rw[World.size_alloc]at h1;omega
 ·have hlk:=zaa ho2
  rw[Below.heap_setCell _ _ _ _ (show k≠bn from hk),hg.block k (by simp;omega) (fun e=>hrk (by rw[hr,e]))];rw[Below.heap_alloc _ _ _ hlk];exact ho2
 ·rw[hr']at e
  rw[hr];rcases hat g e with h1|h1
  ·exact .inl h1
  ·exact .inr (by rw[h1,World.size_alloc];omega)
theorem ztc (fs:FileN)(f:FnU):(goneR fs f).out.length=f.body.length:=by
 unfold goneR;simp only;rw[(zqH _ _ _ _ _).2.2.2.1,(zdZ _ _ _ _).2.1];simp
theorem zpc (u:UnU)(vs vg vf:Value)(n:ByteArray)(w:World)(hE:TE w)(hU:IsUn w.heap.size w u vs vg vf)(hn:n.size≤maxLen) :
 Calls Tryz.prog 18 #[.agg #[vs,vg,vf],.string n] w (zmn u n w):=by
 have hdd:∀k:Nat,(Fence.wide.depth.isSome=true→1≤k):=fun k h=>by cases h
 obtain⟨sa,sc,mv,rfl,_⟩:=hU.structs;obtain⟨ag,cg,rfl,_⟩:=zbc hU.globals;obtain⟨af,cf,rfl,_⟩:=zbd hU.funcs;have HE:=Hd hE;have hb1:=(ba1 w (.cells #[.slice sa u.structs.length sc,.slice ag u.globals.length cg,.slice af u.funcs.length cf] 26)).alloc (ba1 w (.cells #[.slice sa u.structs.length sc,.slice ag u.globals.length cg,.slice af u.funcs.length cf] 26)).size (.cells #[.int .i64 0,.int .i64 0] 32);have hxq:((w.alloc (.cells #[.slice sa u.structs.length sc,.slice ag u.globals.length cg,.slice af u.funcs.length cf] 26)).alloc (.cells #[.int .i64 0,.int .i64 0] 32)).heap[w.heap.size]?=some (.cells #[.slice sa u.structs.length sc,.slice ag u.globals.length cg,.slice af u.funcs.length cf] 26 (0,0)):=((ba1 _ _).block _ (zaa (zv8 w _))).trans (zv8 w _);have hxr:((w.alloc (.cells #[.slice sa u.structs.length sc,.slice ag u.globals.length cg,.slice af u.funcs.length cf] 26)).alloc (.cells #[.int .i64 0,.int .i64 0] 32)).heap[w.heap.size+1]?=some (.cells #[.int .i64 0,.int .i64 0] 32 (0,0)):=by
  have:=zv8 (w.alloc (.cells #[.slice sa u.structs.length sc,.slice ag u.globals.length cg,.slice af u.funcs.length cf] 26)) (.cells #[.int .i64 0,.int .i64 0] 32);simpa using this
 obtain⟨w1,hw1⟩:∃w1,w1=(w.alloc (.cells #[.slice sa u.structs.length sc,.slice ag u.globals.length cg,.slice af u.funcs.length cf] 26)).alloc (.cells #[.int .i64 0,.int .i64 0] 32):=⟨_,rfl⟩
 have HRs:=Hd ((ze5 u _ _ _ n w1 (by rw[hw1];exact hE.below hb1) (by rw[hw1];exact hU.go hb1) hn).mono fun e w' h=>zhZ h);rw[hw1]at HRs;clear hw1 w1;obtain⟨⟨q0,q1,q2⟩,_⟩:=zac hxq;have HB1:=Hd hb1;have HR:=Hd (fun w' (h:Below ((w.alloc (.cells #[.slice sa u.structs.length sc,.slice ag u.globals.length cg,.slice af u.funcs.length cf] 26)).alloc (.cells #[.int .i64 0,.int .i64 0] 32)).heap.size ((w.alloc (.cells #[.slice sa u.structs.length sc,.slice ag u.globals.length cg,.slice af u.funcs.length cf] 26)).alloc (.cells #[.int .i64 0,.int .i64 0] 32)) w')=>zab ((h.block _ (zaa hxr)).trans hxr));have HX:=Hd hxr;clear hxq hxr hU hE hb1;refine(callsIn_wide (n:=3)).1 ?_;refine callsIn_of_wp_marks Tryz.func18 rfl trivial ?_ rfl;simp only[Tryz.ntmps18,List.size_toArray,List.length_cons,List.length_nil,Nat.reduceAdd,Nat.reduceSub,Array.replicate_succ,Array.replicate_zero,List.push_toArray,List.append_toArray,List.nil_append,List.cons_append]
 gi_wp2_with ((first|refine⟨trivial,hdd _,?_⟩|refine⟨trivial,?_⟩);(first
  | (gi_at_call 28;refine(callsIn_wide.2 HRs.out).mono ?_;rintro e w2 ⟨hb2,⟨a,b,p,rfl,hp,hres⟩|⟨rb,b,f,fs,B,vp,vb,sv,ov,rfl,hp,hres,hfile,hbody,hwB,hBw,hRM,hFn⟩⟩<;>first
      | (have HP:=Hd (show zat u n=.inl p from hres)
         have t1:(p.2 != 0)=true:=by simpa using hp
         have HB2:=Hd ((hb2.alloc hb2.size (.cells #[.pointer a] 84)).alloc (hb2.alloc hb2.size (.cells #[.pointer a] 84)).size (.cells #[.int .i64 p.1,.int .i64 p.2] 32));obtain⟨⟨d0,d1⟩,fd⟩:=HR.out _ HB2.out;have fd0:=fd 0;have fd1:=fd 1;have hyy:=zab (zv8 (w2.alloc (.cells #[.pointer a] 84)) (.cells #[.int .i64 p.1,.int .i64 p.2] 32));rw[World.size_alloc]at hyy;obtain⟨⟨y0,y1⟩,_⟩:=hyy
         clear hb2 hp hres fd q0 q1 q2)
      | (have HP:=Hd hres
         have HB2:=Hd hb2;obtain⟨ab,cb,rfl,hua⟩:=zvg (HE.out.below (HB1.out.trans (hb2.mono HB1.out.size))) hfile hbody hBw hRM hFn;have HUa:=Hd hua;have y0:=hua.y0;have y1:=hua.y1;obtain⟨yp,_⟩:=zic hua.yp;obtain⟨⟨k0,k1,k2,k3,k4,k5,k6,k7,k8⟩,_⟩:=zao hua.res.blk;have HWk:=Hd hua.walk;have HH:=Hd hp
         clear hb2 hp hres hRM hFn k0 k1 k2 k3 k5 k6 k7 k8 q0 q1 q2 hua))
  | (gi_at_call 30;refine(callsIn_wide.2 HWk.out).mono ?_;rintro e W4 ⟨⟨bw,fr,rfl,hbe,hG,hS⟩,hb4⟩;have HBe:=Hd hbe;have HG:=Hd hG;have HS:=Hd hS;have HB4:=Hd hb4;clear hbe hG hS hb4)))
 ·have hmx:Tryz.prog.follows .mixedOrders=true:=by kernel_rfl
  generalize (w2.alloc (.cells #[.pointer a] 84)).alloc (.cells #[.int .i64 p.1,.int .i64 p.2] 32)=W3 at *
  gi_region_o
  all_goals gi_wp2
  all_goals
   refine⟨.tuple #[.slice none 0 0,.agg #[.int .i64 p.1,.int .i64 p.2]],by simp[results,Tryz.results18,go_sem,d0,d1],?_⟩;exact⟨Below.drew (Below.setCell (Below.setCell (HB1.out.trans (HB2.out.mono HB1.out.size)) (Nat.le_succ _) _) (Nat.le_succ _) _),by rw[HP.out]⟩
 ·have HGl:=Hd (ztc fs f)
  generalize goneR fs f=R0 at *;have hb5:=ba1 W4 (.cells #[.slice none 0 0] 29);have hx5:Boxed (W4.alloc (.cells #[.slice none 0 0] 29)) W4.heap.size 29 (.slice none 0 0):=zv8 W4 _;have hz5:(W4.alloc (.cells #[.slice none 0 0] 29)).heap.size=W4.heap.size+1:=by simp
  generalize W4.alloc (.cells #[.slice none 0 0] 29)=W5 at *;replace hz5:=Nat.le_of_eq hz5.symm;have hb25:=HUa.out.below.trans ((HB4.out.trans (hb5.mono HB4.out.size)).mono HUa.out.below.size);have hz3:=HUa.out.size;have HUse:=Hd (show zfu f R0.out=dedupL (zcN f.body R0.out ((zaz f.body fr).map Prod.fst)) [] by unfold zfu zrL zaz;rw[HBe.out,Option.getD_some]);obtain⟨a2,c2,b2,cb2,hbw,hbx,hI2,hF2,_,_⟩:=HS.out;have hbx5:=(hb5.block _ (zaa hbx)).trans hbx;obtain⟨⟨z0,z1⟩,_⟩:=zab hbx5;have hro:RowOk W4.heap.size W5:=⟨by rw[hx5.cell];rfl,fun g e=>by unfold rowB at e;rw[hx5.cell]at e;cases e⟩
  have hst:=zjE a2 c2 f.body b2 cb2 fr HG.out W4.heap.size bw (3-1) W5 (zaa hbx5) (by omega) z0 z1 (hI2.below hb5 (zv0 _)) (hF2.below hb5 (zv0 _)) hro
  have HN:=Hd (show (zaz f.body fr).length≤4096 by
   have h1:=zdM HBe.out (f.body.length) (f.body.length-1) 1 (by have:=HG.out.formed.pos;omega) (by have:=HG.out.formed.pos;omega);unfold zaz;have:=HG.out.le
   omega)
  clear y0 y1 yp k4 z0 z1 hbx hbx5 hI2 hF2;generalize (w2.alloc (.cells #[.pointer (some ⟨rb,0,none⟩)] 84)).alloc (.cells #[.int .i64 R0.fault.1,.int .i64 0] 32)=W3 at *;replace hz3:=Nat.le_of_eq hz3.symm;have hz34:=HB4.out.size;apply wpIn_rangeFunc_ownF (n:=3) rfl (by decide) (gf:=48) (lb:=#[.pointer (some ⟨bw,0,none⟩)]) rfl trivial (enters_of Tryz.func48 (by kernel_rfl) rfl) hst zuz zuA (zv3 _ _) (fun _=>rfl)
   (fun pre W=>(∃v,Boxed W W4.heap.size 29 v∧W.ownsRow W4.heap.size 9 1 v (zeB R0.out pre).length ((zeB R0.out pre).map .string)∧True)∧Below W4.heap.size W5 W)
   (fun _ _ _=>False)
   (OwnFrom.and (Own.from (holdsRow_own W4.heap.size W4.heap.size 29 9 1 (fun pre=>(zeB R0.out pre).length) (fun pre=>(zeB R0.out pre).map .string) (fun _ _=>True)) _) (ownFrom_below (by omega) (by omega)))
   (fun _ _ _ _ _ hs _ _=>hs)
   ⟨⟨_,hx5,World.ownsRow_nil _ _ _ _,trivial⟩,zv3 _ _⟩
  case hassign=>
   intro l x W K hK
   dsimp only[eltV]
   gi_wp2
   exact hK
  case hbody=>
   rintro l pre x W ⟨⟨v,hv,hr,_⟩,hb⟩ hlen;have hmx:Tryz.prog.follows .mixedOrders=true:=by kernel_rfl
   obtain⟨⟨p,dp⟩,hat⟩:=x;have HSn:=Hd (znJ R0.out pre (⟨(p,dp),hat⟩:Elt f.body));simp only at hat;have hpl:p<R0.out.length:=by rw[HGl.out];exact hat
   have hb3W:Below W3.heap.size W3 W:=HB4.out.trans ((hb5.trans hb).mono HB4.out.size);have hRW:=HUa.out.res.below hb3W;obtain⟨⟨k0,k1,k2,k3,k4,k5,k6,k7,k8⟩,_⟩:=zao hRW.blk;have yp:=(zic ((hb3W.block _ (by omega)).trans HUa.out.yp)).1;obtain⟨g,cap,rfl,_,_,_,_,hgc,_⟩:=zax zeZ hRW.out rfl hpl;have hoD:R0.out.getD p bnd0=R0.out[p]:=by rw[zv2,zv1 hpl];rfl
   have htD:f.body.getD p ndU0=f.body[p]:=by rw[zv2,zv1 hat];rfl
   rw[show (⟨(p,dp),hat⟩:Elt f.body).1.1=p from rfl,hoD,htD]at HSn;obtain⟨ba,off,ha,hbl,x0,x1,x2,x3,x4,x5⟩:=zbg (HUa.out.nds.below (hb3W.mono (zv0 _)) (zv6 hBw (by omega))) hat;subst ha;have c0:=hgc 0 _ rfl;have c1:=hgc 1 _ rfl;have c2:=hgc 2 _ rfl;rw[Nat.add_zero]at c0;generalize f.body[p]=xn at *;generalize R0.out[p]=bd at *;have hp1:(p:Int)<(f.body.length:Int):=by omega
   have hp2:(p:Int)<(R0.out.length:Int):=by omega
   have hp0:(0:Int)≤(p:Int):=by omega
   have hW1:ba<W.heap.size:=zea x0;have hW2:g<W.heap.size:=zea c0;have hW3:rb<W.heap.size:=zea k4;have hW4:w2.heap.size<W.heap.size:=zea yp;clear k0 k1 k2 k3 k5 k7 k8 hgc hoD htD x1 x2 x3 x5 hRW
   dsimp only
   gi_wp2
   have HS0:=Hd (show (fun w':World=>w'.cell? ⟨w2.heap.size,0,none⟩=some (.pointer (some ⟨rb,0,none⟩))∧w'.cell? ⟨rb,6,none⟩=some (.slice (some ⟨g,0,none⟩) R0.out.length cap)∧w'.cell? ⟨g,p*3,none⟩=some (.int .i64 bd.kind)∧w'.cell? ⟨g,p*3+1,none⟩=some (.int .i64 bd.idx)∧w'.cell? ⟨g,p*3+2,none⟩=some (.string bd.type)∧w'.cell? ⟨rb,4,none⟩=some (.slice (some ⟨ba,off,none⟩) f.body.length cb)∧w'.cell? ⟨ba,off+p*6+4,none⟩=some (.string xn.text)) W.drew from ⟨yp,k6,c0,c1,c2,k4,x4⟩);refine zfr hmx (by kernel_rfl) ?_;refine zec (S:=fun w':World=>w'.cell? ⟨w2.heap.size,0,none⟩=some (.pointer (some ⟨rb,0,none⟩))∧w'.cell? ⟨rb,6,none⟩=some (.slice (some ⟨g,0,none⟩) R0.out.length cap)∧w'.cell? ⟨g,p*3,none⟩=some (.int .i64 bd.kind)∧w'.cell? ⟨g,p*3+1,none⟩=some (.int .i64 bd.idx)∧w'.cell? ⟨g,p*3+2,none⟩=some (.string bd.type)∧w'.cell? ⟨rb,4,none⟩=some (.slice (some ⟨ba,off,none⟩) f.body.length cb)∧w'.cell? ⟨ba,off+p*6+4,none⟩=some (.string xn.text)) (T:=([]:List Nat).contains) _ _ _ _ ?_
   -- TAKES
   refine zag (l:=[]) (i:=0) (v:=.pointer (some ⟨rb,0,none⟩)) rfl (by kernel_rfl) (by kernel_rfl) (by kernel_rfl) (by kernel_rfl) (by kernel_rfl) (fun _ _ _ h=>h) HS0.out (Or.inl ⟨by rfl,?_⟩) ?_
   ·intro wz hS
    have s0:=hS.1;have s1:=hS.2.1;have s2:=hS.2.2.1;have s3:=hS.2.2.2.1;have s4:=hS.2.2.2.2.1;have s5:=hS.2.2.2.2.2.1;have s6:=hS.2.2.2.2.2.2;clear hS
    go_simp
    exact⟨rfl,rfl⟩
   refine zag (l:=[]) (i:=1) (v:=.pointer (some ⟨rb,0,none⟩)) rfl (by kernel_rfl) (by kernel_rfl) (by kernel_rfl) (by kernel_rfl) (by kernel_rfl) (fun _ _ _ h=>h) HS0.out (Or.inl ⟨by rfl,?_⟩) ?_
   ·intro wz hS
    have s0:=hS.1;have s1:=hS.2.1;have s2:=hS.2.2.1;have s3:=hS.2.2.2.1;have s4:=hS.2.2.2.2.1;have s5:=hS.2.2.2.2.2.1;have s6:=hS.2.2.2.2.2.2;clear hS
    go_simp
    exact⟨rfl,rfl⟩
   refine zag (l:=[]) (i:=2) (v:=.pointer (some ⟨rb,6,none⟩)) rfl (by kernel_rfl) (by kernel_rfl) (by kernel_rfl) (by kernel_rfl) (by kernel_rfl) (fun _ _ _ h=>h) HS0.out (Or.inl ⟨by rfl,?_⟩) ?_
   ·intro wz hS
    have s0:=hS.1;have s1:=hS.2.1;have s2:=hS.2.2.1;have s3:=hS.2.2.2.1;have s4:=hS.2.2.2.2.1;have s5:=hS.2.2.2.2.2.1;have s6:=hS.2.2.2.2.2.2;clear hS
    go_simp
    exact⟨rfl,rfl⟩
   refine zag (l:=[]) (i:=3) (v:=.slice (some ⟨g,0,none⟩) R0.out.length cap) rfl (by kernel_rfl) (by kernel_rfl) (by kernel_rfl) (by kernel_rfl) (by kernel_rfl) (fun _ _ _ h=>h) HS0.out (Or.inl ⟨by rfl,?_⟩) ?_
   ·intro wz hS
    have s0:=hS.1;have s1:=hS.2.1;have s2:=hS.2.2.1;have s3:=hS.2.2.2.1;have s4:=hS.2.2.2.2.1;have s5:=hS.2.2.2.2.2.1;have s6:=hS.2.2.2.2.2.2;clear hS
    go_simp
    exact⟨rfl,rfl⟩
   refine zag (l:=[]) (i:=4) (v:=.int .i64 (p:Int)) rfl (by kernel_rfl) (by kernel_rfl) (by kernel_rfl) (by kernel_rfl) (by kernel_rfl) (fun _ _ _ h=>h) HS0.out (Or.inl ⟨by rfl,?_⟩) ?_
   ·intro wz hS
    have s0:=hS.1;have s1:=hS.2.1;have s2:=hS.2.2.1;have s3:=hS.2.2.2.1;have s4:=hS.2.2.2.2.1;have s5:=hS.2.2.2.2.2.1;have s6:=hS.2.2.2.2.2.2;clear hS
    go_simp
    exact⟨rfl,rfl⟩
   refine zag (l:=[]) (i:=5) (v:=.pointer (some ⟨g,p*3,none⟩)) rfl (by kernel_rfl) (by kernel_rfl) (by kernel_rfl) (by kernel_rfl) (by kernel_rfl) (fun _ _ _ h=>h) HS0.out (Or.inl ⟨by rfl,?_⟩) ?_
   ·intro wz hS
    have s0:=hS.1;have s1:=hS.2.1;have s2:=hS.2.2.1;have s3:=hS.2.2.2.1;have s4:=hS.2.2.2.2.1;have s5:=hS.2.2.2.2.2.1;have s6:=hS.2.2.2.2.2.2;clear hS
    go_simp
    exact⟨rfl,rfl⟩
   refine zag (l:=[]) (i:=6) (v:=.agg #[.int .i64 bd.kind,.int .i64 bd.idx,.string bd.type]) rfl (by kernel_rfl) (by kernel_rfl) (by kernel_rfl) (by kernel_rfl) (by kernel_rfl) (fun _ _ _ h=>h) HS0.out (Or.inl ⟨by rfl,?_⟩) ?_
   ·intro wz hS
    have s0:=hS.1;have s1:=hS.2.1;have s2:=hS.2.2.1;have s3:=hS.2.2.2.1;have s4:=hS.2.2.2.2.1;have s5:=hS.2.2.2.2.2.1;have s6:=hS.2.2.2.2.2.2;clear hS
    go_simp
    exact⟨rfl,rfl⟩
   refine zag (l:=[]) (i:=7) (v:=.pointer (some ⟨rb,0,none⟩)) rfl (by kernel_rfl) (by kernel_rfl) (by kernel_rfl) (by kernel_rfl) (by kernel_rfl) (fun _ _ _ h=>h) HS0.out (Or.inl ⟨by rfl,?_⟩) ?_
   ·intro wz hS
    have s0:=hS.1;have s1:=hS.2.1;have s2:=hS.2.2.1;have s3:=hS.2.2.2.1;have s4:=hS.2.2.2.2.1;have s5:=hS.2.2.2.2.2.1;have s6:=hS.2.2.2.2.2.2;clear hS
    go_simp
    exact⟨rfl,rfl⟩
   refine zag (l:=[]) (i:=8) (v:=.pointer (some ⟨rb,0,none⟩)) rfl (by kernel_rfl) (by kernel_rfl) (by kernel_rfl) (by kernel_rfl) (by kernel_rfl) (fun _ _ _ h=>h) HS0.out (Or.inl ⟨by rfl,?_⟩) ?_
   ·intro wz hS
    have s0:=hS.1;have s1:=hS.2.1;have s2:=hS.2.2.1;have s3:=hS.2.2.2.1;have s4:=hS.2.2.2.2.1;have s5:=hS.2.2.2.2.2.1;have s6:=hS.2.2.2.2.2.2;clear hS
    go_simp
    exact⟨rfl,rfl⟩
   refine zag (l:=[]) (i:=9) (v:=.pointer (some ⟨rb,0,none⟩)) rfl (by kernel_rfl) (by kernel_rfl) (by kernel_rfl) (by kernel_rfl) (by kernel_rfl) (fun _ _ _ h=>h) HS0.out (Or.inl ⟨by rfl,?_⟩) ?_
   ·intro wz hS
    have s0:=hS.1;have s1:=hS.2.1;have s2:=hS.2.2.1;have s3:=hS.2.2.2.1;have s4:=hS.2.2.2.2.1;have s5:=hS.2.2.2.2.2.1;have s6:=hS.2.2.2.2.2.2;clear hS
    go_simp
    exact⟨rfl,rfl⟩
   refine zag (l:=[]) (i:=10) (v:=.pointer (some ⟨rb,4,none⟩)) rfl (by kernel_rfl) (by kernel_rfl) (by kernel_rfl) (by kernel_rfl) (by kernel_rfl) (fun _ _ _ h=>h) HS0.out (Or.inl ⟨by rfl,?_⟩) ?_
   ·intro wz hS
    have s0:=hS.1;have s1:=hS.2.1;have s2:=hS.2.2.1;have s3:=hS.2.2.2.1;have s4:=hS.2.2.2.2.1;have s5:=hS.2.2.2.2.2.1;have s6:=hS.2.2.2.2.2.2;clear hS
    go_simp
    exact⟨rfl,rfl⟩
   refine zag (l:=[]) (i:=11) (v:=.slice (some ⟨ba,off,none⟩) f.body.length cb) rfl (by kernel_rfl) (by kernel_rfl) (by kernel_rfl) (by kernel_rfl) (by kernel_rfl) (fun _ _ _ h=>h) HS0.out (Or.inl ⟨by rfl,?_⟩) ?_
   ·intro wz hS
    have s0:=hS.1;have s1:=hS.2.1;have s2:=hS.2.2.1;have s3:=hS.2.2.2.1;have s4:=hS.2.2.2.2.1;have s5:=hS.2.2.2.2.2.1;have s6:=hS.2.2.2.2.2.2;clear hS
    go_simp
    exact⟨rfl,rfl⟩
   refine zag (l:=[]) (i:=12) (v:=.int .i64 (p:Int)) rfl (by kernel_rfl) (by kernel_rfl) (by kernel_rfl) (by kernel_rfl) (by kernel_rfl) (fun _ _ _ h=>h) HS0.out (Or.inl ⟨by rfl,?_⟩) ?_
   ·intro wz hS
    have s0:=hS.1;have s1:=hS.2.1;have s2:=hS.2.2.1;have s3:=hS.2.2.2.1;have s4:=hS.2.2.2.2.1;have s5:=hS.2.2.2.2.2.1;have s6:=hS.2.2.2.2.2.2;clear hS
    go_simp
    exact⟨rfl,rfl⟩
   refine zag (l:=[]) (i:=13) (v:=.pointer (some ⟨ba,off+p*6,none⟩)) rfl (by kernel_rfl) (by kernel_rfl) (by kernel_rfl) (by kernel_rfl) (by kernel_rfl) (fun _ _ _ h=>h) HS0.out (Or.inl ⟨by rfl,?_⟩) ?_
   ·intro wz hS
    have s0:=hS.1;have s1:=hS.2.1;have s2:=hS.2.2.1;have s3:=hS.2.2.2.1;have s4:=hS.2.2.2.2.1;have s5:=hS.2.2.2.2.2.1;have s6:=hS.2.2.2.2.2.2;clear hS
    go_simp
    exact⟨rfl,rfl⟩
   refine zag (l:=[]) (i:=14) (v:=.pointer (some ⟨ba,off+p*6+4,none⟩)) rfl (by kernel_rfl) (by kernel_rfl) (by kernel_rfl) (by kernel_rfl) (by kernel_rfl) (fun _ _ _ h=>h) HS0.out (Or.inl ⟨by rfl,?_⟩) ?_
   ·intro wz hS
    have s0:=hS.1;have s1:=hS.2.1;have s2:=hS.2.2.1;have s3:=hS.2.2.2.1;have s4:=hS.2.2.2.2.1;have s5:=hS.2.2.2.2.2.1;have s6:=hS.2.2.2.2.2.2;clear hS
    go_simp
    exact⟨rfl,rfl⟩
   refine zag (l:=[]) (i:=15) (v:=.string xn.text) rfl (by kernel_rfl) (by kernel_rfl) (by kernel_rfl) (by kernel_rfl) (by kernel_rfl) (fun _ _ _ h=>h) HS0.out (Or.inl ⟨by rfl,?_⟩) ?_
   ·intro wz hS
    have s0:=hS.1;have s1:=hS.2.1;have s2:=hS.2.2.1;have s3:=hS.2.2.2.1;have s4:=hS.2.2.2.2.1;have s5:=hS.2.2.2.2.2.1;have s6:=hS.2.2.2.2.2.2;clear hS
    go_simp
    exact⟨rfl,rfl⟩
   -- TAKEN
   have hba:=(ba1 W.drew (.cells #[.int .i64 0,.int .i64 0,.string ⟨#[]⟩] 78))
   have hxa:=zv8 W.drew (.cells #[.int .i64 0,.int .i64 0,.string ⟨#[]⟩] 78);have hS1:=And.intro ((hba.cell hW4).trans HS0.out.1) (And.intro ((hba.cell hW3).trans HS0.out.2.1) (And.intro ((hba.cell hW2).trans HS0.out.2.2.1) (And.intro ((hba.cell hW2).trans HS0.out.2.2.2.1) (And.intro ((hba.cell hW2).trans HS0.out.2.2.2.2.1) (And.intro ((hba.cell hW3).trans HS0.out.2.2.2.2.2.1) ((hba.cell hW1).trans HS0.out.2.2.2.2.2.2))))));refine zas (i:=16) (by kernel_rfl) ?_;refine zaw rfl (by rfl) (fun K' hK'=>?_)
   go_simp
   refine hK' _ _ hS1 ?_;refine zas (i:=17) (by kernel_rfl) ?_;refine zaw rfl (by rfl) (fun K' hK'=>?_)
   go_simp
   have hne:∀(k j:Nat),k<W.heap.size→(⟨k,j,none⟩:Addr).block≠W.heap.size:=fun k j h e=>by have:k=W.heap.size:=e;omega
   have hb2:=(ba1 W (.cells #[.int .i64 bd.kind,.int .i64 bd.idx,.string bd.type] 78)).drew;have hS2:=And.intro ((hb2.cell hW4).trans yp) (And.intro ((hb2.cell hW3).trans k6) (And.intro ((hb2.cell hW2).trans c0) (And.intro ((hb2.cell hW2).trans c1) (And.intro ((hb2.cell hW2).trans c2) (And.intro ((hb2.cell hW3).trans k4) ((hb2.cell hW1).trans x4))))));refine hK' _ _ hS2 ?_;refine zas (i:=18) (by kernel_rfl) ?_;refine zaw rfl (by rfl) (fun K' hK'=>?_)
   go_simp
   refine hK' _ _ hS2 ⟨by kernel_rfl,?_⟩;simp only[nrmQ];have hx0:=(hb2.cell hW1).trans x0;have z0:((W.alloc (.cells #[.int .i64 bd.kind,.int .i64 bd.idx,.string bd.type] 78)).drew).cell? ⟨W.heap.size,0,none⟩=some (.int .i64 bd.kind):=(zac (zv8 W (.cells #[.int .i64 bd.kind,.int .i64 bd.idx,.string bd.type] 78))).1.1;have hvb:Boxed (W.alloc (.cells #[.int .i64 bd.kind,.int .i64 bd.idx,.string bd.type] 78)).drew W4.heap.size 29 v:=hv.alloc _;have hrb:=hr.belowed hb2;have hko:KeepsOthers W (W.alloc (.cells #[.int .i64 bd.kind,.int .i64 bd.idx,.string bd.type] 78)).drew:=(KeepsOthers.alloc _ _).trans (KeepsOthers.drew _);have hkr:KeepR W4.heap.size W (W.alloc (.cells #[.int .i64 bd.kind,.int .i64 bd.idx,.string bd.type] 78)).drew:=KeepR.of_below hb2 hv.lt;have hbb:=hb2;have hS3:=hS2;clear hK' K' hS1 hS2 hba hxa hb2 hne HS0;obtain⟨Wb,hWb⟩:∃Wb,Wb=(W.alloc (.cells #[.int .i64 bd.kind,.int .i64 bd.idx,.string bd.type] 78)).drew:=⟨_,rfl⟩
   rw[← hWb]at hvb hrb hko hkr hbb hx0 z0 hS3 ⊢;clear hWb yp k6 c0 c1 c2 k4 x4 x0;have yp:=hS3.1;have k4:=hS3.2.2.2.2.2.1;have hnl:=HN.out;have hul:=zrN R0.out pre;have HCt:=Hd (fun (hl:(zeB R0.out pre).length≤4096)=>zjl xn.text hrb hl);have bx:=hvb.cell;have bf:=hvb.frozen;clear hS3
   by_cases h3:xn.kind=3
   ·by_cases hof:zcp bd=true
    ·have hkd:(bd.kind == 1)=true∨(bd.kind == 1)=false∧(bd.kind == 2)=true:=by
      unfold zcp at hof;rw[Bool.or_eq_true,decide_eq_true_eq,decide_eq_true_eq]at hof;rcases hof with h|h<;>simp[h]
     have t3:(xn.kind == 3)=true:=by simpa using h3
     by_cases hin:xn.text ∈ zeB R0.out pre
     ·have HIn:=Hd (show Lib.containsS (zeB R0.out pre) xn.text=true from (Lib.containsS_iff _ _).2 hin)
      have HC:=Hd (HCt.out (by omega));rw[HIn.out]at HC;rw[if_pos ⟨h3,hof⟩,addL,if_pos hin]at HSn;clear hin hof h3;rcases hkd with t1|⟨t1,t2⟩
      ·gi_wp2_with (refine⟨trivial,?_⟩;gi_at_call 31;refine(CallsIn.inRound l (callsIn_wide.2 HC.out)).mono ?_;rintro e w' ⟨rfl,hw'⟩;subst w')
       exact⟨hko,hkr,⟨v,hvb,by rw[HSn.out];exact hrb,trivial⟩,hb.trans (hbb.mono (by have:=hv.lt;omega))⟩
      ·gi_wp2_with (refine⟨trivial,?_⟩;gi_at_call 31;refine(CallsIn.inRound l (callsIn_wide.2 HC.out)).mono ?_;rintro e w' ⟨rfl,hw'⟩;subst w')
       exact⟨hko,hkr,⟨v,hvb,by rw[HSn.out];exact hrb,trivial⟩,hb.trans (hbb.mono (by have:=hv.lt;omega))⟩
     ·have HIn:=Hd (show Lib.containsS (zeB R0.out pre) xn.text=false by rw[← Bool.not_eq_true,Lib.containsS_iff];exact hin)
      have HC:=Hd (HCt.out (by omega));rw[HIn.out]at HC;rw[if_pos ⟨h3,hof⟩,addL,if_neg hin]at HSn;obtain⟨i0,hi,hz0,hz1,hz2⟩:=info_parts zgu;have HI0:=Hd (And.intro hi (And.intro hz0 (And.intro hz1 hz2)));have hbv:=hvb.lt;have hWb0:=hbb.size;have HRb:=Hd hrb;clear hin hof h3 hi hz0 hz1 hz2 hrb;rcases hkd with t1|⟨t1,t2⟩
      ·gi_wp2_with (first
        | (refine⟨trivial,?_⟩;gi_at_call 31;refine(CallsIn.inRound l (callsIn_wide.2 HC.out)).mono ?_;rintro e w' ⟨rfl,hw'⟩;subst w')
        | (gi_at_builtin;refine zcn _ rfl _ _ 29 rfl W4.heap.size 9 i0 (.string ⟨#[]⟩) 1 16 Tryz.underlying29 HI0.out.1 HI0.out.2.1 HI0.out.2.2.1 HI0.out.2.2.2 rfl (by decide) _ _ _ rfl (HRb.out.alloc _) ⟨Wb.heap.size,0,none⟩ 1 1 [.string xn.text] rfl rfl (World.news_of_block (cs:=#[.string xn.text]) (t:=9) (fr:=(0,0)) (zv8 Wb _)) (by simp[Value.oneCell']) (by decide) (by unfold maxLen;omega) (by omega) (by simp;omega) ?_;intro gg cpp w9 hown hgrow hat hlt9;obtain⟨bx1,bx2,bx3,bx4,bx5⟩:=Boxed.appended hvb (by decide) HRb.out (by omega) (zv0 _) hown hgrow;have bxc:=bx1.cell;have bxf:=bx1.frozen))
       exact⟨hko.trans bx4,hkr.trans (zey hvb bx2 hgrow (fun g' e=>hat.imp (fun h=>by have:=zv4 (show some gg=some g' from e);subst this;exact h) (fun h=>by have:=zv4 (show some gg=some g' from e);subst this;exact h)) (fun g' e=>by have:=zv4 (show some gg=some g' from e);subst this;exact hlt9)),⟨_,bx2,by rw[HSn.out];simpa using bx3,trivial⟩,hb.trans ((hbb.mono (by have:=hv.lt;omega)).trans bx5)⟩
      ·gi_wp2_with (first
        | (refine⟨trivial,?_⟩;gi_at_call 31;refine(CallsIn.inRound l (callsIn_wide.2 HC.out)).mono ?_;rintro e w' ⟨rfl,hw'⟩;subst w')
        | (gi_at_builtin;refine zcn _ rfl _ _ 29 rfl W4.heap.size 9 i0 (.string ⟨#[]⟩) 1 16 Tryz.underlying29 HI0.out.1 HI0.out.2.1 HI0.out.2.2.1 HI0.out.2.2.2 rfl (by decide) _ _ _ rfl (HRb.out.alloc _) ⟨Wb.heap.size,0,none⟩ 1 1 [.string xn.text] rfl rfl (World.news_of_block (cs:=#[.string xn.text]) (t:=9) (fr:=(0,0)) (zv8 Wb _)) (by simp[Value.oneCell']) (by decide) (by unfold maxLen;omega) (by omega) (by simp;omega) ?_;intro gg cpp w9 hown hgrow hat hlt9;obtain⟨bx1,bx2,bx3,bx4,bx5⟩:=Boxed.appended hvb (by decide) HRb.out (by omega) (zv0 _) hown hgrow;have bxc:=bx1.cell;have bxf:=bx1.frozen))
       exact⟨hko.trans bx4,hkr.trans (zey hvb bx2 hgrow (fun g' e=>hat.imp (fun h=>by have:=zv4 (show some gg=some g' from e);subst this;exact h) (fun h=>by have:=zv4 (show some gg=some g' from e);subst this;exact h)) (fun g' e=>by have:=zv4 (show some gg=some g' from e);subst this;exact hlt9)),⟨_,bx2,by rw[HSn.out];simpa using bx3,trivial⟩,hb.trans ((hbb.mono (by have:=hv.lt;omega)).trans bx5)⟩
    ·have t3:(xn.kind == 3)=true:=by simpa using h3
     have hof':bd.kind≠1∧bd.kind≠2:=by
      unfold zcp at hof;rw[Bool.or_eq_true,decide_eq_true_eq,decide_eq_true_eq]at hof;exact⟨fun h=>hof (.inl h),fun h=>hof (.inr h)⟩
     have t1:(bd.kind == 1)=false:=by simpa using hof'.1
     have t2:(bd.kind == 2)=false:=by simpa using hof'.2
     rw[if_neg (fun h=>hof h.2)]at HSn;clear hof' hof h3
     gi_wp2
     refine⟨trivial,?_⟩
     gi_wp2
     exact⟨hko,hkr,⟨v,hvb,by rw[HSn.out];exact hrb,trivial⟩,hb.trans (hbb.mono (by have:=hv.lt;omega))⟩
   ·have t3:(xn.kind == 3)=false:=by simpa using h3
    rw[if_neg (fun h=>h3 h.1)]at HSn
    gi_wp2
    refine⟨trivial,?_⟩
    gi_wp2
    exact⟨hko,hkr,⟨v,hvb,by rw[HSn.out];exact hrb,trivial⟩,hb.trans (hbb.mono (by have:=hv.lt;omega))⟩
  case hdone=>
   rintro D ys W hD hys ⟨⟨v,hv,hr,_⟩,hb⟩ hK;have hmx:Tryz.prog.follows .mixedOrders=true:=by kernel_rfl
   have hb3W:Below W3.heap.size W3 W:=HB4.out.trans ((hb5.trans hb).mono HB4.out.size);have hb2W:=HB2.out.trans ((HUa.out.below.trans (hb3W.mono HUa.out.below.size)).mono HB2.out.size);obtain⟨⟨d0,d1⟩,fd⟩:=HR.out _ hb2W;have fd0:=fd 0;have fd1:=fd 1;have y0:=(hb3W.cell (p:=⟨w2.heap.size+1,0,none⟩) (zea HUa.out.y0)).trans HUa.out.y0;have y1:=(hb3W.cell (p:=⟨w2.heap.size+1,1,none⟩) (zea HUa.out.y1)).trans HUa.out.y1;have hvc:=hv.cell;have hll:zeB R0.out ys=zfu f R0.out:=by rw[HUse.out,← hys];rfl
   rw[hll]at hr;obtain⟨av,cv,rfl⟩:=zam hr;have HRw:=Hd hr;have HBW:=Ht HB1 hb2W;have hlo:w.heap.size+1<W4.heap.size:=by have:=zaa HX.out;have:=HB2.out.size;omega
   clear hr hll hb2W hb3W fd hys
   gi_wp2
   gi_region_o
   all_goals gi_wp2
   all_goals
    have hK2:(((W.setCell ⟨w.heap.size+1,0,none⟩ (.int .i64 R0.fault.1)).setCell ⟨w.heap.size+1,1,none⟩ (.int .i64 0)).drew).heap[D]?=some (.deferred (some [])):=by
     have hne:D≠w.heap.size+1:=by omega
     show ((W.setCell ⟨w.heap.size+1,0,none⟩ (.int .i64 R0.fault.1)).setCell ⟨w.heap.size+1,1,none⟩ (.int .i64 0)).heap[D]?=_;rw[Below.heap_setCell _ _ _ _ hne,Below.heap_setCell _ _ _ _ hne];exact hK
    refine⟨by simp,.inl ⟨_,_,rfl,run_takeDeferred hK2,?_⟩⟩;have hcp:∀(o:Obj) (j:Nat),((((W.setCell ⟨w.heap.size+1,0,none⟩ (.int .i64 R0.fault.1)).setCell ⟨w.heap.size+1,1,none⟩ (.int .i64 0)).drew).putObj D o).cell? ⟨w.heap.size+1,j,none⟩=((W.setCell ⟨w.heap.size+1,0,none⟩ (.int .i64 R0.fault.1)).setCell ⟨w.heap.size+1,1,none⟩ (.int .i64 0)).cell? ⟨w.heap.size+1,j,none⟩:=fun o j=>World.cell?_of_block (a:=⟨w.heap.size+1,j,none⟩) (World.putObj_heap_other (by show w.heap.size+1≠D;omega))
    refine⟨.tuple #[.slice av (zfu f R0.out).length cv,.agg #[.int .i64 R0.fault.1,.int .i64 0]],by simp[results,Tryz.results18,go_sem,hcp,d0,d1],?_⟩;have hrs:=zai (zai HRw.out ⟨w.heap.size+1,0,none⟩ (.int .i64 R0.fault.1) (fun e=>by have:=(HRw.out.lt _ e).1;simp only at this;omega)) ⟨w.heap.size+1,1,none⟩ (.int .i64 0) (fun e=>by have:=(HRw.out.lt _ e).1;simp only at this;omega);have hrd:=hrs.belowed (zv3 _ _).drew;refine⟨((((HBW.out.setCell (p:=⟨w.heap.size+1,0,none⟩) (Nat.le_succ _) _).setCell (p:=⟨w.heap.size+1,1,none⟩) (Nat.le_succ _) _).drew).trans (belowK_b (w:=w) (zv0 _) _ D _ _ (by omega) hK2 rfl rfl)),?_⟩;rw[HP.out];refine⟨_,by rw[HH.out],za4 (ownsRow_putObj hrd _ hK2 rfl) (by omega) (fun _ _=>rfl)⟩
  case hstop=>
   rintro D c pre W _ _ h _;exact h.elim
end Go.Proofs.YtbbaooeioogijaaGreatDoor
