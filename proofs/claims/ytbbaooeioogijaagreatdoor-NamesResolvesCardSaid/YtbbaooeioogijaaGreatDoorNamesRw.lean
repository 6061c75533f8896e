/- Each name in any function stands for what the document says: -/
import Derived.Test.YtbbaooeioogijaaGreatDoorSameUn
namespace Go.Proofs.YtbbaooeioogijaaGreatDoor
open Go.RowKit Go.Maps
set_option maxRecDepth 100000
set_option maxHeartbeats 16000000
def slotsR (u:UnU)(n:ByteArray):List SlU:=match zat u n with
 | .inl _=>[]
 | .inr q=>q.1.slots
def outR (u:UnU)(n:ByteArray):List Bnd:=match zat u n with
 | .inl _=>[]
 | .inr q=>q.1.out
def fltR (u:UnU)(n:ByteArray):Int × Int:=match zat u n with
 | .inl p=>p
 | .inr q=>q.1.fault
def usesR (u:UnU)(n:ByteArray):List ByteArray:=match zat u n with
 | .inl _=>[]
 | .inr q=>zfu q.2.1 q.1.out
theorem zl4 {fs:FileN}{f:FnU}{w:WayN}(hb:(zah f.body).isSome=true)(h:goneX fs f=.inr w):w.slots.length≤256:=by
 unfold goneX at h;obtain⟨w1,h1,h2⟩:=zda h;obtain⟨_,_,_,h3⟩:=zg0 _ _ _ _ h1 (by show 0≤256;omega);obtain⟨fr,hfr⟩:=Option.isSome_iff_exists.1 hb;rw[hfr,Option.getD_some]at h2;exact(zqJ (zar hfr) _ _ _ _ h2).small h3
theorem zpF (u:UnU)(n:ByteArray):(slotsR u n).length≤256∧(outR u n).length≤4096∧(usesR u n).length≤4096:=by
 unfold slotsR outR usesR;rcases h:zat u n with p|q
 ·exact⟨Nat.zero_le _,Nat.zero_le _,Nat.zero_le _⟩
 ·obtain⟨fs,f,hfile,hbody,rfl,h00⟩:=zgQ h
  obtain⟨h8,h9,h4,hX⟩:=zeh hfile hbody;obtain⟨_,_,fr,hbe,_,_⟩:=zer h9;have hF:=zar hbe;refine⟨?_,by show (goneR fs f).out.length≤4096;rw[zkD];exact h4,?_⟩
  ·rcases hg:goneX fs f with e|w
   ·rw[hg]at hX
    rw[show zat u n=.inl e from hX]at h;cases h
   ·rw[hg]at hX
    show (goneR fs f).slots.length≤256;rw[← hX.2.2.1];exact zl4 (by rw[hbe];rfl) hg
  ·show (zfu f (goneR fs f).out).length≤4096
   have e:zfu f (goneR fs f).out=zeA f.body (goneR fs f).out (zaz f.body fr):=by unfold zfu zrL zeA zaz;rw[hbe,Option.getD_some]
   rw[e];have h1:=zrM f.body (goneR fs f).out (zaz f.body fr);have h2:=zdM hbe (f.body.length) (f.body.length-1) 1 (by have:=hF.pos;omega) (by have:=hF.pos;omega);unfold zaz at h1;unfold zaz;omega
def zu6 (u:UnU)(n:ByteArray)(w:World)(e:Ending)(w':World):Prop:=Below w.heap.size w w'∧∃a1 c1 a2 c2,e=.returned (.tuple #[.slice a1 (slotsR u n).length c1,.slice a2 (outR u n).length c2,.agg #[.int .i64 (fltR u n).1,.int .i64 (fltR u n).2]])∧IsSl 4 zaL w'.heap.size w' a1 (slotsR u n)∧IsSl 3 bndCells w'.heap.size w' a2 (outR u n)
theorem zmK {u:UnU}{n:ByteArray}{w w':World}{e:Ending}(h:znz u n w e w'):zu6 u n w e w':=by
 obtain⟨hb,h⟩:=h;refine⟨hb,?_⟩;unfold slotsR outR fltR;rcases hf:zat u n with p|q
 ·rw[hf]at h
  exact⟨none,0,none,0,h,fun h=>absurd rfl h,fun h=>absurd rfl h⟩
 ·rw[hf]at h
  obtain⟨sv,av,he,h1,h2⟩:=h;obtain⟨a1,c1,rfl⟩:=zam h1;obtain⟨a2,c2,rfl⟩:=zam h2;exact⟨a1,c1,a2,c2,he,zmB zpm h1 rfl,zmB zdA h2 rfl⟩
def zrx (u:UnU)(n:ByteArray)(w:World)(e:Ending)(w':World):Prop:=Below w.heap.size w w'∧∃a c,e=.returned (.tuple #[.slice a (usesR u n).length c,.agg #[.int .i64 (fltR u n).1,.int .i64 (fltR u n).2]])∧w'.ownsRow w.heap.size 9 1 (.slice a (usesR u n).length c) (usesR u n).length ((usesR u n).map .string)
theorem zjF {u:UnU}{n:ByteArray}{w w':World}{e:Ending}(h:zmn u n w e w'):zrx u n w e w':=by
 obtain⟨hb,h⟩:=h;refine⟨hb,?_⟩;unfold usesR fltR;rcases hf:zat u n with p|q
 ·rw[hf]at h
  exact⟨none,0,h,World.ownsRow_nil _ _ _ _⟩
 ·rw[hf]at h
  obtain⟨v,he,h1⟩:=h;obtain⟨a1,c1,rfl⟩:=zam h1;exact⟨a1,c1,he,h1⟩
theorem zgn (u:UnU)(vs vg vf:Value)(n:ByteArray)(w:World)(hE:TE w)(hU:IsUn w.heap.size w u vs vg vf)(hn:n.size≤maxLen) :
 Calls Tryz.prog 4 #[.agg #[vs,vg,vf],.string n] w fun e w'=>e=.returned (.bool true)∧Below w.heap.size w w':=by
 obtain⟨sa,sc,mv,rfl,_⟩:=hU.structs;obtain⟨ag,cg,rfl,_⟩:=zbc hU.globals;obtain⟨af,cf,rfl,_⟩:=zbd hU.funcs;have hb1:=ba1 w (.cells #[.slice sa u.structs.length sc,.slice ag u.globals.length cg,.slice af u.funcs.length cf] 26);have hxq:=zv8 w (.cells #[.slice sa u.structs.length sc,.slice ag u.globals.length cg,.slice af u.funcs.length cf] 26)
 go_enter Tryz.func4,Tryz.ntmps4
 go_upto_region 1 with fail
 generalize w.alloc (.cells #[.slice sa u.structs.length sc,.slice ag u.globals.length cg,.slice af u.funcs.length cf] 26)=w1 at *;have HQ:=Hd (fun w' (h:Below w1.heap.size w1 w')=>(zac ((h.block _ (zaa hxq)).trans hxq)).1);have HB1:=Hd hb1;have HEw:=Hd (fun w' (h:Below w1.heap.size w1 w')=>hE.below (hb1.trans (h.mono hb1.size)));have HUw:=Hd (fun w' (h:Below w1.heap.size w1 w')=>hU.go (hb1.trans (h.mono hb1.size)));have HCp:=Hd (zmd u _ _ _ w1 (hU.go hb1));unfold znB at HCp;clear hxq hb1 hE hU;obtain⟨q0,q1,q2⟩:=HQ.out w1 (zv3 _ _)
 go_upto_region 2 with (go_at_call 5;(with_reducible refine HCp.out.mono ?_);rintro e w2 ⟨⟨vs2,vg2,vf2,M2,Q2,rfl,hun⟩,hb2⟩;obtain⟨fa2,fc2,hv2,_⟩:=zbd hun.is.funcs;subst hv2;obtain⟨sa2,sc2,_,rfl,_⟩:=hun.is.structs;obtain⟨ga2,gc2,rfl,_⟩:=zbc hun.is.globals;have HUn:=Hd hun.is;have HB2:=Hd hb2;clear hb2 hun)
 generalize hgQ:w2.alloc (.cells #[.slice sa2 u.structs.length sc2,.slice ga2 u.globals.length gc2,.slice fa2 u.funcs.length fc2] 26)=w3 at *;obtain⟨hxo,hb3⟩:=box0 hgQ;clear hgQ;have HB3:=Ht HB2 hb3;have HO:=Hd (fun w' (h:Below w3.heap.size w3 w')=>(zac ((h.block _ (zaa hxo)).trans hxo)).1);have HOw:=Hd (fun w' (h:Below w3.heap.size w3 w')=>HUn.out.go (hb3.trans (h.mono hb3.size)));clear hxo hb3 q0 q1 q2;obtain⟨o0,o1,o2⟩:=HO.out w3 (zv3 _ _);have HF3:=Hd ((zjX u _ _ _ n w3 (HEw.out w3 HB3.out) (HOw.out w3 (zv3 _ _)) hn).mono fun e w' h=>zmK h);unfold zu6 at HF3;obtain⟨hel1,hel2,hel3⟩:=zpF u n;have HFn:=Hd (fun w' (h:Below w3.heap.size w3 w')=>(zpc u _ _ _ n w' (HEw.out w' (HB3.out.trans (h.mono HB3.out.size))) (HOw.out w' h) hn).mono fun e w' h=>zjF h);unfold zrx at HFn;have HRf:=Hd (fun w' (h:Below w3.heap.size w3 w')=>(znW u _ _ _ n w' (HUw.out w' (HB3.out.trans (h.mono HB3.out.size)))).mono fun e w' h=>zjF h);unfold zrx at HRf;have HRe:=Hd (fun w' (h:Below w3.heap.size w3 w')=>(ze7 u _ _ _ n w' (HUw.out w' (HB3.out.trans (h.mono HB3.out.size)))).mono fun e w' h=>zmK h);unfold zu6 at HRe;have HSame:=Hd (fun w' (h:Below w3.heap.size w3 w')=>zlo u u _ _ _ _ _ _ true w' (HOw.out w' h) (HUw.out w' (HB3.out.trans (h.mono HB3.out.size))) (zlW _ _));generalize slotsR u n=L1 at *;generalize outR u n=L2 at *;generalize fltR u n=flt at *;generalize usesR u n=N at *;obtain⟨fx,fc⟩:=flt;simp only at HF3 HFn HRf HRe;have hli1:(L1.length:Int)≤512:=by omega
 have hli2:(L2.length:Int)≤4096:=by omega
 have hli3:(N.length:Int)≤4096:=by omega
 go_upto_region 3 with (go_at_call 15;(with_reducible refine HF3.out.mono ?_);rintro e w4 ⟨hb4,a1,c1,a2,c2,rfl,hs1,hs2⟩;have HB4:=Hd hb4;have HS1:=Hd hs1;have HS2:=Hd hs2;clear hb4 hs1 hs2)
 generalize hgQ:w4.alloc (.cells #[.int .i64 fx,.int .i64 fc] 32)=w5 at *;obtain⟨hx6,hb5⟩:=box0 hgQ;clear hgQ;have HB5:=Ht HB4 hb5;have HX6b:=Hd (fun w' (h:Below w5.heap.size w5 w')=>(h.block _ (zaa hx6)).trans hx6);have HX6:=Hd (fun w' (h:Below w5.heap.size w5 w')=>zab ((h.block _ (zaa hx6)).trans hx6));have HZ6:=Hd (show w3.heap.size≤w4.heap.size∧w4.heap.size<w5.heap.size from ⟨HB4.out.size,zaa hx6⟩);have HS1w:=Hd (fun w' (h:Below w5.heap.size w5 w')=>(HS1.out.below (hb5.trans (h.mono hb5.size)) (zv0 _)).mono (hb5.trans (h.mono hb5.size)).size);have HS2w:=Hd (fun w' (h:Below w5.heap.size w5 w')=>(HS2.out.below (hb5.trans (h.mono hb5.size)) (zv0 _)).mono (hb5.trans (h.mono hb5.size)).size);clear hx6 hb5 o0 o1 o2 HS1 HS2;obtain⟨q0,q1,q2⟩:=HQ.out w5 (HB3.out.trans (HB5.out.mono HB3.out.size))
 go_upto_region 4 with (go_at_call 16;(with_reducible refine(HRe.out w5 HB5.out).mono ?_);rintro e w6 ⟨hb6,a3,c3,a4,c4,rfl,hs1,hs2⟩;have HB6:=Hd hb6;have HS3:=Hd hs1;have HS4:=Hd hs2;clear hb6 hs1 hs2)
 generalize hgQ:w6.alloc (.cells #[.int .i64 fx,.int .i64 fc] 32)=w7 at *;obtain⟨hx9,hb7⟩:=box0 hgQ;clear hgQ;have HB67:=Ht HB6 hb7;have HB7:=Hd (HB5.out.trans (HB67.out.mono HB5.out.size));have HX9b:=Hd (fun w' (h:Below w7.heap.size w7 w')=>(h.block _ (zaa hx9)).trans hx9);have HX9:=Hd (fun w' (h:Below w7.heap.size w7 w')=>zab ((h.block _ (zaa hx9)).trans hx9));have HZ9:=Hd (show w5.heap.size≤w6.heap.size∧w6.heap.size<w7.heap.size from ⟨HB6.out.size,zaa hx9⟩);have HS3w:=Hd (fun w' (h:Below w7.heap.size w7 w')=>(HS3.out.below (hb7.trans (h.mono hb7.size)) (zv0 _)).mono (hb7.trans (h.mono hb7.size)).size);have HS4w:=Hd (fun w' (h:Below w7.heap.size w7 w')=>(HS4.out.below (hb7.trans (h.mono hb7.size)) (zv0 _)).mono (hb7.trans (h.mono hb7.size)).size);have HB57:=Hd (fun w' (h:Below w7.heap.size w7 w')=>HB67.out.trans (h.mono HB67.out.size));clear hx9 hb7 q0 q1 q2 HS3 HS4;obtain⟨⟨x0,x1⟩,_⟩:=HX6.out w7 (HB57.out w7 (zv3 _ _));obtain⟨⟨z0,z1⟩,_⟩:=HX9.out w7 (zv3 _ _);have HSl:=Hd (znQ a1 a3 c1 c3 L1 w7 (HS1w.out w7 (HB57.out w7 (zv3 _ _))) (HS3w.out w7 (zv3 _ _)) (by omega));have HBn:=Hd (fun w' (h:Below w7.heap.size w7 w')=>zjq a2 a4 c2 c4 L2 w' (HS2w.out w' (HB57.out w' h)) (HS4w.out w' h) (by omega));have te:∀z:Int,(z == z)=true:=by simp
 have tn:∀z:Int,(z != z)=false:=by simp
 go_upto_region 6 with (first
  | (go_at_call 17;(with_reducible refine HSl.out.mono ?_);rintro e w8 ⟨rfl,hb8⟩;have HB8:=Hd hb8;clear hb8)
  | (go_at_call 8;(with_reducible refine(HBn.out w8 HB8.out).mono ?_);rintro e w9 ⟨rfl,hb9⟩;have HB9:=Ht HB8 hb9;clear hb9))
 have HB39:=Hd (HB7.out.trans (HB9.out.mono HB7.out.size));have HZ93:=Hd (show w6.heap.size<w9.heap.size∧w4.heap.size<w9.heap.size from ⟨zv5 HZ9.out.2 HB9.out.size,zv5 HZ6.out.2 (zv6 HZ9.out.1 (zv7 (zv5 HZ9.out.2 HB9.out.size)))⟩);clear x0 x1 z0 z1;obtain⟨o0,o1,o2⟩:=HO.out w9 HB39.out
 go_upto_region 7 with (go_at_call 18;(with_reducible refine(HFn.out w9 HB39.out).mono ?_);rintro e w10 ⟨hb10,ax,cx,rfl,hfx⟩;have HB10:=Hd hb10;have HFx:=Hd hfx;have HX10:=Hd (HX6b.out w10 (HB57.out w10 (HB9.out.trans (hb10.mono HB9.out.size))));obtain⟨⟨x0,x1⟩,xf⟩:=zab HX10.out;have xf0:=xf 0;have xf1:=xf 1;clear xf hb10 hfx)
 have hx11:((w10.setCell ⟨w4.heap.size,0,none⟩ (.int .i64 fx)).setCell ⟨w4.heap.size,1,none⟩ (.int .i64 fc)).heap[w4.heap.size]?=some (.cells #[.int .i64 fx,.int .i64 fc] 32 (0,0)):=by
  simp[World.setCell,Array.getElem?_modify,HX10.out]
 have hb11:Below w3.heap.size w3 ((w10.setCell ⟨w4.heap.size,0,none⟩ (.int .i64 fx)).setCell ⟨w4.heap.size,1,none⟩ (.int .i64 fc)):=((HB39.out.trans (HB10.out.mono HB39.out.size)).setCell (p:=⟨w4.heap.size,0,none⟩) HZ6.out.1 _).setCell (p:=⟨w4.heap.size,1,none⟩) HZ6.out.1 _;have hmv11:∀k,k≠w4.heap.size→((w10.setCell ⟨w4.heap.size,0,none⟩ (.int .i64 fx)).setCell ⟨w4.heap.size,1,none⟩ (.int .i64 fc)).heap[k]?=w10.heap[k]?:=fun k hk=>by
  rw[Below.heap_setCell _ _ _ _ hk,Below.heap_setCell _ _ _ _ hk]
 have hsz11:((w10.setCell ⟨w4.heap.size,0,none⟩ (.int .i64 fx)).setCell ⟨w4.heap.size,1,none⟩ (.int .i64 fc)).heap.size=w10.heap.size:=by simp
 generalize (w10.setCell ⟨w4.heap.size,0,none⟩ (.int .i64 fx)).setCell ⟨w4.heap.size,1,none⟩ (.int .i64 fc)=w11 at *;have HB11:=Hd hb11;have HX11:=Hd hx11;have HFx11:=Hd (za4 HFx.out (zv0 _) (fun k hk=>hmv11 k (by have:=HZ93.out;omega)));have HX9c:=Hd (show w11.heap[w6.heap.size]?=some (.cells #[.int .i64 fx,.int .i64 fc] 32 (0,0)) from (hmv11 _ (by have h1:=HZ6.out;have h2:=HZ9.out;omega)).trans (HX9b.out w10 (HB9.out.trans (HB10.out.mono HB9.out.size))));have HZ11:=Hd (show w9.heap.size≤w11.heap.size from by rw[hsz11];exact HB10.out.size);clear hx11 hb11 hmv11 hsz11 x0 x1 xf0 xf1 o0 o1 o2;obtain⟨q0,q1,q2⟩:=HQ.out w11 (HB3.out.trans (HB11.out.mono HB3.out.size))
 go_upto_region 8 with (go_at_call 19;(with_reducible refine(HRf.out w11 HB11.out).mono ?_);rintro e w12 ⟨hb12,ay,cy,rfl,hfy⟩;have HB12:=Hd hb12;have HFy:=Hd hfy;have HX12:=Hd ((hb12.block _ (zaa HX9c.out)).trans HX9c.out);obtain⟨⟨z0,z1⟩,zf⟩:=zab HX12.out;have zf0:=zf 0;have zf1:=zf 1;clear zf hb12 hfy)
 have hx13:((w12.setCell ⟨w6.heap.size,0,none⟩ (.int .i64 fx)).setCell ⟨w6.heap.size,1,none⟩ (.int .i64 fc)).heap[w6.heap.size]?=some (.cells #[.int .i64 fx,.int .i64 fc] 32 (0,0)):=by
  simp[World.setCell,Array.getElem?_modify,HX12.out]
 have hz63:w3.heap.size≤w6.heap.size:=by have h1:=HZ6.out;have h2:=HZ9.out;omega
 have hb13:Below w3.heap.size w3 ((w12.setCell ⟨w6.heap.size,0,none⟩ (.int .i64 fx)).setCell ⟨w6.heap.size,1,none⟩ (.int .i64 fc)):=((HB11.out.trans (HB12.out.mono HB11.out.size)).setCell (p:=⟨w6.heap.size,0,none⟩) hz63 _).setCell (p:=⟨w6.heap.size,1,none⟩) hz63 _;have hmv13:∀k,k≠w6.heap.size→((w12.setCell ⟨w6.heap.size,0,none⟩ (.int .i64 fx)).setCell ⟨w6.heap.size,1,none⟩ (.int .i64 fc)).heap[k]?=w12.heap[k]?:=fun k hk=>by
  rw[Below.heap_setCell _ _ _ _ hk,Below.heap_setCell _ _ _ _ hk]
 generalize (w12.setCell ⟨w6.heap.size,0,none⟩ (.int .i64 fx)).setCell ⟨w6.heap.size,1,none⟩ (.int .i64 fc)=w13 at *;have HB13:=Hd hb13;have HFx13:=Hd (za4 (HFx11.out.belowed HB12.out) (zv0 _) (fun k hk=>hmv13 k (by have:=HZ93.out;omega)));have HFy13:=Hd (za4 HFy.out (zv0 _) (fun k hk=>hmv13 k (by have h1:=HZ93.out;have h2:=HZ11.out;omega)));have HX6d:=Hd ((hmv13 w4.heap.size (by have h1:=HZ6.out;have h2:=HZ9.out;omega)).trans ((HB12.out.block _ (zaa HX11.out)).trans HX11.out));have HSt:=Hd (zjS ax ay cx cy N w13 (ziP HFx13.out rfl) (ziP HFy13.out rfl) (by omega));obtain⟨⟨x0,x1⟩,_⟩:=zab HX6d.out;clear z0 z1 zf0 zf1 hb13 hmv13 hz63 q0 q1 q2;obtain⟨⟨z0,z1⟩,_⟩:=zab hx13;obtain⟨o0,o1,o2⟩:=HO.out w13 HB13.out;obtain⟨q0,q1,q2⟩:=HQ.out w13 (HB3.out.trans (HB13.out.mono HB3.out.size));clear hx13
 go_wp2_with (first
  | (go_at_call 9;(with_reducible refine HSt.out.mono ?_);rintro e w14 ⟨rfl,hb14⟩;have HB14:=Ht HB13 hb14;obtain⟨r0,r1,r2⟩:=HO.out w14 (HB13.out.trans (hb14.mono HB13.out.size));obtain⟨t0,t1,t2⟩:=HQ.out w14 (HB3.out.trans ((HB13.out.trans (hb14.mono HB13.out.size)).mono HB3.out.size));clear hb14)
  | (go_at_call 12;(with_reducible refine(HSame.out w14 HB14.out).mono ?_);rintro e w15 ⟨rfl,hb15⟩;have HB15:=Ht HB14 hb15;clear hb15))
 go_ret;exact⟨by simp,HB1.out.trans ((HB3.out.trans (HB15.out.mono HB3.out.size)).mono HB1.out.size)⟩
end Go.Proofs.YtbbaooeioogijaaGreatDoor
