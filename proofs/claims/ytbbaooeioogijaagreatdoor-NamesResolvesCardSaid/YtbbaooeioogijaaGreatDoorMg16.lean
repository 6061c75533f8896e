/- What a function's names stand for, handed out: the program. -/
import Derived.Test.YtbbaooeioogijaaGreatDoorRefRsv
import Derived.Test.YtbbaooeioogijaaGreatDoorRefFile
import Derived.Test.YtbbaooeioogijaaGreatDoorRefFs
import Derived.RangeFuncFrom
import Derived.Shelf.RegionOpen
import Derived.OrdersIn
namespace Go.Proofs.YtbbaooeioogijaaGreatDoor
open Go.RowKit Go.Maps
set_option maxRecDepth 100000
set_option maxHeartbeats 8000000
def znz (u:UnU)(n:ByteArray)(w:World)(e:Ending)(w':World):Prop:=Below w.heap.size w w'∧match zat u n with
 | .inl p=>e=.returned (.tuple #[.slice none 0 0,.slice none 0 0,.agg #[.int .i64 p.1,.int .i64 p.2]])
 | .inr q=>∃sv ov,e=.returned (.tuple #[sv,ov,.agg #[.int .i64 q.1.fault.1,.int .i64 q.1.fault.2]])∧w'.ownsRow w.heap.size 91 4 sv q.1.slots.length (q.1.slots.flatMap zaL)∧w'.ownsRow w.heap.size 78 3 ov q.1.out.length (q.1.out.flatMap bndCells)
theorem zhZ {u:UnU}{n:ByteArray}{w w':World}{e:Ending}(h:zny u n w e w'):Below w.heap.size w w'∧((∃a b p,e=.returned (.tuple #[.pointer a,.pointer b,.agg #[.int .i64 p.1,.int .i64 p.2]])∧p.2≠0∧zat u n=.inl p) ∨
 ∃rb b f fs B vp vb sv ov,e=.returned (.tuple #[.pointer (some ⟨rb,0,none⟩),.pointer (some ⟨b,0,none⟩),.agg #[.int .i64 (goneR fs f).fault.1,.int .i64 0]])∧(goneR fs f).fault.2=0∧zat u n=.inr (goneR fs f,f,fs)∧za1 u=.inr fs∧zbn fs n=some f∧w.heap.size≤B∧B≤w'.heap.size∧ResM B w' rb f vp vb sv ov (goneR fs f)∧IsFnU B w' f vp vb):=by
 obtain⟨hb,h⟩:=h;refine⟨hb,?_⟩;rcases hf:za1 u with p|fs
 ·rw[hf]at h
  exact .inl ⟨none,none,p,h,zgy hf,by unfold zat;rw[hf]⟩
 ·rw[hf]at h
  simp only at h;rcases hbo:zbn fs n with _|f
  ·rw[hbo]at h
   exact .inl ⟨none,none,(0,4),h,by decide,by unfold zat;rw[hf];simp only;rw[hbo]⟩
  ·rw[hbo]at h
   obtain⟨A,B,rb,b,vp,vb,sv,ov,he,h1,h2,h3,h4,h5⟩:=h
   by_cases h0:(goneR fs f).fault.2=0
   ·refine .inr ⟨rb,b,f,fs,B,vp,vb,sv,ov,by rw[he,h0],h0,?_,rfl,hbo,by omega,h3,h4,h5.mono h2⟩
    unfold zat;rw[hf];simp only;rw[hbo];simp only;rw[if_neg (by simp[h0])]
   ·refine .inl ⟨_,_,(goneR fs f).fault,he,h0,?_⟩
    unfold zat;rw[hf];simp only;rw[hbo];simp only;rw[if_pos h0]
theorem zjX (u:UnU)(vs vg vf:Value)(n:ByteArray)(w:World)(hE:TE w)(hU:IsUn w.heap.size w u vs vg vf)(hn:n.size≤maxLen) :
 Calls Tryz.prog 15 #[.agg #[vs,vg,vf],.string n] w (znz u n w):=by
 obtain⟨sa,sc,mv,rfl,_⟩:=hU.structs;obtain⟨ag,cg,rfl,_⟩:=zbc hU.globals;obtain⟨af,cf,rfl,_⟩:=zbd hU.funcs
 go_enter Tryz.func15,Tryz.ntmps15
 go_upto_region 1 with fail
 generalize hgQ:(w.alloc (.cells #[.slice sa u.structs.length sc,.slice ag u.globals.length cg,.slice af u.funcs.length cf] 26)).alloc (.cells #[.int .i64 0,.int .i64 0] 32)=w1 at *;obtain⟨hb1,hxq,hxr⟩:=box2 hgQ;clear hgQ;have HR:=Hd (fun w' (h:Below w1.heap.size w1 w')=>zab ((h.block _ (zaa hxr)).trans hxr));have HB1:=Hd hb1;have HRs:=Hd ((ze5 u _ _ _ n w1 (hE.below hb1) (hU.go hb1) hn).mono fun e w' h=>zhZ h);obtain⟨⟨q0,q1,q2⟩,_⟩:=zac hxq;have HX:=Hd hxr;clear hxq hxr hU hE
 go_upto_region 2 with (go_at_call 28;(with_reducible refine HRs.out.mono ?_);rintro e w2 ⟨hb2,⟨a,b,p,rfl,hp,hres⟩|⟨rb,b,f,fs,B,vp,vb,sv,ov,rfl,hp,hres,_,_,hwB,hBw,hRM,_⟩⟩)
 ·obtain⟨ux,uc⟩:=p
  simp only at hp;have t1:(uc != 0)=true:=by simpa using hp
  have HB2:=Hd (hb2.alloc hb2.size (.cells #[.int .i64 ux,.int .i64 uc] 32));obtain⟨⟨d0,d1⟩,fd⟩:=HR.out _ HB2.out;have fd0:=fd 0;have fd1:=fd 1;obtain⟨⟨y0,y1⟩,_⟩:=zab (zv8 w2 (.cells #[.int .i64 ux,.int .i64 uc] 32));have HP:=Hd hres;clear q0 q1 q2 hb2 hres;generalize w2.alloc (.cells #[.int .i64 ux,.int .i64 uc] 32)=w3 at *
  go_wp2_with fail
  go_region_law (fail)
  all_goals
   go_wp2_with fail
   exact bodyPost_ret (v:=.tuple #[.slice none 0 0,.slice none 0 0,.agg #[.int .i64 ux,.int .i64 uc]]) (by simp[results,Tryz.results15,go_sem,d0,d1]) rfl ⟨Below.drew (Below.setCell (Below.setCell (HB1.out.trans (HB2.out.mono HB1.out.size)) (Nat.le_succ _) _) (Nat.le_succ _) _),by rw[HP.out]⟩
 ·have HP:=Hd hres
  have HB2:=Hd (hb2.alloc hb2.size (.cells #[.int .i64 (goneR fs f).fault.1,.int .i64 0] 32));obtain⟨⟨d0,d1⟩,fd⟩:=HR.out _ HB2.out;have fd0:=fd 0;have fd1:=fd 1;obtain⟨⟨y0,y1⟩,_⟩:=zab (zv8 w2 (.cells #[.int .i64 (goneR fs f).fault.1,.int .i64 0] 32));have hRM3:=hRM.below (ba1 w2 (.cells #[.int .i64 (goneR fs f).fault.1,.int .i64 0] 32));have HRM:=Hd hRM3;obtain⟨⟨k0,k1,k2,k3,k4,k5,k6,k7,k8⟩,_⟩:=zao hRM3.blk;have HLo:=Hd (zv5 (zaa HX.out) hwB);have HH:=Hd hp;clear q0 q1 q2 hb2 hres hRM hRM3 hp hwB hBw k0 k1 k2 k3 k4 k7 k8;generalize w2.alloc (.cells #[.int .i64 (goneR fs f).fault.1,.int .i64 0] 32)=w3 at *
  go_wp2_with fail
  go_region_law (fail)
  all_goals
   go_wp2_with fail
   have hmv:∀k,B≤k→(((w3.setCell ⟨w.heap.size+1,0,none⟩ (.int .i64 (goneR fs f).fault.1)).setCell ⟨w.heap.size+1,1,none⟩ (.int .i64 0)).drew).heap[k]?=w3.heap[k]?:=fun k hk=>by
    have h1:=HLo.out;have hne:k≠w.heap.size+1:=by omega
    show ((w3.setCell ⟨w.heap.size+1,0,none⟩ (.int .i64 (goneR fs f).fault.1)).setCell ⟨w.heap.size+1,1,none⟩ (.int .i64 0)).heap[k]?=_;rw[Below.heap_setCell _ _ _ _ hne,Below.heap_setCell _ _ _ _ hne]
   refine bodyPost_ret (v:=.tuple #[sv,ov,.agg #[.int .i64 (goneR fs f).fault.1,.int .i64 0]]) (by simp[results,Tryz.results15,go_sem,d0,d1]) rfl ⟨Below.drew (Below.setCell (Below.setCell (HB1.out.trans (HB2.out.mono HB1.out.size)) (Nat.le_succ _) _) (Nat.le_succ _) _),?_⟩;rw[HP.out];have h1:=HLo.out;exact⟨sv,ov,by rw[HH.out],za4 HRM.out.slots (by omega) hmv,za4 HRM.out.out (by omega) hmv⟩
end Go.Proofs.YtbbaooeioogijaaGreatDoor
namespace Go.Proofs.YtbbaooeioogijaaGreatDoor
def addL {α:Type}[DecidableEq α](acc:List α)(a:α):List α:=if a ∈ acc then acc else acc++[a]
def dedupL {α:Type}[DecidableEq α]:List α→List α→List α
 | [],acc=>acc
 | a :: l,acc=>dedupL l (addL acc a)
theorem zdw {α:Type}[DecidableEq α]:∀(l m acc:List α),dedupL (l++m) acc=dedupL m (dedupL l acc)
 | [],_,_=>rfl
 | a :: l,m,acc=>by rw[List.cons_append,dedupL,dedupL,zdw l m]
theorem zhr {α:Type}[DecidableEq α]:∀(l acc:List α),(dedupL l acc).length≤acc.length+l.length
 | [],acc=>by rw[dedupL];simp
 | a :: l,acc=>by
   rw[dedupL];have:=zhr l (addL acc a);have h2:(addL acc a).length≤acc.length+1:=by
    unfold addL
    split
    ·omega
    ·simp
   rw[List.length_cons];omega
def zcp (b:Bnd):Bool:=decide (b.kind=1) || decide (b.kind=2)
def zcN (t:List Nd)(o:List Bnd)(ps:List Nat):List ByteArray:=(ps.filter fun k=>decide ((t.getD k ndU0).kind=3) && zcp (o.getD k bnd0)).map fun k=>(t.getD k ndU0).text
def zrL (t:List Nd)(fr:List Nat)(o:List Bnd):List ByteArray:=dedupL (zcN t o ((walkN t fr (t.length-1) 1).map Prod.fst)) []
theorem zpY {s s':FileN}{x:FnU}(h:oneF s x=.inr s'):s'.ents.length≤s.ents.length+1:=by
 unfold oneF at h
 split at h
 ·split at h
  ·cases h
  split at h
  ·cases h
  split at h
  ·cases h
  split at h<;>(cases h;simp)
 ·split at h
  ·cases h
  ·cases h;simp
theorem zhi:∀{L:List FnU} {s s':FileN},zaP L s=.inr s'→s'.ents.length≤s.ents.length+L.length
 | [],s,s',h=>by
   rw[zaP]at h;obtain rfl:=Sum.inr.inj h;exact zv0 _
 | x :: r,s,s',h=>by
   rw[zaP]at h;rcases hx:oneF s x with c|s1
   ·rw[hx]at h;cases h
   ·rw[hx]at h
    have h1:=zhi h;have h2:=zpY hx;rw[List.length_cons];omega
theorem zhh:∀{L:List GlU} {i:Nat} {s s':FileN},zaY L i s=.inr s'→s'.ents.length≤s.ents.length+L.length
 | [],i,s,s',h=>by
   rw[zaY]at h;obtain rfl:=Sum.inr.inj h;exact zv0 _
 | g :: r,i,s,s',h=>by
   rw[zaY]at h
   split at h
   ·cases h
   ·have h1:=zhh h
    have e:(s.put g.var.name ⟨1,(i:Int),g.var.type⟩).ents.length=s.ents.length+1:=by simp[FileN.put]
    rw[e]at h1;rw[List.length_cons];omega
theorem zfv {u:UnU}(h:(unitE u).2=0):u.globals.length≤256∧u.funcs.length≤256:=by
 unfold unitE at h
 split at h
 ·exact absurd h (by decide)
 ·omega
theorem zqX {u:UnU}{fs:FileN}(h:za1 u=.inr fs):fs.ents.length≤512:=by
 obtain⟨h0,s,h1,h2,_,_⟩:=zho h;obtain⟨l1,l2⟩:=zfv h0;have a1:=zhh h1;have a2:=zhi h2;simp only[List.length_nil]at a1;omega
theorem zkD (fs:FileN)(f:FnU):(goneR fs f).out.length=f.body.length:=by
 unfold goneR;simp only;rw[(zqH _ _ _ _ _).2.2.2.1,(zdZ _ _ _ _).2.1];simp
end Go.Proofs.YtbbaooeioogijaaGreatDoor
namespace Go.Proofs.YtbbaooeioogijaaGreatDoor
open Go.RowKit Go.Maps
set_option maxRecDepth 100000
set_option maxHeartbeats 16000000
theorem zpf (out:List FnU)(f:FnU):(zeD out f).length≤out.length+1:=by
 rw[zmy]
 split
 ·simp
 ·split
  ·simp
  ·omega
theorem zfC:∀(L out:List FnU),(L.foldl zeD out).length≤out.length+L.length
 | [],out=>zv0 _
 | f :: L,out=>by
   have h1:=zfC L (zeD out f);have h2:=zpf out f;rw[List.foldl_cons,List.length_cons];omega
theorem zrr {fs:FileN}(hok:FileOk fs){n:ByteArray}{i:Nat}(hi:i<fs.funcs.length)(hn:fs.funcs[i].name=n)(hb:fs.funcs[i].body≠[]):zbn fs n=some fs.funcs[i]:=by
 have hd:fs.funcs.getD i fnU0=fs.funcs[i]:=by rw[zv2,zv1 hi];rfl
 have h1:=hok.has i hi;rw[hd,hn]at h1;unfold zbn;rw[zek h1];simp only;rw[Int.toNat_natCast,hd,if_neg];rintro(h|h)
 ·exact h rfl
 ·exact hb h
theorem zrq {fs:FileN}(hok:FileOk fs){n:ByteArray}(h:∀(i:Nat) (hi:i<fs.funcs.length),¬(fs.funcs[i].name=n∧fs.funcs[i].body≠[])):zbn fs n=none:=by
 rcases e:zbn fs n with _|f
 ·rfl
 ·obtain⟨b,_,_,_,hi,hg,hn,hb⟩:=zdz hok e
  rw[zv1 hi]at hg;obtain rfl:=zv4 hg;exact absurd ⟨hn,hb⟩ (h _ hi)
theorem zeh {u:UnU}{n:ByteArray}{fs:FileN}{f:FnU}(hfile:za1 u=.inr fs)(hf:zbn fs n=some f):f.params.length≤8∧checkN9 f.body=0∧f.body.length≤4096∧(match goneX fs f with
  | .inl e=>zat u n=.inl e
  | .inr w=>zat u n=.inr (goneR fs f,f,fs)∧(goneR fs f).fault=(0,0)∧w.slots=(goneR fs f).slots∧w.out=(goneR fs f).out):=by
 obtain⟨b,_,_,_,hi,hg,_,hb⟩:=zdz (zeW hfile) hf;have hm:f ∈ fs.funcs:=by
  rw[zv1 hi]at hg;obtain rfl:=zv4 hg;exact zwb hi
 obtain⟨h8,h9⟩:=zl6 (zfR hfile f hm).2;rcases h9 with h9|⟨h9,h21⟩
 ·exact absurd h9 hb
 refine⟨h8,h9,(zer h9).1,?_⟩;have h:=ztd fs f h9 h21;have hr:zat u n=if (goneR fs f).fault.2≠0 then .inl (goneR fs f).fault else .inr (goneR fs f,f,fs):=by
  unfold zat;rw[hfile];simp only;rw[hf]
 rcases e:goneX fs f with e|w
 ·rw[e]at h
  obtain⟨h1,h2⟩:=h;simp only;rw[hr,if_pos (by rw[h2];exact h1),h2]
 ·rw[e]at h
  obtain⟨h1,h2,h3⟩:=h;exact⟨by rw[hr,if_neg (by rw[h1];decide)],h1,h2,h3⟩
theorem zgP {u:UnU}{n:ByteArray}{fs:FileN}(hfile:za1 u=.inr fs)(hf:zbn fs n=none):zat u n=.inl (0,4):=by
 unfold zat;rw[hfile];simp only;rw[hf]
theorem zf4 {u:UnU}{n:ByteArray}{p:Int × Int}(h:za1 u=.inl p):zat u n=.inl p:=by
 unfold zat;rw[h]
theorem zq3 {w:World}{B:Nat}{fs:FileN}{af an:Option Addr}{cf cn:Nat}(hl:fs.ents.length≤512)(h1:w.ownsRow B 78 3 (.slice af fs.ents.length cf) fs.ents.length (fs.ents.flatMap fun e=>bndCells e.2))(h2:w.ownsRow B 9 1 (.slice an fs.ents.length cn) fs.ents.length (fs.ents.map fun e=>.string e.1)):FileAt w.heap.size w fs af cf an cn:=by
 refine⟨zmB zdA (by rw[List.flatMap_map];exact h1) (by rw[List.length_map]),ziP (by rw[List.map_map];exact h2) (by rw[List.length_map]),hl⟩
theorem ze7 (u:UnU)(vs vg vf:Value)(n:ByteArray)(w:World)(hU:IsUn w.heap.size w u vs vg vf) :
 Calls Tryz.prog 16 #[.agg #[vs,vg,vf],.string n] w (znz u n w):=by
 obtain⟨sa,sc,mv,rfl,_⟩:=hU.structs;obtain⟨ag,cg,rfl,_⟩:=zbc hU.globals;obtain⟨af,cf,rfl,_⟩:=zbd hU.funcs
 go_enter Tryz.func16,Tryz.ntmps16
 go_upto_region 1 with fail
 generalize hgQ:(w.alloc (.cells #[.slice sa u.structs.length sc,.slice ag u.globals.length cg,.slice af u.funcs.length cf] 26)).alloc (.cells #[.int .i64 0,.int .i64 0] 32)=w1 at *;obtain⟨hb1,hxq,hxr⟩:=box2 hgQ;clear hgQ;have HQ:=Hd (fun w' (h:Below w1.heap.size w1 w')=>(zac ((h.block _ (zaa hxq)).trans hxq)).1);have HR:=Hd (fun w' (h:Below w1.heap.size w1 w')=>zab ((h.block _ (zaa hxr)).trans hxr));have HXr:=Hd (zaa hxr);have HB1:=Hd hb1;have HBw:=Hd (fun w' (h:Below w1.heap.size w1 w')=>hb1.trans (h.mono hb1.size));have HUw:=Hd (fun w' (h:Below w1.heap.size w1 w')=>hU.go (hb1.trans (h.mono hb1.size)));have HFl:=Hd (zoc u _ _ _ w1 (hU.go hb1));clear hb1 hxq hxr hU;obtain⟨q0,q1,q2⟩:=HQ.out w1 (zv3 _ _);unfold zrB at HFl;rcases hfile:za1 u with ⟨fx,fc⟩|fs
 ·rw[hfile]at HFl
  simp only at HFl;have hne:fc≠0:=(zgy hfile :)
  have t4:(fc != 0)=true:=by simpa using hne
  have HFin:=Hd (zf4 (n:=n) hfile);clear hne hfile
  go_upto_region 2 with (go_at_call 7;(with_reducible refine HFl.out.mono ?_);rintro e w2 ⟨hb2,rfl⟩;have HB2:=Hd hb2;clear hb2)
  obtain⟨⟨k0,k1⟩,_⟩:=zab (zv8 w2 (.cells #[.int .i64 fx,.int .i64 fc] 32));have HB3:=Hd (HB2.out.alloc HB2.out.size (.cells #[.int .i64 fx,.int .i64 fc] 32));generalize w2.alloc (.cells #[.int .i64 fx,.int .i64 fc] 32)=w3 at *;obtain⟨⟨d0,d1⟩,fd⟩:=HR.out w3 HB3.out;have fd0:=fd 0;have fd1:=fd 1;clear fd
  go_wp2_with fail
  go_region_law (fail)
  all_goals
   go_wp2_with fail
   exact bodyPost_ret (v:=.tuple #[.slice none 0 0,.slice none 0 0,.agg #[.int .i64 fx,.int .i64 fc]]) (by simp[results,Tryz.results16,go_sem,d0,d1]) rfl ⟨Below.drew (Below.setCell (Below.setCell (HBw.out _ HB3.out) (Nat.le_succ _) _) (Nat.le_succ _) _),by rw[HFin.out]⟩
 ·rw[hfile]at HFl
  simp only at HFl;have HFi:=Hd hfile;have HLn:=Hd (zqX hfile);have h256:=(zfv (zho hfile).1).2;have HFr:=Hd (zgh hfile);have HFo:=Hd (zeW hfile);clear hfile
  go_upto_region 2 with (go_at_call 7;(with_reducible refine HFl.out.mono ?_);rintro e w2 ⟨hb2,bv,nv,rfl,hbv,hnv⟩;obtain⟨aq,cq,rfl⟩:=zam hbv;obtain⟨anq,cnq,rfl⟩:=zam hnv;have HB2:=Hd hb2;have HBv:=Hd hbv;have HNv:=Hd hnv;clear hb2 hbv hnv)
  obtain⟨⟨k0,k1⟩,_⟩:=zab (zv8 w2 (.cells #[.int .i64 0,.int .i64 0] 32));have HB3:=Hd (HB2.out.alloc HB2.out.size (.cells #[.int .i64 0,.int .i64 0] 32));have HFa:=Hd (fun w' (h:Below w2.heap.size w2 w')=>zq3 HLn.out (HBv.out.belowed h) (HNv.out.belowed h));have hb23:=ba1 w2 (.cells #[.int .i64 0,.int .i64 0] 32);generalize w2.alloc (.cells #[.int .i64 0,.int .i64 0] 32)=w3 at *;have HFa3:=Hd (fun w' (h:Below w3.heap.size w3 w')=>HFa.out w' (hb23.trans (h.mono hb23.size)));clear q0 q1 q2 hb23 HFa;obtain⟨q0,q1,q2⟩:=HQ.out w3 HB3.out;have HRf:=Hd (zjV u _ _ _ w3 (HUw.out w3 HB3.out) h256);unfold zu9 at HRf
  go_upto_region 5 with (go_at_call 26;(with_reducible refine HRf.out.mono ?_);rintro e w4 ⟨⟨fv,Q,rfl,hfv,hQ⟩,hb4⟩;have HB4:=Hd hb4;have HFv:=Hd hfv;have HQf:=Hd (hQ.trans HFr.out.symm);clear hb4 hfv hQ)
  obtain⟨fa,fcp,rfl⟩:=zam HFv.out.1;have HB5:=Hd (HB3.out.trans (HB4.out.mono HB3.out.size));have hql:(Q.length:Int)≤256:=by
   have h1:Q.length=(zeK u.funcs).length:=by rw[← HFr.out,← HQf.out,List.length_map]
   have h2:=zfC u.funcs [];unfold zeK at h1;simp only[List.length_nil]at h2;omega
  have HQg:=Hd (fun (i:Nat) (hi:i<Q.length)=>show ∃hi':i<fs.funcs.length,fs.funcs[i]=Q[i].1 from by
   have h1:i<fs.funcs.length:=by rw[← HQf.out,List.length_map];exact hi
   refine⟨h1,?_⟩;have h2:fs.funcs[i]?=(Q.map Prod.fst)[i]?:=by rw[HQf.out]
   rw[zv1 h1,List.getElem?_map,zv1 hi]at h2
   exact zv4 h2)
  clear q0 q1 q2 k0 k1
  go_wp2_with fail
  go_loopg [11] Q.length (fun m v11 wy=>∃(i:Nat),i≤Q.length∧i+m=Q.length∧v11=.int .i64 (i:Int)∧wy=w4∧Hid (∀(j:Nat) (hj:j<fs.funcs.length),j<i→¬(fs.funcs[j].name=n∧fs.funcs[j].body≠[])))
  case atStart=>exact⟨0,by omega,by omega,rfl,rfl,Hd (fun j _ h=>by omega)⟩
  case round=>
   obtain⟨i,hi,him,rfl,rfl,HN⟩:=hrel
   by_cases hlt:i<Q.length
   ·obtain⟨g,cap,hgs,hgB,hgl,hcap,hcm,hcs,_⟩:=zax zc8 HFv.out.1 rfl hlt
    obtain⟨rfl,rfl⟩:fa=some ⟨g,0,none⟩∧fcp=cap:=by simpa using hgs
    have hqf:=HFv.out.2 _ (zwb hlt);obtain⟨hi',hfq⟩:=HQg.out i hlt;have HAt:=Hd (fun h1 h2=>zrr HFo.out (n:=n) hi' h1 h2)
    have HNo:=Hd (fun (h:¬(fs.funcs[i].name=n∧fs.funcs[i].body≠[]))=>show ∀(j:Nat) (hj:j<fs.funcs.length),j<i+1→¬(fs.funcs[j].name=n∧fs.funcs[j].body≠[]) from fun j hj h1=>by
     rcases Nat.lt_or_ge j i with h2|h2
     ·exact HN.out j hj h2
     ·obtain rfl:j=i:=by omega
      exact h)
    rw[hfq]at HAt HNo;generalize Q[i]=q at *;obtain⟨x,vp,vb⟩:=q;simp only at HAt HNo hqf;obtain⟨ap,cp,rfl⟩:=zgC hqf.params;obtain⟨ab,cb,rfl⟩:=zle hqf.body;have m0:=hcs 0 _ rfl;have m1:=hcs 1 _ rfl;have m2:=hcs 2 _ rfl;have m3:=hcs 3 _ rfl;have m4:=hcs 4 _ rfl;rw[Nat.add_zero]at m0;simp only at m0 m1 m2 m3 m4;have he:=zbD (a:=x.name) (b:=n);have hi0:(0:Int)≤(i:Int):=by omega
    have hi1:(i:Int)<(Q.length:Int):=by omega
    clear hgs hcs hfq hi'
    by_cases c1:x.name=n
    ·rw[decide_eq_true c1]at he
     by_cases c2:x.body=[]
     ·have t1:decide (0<(x.body.length:Int))=false:=by rw[c2];rfl
      have t2:decide (0<x.body.length)=false:=by rw[c2];rfl
      have HN2:=Hd (HNo.out (fun h=>h.2 c2));clear c1 c2 HAt HNo
      go_wp2_with fail
      go_roundg (Q.length-(i+1))
      case measure=>omega
      case rel=>exact⟨i+1,by omega,by omega,by rw[zv9];rfl,rfl,HN2⟩
     ·have t1:decide (0<(x.body.length:Int))=true:=by have:=zwc c2;simp;omega
      have t2:decide (0<x.body.length)=true:=decide_eq_true (zwc c2);obtain⟨h8,h9,h4,hX⟩:=zeh HFi.out (HAt.out c1 c2);have hq4:=HB4.out.size;have HRs:=Hd (zhH (fs:=fs) (af:=aq) (an:=anq) (cf:=cq) (cn:=cnq) wr (hqf.mono hq4) (HFa3.out wr HB4.out) h9 h4 h8);unfold ztV at HRs;have HX:=Hd hX;clear c1 c2 HAt HNo hX h8 h9 h4;rcases hg:goneX fs x with e|s
      ·rw[hg]at HRs HX
       simp only at HRs HX;clear hg
       go_wp2_with (go_at_call 29;(with_reducible refine HRs.out.mono ?_);rintro _ w6 ⟨hb6,rfl⟩;have HB6:=Ht HB5 hb6;obtain⟨⟨d0,d1⟩,fd⟩:=HR.out w6 (HB5.out.trans (hb6.mono HB5.out.size));have fd0:=fd 0;have fd1:=fd 1;clear hb6 fd)
       refine bodyPost_ret (v:=.tuple #[.slice none 0 0,.slice none 0 0,.agg #[.int .i64 e.1,.int .i64 e.2]]) (by simp[results,Tryz.results16,go_sem,d0,d1]) rfl ⟨Below.setCell (Below.setCell (HBw.out _ HB6.out) (Nat.le_succ _) _) (Nat.le_succ _) _,?_⟩;rw[HX.out]
      ·rw[hg]at HRs HX
       simp only at HRs HX;clear hg
       go_wp2_with (go_at_call 29;(with_reducible refine HRs.out.mono ?_);rintro _ w6 ⟨hb6,sv,bv,rfl,hsv,hbv⟩;have HB6:=Ht HB5 hb6;have HSv:=Hd hsv;have HBv2:=Hd hbv;obtain⟨⟨d0,d1⟩,fd⟩:=HR.out w6 (HB5.out.trans (hb6.mono HB5.out.size));have fd0:=fd 0;have fd1:=fd 1;clear hb6 fd hsv hbv)
       refine bodyPost_ret (v:=.tuple #[sv,bv,.agg #[.int .i64 0,.int .i64 0]]) (by simp[results,Tryz.results16,go_sem,d0,d1]) rfl ⟨Below.setCell (Below.setCell (HBw.out _ HB6.out) (Nat.le_succ _) _) (Nat.le_succ _) _,?_⟩;obtain⟨h1,h2,h3,h4⟩:=HX.out;rw[h1];simp only;rw[h2,← h3,← h4];have hz:w.heap.size+1<wr.heap.size:=zv5 HXr.out HB5.out.size;have hmv:∀k,wr.heap.size≤k→((w6.setCell ⟨w.heap.size+1,0,none⟩ (.int .i64 0)).setCell ⟨w.heap.size+1,1,none⟩ (.int .i64 0)).heap[k]?=w6.heap[k]?:=fun k hk=>by
        have hne:k≠w.heap.size+1:=by omega
        rw[Below.heap_setCell _ _ _ _ hne,Below.heap_setCell _ _ _ _ hne]
       exact⟨_,_,rfl,za4 HSv.out (by omega) hmv,za4 HBv2.out (by omega) hmv⟩
    ·rw[decide_eq_false c1]at he
     have HN2:=Hd (HNo.out (fun h=>c1 h.1));clear c1 HAt HNo
     go_wp2_with fail
     go_roundg (Q.length-(i+1))
     case measure=>omega
     case rel=>exact⟨i+1,by omega,by omega,by rw[zv9];rfl,rfl,HN2⟩
   ·obtain rfl:i=Q.length:=by omega
    have HFin:=Hd (zgP HFi.out (zrq (n:=n) HFo.out (fun j hj=>HN.out j hj (by
     have h1:Q.length=fs.funcs.length:=by rw[← HQf.out,List.length_map]
     omega))))
    obtain⟨⟨d0,d1⟩,fd⟩:=HR.out wr HB5.out;have fd0:=fd 0;have fd1:=fd 1;clear HN fd
    go_wp2_with fail
    exact bodyPost_ret (v:=.tuple #[.slice none 0 0,.slice none 0 0,.agg #[.int .i64 0,.int .i64 4]]) (by simp[results,Tryz.results16,go_sem,d0,d1]) rfl ⟨Below.setCell (Below.setCell (HBw.out _ HB5.out) (Nat.le_succ _) _) (Nat.le_succ _) _,by rw[HFin.out]⟩
end Go.Proofs.YtbbaooeioogijaaGreatDoor
namespace Go.Proofs.YtbbaooeioogijaaGreatDoor
open Go.RowKit
set_option maxRecDepth 100000
set_option maxHeartbeats 4000000
theorem zs7:(Tryz.prog.info? 100).map (fun i=>(i.zero,i.size,i.bytes))=some (some (.agg #[.int .i64 0,.int .i64 0]),2,16):=by kernel_rfl
def zeE (x:Nat × Nat):List Value:=[.int .i64 (x.1:Int),.int .i64 (x.2:Int)]
theorem zmz (x:Nat × Nat):(zeE x).length=2:=rfl
theorem zvj (t:List (Nat × Nat)):∀u ∈ t.flatMap zeE,u.oneCell'=true:=fun u hu=>by
 obtain⟨x,_,hx⟩:=List.mem_flatMap.1 hu;simp only[zeE,List.mem_cons,List.not_mem_nil,or_false]at hx;rcases hx with rfl|rfl<;>rfl
def StRow (w:World)(base:Nat)(v:Value)(L:List (Nat × Nat)):Prop:=w.ownsRow base 100 2 v L.length (L.flatMap zeE)
theorem zqh {w:World}{base g n cap:Nat}{L:List (Nat × Nat)}(h:StRow w base (.slice (some ⟨g,0,none⟩) n cap) L):g<w.heap.size:=(World.ownsRow.lt h g rfl).2
theorem StRow.some {w:World}{base:Nat}{v:Value}{L:List (Nat × Nat)}(h:StRow w base v L)(hn:L≠[]):∃g off cap,v=.slice (some ⟨g,off,none⟩) L.length cap∧∀(q:Nat) u,(L.flatMap zeE)[q]?=.some u→w.cell? ((⟨g,off,none⟩:Addr).add q)=.some u:=by
 obtain⟨a,cap,hv,hI,_⟩:=zpM zmz h rfl;obtain⟨g,off,rfl,_⟩:=hI hn;exact⟨g,off,cap,hv,ziR zmz hI⟩
theorem zrK (t:List Nd)(fr:List Nat)(k d:Nat):walkN t fr k d≠[]:=by unfold walkN;rw[zjD];simp
theorem zjC (a:Option Addr)(cap:Nat)(t:List Nd)(b:Option Addr)(capb:Nat)(fr:List Nat)(hG:Given t fr)(hbe:zah t=some fr):∀(m k d:Nat),k<m→k<t.length→d+k≤10000→∀w,WholeAt w a b t fr →
 Calls Tryz.prog 53 #[.slice a t.length cap,.slice b fr.length capb,.int .i64 (k:Int),.int .i64 (d:Int)] w fun e w'=>(∃v,e=.returned v∧StRow w' w.heap.size v (walkN t fr k d))∧Below w.heap.size w w'
 | 0,k,_,hm,_,_,_,_=>by omega
 | m+1,k,d,hm,hk,hdk,w,hW=>by
   have HRec:=Hd (zjC a cap t b capb fr hG hbe m);have HPt:=Hd (fun w (hW:WholeAt w a b t fr)=>zcR a cap t b capb fr w hW.nds hW.nats hG.le hG.formed k hk);have HW:=Hd hW;have HP:=Hd (fun (q:Nat) (h:q ∈ partsAt t fr k)=>hG.formed.parts_lt h);have HWq:=Hd (zgo hG.formed k d);have HLn:=Hd (fun p d (h:p<t.length)=>zdM hbe (p+1) p d (Nat.lt_succ_self p) h);have hpl:(partsAt t fr k).length≤4096:=by rw[zan (zv1 hk),zak];have:=(hG.formed.node k _ (zv1 hk)).2.1.le;have:=hG.le;omega
   have htl:=hG.le;obtain⟨i0,hi,hz0,hz1,hz2⟩:=info_parts zs7;have HI0:=Hd (And.intro hi (And.intro hz0 (And.intro hz1 hz2)));clear hi hz0 hz1 hz2 hW;generalize partsAt t fr k=P at *;have hb1:=ba1 w (.cells #[.int .i64 (k:Int),.int .i64 (d:Int)] 100);have HR1:=Hd (show StRow (w.alloc (.cells #[.int .i64 (k:Int),.int .i64 (d:Int)] 100)) w.heap.size (.slice (some ⟨w.heap.size,0,none⟩) 1 1) [(k,d)] from World.ownsRow_lit w #[.int .i64 (k:Int),.int .i64 (d:Int)] 1 (zv0 _) (by decide) rfl);have HW1:=Hd (HW.out.below hb1);have HPt1:=Hd (HPt.out _ HW1.out);have HB1:=Hd hb1;clear hb1
   go_enter Tryz.func53,Tryz.ntmps53
   go_wp2_with (go_at_call 78;(with_reducible refine HPt1.out.mono ?_);rintro e w2 ⟨⟨v,rfl,hrow⟩,hb2⟩;obtain⟨pa,pc,rfl,hP,_⟩:=hrow.is;have HN2:=Hd hP;have HB2:=Ht HB1 hb2;have HG2:=Hd (zeQ hrow);have HR2:=Hd (show StRow w2 w.heap.size (.slice (some ⟨w.heap.size,0,none⟩) 1 1) [(k,d)] from HR1.out.belowed hb2);clear hrow hb2 hP)
   have hsz2:w.heap.size+1≤w2.heap.size:=by have:=HB1.out;have:=HB2.out.size;have:=zqh HR2.out;omega
   go_wp2_with fail
   go_loopg [9,11] P.length (fun m v9 v11 wy=>∃(i g c:Nat),i≤P.length∧i+m=P.length∧v11=.int .i64 (i:Int)∧v9=.slice (some ⟨g,0,none⟩) ((k,d) :: zdL t fr P (d+1) i).length c∧Hid (StRow wy w.heap.size (.slice (some ⟨g,0,none⟩) ((k,d) :: zdL t fr P (d+1) i).length c) ((k,d) :: zdL t fr P (d+1) i))∧Hid (Below w.heap.size w wy)∧(g=w.heap.size∨w2.heap.size≤g)∧Hid (w2.heap.size≤wy.heap.size∧∀j,j<w2.heap.size→j≠w.heap.size→wy.heap[j]?=w2.heap[j]?))
   case atStart=>exact⟨0,w.heap.size,1,by omega,by omega,rfl,rfl,HR2,HB2,.inl rfl,Hd ⟨zv0 _,fun _ _ _=>rfl⟩⟩
   case round=>
    obtain⟨i,g,c,hi,him,rfl,rfl,HR,HB,hg,HS⟩:=hrel
    by_cases hlt:i<P.length
    ·obtain⟨pb,po,hpa,hpb,x2⟩:=zbY HN2.out hlt
     subst hpa;have hpn:=HG2.out _ _ _ _ rfl (by omega);rw[World.size_alloc]at hpn;have x3:wr.cell? ⟨pb,po+i,none⟩=some (.int .i64 (P[i]:Int)):=by rw[World.cell?_of_block (HS.out.2 pb hpb (by omega))];exact x2
     obtain⟨p,hp⟩:∃p,p=P[i]:=⟨_,rfl⟩
     rw[← hp]at x3;have hpk:=HP.out p (by rw[hp];exact zwb hlt);have hdn:=zkQ (t:=t) (fr:=fr) (d:=d+1) hlt;have hdp:=List.IsPrefix.length_le (zjk (t:=t) (fr:=fr) (P:=P) (d:=d+1) (i:=i+1));have hwl:=congrArg List.length HWq.out;have hkl:=HLn.out k d hk;rw[hdn,List.length_append,← hp]at hdp;rw[List.length_cons]at hwl;have HDn:=Hd (show (k,d) :: zdL t fr P (d+1) (i+1)=((k,d) :: zdL t fr P (d+1) i)++walkN t fr p (d+1) by rw[hdn,← hp];rfl);have HC:=Hd (HRec.out p (d+1) (by omega) (by omega) (by omega) wr (HW.out.below HB.out));rw[Int.natCast_succ]at HC;have hne:=zrK t fr p (d+1);have hpos:=zwc hne;have hsum:((k,d) :: zdL t fr P (d+1) i).length+(walkN t fr p (d+1)).length≤4097:=by rw[List.length_cons];omega
     clear x2 hp hdn hdp hwl hkl;generalize ((k,d) :: zdL t fr P (d+1) i)=Q at *;generalize walkN t fr p (d+1)=R at *;have hfl:=zfj zmz R
     go_wp2_with (first|(go_at_call 53;(with_reducible refine HC.out.mono ?_);rintro e w4 ⟨⟨v2,rfl,hr2⟩,hb4⟩;obtain⟨g2,o2,c2,rfl,hn2⟩:=hr2.some hne;have HN4:=Hd hn2;have HB4:=Hd hb4;have HR4:=Hd (HR.out.belowed hb4);have hbz4:=(HB.out.trans (hb4.mono HB.out.size)).size;clear hr2 hb4 hn2)|(at_builtin;go_loud (refine wpList_append_lies _ rfl _ _ _ rfl w.heap.size 100 i0 (.agg #[.int .i64 0,.int .i64 0]) 2 16 Tryz.underlying96 HI0.out.1 HI0.out.2.1 HI0.out.2.2.1 HI0.out.2.2.2 rfl (by decide) (.slice (some ⟨g,0,none⟩) Q.length c) Q.length (Q.flatMap zeE) rfl HR4.out ⟨g2,o2,none⟩ R.length c2 (R.flatMap zeE) rfl hfl HN4.out (zvj R) hpos (by unfold maxLen;omega) (by omega) hbz4 w4.heap.size rfl ?_);intro g5 c5 w5 hown5 hgrow5 hat5 _))
     go_roundg (P.length-(i+1))
     case measure=>omega
     case rel=>
      refine⟨i+1,g5,c5,by omega,by omega,by rw[zv9];rfl,by rw[HDn.out,List.length_append],Hd (by rw[HDn.out];unfold StRow;rw[List.length_append,List.flatMap_append];exact hown5),Hd ((HB.out.trans (HB4.out.mono HB.out.size)).grown hgrow5 hbz4 (fun k hk=>by simp[Value.ownBlock]at hk;omega)),?_,Hd ⟨by have:=hgrow5.size;have:=HB4.out.size;have:=HS.out.1;omega,fun j hj hjw=>?_⟩⟩
      ·rcases hat5 with h|h
       ·simp[Value.ownBlock]at h;omega
       ·right;have:=HB4.out.size;have:=HS.out.1;omega
      ·rw[hgrow5.block j (by have:=HB4.out.size;have:=HS.out.1;omega) (by simp[Value.ownBlock];omega),HB4.out.block j (by have:=HS.out.1;omega)]
       exact HS.out.2 j hj hjw
    ·obtain rfl:i=P.length:=by omega
     go_wp2_with fail
     go_ret;refine⟨⟨_,rfl,?_⟩,HB.out⟩;rw[HWq.out,← znj];exact HR.out
set_option maxHeartbeats 4000000
theorem zrF {t:List Nd}{fr:List Nat}{k:Nat}(h:t.length=k+1):zaz t fr=walkN t fr k 1:=by unfold zaz;rw[h,Nat.add_sub_cancel]
theorem zpG (a:Option Addr)(cap:Nat)(t:List Nd)(w:World)(hI:zaV w.heap.size w a t)(hOk:∀x ∈ t,NdOk x)(hz:t.length*64≤140737488351232)(h:checkN9 t=0) :
 Calls Tryz.prog 32 #[.slice a t.length cap] w fun e w'=>(∃v fr,e=.returned (.tuple #[v,.int .i64 0])∧zah t=some fr∧StRow w' w.heap.size v (zaz t fr))∧Below w.heap.size w w':=by
 have HL:=Hd (zcT a cap t w hI hOk hz);rw[h]at HL;obtain⟨fr,hbe,hG⟩:=zc0 h;obtain⟨k,hk⟩:∃k,t.length=k+1:=⟨t.length-1,by have:=hG.formed.pos;omega⟩
 have hle:=hG.le;have HBe:=Hd hbe;have HI:=Hd hI;have HBg:=Hd (fun w (hI:zaV w.heap.size w a t)=>zdW a cap t w hI hG.le hOk);have HWd:=Hd (fun b capb w hW=>zjC a cap t b capb fr hG hbe (k+1) k 1 (by omega) (by omega) (by omega) w hW);have HEq:=Hd (zrF (fr:=fr) hk);have hk1:(t.length:Int)-1=(k:Int):=by omega
 clear hI hOk h hbe hG hk
 go_enter Tryz.func32,Tryz.ntmps32
 go_upto_region 4 with (go_at_call 51;(with_reducible refine HL.out.mono ?_);rintro e w1 ⟨rfl,hb1⟩;have HB:=Hd hb1;clear hb1)
 have hI1:=Hd ((HI.out.below HB.out (zv0 _)).mono HB.out.size);have HB1:=Hd (HBg.out w1 hI1.out)
 go_upto_region 5 with (go_at_call 52;(with_reducible refine HB1.out.mono ?_);rintro e w2 ⟨⟨v,ok,rfl,hok,hrow⟩,hb2⟩;have hok2:ok=true:=(by rw[hok,HBe.out];rfl);clear hok;subst hok2;obtain⟨fr2,hfr,hrow⟩:=hrow rfl;obtain rfl:=zv4 (HBe.out.symm.trans hfr);obtain⟨b,capb,rfl,hN,_⟩:=hrow.is;have HB2:=Ht HB hb2;have HW2:=Hd (show WholeAt w2 a b t fr from ⟨(hI1.out.below hb2 (zv0 _)).mono hb2.size,hN⟩);clear hb2 hrow hN hfr)
 have HP1:=Hd (HWd.out b capb w2 HW2.out)
 go_wp2_with (go_at_call 53;refine HP1.out.mono ?_;rintro e w3 ⟨⟨v,rfl,hr⟩,hb3⟩;have HR:=Hd hr;have HB3:=Hd hb3;clear hr hb3)
 go_ret2
 refine⟨⟨v,fr,rfl,HBe.out,?_⟩,HB2.out.trans (HB3.out.mono HB2.out.size)⟩;rw[HEq.out];exact zlI HR.out HB2.out.size
end Go.Proofs.YtbbaooeioogijaaGreatDoor
namespace Go.Proofs.YtbbaooeioogijaaGreatDoor
open Go.RowKit Go.Shelf
set_option maxRecDepth 100000
set_option maxHeartbeats 4000000
attribute [local go_sem] Oper.semAt_some
def rowB (bn:Nat)(W:World):Option Nat:=(W.cell? ⟨bn,0,none⟩).bind Value.ownBlock
def RowOk (bn:Nat)(W:World):Prop:=(W.cell? ⟨bn,0,none⟩).isSome=true∧∀g,rowB bn W=some g→bn<g∧g<W.heap.size
structure KeepR (bn:Nat)(W W':World):Prop where
 os:W'.os=W.os
 tape:W'.tape=W.tape
 output:W'.output=W.output
 size:W.heap.size≤W'.heap.size
 rest:RowOk bn W→RowOk bn W'∧(∀(k:Nat) (o:Obj),k≠bn→rowB bn W≠some k→W.heap[k]?=some o→o.isCells=true→W'.heap[k]?=some o)∧∀g,rowB bn W'=some g→rowB bn W=some g∨W.heap.size≤g
theorem KeepR.refl (bn:Nat)(W:World):KeepR bn W W:=⟨rfl,rfl,rfl,zv0 _,fun h=>⟨h,fun _ _ _ _ h _=>h,fun _ h=>.inl h⟩⟩
theorem KeepR.trans {bn:Nat}{A B C:World}(h:KeepR bn A B)(k:KeepR bn B C):KeepR bn A C:=
 ⟨k.os.trans h.os,k.tape.trans h.tape,k.output.trans h.output,zv6 h.size k.size,fun hA=>by
   obtain⟨hB,b1,b2⟩:=h.rest hA;obtain⟨hC,c1,c2⟩:=k.rest hB;refine⟨hC,fun i o hi hr ho hc=>c1 i o hi (fun e=>?_) (b1 i o hi hr ho hc) hc,fun g e=>?_⟩
   ·rcases b2 i e with e|e
    ·exact hr e
    ·have:=zaa ho;omega
   ·rcases c2 g e with e|e
    ·exact b2 g e
    ·exact .inr (zv6 h.size e)⟩
theorem zeg {bn:Nat}{W W':World}(h:Below W.heap.size W W')(hb:bn<W.heap.size):rowB bn W'=rowB bn W:=by unfold rowB;rw[h.cell hb]
theorem RowOk.below {bn:Nat}{W W':World}(h:RowOk bn W)(hb:Below W.heap.size W W')(hbn:bn<W.heap.size):RowOk bn W':=
 ⟨by rw[hb.cell hbn];exact h.1,fun g e=>by rw[zeg hb hbn]at e;exact⟨(h.2 g e).1,zv5 (h.2 g e).2 hb.size⟩⟩
theorem KeepR.of_below {bn:Nat}{W W':World}(h:Below W.heap.size W W')(hbn:bn<W.heap.size):KeepR bn W W':=
 ⟨h.os,h.tape,h.output,h.size,fun hr=>⟨hr.below h hbn,fun k _ _ _ ho _=>(h.block k (zaa ho)).trans ho,fun g e=>.inl (by rw[← zeg h hbn];exact e)⟩⟩
theorem KeepR.cell {bn:Nat}{W W':World}(h:KeepR bn W W')(hr:RowOk bn W){p:Addr}{v:Value}(hp:p.block≠bn)(hg:rowB bn W≠some p.block)(hc:W.cell? p=some v):W'.cell? p=some v:=by
 unfold World.cell? at hc ⊢
 split at hc
 ·rename_i cs T fz hb
  rw[(h.rest hr).2.1 _ _ hp hg hb rfl];exact hc
 ·cases hc
theorem KeepR.sl {α:Type}{kk:Nat}{cells:α→List Value}{bn B:Nat}{W W':World}(h:KeepR bn W W')(hr:RowOk bn W){a:Option Addr}{L:List α}(hs:IsSl kk cells B W a L)(hB:B≤bn):IsSl kk cells B W' a L:=fun hn=>by
 obtain⟨b,off,ha,hlt,hc⟩:=hs hn;exact⟨b,off,ha,hlt,fun i x hx j u hu=>h.cell hr (by show b≠bn;omega) (fun e=>by have:=(hr.2 _ e).1;simp only at this;omega) (hc i x hx j u hu)⟩
def ztI {t:List Nd}(L:List (Nat × Nat))(bn:Nat)(J Jx:List (Elt t)→World→Prop)(pre:List (Elt t))(W:World)(e:Ending)(W':World):Prop:=
 (e=.returned (.bool true)∧∃q,elts q=L∧J (pre++q) W'∧KeepR bn W W')∨(e=.returned (.bool false)∧∃q,elts q <+: L∧Jx (pre++q) W')
theorem zmr (a:Option Addr)(cap:Nat)(t:List Nd)(b:Option Addr)(capb:Nat)(fr:List Nat)(hG:Given t fr)(l bn N B:Nat)(J Jx:List (Elt t)→World→Prop)(hJ:AbidesFrom B J)
 (hY:∀m pre (x:Elt t) W,J pre W→pre.length<N→YieldAt Fence.wide m Tryz.prog l (eltV x) W fun e W'=>
   (e=.returned (.bool true)∧J (pre++[x]) W'∧KeepR bn W W')∨(e=.returned (.bool false)∧Jx (pre++[x]) W')) :
 ∀(m k d n:Nat) (pre:List (Elt t)) (W:World),k<m→k<t.length→d+k≤10000→zaV bn W a t→zdm bn W b fr→bn<W.heap.size→RowOk bn W→J pre W→pre.length+(walkN t fr k d).length≤N →
  CallsIn Fence.wide n Tryz.prog 49 #[.agg #[.slice a t.length cap,.slice b fr.length capb],.int .i64 (k:Int),.int .i64 (d:Int),.func (.yield l) #[] #[]] W (ztI (walkN t fr k d) bn J Jx pre W)
 | 0,k,_,_,_,_,hk,_,_,_,_,_,_,_,_=>by omega
 | m+1,k,d,n,pre,W,hkm,hk,hdk,hI,hF,hbn,hro,hj,hN=>by
   have hw:=zgo hG.formed k d;have HP:=Hd (fun (q:Nat) (h:q ∈ partsAt t fr k)=>hG.formed.parts_lt h);have HPt:=Hd (fun W1 (hI:zaV W1.heap.size W1 a t) (hF:zdm W1.heap.size W1 b fr)=>zgG a cap t b capb fr W1 hI hF hG.le hG.formed k hk);have HRec:=Hd (fun p d n pre W h1 h2 h3 h4 h5 h6 h7 h8 h9=>zmr a cap t b capb fr hG l bn N B J Jx hJ hY m p d n pre W h1 h2 h3 h4 h5 h6 h7 h8 h9);generalize hPq:partsAt t fr k=P at *;have HWq:=Hd hw;have hpl:P.length≤4096:=by rw[← hPq,zan (zv1 hk),zak];have:=(hG.formed.node k _ (zv1 hk)).2.1.le;have:=hG.le;omega
   clear hw hPq;have hx0:(W.alloc (.cells #[.slice a t.length cap,.slice b fr.length capb] 126)).heap[W.heap.size]?=some (.cells #[.slice a t.length cap,.slice b fr.length capb] 126 (0,0)):=zv8 _ _;have hb0:Below W.heap.size W (W.alloc (.cells #[.slice a t.length cap,.slice b fr.length capb] 126)):=ba1 _ _;have hz0:W.heap.size<(W.alloc (.cells #[.slice a t.length cap,.slice b fr.length capb] 126)).heap.size:=by simp
   have hdd:∀k:Nat,(Fence.wide.depth.isSome=true→1≤k):=fun k h=>by cases h
   have hlen:pre.length<N:=by have:=congrArg List.length HWq.out;rw[List.length_cons]at this;omega
   have hYW:=hY (n-1) pre ⟨(k,d),hk⟩ _ (zgk hJ hj hb0) hlen;refine callsIn_of_wp Tryz.func49 rfl trivial ?_ rfl;simp only[Tryz.ntmps49,List.size_toArray,List.length_cons,List.length_nil,Nat.reduceAdd,Nat.reduceSub,Array.replicate_succ,Array.replicate_zero,List.push_toArray,List.append_toArray,List.nil_append,List.cons_append];obtain⟨fn,tmps,assign,body,hy,hR⟩:=hYW;have HJ:=Hd hJ;have HI:=Hd hI;have HF:=Hd hF;have HX0:=Hd hx0;have HB0:=Hd hb0;have HR:=Hd hR;have HN:=Hd hN;clear hj hI hF hx0 hb0 hJ hY hR hN
   dsimp only[eltV]at hy
   gi_wp2
   refine⟨hdd _,?_⟩;refine HR.out.mono ?_;rintro e W1 (⟨rfl,hj1,hk1⟩|⟨rfl,hj1⟩)
   ·have hro0:=hro.below HB0.out hbn
    have hr0:=zeg HB0.out hbn;have hne0:rowB bn (W.alloc (.cells #[.slice a t.length cap,.slice b fr.length capb] 126))≠some W.heap.size:=fun e=>by rw[hr0]at e;have:=(hro.2 _ e).2;omega
    have hx1:=(hk1.rest hro0).2.1 _ _ (by omega) hne0 HX0.out rfl;have hro1:=(hk1.rest hro0).1;have hrw1:∀g,rowB bn W1=some g→g≠W.heap.size:=fun g e=>by
     rcases(hk1.rest hro0).2.2 g e with e|e
     ·rw[hr0]at e;have:=(hro.2 _ e).2;omega
     ·omega
    clear hr0 hne0;have HX1:=Hd hx1;have HK1:=Hd ((KeepR.of_below (bn:=bn) HB0.out hbn).trans hk1);have HJ1:=Hd hj1;obtain⟨⟨z0,z1⟩,_⟩:=zab hx1;have hz1:=zaa hx1;have hbn1:bn<W1.heap.size:=by omega
    have hI1:=HK1.out.sl hro HI.out (zv0 _);have hF1:=HK1.out.sl hro HF.out (zv0 _);have HP1:=Hd (HPt.out W1 (hI1.mono (by omega)) (hF1.mono (by omega)));clear hj1 hk1 hx1 hI1 hF1
    gi_wp2_with (refine⟨trivial,hdd _,?_⟩;gi_at_call 74;refine(callsIn_wide.2 HP1.out).mono ?_;rintro e W2 ⟨⟨v,rfl,hrow⟩,hb2⟩;have HR2:=Hd hrow;have HB2:=Hd hb2;obtain⟨pa,pc,rfl,hN2,_⟩:=hrow.is;have HN2:=Hd hN2;clear hrow hb2 hN2)
    have hN2g:=zeQ HR2.out;have hx2:=(HB2.out.block _ hz1).trans HX1.out;obtain⟨⟨y0,y1⟩,_⟩:=zab hx2;have hK2:=HK1.out.trans (KeepR.of_below (bn:=bn) HB2.out hbn1);have hro2:=hro1.below HB2.out hbn1;have hrw2:∀g,rowB bn W2=some g→g≠W.heap.size∧g<W1.heap.size:=fun g e=>by rw[zeg HB2.out hbn1]at e;exact⟨hrw1 g e,(hro1.2 g e).2⟩
    have hj2:=zgk HJ.out HJ1.out HB2.out;have HG:=Hd hN2g;have HX2:=Hd hx2;have HK2:=Hd hK2;have HJ2:=Hd hj2;have hz2:=zaa hx2;have HI2:=Hd (HK2.out.sl hro HI.out (zv0 _));have HF2:=Hd (HK2.out.sl hro HF.out (zv0 _));have hbn2:bn<W2.heap.size:=by omega
    clear hx2 hK2 hj2 hN2g
    gi_loopw [20] (fun v20 wr=>∃(i:Nat) (q:List (Elt t)),i≤P.length∧v20=.int .i64 (i:Int)∧elts q=(k,d) :: zdL t fr P (d+1) i∧J (pre++q) wr∧KeepR bn W2 wr) (fun v20 _=>P.length-(intOf v20).toNat)
    case atStart=>exact⟨0,[⟨(k,d),hk⟩],by omega,rfl,rfl,HJ2.out,KeepR.refl _ _⟩
    case round=>
     obtain⟨i,q,hi,rfl,hq,hjr,hkr⟩:=hrel;have HQ:=Hd hq;have HJr:=Hd hjr;have HKr:=Hd hkr;clear hq hjr hkr
     by_cases hlt:i<P.length
     ·obtain⟨pb,po,hpa,hpb,c2⟩:=zbY HN2.out hlt
      subst hpa;have hpn:=HG.out _ _ _ _ rfl (by omega);have c3:=HKr.out.cell hro2 (p:=⟨pb,po+i,none⟩) (by show pb≠bn;omega) (fun e=>by have:=(hrw2 _ e).2;simp only at this;omega) c2;have r0:=HKr.out.cell hro2 (p:=⟨W.heap.size,0,none⟩) (by show W.heap.size≠bn;omega) (fun e=>(hrw2 _ e).1 rfl) y0;have r1:=HKr.out.cell hro2 (p:=⟨W.heap.size,1,none⟩) (by show W.heap.size≠bn;omega) (fun e=>(hrw2 _ e).1 rfl) y1;obtain⟨p,hp⟩:∃p,p=P[i]:=⟨_,rfl⟩
      rw[← hp]at c3;have hpk:=HP.out p (by rw[hp];exact zwb hlt);have hdn:=zkQ (t:=t) (fr:=fr) (d:=d+1) hlt;have hdp:=List.IsPrefix.length_le (zjk (t:=t) (fr:=fr) (P:=P) (d:=d+1) (i:=i+1));have hql:=zni q;have hwl:=congrArg List.length HWq.out;rw[HQ.out]at hql;rw[hdn,List.length_append,← hp]at hdp;rw[List.length_cons]at hwl hql;have hNr:=HN.out;have HC:=Hd (HRec.out p (d+1) (n-1) (pre++q) wr (by omega) (by omega) (by omega) (HKr.out.sl hro2 HI2.out (zv0 _)) (HKr.out.sl hro2 HF2.out (zv0 _)) (by have:=HKr.out.size;omega) (HKr.out.rest hro2).1 HJr.out (by rw[List.length_append];omega));have HDn:=Hd (show zdL t fr P (d+1) (i+1)=zdL t fr P (d+1) i++walkN t fr p (d+1) by rw[hdn,← hp]);clear c2 hp hdn hdp hql hwl hNr
      gi_wp2_with (refine⟨trivial,hdd _,?_⟩;gi_at_call 49;refine HC.out.mono ?_;rintro e W3 (⟨rfl,q3,hq3,hj3,hk3⟩|⟨rfl,q3,hq3,hj3⟩))
      ·have HQ3:=Hd (show elts (q++q3)=(k,d) :: zdL t fr P (d+1) (i+1) by rw[zji,HQ.out,hq3,HDn.out];rfl)
       have HJ3:=Hd (show J (pre++(q++q3)) W3 by rw[← List.append_assoc];exact hj3);clear hq3 hj3
       go_roundw
       case rel=>exact⟨i+1,q++q3,by omega,by go_num,HQ3.out,HJ3.out,HKr.out.trans hk3⟩
       case measure=>simp[intOf];omega
      ·have HQ3:=Hd (show elts (q++q3) <+: walkN t fr k d by
        rw[zji,HQ.out,HWq.out];refine List.IsPrefix.trans ?_ (List.prefix_cons_inj (k,d) |>.2 (zjk (t:=t) (fr:=fr) (P:=P) (d:=d+1) (i:=i+1)));rw[HDn.out,List.cons_append]
        exact List.prefix_cons_inj _ |>.2 (List.prefix_append_right_inj _ |>.2 hq3))
       have HJ3:=Hd (show Jx (pre++(q++q3)) W3 by rw[← List.append_assoc];exact hj3);clear hq3 hj3;go_ret;exact .inr ⟨rfl,q++q3,HQ3.out,HJ3.out⟩
     ·obtain rfl:i=P.length:=by omega
      gi_wp2
      go_ret;exact .inl ⟨rfl,q,by rw[HQ.out,HWq.out,znj],HJr.out,HK2.out.trans HKr.out⟩
   ·have HJ1:=Hd hj1
    clear hj1
    gi_wp2
    go_ret;exact .inr ⟨rfl,[⟨(k,d),hk⟩],by rw[HWq.out];exact⟨_,rfl⟩,HJ1.out⟩
theorem zo9 (a:Option Addr)(cap:Nat)(t:List Nd)(b:Option Addr)(capb:Nat)(fr:List Nat)(hG:Given t fr)(l bn bw n B:Nat)(J Jx:List (Elt t)→World→Prop)(hJ:AbidesFrom B J)
 (hY:∀m pre (x:Elt t) W,J pre W→pre.length<(zaz t fr).length→YieldAt Fence.wide m Tryz.prog l (eltV x) W fun e W'=>
   (e=.returned (.bool true)∧J (pre++[x]) W'∧KeepR bn W W')∨(e=.returned (.bool false)∧Jx (pre++[x]) W'))
 (W:World) (z0:W.cell? ⟨bw,0,none⟩=some (.slice a t.length cap)) (z1:W.cell? ⟨bw,1,none⟩=some (.slice b fr.length capb)) (hI:zaV bn W a t) (hF:zdm bn W b fr) (hbn:bn<W.heap.size) (hro:RowOk bn W) (hj:J [] W) :
 CallsIn Fence.wide n Tryz.prog 48 #[.func (.yield l) #[] #[],.pointer (some ⟨bw,0,none⟩)] W fun e W'=>(∃v,e=.returned v) ∧
  ((∃ys,elts ys=zaz t fr∧J ys W')∨(∃pre,elts pre <+: zaz t fr∧Jx pre W')):=by
 have hdd:∀k:Nat,(Fence.wide.depth.isSome=true→1≤k):=fun k h=>by cases h
 obtain⟨k,hk⟩:∃k,t.length=k+1:=⟨t.length-1,by have:=hG.formed.pos;omega⟩
 have hle:=hG.le;have hw:zaz t fr=walkN t fr k 1:=by unfold zaz;rw[hk,Nat.add_sub_cancel]
 have HC:=Hd (zmr a cap t b capb fr hG l bn (zaz t fr).length B J Jx hJ hY (k+1) k 1 (n-1) [] W (by omega) (by omega) (by omega) hI hF hbn hro hj (by rw[hw];simp));have hk1:(t.length:Int)-1=(k:Int):=by omega
 have HW:=Hd hw;clear hJ hY hI hF hj hw hk;refine callsIn_of_wp Tryz.func48 rfl trivial ?_ rfl;simp only[Tryz.ntmps48,List.size_toArray,List.length_cons,List.length_nil,Nat.reduceAdd,Nat.reduceSub,Array.replicate_succ,Array.replicate_zero,List.push_toArray,List.append_toArray,List.nil_append,List.cons_append]
 gi_wp2_with (refine⟨trivial,hdd _,?_⟩;gi_at_call 49;refine HC.out.mono ?_;rintro e W3 (⟨rfl,q3,hq3,hj3,hk3⟩|⟨rfl,q3,hq3,hj3⟩))
 ·go_end0
  exact⟨⟨_,rfl⟩,.inl ⟨q3,by rw[HW.out,hq3],hj3⟩⟩
 ·go_end0
  exact⟨⟨_,rfl⟩,.inr ⟨q3,by rw[HW.out];exact hq3,hj3⟩⟩
theorem zjE (a:Option Addr)(cap:Nat)(t:List Nd)(b:Option Addr)(capb:Nat)(fr:List Nat)(hG:Given t fr)(bn bw n:Nat)(w:World)(hbw:bw<w.heap.size)(hbn:bn<w.heap.size)
 (z0:w.cell? ⟨bw,0,none⟩=some (.slice a t.length cap)) (z1:w.cell? ⟨bw,1,none⟩=some (.slice b fr.length capb)) (hI:zaV bn w a t) (hF:zdm bn w b fr) (hro:RowOk bn w) :
 SeqStopsK Fence.wide n Tryz.prog 48 #[.pointer (some ⟨bw,0,none⟩)] (eltV (t:=t)) (KeepR bn) (fun ys=>elts ys=zaz t fr) (fun pre=>elts pre <+: zaz t fr) (zaz t fr).length w:=fun l J Jx W hW hJ _ hY h0=>
 zo9 a cap t b capb fr hG l bn bw n W.heap.size J Jx hJ (fun m pre x W1 hj hl=>by
  obtain⟨fn,tmps,assign,body,hy,hR⟩:=hY pre x W1 hj hl
  exact⟨fn,tmps,assign,body,hy,hR.1,fun c cs _=>hR.2 c cs (room_wide _)⟩) W
  ((hW.cell (p:=⟨bw,0,none⟩) hbw).trans z0) ((hW.cell (p:=⟨bw,1,none⟩) hbw).trans z1) (hI.below hW (zv7 hbn)) (hF.below hW (zv7 hbn)) (zv5 hbn hW.size) (hro.below hW hbn) h0
theorem zuz {bn:Nat}{A B C:World}(h:KeepR bn A B)(k:KeepR bn B C):KeepR bn A C:=h.trans k
theorem zuA {bn:Nat}{w:World}(W:World)(l:Nat)(o o':Obj)(_:w.heap.size≤l)(h:W.heap[l]?=some o)(hc:o.isCells=false)(_:o.isWalk=false):KeepR bn W (W.putObj l o'):=by
 have hg:=grownBy_putObj' W l o';refine⟨rfl,rfl,rfl,hg.size,fun hr=>?_⟩;have hbl:bn≠l:=fun e=>by
  subst e;have h1:=hr.1;unfold World.cell? at h1;simp only[h]at h1;cases o<;>simp_all [Obj.isCells]
 have hcl:(W.putObj l o').cell? ⟨bn,0,none⟩=W.cell? ⟨bn,0,none⟩:=by
  by_cases hlt:bn<W.heap.size
  ·exact World.cell?_of_block (a:=⟨bn,0,none⟩) (hg.block bn hlt (fun e=>hbl (by simpa using e)))
  ·exfalso
   have h1:=hr.1;unfold World.cell? at h1;have:W.heap[bn]?=none:=by rw[Array.getElem?_eq_none_iff];omega
   simp only[this]at h1;cases h1
 have hrb:rowB bn (W.putObj l o')=rowB bn W:=by unfold rowB;rw[hcl]
 refine⟨⟨by rw[hcl];exact hr.1,fun g e=>by rw[hrb]at e;exact⟨(hr.2 g e).1,zv5 (hr.2 g e).2 hg.size⟩⟩,fun k o2 _ _ hk hc2=>?_,fun g e=>.inl (by rw[← hrb];exact e)⟩;have hne:k≠l:=fun e=>by subst e;rw[h]at hk;cases hk;rw[hc]at hc2;cases hc2
 rw[hg.block k (zaa hk) (fun e=>hne (by simpa using e))];exact hk
end Go.Proofs.YtbbaooeioogijaaGreatDoor
namespace Go
def nrmQ (Q:Exit→Act→World→Prop):Exit→Act→World→Prop
 | .normal,a,w=>Q .normal a w
 | _,_,_=>False
def zgs (ops:Array Oper):Bool:=ops.toList.all fun o=>match o.op with
 | .defer _=>false
 | _=>true
theorem ziX {ops:Array Oper}(h:zgs ops=true){j:Nat}{o:Oper}(ho:ops[j]?=some o):∀c,o.op≠.defer c:=fun c e=>by
 unfold zgs at h;have:=List.all_eq_true.1 h o (by rw[← Array.mem_def];exact Array.mem_of_getElem? ho);rw[e]at this;cases this
theorem zjT {l n:Nat}{P:Program}{row:String}{args:Array Value}{w:World}{R:Value→World→Prop}(h:Rows P row args w R):RowsIn (Fence.wide.inRound l) n P row args w R:=
 fun c cs _=>let ⟨v,w',r,s⟩:=h c cs;⟨v,w',r,stepsIn_wide.2 s⟩
theorem Oper.wpIn_round {l n:Nat}{P:Program}{o:Oper}{a:Act}{w:World}{K:Act→World→Prop}{Q:Exit→Act→World→Prop}(hd:∀c,o.op≠.defer c)(h:o.wp P a w K (nrmQ Q)):o.wpIn (Fence.wide.inRound l) n P a w K Q:=by
 unfold Oper.wpIn;refine⟨fun _ _=>trivial,?_⟩;rw[Oper.semAt_plain _ _ _ hd];unfold Oper.wp at h;generalize (execOp a.eval o).run P w=r at *;cases r with
 | ok x w'=>
   cases x<;>simp only[Oper.upon,Oper.uponIn]at h ⊢
   case value v=>exact h
   case skip=>exact h
   case defer d=>exact h
   case enter f args=>
    refine⟨(fun hh=>by cases hh),CallsIn.inRound l (callsIn_wide.2 (h.mono fun e w'' he=>?_))⟩;cases e with
    | returned v=>exact he
    | panicked c=>exact he.elim
    | outgrown=>
      obtain⟨a',w3,h3⟩:=he;exact h3.elim
   case row row args=>exact⟨(fun hh=>by cases hh),zjT h⟩
 | halt x w'=>cases x<;>simp only[Oper.upon,Oper.uponIn]at h ⊢<;>exact h.elim
theorem zcq {l n:Nat}{P:Program}{md:Region.Mode}{ops:Array Oper}{Q:Exit→Act→World→Prop}(hd:zgs ops=true):∀(fuel:Nat) (listed:Array Bool) (a:Act) (w:World),wpAny P md ops (nrmQ Q) fuel listed a w→wpAnyIn (Fence.wide.inRound l) n P md ops Q fuel listed a w
 | 0,_,_,_,h=>h
 | fuel+1,listed,a,w,h=>⟨h.1,fun i hi=>by
   have h2:=h.2 i hi;unfold wpOp at h2;unfold wpOpIn
   split
   ·rename_i e
    simp only[e]at h2;exact zcq hd fuel _ _ _ h2
   ·rename_i o e
    simp only[e]at h2
    split
    ·rename_i hw
     rw[if_pos hw]at h2;rcases h2 with h2|⟨_,a',w',h2⟩
     ·exact Oper.wpIn_round (ziX hd e) (Oper.wp_mono (fun a' w' h'=>zcq hd fuel _ a' w' h') h2)
     ·exact h2.elim
    ·rename_i hw
     rw[if_neg hw]at h2
     exact⟨fun _ _=>trivial,zcq hd fuel _ _ _ h2⟩⟩
theorem zfr {l n id:Nat}{P:Program}{ops:Array Oper}{Q:Exit→Act→World→Prop}{a:Act}{w:World}(hm:P.follows .mixedOrders=true)(hd:zgs ops=true)(h:wpAny P .any ops (nrmQ Q) ops.size (Array.replicate ops.size false) a { w with drawn:=w.drawn+1 }):(Code.region id ops true).wpIn (Fence.wide.inRound l) n P Q a w:=
 wpIn_region_any hm (zcq hd _ _ _ _ h)
open Go.RowKit in
theorem zcn {F:Fence}{n:Nat}{P:Program}(w:World){ops:Array Oper}{rest:List Oper}{o:Oper}{a:Act}{Q:Exit→Act→World→Prop}
 (hg:o.guard=none) (s x:Operand) (t:TypeId) (hop:o.op=Op.call { callee:=Callee.builtin Builtin.append,args:=#[s,x],argTypes:=#[t,t] })
 (base:Nat) (e:TypeId) (i:TypeInfo) (z:Value) (size bytes:Nat) (h1:P.underlying t=some (.slice e)) (h2:P.info? e=some i) (h3:i.zero=some z) (h4:i.size=size) (h5:i.bytes=bytes) (h6:z.cells.size=size) (h7:0<size)
 (v:Value) (k:Nat) (xs:List Value) (hs:a.eval s=v) (hown:w.ownsRow base e size v k xs) (ad:Addr) (m c:Nat) (news:List Value) (hx:a.eval x=.slice (some ad) m c) (hn:news.length=m*size)
 (hc:∀j u,news[j]?=some u→w.cell? (ad.add j)=some u) (h1c:∀u ∈ news,u.oneCell'=true) (hm:0<m) (b1:k+m≤maxLen) (b2:(k+m)*bytes≤140737488355328) (b3:base≤w.heap.size)
 (hK:∀g cap w',w'.ownsRow base e size (.slice (some ⟨g,0,none⟩) (k+m) cap) (k+m) (xs++news)→w.grownBy w' v.ownBlock→(v.ownBlock=some g∨g=w.heap.size)→g<w'.heap.size→wpListIn F n P ops Q rest (a.put o.dst (.slice (some ⟨g,0,none⟩) (k+m) cap)) w') :
 wpListIn F n P ops Q (o :: rest) a w:=by
 refine wpListIn_plain hg fun K hK'=>?_
 obtain⟨g,cap,w',hrun,r1,r2,r3,r4⟩:=run_append_lies (P:=P) w t o.type base e i z size bytes h1 h2 h3 h4 h5 h6 h7 v k xs hown ad m c news hn hc h1c hm b1 b2 b3 _ rfl;unfold Oper.wpIn;refine⟨?_,?_⟩
 ·simp[Oper.about,hop,resolve,Target.leads,Sem.run_pure]
 ·rw[Oper.semAt_plain F _ _ (by rw[hop];intro c hc';cases hc')]
  simp[execOp,hop,resolve,invoke,builtin,hs,hx,hrun,Result.andThen];exact hK' _ _ (hK g cap w' r1 r2 r3 r4)
end Go
