/- What goes over the function of a name: the program. -/
import Derived.Test.YtbbaooeioogijaaGreatDoorResVd
namespace Go.Proofs.YtbbaooeioogijaaGreatDoor
open Go.RowKit Go.Maps
set_option maxRecDepth 100000
set_option maxHeartbeats 16000000
def zny (u:UnU)(n:ByteArray)(w:World)(e:Ending)(w':World):Prop:=Below w.heap.size w w'∧match za1 u with
 | .inl p=>e=.returned (.tuple #[.pointer none,.pointer none,.agg #[.int .i64 p.1,.int .i64 p.2]])
 | .inr fs=>match zbn fs n with
   | none=>e=.returned (.tuple #[.pointer none,.pointer none,.agg #[.int .i64 0,.int .i64 4]])
   | some f=>∃A B rb b vp vb sv ov,e=.returned (.tuple #[.pointer (some ⟨rb,0,none⟩),.pointer (some ⟨b,0,none⟩),.agg #[.int .i64 (goneR fs f).fault.1,.int .i64 (goneR fs f).fault.2]])∧w.heap.size≤A∧A≤B∧B≤w'.heap.size∧ResM B w' rb f vp vb sv ov (goneR fs f)∧IsFnU A w' f vp vb
theorem zeJ {u:UnU}{n:ByteArray}{s:FileN}{w w':World}(h1:za1 u=.inr s)(h2:zbn s n=none)(hb:Below w.heap.size w w'):zny u n w (.returned (.tuple #[.pointer none,.pointer none,.agg #[.int .i64 0,.int .i64 4]])) w':=by
 unfold zny;rw[h1];simp only;rw[h2];exact⟨hb,trivial⟩
theorem zm1 (n:Nat):(madeCells (bndV bnd0).cells (n*3)).toList=(List.replicate n bnd0).flatMap bndCells:=by
 refine List.ext_getElem? fun j=>?_
 have hl:((List.replicate n bnd0).flatMap bndCells).length=n*3:=by
  induction n with
  | zero=>rfl
  | succ n ih=>rw[List.replicate_succ,List.flatMap_cons,List.length_append,ih,zeZ];omega
 by_cases hj:j<n*3
 ·have h1:j / 3<n:=by omega
  have hd:j / 3*3+j % 3=j:=by omega
  have hr:(List.replicate n bnd0)[j / 3]?=some bnd0:=by rw[List.getElem?_replicate,if_pos h1]
  have h3:j % 3=0∨j % 3=1∨j % 3=2:=by omega
  have hc:(madeCells (bndV bnd0).cells (n*3)).toList[j]?=some ((bndV bnd0).cells[j % 3]!):=by
   unfold madeCells;simp[hj]
   rfl
  rw[hc]
  have:=zjd (k:=3) (cells:=bndCells) zeZ hr (j:=j % 3) (u:=((bndV bnd0).cells[j % 3]!)) (by
   rcases h3 with e|e|e<;>rw[e]<;>rfl)
  rw[hd]at this;rw[this]
 ·rw[List.getElem?_eq_none (by simp[madeCells];omega),List.getElem?_eq_none (by omega)]
theorem znH {B:Nat}{fs:FileN}{f:FnU}{vp vb ov:Value}{w w1:World}{rb sb c mb mt fm n:Nat}(hB:B≤rb)(hblk:w.heap[rb]?=some (.cells #[.int .i64 f.at_,.string f.name,.string f.type,vp,vb,.slice none 0 0,ov,.int .i64 0,.int .i64 0] 88 (0,0)))(ho:w.ownsRow B 78 3 ov f.body.length ((List.replicate f.body.length bnd0).flatMap bndCells))(hob:∀k,ov.ownBlock=some k→k≠rb∧k≠sb∧k≠fm)
 (hsb:w.heap[sb]?=some (.cells #[.map (some fm),.pointer none,.map none] 113 (0,0))) (hfm:MapB w fm n fs.look) (hne:sb≠rb∧fm≠rb) (hs:ScM w.heap.size w1 c mb mt (.pointer (some ⟨sb,0,none⟩)) ScN.new) (hb:Below w.heap.size w w1) :
 VisM B fs f vp vb w1 rb c mb mt (.pointer (some ⟨sb,0,none⟩)) ov (.slice none 0 0) [] ScN.new (zct f):=by
 have hrl:=zaa hblk;have hsl:=zaa hsb;have hfl:=hfm.lt;obtain⟨b1,b2,b3⟩:=hs.base;have hol:∀k,ov.ownBlock=some k→k<w.heap.size:=fun k e=>zbG ho e
 have hR:ResM B w rb f vp vb (.slice none 0 0) ov (zct f):=⟨hblk,World.ownsRow_nil _ _ _ _,by unfold zct;simpa using ho,hB,(fun k h=>by cases h),fun k e=>(hob k e).1⟩
 refine⟨hR.below hb,⟨hs.blk,hs.ents,hs.taken,⟨by omega,by omega,by omega⟩,hs.ne⟩,⟨sb,fm,n,rfl,⟨zv5 hsl hb.size,fun hT=>?_⟩,⟨zv5 hfl hb.size,fun hT=>?_⟩,(hb.block _ hsl).trans hsb,hfm.below hb⟩,⟨zaa hs.blk,fun hT=>?_⟩,⟨by omega,by omega⟩,(fun k h=>by cases h),fun k e=>by have:=hol k e;exact⟨by omega,by omega⟩⟩
 ·rcases hT with e|e|e|e|e
  ·exact hne.1 e
  ·omega
  ·omega
  ·cases e
  ·exact(hob _ e).2.1 rfl
 ·rcases hT with e|e|e|e|e
  ·exact hne.2 e
  ·omega
  ·omega
  ·cases e
  ·exact(hob _ e).2.2 rfl
 ·rcases hT with e|e|e|e|e
  ·omega
  ·exact hs.ne.1 e
  ·exact hs.ne.2.1 e
  ·cases e
  ·have:=hol _ e;omega
theorem zea {w:World}{a:Addr}{v:Value}(h:w.cell? a=some v):a.block<w.heap.size:=by
 unfold World.cell? at h
 split at h
 ·rename_i hb;exact zaa hb
 ·cases h
theorem zvG:(Tryz.prog.info? 78).map (fun i=>(i.zero,i.size,i.bytes))=some (some (.agg #[.int .i64 0,.int .i64 0,.string ⟨#[]⟩]),3,32):=by kernel_rfl
theorem ze5 (u:UnU)(vs vg vf:Value)(n:ByteArray)(w:World)(hE:TE w)(hU:IsUn w.heap.size w u vs vg vf)(hn:n.size≤maxLen) :
 Calls Tryz.prog 28 #[.agg #[vs,vg,vf],.string n] w (zny u n w):=by
 obtain⟨sa,sc,mv,rfl,_⟩:=hU.structs;obtain⟨ag,cg,rfl,_⟩:=zbc hU.globals;obtain⟨af,cf,rfl,_⟩:=zbd hU.funcs
 go_enter Tryz.func28,Tryz.ntmps28
 go_upto_region 1 with fail
 generalize hgQ:(w.alloc (.cells #[.slice sa u.structs.length sc,.slice ag u.globals.length cg,.slice af u.funcs.length cf] 26)).alloc (.cells #[.int .i64 0,.int .i64 0] 32)=w1 at *;obtain⟨hb1,hxq,hxr⟩:=box2 hgQ;clear hgQ;have HR:=Hd (fun w' (h:Below w1.heap.size w1 w')=>zab ((h.block _ (zaa hxr)).trans hxr));have HB1:=Hd hb1;have HFd:=Hd (zqV w.heap.size u _ _ _ w1 (hE.below hb1) hb1.size (hU.below hb1));obtain⟨⟨q0,q1,q2⟩,_⟩:=zac hxq;unfold zev at HFd;have HX:=Hd hxr;clear hxq hxr hU hE;rcases hf:za1 u with p|s
 ·obtain⟨ux,uc⟩:=p
  rw[hf]at HFd;simp only at HFd;have huc:uc≠0:=(zgy hf :)
  have t1:(uc != 0)=true:=by simpa using huc
  go_upto_region 2 with (go_at_call 21;(with_reducible refine HFd.out.mono ?_);rintro e w2 ⟨hb2,rfl⟩;have HB2:=Hd (hb2.alloc hb2.size (.cells #[.int .i64 ux,.int .i64 uc] 32));have HB1':=Hd hb2;clear hb2)
  obtain⟨⟨d0,d1⟩,fd⟩:=HR.out _ HB2.out;have fd0:=fd 0;have fd1:=fd 1;obtain⟨⟨y0,y1⟩,_⟩:=zab (zv8 w2 (.cells #[.int .i64 ux,.int .i64 uc] 32));clear q0 q1 q2;generalize w2.alloc (.cells #[.int .i64 ux,.int .i64 uc] 32)=w3 at *
  go_wp2_with fail
  go_region_law (fail)
  all_goals
   go_wp2_with fail
   exact bodyPost_ret (v:=.tuple #[.pointer none,.pointer none,.agg #[.int .i64 ux,.int .i64 uc]]) (by simp[results,Tryz.results28,go_sem,d0,d1]) rfl ⟨Below.drew (Below.setCell (Below.setCell (HB1.out.trans (HB2.out.mono HB1.out.size)) (Nat.le_succ _) _) (Nat.le_succ _) _),by rw[hf]⟩
 ·rw[hf]at HFd
  simp only at HFd;have HF:=Hd hf;clear hf
  go_upto_region 4 with (go_at_call 21;(with_reducible refine HFd.out.mono ?_);rintro e w2 ⟨hb2,B,b,mb,rfl,hwB,hBw,hm2⟩;have HB2:=Hd (hb2.alloc hb2.size (.cells #[.int .i64 0,.int .i64 0] 32));have HM2:=Hd (hm2.below (ba1 w2 (.cells #[.int .i64 0,.int .i64 0] 32)));obtain⟨⟨y0,y1⟩,_⟩:=zab (zv8 w2 (.cells #[.int .i64 0,.int .i64 0] 32));clear hb2 hm2 hBw)
  generalize w2.alloc (.cells #[.int .i64 0,.int .i64 0] 32)=w3 at *;clear q0 q1 q2 y0 y1;obtain⟨lv,Q,hc3,hown,hQ,hQF,hAB⟩:=HM2.out.funs;obtain⟨nn,hmap,hc0⟩:=HM2.out.name;have hl2:=hmap.look2 hn;have hok:=zeW HF.out;have HW3:=Hd (HB1.out.trans (HB2.out.mono HB1.out.size));rcases hlk:s.look n with _|⟨bk,bi,bt⟩
  ·have HNo:=Hd (show zbn s n=none by unfold zbn;rw[hlk])
   have hl3:(Instr.lookup 69 (.map (some mb)) (.string n) true).run Tryz.prog w3=.ok (.tuple #[.agg #[.int .i64 0,.int .i64 0,.string ⟨#[]⟩],.bool false]) w3:=by rw[hlk]at hl2;exact hl2
   clear hl2 hlk;have hb4:=ba1 w3 (.cells #[.int .i64 0,.int .i64 0,.string ⟨#[]⟩] 78)
   go_upto_region 5 with fail
   generalize w3.alloc (.cells #[.int .i64 0,.int .i64 0,.string ⟨#[]⟩] 78)=w4 at *;have HW4:=Ht HW3 hb4;obtain⟨⟨d0,d1⟩,fd⟩:=HR.out _ (HB2.out.trans (hb4.mono HB2.out.size));have fd0:=fd 0;have fd1:=fd 1;clear hb4 hc0 hc3 hmap hl3
   go_quiet (fail)
   go_wp2_with fail
   exact bodyPost_ret (v:=.tuple #[.pointer none,.pointer none,.agg #[.int .i64 0,.int .i64 4]]) (by simp[results,Tryz.results28,go_sem,d0,d1]) rfl (zeJ HF.out HNo.out (Below.setCell (Below.setCell (HW4.out.trans ((zaf (zv3 _ _) _).mono HW4.out.size)) (Nat.le_succ _) _) (Nat.le_succ _) _))
  ·have hl3:(Instr.lookup 69 (.map (some mb)) (.string n) true).run Tryz.prog w3=.ok (.tuple #[.agg #[.int .i64 bk,.int .i64 bi,.string bt],.bool true]) w3:=by rw[hlk]at hl2;exact hl2
   clear hl2;have hb4:=ba1 w3 (.cells #[.int .i64 bk,.int .i64 bi,.string bt] 78);obtain⟨⟨z0,z1,z2⟩,_⟩:=zac (zv8 w3 (.cells #[.int .i64 bk,.int .i64 bi,.string bt] 78));have HZ4:=Hd (zv8 w3 (.cells #[.int .i64 bk,.int .i64 bi,.string bt] 78))
   by_cases hk2:bk=2
   ·subst hk2
    obtain⟨hi0,hi1,hi2⟩:=hok.func hlk rfl;simp only at hi0 hi1 hi2;obtain⟨i,rfl⟩:∃i:Nat,bi=(i:Int):=⟨bi.toNat,by omega⟩
    rw[Int.toNat_natCast]at hi1 hi2;have hQl:Q.length=s.funcs.length:=by rw[← hQ,List.length_map]
    obtain⟨g,cap,rfl,hgB,hgl,hcn,hcm,hgc,hgf⟩:=zax zc8 hown hQl.symm (i:=i) (by omega);have hQi:(Q[i]'(by omega)).1=s.funcs[i]:=by
     have:=congrArg (fun l=>l[i]?) hQ;simp only[List.getElem?_map]at this;rw[zv1 (by omega),zv1 hi1]at this;exact zv4 this
    have hFi:=hQF _ (zwb (l:=Q) (n:=i) (by omega));generalize (Q[i]'(by omega))=q at *;obtain⟨f,vp,vb⟩:=q;simp only at hQi hFi;have hgd:s.funcs.getD i fnU0=f:=by rw[zv2,zv1 hi1,hQi];rfl
    have hfm:f ∈ s.funcs:=by rw[hQi];exact zwb hi1
    clear hQi;obtain⟨ab,cb,rfl,hob,hsb,hno⟩:=hFi.body;obtain⟨ap,cp,rfl,hop,hsp,hvo⟩:=hFi.params;have HFc:=Hd (fun w' (h:Below w3.heap.size w3 w')=>And.intro (And.intro ((h.cell (p:=⟨g,i*5,none⟩) hgl).trans (show w3.cell? ⟨g,i*5,none⟩=_ from hgc 0 _ rfl)) (And.intro ((h.cell (p:=⟨g,i*5+1,none⟩) hgl).trans (hgc 1 _ rfl)) (And.intro ((h.cell (p:=⟨g,i*5+2,none⟩) hgl).trans (hgc 2 _ rfl)) (And.intro ((h.cell (p:=⟨g,i*5+3,none⟩) hgl).trans (hgc 3 _ rfl)) ((h.cell (p:=⟨g,i*5+4,none⟩) hgl).trans (hgc 4 _ rfl)))))) ((h.cell (p:=⟨b,3,none⟩) (zea hc3)).trans hc3));have HFi:=Hd hFi;clear hgc hgf hown hQ hQF hQl hFi
    by_cases hbd:f.body=[]
    ·have HNo:=Hd (show zbn s n=none by unfold zbn;rw[hlk];simp only;rw[if_pos (.inr (by rw[Int.toNat_natCast,hgd];exact hbd))])
     have tz:((f.body.length:Int) == 0)=true:=by rw[hbd];rfl
     go_upto_region 5 with fail
     generalize w3.alloc (.cells #[.int .i64 2,.int .i64 (i:Int),.string bt] 78)=w4 at *;obtain⟨⟨x0,x1,x2,x3,x4⟩,k3⟩:=HFc.out _ hb4;have HW4:=Ht HW3 hb4;obtain⟨⟨d0,d1⟩,fd⟩:=HR.out _ (HB2.out.trans (hb4.mono HB2.out.size));have fd0:=fd 0;have fd1:=fd 1;clear hb4 hc0 hc3 hmap hl3 x0 x1 x2 x3 hbd hgd
     go_quiet (fail)
     go_wp2_with fail
     exact bodyPost_ret (v:=.tuple #[.pointer none,.pointer none,.agg #[.int .i64 0,.int .i64 4]]) (by simp[results,Tryz.results28,go_sem,d0,d1]) rfl (zeJ HF.out HNo.out (Below.setCell (Below.setCell (HW4.out.trans ((zaf (zv3 _ _) _).mono HW4.out.size)) (Nat.le_succ _) _) (Nat.le_succ _) _))
    ·have HYe:=Hd (show zbn s n=some f by unfold zbn;rw[hlk];simp only;rw[if_neg (by rw[Int.toNat_natCast,hgd];rintro(h|h);exact h rfl;exact hbd h),Int.toNat_natCast,hgd])
     have tz:((f.body.length:Int) == 0)=false:=by
      have:=zwc hbd;simp;omega
     go_upto_region 5 with fail
     generalize w3.alloc (.cells #[.int .i64 2,.int .i64 (i:Int),.string bt] 78)=w4 at *;obtain⟨⟨x0,x1,x2,x3,x4⟩,k3⟩:=HFc.out _ hb4;clear hl3 x0 x1 x2 x3
     go_quiet (fail)
     have hb5:=hb4.trans ((zaf (zv3 _ w4) nq).mono hb4.size);have hz5:=((zaf (zv3 _ w4) nq).block _ (zaa HZ4.out)).trans HZ4.out;generalize w4.drewN nq=w5 at *;clear z0 z1 z2 x4 k3 hb4;have HB5:=Hd hb5;have HZ5:=Hd hz5;obtain⟨⟨x0,x1,x2,x3,x4⟩,k3⟩:=HFc.out _ hb5;obtain⟨⟨z0,z1,z2⟩,_⟩:=zac hz5;clear hb5 hz5;have HC0:=Hd hc0;have HMp:=Hd hmap;obtain⟨i0,hi,hz0,hz1,hz2⟩:=info_parts zvG;have HI0:=Hd (And.intro hi (And.intro hz0 (And.intro hz1 hz2)));obtain⟨hb8,hbt⟩:=zl6 (zfR HF.out f hfm).2;obtain⟨hl4,hwl,fr,hbg,_⟩:=zer (hbt.resolve_left hbd).1;have HNum:=Hd (show i0.bytes*f.body.length≤281474976710656∧f.body.length≤maxLen from ⟨by rw[hz2];omega,by unfold maxLen;omega⟩);clear hi hz0 hz1 hz2 hc0 hmap hc3;have hrb6:((w5.alloc (.cells #[.int .i64 f.at_,.string f.name,.string f.type,.slice ap f.params.length cp,.slice ab f.body.length cb,.slice none 0 0,.slice none 0 0,.int .i64 0,.int .i64 0] 88)).drew).heap[w5.heap.size]?=some (.cells #[.int .i64 f.at_,.string f.name,.string f.type,.slice ap f.params.length cp,.slice ab f.body.length cb,.slice none 0 0,.slice none 0 0,.int .i64 0,.int .i64 0] 88 (0,0)):=zv8 w5 _;have hb6:Below w5.heap.size w5 ((w5.alloc (.cells #[.int .i64 f.at_,.string f.name,.string f.type,.slice ap f.params.length cp,.slice ab f.body.length cb,.slice none 0 0,.slice none 0 0,.int .i64 0,.int .i64 0] 88)).drew):=(ba1 _ _).drew
     go_upto_region 7 with fail
     go_cut [11] (fun v11 wx=>v11=Value.pointer (some ⟨w5.heap.size,0,none⟩)∧wx=(w5.alloc (.cells #[.int .i64 f.at_,.string f.name,.string f.type,.slice ap f.params.length cp,.slice ab f.body.length cb,.slice none 0 0,.slice none 0 0,.int .i64 0,.int .i64 0] 88)).drew)
     case first=>
      go_region_law (fail)
      all_goals
       go_wp2_with fail
       go_meet
       exact⟨rfl,by trivial⟩
     case rest=>
      obtain⟨rfl,rfl⟩:=hcut;generalize (w5.alloc (.cells #[.int .i64 f.at_,.string f.name,.string f.type,.slice ap f.params.length cp,.slice ab f.body.length cb,.slice none 0 0,.slice none 0 0,.int .i64 0,.int .i64 0] 88)).drew=w6 at *;have HB6:=Hd hb6;have HRb:=Hd hrb6;obtain⟨⟨r0,r1,r2,r3,r4,r5,r6,r7,r8⟩,rf⟩:=zao hrb6;clear hb6 hrb6 x0 x1 x2 x3 x4 z0 z1 z2 k3;have hbs:=HB6.out.size
      go_wp2_with (at_make;go_loud (refine wpList_make_full _ rfl _ _ _ rfl w5.heap.size 78 i0 (.agg #[.int .i64 0,.int .i64 0,.string ⟨#[]⟩]) 3 Tryz.underlying28 HI0.out.1 HI0.out.2.1 HI0.out.2.2.1 .i64 .i64 (f.body.length:Int) (f.body.length:Int) f.body.length rfl rfl rfl rfl HNum.out.1 HNum.out.2 hbs ?_))
      intro w7 hown7 hgrow7;rw[show (madeCells #[.int .i64 0,.int .i64 0,.string ⟨#[]⟩] (f.body.length*3)).toList=(List.replicate f.body.length bnd0).flatMap bndCells from zm1 f.body.length]at hown7;have hrb7:=(hgrow7.block _ (zaa HRb.out) (by simp)).trans HRb.out;have hb7:Below w5.heap.size w5 w7:=HB6.out.grown hgrow7 hbs (fun k hk=>by simp at hk);have hz67:=hgrow7.size;have hrl6:=zaa HRb.out;obtain⟨⟨s0,s1,s2,s3,s4,s5,s6,s7,s8⟩,sf⟩:=zao hrb7;have sf6:=sf 6;have hblk8:(w7.setCell ⟨w5.heap.size,6,none⟩ (.slice (some ⟨w6.heap.size,0,none⟩) f.body.length f.body.length)).heap[w5.heap.size]?=some (.cells #[.int .i64 f.at_,.string f.name,.string f.type,.slice ap f.params.length cp,.slice ab f.body.length cb,.slice none 0 0,.slice (some ⟨w6.heap.size,0,none⟩) f.body.length f.body.length,.int .i64 0,.int .i64 0] 88 (0,0)):=by simp[World.setCell,Array.getElem?_modify,hrb7]
      have hown8:=zai hown7 ⟨w5.heap.size,6,none⟩ (.slice (some ⟨w6.heap.size,0,none⟩) f.body.length f.body.length) (fun e=>absurd (zv4 (show some w6.heap.size=some w5.heap.size from e)) (by omega));have hb8:=hb7.setCell (p:=⟨w5.heap.size,6,none⟩) (zv0 _) (.slice (some ⟨w6.heap.size,0,none⟩) f.body.length f.body.length);have hz8:w7.heap.size≤(w7.setCell ⟨w5.heap.size,6,none⟩ (.slice (some ⟨w6.heap.size,0,none⟩) f.body.length f.body.length)).heap.size:=by simp
      have hw67:w6.heap.size<w7.heap.size:=by
       rcases hown7.2 with ⟨h,_⟩|⟨g',_,_,h,_,hg',_⟩
       ·cases h
       ·have:=zaa hg'
        simp only[Value.slice.injEq,Option.some.injEq,Addr.mk.injEq,and_true]at h;omega
      clear r0 r1 r2 r3 r4 r5 r6 r7 r8 rf sf hgrow7 hown7 hrb7 hb7
      go_upto_region 9 with fail
      generalize w7.setCell ⟨w5.heap.size,6,none⟩ (.slice (some ⟨w6.heap.size,0,none⟩) f.body.length f.body.length)=w8 at *;clear s0 s1 s2 s3 s4 s5 s6 s7 s8 sf6;have hb38:=HB5.out.trans (hb8.mono HB5.out.size);have c80:=(hb38.cell (p:=⟨b,0,none⟩) (zea HC0.out)).trans HC0.out;have hfm8:=HMp.out.below hb38;have hb9:=ba1 w8 (.cells #[.map (some mb),.pointer none,.map none] 113);have hsb9:=zv8 w8 (.cells #[.map (some mb),.pointer none,.map none] 113);have hmbl:=HMp.out.lt;have h35:=HB5.out.size
      have HSt:=Hd (fun (w1':World) (c mt' mb':Nat) (hs:ScM (w8.alloc (.cells #[.map (some mb),.pointer none,.map none] 113)).heap.size w1' c mb' mt' (.pointer (some ⟨w8.heap.size,0,none⟩)) ScN.new) (hb:Below (w8.alloc (.cells #[.map (some mb),.pointer none,.map none] 113)).heap.size (w8.alloc (.cells #[.map (some mb),.pointer none,.map none] 113)) w1')=>
       znH (B:=w5.heap.size) (fs:=s) (f:=f) (zv0 _) ((hb9.block _ (zaa hblk8)).trans hblk8) (hown8.belowed hb9) (fun k e=>by have e:=zv4 (show some w6.heap.size=some k from e);subst e;exact⟨by omega,by omega,by omega⟩) hsb9 (hfm8.below hb9) ⟨by omega,by omega⟩ hs hb)
      have HB9:=Hd (HW3.out.trans ((HB5.out.trans ((hb8.mono HB5.out.size).trans (hb9.mono (zv6 HB5.out.size hb8.size)))).mono HW3.out.size));have HB59:=Hd (hb8.trans (hb9.mono hb8.size));have HWi:=Hd (zgB (some ⟨w8.heap.size,0,none⟩) (w8.alloc (.cells #[.map (some mb),.pointer none,.map none] 113)))
      go_upto_region 10 with (go_at_call 42;(with_reducible refine HWi.out.mono ?_);rintro e w10 ⟨rfl,hs10,hb10,hz10⟩;have HV10:=(HSt.out w10 _ _ _ hs10 hb10);rw[World.size_alloc]at HV10;have HV10:=Hd HV10;have HB10:=Hd hb10;clear hs10 hb10)
      have h89:w8.heap.size<(w8.alloc (.cells #[.map (some mb),.pointer none,.map none] 113)).heap.size:=by simp
      generalize w8.alloc (.cells #[.map (some mb),.pointer none,.map none] 113)=w9 at *;have HB10':=Hd (HB9.out.trans (HB10.out.mono HB9.out.size));have HB510:=Hd (HB59.out.trans (HB10.out.mono HB59.out.size));clear hz10 HSt HWi HB9 HB59 hfm8 hb9 hsb9 hblk8 hown8 hb8 c80 HMp HC0 hb38;obtain⟨⟨k0,k1,k2,k3,k4,k5,k6,k7,k8⟩,_⟩:=zao HV10.out.res.blk;have HS0:=Hd (Stg.refl HV10.out)
      go_wp2_with fail
      clear k0 k1 k2 k3 k4 k5 k6 k7 k8
      go_loopg [14,88] f.params.length (fun m _ v88 wy=>∃(j:Nat) (sv3:Value),m=f.params.length-j∧j≤f.params.length∧v88=.int .i64 (j:Int)∧Hid (Stg w5.heap.size s f (.slice ap f.params.length cp) (.slice ab f.body.length cb) w10 w10 wy w5.heap.size (w8.heap.size+1+2) (w8.heap.size+1) (w8.heap.size+1+1) (.pointer (some ⟨w8.heap.size,0,none⟩)) (.slice (some ⟨w6.heap.size,0,none⟩) f.body.length f.body.length) (.slice none 0 0) sv3 [] (parmsR (f.params.take j) f.at_ (zct f) ScN.new).2 (parmsR (f.params.take j) f.at_ (zct f) ScN.new).1))
      case atStart=>exact⟨0,_,by omega,Nat.zero_le _,rfl,HS0⟩
      case round=>
       obtain⟨j,sv3,hm,hj,rfl,HS⟩:=hrel
       by_cases hlt:j<f.params.length
       ·have hvr:=HFi.out.params.below (HB5.out.trans ((HB510.out.trans (HS.out.below)).mono HB5.out.size)) HW3.out.size
        obtain⟨bq,oq,cq,hpq,hbq,hvq,p0,p1,p2⟩:=zmt hvr hlt;obtain⟨rfl,rfl⟩:ap=some ⟨bq,oq,none⟩∧cp=cq:=by simpa using hpq
        have HNx:=Hd (zoi f.params j hlt f.at_ (zct f) ScN.new);have hln:=zdZ (f.params.take j) f.at_ (zct f) ScN.new;have htj:(f.params.take j).length=j:=by rw[List.length_take];omega
        rw[htj]at hln;generalize parmsR (f.params.take j) f.at_ (zct f) ScN.new=q at *;generalize f.params[j]=pj at *;obtain⟨pn,pt,pv⟩:=pj;simp only at p0 p1 p2 hvq;obtain⟨hl1,hl2,hl3,hl4'⟩:=hln;have hpn:pn.size≤maxLen:=hvq.1;have hs0:(zct f).slots.length=0:=rfl;have he0:ScN.new.ents.length=0:=rfl;have ht0:ScN.new.taken.length=0:=rfl;have HLj:=Hd (show q.1.slots.length=j by omega);have HNy:=Hd (show parmsR (f.params.take (j+1)) f.at_ (zct f) ScN.new=(zbt q.1 q.2 ⟨pn,pt,pv,true⟩ f.at_,(q.2.take pn).bind pn ⟨3,(j:Int),pt⟩) by rw[HNx.out];simp only[zcs,zbR,HLj.out]);have hle1:q.1.slots.length≤300:=by omega
        have hle2:q.2.ents.length≤300:=by omega
        have hle3:q.2.taken.length≤300:=by omega
        clear hpq hvr htj hvq hl1 hl2 hl3 hl4' hs0 he0 ht0
        go_upto_region 13 with fail
        have hqv:=zv8 wr (.cells #[.string pn,.string pt,.bool pv] 50);have HSq:=Hd (HS.out.next (ba1 wr (.cells #[.string pn,.string pt,.bool pv] 50)));generalize wr.alloc (.cells #[.string pn,.string pt,.bool pv] 50)=wq at *;have HQv:=Hd hqv;have HSd:=Hd (HSq.out.next (zv3 _ _).drew);have hsl:=zjO ⟨pn,pt,pv,true⟩ f.at_ wq.drew HSd.out.vis HSd.out.bLe hle1 hle3 hpn;have HSl:=Hd (show Calls Tryz.prog 43 #[.pointer (some ⟨w5.heap.size,0,none⟩),.pointer (some ⟨w8.heap.size+1+2,0,none⟩),.agg #[.string pn,.string pt,.bool pv,.bool true],.int .i64 f.at_] wq.drew (fun e w'=>e=.returned (.agg #[.int .i64 3,.int .i64 (j:Int),.string pt])∧∃sv',Stg w5.heap.size s f (.slice (some ⟨bq,oq,none⟩) f.params.length cp) (.slice ab f.body.length cb) wq.drew wq.drew w' w5.heap.size (w8.heap.size+1+2) (w8.heap.size+1) (w8.heap.size+1+1) (.pointer (some ⟨w8.heap.size,0,none⟩)) (.slice (some ⟨w6.heap.size,0,none⟩) f.body.length f.body.length) sv3 sv' [] (q.2.take pn) (zbt q.1 q.2 ⟨pn,pt,pv,true⟩ f.at_)) from hsl.mono fun e w' ⟨h1,⟨sv',h2,h3⟩,h4,h5,h6⟩=>⟨by rw[h1];simp only[bndV,zcs,HLj.out],sv',h2,h4,h5,h6,h3⟩);obtain⟨⟨y0,y1,y2⟩,_⟩:=zac (show wq.drew.heap[wr.heap.size]?=_ from hqv);obtain⟨⟨k0,k1,k2,k3,k4,k5,k6,k7,k8⟩,_⟩:=zao HSd.out.vis.res.blk;obtain⟨⟨s0,s1,s2⟩,_⟩:=zac HSd.out.vis.sc.blk
        have HKv:=Hd (show ∀w' sv',Stg w5.heap.size s f (.slice (some ⟨bq,oq,none⟩) f.params.length cp) (.slice ab f.body.length cb) wq.drew wq.drew w' w5.heap.size (w8.heap.size+1+2) (w8.heap.size+1) (w8.heap.size+1+1) (.pointer (some ⟨w8.heap.size,0,none⟩)) (.slice (some ⟨w6.heap.size,0,none⟩) f.body.length f.body.length) sv3 sv' [] (q.2.take pn) (zbt q.1 q.2 ⟨pn,pt,pv,true⟩ f.at_)→w'.heap[wr.heap.size]?=some (.cells #[.string pn,.string pt,.bool pv] 50 (0,0)) from fun w' sv' g=>(g.keep _ (zaa HQv.out) (fun hT=>by
         have h1:=HS.out.vis;rcases hT with e|e|e|e|e
         ·have:=h1.res.lt;omega
         ·have:=h1.sc.ents.lt;omega
         ·have:=h1.sc.taken.lt;omega
         ·have:=zbG h1.res.slots e;omega
         ·have:=zbG h1.res.out e;omega)).trans HQv.out)
        clear p0 p1 p2 hsl hqv hle1 hle3 k1 k2 k3 k4 k5 k6 k7 k8 s1 s2;have HC0:=Hd (show (fun w':World=>w'.cell? ⟨w8.heap.size+1+2,0,none⟩=some (.map (some (w8.heap.size+1)))∧w'.cell? ⟨wr.heap.size,0,none⟩=some (.string pn)∧w'.cell? ⟨wr.heap.size,1,none⟩=some (.string pt)∧w'.cell? ⟨wr.heap.size,2,none⟩=some (.bool pv)∧w'.cell? ⟨w5.heap.size,0,none⟩=some (.int .i64 f.at_)) wq.drew from ⟨s0,y0,y1,y2,k0⟩);have HC7:=Hd (show ∀w' sv',Stg w5.heap.size s f (.slice (some ⟨bq,oq,none⟩) f.params.length cp) (.slice ab f.body.length cb) wq.drew wq.drew w' w5.heap.size (w8.heap.size+1+2) (w8.heap.size+1) (w8.heap.size+1+1) (.pointer (some ⟨w8.heap.size,0,none⟩)) (.slice (some ⟨w6.heap.size,0,none⟩) f.body.length f.body.length) sv3 sv' [] (q.2.take pn) (zbt q.1 q.2 ⟨pn,pt,pv,true⟩ f.at_)→(fun w':World=>w'.cell? ⟨w8.heap.size+1+2,0,none⟩=some (.map (some (w8.heap.size+1)))∧w'.cell? ⟨wr.heap.size,0,none⟩=some (.string pn)∧w'.cell? ⟨wr.heap.size,1,none⟩=some (.string pt)∧w'.cell? ⟨wr.heap.size,2,none⟩=some (.bool pv)∧w'.cell? ⟨w5.heap.size,0,none⟩=some (.int .i64 f.at_)) w' from fun w' sv' g=>⟨(zac g.vis.sc.blk).1.1,(zac (HKv.out w' sv' g)).1.1,(zac (HKv.out w' sv' g)).1.2.1,(zac (HKv.out w' sv' g)).1.2.2,(zao g.vis.res.blk).1.1⟩)
        go_region_held3 (fun w':World=>w'.cell? ⟨w8.heap.size+1+2,0,none⟩=some (.map (some (w8.heap.size+1)))∧w'.cell? ⟨wr.heap.size,0,none⟩=some (.string pn)∧w'.cell? ⟨wr.heap.size,1,none⟩=some (.string pt)∧w'.cell? ⟨wr.heap.size,2,none⟩=some (.bool pv)∧w'.cell? ⟨w5.heap.size,0,none⟩=some (.int .i64 f.at_))
         (first|exact HC0.out|exact HC7.out _ _ HS7.out|exact HCz.out)
         (first
           | (go_at_call 43;(with_reducible refine HSl.out.mono ?_);rintro e w7 ⟨rfl,sv7,hs7⟩;have HS7:=Hd hs7;obtain⟨s0,y0,y1,y2,k0⟩:=HC7.out _ _ HS7.out;obtain⟨wz,hup,hmz,htz⟩:=hs7.vis.sc.ents.store (by simp[ScN.take];unfold maxLen;omega) hpn ⟨3,(j:Int),pt⟩;simp only[bndV]at hup;have HSz:=Hd (hs7.bind htz hmz);have hvz:=(htz.grown.block _ (zaa (HKv.out _ _ hs7)) (fun e=>by have:=HS.out.vis.sc.ents.lt;have:=zv4 e;omega)).trans (HKv.out _ _ hs7);have HCz:=Hd (And.intro (zac HSz.out.vis.sc.blk).1.1 (And.intro (zac hvz).1.1 (And.intro (zac hvz).1.2.1 (And.intro (zac hvz).1.2.2 (zao HSz.out.vis.res.blk).1.1))));clear hs7 hmz htz hvz))
        all_goals
         have HSe:=Hd (HSd.out.visit HSz.out);clear hup s0 y0 y1 y2 k0
         go_wp2_with fail
         go_roundg (f.params.length-(j+1))
         case measure=>omega
         case rel=>exact⟨j+1,_,rfl,hlt,by go_num,Hd (by rw[HNy.out];exact HSe.out)⟩
       ·obtain rfl:j=f.params.length:=by omega
        rw[List.take_length]at HS;have HGo:=Hd (show goneR s f=(visitN f.body fr s (f.body.length-1) [] (parmsR f.params f.at_ (zct f) ScN.new).2 true (parmsR f.params f.at_ (zct f) ScN.new).1).1 by unfold goneR;rw[hbg];rfl);have hln:=zdZ f.params f.at_ (zct f) ScN.new;generalize parmsR f.params f.at_ (zct f) ScN.new=q at *;obtain⟨hl1,hl2,hl3,hl4'⟩:=hln;have hs0:(zct f).slots.length=0:=rfl;have he0:ScN.new.ents.length=0:=rfl;have ht0:ScN.new.taken.length=0:=rfl;have hlp:=zwc hbd;obtain⟨k,hk⟩:∃k,f.body.length=k+1:=⟨f.body.length-1,by omega⟩
        have hVi:=znG (A:=w.heap.size) (B:=w5.heap.size) (rb:=w5.heap.size) (fs:=s) (vp:=.slice ap f.params.length cp) (ab:=ab) (cb:=cb) hbg hl4 (fun x hx hk=>by
         have h1:=zo7 (hwl x hx) hk;unfold isNameB at h1;rw[Bool.and_eq_true,Bool.and_eq_true,decide_eq_true_eq,decide_eq_true_eq]at h1;have:=h1.2.1;unfold maxLen
         omega) (by have:=HW3.out.size;omega) k (by omega) wr _ _ _ _ _ sv3 [] q.2 true q.1 HS.out.vis (hsb.below (HB5.out.trans ((HB510.out.trans HS.out.below).mono HB5.out.size)) HW3.out.size) ⟨⟨by omega,fun _=>by omega⟩,by omega,by omega⟩ (by rw[hl2];unfold zct;simp)
        rw[show f.body.length-1=k by omega]at HGo;have HVi:=Hd hVi;have hk1:(f.body.length:Int)-1=(k:Int):=by omega
        have HWr:=Hd (HB10'.out.trans (HS.out.below.mono (by have:=HW3.out.size;omega)));clear hl1 hl2 hl3 hl4' hs0 he0 ht0 hlp hVi;obtain⟨⟨k0,k1,k2,k3,k4,k5,k6,k7,k8⟩,_⟩:=zao HS.out.vis.res.blk;clear k0 k1 k2 k3 k5 k6 k7 k8;have hlr:=HS.out.vis.res.lt
        go_upto_region 16 with (go_at_call 44;(with_reducible refine HVi.out.mono ?_);rintro e w12 ⟨rfl,sv12,hs12⟩;have HS12:=Hd (HS.out.visit hs12);clear hs12)
        rw[← HGo.out]at HS12;obtain⟨⟨k0,k1,k2,k3,k4,k5,k6,k7,k8⟩,_⟩:=zao HS12.out.vis.res.blk;clear k0 k1 k2 k3 k4 k5 k6;have HW12:=Hd (HB10'.out.trans (HS12.out.below.mono (by have:=HW3.out.size;omega)));obtain⟨⟨d0,d1⟩,fd⟩:=HR.out w12 (HB2.out.trans ((HB5.out.trans ((HB510.out.trans HS12.out.below).mono HB5.out.size)).mono HB2.out.size));have fd0:=fd 0;have fd1:=fd 1
        go_region_law (fail)
        all_goals
         go_wp2_with fail
         refine bodyPost_ret (v:=.tuple #[.pointer (some ⟨w5.heap.size,0,none⟩),.pointer (some ⟨b,0,none⟩),.agg #[.int .i64 (goneR s f).fault.1,.int .i64 (goneR s f).fault.2]]) (by simp[results,Tryz.results28,go_sem,d0,d1]) rfl ⟨Below.drew (Below.setCell (Below.setCell HW12.out (Nat.le_succ _) _) (Nat.le_succ _) _),?_⟩;rw[HF.out];simp only;rw[HYe.out];have h1:=HB1.out.size;have h2:=HB2.out.size;have h3:=zaa HX.out;have hR:=HS12.out.vis.res;have hbl:=(HB5.out.trans ((HB510.out.trans HS12.out.below).mono HB5.out.size)).mono HW3.out.size;refine⟨w.heap.size,w5.heap.size,w5.heap.size,b,_,_,sv12,_,rfl,zv0 _,by omega,?_,(((hR.other ⟨w.heap.size+1,0,none⟩ (by show w5.heap.size≠w.heap.size+1;omega) (fun e=>?_) (fun e=>?_) _).other ⟨w.heap.size+1,1,none⟩ (by show w5.heap.size≠w.heap.size+1;omega) (fun e=>?_) (fun e=>?_) _).below (zv3 _ _).drew),?_⟩
         ·show w5.heap.size≤((w12.setCell _ _).setCell _ _).heap.size
          simp;have:=hR.lt;omega
         ·have:=(hR.slots.lt _ e).1;simp only at this;omega
         ·have:=(hR.out.lt _ e).1;simp only at this;omega
         ·have:=(hR.slots.lt _ e).1;simp only at this;omega
         ·have:=(hR.out.lt _ e).1;simp only at this;omega
         ·exact HFi.out.below (Below.drew (Below.setCell (Below.setCell hbl (Nat.le_succ _) _) (Nat.le_succ _) _)) (zv0 _)
   ·have HNo:=Hd (show zbn s n=none by unfold zbn;rw[hlk];simp only;rw[if_pos (.inl hk2)])
    have t1:(bk != 2)=true:=by simpa using hk2
    go_upto_region 5 with fail
    generalize w3.alloc (.cells #[.int .i64 bk,.int .i64 bi,.string bt] 78)=w4 at *;have HW4:=Ht HW3 hb4;obtain⟨⟨d0,d1⟩,fd⟩:=HR.out _ (HB2.out.trans (hb4.mono HB2.out.size));have fd0:=fd 0;have fd1:=fd 1;clear hb4 hc0 hc3 hmap hl3
    go_quiet (fail)
    go_wp2_with fail
    exact bodyPost_ret (v:=.tuple #[.pointer none,.pointer none,.agg #[.int .i64 0,.int .i64 4]]) (by simp[results,Tryz.results28,go_sem,d0,d1]) rfl (zeJ HF.out HNo.out (Below.setCell (Below.setCell (HW4.out.trans ((zaf (zv3 _ _) _).mono HW4.out.size)) (Nat.le_succ _) _) (Nat.le_succ _) _))
end Go.Proofs.YtbbaooeioogijaaGreatDoor
