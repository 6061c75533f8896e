/- What a function uses of its file: the reference. -/
import Derived.Test.YtbbaooeioogijaaGreatDoorResU
namespace Go.Proofs.YtbbaooeioogijaaGreatDoor
open Go.RowKit Go.Maps
set_option maxRecDepth 100000
set_option maxHeartbeats 16000000
def zeA (t:List Nd)(o:List Bnd)(L:List (Nat × Nat)):List ByteArray:=dedupL (zcN t o (L.map Prod.fst)) []
theorem znI (t:List Nd)(o:List Bnd)(L:List (Nat × Nat))(x:Nat × Nat):zeA t o (L++[x])=if ((t.getD x.1 ndU0).kind=3∧zcp (o.getD x.1 bnd0)=true) then addL (zeA t o L) (t.getD x.1 ndU0).text else zeA t o L:=by
 unfold zeA;rw[List.map_append];have e:zcN t o (L.map Prod.fst++[x].map Prod.fst)=zcN t o (L.map Prod.fst)++zcN t o [x.1]:=by
  unfold zcN;rw[List.filter_append,List.map_append]
  rfl
 rw[e,zdw];generalize dedupL (zcN t o (L.map Prod.fst)) []=D;unfold zcN;rw[List.filter_cons]
 by_cases h:(t.getD x.1 ndU0).kind=3∧zcp (o.getD x.1 bnd0)=true
 ·rw[if_pos h,if_pos (by rw[Bool.and_eq_true,decide_eq_true_eq];exact h)]
  rfl
 ·rw[if_neg h,if_neg (by rw[Bool.and_eq_true,decide_eq_true_eq];exact h)]
  rfl
theorem zrM (t:List Nd)(o:List Bnd)(L:List (Nat × Nat)):(zeA t o L).length≤L.length:=by
 unfold zeA;have h1:=zhr (zcN t o (L.map Prod.fst)) [];have h2:(zcN t o (L.map Prod.fst)).length≤(L.map Prod.fst).length:=by
  unfold zcN;rw[List.length_map];exact List.length_filter_le ..
 rw[List.length_map]at h2;simp only[List.length_nil,Nat.zero_add]at h1;omega
theorem zqW {fs:FileN}{f:FnU}{fr:List Nat}(hok:FileOk fs)(hb:zah f.body=some fr)(hne:f.body≠[])(h0:(goneR fs f).fault.2=0){k:Nat}(hk:k<f.body.length)(h:zcp ((goneR fs f).out.getD k bnd0)=true):(f.body.getD k ndU0).kind=3:=by
 obtain⟨hc,hr⟩:=zuE hok hb hne h0;have hn:=hc.near k (Nat.zero_le _) hk (by rw[hr];simp;exact hk)
 by_cases h3:(f.body.getD k ndU0).kind=3
 ·exact h3
 exfalso
 by_cases h22:(f.body.getD k ndU0).kind=22
 ·rw[if_pos (.inr h22)]at hn
  obtain⟨c,hc,_,h4⟩:=hn;rw[zv2,hc]at h;unfold zcp at h;simp only[Option.getD_some,h4 h22]at h;exact absurd h (by decide)
 ·rw[if_neg (by rintro(h|h);exact h3 h;exact h22 h),hr]at hn
  rw[zv2,hn]at h;simp only[List.getElem?_replicate,hk,if_true,Option.getD_some]at h;exact absurd h (by decide)
theorem zlu {u:UnU}{n:ByteArray}{p:Int × Int}(h:zat u n=.inl p):p.2≠0:=by
 unfold zat at h;rcases e:za1 u with q|fs
 ·rw[e]at h
  obtain rfl:=Sum.inl.inj h;exact zgy e
 ·rw[e]at h
  simp only at h
  split at h
  ·cases h
   show (4:Int)≠0;decide
  ·split at h
   ·rename_i h1
    cases h;exact h1
   ·cases h
theorem zgQ {u:UnU}{n:ByteArray}{q:ResN × FnU × FileN}(h:zat u n=.inr q):∃fs f,za1 u=.inr fs∧zbn fs n=some f∧q=(goneR fs f,f,fs)∧(goneR fs f).fault=(0,0):=by
 rcases hf:za1 u with p|fs
 ·rw[zf4 hf]at h;cases h
 ·rcases hb:zbn fs n with _|f
  ·rw[zgP hf hb]at h;cases h
  ·obtain⟨_,_,_,hX⟩:=zeh hf hb
   rcases hg:goneX fs f with e|w
   ·rw[hg]at hX
    rw[show zat u n=.inl e from hX]at h;cases h
   ·rw[hg]at hX
    obtain⟨h1,h2,_⟩:=hX;rw[h1]at h;cases h;exact⟨fs,f,rfl,hb,rfl,h2⟩
theorem znt {w:World}{b j:Nat}{v:Value}(h:w.cell? ⟨b,j,none⟩=some v):b<w.heap.size:=by
 rcases Nat.lt_or_ge b w.heap.size with h1|h1
 ·exact h1
 ·have:w.heap[b]?=none:=Array.getElem?_eq_none h1
  unfold World.cell? at h;simp[this]at h
theorem zrJ {t:List Nd}{fr:List Nat}(hb:zah t=some fr)(hl:0<t.length){x:Nat × Nat}(h:x ∈ zaz t fr):x.1<t.length:=by
 have:=(zms (zar hb) (t.length-1+1) (t.length-1) 1 (by omega) x h).1;omega
theorem znW (u:UnU)(vs vg vf:Value)(n:ByteArray)(w:World)(hU:IsUn w.heap.size w u vs vg vf) :
 Calls Tryz.prog 19 #[.agg #[vs,vg,vf],.string n] w (zmn u n w):=by
 obtain⟨sa,sc,mv,rfl,_⟩:=hU.structs;obtain⟨ag,cg,rfl,_⟩:=zbc hU.globals;obtain⟨af,cf,rfl,_⟩:=zbd hU.funcs
 go_enter Tryz.func19,Tryz.ntmps19
 go_upto_region 1 with fail
 generalize hgQ:(w.alloc (.cells #[.slice sa u.structs.length sc,.slice ag u.globals.length cg,.slice af u.funcs.length cf] 26)).alloc (.cells #[.int .i64 0,.int .i64 0] 32)=w1 at *;obtain⟨hb1,hxq,hxr⟩:=box2 hgQ;clear hgQ;have HQ:=Hd (fun w' (h:Below w1.heap.size w1 w')=>(zac ((h.block _ (zaa hxq)).trans hxq)).1);have HR:=Hd (fun w' (h:Below w1.heap.size w1 w')=>zab ((h.block _ (zaa hxr)).trans hxr));have HXr:=Hd (zaa hxr);have HBw:=Hd (fun w' (h:Below w1.heap.size w1 w')=>hb1.trans (h.mono hb1.size));have HUw:=Hd (fun w' (h:Below w1.heap.size w1 w')=>hU.go (hb1.trans (h.mono hb1.size)));have HRs:=Hd (ze7 u _ _ _ n w1 (hU.go hb1));clear hb1 hxq hxr hU;obtain⟨q0,q1,q2⟩:=HQ.out w1 (zv3 _ _);unfold znz at HRs;rcases hres:zat u n with ⟨fx,fc⟩|q
 ·rw[hres]at HRs
  simp only at HRs;have hne:fc≠0:=zlu hres;have t4:(fc != 0)=true:=by simpa using hne
  have HFin:=Hd hres;clear hne hres
  go_upto_region 2 with (go_at_call 16;(with_reducible refine HRs.out.mono ?_);rintro e w2 ⟨hb2,rfl⟩;have HB2:=Hd hb2;clear hb2)
  obtain⟨⟨k0,k1⟩,_⟩:=zab (zv8 w2 (.cells #[.int .i64 fx,.int .i64 fc] 32));have HB3:=Hd (HB2.out.alloc HB2.out.size (.cells #[.int .i64 fx,.int .i64 fc] 32));generalize w2.alloc (.cells #[.int .i64 fx,.int .i64 fc] 32)=w3 at *;obtain⟨⟨d0,d1⟩,fd⟩:=HR.out w3 HB3.out;have fd0:=fd 0;have fd1:=fd 1;clear fd
  go_wp2_with fail
  go_region_law (fail)
  all_goals
   go_wp2_with fail
   exact bodyPost_ret (v:=.tuple #[.slice none 0 0,.agg #[.int .i64 fx,.int .i64 fc]]) (by simp[results,Tryz.results19,go_sem,d0,d1]) rfl ⟨Below.drew (Below.setCell (Below.setCell (HBw.out _ HB3.out) (Nat.le_succ _) _) (Nat.le_succ _) _),by rw[HFin.out]⟩
 ·obtain⟨fs,f,hfile,hbody,rfl,h00⟩:=zgQ hres
  rw[hres]at HRs;simp only[h00]at HRs;obtain⟨h8,h9,h4096,_⟩:=zeh hfile hbody;obtain⟨_,_,fr,hbe,_,_⟩:=zer h9;have hol:=zkD fs f;have h256:=(zfv (zho hfile).1).2;obtain⟨bq,_,_,_,hi0,hget,hfn,hne⟩:=zdz (zeW hfile) hbody;have HFr:=Hd (zgh hfile);have HFo:=Hd (zeW hfile);have HNm:=Hd (fun (k:Nat) (hk:k<f.body.length) (h:zcp ((goneR fs f).out.getD k bnd0)=true)=>zqW (zeW hfile) hbe hne (by rw[h00]) hk h);have HFin:=Hd (show zat u n=.inr (goneR fs f,f,fs)∧(goneR fs f).fault=(0,0) from ⟨hres,h00⟩);have HUe:=Hd (show zfu f (goneR fs f).out=zeA f.body (goneR fs f).out (zaz f.body fr) from by unfold zfu zrL zeA zaz;rw[hbe,Option.getD_some]);have HWl:=Hd (fun x (hx:x ∈ zaz f.body fr)=>zrJ hbe (zar hbe).pos hx);have hwl:(zaz f.body fr).length≤4096:=by
   have hF:=zar hbe;have h1:=zdM hbe (f.body.length) (f.body.length-1) 1 (by have:=hF.pos;omega) (by have:=hF.pos;omega);unfold zaz;omega
  generalize hro:(goneR fs f).out=o at *;generalize hrs:(goneR fs f).slots=sl at *;have HGt:=Hd (show fs.funcs[bq.idx.toNat]?=some f from hget);have HFn:=Hd hfn;have H9:=Hd h9;have HRo:=Hd hro;have HBe:=Hd hbe;generalize bq.idx.toNat=i0 at *;clear hres hfile hbody h00 h8 hfn hne h9 hget hbe hro hrs
  go_upto_region 2 with (go_at_call 16;(with_reducible refine HRs.out.mono ?_);rintro e w2 ⟨hb2,sv,ov,rfl,hsv,hov⟩;obtain⟨asv,csv,rfl⟩:=zam hsv;obtain⟨aov,cov,rfl⟩:=zam hov;have HB2:=Hd hb2;have HOv:=Hd hov;clear hb2 hsv hov)
  obtain⟨⟨k0,k1⟩,_⟩:=zab (zv8 w2 (.cells #[.int .i64 0,.int .i64 0] 32));have HB3:=Hd (HB2.out.alloc HB2.out.size (.cells #[.int .i64 0,.int .i64 0] 32));have HOv3:=Hd (HOv.out.belowed (ba1 w2 (.cells #[.int .i64 0,.int .i64 0] 32)));generalize w2.alloc (.cells #[.int .i64 0,.int .i64 0] 32)=w3 at *;clear q0 q1 q2 HOv;obtain⟨q0,q1,q2⟩:=HQ.out w3 HB3.out;have HRf:=Hd (zjV u _ _ _ w3 (HUw.out w3 HB3.out) h256);unfold zu9 at HRf
  go_upto_region 5 with (go_at_call 26;(with_reducible refine HRf.out.mono ?_);rintro e w4 ⟨⟨fv,Q,rfl,hfv,hQ⟩,hb4⟩;have HB4:=Hd hb4;have HFv:=Hd hfv;have HQf:=Hd (hQ.trans HFr.out.symm);clear hb4 hfv hQ)
  obtain⟨fa,fcp,rfl⟩:=zam HFv.out.1;have HB34:=Hd (HB3.out.trans (HB4.out.mono HB3.out.size));have HQl:=Hd (show Q.length=fs.funcs.length by rw[← HQf.out,List.length_map]);have hql:(Q.length:Int)≤256:=by
   have h1:Q.length=(zeK u.funcs).length:=by rw[← HFr.out,← HQf.out,List.length_map]
   have h2:=zfC u.funcs [];unfold zeK at h1;simp only[List.length_nil]at h2;omega
  have hi0q:i0<Q.length:=by rw[HQl.out];exact hi0
  have HQ0:=Hd (show Q[i0].1=f from by
   have h2:fs.funcs[i0]?=(Q.map Prod.fst)[i0]?:=by rw[HQf.out]
   rw[HGt.out,List.getElem?_map,zv1 hi0q]at h2
   exact(zv4 h2).symm)
  have HQn:=Hd (fun (i:Nat) (hi:i<Q.length)=>show Q[i].1.name=n↔i=i0 from by
   have key:∀j (hj:j<Q.length),fs.funcs.getD j fnU0=Q[j].1:=fun j hj=>by
    rw[← HQf.out,zv2,List.getElem?_map,zv1 hj]
    rfl
   constructor
   ·intro h
    refine HFo.out.uniq (by rw[← HQl.out];exact hi) hi0 ?_;rw[key i hi,key i0 hi0q,h,HQ0.out,HFn.out]
   ·intro h
    subst h
    rw[HQ0.out,HFn.out])
  obtain⟨ab,cb,hab,hob,hnd,hOk⟩:=(HFv.out.2 _ (zwb hi0q)).body;rw[HQ0.out]at hab hob hnd hOk;have HBd:=Hd hab;have hq4:=HB4.out.size;have HNd:=Hd (hnd.mono hq4);have HOk:=Hd (And.intro hOk hob);clear q0 q1 q2 k0 k1 hab hnd hOk hob
  go_upto_region 6 with fail
  have hb5:=ba1 w4 (.cells #[] 47);generalize hz5:w4.heap.size=z5 at *;generalize w4.alloc (.cells #[] 47)=w5 at *;have HB45:=Hd hb5;have HZ5:=Hd (show z5≤w5.heap.size from by rw[← hz5];exact hb5.size);have HFv5:=Hd (HFv.out.1.belowed (by rw[hz5];exact hb5));clear hb5
  go_wp2_with fail
  go_loopg [10,11] Q.length (fun m v10 v11 wy=>∃(i:Nat),i≤Q.length∧i+m=Q.length∧v10=(if i0<i then Value.slice ab f.body.length cb else .slice (some ⟨z5,0,none⟩) 0 0)∧v11=.int .i64 (i:Int)∧wy=w5)
  case atStart=>exact⟨0,by omega,by omega,by rw[if_neg (by omega)],rfl,rfl⟩
  case round=>
   obtain⟨i,hi,him,rfl,rfl,rfl⟩:=hrel
   by_cases hlt:i<Q.length
   ·obtain⟨g,cap,hgs,hgB,hgl,hcap,hcm,hcs,_⟩:=zax zc8 HFv5.out rfl hlt
    obtain⟨rfl,rfl⟩:fa=some ⟨g,0,none⟩∧fcp=cap:=by simpa using hgs
    have hqn:=HQn.out i hlt;have m1:=hcs 1 _ rfl;have m4:=hcs 4 _ rfl;have he:=zbD (a:=Q[i].1.name) (b:=n);have hi0':(0:Int)≤(i:Int):=by omega
    have hi1':(i:Int)<(Q.length:Int):=by omega
    by_cases c1:i=i0
    ·subst c1
     rw[HBd.out]at m4;rw[decide_eq_true (hqn.2 rfl)]at he;have HV:=Hd (show Value.slice ab f.body.length cb=(if i<i+1 then Value.slice ab f.body.length cb else .slice (some ⟨z5,0,none⟩) 0 0) by rw[if_pos (Nat.lt_succ_self _)]);clear hqn hcs hgs;generalize Q[i].1.name=qn at *
     go_wp2_with fail
     go_roundg (Q.length-(i+1))
     case measure=>omega
     case rel=>exact⟨i+1,by omega,by omega,HV.out,by rw[zv9];rfl,rfl⟩
    ·rw[decide_eq_false (fun h=>c1 (hqn.1 h))]at he
     have HV:=Hd (show (if i0<i then Value.slice ab f.body.length cb else .slice (some ⟨z5,0,none⟩) 0 0)=(if i0<i+1 then Value.slice ab f.body.length cb else .slice (some ⟨z5,0,none⟩) 0 0) by
      by_cases h:i0<i
      ·rw[if_pos h,if_pos (by omega)]
      ·rw[if_neg h,if_neg (by omega)])
     generalize (if i0<i then Value.slice ab f.body.length cb else .slice (some ⟨z5,0,none⟩) 0 0)=vv at *;clear hqn hcs hgs m4;generalize Q[i].1.name=qn at *
     go_wp2_with fail
     go_roundg (Q.length-(i+1))
     case measure=>omega
     case rel=>exact⟨i+1,by omega,by omega,HV.out,by rw[zv9];rfl,rfl⟩
   ·obtain rfl:i=Q.length:=by omega
    rw[if_pos hi0q];have HI5:=Hd (show zaV wr.heap.size wr ab f.body from (HNd.out.below HB45.out (zv0 _)).mono HZ5.out);have hrow6:(wr.alloc (.cells #[] 9)).ownsRow wr.heap.size 9 1 (.slice (some ⟨wr.heap.size,0,none⟩) 0 0) 0 (([]:List ByteArray).map .string):=World.ownsRow_lit wr #[] 0 (zv0 _) (by decide) rfl;have HB36:=Hd (show Below w3.heap.size w3 (wr.alloc (.cells #[] 9)) from (HB4.out.trans (HB45.out.mono hq4)).trans ((ba1 wr _).mono (zv6 hq4 HZ5.out)));have HI6:=Hd (show zaV (wr.alloc (.cells #[] 9)).heap.size (wr.alloc (.cells #[] 9)) ab f.body from (HI5.out.below (ba1 wr _) (zv0 _)).mono (ba1 wr _).size);have HB56:=Hd (ba1 wr (.cells #[] 9));have hz3:w3.heap.size≤wr.heap.size:=zv6 hq4 HZ5.out;have hz6':wr.heap.size<(wr.alloc (.cells #[] 9)).heap.size:=by simp
    clear hlt him hi
    go_upto_region 12 with fail
    generalize wr.alloc (.cells #[] 9)=w6 at *;generalize hz6:wr.heap.size=z6 at *;have HWk:=Hd (zpG ab cb f.body w6 HI6.out HOk.out.1 HOk.out.2.1 H9.out)
    go_upto_region 13 with (go_at_call 32;(with_reducible refine HWk.out.mono ?_);rintro e w7 ⟨⟨stv,fr2,rfl,hfr2,hst⟩,hb7⟩;obtain rfl:=zv4 (HBe.out.symm.trans hfr2);obtain⟨sta,stc,rfl⟩:=zam hst;have HB7:=Hd hb7;have HSt:=Hd hst;clear hb7 hst hfr2)
    have HB37:=Hd (show Below w3.heap.size w3 w7 from HB36.out.trans (HB7.out.mono HB36.out.size));have HO7:=Hd (hrow6.belowed HB7.out);have HZ7:=Hd (show w3.heap.size≤z6∧z6<w6.heap.size∧w6.heap.size≤w7.heap.size from ⟨hz3,hz6',HB7.out.size⟩);have hlo:o.length≤4096:=by omega
    have HOl:=Hd hol;obtain⟨i1,hi1,hz0,hz1',hz2'⟩:=info_parts zgu;have HInS:=Hd (And.intro hi1 (And.intro hz0 (And.intro hz1' hz2')));have hwli:((zaz f.body fr).length:Int)≤4096:=by omega
    have hobi:(o.length:Int)≤4096:=by omega
    have hbbi:(f.body.length:Int)≤4096:=by omega
    clear hi1 hz0 hz1' hz2' hrow6 hz6' hz3 hz6 hol
    go_wp2_with fail
    go_loopg [12,15] (zaz f.body fr).length (fun m v12 v15 wy=>∃(i g c:Nat) (U:List ByteArray),i≤(zaz f.body fr).length∧i+m=(zaz f.body fr).length∧v12=.slice (some ⟨g,0,none⟩) U.length c∧v15=.int .i64 (i:Int)∧U.length≤i∧Hid (U=zeA f.body o ((zaz f.body fr).take i))∧Hid (wy.ownsRow z6 9 1 (.slice (some ⟨g,0,none⟩) U.length c) U.length (U.map .string))∧Hid (∀k,w6.heap.size≤k→k<w7.heap.size→wy.heap[k]?=w7.heap[k]?)∧Hid (g<w6.heap.size∨w7.heap.size≤g)∧Hid (Below z6 w7 wy))
    case atStart=>exact⟨0,z6,0,[],by omega,by omega,rfl,rfl,by simp,Hd rfl,HO7,Hd (fun k _ _=>rfl),Hd (.inl HZ7.out.2.1),Hd (zv3 _ _)⟩
    case round=>
     obtain⟨i,g,c,U,hi,him,rfl,rfl,hUi,HU,HOa0,HS,HG,HB⟩:=hrel;have HB3y:=Hd (show Below w3.heap.size w3 wr from HB37.out.trans (HB.out.mono HZ7.out.1))
     by_cases hlt:i<(zaz f.body fr).length
     ·obtain⟨gs,cap,hgs,hgB,hgl,_,_,hcs,_⟩:=zax zmz HSt.out rfl hlt
      obtain⟨rfl,rfl⟩:sta=some ⟨gs,0,none⟩∧stc=cap:=by simpa using hgs
      have s0:=hcs 0 _ rfl;rw[Nat.add_zero,← zes (HS.out gs hgB hgl)]at s0;have hk:=HWl.out _ (zwb hlt)
      have HNx:=Hd (show zeA f.body o ((zaz f.body fr).take (i+1))=if zcp (o.getD (zaz f.body fr)[i].1 bnd0)=true then addL U (f.body.getD (zaz f.body fr)[i].1 ndU0).text else U from by
       rw[List.take_succ_eq_append_getElem hlt,znI,← HU.out]
       by_cases h:zcp (o.getD (zaz f.body fr)[i].1 bnd0)=true
       ·rw[if_pos h,if_pos ⟨HNm.out _ hk h,h⟩]
       ·rw[if_neg h,if_neg (fun h2=>h h2.2)])
      generalize (zaz f.body fr)[i].1=k at *;have hko:k<o.length:=by rw[HOl.out];exact hk
      obtain⟨gv,vcap,hvs,_,_,_,_,vcs,_⟩:=zax zdA (HOv3.out.belowed HB3y.out) rfl hko;obtain⟨rfl,rfl⟩:aov=some ⟨gv,0,none⟩∧cov=vcap:=by simpa using hvs
      have v0:=vcs 0 _ rfl;have v1:=vcs 1 _ rfl;have v2:=vcs 2 _ rfl;rw[Nat.add_zero]at v0;obtain⟨bb,boff,rfl,hbb,_,_,_,_,x4,_⟩:=zbg HI5.out hk;rw[← (HB56.out.trans ((HB7.out.mono (zv7 HZ7.out.2.1)).trans HB.out)).cell hbb]at x4;have hgd:f.body.getD k ndU0=f.body[k]:=by rw[zv2,zv1 hk];rfl
      have hod:o.getD k bnd0=o[k]:=by rw[zv2,zv1 hko];rfl
      rw[hgd,hod]at HNx;generalize f.body[k].text=xt at *;generalize o[k]=y at *;obtain⟨yk,yi,yt⟩:=y;simp only at v0 v1 v2;have hk0:(0:Int)≤(k:Int):=by omega
      have hk1:(k:Int)<(o.length:Int):=by omega
      have hk2:(k:Int)<(f.body.length:Int):=by omega
      have hi0':(0:Int)≤(i:Int):=by omega
      have hi1':(i:Int)<((zaz f.body fr).length:Int):=by omega
      clear hgs hcs hvs vcs hgd hod hko hgB hgl hbb
      go_upto_region 17 with fail
      have hba:=ba1 wr (.cells #[.int .i64 yk,.int .i64 yi,.string yt] 78);obtain⟨⟨b0,b1,b2⟩,_⟩:=zac (zv8 wr (.cells #[.int .i64 yk,.int .i64 yi,.string yt] 78));rw[← hba.cell (znt s0)]at s0;rw[← hba.cell (znt x4)]at x4;have hbsz:w7.heap.size≤wr.heap.size:=HB.out.size;generalize hwan:wr.alloc (.cells #[.int .i64 yk,.int .i64 yi,.string yt] 78)=wa at *;have HOa:=Hd (HOa0.out.belowed hba);have HSa:=Hd (show ∀k,w6.heap.size≤k→k<w7.heap.size→wa.heap[k]?=w7.heap[k]? from fun k h1 h2=>(hba.block k (by omega)).trans (HS.out k h1 h2));have HGa:=HG;have HBa:=Hd (show Below z6 w7 wa from HB.out.trans (hba.mono (by have:=HZ7.out;omega)));have HZa:=Hd (show w7.heap.size≤wa.heap.size from HBa.out.size);have HNum:=Hd (show U.length+1≤maxLen∧(U.length+1)*16≤140737488355328∧z6≤wa.heap.size from ⟨by unfold maxLen;omega,by omega,by have h1:=HZ7.out;have h2:=HZa.out;omega⟩);have hin:=zm9 (k:=U.length) xt HOa.out rfl (zv0 _) (by omega);rw[List.take_length]at hin;have HIn0:=Hd hin;clear hba hwan hbsz hin v0 v1 v2
      by_cases hof':zcp ⟨yk,yi,yt⟩=true
      ·have hof:=Hd hof'
       have hyk:yk=1∨yk=2:=by unfold zcp at hof';simpa using hof'
       have tk:(yk == 1)=true∨((yk == 1)=false∧(yk == 2)=true):=by
        rcases hyk with rfl|rfl
        ·exact .inl rfl
        ·exact .inr ⟨rfl,rfl⟩
       clear hof' hyk;rcases tk with tk|⟨tk,tk2⟩
       all_goals
        by_cases hm:xt ∈ U
        ·have HIn:=Hd (show Calls Tryz.prog 23 #[.slice (some ⟨g,0,none⟩) U.length c,.string xt] wa (fun e w'=>e=.returned (.bool true)∧wa=w') from by have:=HIn0.out;rw[zm8 hm]at this;exact this.mono fun _ _ h=>⟨h.1,h.2.symm⟩)
         have HU2:=Hd (show U=zeA f.body o ((zaz f.body fr).take (i+1)) from by rw[HNx.out,if_pos hof.out];unfold addL;rw[if_pos hm]);clear hm hof
         go_wp2_with (go_at_call 23;(with_reducible refine HIn.out.mono ?_);rintro _ w9 ⟨rfl,hw9⟩;subst hw9)
         go_roundg ((zaz f.body fr).length-(i+1))
         case measure=>omega
         case rel=>exact⟨i+1,g,c,U,by omega,by omega,rfl,by rw[zv9];rfl,by omega,HU2,HOa,HSa,HGa,HBa⟩
        ·have HIn:=Hd (show Calls Tryz.prog 23 #[.slice (some ⟨g,0,none⟩) U.length c,.string xt] wa (fun e w'=>e=.returned (.bool false)∧wa=w') from by have:=HIn0.out;rw[zs9 hm]at this;exact this.mono fun _ _ h=>⟨h.1,h.2.symm⟩)
         have HU2:=Hd (show U++[xt]=zeA f.body o ((zaz f.body fr).take (i+1)) from by rw[HNx.out,if_pos hof.out];unfold addL;rw[if_neg hm]);clear hm hof
         go_wp2_with (first
          | (go_at_call 23;(with_reducible refine HIn.out.mono ?_);rintro _ w9 ⟨rfl,hw9⟩;subst hw9)
          | (at_builtin;go_loud (refine wpList_append_lies _ rfl _ _ _ rfl z6 9 i1 _ 1 16 Tryz.underlying29 HInS.out.1 HInS.out.2.1 HInS.out.2.2.1 HInS.out.2.2.2 rfl (by decide) (.slice (some ⟨g,0,none⟩) U.length c) U.length (U.map .string) rfl (HOa.out.belowed (ba1 _ _)) ⟨_,0,none⟩ 1 1 [.string xt] rfl rfl (World.news_of_block (cs:=#[.string xt]) (zv8 _ _)) (by simp[Value.oneCell']) (by decide) HNum.out.1 HNum.out.2.1 (zv6 HNum.out.2.2 (ba1 _ _).size) _ rfl ?_)))
         intro gg cap' wb hown hgrow hat _;have HOb:=Hd (show wb.ownsRow z6 9 1 (.slice (some ⟨gg,0,none⟩) (U++[xt]).length cap') (U++[xt]).length ((U++[xt]).map .string) from by rw[List.length_append,List.map_append];exact hown);have HBb:=Hd (show Below z6 w7 wb from (HBa.out.trans ((ba1 wa (.cells #[.string xt] 9)).mono HNum.out.2.2)).grown hgrow (zv6 HNum.out.2.2 (ba1 _ _).size) (fun k hk=>by cases hk;exact(HOa.out.lt g rfl).1))
         have HGb:=Hd (show gg<w6.heap.size∨w7.heap.size≤gg from by
          rcases hat with e|e
          ·have:=zv4 e
           simp only at this;rw[← this];exact HGa.out
          ·have h1:=HZa.out
           have h2:wa.heap.size≤gg:=by rw[e];simp
           omega)
         have HSb:=Hd (show ∀k,w6.heap.size≤k→k<w7.heap.size→wb.heap[k]?=w7.heap[k]? from fun k h1 h2=>by
          have h3:some k≠(Value.slice (some ⟨g,0,none⟩) U.length c).ownBlock:=fun e=>by
           have h4:=zv4 e;simp only at h4;have h5:=HGa.out;omega
          have h6:=HZa.out;rw[hgrow.block k (by simp;omega) h3,(ba1 wa (.cells #[.string xt] 9)).block k (by omega)]
          exact HSa.out k h1 h2)
         clear hown hgrow hat
         go_wp2_with fail
         go_roundg ((zaz f.body fr).length-(i+1))
         case measure=>omega
         case rel=>exact⟨i+1,gg,cap',U++[xt],by omega,by omega,by rw[List.length_append];rfl,by rw[zv9];rfl,by simp;omega,HU2,HOb,HSb,HGb,HBb⟩
      ·have hyk:yk≠1∧yk≠2:=by unfold zcp at hof';simpa using hof'
       have tk:(yk == 1)=false:=by simpa using hyk.1
       have tk2:(yk == 2)=false:=by simpa using hyk.2
       have HU2:=Hd (show U=zeA f.body o ((zaz f.body fr).take (i+1)) from by rw[HNx.out,if_neg hof']);clear hof' hyk
       go_wp2_with fail
       go_roundg ((zaz f.body fr).length-(i+1))
       case measure=>omega
       case rel=>exact⟨i+1,g,c,U,by omega,by omega,rfl,by rw[zv9];rfl,by omega,HU2,HOa,HSa,HGa,HBa⟩
     ·obtain rfl:i=(zaz f.body fr).length:=by omega
      have HB1y:=Hd (show Below w1.heap.size w1 wr from HB3.out.trans (HB3y.out.mono HB3.out.size));obtain⟨⟨d0,d1⟩,fd⟩:=HR.out wr HB1y.out;have fd0:=fd 0;have fd1:=fd 1;have HUf:=Hd (show U=zfu f o from by rw[HUe.out,HU.out,List.take_length]);clear fd
      go_wp2_with fail
      refine bodyPost_ret (v:=.tuple #[.slice (some ⟨g,0,none⟩) U.length c,.agg #[.int .i64 0,.int .i64 0]]) (by simp[results,Tryz.results19,go_sem,d0,d1]) rfl ⟨Below.setCell (Below.setCell (HBw.out _ HB1y.out) (Nat.le_succ _) _) (Nat.le_succ _) _,?_⟩;obtain⟨h1,h2⟩:=HFin.out;rw[h1];simp only;rw[h2,HRo.out,← HUf.out];have hz:w.heap.size+1<z6:=by have h3:=HXr.out;have h4:=HB3.out.size;have h5:=HZ7.out;omega
      have hmv:∀k,z6≤k→((wr.setCell ⟨w.heap.size+1,0,none⟩ (.int .i64 0)).setCell ⟨w.heap.size+1,1,none⟩ (.int .i64 0)).heap[k]?=wr.heap[k]?:=fun k hk=>by
       have hne:k≠w.heap.size+1:=by omega
       rw[Below.heap_setCell _ _ _ _ hne,Below.heap_setCell _ _ _ _ hne]
      exact⟨_,rfl,za4 HOa0.out (by omega) hmv⟩
end Go.Proofs.YtbbaooeioogijaaGreatDoor
namespace Go.Proofs.YtbbaooeioogijaaGreatDoor
open Go.RowKit
def zi3 (m:ByteArray × ByteArray):List Value:=[.string m.1,.string m.2]
def zdp (q:Sr × Value):List Value:=[.string q.1.name,q.2]
theorem zut (m:ByteArray × ByteArray):(zi3 m).length=2:=rfl
theorem zt9 (q:Sr × Value):(zdp q).length=2:=rfl
def MesP (P:Nat→Prop)(w:World)(v:Value)(ms:List (ByteArray × ByteArray)):Prop:=∃a cap,v=.slice a ms.length cap∧SlK 32 a ms.length cap∧IsSlU 2 zi3 P w a ms
def SrP (P:Nat→Prop)(w:World)(q:Sr × Value):Prop:=q.1.name.size≤maxLen∧MesP P w q.2 q.1.mems
def TrPU (P:Nat→Prop)(w:World)(q:List Nd × Value):Prop:=∃a cap,q.2=.slice a q.1.length cap∧SlK 64 a q.1.length cap∧IsSlU 6 zcG P w a q.1∧∀x ∈ q.1,NdOk x
def TrsP (P:Nat→Prop)(w:World)(v:Value)(L:List (List Nd)):Prop:=∃a cap Q,v=.slice a L.length cap∧SlK 24 a L.length cap∧Q.map Prod.fst=L∧IsSlU 1 zdO P w a Q∧∀q ∈ Q,TrPU P w q
def GlPU (P:Nat→Prop)(w:World)(q:GlU × Value):Prop:=VrOk q.1.var∧zi7 q.1.at_∧TrsP P w q.2 q.1.init
theorem MesP.keep {P P':Nat→Prop}{w w':World}{v:Value}{ms:List (ByteArray × ByteArray)}(h:MesP P w v ms)(hk:zdJ P P' w w'):MesP P' w' v ms:=by
 obtain⟨a,cap,e,ho,hs⟩:=h;exact⟨a,cap,e,ho,hs.keep hk⟩
theorem SrP.keep {P P':Nat→Prop}{w w':World}{q:Sr × Value}(h:SrP P w q)(hk:zdJ P P' w w'):SrP P' w' q:=⟨h.1,h.2.keep hk⟩
theorem TrPU.keep {P P':Nat→Prop}{w w':World}{q:List Nd × Value}(h:TrPU P w q)(hk:zdJ P P' w w'):TrPU P' w' q:=by
 obtain⟨a,cap,e,ho,hs,hv⟩:=h;exact⟨a,cap,e,ho,hs.keep hk,hv⟩
theorem TrsP.keep {P P':Nat→Prop}{w w':World}{v:Value}{L:List (List Nd)}(h:TrsP P w v L)(hk:zdJ P P' w w'):TrsP P' w' v L:=by
 obtain⟨a,cap,Q,e,ho,hQ,hs,hv⟩:=h;exact⟨a,cap,Q,e,ho,hQ,hs.keep hk,fun q hq=>(hv q hq).keep hk⟩
theorem GlPU.keep {P P':Nat→Prop}{w w':World}{q:GlU × Value}(h:GlPU P w q)(hk:zdJ P P' w w'):GlPU P' w' q:=⟨h.1,h.2.1,h.2.2.keep hk⟩
theorem MesP.is {P:Nat→Prop}{w:World}{v:Value}{ms:List (ByteArray × ByteArray)}{B:Nat}(h:MesP P w v ms)(hP:∀b,P b→b<B):IsMems B w v ms:=by
 obtain⟨a,cap,e,ho,hs⟩:=h;refine⟨a,cap,e,fun hn=>?_⟩;obtain⟨b,off,ea,hb,hc⟩:=hs hn;exact⟨b,off,ea,hP b hb,fun i m hm=>⟨by simpa using hc i m hm 0 _ rfl,hc i m hm 1 _ rfl⟩⟩
theorem TrPU.is {P:Nat→Prop}{w:World}{q:List Nd × Value}{B:Nat}(h:TrPU P w q)(hP:∀b,P b→b<B):IsTr B w q.2 q.1:=by
 obtain⟨a,cap,e,ho,hs,hv⟩:=h;exact⟨a,cap,e,ho,hs.sl hP,hv⟩
theorem TrsP.is {P:Nat→Prop}{w:World}{v:Value}{L:List (List Nd)}{B:Nat}(h:TrsP P w v L)(hP:∀b,P b→b<B):IsTrs B w v L:=by
 obtain⟨a,cap,Q,e,ho,hQ,hs,hv⟩:=h;exact⟨a,cap,Q,e,ho,hQ,hs.sl hP,fun q hq=>(hv q hq).is hP⟩
def RowU {α:Type}(T:TypeId)(k:Nat)(cells:α→List Value)(Ok:(Nat→Prop)→World→α→Prop)(B:Nat)(w:World)(v:Value)(Q:List α):Prop:=
 w.ownsRow B T k v Q.length (Q.flatMap cells)∧∀q ∈ Q,Ok (OffU B w v) w q
abbrev zfV {α:Type}(Ok:(Nat→Prop)→World→α→Prop):Prop:=∀(P P':Nat→Prop) (w w':World) (q:α),Ok P w q→zdJ P P' w w'→Ok P' w' q
theorem zmH {α:Type}{T:TypeId}{k:Nat}{cells:α→List Value}{Ok:(Nat→Prop)→World→α→Prop}(B:Nat)(w:World):RowU T k cells Ok B w (.slice none 0 0) []:=⟨World.ownsRow_nil _ _ _ _,fun _ h=>by cases h⟩
theorem RowU.kept {α:Type}{T:TypeId}{k:Nat}{cells:α→List Value}{Ok:(Nat→Prop)→World→α→Prop}(hk:zfV Ok){B:Nat}{w w':World}{v:Value}{Q:List α}{row:Option Nat}(h:RowU T k cells Ok B w v Q)(hg:w.grownBy w' row)(hr:∀r,row=some r→r<B):RowU T k cells Ok B w' v Q:=
 ⟨h.1.kept hg (by
   cases hv:v.ownBlock with
   | none=>exact .inl rfl
   | some r=>exact .inr (fun e=>by have:=hr r e.symm;have:=(h.1.lt r hv).1;omega)),fun q hq=>hk _ _ _ _ _ (h.2 q hq) (zkz hg (fun r e=>.inl (hr r e)))⟩
theorem RowU.step {α:Type}{T:TypeId}{k:Nat}{cells:α→List Value}{Ok:(Nat→Prop)→World→α→Prop}(hk:zfV Ok){B:Nat}{w w':World}{v:Value}{i g cap:Nat}{Q:List α}{q:α}(h:RowU T k cells Ok B w v Q)(hq:Ok (OffU B w v) w q)(hi:Q.length=i)
 (hown:w'.ownsRow B T k (.slice (some ⟨g,0,none⟩) (i+1) cap) (i+1) (Q.flatMap cells++cells q)) (hg:w.grownBy w' v.ownBlock) (hv:v.ownBlock=some g∨g=w.heap.size):RowU T k cells Ok B w' (.slice (some ⟨g,0,none⟩) (i+1) cap) (Q++[q]):=by
 have hkp:zdJ (OffU B w v) (OffU B w' (.slice (some ⟨g,0,none⟩) (i+1) cap)) w w':=zou hg (fun g' e=>by cases e;exact hv);refine⟨?_,fun x hx=>?_⟩
 ·rw[List.length_append,List.flatMap_append,hi]
  simpa using hown
 ·rcases List.mem_append.1 hx with hx|hx
  ·exact hk _ _ _ _ _ (h.2 x hx) hkp
  ·rw[List.mem_singleton.1 hx]
   exact hk _ _ _ _ _ hq hkp
abbrev SrsRowU:Nat→World→Value→List (Sr × Value)→Prop:=RowU 61 2 zdp SrP
abbrev TrsRowU:Nat→World→Value→List (List Nd × Value)→Prop:=RowU 43 1 zdO TrPU
abbrev GlsRowU:Nat→World→Value→List (GlU × Value)→Prop:=RowU 64 5 zbP GlPU
theorem zmA:zfV SrP:=fun _ _ _ _ _ h k=>h.keep k
theorem zmx:zfV TrPU:=fun _ _ _ _ _ h k=>h.keep k
theorem zkH:zfV GlPU:=fun _ _ _ _ _ h k=>h.keep k
theorem TrsRowU.p {B:Nat}{w:World}{v:Value}{Q:List (List Nd × Value)}(h:TrsRowU B w v Q)(hz:Q.length*24≤140737488351232):TrsP (fun b=>B≤b∧b<w.heap.size) w v (Q.map Prod.fst):=by
 obtain⟨a,cap,e,h1,h2,hs,hn⟩:=zds zvi h.1 rfl;exact⟨a,cap,Q,by rw[List.length_map];exact e,⟨by rw[List.length_map];exact hz,by rw[List.length_map];exact h1,h2,fun e=>by rw[List.length_map];exact hn e⟩,rfl,hs.keep (fun b hb=>⟨rfl,hb.2⟩),fun q hq=>(h.2 q hq).keep (fun b hb=>⟨rfl,hb.1,hb.2.1⟩)⟩
def StsP (P:Nat→Prop)(w:World)(v:Value)(L:List Sr):Prop:=∃a cap Q,v=.slice a L.length cap∧SlK 40 a L.length cap∧Q.map Prod.fst=L∧IsSlU 2 zdp P w a Q∧∀q ∈ Q,SrP P w q
def GlsP (P:Nat→Prop)(w:World)(v:Value)(L:List GlU):Prop:=∃a cap Q,v=.slice a L.length cap∧SlK 72 a L.length cap∧Q.map Prod.fst=L∧IsSlU 5 zbP P w a Q∧∀q ∈ Q,GlPU P w q
theorem StsP.keep {P P':Nat→Prop}{w w':World}{v:Value}{L:List Sr}(h:StsP P w v L)(hk:zdJ P P' w w'):StsP P' w' v L:=by
 obtain⟨a,cap,Q,e,ho,hQ,hs,hv⟩:=h;exact⟨a,cap,Q,e,ho,hQ,hs.keep hk,fun q hq=>(hv q hq).keep hk⟩
theorem GlsP.keep {P P':Nat→Prop}{w w':World}{v:Value}{L:List GlU}(h:GlsP P w v L)(hk:zdJ P P' w w'):GlsP P' w' v L:=by
 obtain⟨a,cap,Q,e,ho,hQ,hs,hv⟩:=h;exact⟨a,cap,Q,e,ho,hQ,hs.keep hk,fun q hq=>(hv q hq).keep hk⟩
theorem SrsRowU.p {B:Nat}{w:World}{v:Value}{Q:List (Sr × Value)}(h:SrsRowU B w v Q)(hz:Q.length*40≤140737488351232):StsP (fun b=>B≤b∧b<w.heap.size) w v (Q.map Prod.fst):=by
 obtain⟨a,cap,e,h1,h2,hs,hn⟩:=zds zt9 h.1 rfl;exact⟨a,cap,Q,by rw[List.length_map];exact e,⟨by rw[List.length_map];exact hz,by rw[List.length_map];exact h1,h2,fun e=>by rw[List.length_map];exact hn e⟩,rfl,hs.keep (fun b hb=>⟨rfl,hb.2⟩),fun q hq=>(h.2 q hq).keep (fun b hb=>⟨rfl,hb.1,hb.2.1⟩)⟩
theorem GlsRowU.p {B:Nat}{w:World}{v:Value}{Q:List (GlU × Value)}(h:GlsRowU B w v Q)(hz:Q.length*72≤140737488351232):GlsP (fun b=>B≤b∧b<w.heap.size) w v (Q.map Prod.fst):=by
 obtain⟨a,cap,e,h1,h2,hs,hn⟩:=zds zuG h.1 rfl;exact⟨a,cap,Q,by rw[List.length_map];exact e,⟨by rw[List.length_map];exact hz,by rw[List.length_map];exact h1,h2,fun e=>by rw[List.length_map];exact hn e⟩,rfl,hs.keep (fun b hb=>⟨rfl,hb.2⟩),fun q hq=>(h.2 q hq).keep (fun b hb=>⟨rfl,hb.1,hb.2.1⟩)⟩
theorem StsP.is {P:Nat→Prop}{w:World}{v:Value}{L:List Sr}{B:Nat}(h:StsP P w v L)(hP:∀b,P b→b<B):IsStU B w v L:=by
 obtain⟨a,cap,Q,e,ho,hQ,hs,hv⟩:=h;subst hQ;refine⟨a,cap,Q.map Prod.snd,e,⟨ho.2.1,ho.2.2.1,ho.1,fun x hx=>?_,fun u hu n c eu=>?_,fun ea=>?_⟩,⟨by simp,fun hn=>?_,fun x hx=>?_⟩⟩
 ·obtain⟨q,hq,rfl⟩:=List.mem_map.1 hx
  obtain⟨_,_,_,h1,_⟩:=(hv q hq).2;exact h1.1
 ·obtain⟨q,hq,rfl⟩:=List.mem_map.1 hu
  obtain⟨a',c',e',h1,_⟩:=(hv q hq).2;rw[e']at eu;cases eu;exact h1.2.2.2 rfl
 ·have:=ho.2.2.2 ea
  exact⟨List.eq_nil_of_length_eq_zero this.1,this.2⟩
 ·obtain⟨b,off,ea,hb,hc⟩:=hs (fun e=>hn (by rw[e];rfl))
  refine⟨b,off,ea,hP b hb,fun i x u hx hu=>?_⟩;rw[List.getElem?_map,Option.map_eq_some_iff]at hx hu;obtain⟨q,hq,rfl⟩:=hx;obtain⟨q',hq',rfl⟩:=hu;rw[hq]at hq';obtain rfl:=zv4 hq';exact⟨by simpa using hc i q hq 0 _ rfl,hc i q hq 1 _ rfl,(hv q (List.mem_of_getElem? hq)).2.is hP⟩
 ·obtain⟨q,hq,rfl⟩:=List.mem_map.1 hx
  exact(hv q hq).1
theorem GlsP.is {P:Nat→Prop}{w:World}{v:Value}{L:List GlU}{B:Nat}(h:GlsP P w v L)(hP:∀b,P b→b<B):IsGlsU B w v L:=by
 obtain⟨a,cap,Q,e,ho,hQ,hs,hv⟩:=h;exact⟨a,cap,Q,e,ho,hQ,hs.sl hP,fun q hq=>⟨(hv q hq).1,(hv q hq).2.1,(hv q hq).2.2.is hP⟩⟩
structure FnC (B:Nat)(w:World)(q:FnU × Value × Value):Prop where
 name:q.1.name.size≤maxLen
 type:q.1.type.size≤maxLen
 at_:zi7 q.1.at_
 plen:q.1.params.length*40≤140737488351232
 pok:∀x ∈ q.1.params,VrOk x
 blen:q.1.body.length*64≤140737488351232
 bok:∀x ∈ q.1.body,NdOk x
 params:w.ownsRow B 50 3 q.2.1 q.1.params.length (q.1.params.flatMap zbK)
 body:w.ownsRow B 47 6 q.2.2 q.1.body.length (q.1.body.flatMap zcG)
 apart:∀k,q.2.1.ownBlock=some k→q.2.2.ownBlock≠some k
def BlkU (q:FnU × Value × Value)(k:Nat):Prop:=q.2.1.ownBlock=some k∨q.2.2.ownBlock=some k
def zrC (q q':FnU × Value × Value):Prop:=∀k,BlkU q k→¬BlkU q' k
def FnsC (B:Nat)(w:World)(v:Value)(Q:List (FnU × Value × Value)):Prop:=w.ownsRow B 45 5 v Q.length (Q.flatMap zaA)∧(∀q ∈ Q,FnC B w q∧∀k,BlkU q k→v.ownBlock≠some k)∧Q.Pairwise zrC
theorem zto (B:Nat)(w:World):FnsC B w (.slice none 0 0) []:=⟨World.ownsRow_nil _ _ _ _,fun _ h=>(by cases h),List.Pairwise.nil⟩
theorem FnC.lt {B:Nat}{w:World}{q:FnU × Value × Value}(h:FnC B w q){k:Nat}(hk:BlkU q k):B≤k∧k<w.heap.size:=by
 rcases hk with hk|hk
 ·exact h.params.lt k hk
 ·exact h.body.lt k hk
theorem zdd {w w':World}{B n k:Nat}{T:TypeId}{v:Value}{xs:List Value}{row:Option Nat}(h:w.ownsRow B T k v n xs)(hg:w.grownBy w' row)(hr:∀r,row=some r→v.ownBlock≠some r):w'.ownsRow B T k v n xs:=
 h.kept hg (by
  cases hv:v.ownBlock with
  | none=>exact .inl rfl
  | some r=>exact .inr (fun e=>hr r e.symm hv))
theorem FnC.kept {B:Nat}{w w':World}{q:FnU × Value × Value}{row:Option Nat}(h:FnC B w q)(hg:w.grownBy w' row)(hr:∀r,row=some r→¬BlkU q r):FnC B w' q:=
 ⟨h.name,h.type,h.at_,h.plen,h.pok,h.blen,h.bok,zdd h.params hg (fun r e hv=>hr r e (.inl hv)),zdd h.body hg (fun r e hv=>hr r e (.inr hv)),h.apart⟩
theorem FnsC.kept {B:Nat}{w w':World}{v:Value}{Q:List (FnU × Value × Value)}{row:Option Nat}(h:FnsC B w v Q)(hg:w.grownBy w' row)(hr:∀r,row=some r→r<B):FnsC B w' v Q:=
 ⟨zdd h.1 hg (fun r e hv=>by have:=hr r e;have:=(h.1.lt r hv).1;omega),fun q hq=>⟨(h.2.1 q hq).1.kept hg (fun r e hb=>by have:=hr r e;have:=((h.2.1 q hq).1.lt hb).1;omega),(h.2.1 q hq).2⟩,h.2.2⟩
theorem FnsC.step {B:Nat}{w w':World}{v:Value}{i g cap:Nat}{Q:List (FnU × Value × Value)}{q:FnU × Value × Value}(h:FnsC B w v Q)(hq:FnC B w q)(hv:∀k,BlkU q k→v.ownBlock≠some k)(hn:∀x ∈ Q,zrC x q)(hi:Q.length=i)
 (hown:w'.ownsRow B 45 5 (.slice (some ⟨g,0,none⟩) (i+1) cap) (i+1) (Q.flatMap zaA++zaA q)) (hg:w.grownBy w' v.ownBlock) (hgv:v.ownBlock=some g∨g=w.heap.size):FnsC B w' (.slice (some ⟨g,0,none⟩) (i+1) cap) (Q++[q]):=by
 have key:∀x,FnC B w x→(∀k,BlkU x k→v.ownBlock≠some k)→FnC B w' x∧∀k,BlkU x k→(Value.slice (some ⟨g,0,none⟩) (i+1) cap).ownBlock≠some k:=fun x h1 h2=>by
  refine⟨h1.kept hg (fun r e hb=>h2 r hb e),fun k hb e=>?_⟩;simp only[Value.ownBlock,Option.some.injEq]at e;subst e;rcases hgv with e|e
  ·exact h2 _ hb e
  ·have:=(h1.lt hb).2;omega
 refine⟨?_,fun x hx=>?_,?_⟩
 ·rw[List.length_append,List.flatMap_append,hi]
  simpa using hown
 ·rcases List.mem_append.1 hx with hx|hx
  ·exact key x (h.2.1 x hx).1 (h.2.1 x hx).2
  ·rw[List.mem_singleton.1 hx]
   exact key q hq hv
 ·rw[List.pairwise_append]
  exact⟨h.2.2,List.pairwise_singleton _ _,fun x hx y hy=>by rw[List.mem_singleton.1 hy];exact hn x hx⟩
theorem FnC.is {B:Nat}{w:World}{q:FnU × Value × Value}(h:FnC B w q):IsFnU w.heap.size w q.1 q.2.1 q.2.2:=by
 obtain⟨a,c,e,h1,h2,hs,hn⟩:=zds zpa h.params rfl;obtain⟨a2,c2,e2,h3,h4,hs2,hn2⟩:=zds zg5 h.body rfl;exact⟨h.name,h.type,h.at_,⟨a,c,e,⟨h.plen,h1,h2,hn⟩,hs.sl (fun b hb=>hb.2.2),h.pok⟩,⟨a2,c2,e2,⟨h.blen,h3,h4,hn2⟩,hs2.sl (fun b hb=>hb.2.2),h.bok⟩⟩
theorem FnsC.is {B:Nat}{w:World}{v:Value}{Q:List (FnU × Value × Value)}(h:FnsC B w v Q)(hz:Q.length*88≤140737488351232):IsFnsU w.heap.size w v (Q.map Prod.fst):=by
 obtain⟨a,cap,e,h1,h2,hs,hn⟩:=zds zc8 h.1 rfl;exact⟨a,cap,Q,by rw[List.length_map];exact e,⟨by rw[List.length_map];exact hz,by rw[List.length_map];exact h1,h2,fun e=>by rw[List.length_map];exact hn e⟩,rfl,hs.sl (fun b hb=>hb.2.2),fun q hq=>(h.2.1 q hq).1.is⟩
structure UnC (B:Nat)(w:World)(u:UnU)(vs vg vf:Value)(M:Nat)(Q:List (FnU × Value × Value)):Prop where
 structs:StsP (fun b=>B≤b∧b<M) w vs u.structs
 globals:GlsP (fun b=>B≤b∧b<M) w vg u.globals
 funcs:FnsC M w vf Q
 fns:Q.map Prod.fst=u.funcs
 few:u.funcs.length*88≤140737488351232
 low:B≤M∧M≤w.heap.size
theorem UnC.is {B M:Nat}{w:World}{u:UnU}{vs vg vf:Value}{Q:List (FnU × Value × Value)}(h:UnC B w u vs vg vf M Q):IsUn w.heap.size w u vs vg vf:=by
 have hf:=h.funcs.is (by rw[← List.length_map (f:=Prod.fst),h.fns];exact h.few);rw[h.fns]at hf;exact⟨h.structs.is (fun b hb=>zv5 hb.2 h.low.2),h.globals.is (fun b hb=>zv5 hb.2 h.low.2),hf⟩
theorem UnC.below {B M:Nat}{w w':World}{u:UnU}{vs vg vf:Value}{Q:List (FnU × Value × Value)}(h:UnC B w u vs vg vf M Q)(hb:Below w.heap.size w w'):UnC B w' u vs vg vf M Q:=
 ⟨h.structs.keep (fun b hb'=>⟨hb.block b (zv5 hb'.2 h.low.2),hb'⟩),h.globals.keep (fun b hb'=>⟨hb.block b (zv5 hb'.2 h.low.2),hb'⟩),h.funcs.kept (zcU none hb) (fun r e=>by cases e),h.fns,h.few,h.low.1,zv6 h.low.2 hb.size⟩
end Go.Proofs.YtbbaooeioogijaaGreatDoor
namespace Go
theorem zgl {P:Program}{w:World}{ops:Array Oper}{o:Oper}{a:Act}{K:Act→World→Prop}{Q:Exit→Act→World→Prop}{E:Prop}(hgd:o.guard=none)(s x:Operand)(t:TypeId)
 (ho:o.op=.call { callee:=.builtin .append,args:=#[s,x],argTypes:=#[t,t] })
 (base:Nat) (e:TypeId) (i:TypeInfo) (size:Nat) (ht:P.underlying t=some (.slice e)) (hi:P.info? e=some i)
 (v:Value) (n:Nat) (xs:List Value) (hs:a.eval s=v) (hown:w.ownsRow base e size v n xs) (hx:a.eval x=.slice none 0 0)
 (h:K (a.put o.dst v) w):if Region.wanted o (yielded ops a.tmps)=true then Oper.wp P o a w K Q else E:=by
 have hw:Region.wanted o (yielded ops a.tmps)=true:=by simp[Region.wanted,hgd]
 rw[if_pos hw];have hrun:=run_append_owned_none (P:=P) (w:=w) base t o.type e i size ht hi v n xs hown;unfold Oper.wp;simp[execOp,ho,resolve,invoke,builtin,hs,hx,hrun,Result.andThen];exact h
end Go
namespace Go.Proofs.YtbbaooeioogijaaGreatDoor
open Go.RowKit
theorem zvF:(Tryz.prog.info? 82).map (fun i=>(i.zero,i.size,i.bytes))=some (some (.agg #[.string ⟨#[]⟩,.string ⟨#[]⟩]),2,32):=by kernel_rfl
theorem zka {ms:List (ByteArray × ByteArray)}{i:Nat}{q:Value × Value}(h:(zew ms)[i]?=some q):∃m,ms[i]?=some m∧q=(.string m.1,.string m.2):=by
 rw[zew,List.getElem?_map,Option.map_eq_some_iff]at h;obtain⟨m,hm,rfl⟩:=h;exact⟨m,hm,rfl⟩
theorem zj9 (ms:List (ByteArray × ByteArray)):(zew ms).length=ms.length:=by simp[zew]
theorem zsO (ms:List (ByteArray × ByteArray)):∀u ∈ zbe (zew ms),u.oneCell'=true:=fun u hu=>by
 obtain⟨j,hj,rfl⟩:=List.getElem_of_mem hu;obtain⟨i,q,hq,hj'⟩:=zd7 (zv1 hj);obtain⟨m,hm,rfl⟩:=zka hq;rcases hj' with ⟨_,h⟩|⟨_,h⟩<;>rw[h]<;>rfl
theorem zp9 {B:Nat}{w:World}{ad:Addr}{n c:Nat}{ms:List (ByteArray × ByteArray)}(h:IsMems B w (.slice (some ad) n c) ms):∀(j:Nat) u,(zbe (zew ms))[j]?=some u→w.cell? (ad.add j)=some u:=fun j u hu=>by
 obtain⟨i,q,hq,hj⟩:=zd7 hu;obtain⟨m,hm,rfl⟩:=zka hq;obtain⟨a,cap,e,hr⟩:=h;obtain⟨b,off,ha,_,hc⟩:=hr (fun e=>by rw[e]at hm;simp at hm);simp only[Value.slice.injEq]at e;obtain⟨e,_,_⟩:=e;subst ha;obtain rfl:=zv4 e;obtain⟨h1,h2⟩:=hc i m hm;rcases hj with ⟨rfl,rfl⟩|⟨rfl,rfl⟩
 ·rw[add2];exact h1
 ·rw[add2,← Nat.add_assoc];exact h2
theorem zsu {w:World}{base:Nat}{v:Value}{ms:List (ByteArray × ByteArray)}(h:w.ownsRow base 82 2 v ms.length (zbe (zew ms))):IsMems w.heap.size w v ms:=by
 rcases h.2 with ⟨rfl,h0⟩|⟨g,cap,cur,rfl,_,hg,_⟩
 ·have:ms=[]:=List.eq_nil_of_length_eq_zero h0
  subst this;exact⟨none,0,rfl,fun h=>absurd rfl h⟩
 ·refine⟨_,cap,rfl,fun _=>⟨g,0,rfl,zaa hg,fun i m hm=>?_⟩⟩
  have hp:(zew ms)[i]?=some (.string m.1,.string m.2):=by rw[zew,List.getElem?_map,hm];rfl
  obtain⟨h1,h2⟩:=zje hp;have c1:=h.cells (g:=g) rfl _ _ h1;have c2:=h.cells (g:=g) rfl _ _ h2;rw[add2,Nat.zero_add]at c1 c2;exact⟨by rw[Nat.zero_add];exact c1,by rw[Nat.zero_add];exact c2⟩
theorem IsMems.kept {B:Nat}{w w':World}{v:Value}{ms:List (ByteArray × ByteArray)}{row:Option Nat}(h:IsMems B w v ms)(hB:B≤w.heap.size)(hg:w.grownBy w' row)(hne:∀k,v.ownBlock=some k→row≠some k):IsMems B w' v ms:=by
 obtain⟨a,cap,rfl,hr⟩:=h;refine⟨a,cap,rfl,fun hn=>?_⟩;obtain⟨b,off,rfl,hlt,hc⟩:=hr hn;refine⟨b,off,rfl,hlt,fun i m hm=>?_⟩;have hb:some b≠row:=fun e=>hne b rfl e.symm
 rw[hg.cell_far _ (show b<w.heap.size by omega) hb,hg.cell_far _ (show b<w.heap.size by omega) hb];exact hc i m hm
end Go.Proofs.YtbbaooeioogijaaGreatDoor
namespace Go.Proofs.YtbbaooeioogijaaGreatDoor
open Go.RowKit
theorem zem (W:World)(b j:Nat)(v:Value):W.grownBy (W.setCell ⟨b,j,none⟩ v) (some b):=
 ⟨rfl,rfl,rfl,by simp,fun k _ hne=>Below.heap_setCell _ _ _ _ (fun e=>hne (by rw[e]))⟩
theorem zdq {w:World}{b i:Nat}{c:Array Value}{T:TypeId}(h:w.heap[b]?=some (.cells c T (0,0)))(v:Value):(w.setCell ⟨b,i,none⟩ v).heap[b]?=some (.cells (c.setIfInBounds i v) T (0,0)):=by
 simp[World.setCell,Array.getElem?_modify,h]
theorem zkV {wB wx w11:World}{o:Obj}{r3 j:Nat}{c:Array Value}{vj:Value}{T:TypeId}(hr3:r3<wB.heap.size)(hX:wx.heap[r3]?=some (.cells c T (0,0)))(hj:c[j]?=some vj)(hG:wB.grownBy wx (some r3))(hrow:∀b,vj.ownBlock=some b→wB.heap.size≤b)(hgr:(wx.alloc o).grownBy w11 vj.ownBlock)(v':Value) :
 (w11.cell? ⟨r3,j,none⟩=some vj∧w11.frozen? ⟨r3,j,none⟩=false)∧(w11.setCell ⟨r3,j,none⟩ v').heap[r3]?=some (.cells (c.setIfInBounds j v') T (0,0))∧w11.grownBy (w11.setCell ⟨r3,j,none⟩ v') (some r3)∧wB.grownBy (w11.setCell ⟨r3,j,none⟩ v') (some r3):=by
 have hlt:r3<(wx.alloc o).heap.size:=by have:=zaa hX;simp;omega
 have hne:some r3≠vj.ownBlock:=fun e=>by have:=hrow _ e.symm;omega
 have hX11:w11.heap[r3]?=some (.cells c T (0,0)):=(hgr.block _ hlt hne).trans (((ba1 wx o).block _ (zaa hX)).trans hX);have hst:=zem w11 r3 j v';have hg11:wB.grownBy w11 (some r3):=by
  have h1:=hG.trans (World.grownBy_alloc wx o (some r3));exact⟨hgr.os.trans h1.os,hgr.tape.trans h1.tape,hgr.output.trans h1.output,zv6 h1.size hgr.size,fun b hb hn=>(hgr.block b (zv5 hb h1.size) (fun e=>by have:=hrow b e.symm;omega)).trans (h1.block b hb hn)⟩
 exact⟨⟨by simp[World.cell?,hX11,hj],by simp[World.frozen?,hX11]⟩,zdq hX11 v',hst,hg11.trans hst⟩
theorem zmI {α:Type}{T TU:TypeId}{k:Nat}{cells:α→List Value}{Ok:(Nat→Prop)→World→α→Prop}(hk:zfV Ok){wB wx w11:World}{o:Obj}{r3 j:Nat}{c:Array Value}{v0:Value}{i g cap:Nat}{Qn:List α}{q:α}
 (hr3:r3<wB.heap.size) (hR:RowU T k cells Ok wB.heap.size wx v0 Qn) (hq:Ok (OffU wB.heap.size wx v0) wx q) (hi:Qn.length=i) (hX:wx.heap[r3]?=some (.cells c TU (0,0))) (hj:c[j]?=some v0) (hG:wB.grownBy wx (some r3))
 (hown:w11.ownsRow wB.heap.size T k (.slice (some ⟨g,0,none⟩) (i+1) cap) (i+1) (Qn.flatMap cells++cells q)) (hgr:(wx.alloc o).grownBy w11 v0.ownBlock) (hg:v0.ownBlock=some g∨g=wx.heap.size+1) :
 (w11.cell? ⟨r3,j,none⟩=some v0∧w11.frozen? ⟨r3,j,none⟩=false)∧RowU T k cells Ok wB.heap.size (w11.setCell ⟨r3,j,none⟩ (.slice (some ⟨g,0,none⟩) (i+1) cap)) (.slice (some ⟨g,0,none⟩) (i+1) cap) (Qn++[q]) ∧
   (w11.setCell ⟨r3,j,none⟩ (.slice (some ⟨g,0,none⟩) (i+1) cap)).heap[r3]?=some (.cells (c.setIfInBounds j (.slice (some ⟨g,0,none⟩) (i+1) cap)) TU (0,0))∧wB.grownBy (w11.setCell ⟨r3,j,none⟩ (.slice (some ⟨g,0,none⟩) (i+1) cap)) (some r3):=by
 have ga:=World.grownBy_alloc wx o none;have hR10:=hR.kept hk ga (fun r e=>by cases e);have hq10:=hk _ _ _ _ _ hq (zkz ga (fun r e=>by cases e));have hrow:=hR10.step hk hq10 hi hown hgr (by rcases hg with h|h;exact .inl h;exact .inr (by rw[h];simp));obtain⟨h1,h2,h3,h4⟩:=zkV hr3 hX hj hG (fun b e=>(hR.1.lt b e).1) hgr (.slice (some ⟨g,0,none⟩) (i+1) cap);exact⟨h1,hrow.kept hk h3 (fun r e=>by cases e;exact hr3),h2,h4⟩
theorem ztp {TU:TypeId}{wB wx w11:World}{o:Obj}{r3 j:Nat}{c:Array Value}{v0:Value}{i g cap:Nat}{Qn:List (FnU × Value × Value)}{q:FnU × Value × Value}
 (hr3:r3<wB.heap.size) (hR:FnsC wB.heap.size wx v0 Qn) (hq:FnC wB.heap.size wx q) (hv:∀k,BlkU q k→v0.ownBlock≠some k) (hn:∀x ∈ Qn,zrC x q) (hi:Qn.length=i) (hX:wx.heap[r3]?=some (.cells c TU (0,0))) (hj:c[j]?=some v0) (hG:wB.grownBy wx (some r3))
 (hown:w11.ownsRow wB.heap.size 45 5 (.slice (some ⟨g,0,none⟩) (i+1) cap) (i+1) (Qn.flatMap zaA++zaA q)) (hgr:(wx.alloc o).grownBy w11 v0.ownBlock) (hg:v0.ownBlock=some g∨g=wx.heap.size+1) :
 (w11.cell? ⟨r3,j,none⟩=some v0∧w11.frozen? ⟨r3,j,none⟩=false)∧FnsC wB.heap.size (w11.setCell ⟨r3,j,none⟩ (.slice (some ⟨g,0,none⟩) (i+1) cap)) (.slice (some ⟨g,0,none⟩) (i+1) cap) (Qn++[q]) ∧
   (w11.setCell ⟨r3,j,none⟩ (.slice (some ⟨g,0,none⟩) (i+1) cap)).heap[r3]?=some (.cells (c.setIfInBounds j (.slice (some ⟨g,0,none⟩) (i+1) cap)) TU (0,0))∧wB.grownBy (w11.setCell ⟨r3,j,none⟩ (.slice (some ⟨g,0,none⟩) (i+1) cap)) (some r3):=by
 have ga:=World.grownBy_alloc wx o none;have hR10:=hR.kept ga (fun r e=>by cases e);have hq10:=hq.kept ga (fun r e=>by cases e);have hrow:=hR10.step hq10 hv hn hi hown hgr (by rcases hg with h|h;exact .inl h;exact .inr (by rw[h];simp));obtain⟨h1,h2,h3,h4⟩:=zkV hr3 hX hj hG (fun b e=>(hR.1.lt b e).1) hgr (.slice (some ⟨g,0,none⟩) (i+1) cap);exact⟨h1,hrow.kept h3 (fun r e=>by cases e;exact hr3),h2,h4⟩
theorem zqQ:∀ms:List (ByteArray × ByteArray),zbe (zew ms)=ms.flatMap zi3
 | []=>rfl
 | m :: ms=>by
   have:=zqQ ms;simp only[zew,List.map_cons,zbe,List.flatMap_cons,zi3]at *;rw[this]
   rfl
theorem zrV {wB wr w3 w5:World}{o:Obj}{r3 i g cap:Nat}{c:Array Value}{v0 v1:Value}{Qn:List (Sr × Value)}{x:Sr}{TU:TypeId}(hr3:r3<wB.heap.size)(hR:SrsRowU wB.heap.size wr v0 Qn)(hi:Qn.length=i)(hX:wr.heap[r3]?=some (.cells c TU (0,0)))(hj:c[0]?=some v0)(hG:wB.grownBy wr (some r3))(hnm:x.name.size≤maxLen)(hz:x.mems.length*32≤140737488351232)
 (h3:Below wr.heap.size wr w3) (hown1:w3.ownsRow wr.heap.size 82 2 v1 x.mems.length (zbe (zew x.mems)))
 (hown:w5.ownsRow wB.heap.size 61 2 (.slice (some ⟨g,0,none⟩) (i+1) cap) (i+1) (Qn.flatMap zdp++[.string x.name,v1])) (hgr:(w3.alloc o).grownBy w5 v0.ownBlock) (hg:v0.ownBlock=some g∨g=w3.heap.size+1) :
 (w5.cell? ⟨r3,0,none⟩=some v0∧w5.frozen? ⟨r3,0,none⟩=false)∧SrsRowU wB.heap.size (w5.setCell ⟨r3,0,none⟩ (.slice (some ⟨g,0,none⟩) (i+1) cap)) (.slice (some ⟨g,0,none⟩) (i+1) cap) (Qn++[(x,v1)]) ∧
   (w5.setCell ⟨r3,0,none⟩ (.slice (some ⟨g,0,none⟩) (i+1) cap)).heap[r3]?=some (.cells (c.setIfInBounds 0 (.slice (some ⟨g,0,none⟩) (i+1) cap)) TU (0,0))∧wB.grownBy (w5.setCell ⟨r3,0,none⟩ (.slice (some ⟨g,0,none⟩) (i+1) cap)) (some r3):=by
 rw[zqQ]at hown1;obtain⟨a,cap1,e,hc1,hc2,hs,hn⟩:=zds zut hown1 rfl;have hBr:=hG.size;refine zmI zmA hr3 (hR.kept zmA (zcU none h3) (fun r e=>by cases e)) (q:=(x,v1)) ⟨hnm,a,cap1,e,⟨hz,hc1,hc2,hn⟩,hs.keep (fun b hb=>⟨rfl,by have:=hb.2.1;omega,hb.2.2,fun e=>by have:=(hR.1.lt b e).2;have:=hb.2.1;omega⟩)⟩ hi ((h3.block _ (zaa hX)).trans hX) hj (hG.trans (zcU (some r3) h3)) hown hgr hg
theorem zrQ {w5 wr w6 w11:World}{o:Obj}{k g cap:Nat}{v7 v6:Value}{T:List Nd}{Qt:List (List Nd × Value)}{at_:Option Addr}{ct:Nat}(hB:w5.heap.size≤wr.heap.size)(hR:TrsRowU w5.heap.size wr v7 Qt)(hot:SlK 64 at_ T.length ct)(hvt:∀x ∈ T,NdOk x)(hk:Qt.length=k)(hown6:NdRow w6 wr.heap.size v6 T)(hb6:Below wr.heap.size wr w6)
 (hown:w11.ownsRow w5.heap.size 43 1 (.slice (some ⟨g,0,none⟩) (k+1) cap) (k+1) (Qt.flatMap zdO++[v6])) (hgr:(w6.alloc o).grownBy w11 v7.ownBlock) (hg:v7.ownBlock=some g∨g=(w6.alloc o).heap.size):TrsRowU w5.heap.size w11 (.slice (some ⟨g,0,none⟩) (k+1) cap) (Qt++[(T,v6)]):=by
 have hb:=hb6.trans ((ba1 w6 o).mono hb6.size);have hR2:=hR.kept zmx (zcU none hb) (fun r e=>by cases e);obtain⟨a,c,e,hc1,hc2,hs,hn⟩:=zds zg5 hown6 rfl;have hq:TrPU (OffU w5.heap.size (w6.alloc o) v7) (w6.alloc o) (T,v6):=by
  refine⟨a,c,e,⟨hot.1,hc1,hc2,hn⟩,hs.keep (fun b h=>⟨(ba1 w6 o).block b h.2.2,?_,?_,?_⟩),hvt⟩
  ·have:=h.2.1
   omega
  ·have:=(ba1 w6 o).size;have:=h.2.2;omega
  ·intro e
   have:=(hR.1.lt b e).2;have:=h.2.1;omega
 exact hR2.step zmx hq hk hown hgr hg
theorem zti (q:GlU × Value)(h:∃a n c,q.2=.slice a n c):∀u ∈ zbP q,u.oneCell'=true:=fun u hu=>by
 obtain⟨a,n,c,e⟩:=h;simp only[zbP,e,List.mem_cons,List.not_mem_nil,or_false]at hu;rcases hu with rfl|rfl|rfl|rfl|rfl<;>rfl
theorem zvI {wo w5 wr:World}{B:Nat}{v1 v7 vo:Value}{ga:Int}{gn gt:ByteArray}{gv:Bool}{L:List (List Nd)}(hvr:VrOk ⟨gn,gt,gv⟩)(hat:zi7 ga)(hX:wr.heap[wo.heap.size]?=some (.cells #[.int .i64 ga,.string gn,.string gt,.bool gv,vo] 64 (0,0)))(hb:Below wo.heap.size wo wr)
 (hz5:wo.heap.size+1≤w5.heap.size) (_hz:w5.heap.size≤wr.heap.size) (hT:TrsP (fun b=>w5.heap.size≤b∧b<wr.heap.size) wr v7 L) (hv1:∀b,v1.ownBlock=some b→b<wo.heap.size) (hB:B≤wo.heap.size) :
 (wr.setCell ⟨wo.heap.size,4,none⟩ v7).heap[wo.heap.size]?=some (.cells #[.int .i64 ga,.string gn,.string gt,.bool gv,v7] 64 (0,0))∧Below wo.heap.size wo (wr.setCell ⟨wo.heap.size,4,none⟩ v7)∧GlPU (OffU B (wr.setCell ⟨wo.heap.size,4,none⟩ v7) v1) (wr.setCell ⟨wo.heap.size,4,none⟩ v7) (⟨ga,⟨gn,gt,gv⟩,L⟩,v7):=by
 refine⟨by simpa using zdq (i:=4) hX v7,hb.setCell (zv0 _) _,hvr,hat,hT.keep (fun b h=>⟨Below.heap_setCell _ _ _ _ (show b≠wo.heap.size by have:=h.1;omega),by have:=h.1;omega,by have:=h.2;simpa using this,fun e=>by have:=hv1 b e;have:=h.1;omega⟩)⟩
theorem zpK {wo w5 W:World}{fi:FnU}{vo vb v8:Value}(hX:w5.heap[wo.heap.size]?=some (.cells #[.int .i64 fi.at_,.string fi.name,.string fi.type,vo,vb] 45 (0,0)))(hb5:Below wo.heap.size wo w5)(hlt:wo.heap.size<w5.heap.size)(hb:Below w5.heap.size w5 W)
 (hown:W.ownsRow w5.heap.size 50 3 v8 fi.params.length (fi.params.flatMap zbK)) :
 (W.setCell ⟨wo.heap.size,3,none⟩ v8).heap[wo.heap.size]?=some (.cells #[.int .i64 fi.at_,.string fi.name,.string fi.type,v8,vb] 45 (0,0))∧(W.setCell ⟨wo.heap.size,3,none⟩ v8).ownsRow w5.heap.size 50 3 v8 fi.params.length (fi.params.flatMap zbK)∧Below wo.heap.size wo (W.setCell ⟨wo.heap.size,3,none⟩ v8)∧W.cell? ⟨wo.heap.size,3,none⟩=some vo∧W.frozen? ⟨wo.heap.size,3,none⟩=false:=by
 have hXW:=(hb.block _ hlt).trans hX;refine⟨by simpa using zdq (i:=3) hXW v8,zdd hown (zem W wo.heap.size 3 v8) (fun r e hv=>by cases e;have:=(hown.lt _ hv).1;omega),(hb5.trans (hb.mono hb5.size)).setCell (zv0 _) _,by simp[World.cell?,hXW],by simp[World.frozen?,hXW]⟩
theorem zvK {B:Nat}{wF wo w5 wX w8 w0:World}{fi:FnU}{vp vb vp' vo vb':Value}(hf:IsFnU B w0 fi vp vb)(hop:wX.ownsRow w5.heap.size 50 3 vp' fi.params.length (fi.params.flatMap zbK))(hbX:Below wo.heap.size wo wX)(hX:wX.heap[wo.heap.size]?=some (.cells #[.int .i64 fi.at_,.string fi.name,.string fi.type,vp',vo] 45 (0,0)))
 (hlt:wo.heap.size<w5.heap.size) (hb8:Below wX.heap.size wX w8) (hown8:NdRow w8 wX.heap.size vb' fi.body) (hB:wF.heap.size≤wo.heap.size) :
 (w8.setCell ⟨wo.heap.size,4,none⟩ vb').heap[wo.heap.size]?=some (.cells #[.int .i64 fi.at_,.string fi.name,.string fi.type,vp',vb'] 45 (0,0))∧Below wo.heap.size wo (w8.setCell ⟨wo.heap.size,4,none⟩ vb')∧FnC wF.heap.size (w8.setCell ⟨wo.heap.size,4,none⟩ vb') (fi,vp',vb')∧(∀k,BlkU (fi,vp',vb') k→wo.heap.size≤k)∧w8.cell? ⟨wo.heap.size,4,none⟩=some vo∧w8.frozen? ⟨wo.heap.size,4,none⟩=false:=by
 obtain⟨ap,cp,_,h1,_,h2⟩:=hf.params;obtain⟨ab,cb,_,h3,_,h4⟩:=hf.body;have hXl:=zaa hX;have hX8:=(hb8.block _ hXl).trans hX;have hg:=zem w8 wo.heap.size 4 vb';have hp:∀k,vp'.ownBlock=some k→w5.heap.size≤k∧k<wX.heap.size:=fun k hk=>hop.lt k hk
 have hb:∀k,vb'.ownBlock=some k→wX.heap.size≤k:=fun k hk=>(hown8.lt k hk).1
 have hop8:=zdd (hop.belowed hb8) hg (fun r e hv=>by cases e;have:=(hp _ hv).1;omega);have hob8:=zdd hown8 hg (fun r e hv=>by cases e;have:=hb _ hv;omega);refine⟨by simpa using zdq (i:=4) hX8 vb',(hbX.trans (hb8.mono hbX.size)).setCell (zv0 _) _,⟨hf.name,hf.type,hf.at_,h1.1,h2,h3.1,h4,za4 hop8 (by omega) (fun _ _=>rfl),za4 hob8 (by omega) (fun _ _=>rfl),fun k hk hk'=>?_⟩,fun k hk=>?_,by simp[World.cell?,hX8],by simp[World.frozen?,hX8]⟩
 ·have:=(hp k hk).2
  have:=hb k hk';omega
 ·rcases hk with hk|hk
  ·have:=(hp k hk).1;omega
  ·have:=hb k hk;omega
theorem ztr (q:FnU × Value × Value)(h1:∃a n c,q.2.1=.slice a n c)(h2:∃a n c,q.2.2=.slice a n c):∀u ∈ zaA q,u.oneCell'=true:=fun u hu=>by
 obtain⟨a,n,c,e⟩:=h1;obtain⟨a2,n2,c2,e2⟩:=h2;simp only[zaA,e,e2,List.mem_cons,List.not_mem_nil,or_false]at hu;rcases hu with rfl|rfl|rfl|rfl|rfl<;>rfl
theorem zt2 {w w3 wG wF wr:World}{u:UnU}{r3:Nat}{v0 v1 v2:Value}{Qf:List (FnU × Value × Value)}(hB:Below w.heap.size w wr)(hX1:wr.heap[w.heap.size+1]?=some (.cells #[.slice none 0 0,.slice none 0 0,.slice none 0 0] 26 (0,0)))(h3:w.heap.size+2≤w3.heap.size)(hr3:r3<w3.heap.size)
 (hS:StsP (fun b=>w3.heap.size≤b∧b<wG.heap.size) wF v0 u.structs) (hGl:GlsP (fun b=>wG.heap.size≤b∧b<wF.heap.size) wF v1 u.globals) (h3G:w3.heap.size≤wG.heap.size) (hGF:wG.heap.size≤wF.heap.size) (hG:wF.grownBy wr (some r3)) (hF:FnsC wF.heap.size wr v2 Qf) (hQ:Qf.map Prod.fst=u.funcs) (hz:u.funcs.length*88≤140737488351232) :
 (((wr.setCell ⟨w.heap.size+1,0,none⟩ v0).setCell ⟨w.heap.size+1,1,none⟩ v1).setCell ⟨w.heap.size+1,2,none⟩ v2).heap[w.heap.size+1]?=some (.cells #[v0,v1,v2] 26 (0,0)) ∧
 UnC w.heap.size (((wr.setCell ⟨w.heap.size+1,0,none⟩ v0).setCell ⟨w.heap.size+1,1,none⟩ v1).setCell ⟨w.heap.size+1,2,none⟩ v2) u v0 v1 v2 wF.heap.size Qf ∧
 Below w.heap.size w (((wr.setCell ⟨w.heap.size+1,0,none⟩ v0).setCell ⟨w.heap.size+1,1,none⟩ v1).setCell ⟨w.heap.size+1,2,none⟩ v2):=by
 have hg:wr.grownBy (((wr.setCell ⟨w.heap.size+1,0,none⟩ v0).setCell ⟨w.heap.size+1,1,none⟩ v1).setCell ⟨w.heap.size+1,2,none⟩ v2) (some (w.heap.size+1)):=((zem _ _ _ _).trans (zem _ _ _ _)).trans (zem _ _ _ _);have hx:(((wr.setCell ⟨w.heap.size+1,0,none⟩ v0).setCell ⟨w.heap.size+1,1,none⟩ v1).setCell ⟨w.heap.size+1,2,none⟩ v2).heap[w.heap.size+1]?=some (.cells #[v0,v1,v2] 26 (0,0)):=by
  have:=zdq (i:=2) (zdq (i:=1) (zdq (i:=0) hX1 v0) v1) v2;simpa using this
 have hb:=((hB.setCell (p:=⟨w.heap.size+1,0,none⟩) (Nat.le_succ _) v0).setCell (p:=⟨w.heap.size+1,1,none⟩) (Nat.le_succ _) v1).setCell (p:=⟨w.heap.size+1,2,none⟩) (Nat.le_succ _) v2;refine⟨hx,?_,hb⟩;generalize World.setCell _ _ _=W at *;have hsz:=hG.size;have key:∀b,w3.heap.size≤b→b<wF.heap.size→W.heap[b]?=wF.heap[b]?:=fun b h1 h2=>by
  rw[hg.block b (by omega) (fun e=>by have:=zv4 e;omega),hG.block b h2 (fun e=>by have:=zv4 e;omega)]
 exact⟨hS.keep (fun b h=>⟨key b h.1 (by have:=h.2;omega),by have:=h.1;omega,by have:=h.2;omega⟩),hGl.keep (fun b h=>⟨key b (by have:=h.1;omega) h.2,by have:=h.1;omega,h.2⟩),hF.kept hg (fun r e=>by cases e;omega),hQ,hz,by omega,zv6 hsz hg.size⟩
end Go.Proofs.YtbbaooeioogijaaGreatDoor
