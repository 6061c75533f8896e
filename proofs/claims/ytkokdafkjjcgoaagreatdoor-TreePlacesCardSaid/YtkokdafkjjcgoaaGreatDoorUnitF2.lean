/- A function of a unit looked at, where its head is right: the -/
import Derived.Test.YtkokdafkjjcgoaaGreatDoorMg35
namespace Go.Proofs.YtkokdafkjjcgoaaGreatDoor
open Go.RowKit
theorem parmE_bool (bb:Bool) (p:VrU) (t:Ty) (te nm e0:Bool) (h1:decide (p.type = tyB t) = te) (h2:isNameB p.name = nm) (h3:decide (p.name = ⟨#[]⟩) = e0):parmE bb (p,t) = if (te && ((nm || (e0 && !bb)) && (bb || !p.vol))) = true then 0 else 90:=by
 subst h1 h2 h3
 unfold parmE
 by_cases c1:p.type = tyB t <;> rcases isNameB p.name with _ | _ <;> by_cases c3:p.name = ⟨#[]⟩ <;> rcases bb with _ | _ <;> rcases p.vol with _ | _ <;> simp [c1,c3]
theorem zip_at {f:FnU} {ps:List Ty} {i:Nat} (h1:i < f.params.length) (h2:i < ps.length):∃ h:i < (f.params.zip ps).length,(f.params.zip ps)[i] = (f.params[i],ps[i]):=by
 refine ⟨by rw [List.length_zip];omega,by rw [List.getElem_zip]⟩
theorem funcE_is {L:List Sr} {f:FnU} {ps:List Ty} {r:Ty} (hs:tyS f.type = some (.fn ps r)) (hh:headF L f = true) (hl:ps.length = f.params.length):funcE L f = if codeE (firstE (parmE (decide (f.body ≠ []))) (f.params.zip ps) 0) ≠ 0 then 90 else bodyE f.body:=by
 unfold funcE
 rw [hs]
 simp only
 rw [if_neg (by rintro (h | h);rw [hh] at h;cases h;exact h hl)]
def FitP (f:FnU) (ps:List Ty) (i:Nat):Prop:=∀ (j:Nat) (h1:j < f.params.length) (h2:j < ps.length),j < i → parmE (decide (f.body ≠ [])) (f.params[j],ps[j]) = 0
theorem FitP.next {f:FnU} {ps:List Ty} {i:Nat} (h:FitP f ps i) (hi:i < f.params.length) (hi2:i < ps.length) (h0:parmE (decide (f.body ≠ [])) (f.params[i],ps[i]) = 0):FitP f ps (i + 1):=fun j h1 h2 hj=>by
 rcases Nat.lt_or_ge j i with h' | h'
 ·exact h j h1 h2 h'
 ·obtain rfl:j = i:=by omega
  exact h0
theorem funcE_parm {L:List Sr} {f:FnU} {ps:List Ty} {r:Ty} (hs:tyS f.type = some (.fn ps r)) (hh:headF L f = true) (hl:ps.length = f.params.length) {i:Nat} (hi:i < f.params.length) (hi2:i < ps.length) (hk:FitP f ps i) (hp:parmE (decide (f.body ≠ [])) (f.params[i],ps[i]) ≠ 0):funcE L f = 90:=by
 rw [funcE_is hs hh hl,if_pos]
 obtain ⟨h1,h2⟩:=zip_at (f:=f) hi hi2
 rw [firstE_some h1 (fun j hj hji=>by
  obtain ⟨h3,h4⟩:=zip_at (f:=f) (i:=j) (ps:=ps) (by omega) (by omega)
  rw [h4]
  exact hk j _ _ hji) (by rw [h2];exact hp),h2]
 exact hp
theorem funcE_all {L:List Sr} {f:FnU} {ps:List Ty} {r:Ty} (hs:tyS f.type = some (.fn ps r)) (hh:headF L f = true) (hl:ps.length = f.params.length) (hk:FitP f ps f.params.length):funcE L f = bodyE f.body:=by
 rw [funcE_is hs hh hl,if_neg]
 rw [firstE_none (fun j hj _=>by
  rw [List.length_zip] at hj
  obtain ⟨h3,h4⟩:=zip_at (f:=f) (i:=j) (ps:=ps) (by omega) (by omega)
  rw [h4]
  exact hk j _ _ (by omega))]
 simp [codeE]
theorem bd_body {T:List Nd} {b:Bool} (h:((T.length:Int) == 0) = b):decide (T ≠ []) = !b:=by
 subst h
 cases T with
 | nil=>rfl
 | cons x r=>
   rw [decide_eq_true (by simp)]
   have:((((x :: r).length:Nat):Int) == 0) = false:=by simp;omega
   rw [this]
   rfl
theorem bodyE_bad {T:List Nd} (h:T ≠ []) (hc:checkN9 T ≠ 0):bodyE T = checkN9 T:=by unfold bodyE;rw [if_neg h,if_pos hc]
theorem bodyE_ok {T:List Nd} (h:T ≠ []) (hc:checkN9 T = 0):bodyE T = if kindAt T (T.length - 1) ≠ 21 then 90 else 0:=by unfold bodyE;rw [if_neg h,if_neg (by simp [hc])]
set_option maxRecDepth 100000 in
set_option maxHeartbeats 16000000 in
theorem func9_fits (f:FnU) (vp vb:Value) (l:Option Addr) (lc:Nat) (L:List Sr) (mv:List Value) (w:World) (hE:TE w) (hF:IsFnU w.heap.size w f vp vb) (hS:IsSrs w.heap.size w l L mv) (hn:isNameB f.name = true) (ha:¬ f.at_ < 0) (ha2:¬ 65536 < f.at_) {ps:List Ty} {r:Ty} (hs:tyS f.type = some (.fn ps r)) (hc:checkN L f.type = 0) (hl:ps.length = f.params.length) :
 Calls Tryz.prog 75 #[fnUV f vp vb,.slice l L.length lc] w (CodeEnd (funcE L f) w):=by
 have hh:headF L f = true:=by unfold headF;rw [hn,decide_eq_true hc,decide_eq_true (by omega)];rfl
 have HPm:=Hd (fun (i:Nat) (hi:i < f.params.length) (hi2:i < ps.length) hk hp=>funcE_parm hs hh hl hi hi2 hk hp)
 have HAll:=Hd (fun hk=>funcE_all hs hh hl hk)
 have HVr:=Hd (fun (i:Nat) (hi:i < f.params.length)=>vrs_at hF.params hi)
 generalize hfe:funcE L f = fe at *
 clear hfe hh
 obtain ⟨ap,cp,rfl,hsp,hsl,hvo⟩:=hF.params
 obtain ⟨ab,cb,rfl,hsb,hbn,hbk⟩:=hF.body
 have HNm:=Hd (fun w (hK:KeysAt w)=>lexIsName_is true f.name w hK hn)
 obtain ⟨fat,fname,ftype,fparams,fbody⟩:=f
 simp only [fnUV] at *
 go_enter Tryz.func75,Tryz.ntmps75
 go_upto_region 1 with fail
 have hx0:(w.alloc (.cells #[.int .i64 fat,.string fname,.string ftype,.slice ap fparams.length cp,.slice ab fbody.length cb] 77)).heap[w.heap.size]? = some (.cells #[.int .i64 fat,.string fname,.string ftype,.slice ap fparams.length cp,.slice ab fbody.length cb] 77 (0,0)):=heap_alloc_new _ _
 have hb0:=ba1 w (.cells #[.int .i64 fat,.string fname,.string ftype,.slice ap fparams.length cp,.slice ab fbody.length cb] 77)
 generalize w.alloc (.cells #[.int .i64 fat,.string fname,.string ftype,.slice ap fparams.length cp,.slice ab fbody.length cb] 77) = w0 at *
 have HNd:=Hd (fun w' (h:Below w0.heap.size w0 w')=>(five_block ((h.block _ (lt_of_heap hx0)).trans hx0)).1)
 have HB0:=Hd hb0
 have HEx:=Hd (fun w' (h:Below w0.heap.size w0 w')=>hE.below (hb0.trans (h.mono hb0.size)))
 have HSx:=Hd (fun w' (h:Below w0.heap.size w0 w')=>(hS.below (hb0.trans (h.mono hb0.size))).mono (hb0.trans (h.mono hb0.size)).size)
 have HSg:=Hd (sign_good (HEx.out w0 (Below.refl _ _)) hs)
 have HCk:=Hd (fun w' (h:Below w0.heap.size w0 w')=>checkAll_is 0 ftype l lc L mv w' (HEx.out w' h) (HSx.out w' h) hc)
 obtain ⟨x0,x1,x2,x3,x4⟩:=HNd.out w0 (Below.refl _ _)
 have HTc:=Hd (fun w' (h:Below w0.heap.size w0 w')=>treeCheck_ok ab cb fbody w' (HEx.out w' h) ((hbn.below (hb0.trans (h.mono hb0.size)) (Nat.le_refl _)).mono (hb0.trans (h.mono hb0.size)).size) hbk hsb.1)
 have HBn:=Hd (fun w' (h:Below w0.heap.size w0 w')=>hbn.below (hb0.trans (h.mono hb0.size)) (Nat.le_refl _))
 have hpl:(fparams.length:Int) ≤ 140737488351232:=by have:=hsp.1;omega
 have hbl:(fbody.length:Int) ≤ 140737488351232:=by have:=hsb.1;omega
 have t3:((ps.length:Int) != (fparams.length:Int)) = false:=by simp;omega
 have HLn:=Hd hl
 have t1:decide (fat < 0) = false:=by simpa using ha
 have t2:decide (65536 < fat) = false:=by simpa using ha2
 clear hE hF hS hx0 hb0 ha ha2 hs hc hn hsl hvo hsp hbn hbk hsb hl
 go_upto_region 4 with (first
  | (go_at_call 115;(with_reducible refine HSg.out.mono ?_);rintro e w1 ⟨⟨pa,pc,rfl,hpr⟩,hb1⟩;have HB1:=Hd (hb1);obtain ⟨x0,x1,x2,x3,x4⟩:=HNd.out w1 HB1.out;have HPr:=Hd hpr;have HN1:=Hd (HNm.out w1 (HEx.out w1 HB1.out).keys);clear hb1)
  | (go_at_call 124;(with_reducible refine HN1.out.mono ?_);rintro e w2 ⟨rfl,hb2⟩;have HB2:=Ht HB1 hb2;obtain ⟨x0,x1,x2,x3,x4⟩:=HNd.out w2 HB2.out;have HC2:=Hd (HCk.out w2 HB2.out);have hb12:=Hd hb2;clear hb2)
  | (go_at_call 125;(with_reducible refine HC2.out.mono ?_);rintro e w3 ⟨rfl,hb3⟩;have HB3:=Ht HB2 hb3;obtain ⟨x0,x1,x2,x3,x4⟩:=HNd.out w3 HB3.out;have HB13:=Hd (hb12.out.trans (hb3.mono hb12.out.size));clear hb3))
 go_wp2_with fail
 go_loopg [55] fparams.length (fun m v55 wy=>∃ (i:Nat),i ≤ fparams.length ∧ i + m = fparams.length ∧ v55 = .int .i64 (i:Int) ∧ Hid (Below w0.heap.size w0 wy) ∧ Hid (Below w1.heap.size w1 wy) ∧ Hid (FitP ⟨fat,fname,ftype,fparams,fbody⟩ ps i))
 case atStart=>exact ⟨0,by omega,by omega,rfl,HB3,HB13,Hd (fun j _ _ h=>by omega)⟩
 case round=>
  obtain ⟨i,hi,him,rfl,HB,HB1r,HK⟩:=hrel
  obtain ⟨x0,x1,x2,x3,x4⟩:=HNd.out wr HB.out
  by_cases hlt:i < fparams.length
  ·have hi2:i < ps.length:=by have:=HLn.out;omega
   obtain ⟨b,off,cq,hsq,hblt,_,p0,p1,p2⟩:=HVr.out i hlt
   obtain ⟨rfl,rfl⟩:ap = some ⟨b,off,none⟩ ∧ cp = cq:=by simpa using hsq
   have hwb:=HB0.out.trans (HB.out.mono HB0.out.size)
   rw [← hwb.cell hblt] at p0 p1 p2
   obtain ⟨g,rfl,hg,pt⟩:=HPr.out i hi2
   have HTy:=Hd (fun w' (h:Below w1.heap.size w1 w')=>(h.cell (p:=⟨g,i,none⟩) hg).trans pt)
   have HPm1:=Hd (fun hp=>HPm.out i hlt hi2 HK.out hp)
   have HNx:=Hd (fun h0=>HK.out.next hlt hi2 h0)
   have hpv:=fun te nm e0=>parmE_bool (decide (fbody ≠ [])) (fparams[i]'hlt) (ps[i]'hi2) te nm e0
   have HN5:=Hd (fun w' hK=>lexIsName_any (fparams[i]'hlt).name w' hK)
   generalize fparams[i]'hlt = p at *
   generalize ps[i]'hi2 = ty at *
   obtain ⟨pn,pt',vo⟩:=p
   simp only at *
   clear pt hsq
   go_upto_region 7 with fail
   have hy:=(show (wr.alloc (.cells #[.string pn,.string pt',.bool vo] 116)).heap[wr.heap.size]? = some (.cells #[.string pn,.string pt',.bool vo] 116 (0,0)) from heap_alloc_new _ _)
   have hba:=ba1 wr (.cells #[.string pn,.string pt',.bool vo] 116)
   generalize wr.alloc (.cells #[.string pn,.string pt',.bool vo] 116) = wa at *
   have HPc:=Hd (fun w' (h:Below wa.heap.size wa w')=>(three_block ((h.block _ (lt_of_heap hy)).trans hy)).1)
   have HBa:=Ht HB hba
   have HBa1:=Ht HB1r hba
   obtain ⟨x0,x1,x2,x3,x4⟩:=HNd.out wa HBa.out
   obtain ⟨y0,y1,y2⟩:=HPc.out wa (Below.refl _ _)
   clear hy hba p0 p1 p2
   have HN6:=Hd (HN5.out wa (HEx.out wa HBa.out).keys)
   have ge0:(pn.toList == []) = decide (pn = ⟨#[]⟩):=by
    by_cases h:pn = ⟨#[]⟩
    ·rw [decide_eq_true h,h];exact lit_eq rfl rfl
    ·rw [decide_eq_false h];exact lit_ne (fun e=>h (toList_eq e))
   have gte:(pt'.toList == (tyB ty).toList) = decide (pt' = tyB ty):=str_eqb
   rcases hnm:isNameB pn with _ | _ <;> rcases he0:decide (pn = ⟨#[]⟩) with _ | _ <;> rcases hte:decide (pt' = tyB ty) with _ | _ <;> rcases vo with _ | _ <;> rcases hbd:((fbody.length:Int) == 0) with _ | _
   all_goals
    have hv:=hpv _ _ _ hte hnm he0
    rw [bd_body hbd] at hv HPm1 HNx
    rw [hnm] at HN6
    rw [he0] at ge0
    rw [hte] at gte
    first
     | (have hbad:=HPm1.out (by rw [hv];simp)
        have HFin:=Hd hbad
        clear hpv hv hbad hte hnm he0
        go_upto_region 8 with (go_at_call 124;(with_reducible refine HN6.out.mono ?_);rintro e w6 ⟨rfl,hb6⟩;have HB6:=Ht HBa hb6;have HB16:=Ht HBa1 hb6;obtain ⟨x0,x1,x2,x3,x4⟩:=HNd.out w6 HB6.out;obtain ⟨y0,y1,y2⟩:=HPc.out w6 hb6;have c6:=HTy.out w6 HB16.out;clear hb6)
        go_quiet (fail)
        go_wp2_with fail
        go_ret
        exact codeEnd HFin.out (HB0.out.trans ((blw_drewN HB6.out _).mono HB0.out.size)))
     | (have HN7:=Hd (HNx.out (by rw [hv];simp))
        clear hpv hv hte hnm he0
        go_upto_region 8 with (go_at_call 124;(with_reducible refine HN6.out.mono ?_);rintro e w6 ⟨rfl,hb6⟩;have HB6:=Ht HBa hb6;have HB16:=Ht HBa1 hb6;obtain ⟨x0,x1,x2,x3,x4⟩:=HNd.out w6 HB6.out;obtain ⟨y0,y1,y2⟩:=HPc.out w6 hb6;have c6:=HTy.out w6 HB16.out;clear hb6)
        go_quiet (fail)
        go_wp2_with fail
        go_roundg (fparams.length - (i + 1))
        case measure=>omega
        case rel=>exact ⟨i + 1,by omega,by omega,by rw [Int.natCast_add];rfl,Hd (blw_drewN HB6.out _),Hd (blw_drewN HB16.out _),HN7⟩)
  ·obtain rfl:i = fparams.length:=by omega
   have HFa:=Hd (HAll.out HK.out)
   by_cases h0:fbody = []
   ·have t5:((fbody.length:Int) == 0) = true:=by rw [h0];rfl
    have HFin:=Hd (show fe = 0 from by rw [HFa.out,h0];rfl)
    clear h0
    go_wp2_with fail
    go_ret
    exact codeEnd HFin.out (HB0.out.trans (HB.out.mono HB0.out.size))
   ·have hpos:=List.length_pos_iff.2 h0
    have t5:((fbody.length:Int) == 0) = false:=by simp;omega
    have HTr:=Hd (HTc.out wr HB.out)
    by_cases hck:checkN9 fbody = 0
    ·rw [hck] at HTr
     have HFb:=Hd (show fe = if kindAt fbody (fbody.length - 1) ≠ 21 then 90 else 0 from by rw [HFa.out,bodyE_ok h0 hck])
     obtain ⟨k,hk⟩:∃ k,fbody.length = k + 1:=⟨fbody.length - 1,by omega⟩
     have hk1:(fbody.length:Int) - 1 = (k:Int):=by omega
     have hkl:k < fbody.length:=by omega
     have hkd:=kindAt_is (List.getElem?_eq_getElem hkl)
     have hk2:fbody.length - 1 = k:=by omega
     rw [hk2,hkd] at HFb
     have HZ:=Hd (fun w' (h:Below w0.heap.size w0 w')=>nds_at (HBn.out w' h) hkl)
     generalize fbody[k].kind = kk at *
     by_cases h21:kk = 21
     ·have t6:(kk != 21) = false:=by simpa using h21
      have HFin:=Hd (show fe = 0 from by rw [HFb.out,if_neg (by simp [h21])])
      clear h0 hck hk hkd h21 hk2
      go_wp2_with (go_at_call 10;(with_reducible refine HTr.out.mono ?_);rintro e w7 ⟨rfl,hb7⟩;have HB7:=Ht HB hb7;obtain ⟨x0,x1,x2,x3,x4⟩:=HNd.out w7 HB7.out;obtain ⟨zb,zo,hz,_,z0,_⟩:=HZ.out w7 HB7.out;cases hz;clear hb7)
      go_ret
      exact codeEnd HFin.out (HB0.out.trans (HB7.out.mono HB0.out.size))
     ·have t6:(kk != 21) = true:=by simpa using h21
      have HFin:=Hd (show fe = 90 from by rw [HFb.out,if_pos h21])
      clear h0 hck hk hkd h21 hk2
      go_wp2_with (go_at_call 10;(with_reducible refine HTr.out.mono ?_);rintro e w7 ⟨rfl,hb7⟩;have HB7:=Ht HB hb7;obtain ⟨x0,x1,x2,x3,x4⟩:=HNd.out w7 HB7.out;obtain ⟨zb,zo,hz,_,z0,_⟩:=HZ.out w7 HB7.out;cases hz;clear hb7)
      go_ret
      exact codeEnd HFin.out (HB0.out.trans (HB7.out.mono HB0.out.size))
    ·have HFin:=Hd (show fe = checkN9 fbody from by rw [HFa.out,bodyE_bad h0 hck])
     have t6:(checkN9 fbody != 0) = true:=by simpa using hck
     clear h0 hck
     generalize checkN9 fbody = cc at *
     go_wp2_with (go_at_call 10;(with_reducible refine HTr.out.mono ?_);rintro e w7 ⟨rfl,hb7⟩;have HB7:=Ht HB hb7;obtain ⟨x0,x1,x2,x3,x4⟩:=HNd.out w7 HB7.out;clear hb7)
     go_ret
     exact codeEnd HFin.out (HB0.out.trans (HB7.out.mono HB0.out.size))
theorem func9_ok (f:FnU) (vp vb:Value) (l:Option Addr) (lc:Nat) (L:List Sr) (mv:List Value) (w:World) (hE:TE w) (hF:IsFnU w.heap.size w f vp vb) (hS:IsSrs w.heap.size w l L mv):Calls Tryz.prog 75 #[fnUV f vp vb,.slice l L.length lc] w (CodeEnd (funcE L f) w):=by
 rcases hn:isNameB f.name with _ | _
 ·exact func9_name f vp vb l lc L mv w hE hF hS hn
 by_cases ha:f.at_ < 0
 ·exact func9_lo f vp vb l lc L mv w hE hF hS hn ha
 by_cases ha2:65536 < f.at_
 ·exact func9_hi f vp vb l lc L mv w hE hF hS hn ha ha2
 by_cases hs:∃ ps r,tyS f.type = some (.fn ps r)
 ·obtain ⟨ps,r,hs⟩:=hs
  by_cases hc:checkN L f.type = 0
  ·by_cases hl:ps.length = f.params.length
   ·exact func9_fits f vp vb l lc L mv w hE hF hS hn ha ha2 hs hc hl
   ·exact func9_len f vp vb l lc L mv w hE hF hS hn ha ha2 hs hc hl
  ·exact func9_check f vp vb l lc L mv w hE hF hS hn ha ha2 hs hc
 ·exact func9_bad f vp vb l lc L mv w hE hF hS hn ha ha2 fun ps r h=>hs ⟨ps,r,h⟩
end Go.Proofs.YtkokdafkjjcgoaaGreatDoor
