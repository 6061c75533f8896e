/- Whether no object in a type takes too much: the program. -/
import Derived.Test.YtkokdafkjjcgoaaGreatDoorMg14
namespace Go.Proofs.YtkokdafkjjcgoaaGreatDoor
open Go.RowKit
def SizedC (B b mb:Nat) (lv sv av:Value) (mv:List Value) (K:List Kn) (t:Ty):Prop:=∀ w,TE w → KnAt B w b mb lv sv av mv K →
 Calls Tryz.prog 203 #[.pointer (some ⟨b,0,none⟩),.string (tyB t)] w fun e w'=>e = .returned (.bool (sizedT K t)) ∧ Below w.heap.size w w'
section
variable {B b mb:Nat} {lv sv av:Value} {mv:List Value} {K:List Kn}
theorem sized_root (t:Ty) (h1:headT t ≠ 112) (h2:headT t ≠ 97) (h3:headT t ≠ 102) (hs:sizedT K t = true):SizedC B b mb lv sv av mv K t:=by
 intro w hE hK
 rw [hs]
 obtain ⟨h0,hc⟩:=tyB_head t
 have t1:(((tyB t)[0].toNat:Int) == 112) = false:=eq_false' (d:=112) hc h1
 have t2:(((tyB t)[0].toNat:Int) == 97) = false:=eq_false' (d:=97) hc h2
 have t3:(((tyB t)[0].toNat:Int) == 102) = false:=eq_false' (d:=102) hc h3
 generalize tyB t = s at *
 clear hc hE h1 h2 h3 hs hK
 go_enter Tryz.func203,Tryz.ntmps203
 go_wp2_with fail
 go_ret
 exact ⟨rfl,Below.refl _ _⟩
theorem sized_ptr (u:Ty) (ih:SizedC B b mb lv sv av mv K u):SizedC B b mb lv sv av mv K (.ptr u):=by
 intro w hE hK
 unfold SizedC at ih
 have HI:=Hd (ih w hE hK)
 rw [show sizedT K (.ptr u) = sizedT K u by rw [sizedT]]
 obtain ⟨h0,hc⟩:=tyB_head (.ptr u)
 have HX:=Hd (tyB_ext (t:=.ptr u) (u:=u) (k:=1) rfl)
 have t1:(((tyB (.ptr u))[0].toNat:Int) == 112) = true:=eq_true' hc
 generalize tyB (.ptr u) = s at *
 have h1:(1:Int) ≤ s.size:=by omega
 generalize sizedT K u = r at *
 clear hc hE ih hK
 go_enter Tryz.func203,Tryz.ntmps203
 go_wp2_with fail
 rw [HX.out]
 refine HI.out.mono ?_
 rintro e w1 ⟨rfl,hb1⟩
 go_wp2_with fail
 go_ret
 exact ⟨rfl,hb1⟩
theorem cap_le (p:Nat × Nat):decide (((capM p).1:Int) ≤ 65536) = decide (p.1 ≤ 65536):=by
 rw [Bool.eq_iff_iff,decide_eq_true_iff,decide_eq_true_iff]
 unfold capM
 simp only
 omega
set_option maxHeartbeats 1000000 in
theorem sized_arr (n:Nat) (u:Ty) (hr:Right (.arr n u)) (hl:(code (.arr n u)).length ≤ 65536) (hsh:shapeT (.arr n u) = true) (hF:FitK K) (ih:SizedC B b mb lv sv av mv K u):SizedC B b mb lv sv av mv K (.arr n u):=by
 intro w hE hK
 unfold SizedC at ih
 have HE:=Hd hE
 have HK:=Hd hK
 have HI:=Hd ih
 have HS:=Hd (fun w hM=>split_arr n u w hr hM hl)
 have HT:=Hd (fun w hE hK=>there_ok (B:=B) (b:=b) (mb:=mb) (lv:=lv) (sv:=sv) (av:=av) (mv:=mv) (K:=K) (.arr n u) w hr hl hE hK)
 have HM:=Hd (fun w hE hK ht=>measure_ok (B:=B) (b:=b) (mb:=mb) (lv:=lv) (sv:=sv) (av:=av) (mv:=mv) (K:=K) (.arr n u) w hr hl hsh ht hE hK hF)
 obtain ⟨h0,hc⟩:=tyB_head (.arr n u)
 have t1:(((tyB (.arr n u))[0].toNat:Int) == 112) = false:=eq_false' (d:=112) hc (by simp [headT])
 have t2:(((tyB (.arr n u))[0].toNat:Int) == 97) = true:=eq_true' hc
 have hd:sizedT K (.arr n u) = (sizedT K u && (!thereT K (.arr n u) || decide ((measT K (.arr n u)).1 ≤ 65536))):=by
  rw [sizedT,show thereT K (.arr n u) = thereT K u by rw [thereT],show (measT K (.arr n u)).1 = n * (measT K u).1 by rw [measT]]
 have hcl:=cap_le (measT K (.arr n u))
 generalize tyB (.arr n u) = s at *
 clear hc hE ih hr hl hsh hF hK
 rcases h1:sizedT K u with _ | _
 ·have H1:=Hd h1
  have hfin:=Hd (show sizedT K (.arr n u) = false by rw [hd,h1];rfl)
  clear hd h1 hcl
  go_enter Tryz.func203,Tryz.ntmps203
  go_wp2_with (go_at_call 150;(with_reducible refine (HS.out _ HE.out.maxl).mono ?_))
  rintro e w1 ⟨rfl,hb1⟩
  have HI1:=Hd (HI.out _ (HE.out.below hb1) (HK.out.below hb1))
  rw [H1.out] at HI1
  go_wp2_with (go_at_call 203;(with_reducible refine HI1.out.mono ?_))
  rintro e w2 ⟨rfl,hb2⟩
  go_wp2_with fail
  go_ret
  exact ⟨by rw [hfin.out];rfl,hb1.trans (hb2.mono hb1.size)⟩
 ·have H1:=Hd h1
  rcases h2:thereT K (.arr n u) with _ | _
  ·have H2:=Hd h2
   have hfin:=Hd (show sizedT K (.arr n u) = true by rw [hd,h1,h2];rfl)
   clear hd h1 h2 hcl
   go_enter Tryz.func203,Tryz.ntmps203
   go_wp2_with (go_at_call 150;(with_reducible refine (HS.out _ HE.out.maxl).mono ?_))
   rintro e w1 ⟨rfl,hb1⟩
   have HI1:=Hd (HI.out _ (HE.out.below hb1) (HK.out.below hb1))
   rw [H1.out] at HI1
   go_wp2_with (go_at_call 203;(with_reducible refine HI1.out.mono ?_))
   rintro e w2 ⟨rfl,hb2⟩
   have HB2:=Hd (hb1.trans (hb2.mono hb1.size))
   have HT2:=Hd (HT.out _ (HE.out.below HB2.out) (HK.out.below HB2.out))
   rw [H2.out] at HT2
   go_wp2_with (go_at_call 202;(with_reducible refine HT2.out.mono ?_))
   rintro e w3 ⟨rfl,hb3⟩
   go_wp2_with fail
   go_ret
   exact ⟨by rw [hfin.out];rfl,HB2.out.trans (hb3.mono HB2.out.size)⟩
  ·have H2:=Hd h2
   have hfin:=Hd (show sizedT K (.arr n u) = decide (((capM (measT K (.arr n u))).1:Int) ≤ 65536) by rw [hd,h1,h2,hcl];simp)
   unfold measV at HM
   generalize capM (measT K (.arr n u)) = p at *
   clear hd h1 h2 hcl
   go_enter Tryz.func203,Tryz.ntmps203
   go_wp2_with (go_at_call 150;(with_reducible refine (HS.out _ HE.out.maxl).mono ?_))
   rintro e w1 ⟨rfl,hb1⟩
   have HI1:=Hd (HI.out _ (HE.out.below hb1) (HK.out.below hb1))
   rw [H1.out] at HI1
   go_wp2_with (go_at_call 203;(with_reducible refine HI1.out.mono ?_))
   rintro e w2 ⟨rfl,hb2⟩
   have HB2:=Hd (hb1.trans (hb2.mono hb1.size))
   have HT2:=Hd (HT.out _ (HE.out.below HB2.out) (HK.out.below HB2.out))
   rw [H2.out] at HT2
   go_wp2_with (go_at_call 202;(with_reducible refine HT2.out.mono ?_))
   rintro e w3 ⟨rfl,hb3⟩
   have HB3:=Ht HB2 hb3
   have HM3:=Hd (HM.out _ (HE.out.below HB3.out) (HK.out.below HB3.out) H2.out)
   go_wp2_with (go_at_call 199;(with_reducible refine HM3.out.mono ?_))
   rintro e w4 ⟨rfl,hb4⟩
   go_wp2_with fail
   go_ret
   exact ⟨by rw [hfin.out];rfl,HB3.out.trans (hb4.mono HB3.out.size)⟩
end
theorem own_two {w:World} {base:Nat} {e:TypeId} {size:Nat} {v:Value} {n:Nat} {xs:List Value} (h:w.ownsRow base e size v n xs):(v = .slice none 0 0 ∧ n = 0) ∨ ∃ g cap,v = .slice (some ⟨g,0,none⟩) n cap ∧ base ≤ g ∧ g < w.heap.size ∧ ∀ j u,xs[j]? = some u → w.cell? ⟨g,j,none⟩ = some u:=by
 rcases h.2 with ⟨rfl,rfl⟩ | ⟨g,cap,cur,rfl,hb,hg,_⟩
 ·exact .inl ⟨rfl,rfl⟩
 ·refine .inr ⟨g,cap,rfl,hb,lt_of_heap hg,fun j u hj=>?_⟩
  have:=h.cells (g:=g) rfl j u hj
  rwa [addr_add] at this
theorem sizeds_all (K:List Kn) (l:List Ty):sizedsT K l = l.all (sizedT K):=by
 induction l with
 | nil=>rfl
 | cons t l ih=>rw [sizedsT,ih];rfl
theorem c2_all (l:List Ty):∀ u ∈ l.map (fun p=>Value.string (tyB p)),u.oneCell' = true:=by
 intro u hu
 obtain ⟨p,_,rfl⟩:=List.mem_map.1 hu
 rfl
section
variable {B b mb:Nat} {lv sv av:Value} {mv:List Value} {K:List Kn}
set_option maxHeartbeats 4000000 in
theorem sized_fn (ps:List Ty) (r:Ty) (hr:Right (.fn ps r)) (hl:(code (.fn ps r)).length ≤ 65536) (ih:∀ p ∈ r :: ps,SizedC B b mb lv sv av mv K p):SizedC B b mb lv sv av mv K (.fn ps r):=by
 intro w hE hK
 have HE:=Hd hE
 have HK:=Hd hK
 have HI:=Hd ih
 have HS:=Hd (fun w hK hb=>split_fn ps r w hr hl hK hb)
 have hps:ps.length ≤ 65536:=by
  have:=rights_len hr.1
  rw [code] at hl;simp at hl;omega
 obtain ⟨h0,hc⟩:=tyB_head (.fn ps r)
 have t1:(((tyB (.fn ps r))[0].toNat:Int) == 112) = false:=eq_false' (d:=112) hc (by simp [headT])
 have t2:(((tyB (.fn ps r))[0].toNat:Int) == 97) = false:=eq_false' (d:=97) hc (by simp [headT])
 have t3:(((tyB (.fn ps r))[0].toNat:Int) == 102) = true:=eq_true' hc
 have hd:sizedT K (.fn ps r) = (r :: ps).all (sizedT K):=by rw [sizedT,sizeds_all];rfl
 rw [hd]
 generalize tyB (.fn ps r) = s at *
 obtain ⟨i0,hi,hz0,hz1,hz2⟩:=info_parts infoT
 have HIn:=Hd (And.intro hi (And.intro hz0 (And.intro hz1 hz2)))
 clear hc hE ih hr hl hK hd hi hz0 hz1 hz2
 go_enter Tryz.func203,Tryz.ntmps203
 go_wp2_with (go_at_call 150;(with_reducible refine (HS.out _ HE.out.keys HE.out.lt).mono ?_))
 rintro e w1 ⟨⟨v,rfl,ho⟩,hb1⟩
 have HB1:=Hd hb1
 have HO:=Hd ho
 have hn1:=own_new1 w1 34 (.string (tyB r))
 have HN:=Hd hn1
 clear hb1 ho hn1
 go_upto_region 14 with fail
 go_cut [58,59,60] (fun v6 l6 z6 w6=>l6 = .int .i64 ((r :: ps).length:Nat) ∧ z6 = .int .i64 0 ∧ (∃ g cap,v6 = .slice (some ⟨g,0,none⟩) (r :: ps).length cap ∧ g < w6.heap.size ∧ ∀ j (hj:j < (r :: ps).length),w6.cell? ⟨g,j,none⟩ = some (.string (tyB (r :: ps)[j]))) ∧ Below w.heap.size w w6)
 case first=>
  rcases own_two HO.out with ⟨rfl,hz⟩ | ⟨g,cap,rfl,_,hg2,hcs⟩
  ·have hnil:ps = []:=List.eq_nil_of_length_eq_zero hz
   subst hnil
   go_wp2_with (at_builtin;refine wpList_append_own_none _ rfl _ _ 168 rfl w1.heap.size 34 i0 1 Tryz.underlying168 HIn.out.1 _ 1 [.string (tyB r)] rfl HN.out rfl ?_)
   go_meet
   refine ⟨rfl,rfl,⟨w1.heap.size,1,rfl,by simp,fun j hj=>?_⟩,HB1.out.alloc HB1.out.size _⟩
   obtain rfl:j = 0:=by simp at hj;omega
   simp
  ·have hA:=Hd (show Below w1.heap.size w1 (w1.alloc (.cells #[.string (tyB r)] 34)) from (Below.refl _ _).alloc (Nat.le_refl _) _)
   have hnews:∀ j u,(ps.map fun p=>Value.string (tyB p))[j]? = some u → (w1.alloc (.cells #[.string (tyB r)] 34)).cell? ((⟨g,0,none⟩:Addr).add j) = some u:=fun j u hj=>by
    rw [addr_add,hA.out.cell (p:=⟨g,j,none⟩) hg2];exact hcs j u hj
   have HNw:=Hd hnews
   have hlen:(ps.map fun p=>Value.string (tyB p)).length = ps.length * 1:=by simp
   have HLn:=Hd hlen
   clear hcs hnews hlen
   go_wp2_with (at_builtin;refine wpList_append_own _ rfl _ _ 168 rfl w1.heap.size 34 i0 (.string ⟨#[]⟩) 1 16 Tryz.underlying168 HIn.out.1 HIn.out.2.1 HIn.out.2.2.1 HIn.out.2.2.2 rfl (by decide) _ 1 [.string (tyB r)] rfl HN.out ⟨g,0,none⟩ ps.length cap (ps.map fun p=>Value.string (tyB p)) rfl HLn.out HNw.out (c2_all ps) ?c3 ?c4 ?c5 ?_)
   case c3=>unfold maxLen;omega
   case c4=>omega
   case c5=>simp
   intro v6 w6 hown hgrow hne
   rcases own_two hown with ⟨rfl,hz⟩ | ⟨g6,cap6,rfl,hg61,hg62,hcs⟩
   ·omega
   ·have HC:=Hd hcs
    have HB6:=Hd ((HB1.out.alloc HB1.out.size _).grown hgrow (Nat.le_trans HB1.out.size hA.out.size) (fun q e=>by have:=(HN.out.lt _ e).1;have:=HB1.out.size;omega))
    clear hown hgrow hne hcs
    go_wp2_with fail
    go_meet
    refine ⟨by congr 1;simp;omega,rfl,⟨g6,cap6,by congr 1;simp;omega,hg62,fun j hj=>HC.out j _ ?_⟩,HB6.out⟩
    cases j with
    | zero=>simp
    | succ j=>
      have hj':j < ps.length:=by simpa using hj
      simp [hj']
 case rest=>
  obtain ⟨rfl,rfl,⟨g,cap,rfl,hg,hcs⟩,hb6⟩:=hcut
  have HC:=Hd hcs
  have HB6:=Hd hb6
  have hQ:(r :: ps).length ≤ 65537:=by simp;omega
  generalize hq:r :: ps = Q at *
  have HQ:=Hd hq
  clear hcs hb6 HO HB1 HN hq
  go_wp2_with fail
  go_loopw [60] (fun i wr=>∃ k:Nat,k ≤ Q.length ∧ i = .int .i64 k ∧ Hid (∀ j (hj:j < Q.length),j < k → sizedT K Q[j] = true) ∧ Below wc.heap.size wc wr) (fun i _=>Q.length - (intOf i).toNat)
  case atStart=>exact ⟨0,Nat.zero_le _,rfl,fun j _ h=>by omega,Below.refl _ _⟩
  case round=>
   obtain ⟨k,hk,rfl,hno,hb⟩:=hrel
   have HBr:=Hd hb
   have HBw:=Ht HB6 hb
   have hsz:=hb.size
   by_cases hlt:k < Q.length
   ·have hck:wr.cell? ⟨g,k,none⟩ = some (.string (tyB Q[k])):=by
     rw [hb.cell (p:=⟨g,k,none⟩) hg];exact HC.out k hlt
    have hD:=HI.out Q[k] (List.getElem_mem hlt)
    unfold SizedC at hD
    have HD:=Hd (hD wr (HE.out.below HBw.out) (HK.out.below HBw.out))
    clear hb hD
    rcases hgd:sizedT K Q[k] with _ | _
    ·have hfin:=Hd (show Q.all (sizedT K) = false by
      rw [Bool.eq_false_iff];intro e
      have:=List.all_eq_true.1 e Q[k] (List.getElem_mem hlt)
      rw [hgd] at this;cases this)
     rw [hgd] at HD
     generalize tyB Q[k] = st at *
     clear hgd
     go_wp2_with (go_at_call 203;(with_reducible refine HD.out.mono ?_))
     rintro e w7 ⟨rfl,hb7⟩
     go_wp2_with fail
     go_ret
     exact ⟨by rw [HQ.out,hfin.out];rfl,HBw.out.trans (hb7.mono HBw.out.size)⟩
    ·have HN:=Hd (show ∀ j (hj:j < Q.length),j < k + 1 → sizedT K Q[j] = true from fun j hj h=>by
      rcases Nat.lt_or_ge j k with h' | h'
      ·exact hno.out j hj h'
      ·obtain rfl:j = k:=by omega
       exact hgd)
     rw [hgd] at HD
     generalize tyB Q[k] = st at *
     clear hgd
     go_wp2_with (go_at_call 203;(with_reducible refine HD.out.mono ?_))
     rintro e w7 ⟨rfl,hb7⟩
     have HB7:=Hd (HBr.out.trans (hb7.mono hsz))
     clear hb7
     go_wp2_with fail
     go_roundw
     case rel=>exact ⟨k + 1,by omega,by go_num,HN,HB7.out⟩
     case measure=>simp [intOf];omega
   ·obtain rfl:k = Q.length:=by omega
    have hfin:=Hd (show Q.all (sizedT K) = true by
     rw [List.all_eq_true]
     intro p hp
     obtain ⟨j,hj,rfl⟩:=List.getElem_of_mem hp
     exact hno.out j hj hj)
    clear hno hb
    go_wp2_with fail
    go_ret
    exact ⟨by rw [HQ.out,hfin.out];rfl,HBw.out⟩
theorem sized_all (hF:FitK K):∀ (n:Nat) (t:Ty),(code t).length ≤ n → Right t → (code t).length ≤ 65536 → shapeT t = true → SizedC B b mb lv sv av mv K t
 | 0,t,hn,hr,_,_=>by have:=code_pos hr;omega
 | n + 1,t,hn,hr,hl,hs=>by
   cases t with
   | base c=>exact sized_root _ (by rcases base_six hr with rfl | rfl | rfl | rfl | rfl | rfl <;> decide) (by rcases base_six hr with rfl | rfl | rfl | rfl | rfl | rfl <;> decide) (by rcases base_six hr with rfl | rfl | rfl | rfl | rfl | rfl <;> decide) (by rw [sizedT])
   | str s=>exact sized_root _ (by simp [headT]) (by simp [headT]) (by simp [headT]) (by rw [sizedT])
   | ptr u=>exact sized_ptr u (sized_all hF n u (by rw [code] at hn;simp at hn;omega) hr (by rw [code] at hl;simp at hl;omega) (by rwa [shapeT] at hs))
   | arr m u=>
     have hs':=hs
     rw [shapeT,Bool.and_eq_true,Bool.and_eq_true] at hs'
     exact sized_arr m u hr hl hs hF (sized_all hF n u (by rw [code] at hn;simp at hn;omega) hr.2 (by rw [code] at hl;simp at hl;omega) hs'.2.2)
   | fn ps r=>
     rw [shapeT,Bool.and_eq_true,Bool.and_eq_true,Bool.and_eq_true] at hs
     refine sized_fn ps r hr hl fun p hp=>?_
     rw [code] at hn hl
     simp at hn hl
     rcases List.mem_cons.1 hp with rfl | hp
     ·exact sized_all hF n p (by omega) hr.2 (by omega) hs.2.2.1
     ·have h1:=codes_mem' hp
      have h2:Right p:=by
       obtain ⟨a,b,rfl⟩:=List.append_of_mem hp
       exact rights_at hr.1
      have h3:shapeT p = true:=by
       have:=List.all_eq_true.1 (shapes_all ps ▸ hs.2.2.2) p hp
       simp only [Bool.and_eq_true] at this
       exact this.2
      exact sized_all hF n p (by omega) h2 (by omega) h3
end
theorem depthS_some {s:ByteArray} {t:Ty} (h:tyS s = some t):depthS s = deepT t:=by unfold depthS;rw [h]
theorem checkS_none {K:List Kn} {s:ByteArray} (h:tyS s = none):checkS K s = 2:=by unfold checkS;rw [h]
theorem checkS_some {K:List Kn} {s:ByteArray} {t:Ty} (h:tyS s = some t):checkS K s = checkT K t:=by unfold checkS;rw [h]
theorem ret_i64 {a b:Int} (h:a = b):Ending.returned (.int .i64 a) = .returned (.int .i64 b):=by rw [h]
section
variable {B b mb:Nat} {lv sv av:Value} {mv:List Value} {K:List Kn}
set_option maxHeartbeats 2000000 in
theorem check_ok (s:ByteArray) (w:World) (hE:TE w) (hK:KnAt B w b mb lv sv av mv K) (hF:FitK K) :
 Calls Tryz.prog 170 #[.pointer (some ⟨b,0,none⟩),.string s] w fun e w'=>e = .returned (.int .i64 (checkS K s)) ∧ Below w.heap.size w w':=by
 have HE:=Hd hE
 have HK:=Hd hK
 have HD:=Hd (depth_ok s w hE.keys hE.lt)
 rcases ht:tyS s with _ | t
 ·have hfin:=Hd (checkS_none (K:=K) ht)
  rw [show depthS s = 0 by unfold depthS;rw [ht]] at HD
  clear hE hK ht
  go_enter Tryz.func170,Tryz.ntmps170
  go_wp2_with (go_at_call 180;refine HD.out.mono ?_)
  rintro e w1 ⟨rfl,hb1⟩
  go_wp2_with fail
  go_ret
  exact ⟨by rw [hfin.out];rfl,hb1⟩
 ·obtain ⟨es,hr,hl⟩:=tyS_some.1 ht
  rw [depthS_some ht] at HD
  have hpos:=deepT_pos t
  have HCh:=Hd (checkS_some (K:=K) ht)
  subst es
  have hsh:=shape_all _ t (Nat.le_refl _) hr hl
  unfold ShapeC at hsh
  have HSh:=Hd hsh
  have HTh:=Hd (fun w hE hK=>there_ok (B:=B) (b:=b) (mb:=mb) (lv:=lv) (sv:=sv) (av:=av) (mv:=mv) (K:=K) t w hr hl hE hK)
  have hsz:=fun h=>sized_all (B:=B) (b:=b) (mb:=mb) (lv:=lv) (sv:=sv) (av:=av) (mv:=mv) hF _ t (Nat.le_refl _) hr hl h
  unfold SizedC at hsz
  have HSz:=Hd hsz
  have t0:((deepT t:Int) == 0) = false:=by rw [beq_eq_false_iff_ne];omega
  generalize tyB t = s at *
  clear hE hK ht hr hl hsh hsz hF hpos
  by_cases hdp:48 < deepT t
  ·have hfin:=Hd (show checkS K s = 3 by rw [HCh.out,checkT,if_pos hdp])
   have t1:(48:Int) < (deepT t:Int):=by omega
   generalize (deepT t:Int) = d at *
   clear hdp
   go_enter Tryz.func170,Tryz.ntmps170
   go_wp2_with (go_at_call 180;(with_reducible refine HD.out.mono ?_))
   rintro e w1 ⟨rfl,hb1⟩
   go_wp2_with fail
   go_ret
   exact ⟨by rw [hfin.out];rfl,hb1⟩
  ·have t1:(deepT t:Int) ≤ 48:=by omega
   rcases h1:shapeT t with _ | _
   ·have H1:=Hd h1
    have hfin:=Hd (show checkS K s = 5 by rw [HCh.out,checkT,if_neg hdp,if_pos h1])
    clear h1 hdp
    generalize (deepT t:Int) = d at *
    go_enter Tryz.func170,Tryz.ntmps170
    go_wp2_with (go_at_call 180;(with_reducible refine HD.out.mono ?_))
    rintro e w1 ⟨rfl,hb1⟩
    have HB1:=Hd hb1
    clear hb1
    have HS1:=Hd (HSh.out _ (HE.out.below HB1.out))
    rw [H1.out] at HS1
    go_wp2_with (go_at_call 201;(with_reducible refine HS1.out.mono ?_))
    rintro e w2 ⟨rfl,hb2⟩
    have HB2:=Ht HB1 hb2
    clear hb2
    go_wp2_with fail
    go_ret
    exact ⟨by rw [hfin.out];rfl,HB2.out⟩
   ·have H1:=Hd h1
    rcases h2:thereT K t with _ | _
    ·have H2:=Hd h2
     have hfin:=Hd (show checkS K s = 4 by rw [HCh.out,checkT,if_neg hdp,if_neg (by rw [h1];simp),if_pos h2])
     clear h1 h2 hdp
     generalize (deepT t:Int) = d at *
     go_enter Tryz.func170,Tryz.ntmps170
     go_wp2_with (go_at_call 180;(with_reducible refine HD.out.mono ?_))
     rintro e w1 ⟨rfl,hb1⟩
     have HB1:=Hd hb1
     clear hb1
     have HS1:=Hd (HSh.out _ (HE.out.below HB1.out))
     rw [H1.out] at HS1
     go_wp2_with (go_at_call 201;(with_reducible refine HS1.out.mono ?_))
     rintro e w2 ⟨rfl,hb2⟩
     have HB2:=Ht HB1 hb2
     clear hb2
     have HT2:=Hd (HTh.out _ (HE.out.below HB2.out) (HK.out.below HB2.out))
     rw [H2.out] at HT2
     go_wp2_with (go_at_call 202;(with_reducible refine HT2.out.mono ?_))
     rintro e w3 ⟨rfl,hb3⟩
     have HB3:=Ht HB2 hb3
     clear hb3
     go_wp2_with fail
     go_ret
     exact ⟨by rw [hfin.out];rfl,HB3.out⟩
    ·have H2:=Hd h2
     rcases h3:sizedT K t with _ | _
     ·have H3:=Hd h3
      have hfin:=Hd (show checkS K s = 3 by rw [HCh.out,checkT,if_neg hdp,if_neg (by rw [h1];simp),if_neg (by rw [h2];simp),if_pos h3])
      clear h1 h2 h3 hdp
      generalize (deepT t:Int) = d at *
      go_enter Tryz.func170,Tryz.ntmps170
      go_wp2_with (go_at_call 180;(with_reducible refine HD.out.mono ?_))
      rintro e w1 ⟨rfl,hb1⟩
      have HB1:=Hd hb1
      clear hb1
      have HS1:=Hd (HSh.out _ (HE.out.below HB1.out))
      rw [H1.out] at HS1
      go_wp2_with (go_at_call 201;(with_reducible refine HS1.out.mono ?_))
      rintro e w2 ⟨rfl,hb2⟩
      have HB2:=Ht HB1 hb2
      clear hb2
      have HT2:=Hd (HTh.out _ (HE.out.below HB2.out) (HK.out.below HB2.out))
      rw [H2.out] at HT2
      go_wp2_with (go_at_call 202;(with_reducible refine HT2.out.mono ?_))
      rintro e w3 ⟨rfl,hb3⟩
      have HB3:=Ht HB2 hb3
      clear hb3
      have HZ3:=Hd (HSz.out H1.out _ (HE.out.below HB3.out) (HK.out.below HB3.out))
      rw [H3.out] at HZ3
      go_wp2_with (go_at_call 203;(with_reducible refine HZ3.out.mono ?_))
      rintro e w4 ⟨rfl,hb4⟩
      have HB4:=Ht HB3 hb4
      clear hb4
      go_wp2_with fail
      go_ret
      exact ⟨by rw [hfin.out];rfl,HB4.out⟩
     ·have H3:=Hd h3
      have hfin:=Hd (show checkS K s = 0 by rw [HCh.out,checkT,if_neg hdp,if_neg (by rw [h1];simp),if_neg (by rw [h2];simp),if_neg (by rw [h3];simp)])
      clear h1 h2 h3 hdp
      generalize (deepT t:Int) = d at *
      go_enter Tryz.func170,Tryz.ntmps170
      go_wp2_with (go_at_call 180;(with_reducible refine HD.out.mono ?_))
      rintro e w1 ⟨rfl,hb1⟩
      have HB1:=Hd hb1
      clear hb1
      have HS1:=Hd (HSh.out _ (HE.out.below HB1.out))
      rw [H1.out] at HS1
      go_wp2_with (go_at_call 201;(with_reducible refine HS1.out.mono ?_))
      rintro e w2 ⟨rfl,hb2⟩
      have HB2:=Ht HB1 hb2
      clear hb2
      have HT2:=Hd (HTh.out _ (HE.out.below HB2.out) (HK.out.below HB2.out))
      rw [H2.out] at HT2
      go_wp2_with (go_at_call 202;(with_reducible refine HT2.out.mono ?_))
      rintro e w3 ⟨rfl,hb3⟩
      have HB3:=Ht HB2 hb3
      clear hb3
      have HZ3:=Hd (HSz.out H1.out _ (HE.out.below HB3.out) (HK.out.below HB3.out))
      rw [H3.out] at HZ3
      go_wp2_with (go_at_call 203;(with_reducible refine HZ3.out.mono ?_))
      rintro e w4 ⟨rfl,hb4⟩
      have HB4:=Ht HB3 hb4
      clear hb4
      go_wp2_with fail
      go_ret
      exact ⟨by rw [hfin.out];rfl,HB4.out⟩
end
end Go.Proofs.YtkokdafkjjcgoaaGreatDoor
namespace Go.Proofs.YtkokdafkjjcgoaaGreatDoor
open Go.RowKit Go.Maps
theorem names_nil {w:World}:NamesAt (w.alloc (.map #[] 0)) w.heap.size []:=
 ⟨.map [],World.ownsMap_made _ _ _ _,fun _=>⟨rfl,rfl⟩⟩
theorem knAt_nil {B:Nat} {w:World} {b mb:Nat} (hblk:w.heap[b]? = some (.cells #[.slice none 0 0,.map (some mb),.slice none 0 0,.slice none 0 0] 214 (0,0))) (hb:B ≤ b ∧ B ≤ mb ∧ b ≠ mb) (hn:NamesAt w mb []) :
 KnAt B w b mb (.slice none 0 0) (.slice none 0 0) (.slice none 0 0) [] []:=
 ⟨hblk,hb,hn,World.ownsRow_nil _ _ _ _,World.ownsRow_nil _ _ _ _,World.ownsRow_nil _ _ _ _,rfl,fun k=>⟨(fun h=>by cases h),(fun h=>by cases h),(fun h=>by cases h)⟩⟩
theorem fitK_nil:FitK []:=⟨by decide,fun k h=>by cases h⟩
theorem two_block {w:World} {b:Nat} {a0 a1:Value} {T:TypeId} (h:w.heap[b]? = some (.cells #[a0,a1] T (0,0))) :
 (w.cell? ⟨b,0,none⟩ = some a0 ∧ w.cell? ⟨b,1,none⟩ = some a1) ∧ ∀ j,w.frozen? ⟨b,j,none⟩ = false:=by
 refine ⟨⟨?_,?_⟩,fun j=>?_⟩
 ·simp [World.cell?,h]
 ·simp [World.cell?,h]
 ·simp [World.frozen?,h]
theorem set_fault {w0 w:World} (h:Below w0.heap.size w0 w) (v v':Value):Below w0.heap.size w0 ((w.setCell ⟨w0.heap.size,0,none⟩ v).setCell ⟨w0.heap.size,1,none⟩ v'):=
 (h.setCell (Nat.le_refl _) _).setCell (Nat.le_refl _) _
theorem NamesAt.other {w:World} {b:Nat} {K:List Kn} (h:NamesAt w b K) (a:Addr) (ha:b ≠ a.block) (v:Value):NamesAt (w.setCell a v) b K:=by
 obtain ⟨D,hD,hv⟩:=h
 exact ⟨D,hD.setCell ha v,hv⟩
def learntW (w:World):World:=((w.alloc (.cells #[.int .i64 0,.int .i64 0] 68)).alloc (.map #[] 0)).alloc (.cells #[.slice none 0 0,.map (some (w.heap.size + 1)),.slice none 0 0,.slice none 0 0] 214)
theorem learntW_eq (w:World):((w.alloc (.cells #[.int .i64 0,.int .i64 0] 68)).alloc (.map #[] 0)).alloc (.cells #[.slice none 0 0,.map (some (w.heap.size + 1)),.slice none 0 0,.slice none 0 0] 214) = learntW w:=rfl
theorem learntW_size (w:World):(learntW w).heap.size = w.heap.size + 3:=by simp [learntW]
theorem learntW_below (w:World):Below w.heap.size w (learntW w):=
 (((Below.refl _ _).alloc (Nat.le_refl _) _).alloc (by simp) _).alloc (by simp;omega) _
theorem learntW_at (w:World):(learntW w).heap[w.heap.size]? = some (.cells #[.int .i64 0,.int .i64 0] 68 (0,0)):=by
 have h:Below (w.heap.size + 1) (w.alloc (.cells #[.int .i64 0,.int .i64 0] 68)) (learntW w):=
  ((Below.refl _ _).alloc (by simp) _).alloc (by simp) _
 rw [h.block _ (by omega)]
 exact heap_alloc_new _ _
theorem learntW_kn (w:World):KnAt w.heap.size (learntW w) (w.heap.size + 2) (w.heap.size + 1) (.slice none 0 0) (.slice none 0 0) (.slice none 0 0) [] []:=by
 have e:((w.alloc (.cells #[.int .i64 0,.int .i64 0] 68)).alloc (.map #[] 0)).heap.size = w.heap.size + 2:=by simp
 refine knAt_nil (by rw [← e];exact heap_alloc_new _ _) ⟨by omega,by omega,by omega⟩ ?_
 have h:=names_nil (w:=w.alloc (.cells #[.int .i64 0,.int .i64 0] 68))
 rw [World.size_alloc] at h
 refine h.below (?_:Below _ _ (learntW w))
 rw [learntW]
 exact (Below.refl _ _).alloc (Nat.le_refl _) _
theorem learntW_kn' (w:World) (v v':Value):KnAt w.heap.size (((learntW w).setCell ⟨w.heap.size,0,none⟩ v).setCell ⟨w.heap.size,1,none⟩ v') (w.heap.size + 2) (w.heap.size + 1) (.slice none 0 0) (.slice none 0 0) (.slice none 0 0) [] []:=by
 have h:=learntW_kn w
 refine knAt_nil ?_ h.base ((h.names.other _ (by simp) _).other _ (by simp) _)
 rw [Below.heap_setCell _ _ _ _ (by simp),Below.heap_setCell _ _ _ _ (by simp)]
 exact h.blk
set_option maxHeartbeats 1000000 in
theorem learn_nil (a:Option Addr) (cap:Nat) (w:World):Calls Tryz.prog 123 #[.slice a 0 cap] w fun e w'=>∃ b mb,e = .returned (.tuple #[.pointer (some ⟨b,0,none⟩),.agg #[.int .i64 0,.int .i64 0]]) ∧ w.heap.size ≤ b ∧ KnAt w.heap.size w' b mb (.slice none 0 0) (.slice none 0 0) (.slice none 0 0) [] [] ∧ Below w.heap.size w w':=by
 have hmm:=@run_makeMap Tryz.prog
 have hat:=learntW_at w
 obtain ⟨⟨d0,d1⟩,fd⟩:=two_block hat
 have fd0:=fd 0
 have fd1:=fd 1
 have hfin:∀ v v',KnAt w.heap.size (((learntW w).setCell ⟨w.heap.size,0,none⟩ v).setCell ⟨w.heap.size,1,none⟩ v') (w.heap.size + 2) (w.heap.size + 1) (.slice none 0 0) (.slice none 0 0) (.slice none 0 0) [] []:=fun v v'=>learntW_kn' w v v'
 have HF:=Hd hfin
 have HB:=Hd fun v v'=>set_fault (learntW_below w) v v'
 clear hfin hat fd
 go_enter Tryz.func123,Tryz.ntmps123
 go_wp2_with fail
 rw [learntW_eq]
 generalize learntW w = w1 at *
 go_loop [17] (fun i=>i = .int .i64 0) (fun _=>0)
 case atStart=>rfl
 case round=>
  obtain rfl:=hrel
  go_wp2_with fail
  exact bodyPost_ret (v:=.tuple #[.pointer (some ⟨w.heap.size + 2,0,none⟩),.agg #[.int .i64 0,.int .i64 0]]) (by simp [results,Tryz.results123,go_sem,d0,d1]) rfl ⟨_,rfl,by omega,⟨_,HF.out _ _⟩,HB.out _ _⟩
set_option maxHeartbeats 1000000 in
theorem checkNil_ok (s:ByteArray) (w:World) (hE:TE w):Calls Tryz.prog 125 #[.string s,.slice none 0 0] w fun e w'=>e = .returned (.int .i64 (checkS [] s)) ∧ Below w.heap.size w w':=by
 have HE:=Hd hE
 have HL:=Hd (learn_nil none 0 w)
 clear hE
 go_enter Tryz.func125,Tryz.ntmps125
 go_wp2_with (go_at_call 123;(with_reducible refine HL.out.mono ?_))
 rintro e w1 ⟨b,mb,rfl,hge,hk,hb1⟩
 have HB1:=Hd hb1
 have hg:Below (w1.heap.size) w1 (w1.alloc (.cells #[.int .i64 0,.int .i64 0] 68)):=(Below.refl _ _).alloc (Nat.le_refl _) _
 have HC:=Hd (check_ok s _ (HE.out.below (hb1.trans (hg.mono hb1.size))) (hk.below hg) fitK_nil)
 clear hk hb1 hg
 go_wp2_with (go_at_call 170;(with_reducible refine HC.out.mono ?_))
 rintro e w2 ⟨rfl,hb2⟩
 go_wp2_with fail
 go_ret
 exact ⟨rfl,HB1.out.trans ((((Below.refl _ _).alloc (Nat.le_refl _) _).trans (hb2.mono (by simp))).mono HB1.out.size)⟩
def MapF (w:World) (b n:Nat) (f:List UInt8 → Int × Bool):Prop:=∃ D:DataW Unit,w.ownsMap Tryz.prog 9 (plainElem Tryz.prog 3) b n D ∧
 ∀ s:List UInt8,has D (.string s) = (f s).2 ∧ D.atKey (.string s) (.lit (.int .i64 0)) = .lit (.int .i64 (f s).1)
theorem NamesAt.def {w:World} {b:Nat} {K:List Kn}:NamesAt w b K ↔ MapF w b K.length (lookV K):=Iff.rfl
theorem MapF.same {w:World} {b n:Nat} {f g:List UInt8 → Int × Bool} (h:MapF w b n f) (e:∀ s,f s = g s):MapF w b n g:=by
 obtain ⟨D,hD,hv⟩:=h
 exact ⟨D,hD,fun s=>by rw [← e s];exact hv s⟩
theorem MapF.look {w:World} {b n:Nat} {f:List UInt8 → Int × Bool} (h:MapF w b n f) {s:ByteArray} (hs:s.size ≤ maxLen) :
 (Instr.lookup 212 (.map (some b)) (.string s) false).run Tryz.prog w = .ok (.int .i64 (f s.data.toList).1) w:=by
 obtain ⟨D,hD,hv⟩:=h
 have hkey:=Go.WideMaps.keyOf_string_mk (P:=Tryz.prog) Tryz.underlying9 hs
 obtain ⟨c,hrun,hat,_⟩:=hD.lookup_int keyedS Tryz.underlying212 Tryz.underlying3 (zeroI w) hkey
 obtain ⟨_,h2⟩:=hv s.data.toList
 rw [h2] at hat
 simp only [DataW.lit.injEq,Lit.int.injEq,true_and] at hat
 rw [hat];exact hrun
theorem MapF.other {w:World} {b n:Nat} {f:List UInt8 → Int × Bool} (h:MapF w b n f) (a:Addr) (ha:b ≠ a.block) (v:Value):MapF (w.setCell a v) b n f:=by
 obtain ⟨D,hD,hv⟩:=h
 exact ⟨D,hD.setCell ha v,hv⟩
theorem MapF.below {w w':World} {b n:Nat} {f:List UInt8 → Int × Bool} (h:MapF w b n f) (hb:Below w.heap.size w w'):MapF w' b n f:=by
 obtain ⟨D,hD,hv⟩:=h
 exact ⟨D,hD.kept (row:=none) ⟨hb.os,hb.tape,hb.output,hb.size,fun k hk _=>hb.block k hk⟩ (by simp),hv⟩
theorem mapF_nil {w:World}:MapF (w.alloc (.map #[] 0)) w.heap.size 0 (fun _=>(0,false)):=
 ⟨.map [],World.ownsMap_made _ _ _ _,fun _=>⟨rfl,rfl⟩⟩
theorem MapF.store {w:World} {b n:Nat} {f:List UInt8 → Int × Bool} (h:MapF w b n f) (hn:n < maxLen) {s:ByteArray} (hs:s.size ≤ maxLen) {v:Int} (hv:(Lit.int .i64 v).wf = true) :
 ∃ w',(Instr.mapUpdate 212 (.map (some b)) (.string s) (.int .i64 v)).run Tryz.prog w = .ok () w' ∧
  MapF w' b (n + 1) (fun t=>if t = s.data.toList then (v,true) else f t) ∧ w.mapTurned w' b:=by
 obtain ⟨D,hD,hf⟩:=h
 have hkey:=Go.WideMaps.keyOf_string_mk (P:=Tryz.prog) Tryz.underlying9 hs
 obtain ⟨w',hrun,h1,h2⟩:=hD.store keyedS Tryz.underlying212 hn hkey (plainElem_int (H:=Unit) Tryz.underlying3 hv)
 refine ⟨w',hrun,⟨_,h1,fun t=>?_⟩,h2⟩
 by_cases e:t = s.data.toList
 ·subst e
  simp only [if_true]
  exact ⟨has_put_same hD.isMap (by simp [WideAt.IsKeyLit]) _,atKey_put_same hD.isMap (by simp [WideAt.IsKeyLit]) _ _⟩
 ·simp only [if_neg e]
  have e':Lit.string t ≠ Lit.string s.data.toList:=fun h=>e (Lit.string.inj h)
  rw [has_put_other e',atKey_put_other e']
  exact hf t
theorem below_turned {w0 w w':World} {b B:Nat} (h:Below B w0 w) (hB:B ≤ w0.heap.size) (hb:B ≤ b) (ht:w.mapTurned w' b):Below B w0 w':=by
 have hg:=ht.grown
 exact ⟨hg.os.trans h.os,hg.tape.trans h.tape,hg.output.trans h.output,Nat.le_trans h.size hg.size,fun k hk=>(hg.block k (Nat.lt_of_lt_of_le hk (Nat.le_trans hB h.size)) (by simp;omega)).trans (h.block k hk)⟩
end Go.Proofs.YtkokdafkjjcgoaaGreatDoor
