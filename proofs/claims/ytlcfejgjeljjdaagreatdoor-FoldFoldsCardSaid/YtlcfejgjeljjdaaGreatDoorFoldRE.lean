/- The type of a part: the reference of fold. -/
import Derived.Test.YtlcfejgjeljjdaaGreatDoorMg23
import Derived.Test.YtlcfejgjeljjdaaGreatDoorMg11
namespace Go.Proofs.YtlcfejgjeljjdaaGreatDoor
open Go.RowKit
structure RAt (w:World) (a:Option Addr) (t:List Nd) (l:Option Addr) (L:List Sr) (mv:List Value):Prop where
 nodes:IsNds w.heap.size w a t
 srs:IsSrs w.heap.size w l L mv
theorem RAt.below {w w':World} {a:Option Addr} {t:List Nd} {l:Option Addr} {L:List Sr} {mv:List Value} (h:RAt w a t l L mv) (hb:Below w.heap.size w w'):RAt w' a t l L mv:=⟨(h.nodes.below hb (Nat.le_refl _)).mono hb.size,(h.srs.below hb).mono hb.size⟩
def SuchEnd (ok:Bool) (s:ByteArray) (w:World) (e:Ending) (w':World):Prop:=(∃ u,e = .returned (.tuple #[.string u,.bool ok]) ∧ (ok = true → u = s)) ∧ Below w.heap.size w w'
theorem suchEnd {ok b:Bool} {s u:ByteArray} {w w':World} (hb:ok = b) (hu:ok = true → u = s) (h:Below w.heap.size w w'):SuchEnd ok s w (.returned (.tuple #[.string u,.bool b])) w':=by subst hb;exact ⟨⟨u,rfl,hu⟩,h⟩
structure SuInv (w2 wy:World) (P:List Nat) (G:Nat → ByteArray) (v:Value) (i:Nat):Prop where
 row:wy.ownsRow w2.heap.size 27 1 v i ((P.take i).map fun p=>Value.string (G p))
 below:Below w2.heap.size w2 wy
theorem suInv_start (w2:World) (P:List Nat) (G:Nat → ByteArray):SuInv w2 (w2.alloc (.cells #[] 27)) P G (.slice (some ⟨w2.heap.size,0,none⟩) 0 0) 0:=
 ⟨World.ownsRow_made _ #[] 0 (Nat.le_refl _) (by decide) (by simp),(Below.refl _ _).alloc (Nat.le_refl _) _⟩
theorem SuInv.next {w2 wy w4 w6:World} {P:List Nat} {G:Nat → ByteArray} {v v':Value} {i p:Nat} {o:Obj} (h:SuInv w2 wy P G v i) (hp:P[i]? = some p) (hb:Below wy.heap.size wy w4)
 (hown:w6.ownsRow w2.heap.size 27 1 v' (i + 1) (((P.take i).map fun p=>Value.string (G p)) ++ [.string (G p)])) (hgrow:(w4.alloc o).grownBy w6 v.ownBlock):SuInv w2 w6 P G v' (i + 1):=by
 have h4:=h.below.trans (hb.mono h.below.size)
 refine ⟨?_,(h4.alloc h4.size o).grown hgrow (h4.alloc h4.size o).size (fun q e=>(h.row.lt _ e).1)⟩
 rw [List.take_add_one,hp,Option.toList_some,List.map_append]
 exact hown
theorem SuInv.at_ {w2 wy:World} {P:List Nat} {G:Nat → ByteArray} {v:Value} {j:Nat} (h:SuInv w2 wy P G v P.length) (hj:j < P.length):∃ g c,v = .slice (some ⟨g,0,none⟩) P.length c ∧ wy.cell? ⟨g,j,none⟩ = some (.string (G P[j])):=by
 have ho:=h.row
 rw [List.take_length] at ho
 rcases own_form ho with ⟨_,h0⟩ | ⟨g,c,rfl⟩
 ·omega
 ·refine ⟨g,c,rfl,?_⟩
  rw [ho.cellAt j (by omega),List.getElem?_map,List.getElem?_eq_getElem hj]
  rfl
theorem parts_false {P:List Nat} {K:Nat → Bool} {i p:Nat} (hp:P[i]? = some p) (h:K p = false):P.all K = false:=by
 rw [← Bool.not_eq_true,List.all_eq_true]
 intro hall
 have:=hall p (List.mem_of_getElem? hp)
 rw [h] at this
 cases this
theorem parts_true {P:List Nat} {K:Nat → Bool} (h:∀ j p,j < P.length → P[j]? = some p → K p = true):P.all K = true:=by
 rw [List.all_eq_true]
 intro p hp
 obtain ⟨j,hj,rfl⟩:=List.mem_iff_getElem.1 hp
 exact h j _ hj (List.getElem?_eq_getElem hj)
theorem len_two {α:Type}:∀ {l:List α},l.length = 2 → ∃ x y,l = [x,y]
 | [x,y],_=>⟨x,y,rfl⟩
theorem len_three {α:Type}:∀ {l:List α},l.length = 3 → ∃ x y z,l = [x,y,z]
 | [x,y,z],_=>⟨x,y,z,rfl⟩
set_option maxRecDepth 100000 in
set_option maxHeartbeats 8000000 in
theorem such_step {a:Option Addr} {cap:Nat} {t:List Nd} {l:Option Addr} {lc:Nat} {L:List Sr} {mv:List Value} {fr:List Nat} {k:Nat} {x:Nd} {P:List Nat} {G:Nat → ByteArray} {K:Nat → Bool} (w:World) (hA:RAt w a t l L mv) (hl:t.length ≤ 4096) (hb:beginsN t = some fr) (hx:t[k]? = some x) (hP:partsAt t fr k = P) (hlc:L.length ≤ lc) (hcm:lc ≤ maxLen)
 (hG:∀ p ∈ P,K p = true → IntT (G p)) (h1:x.kind = 4 → P.length = 1) (h2:x.kind = 7 → P.length = 2) (h3:x.kind = 9 → P.length = 3)
 (hun:x.kind = 4 → Lib.containsS unMarks x.text = shN L x)
 (ih:∀ p ∈ P,∀ w',RAt w' a t l L mv → Calls Tryz.prog 24 #[.slice a t.length cap,.slice l L.length lc,.int .i64 (p:Int)] w' (SuchEnd (K p) (G p) w'))
 (ok:Bool) (hok:(P.all K && shN L x) = ok) (sk:ByteArray) (hsk:kindN x (P.map G) = sk) :
 Calls Tryz.prog 24 #[.slice a t.length cap,.slice l L.length lc,.int .i64 (k:Int)] w (SuchEnd ok sk w):=by
 obtain ⟨hkl,hgx⟩:=List.getElem?_eq_some_iff.1 hx
 have HPt:=Hd (fun w' (h:RAt w' a t l L mv)=>hP ▸ rparts_ok a cap t fr w' h.nodes hl hb k hkl)
 have HA:=Hd hA
 have HIh:=Hd ih
 have hPl:P.length ≤ 4096:=by
  rw [← hP,partsAt_is hx,partsE_length]
  have:=((formed_of hb).node k _ hx).2.1.le;omega
 obtain ⟨ba,off,ha,hbl,x0,x1,x2,x3,x4,x5⟩:=nds_at hA.nodes hkl
 rw [hgx] at x0 x1 x2 x3 x4 x5
 subst ha
 obtain ⟨i0,hi,hz0,hz1,hz2⟩:=info_parts infoT
 have HI:=Hd (And.intro hi (And.intro hz0 (And.intro hz1 hz2)))
 clear hi hz0 hz1 hz2
 have HG:=Hd hG
 have H1:=Hd (And.intro h1 (And.intro h2 h3))
 have HUn:=Hd hun
 have HOk:=Hd hok
 have HSk:=Hd hsk
 have HSz:=Hd (fun w' (h:RAt w' (some ⟨ba,off,none⟩) t l L mv) s=>refSizeAll_ok s l lc L mv w' h.srs hlc hcm)
 unfold PartEnd at HPt
 clear hA hb hx hP hG h1 h2 h3 hun ih hgx hok hsk
 obtain ⟨kk,n,pp,ii,sx,ty⟩:=x
 simp only at x0 x1 x2 x3 x4 x5 H1
 go_enter Tryz.func24,Tryz.ntmps24
 go_upto_region 2 with fail
 have hq:=nodeAt_new w ⟨kk,n,pp,ii,sx,ty⟩
 have hbn:=ba1 w (ndObj ⟨kk,n,pp,ii,sx,ty⟩)
 simp only [ndObj] at hq hbn
 generalize w.alloc (.cells #[.int .i64 kk,.int .i64 n,.int .i64 pp,.int .i64 ii,.string sx,.string ty] 42) = w2 at *
 clear x0 x1 x2 x3 x4 x5
 have HQ:=Hd hq
 have HB2:=Hd hbn
 have HA2:=Hd (HA.out.below hbn)
 clear hq hbn
 have HP2:=Hd (HPt.out w2 HA2.out)
 go_wp2_with (go_at_call 51;(with_reducible refine HP2.out.mono ?_);rintro e w3 ⟨⟨v,rfl,hrow⟩,hb3⟩;obtain ⟨pa,pc,rfl,hpn,_⟩:=hrow.is;have HN3:=Hd hpn;have HB3:=Hd hb3;clear hrow hpn hb3)
 have HA3:=Hd (HA2.out.below HB3.out)
 have HQ3:=Hd (HQ.out.below HB3.out)
 have HSu:=Hd (suInv_start w3 P G)
 generalize w3.alloc (.cells #[] 27) = w4 at *
 go_loopg [10,11] P.length (fun m v10 v11 wy=>∃ (i:Nat),i ≤ P.length ∧ i + m = P.length ∧ v11 = .int .i64 (i:Int) ∧ Hid (SuInv w3 wy P G v10 i) ∧ Hid (∀ j p,j < i → P[j]? = some p → K p = true))
 case atStart=>exact ⟨0,by omega,by omega,rfl,HSu,Hd (fun j p h=>by omega)⟩
 case round=>
  obtain ⟨i,hi,him,rfl,HS,HK⟩:=hrel
  have HAr:=Hd (HA3.out.below HS.out.below)
  by_cases hlt:i < P.length
  ·obtain ⟨pb,po,hpa,hpb,c0⟩:=nats_at HN3.out hlt
   subst hpa
   rw [← HS.out.below.cell hpb] at c0
   have HPi:=Hd (List.getElem?_eq_getElem hlt)
   have HIp:=Hd (HIh.out _ (List.getElem_mem hlt) wr HAr.out)
   have HGp:=Hd (HG.out _ (List.getElem_mem hlt))
   generalize P[i]'hlt = p at *
   unfold SuchEnd at HIp
   rcases hkp:K p with _ | _
   ·rw [hkp] at HIp
    have HAf:=Hd (parts_false HPi.out hkp)
    clear hkp
    go_wp2_with (go_at_call 24;(with_reducible refine HIp.out.mono ?_);rintro e w5 ⟨⟨u,rfl,_⟩,hb5⟩;have HB5:=Hd hb5;clear hb5)
    go_ret2
    exact suchEnd (by rw [← HOk.out,HAf.out];rfl) (fun h=>by rw [← HOk.out,HAf.out] at h;cases h) (HB2.out.trans ((HB3.out.trans ((HS.out.below.trans (HB5.out.mono HS.out.below.size)).mono HB3.out.size)).mono HB2.out.size))
   ·rw [hkp] at HIp
    have HK2:=Hd (show ∀ j p,j < i + 1 → P[j]? = some p → K p = true from fun j p' hj hp'=>by
     rcases Nat.lt_or_ge j i with h | h
     ·exact HK.out j p' h hp'
     ·obtain rfl:j = i:=by omega
      rw [HPi.out] at hp'
      obtain rfl:=Option.some.inj hp'
      exact hkp)
    clear hkp HK
    go_wp2_with (first | (go_at_call 24;(with_reducible refine HIp.out.mono ?_);rintro e w5 ⟨⟨u,rfl,hu⟩,hb5⟩;obtain rfl:=hu rfl;have HB5:=Hd hb5;have HO5:=Hd (HS.out.row.belowed hb5);clear hb5 hu) | (at_builtin;refine wpList_append_own _ rfl _ _ 85 rfl w3.heap.size 27 i0 (.string ⟨#[]⟩) 1 16 Tryz.underlying85 HI.out.1 HI.out.2.1 HI.out.2.2.1 HI.out.2.2.2 rfl (by decide) _ _ _ rfl (HO5.out.alloc _) ⟨w5.heap.size,0,none⟩ 1 1 [.string (G p)] rfl rfl (fun j u h=>cell_one _ _ _ j u h) (c2_str _) (by unfold maxLen;omega) (by omega) (by have:=HS.out.below.size;have:=HB5.out.size;simp;omega) ?_))
    intro v' w6 hown hgrow _
    have HN:=Hd (HS.out.next HPi.out HB5.out (by rw [List.map_take];exact hown) hgrow)
    clear hown hgrow
    go_wp2_with fail
    go_roundg (P.length - (i + 1))
    case measure=>omega
    case rel=>exact ⟨i + 1,by omega,by omega,by rw [Int.natCast_add];rfl,HN,HK2⟩
  ·obtain rfl:i = P.length:=by omega
   have HAll:=Hd (parts_true HK.out)
   have HBr:=Hd (HB2.out.trans ((HB3.out.trans (HS.out.below.mono HB3.out.size)).mono HB2.out.size))
   have HQr:=Hd (HQ3.out.below HS.out.below)
   obtain ⟨⟨x0,x1,x2,x3,x4,x5⟩,_⟩:=six_block HQr.out
   clear HK hlt hi him
   have HOk2:=Hd (show shN L ⟨kk,n,pp,ii,sx,ty⟩ = ok from by rw [← HOk.out,HAll.out,Bool.true_and])
   have HGa:=Hd (fun p (hp:p ∈ P)=>HG.out p hp (List.all_eq_true.1 HAll.out p hp))
   by_cases k1:kk = 1
   ·subst k1
    have HF:=Hd (show ok = true from HOk2.out.symm)
    go_wp2_with fail
    go_ret2
    exact suchEnd HF.out (fun _=>HSk.out) HBr.out
   by_cases k4:kk = 4
   ·subst k4
    have hun:=HUn.out rfl
    obtain ⟨p0,rfl⟩:∃ p0,P = [p0]:=List.length_eq_one_iff.1 (H1.out.1 rfl)
    have hG0:=HGa.out p0 (by simp)
    have HF:=Hd (show ok = Lib.containsS unMarks sx from by rw [← HOk2.out];exact hun.symm)
    by_cases hm:sx = mNot
    ·have t1:(sx.toList == [33]) = true:=by rw [hm];exact lit_eq rfl rfl
     have HFin:=Hd (show ok = true from by rw [HF.out,hm];decide)
     have HF2:=Hd (show iText12 = sk from by rw [← HSk.out];unfold kindN;simp only;rw [if_neg (by decide),if_neg (by decide),if_pos trivial,if_pos hm])
     clear hm hun
     go_wp2_with fail
     go_ret2
     exact suchEnd HFin.out (fun _=>HF2.out) HBr.out
    ·have t1:(sx.toList == [33]) = false:=lit_ne (fun e=>hm (bytes_of e))
     have HF2:=Hd (show promI (G p0) = sk from by rw [← HSk.out];unfold kindN;simp only;rw [if_neg (by decide),if_neg (by decide),if_pos trivial,if_neg hm];rfl)
     obtain ⟨g,c,rfl,c0⟩:=HS.out.at_ (j:=0) (by simp)
     simp only [List.getElem_cons_zero] at c0
     have HPr:=Hd (fun w=>(promoteV_int hG0) ▸ refPromote_ok (G p0) w)
     have HIn:=Hd (fun w=>rin_un sx w)
     clear hm hun
     generalize promI (G p0) = pr at *
     generalize Lib.containsS unMarks sx = cn at *
     go_upto_region 18 with (go_at_call 36;(with_reducible refine (HPr.out _).mono ?_);rintro e w5 ⟨rfl,hb5⟩;have HB5:=Ht HBr hb5;have HQ5:=Hd (fun w' (h:Below w5.heap.size w5 w')=>(six_block ((HQr.out.below hb5).below h)).1);clear hb5)
     obtain ⟨x0,x1,x2,x3,x4,x5⟩:=HQ5.out w5 (Below.refl _ _)
     go_region_law (first
      | (go_simp;go_at_call 40;(with_reducible refine (runaries_ok _).mono ?_);rintro e w6 ⟨rfl,hw6⟩;have hbw:=ba1 w5.drew (.cells #[.string ⟨#[45]⟩,.string ⟨#[126]⟩,.string ⟨#[33]⟩] 9);have hin:=HIn.out w5.drew;rw [← hw6] at hbw hin;have HB6:=Hd ((Below.refl w5.heap.size w5).drew.trans (hbw.mono (Nat.le_refl _)));have HI6:=Hd (show Calls Tryz.prog 31 #[.slice (some ⟨w5.heap.size,0,none⟩) 3 3,.string sx] w6 _ from hin);obtain ⟨x0,x1,x2,x3,x4,x5⟩:=HQ5.out w6 HB6.out;clear hw6 hbw hin)
      | (go_simp;go_at_call 31;(with_reducible refine HI6.out.mono ?_);rintro e wc ⟨rfl,hwc⟩;subst wc))
     all_goals
      go_wp2_with fail
      go_ret2
      exact suchEnd HF.out (fun _=>HF2.out) (HB5.out.trans (HB6.out.mono HB5.out.size))
   by_cases k7:kk = 7
   ·subst k7
    obtain ⟨p0,p1,rfl⟩:∃ p0 p1,P = [p0,p1]:=len_two (H1.out.2.1 rfl)
    have hG0:=HGa.out p0 (by simp)
    have hG1:=HGa.out p1 (by simp)
    have HF:=Hd (show ok = true from HOk2.out.symm)
    have HF2:=Hd (show madeK sx (G p0) (G p1) = sk from HSk.out)
    obtain ⟨g,c,rfl,c0⟩:=HS.out.at_ (j:=0) (by simp)
    obtain ⟨_,_,e1,c1⟩:=HS.out.at_ (j:=1) (by simp)
    cases e1
    simp only [List.getElem_cons_zero,List.getElem_cons_succ] at c0 c1
    have HMd:=Hd (fun w=>rmade_ok sx (G p0) (G p1) hG0 hG1 w)
    generalize madeK sx (G p0) (G p1) = md at *
    go_upto_region 20 with fail
    go_region_law (go_simp;go_at_call 38;(with_reducible refine (HMd.out _).mono ?_);rintro e w5 ⟨rfl,hb5⟩;have HB5:=Hd (HBr.out.trans (((Below.refl wr.heap.size wr).drew.trans (hb5.mono (Nat.le_refl _))).mono HBr.out.size));clear hb5)
    all_goals
     go_wp2_with fail
     go_ret2
     exact suchEnd HF.out (fun _=>HF2.out) HB5.out
   by_cases k9:kk = 9
   ·subst k9
    obtain ⟨p0,p1,p2,rfl⟩:∃ p0 p1 p2,P = [p0,p1,p2]:=len_three (H1.out.2.2 rfl)
    have hG1:=HGa.out p1 (by simp)
    have hG2:=HGa.out p2 (by simp)
    have HF:=Hd (show ok = true from HOk2.out.symm)
    have HF2:=Hd (show commI (G p1) (G p2) = sk from HSk.out)
    obtain ⟨g,c,rfl,c1⟩:=HS.out.at_ (j:=1) (by simp)
    obtain ⟨_,_,e1,c2⟩:=HS.out.at_ (j:=2) (by simp)
    cases e1
    simp only [List.getElem_cons_zero,List.getElem_cons_succ] at c1 c2
    have HMd:=Hd (fun w=>(commonV_int hG1 hG2) ▸ refCommon_ok (G p1) (G p2) w)
    generalize commI (G p1) (G p2) = md at *
    go_upto_region 22 with fail
    go_region_law (go_simp;go_at_call 35;(with_reducible refine (HMd.out _).mono ?_);rintro e w5 ⟨rfl,hb5⟩;have HB5:=Hd (HBr.out.trans (((Below.refl wr.heap.size wr).drew.trans (hb5.mono (Nat.le_refl _))).mono HBr.out.size));clear hb5)
    all_goals
     go_wp2_with fail
     go_ret2
     exact suchEnd HF.out (fun _=>HF2.out) HB5.out
   by_cases k15:kk = 15
   ·subst k15
    have HF:=Hd (show ok = isIntS ty from HOk2.out.symm)
    have HF2:=Hd (show ty = sk from HSk.out)
    have HII:=Hd (fun w=>refIsInt_ok ty w)
    generalize isIntS ty = bi at *
    go_upto_region 25 with fail
    go_region_law (go_simp;go_at_call 33;(with_reducible refine (HII.out _).mono ?_);rintro e w5 ⟨rfl,hw5⟩;subst w5)
    all_goals
     go_wp2_with fail
     go_ret2
     exact suchEnd HF.out (fun _=>HF2.out) (HBr.out.trans ((Below.refl wr.heap.size wr).drew.mono HBr.out.size))
   by_cases k17:kk = 17
   ·subst k17
    have HF2:=Hd (show uText12 = sk from HSk.out)
    have HSz1:=Hd (HSz.out wr HAr.out ty)
    have HF:=Hd (show ok = decide ((sizeR L ty).2.2 = 0) from HOk2.out.symm)
    generalize sizeR L ty = z at HSz1 HF
    obtain ⟨z1,z2,z3⟩:=z
    simp only at HSz1 HF
    go_wp2_with (go_at_call 52;(with_reducible refine HSz1.out.mono ?_);rintro e w6 ⟨rfl,hb6⟩;have HB6:=Ht HBr hb6;clear hb6)
    go_ret2
    exact suchEnd (by rw [HF.out,← beq_dec]) (fun _=>HF2.out) HB6.out
   have t1:(kk == 1) = false:=by simpa using k1
   have t4:(kk == 4) = false:=by simpa using k4
   have t7:(kk == 7) = false:=by simpa using k7
   have t9:(kk == 9) = false:=by simpa using k9
   have t15:(kk == 15) = false:=by simpa using k15
   have t17:(kk == 17) = false:=by simpa using k17
   have HF:=Hd (show ok = false from by rw [← HOk2.out];unfold shN;simp only;rw [if_neg (by omega),if_neg k4,if_neg k15,if_neg k17])
   clear k1 k4 k7 k9 k15 k17
   go_wp2_with fail
   go_ret2
   exact suchEnd HF.out (fun h=>by rw [HF.out] at h;cases h) HBr.out
end Go.Proofs.YtlcfejgjeljjdaaGreatDoor
